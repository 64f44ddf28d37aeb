/- Slices that the program made itself: their rows kept, cut, appended to, stored into; condition: small sizes. -/
import Derived.Test.YtgdhieffjflejaaAt
import Derived.Deep.AppendSrc
import Derived.Laws.AppendOwn
import Derived.OwnWalk
set_option linter.unusedSimpArgs false
set_option linter.unusedVariables false
namespace Go.Proofs.Ytgdhieffjflejaa
open Go.RowKit Go.Joins

/-- The block of a slice that has room. -/
def rowBlk (a : Option Addr) (cap : Nat) : Option Nat := if cap = 0 then none else a.map (·.block)
/-- A slice of the program's own, in a block from B on; one without room may lie anywhere. -/
structure Row {α : Type} (w : World) (B : Nat) (e : TypeId) (a : Option Addr) (cap k : Nat) (R : α → List Value) (zs : List α) : Prop where
  len : zs.length ≤ cap
  max : cap ≤ maxLen
  own : 0 < cap → ∃ g cur, a = some ⟨g, 0, none⟩ ∧ B ≤ g ∧ w.heap[g]? = some (.cells cur e (0, 0)) ∧ cap * k ≤ cur.size ∧ ∀ j, j < zs.length * k → cur[j]? = (flat R zs)[j]?

section
variable {α : Type} {w w' : World} {B : Nat} {e : TypeId} {a : Option Addr} {cap k : Nat} {R : α → List Value} {zs : List α}

theorem Row.nil (w : World) (B : Nat) (e : TypeId) (a : Option Addr) (k : Nat) (R : α → List Value) : Row w B e a 0 k R [] :=
  ⟨Nat.le_refl _, Nat.zero_le _, fun h => absurd h (Nat.lt_irrefl 0)⟩
theorem Row.low {B' : Nat} (h : Row w B e a cap k R zs) (hB : B' ≤ B) : Row w B' e a cap k R zs :=
  ⟨h.len, h.max, fun hp => by obtain ⟨g, cur, h1, h2, h3⟩ := h.own hp; exact ⟨g, cur, h1, Nat.le_trans hB h2, h3⟩⟩
theorem Row.clip (h : Row w B e a cap k R zs) : Row w B e a zs.length k R zs :=
  ⟨Nat.le_refl _, Nat.le_trans h.len h.max, fun hp => by
    obtain ⟨g, cur, h1, h2, h3, h4, h5⟩ := h.own (Nat.lt_of_lt_of_le hp h.len)
    exact ⟨g, cur, h1, h2, h3, Nat.le_trans (Nat.mul_le_mul_right k h.len) h4, h5⟩⟩
theorem Row.blk (h : Row w B e a cap k R zs) {g : Nat} (hg : rowBlk a cap = some g) : B ≤ g ∧ g < w.heap.size := by
  unfold rowBlk at hg
  split at hg
  · cases hg
  · obtain ⟨g', cur, rfl, h2, h3, _⟩ := h.own (by omega)
    simp at hg
    subst hg
    exact ⟨h2, lt_of_block h3⟩
theorem Row.kept {row : Option Nat} (h : Row w B e a cap k R zs) (hg : w.grownBy w' row) (hne : ∀ g, rowBlk a cap = some g → row ≠ some g) : Row w' B e a cap k R zs :=
  ⟨h.len, h.max, fun hp => by
    obtain ⟨g, cur, rfl, h2, h3, h4⟩ := h.own hp
    refine ⟨g, cur, rfl, h2, ?_, h4⟩
    rw [hg.block g (lt_of_block h3) (fun e => hne g (by simp [rowBlk]; omega) e.symm)]
    exact h3⟩
theorem Row.below (h : Row w B e a cap k R zs) (hb : Below w.heap.size w w') : Row w' B e a cap k R zs :=
  ⟨h.len, h.max, fun hp => by
    obtain ⟨g, cur, rfl, h2, h3, h4⟩ := h.own hp
    exact ⟨g, cur, rfl, h2, (hb.block g (lt_of_block h3)).trans h3, h4⟩⟩
theorem Row.rows (h : Row w B e a cap k R zs) (hR : ∀ z, (R z).length = k) : RowsAt w a k R zs := by
  intro i hi
  obtain ⟨g, cur, rfl, h2, h3, h4, h5⟩ := h.own (Nat.lt_of_lt_of_le (Nat.lt_of_le_of_lt (Nat.zero_le _) hi) h.len)
  refine ⟨g, 0, rfl, lt_of_block h3, fun j hj => ?_⟩
  have hlt : i * k + j < zs.length * k := by
    have h1 : (i + 1) * k ≤ zs.length * k := Nat.mul_le_mul_right k hi
    rw [Nat.succ_mul] at h1
    omega
  rw [cell_of_block h3, Nat.zero_add, h5 _ hlt]
  exact flat_get hR zs i hi j hj
theorem Row.sl (h : Row w B e a cap k R zs) (hR : ∀ z, (R z).length = k) : IsSl w (.slice a zs.length cap) k R zs :=
  ⟨a, cap, rfl, h.len, h.max, h.rows hR⟩

theorem flat_append (R : α → List Value) (xs ys : List α) : flat R (xs ++ ys) = flat R xs ++ flat R ys := by
  simp [flat, List.flatMap_append]
theorem flat_mem_one {R : α → List Value} (h1 : ∀ z, ∀ u ∈ R z, u.oneCell' = true) (zs : List α) : ∀ u ∈ zs.flatMap R, u.oneCell' = true := by
  intro u hu
  obtain ⟨z, _, hz⟩ := List.mem_flatMap.1 hu
  exact h1 z u hz
theorem flatMap_length {R : α → List Value} (hR : ∀ z, (R z).length = k) (zs : List α) : (zs.flatMap R).length = zs.length * k := by
  have := flat_size hR zs
  simpa [flat] using this

theorem RowsAt.news {ys : List α} {ad : Addr} (hR : ∀ z, (R z).length = k) (h0 : 0 < k) (h : RowsAt w (some ad) k R ys) : ∀ j u, (ys.flatMap R)[j]? = some u → w.cell? (ad.add j) = some u := by
  intro j u hu
  have hj : j < ys.length * k := by
    rw [← flatMap_length hR ys]
    exact (List.getElem?_eq_some_iff.1 hu).1
  have hi : j / k < ys.length := by
    rw [Nat.div_lt_iff_lt_mul h0]; exact hj
  obtain ⟨b, off, q, _, hc⟩ := h (j / k) hi
  injection q with q
  subst q
  have hm := Nat.mod_lt j h0
  have h2 := hc (j % k) hm
  have h3 := flat_get hR ys (j / k) hi (j % k) hm
  have hdm : j / k * k + j % k = j := by rw [Nat.mul_comm]; exact Nat.div_add_mod j k
  rw [hdm] at h3
  rw [Nat.add_assoc, hdm] at h2
  rw [Go.WideShapes.add_plain, h2, ← h3]
  simpa [flat] using hu
theorem RowsAt.none_nil {ys : List α} (h : RowsAt w none k R ys) : ys = [] := by
  cases ys with
  | nil => rfl
  | cons y ys =>
    obtain ⟨_, _, q, _⟩ := h 0 (by simp)
    cases q
theorem RowsAt.src {P : Program} {tx e' : TypeId} {ys : List α} {ay : Option Addr} {cy : Nat} (hk : P.underlying tx = some (.slice e')) (hR : ∀ z, (R z).length = k) (h0 : 0 < k) (h1 : ∀ z, ∀ u ∈ R z, u.oneCell' = true) (h : RowsAt w ay k R ys) :
    Src P k tx (.slice ay ys.length cy) ys.length (ys.flatMap R) w := by
  cases ay with
  | none =>
    have h0 := h.none_nil
    subst h0
    exact Src.ofNil w hk cy
  | some ad => exact Src.ofSlice w hk ad ys.length cy _ (flatMap_length hR ys) (h.news hR h0) (flat_mem_one h1 ys)
theorem RowsAt.firsts {P : Program} {ys : List α} {ay : Option Addr} {cy : Nat} (hR : ∀ z, (R z).length = k) (h0 : 0 < k) (h : RowsAt w ay k R ys) : (Builtin.firstCells k ys.length (.slice ay ys.length cy)).run P w = .ok (ys.flatMap R).toArray w := by
  cases ay with
  | none =>
    have h0 := h.none_nil
    subst h0
    exact run_firstCells_none w k 0 0 cy
  | some ad => exact run_firstCells_some w k ys.length ad ys.length cy _ (flatMap_length hR ys) (h.news hR h0)

/-- append to such a slice. -/
theorem run_append_row {P : Program} {t tx ty e' : TypeId} {i : TypeInfo} {z : Value} {bytes : Nat} (ht : P.underlying t = some (.slice e)) (htx : P.underlying tx = some (.slice e')) (hi : P.info? e = some i) (hz : i.zero = some z)
    (hsize : i.size = k) (hby : i.bytes = bytes) (hzs : z.cells.size = k) (h0 : 0 < k) (hR : ∀ z, (R z).length = k) (h1 : ∀ z, ∀ u ∈ R z, u.oneCell' = true)
    (hrow : Row w B e a cap k R zs) {ys : List α} {ay : Option Addr} {cy : Nat} (hys : RowsAt w ay k R ys) (h63 : zs.length + ys.length ≤ maxLen) (hbytes : (zs.length + ys.length) * bytes ≤ 140737488355328) (hB : B ≤ w.heap.size) :
    ∃ a' cap' w', (Builtin.append_ #[t, tx] ty #[.slice a zs.length cap, .slice ay ys.length cy]).run P w = .ok (.slice a' (zs.length + ys.length) cap') w' ∧ Row w' B e a' cap' k R (zs ++ ys) ∧ w.grownBy w' (rowBlk a cap) ∧
      (rowBlk a' cap' = rowBlk a cap ∨ rowBlk a' cap' = some w.heap.size) ∧ (zs.length + ys.length ≤ cap → a' = a ∧ cap' = cap) := by
  subst hsize hby
  have hs := RowsAt.src (P := P) (w := w) (cy := cy) htx hR h0 h1 hys
  have hlz := flatMap_length hR zs
  have hly := flatMap_length hR ys
  have hsmall : zs.length + ys.length ≤ 9223372036854775807 := by simp only [maxLen] at h63; omega
  by_cases hroom : zs.length + ys.length ≤ cap
  · by_cases hc0 : cap = 0
    · subst hc0
      have e1 : zs = [] := List.eq_nil_of_length_eq_zero (by omega)
      have e2 : ys = [] := List.eq_nil_of_length_eq_zero (by omega)
      subst e1 e2
      refine ⟨a, 0, w, ?_, Row.nil w B e a i.size R, World.grownBy.refl w _, .inl rfl, fun _ => ⟨rfl, rfl⟩⟩
      have hl := hs.len
      have hcl := hs.cells
      simp only [List.flatMap_nil, List.length_nil] at hl hcl ⊢
      cases a with
      | none => simp [Builtin.append_, run_underlying ht, run_underlying htx, sizeOf, typeInfo, hi, hl, hcl]
      | some ad => simp [Builtin.append_, run_underlying ht, run_underlying htx, sizeOf, typeInfo, hi, hl, hcl, storeCells]
    · obtain ⟨g, cur, rfl, hBg, hg, hcs, hcur⟩ := hrow.own (by omega)
      have hb : rowBlk (some ⟨g, 0, none⟩) cap = some g := by simp [rowBlk, hc0]
      cases ay with
      | none =>
        have e2 := hys.none_nil
        subst e2
        refine ⟨some ⟨g, 0, none⟩, cap, w, ?_, by rw [List.append_nil]; exact hrow, World.grownBy.refl w _, .inl rfl, fun _ => ⟨rfl, rfl⟩⟩
        have hl := hs.len
        have hcl := hs.cells
        simp only [List.flatMap_nil, List.length_nil, Nat.add_zero] at hl hcl hroom ⊢
        simp [Builtin.append_, run_underlying ht, run_underlying htx, sizeOf, typeInfo, hi, hl, hcl, hroom, storeCells]
      | some ad =>
        have hfit : zs.length * i.size + (ys.flatMap R).length ≤ cur.size := by rw [hly, ← Nat.add_mul]; exact Nat.le_trans (Nat.mul_le_mul_right _ hroom) hcs
        have hst := run_storeCells_at P g (zs.length * i.size) e (ys.flatMap R) 0 cur w hg (by simpa using hfit) (flat_mem_one h1 ys)
        simp only [Nat.add_zero] at hst
        have hl := hs.len
        have hcl := hs.cells
        refine ⟨some ⟨g, 0, none⟩, cap, w.setRow g (cur.toList.take (zs.length * i.size) ++ ys.flatMap R ++ cur.toList.drop (zs.length * i.size + (ys.flatMap R).length)).toArray, ?_, ⟨by rw [List.length_append]; exact hroom, hrow.max, fun _ => ⟨g, _, rfl, hBg, setRow_heap w g cur _ e _ hg, ?_, ?_⟩⟩, ⟨rfl, rfl, rfl, by simp [World.setRow], fun b _ hne => setRow_other w g b _ (fun e => hne (by rw [hb, e]))⟩, .inl rfl, fun _ => ⟨rfl, rfl⟩⟩
        · simp [Builtin.append_, run_underlying ht, run_underlying htx, sizeOf, typeInfo, hi, hl, hcl, hroom, Addr.add_lit, hst]
        · simp only [List.size_toArray, List.length_append, List.length_take, List.length_drop, Array.length_toList]
          rw [Nat.min_eq_left (by omega)]
          omega
        · intro j hj
          have htk : (cur.toList.take (zs.length * i.size)).length = zs.length * i.size := by
            simp only [List.length_take, Array.length_toList]; omega
          rw [List.length_append, Nat.add_mul] at hj
          rw [List.getElem?_toArray, flat_append, List.append_assoc]
          by_cases hjz : j < zs.length * i.size
          · rw [List.getElem?_append_left (by rw [htk]; exact hjz), List.getElem?_take_of_lt hjz, Array.getElem?_append_left (by rw [flat_size hR]; exact hjz), ← hcur j hjz, Array.getElem?_toList]
          · rw [List.getElem?_append_right (by rw [htk]; omega), htk, List.getElem?_append_left (by omega), Array.getElem?_append_right (by rw [flat_size hR]; omega), flat_size hR]
            simp [flat]
  · have hr := run_append_grow_src (P := P) w t tx ty e i z ht hi hz a zs.length cap (zs.flatMap R) (by
      have hw : RowsAt w.drew a i.size R zs := hrow.rows hR
      exact hw.firsts (P := P) (cy := cap) hR h0) (.slice ay ys.length cy) ys.length (ys.flatMap R) hs (by omega) (by omega) (growslice_fits (by omega) hbytes)
    have hge := grownCap_ge w (zs.length + ys.length) cap e
    refine ⟨_, _, _, hr, ⟨by rw [List.length_append]; exact hge, grownCap_le_maxLen w _ _ e h63, fun _ => ⟨w.heap.size, _, rfl, hB, heap_alloc_new w.drew _, ?_, ?_⟩⟩, ⟨rfl, rfl, rfl, by simp, fun b hb _ => Below.heap_alloc w.drew _ b hb⟩, .inr ?_, fun h => absurd h hroom⟩
    · simp only [Array.size_append, List.size_toArray, List.length_append, size_zeroCells, hzs, hlz, hly, ← Nat.add_mul]
      exact Nat.mul_le_mul_right _ (by omega)
    · intro j hj
      rw [← flatMap_length hR] at hj
      rw [Array.getElem?_append_left (by rw [List.size_toArray, ← List.flatMap_append]; exact hj), ← List.flatMap_append]
      simp [flat]
    · have : ¬ grownCap w (zs.length + ys.length) cap e = 0 := by omega
      simp [rowBlk, this]

/-- What a slice type's elements are: their type, cells, bytes, rows. -/
structure Elt (P : Program) (t e : TypeId) (k bytes : Nat) (R : α → List Value) : Prop where
  under : P.underlying t = some (.slice e)
  info : ∃ i z, P.info? e = some i ∧ i.zero = some z ∧ i.size = k ∧ i.bytes = bytes ∧ z.cells.size = k
  pos : 0 < k
  len : ∀ z, (R z).length = k
  one : ∀ z, ∀ u ∈ R z, u.oneCell' = true

/-- What append leaves: a row, and where it lies. -/
structure Appended (w w' : World) (B : Nat) (e : TypeId) (a a' : Option Addr) (cap cap' k : Nat) (R : α → List Value) (zs : List α) : Prop where
  row : Row w' B e a' cap' k R zs
  grown : w.grownBy w' (rowBlk a cap)
  blk : rowBlk a' cap' = rowBlk a cap ∨ rowBlk a' cap' = some w.heap.size
  stay : zs.length ≤ cap → a' = a ∧ cap' = cap

theorem run_append_elt {P : Program} {t ty : TypeId} {bytes n m N : Nat} (el : Elt P t e k bytes R) (hrow : Row w B e a cap k R zs) {ys : List α} {ay : Option Addr} {cy : Nat} (hys : RowsAt w ay k R ys) (hn : zs.length = n) (hm : ys.length = m) (hN : n + m = N)
    (h63 : N ≤ maxLen) (hbytes : N * bytes ≤ 140737488355328) (hB : B ≤ w.heap.size) :
    ∃ a' cap' w', (Builtin.append_ #[t, t] ty #[.slice a n cap, .slice ay m cy]).run P w = .ok (.slice a' N cap') w' ∧ Appended w w' B e a a' cap cap' k R (zs ++ ys) := by
  subst hn hm hN
  obtain ⟨i, z, h1, h2, h3, h4, h5⟩ := el.info
  obtain ⟨a', cap', w', q1, q2, q3, q4, q5⟩ := run_append_row (ty := ty) (cy := cy) el.under el.under h1 h2 h3 h4 h5 el.pos el.len el.one hrow hys h63 hbytes hB
  exact ⟨a', cap', w', q1, q2, q3, q4, fun h => q5 (by rw [List.length_append] at h; exact h)⟩

/-- The law at a list of operations. -/
theorem wpList_append_row {P : Program} {ops : Array Oper} {rest : List Oper} {o : Oper} {ac : Act} {Q : Exit → Act → World → Prop} (hgd : o.guard = none) (s x : Operand) {t : TypeId}
    (ho : o.op = .call { callee := .builtin .append, args := #[s, x], argTypes := #[t, t] }) {bytes n m : Nat} (N : Nat) (el : Elt P t e k bytes R) {ys : List α} {ay : Option Addr} {cy : Nat} (hs : ac.eval s = .slice a n cap) (hx : ac.eval x = .slice ay m cy)
    (hrow : Row w B e a cap k R zs) (hys : RowsAt w ay k R ys) (hn : zs.length = n) (hm : ys.length = m) (hN : n + m = N) (h63 : N ≤ maxLen) (hbytes : N * bytes ≤ 140737488355328) (hB : B ≤ w.heap.size)
    (h : ∀ a' cap' w', Appended w w' B e a a' cap cap' k R (zs ++ ys) → wpList P ops Q rest (ac.put o.dst (.slice a' N cap')) w') : wpList P ops Q (o :: rest) ac w := by
  refine wpList_plain hgd fun K hK => ?_
  obtain ⟨a', cap', w', hrun, q⟩ := run_append_elt (ty := o.type) (cy := cy) el hrow hys hn hm hN h63 hbytes hB
  unfold Oper.wp
  simp [execOp, ho, resolve, invoke, builtin, hs, hx, hrun, Result.andThen]
  exact hK _ _ (h a' cap' w' q)

/-- The law at a step of a region that draws its order. -/
theorem step_append_elt {P : Program} {ops : Array Oper} {o : Oper} {ac : Act} {K : Act → World → Prop} {Q : Exit → Act → World → Prop} {E : Prop} (hgd : o.guard = none) (s x : Operand) {t : TypeId}
    (ho : o.op = .call { callee := .builtin .append, args := #[s, x], argTypes := #[t, t] }) {bytes n m : Nat} (N : Nat) (el : Elt P t e k bytes R) {ys : List α} {ay : Option Addr} {cy : Nat} (hs : ac.eval s = .slice a n cap) (hx : ac.eval x = .slice ay m cy)
    (hrow : Row w B e a cap k R zs) (hys : RowsAt w ay k R ys) (hn : zs.length = n) (hm : ys.length = m) (hN : n + m = N) (h63 : N ≤ maxLen) (hbytes : N * bytes ≤ 140737488355328) (hB : B ≤ w.heap.size)
    (h : ∀ a' cap' w', Appended w w' B e a a' cap cap' k R (zs ++ ys) → K (ac.put o.dst (.slice a' N cap')) w') :
    if Region.wanted o (yielded ops ac.tmps) = true then Oper.wp P o ac w K Q else E := by
  have hw : Region.wanted o (yielded ops ac.tmps) = true := by simp [Region.wanted, hgd]
  rw [if_pos hw]
  obtain ⟨a', cap', w', hrun, q⟩ := run_append_elt (ty := o.type) (cy := cy) el hrow hys hn hm hN h63 hbytes hB
  unfold Oper.wp
  simp [execOp, ho, resolve, invoke, builtin, hs, hx, hrun, Result.andThen]
  exact h a' cap' w' q
end

/-- What append to a slice without room leaves. -/
structure NewRow {α : Type} (w w' : World) (B : Nat) (e : TypeId) (a' : Option Addr) (cap' k : Nat) (R : α → List Value) (zs : List α) : Prop where
  row : Row w' B e a' cap' k R zs
  below : Below w.heap.size w w'
  blk : ∀ g, rowBlk a' cap' = some g → g = w.heap.size
theorem Appended.new {α : Type} {w w' : World} {B e k cap' : Nat} {a a' : Option Addr} {R : α → List Value} {zs : List α} (h : Appended w w' B e a a' 0 cap' k R ([] ++ zs)) : NewRow w w' B e a' cap' k R zs :=
  ⟨h.row, ⟨h.grown.os, h.grown.tape, h.grown.output, h.grown.size, fun b hb => h.grown.block b hb (by simp [rowBlk])⟩, fun g hg => by
    rcases h.blk with q | q
    · rw [hg] at q; simp [rowBlk] at q
    · rw [hg] at q
      injection q⟩
theorem step_append_new {α : Type} {w : World} (B : Nat) {e k : Nat} {a : Option Addr} {R : α → List Value} {P : Program} {ops : Array Oper} {o : Oper} {ac : Act} {K : Act → World → Prop} {Q : Exit → Act → World → Prop} {E : Prop} (hgd : o.guard = none) (s x : Operand) {t : TypeId}
    (ho : o.op = .call { callee := .builtin .append, args := #[s, x], argTypes := #[t, t] }) {bytes m : Nat} (el : Elt P t e k bytes R) {ys : List α} {ay : Option Addr} {cy : Nat} (hs : ac.eval s = .slice a 0 0) (hx : ac.eval x = .slice ay m cy)
    (hys : RowsAt w ay k R ys) (hm : ys.length = m) (h63 : m ≤ maxLen) (hbytes : m * bytes ≤ 140737488355328) (hB : B ≤ w.heap.size)
    (h : ∀ a' cap' w', NewRow w w' B e a' cap' k R ys → K (ac.put o.dst (.slice a' m cap')) w') :
    if Region.wanted o (yielded ops ac.tmps) = true then Oper.wp P o ac w K Q else E :=
  step_append_elt hgd s x ho m el hs hx (Row.nil w B e a k R) hys rfl hm (Nat.zero_add m) h63 hbytes hB fun a' c' w' q => h a' c' w' q.new
theorem wpList_append_new {α : Type} {w : World} (B : Nat) {e k : Nat} {a : Option Addr} {R : α → List Value} {P : Program} {ops : Array Oper} {rest : List Oper} {o : Oper} {ac : Act} {Q : Exit → Act → World → Prop} (hgd : o.guard = none) (s x : Operand) {t : TypeId}
    (ho : o.op = .call { callee := .builtin .append, args := #[s, x], argTypes := #[t, t] }) {bytes m : Nat} (el : Elt P t e k bytes R) {ys : List α} {ay : Option Addr} {cy : Nat} (hs : ac.eval s = .slice a 0 0) (hx : ac.eval x = .slice ay m cy)
    (hys : RowsAt w ay k R ys) (hm : ys.length = m) (h63 : m ≤ maxLen) (hbytes : m * bytes ≤ 140737488355328) (hB : B ≤ w.heap.size)
    (h : ∀ a' cap' w', NewRow w w' B e a' cap' k R ys → wpList P ops Q rest (ac.put o.dst (.slice a' m cap')) w') : wpList P ops Q (o :: rest) ac w :=
  wpList_append_row hgd s x ho m el hs hx (Row.nil w B e a k R) hys rfl hm (Nat.zero_add m) h63 hbytes hB fun a' c' w' q => h a' c' w' q.new
theorem NewRow.apart {α : Type} {w w' : World} {B e k cap' : Nat} {a' : Option Addr} {R : α → List Value} {zs : List α} (h : NewRow w w' B e a' cap' k R zs) {β : Type} {B2 e2 k2 cap2 : Nat} {a2 : Option Addr} {R2 : β → List Value} {ys : List β} (r : Row w B2 e2 a2 cap2 k2 R2 ys) : ∀ g, rowBlk a' cap' = some g → rowBlk a2 cap2 ≠ some g := by
  intro g hg h2
  have hlt := (r.blk h2).2
  have := h.blk g hg
  omega

theorem step_build0 {α : Type} {w : World} {e k bytes : Nat} {R : α → List Value} {P : Program} {ops : Array Oper} {o : Oper} {ac : Act} {K : Act → World → Prop} {Q : Exit → Act → World → Prop} {E : Prop} (hgd : o.guard = none) {t : TypeId}
    (ho : o.op = .buildSlice t 0 #[]) (el : Elt P t e k bytes R) (h : K (ac.put o.dst (.slice (some ⟨w.heap.size, 0, none⟩) 0 0)) (w.alloc (.cells #[] e))) :
    if Region.wanted o (yielded ops ac.tmps) = true then Oper.wp P o ac w K Q else E := by
  have hw : Region.wanted o (yielded ops ac.tmps) = true := by simp [Region.wanted, hgd]
  rw [if_pos hw]
  obtain ⟨i, z, h2, h3, h4, h5, h6⟩ := el.info
  unfold Oper.wp
  simp [execOp, ho, Result.andThen, Instr.buildSlice, run_underlying el.under, zeroValue, sizeOf, typeInfo, h2, h3, newRow, h4, Instr.fill]
  have h0 : (Array.map (fun _ => (default : Value)) (Array.range 0)) = #[] := by simp
  rw [h0]
  exact h

/-! What go_region_held3 is told: below B the world is as W was; stores from B on are let in. -/
theorem KeptB.refl (B : Nat) (W : World) : ((∀ b o, b < B → (W).cell? ⟨b, o, none⟩ = (W).cell? ⟨b, o, none⟩) ∧ Below (B) (W) (W)) := ⟨fun _ _ _ => rfl, Below.refl _ _⟩
theorem KeptB.of {B : Nat} {W w1 : World} (h : Below B W w1) : ((∀ b o, b < B → (w1).cell? ⟨b, o, none⟩ = (W).cell? ⟨b, o, none⟩) ∧ Below (B) (W) (w1)) := ⟨fun b o hb => h.cell (p := ⟨b, o, none⟩) hb, h⟩
theorem KeptB.drew {B : Nat} {W w1 : World} (h : ((∀ b o, b < B → (w1).cell? ⟨b, o, none⟩ = (W).cell? ⟨b, o, none⟩) ∧ Below (B) (W) (w1))) : ((∀ b o, b < B → (w1.drew).cell? ⟨b, o, none⟩ = (W).cell? ⟨b, o, none⟩) ∧ Below (B) (W) (w1.drew)) := ⟨h.1, h.2.drew⟩
theorem KeptB.alloc {B : Nat} {W w1 : World} (hB : B ≤ W.heap.size) (x : Obj) (h : ((∀ b o, b < B → (w1).cell? ⟨b, o, none⟩ = (W).cell? ⟨b, o, none⟩) ∧ Below (B) (W) (w1))) : ((∀ b o, b < B → (w1.alloc x).cell? ⟨b, o, none⟩ = (W).cell? ⟨b, o, none⟩) ∧ Below (B) (W) (w1.alloc x)) := KeptB.of (h.2.alloc (Nat.le_trans hB h.2.size) x)
theorem KeptB.next {B : Nat} {W w1 w2 : World} (hB : B ≤ W.heap.size) (h : ((∀ b o, b < B → (w1).cell? ⟨b, o, none⟩ = (W).cell? ⟨b, o, none⟩) ∧ Below (B) (W) (w1))) (k : Below w1.heap.size w1 w2) : ((∀ b o, b < B → (w2).cell? ⟨b, o, none⟩ = (W).cell? ⟨b, o, none⟩) ∧ Below (B) (W) (w2)) := KeptB.of (h.2.trans (k.mono (Nat.le_trans hB h.2.size)))
theorem KeptB.set {B : Nat} {W w1 : World} {p : Addr} (hp : B ≤ p.block) (v : Value) (h : ((∀ b o, b < B → (w1).cell? ⟨b, o, none⟩ = (W).cell? ⟨b, o, none⟩) ∧ Below (B) (W) (w1))) : ((∀ b o, b < B → (w1.setCell p v).cell? ⟨b, o, none⟩ = (W).cell? ⟨b, o, none⟩) ∧ Below (B) (W) (w1.setCell p v)) := KeptB.of (h.2.setCell hp v)
theorem KeptB.weak {B B' : Nat} {W w1 : World} (h : ((∀ b o, b < B' → (w1).cell? ⟨b, o, none⟩ = (W).cell? ⟨b, o, none⟩) ∧ Below (B') (W) (w1))) (hB : B ≤ B') : ((∀ b o, b < B → (w1).cell? ⟨b, o, none⟩ = (W).cell? ⟨b, o, none⟩) ∧ Below (B) (W) (w1)) := KeptB.of (h.2.mono hB)

section
variable {α : Type} {w w' : World} {B : Nat} {e : TypeId} {a : Option Addr} {cap k : Nat} {R : α → List Value} {zs : List α}
theorem Row.drew (h : Row w B e a cap k R zs) : Row w.drew B e a cap k R zs := ⟨h.len, h.max, h.own⟩
theorem Row.alloc (h : Row w B e a cap k R zs) (o : Obj) : Row (w.alloc o) B e a cap k R zs := h.below ((Below.refl _ _).alloc (Nat.le_refl _) o)
/-- A store into another block. -/
theorem Row.setOther (h : Row w B e a cap k R zs) {p : Addr} (hp : p.block < B) (v : Value) : Row (w.setCell p v) B e a cap k R zs :=
  ⟨h.len, h.max, fun hc => by
    obtain ⟨g, cur, rfl, h2, h3, h4⟩ := h.own hc
    exact ⟨g, cur, rfl, h2, (Below.heap_setCell w p v g (by omega)).trans h3, h4⟩⟩
theorem Row.setNe (h : Row w B e a cap k R zs) {p : Addr} (hp : ∀ g, rowBlk a cap = some g → g ≠ p.block) (v : Value) : Row (w.setCell p v) B e a cap k R zs :=
  ⟨h.len, h.max, fun hc => by
    obtain ⟨g, cur, rfl, h2, h3, h4⟩ := h.own hc
    exact ⟨g, cur, rfl, h2, (Below.heap_setCell w p v g (hp g (by simp [rowBlk]; omega))).trans h3, h4⟩⟩
theorem Appended.below {B' : Nat} {a' : Option Addr} {cap' : Nat} (h : Appended w w' B e a a' cap cap' k R zs) (hB : B' ≤ w.heap.size) (hn : ∀ g, rowBlk a cap = some g → B' ≤ g) : Below B' w w' :=
  ⟨h.grown.os, h.grown.tape, h.grown.output, h.grown.size, fun b hb => h.grown.block b (by omega) (fun e => by have := hn b e.symm; omega)⟩
end

theorem five_one : ∀ z : Rq, ∀ u ∈ z.cs, u.oneCell' = true := by
  intro z u hu
  simp [Rq.cs] at hu
  rcases hu with rfl | rfl | rfl | rfl | rfl <;> rfl
theorem int_one : ∀ z : Int, ∀ u ∈ intR z, u.oneCell' = true := by
  intro z u hu
  simp [intR] at hu
  subst hu
  rfl
set_option maxRecDepth 100000 in
theorem eltInt : Elt Try.prog 101 3 1 8 intR := by
  obtain ⟨i, h1, h2, h3, h4⟩ := info_parts (P := Try.prog) (e := 3) (z := .int .i64 0) (size := 1) (bytes := 8) (by kernel_rfl)
  exact ⟨Try.underlying101, ⟨i, _, h1, h2, h3, h4, rfl⟩, by decide, fun _ => rfl, int_one⟩
set_option maxRecDepth 100000 in
theorem eltReq : Elt Try.prog 143 30 5 40 Rq.cs := by
  obtain ⟨i, h1, h2, h3, h4⟩ := info_parts (P := Try.prog) (e := 30) (z := .agg #[.int .i64 0, .int .i64 0, .int .i64 0, .int .i64 0, .int .i64 0]) (size := 5) (bytes := 40) (by kernel_rfl)
  exact ⟨Try.underlying143, ⟨i, _, h1, h2, h3, h4, rfl⟩, by decide, fun _ => rfl, five_one⟩
end Go.Proofs.Ytgdhieffjflejaa
