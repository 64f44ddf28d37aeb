/- slices.Insert of one figure into a list without room; condition: small sizes. -/
import Derived.Test.YtilldpoleiippaaGreatDoorOwnG
import Derived.StillTailTactics
import Derived.Laws.CopyRow
set_option linter.unusedSimpArgs false
set_option linter.unusedVariables false
namespace Go.Proofs.YtilldpoleiippaaGreatDoor
open Go.RowKit Go.Joins

section
variable {P : Program}
/-- append of n zeros, where there is no room. -/
theorem run_append_zeros (w : World) (t tx ty e : TypeId) (i : TypeInfo) (z : Value) (ht : P.underlying t = some (.slice e)) (hx : P.underlying tx = some (.int .i64)) (hi : P.info? e = some i) (hz : i.zero = some z) (base : Option Addr) (sLen sCap n : Nat) (olds : List Value)
    (hold : (Builtin.firstCells i.size sLen (.slice base sLen sCap)).run P w.drew = .ok olds.toArray w.drew) (hpos : 0 < n) (hsz : 0 < i.size) (hn : n ≤ 1048576) (hb : n * i.bytes ≤ 281474976710656)
    (hg : sCap < sLen + n) (h63 : ((sLen + n : Nat) : Int) ≤ 9223372036854775807) (hfit : Builtin.nextslicecap (sLen + n) sCap * i.bytes ≤ 281474976710656) :
    (Builtin.append_ #[t, tx] ty #[.slice base sLen sCap, .int .i64 n]).run P w =
      .ok (.slice (some ⟨w.heap.size, 0, none⟩) (sLen + n) (grownCap w (sLen + n) sCap e))
        (w.drew.alloc (.cells (olds.toArray ++ Builtin.zeroCells z.cells n ++ Builtin.zeroCells z.cells (grownCap w (sLen + n) sCap e - (sLen + n))) e)) := by
  have hn' : ¬ (sLen + n ≤ sCap) := by omega
  have h63' : ¬ (9223372036854775807 < ((sLen : Int) + (n : Int))) := by omega
  have h48' : ¬ (281474976710656 < Builtin.nextslicecap (sLen + n) sCap * i.bytes) := by omega
  have hw : IntKind.i64.wrap (n : Int) = (n : Int) := IntWalk.i64_in _ ⟨by omega, by omega⟩
  have hl : ¬ ((n : Int) < 0) := by omega
  have hbb : ¬ (281474976710656 < (n : Int) * (i.bytes : Int)) := by
    have : ((n * i.bytes : Nat) : Int) = (n : Int) * (i.bytes : Int) := by simp
    omega
  have h0 : ¬ (n * i.size = 0) := by
    have := Nat.mul_pos hpos hsz
    omega
  have h0a : ¬ n = 0 := by omega
  have h0b : ¬ i.size = 0 := by omega
  simp [Builtin.append_, run_underlying ht, run_underlying hx, sizeOf, typeInfo, zeroValue, hi, hz, asInt, asIntOf, hw, hl, hbb, h0, h0a, h0b, hn', h63', h48', Question.forced, hold, newRow, grownCap]

/-- copy between rows of elements of k cells. -/
theorem run_copy_rowk (w : World) (dT sT ty elem : TypeId) (g o dLen dCap k m : Nat) (a : Addr) (sLen sCap : Nat) (cur : Array Value) (t : TypeId) (cs : List Value)
    (hu : P.underlying dT = some (.slice elem)) (hs : (P.info? elem).map (·.size) = some k)
    (hg : w.heap[g]? = some (.cells cur t (0, 0))) (hm : Nat.min sLen dLen = m) (hn : cs.length = m * k)
    (hsrc : ∀ j v, cs[j]? = some v → w.cell? (a.add j) = some v) (hfit : o + cs.length ≤ cur.size) (h1 : ∀ v ∈ cs, v.oneCell' = true) :
    (Builtin.copy_ #[dT, sT] ty #[.slice (some ⟨g, o, none⟩) dLen dCap, .slice (some a) sLen sCap]).run P w =
      .ok (goInt m) (w.setRow g (cur.toList.take o ++ cs ++ cur.toList.drop (o + cs.length)).toArray) := by
  have hl := run_loadCells_list (P := P) w a cs hsrc
  have hst := run_storeCells_at P g o t cs 0 cur w hg (by simpa using hfit) h1
  cases hq : P.info? elem with
  | none => simp [hq] at hs
  | some i =>
    have hi : i.size = k := by simpa [hq] using hs
    simp [Builtin.copy_, run_underlying hu, Builtin.lenOf, Builtin.firstCells, sizeOf, typeInfo, hq, hi, hm, ← hn, hl, hst]

theorem wpList_copy_rowk {w : World} {ops : Array Oper} {rest : List Oper} {o : Oper} {ac : Act} {Q : Exit → Act → World → Prop} (hgd : o.guard = none) (d s : Operand) (dT sT : TypeId)
    (ho : o.op = .call { callee := .builtin .copy, args := #[d, s], argTypes := #[dT, sT] }) (elem : TypeId) (g of dLen dCap k m : Nat) (a : Addr) (sLen sCap : Nat) (cur : Array Value) (t : TypeId) (cs : List Value)
    (hu : P.underlying dT = some (.slice elem)) (hs : (P.info? elem).map (·.size) = some k) (hd : ac.eval d = .slice (some ⟨g, of, none⟩) dLen dCap) (hss : ac.eval s = .slice (some a) sLen sCap)
    (hg : w.heap[g]? = some (.cells cur t (0, 0))) (hm : Nat.min sLen dLen = m) (hn : cs.length = m * k)
    (hsrc : ∀ j v, cs[j]? = some v → w.cell? (a.add j) = some v) (hfit : of + cs.length ≤ cur.size) (h1 : ∀ v ∈ cs, v.oneCell' = true)
    (h : wpList P ops Q rest (ac.put o.dst (goInt m)) (w.setRow g (cur.toList.take of ++ (cs ++ cur.toList.drop (of + cs.length))).toArray)) : wpList P ops Q (o :: rest) ac w := by
  refine wpList_plain hgd fun K hK => ?_
  have hrun := run_copy_rowk (P := P) w dT sT o.type elem g of dLen dCap k m a sLen sCap cur t cs hu hs hg hm hn hsrc hfit h1
  unfold Oper.wp
  simp [execOp, ho, resolve, invoke, builtin, hd, hss, hrun, Result.andThen]
  exact hK _ _ h

theorem wpList_append_zeros {w : World} {ops : Array Oper} {rest : List Oper} {o : Oper} {ac : Act} {Q : Exit → Act → World → Prop} (hgd : o.guard = none) (s x : Operand) (t tx e : TypeId)
    (ho : o.op = .call { callee := .builtin .append, args := #[s, x], argTypes := #[t, tx] }) (i : TypeInfo) (z : Value) (ht : P.underlying t = some (.slice e)) (hx : P.underlying tx = some (.int .i64)) (hi : P.info? e = some i) (hz : i.zero = some z) (base : Option Addr) (sLen sCap n : Nat) (olds : List Value)
    (hs : ac.eval s = .slice base sLen sCap) (hxx : ac.eval x = .int .i64 n)
    (hold : (Builtin.firstCells i.size sLen (.slice base sLen sCap)).run P w.drew = .ok olds.toArray w.drew) (hpos : 0 < n) (hsz : 0 < i.size) (hn : n ≤ 1048576) (hb : n * i.bytes ≤ 281474976710656)
    (hg : sCap < sLen + n) (h63 : ((sLen + n : Nat) : Int) ≤ 9223372036854775807) (hfit : Builtin.nextslicecap (sLen + n) sCap * i.bytes ≤ 281474976710656)
    (h : wpList P ops Q rest (ac.put o.dst (.slice (some ⟨w.heap.size, 0, none⟩) (sLen + n) (grownCap w (sLen + n) sCap e)))
      (w.drew.alloc (.cells (olds.toArray ++ (Builtin.zeroCells z.cells n ++ Builtin.zeroCells z.cells (grownCap w (sLen + n) sCap e - (sLen + n)))) e))) : wpList P ops Q (o :: rest) ac w := by
  refine wpList_plain hgd fun K hK => ?_
  have hrun := run_append_zeros (P := P) w t tx o.type e i z ht hx hi hz base sLen sCap n olds hold hpos hsz hn hb hg h63 hfit
  unfold Oper.wp
  simp [execOp, ho, resolve, invoke, builtin, hs, hxx, hrun, Result.andThen]
  exact hK _ _ h
end
theorem wpList_append_zerosV {P : Program} {w : World} {ops : Array Oper} {rest : List Oper} {o : Oper} {ac : Act} {Q : Exit → Act → World → Prop} (hgd : o.guard = none) (s x : Operand) (t tx e : TypeId)
    (ho : o.op = .call { callee := .builtin .append, args := #[s, x], argTypes := #[t, tx] }) (i : TypeInfo) (z : Value) (ht : P.underlying t = some (.slice e)) (hx : P.underlying tx = some (.int .i64)) (hi : P.info? e = some i) (hz : i.zero = some z) (base : Option Addr) (sLen sCap n : Nat) (olds : List Value)
    (hs : ac.eval s = .slice base sLen sCap) (hxx : ac.eval x = .int .i64 n)
    (hold : (Builtin.firstCells i.size sLen (.slice base sLen sCap)).run P w.drew = .ok olds.toArray w.drew) (hpos : 0 < n) (hsz : 0 < i.size) (hn : n ≤ 1048576) (hb : n * i.bytes ≤ 281474976710656)
    (hg : sCap < sLen + n) (h63 : sLen + n ≤ maxLen) (hfit : Builtin.nextslicecap (sLen + n) sCap * i.bytes ≤ 281474976710656) (hzc : z.cells.size = i.size)
    (h : ∀ cap' V (Zl : List Value), sLen + n ≤ cap' → cap' ≤ maxLen → V.heap[w.heap.size]? = some (.cells (olds ++ Zl).toArray e (0, 0)) → Zl.length = (cap' - sLen) * i.size → Below w.heap.size w V → wpList P ops Q rest (ac.put o.dst (.slice (some ⟨w.heap.size, 0, none⟩) (sLen + n) cap')) V) : wpList P ops Q (o :: rest) ac w := by
  have hge := grownCap_ge w (sLen + n) sCap e
  refine wpList_append_zeros hgd s x t tx e ho i z ht hx hi hz base sLen sCap n olds hs hxx hold hpos hsz hn hb hg (by simp only [maxLen] at h63; omega) hfit ?_
  refine h _ _ (Builtin.zeroCells z.cells n ++ Builtin.zeroCells z.cells (grownCap w (sLen + n) sCap e - (sLen + n))).toList hge (grownCap_le_maxLen w _ _ e h63) ?_ ?_ (((Below.refl w.heap.size w).drew).alloc (Nat.le_refl _) _)
  · have e1 : olds.toArray ++ (Builtin.zeroCells z.cells n ++ Builtin.zeroCells z.cells (grownCap w (sLen + n) sCap e - (sLen + n))) = (olds ++ (Builtin.zeroCells z.cells n ++ Builtin.zeroCells z.cells (grownCap w (sLen + n) sCap e - (sLen + n))).toList).toArray := by
      apply Array.ext'
      simp
    rw [← e1]
    exact heap_alloc_new w.drew _
  · simp only [Array.length_toList, Array.size_append, size_zeroCells, hzc, ← Nat.add_mul]
    congr 1
    omega
theorem wpList_copy_rowV {P : Program} {w : World} {ops : Array Oper} {rest : List Oper} {o : Oper} {ac : Act} {Q : Exit → Act → World → Prop} (hgd : o.guard = none) (d s : Operand) (dT sT : TypeId)
    (ho : o.op = .call { callee := .builtin .copy, args := #[d, s], argTypes := #[dT, sT] }) (elem : TypeId) (g of dLen dCap k m : Nat) (a : Addr) (sLen sCap : Nat) (xs ys tl : List Value) (t : TypeId) (cs : List Value)
    (hu : P.underlying dT = some (.slice elem)) (hs : (P.info? elem).map (·.size) = some k) (hd : ac.eval d = .slice (some ⟨g, of, none⟩) dLen dCap) (hss : ac.eval s = .slice (some a) sLen sCap)
    (hg : w.heap[g]? = some (.cells (xs ++ (ys ++ tl)).toArray t (0, 0))) (hm : Nat.min sLen dLen = m) (hn : cs.length = m * k)
    (hsrc : ∀ j v, cs[j]? = some v → w.cell? (a.add j) = some v) (hx : xs.length = of) (hy : ys.length = cs.length) (h1 : ∀ v ∈ cs, v.oneCell' = true)
    (h : ∀ V, V.heap[g]? = some (.cells (xs ++ (cs ++ tl)).toArray t (0, 0)) → w.grownBy V (some g) → wpList P ops Q rest (ac.put o.dst (goInt m)) V) : wpList P ops Q (o :: rest) ac w := by
  refine wpList_copy_rowk hgd d s dT sT ho elem g of dLen dCap k m a sLen sCap _ t cs hu hs hd hss hg hm hn hsrc (by simp [hx, hy]) h1 ?_
  have e1 : (xs ++ (ys ++ tl)).toArray.toList.take of = xs := by simp [← hx]
  have e2 : (xs ++ (ys ++ tl)).toArray.toList.drop (of + cs.length) = tl := by
    rw [← hx, ← hy]
    simp
  rw [e1, e2]
  exact h _ (setRow_heap w g _ _ t _ hg) ⟨rfl, rfl, rfl, by simp [World.setRow], fun b _ hne => setRow_other w g b _ (fun e => hne (by rw [e]))⟩
/-- append of one row to a full one: a block of its own. -/
theorem wpList_append_full {α : Type} {w : World} {B e n k : Nat} {a : Option Addr} {R : α → List Value} {zs : List α} {P : Program} {ops : Array Oper} {rest : List Oper} {o : Oper} {ac : Act} {Q : Exit → Act → World → Prop} (hgd : o.guard = none) (s x : Operand) {t : TypeId}
    (ho : o.op = .call { callee := .builtin .append, args := #[s, x], argTypes := #[t, t] }) {bytes m : Nat} (N : Nat) (el : Elt P t e k bytes R) {ys : List α} {ay : Option Addr} {cy : Nat} (hs : ac.eval s = .slice a n n) (hx : ac.eval x = .slice ay m cy)
    (hrow : Row w B e a n k R zs) (hys : RowsAt w ay k R ys) (hn : zs.length = n) (hm : ys.length = m) (hpos : 0 < m) (hN : n + m = N) (h63 : N ≤ maxLen) (hbytes : N * bytes ≤ 140737488355328)
    (h : ∀ cap' w', Row w' w.heap.size e (some ⟨w.heap.size, 0, none⟩) cap' k R (zs ++ ys) → Below w.heap.size w w' → wpList P ops Q rest (ac.put o.dst (.slice (some ⟨w.heap.size, 0, none⟩) N cap')) w') : wpList P ops Q (o :: rest) ac w := by
  subst hn hm hN
  obtain ⟨i, z, h1, h2, h3, h4, h5⟩ := el.info
  subst h3 h4
  have hsrc := RowsAt.src (P := P) (w := w) (cy := cy) el.under el.len el.pos el.one hys
  have hlz := flatMap_length el.len zs
  have hly := flatMap_length el.len ys
  have hr := run_append_grow_src (P := P) (w := w) t t o.type e i z el.under h1 h2 a zs.length zs.length (zs.flatMap R) (by
      have hw : RowsAt w.drew a i.size R zs := hrow.rows el.len
      exact hw.firsts (P := P) (cy := zs.length) el.len el.pos) (.slice ay ys.length cy) ys.length (ys.flatMap R) hsrc (by omega) (by simp only [maxLen] at h63; omega) (growslice_fits (by omega) hbytes)
  refine wpList_plain hgd fun K hK => ?_
  unfold Oper.wp
  simp [execOp, ho, resolve, invoke, builtin, hs, hx, hr, Result.andThen]
  refine hK _ _ (h _ _ ⟨?_, grownCap_le_maxLen w _ _ e h63, fun _ => ⟨w.heap.size, _, rfl, Nat.le_refl _, heap_alloc_new w.drew _, ?_, ?_⟩⟩ (((Below.refl w.heap.size w).drew).alloc (Nat.le_refl _) _))
  · have hge := grownCap_ge w (zs.length + ys.length) zs.length e
    rw [List.length_append]; exact hge
  · have hge := grownCap_ge w (zs.length + ys.length) zs.length e
    simp only [Array.size_append, List.size_toArray, List.length_append, size_zeroCells, h5, hlz, hly, ← Nat.add_mul]
    exact Nat.mul_le_mul_right _ (by omega)
  · intro j hj
    rw [← flatMap_length el.len] at hj
    rw [Array.getElem?_append_left (by rw [List.size_toArray, ← List.flatMap_append]; exact hj), ← List.flatMap_append]
    simp [flat]

theorem flatMap_one (zs : List Rq) : ∀ v ∈ zs.flatMap Rq.cs, v.oneCell' = true := by
  intro v hv
  obtain ⟨z, -, hz⟩ := List.mem_flatMap.1 hv
  exact five_one z v hz
theorem infoEntG : ∃ i z, Tryz.prog.info? 44 = some i ∧ i.zero = some z ∧ i.size = 5 ∧ i.bytes = 40 ∧ z.cells.size = 5 := eltEnt.info
theorem flat_three {xs : List Rq} {r : Rq} {ys : List Rq} {tl : List Value} {j : Nat} (hj : j < (xs ++ [r] ++ ys).length * 5) : ((xs.flatMap Rq.cs ++ (r.cs ++ (ys.flatMap Rq.cs ++ tl))).toArray)[j]? = (flat Rq.cs (xs ++ [r] ++ ys))[j]? := by
  have e : xs.flatMap Rq.cs ++ (r.cs ++ (ys.flatMap Rq.cs ++ tl)) = (xs ++ [r] ++ ys).flatMap Rq.cs ++ tl := by simp [List.flatMap_append]
  rw [e, List.getElem?_toArray, List.getElem?_append_left (by rw [flatMap_length five_len]; exact hj)]
  simp [flat]

end Go.Proofs.YtilldpoleiippaaGreatDoor
