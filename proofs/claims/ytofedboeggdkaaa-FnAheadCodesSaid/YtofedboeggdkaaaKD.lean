/- slices.Insert of one figure into a list without room; condition: small sizes. | A cell of a game in rows of its own stored; what the program's act leaves; no condition. | The program's act, joining; condition: small sizes. | The program's act, moving and taking; condition: small sizes. | The program's act, hits and gifts; condition: small sizes. | The program's act, of any ask that is ok; condition: a game that is ok but for the last asks. | GameDo, the program's; condition: small sizes. -/
import Derived.Test.YtofedboeggdkaaaKB
import Derived.StillTailTactics
import Derived.Laws.CopyRow
import Derived.Test.YtofedboeggdkaaaKX
import Derived.Test.YtofedboeggdkaaaKA
set_option linter.unusedSimpArgs false
set_option linter.unusedVariables false
/-! slices.Insert of one figure into a list without room; condition: small sizes. -/
namespace Go.Proofs.Ytofedboeggdkaaa
open Go.RowKit Go.Joins

section
variable {P : Program}
/-- append of n zeros, where there is no room. -/
theorem run_append_zeros (w : World) (t tx ty e : TypeId) (i : TypeInfo) (z : Value) (ht : P.underlying t = some (.slice e)) (hx : P.underlying tx = some (.int .i64)) (hi : P.info? e = some i) (hz : i.zero = some z) (base : Option Addr) (sLen sCap n : Nat) (olds : List Value)
    (hold : (Builtin.firstCells i.size sLen (.slice base sLen sCap)).run P w.drew = .ok olds.toArray w.drew) (hpos : 0 < n) (hsz : 0 < i.size) (hn : n ≤ 1048576) (hb : n * i.bytes ≤ 281474976710656)
    (hg : sCap < sLen + n) (h63 : ((sLen + n : Nat) : Int) ≤ 9223372036854775807) (hfit : Builtin.nextslicecap (sLen + n) sCap * i.bytes ≤ 281474976710656) :
    (Builtin.append_ #[t, tx] ty #[.slice base sLen sCap, .int .i64 n]).run P w =
      .ok (.slice (some ⟨w.heap.size, 0, none⟩) (sLen + n) (grownCap w (sLen + n) sCap e))
        (w.drew.alloc (.cells (olds.toArray ++ Builtin.zeroCells z.cells n ++ Builtin.zeroCells z.cells (grownCap w (sLen + n) sCap e - (sLen + n))) e)) := by
  have hn' : ¬ (sLen + n ≤ sCap) := by omega
  have h63' : ¬ (9223372036854775807 < ((sLen : Int) + (n : Int))) := by omega
  have h48' : ¬ (281474976710656 < Builtin.nextslicecap (sLen + n) sCap * i.bytes) := by omega
  have hw : IntKind.i64.wrap (n : Int) = (n : Int) := IntWalk.i64_in _ ⟨by omega, by omega⟩
  have hl : ¬ ((n : Int) < 0) := by omega
  have hbb : ¬ (281474976710656 < (n : Int) * (i.bytes : Int)) := by
    have : ((n * i.bytes : Nat) : Int) = (n : Int) * (i.bytes : Int) := by simp
    omega
  have h0 : ¬ (n * i.size = 0) := by
    have := Nat.mul_pos hpos hsz
    omega
  have h0a : ¬ n = 0 := by omega
  have h0b : ¬ i.size = 0 := by omega
  simp [Builtin.append_, run_underlying ht, run_underlying hx, sizeOf, typeInfo, zeroValue, hi, hz, asInt, asIntOf, hw, hl, hbb, h0, h0a, h0b, hn', h63', h48', Question.forced, hold, newRow, grownCap]

/-- copy between rows of elements of k cells. -/
theorem run_copy_rowk (w : World) (dT sT ty elem : TypeId) (g o dLen dCap k m : Nat) (a : Addr) (sLen sCap : Nat) (cur : Array Value) (t : TypeId) (cs : List Value)
    (hu : P.underlying dT = some (.slice elem)) (hs : (P.info? elem).map (·.size) = some k)
    (hg : w.heap[g]? = some (.cells cur t (0, 0))) (hm : Nat.min sLen dLen = m) (hn : cs.length = m * k)
    (hsrc : ∀ j v, cs[j]? = some v → w.cell? (a.add j) = some v) (hfit : o + cs.length ≤ cur.size) (h1 : ∀ v ∈ cs, v.oneCell' = true) :
    (Builtin.copy_ #[dT, sT] ty #[.slice (some ⟨g, o, none⟩) dLen dCap, .slice (some a) sLen sCap]).run P w =
      .ok (goInt m) (w.setRow g (cur.toList.take o ++ cs ++ cur.toList.drop (o + cs.length)).toArray) := by
  have hl := run_loadCells_list (P := P) w a cs hsrc
  have hst := run_storeCells_at P g o t cs 0 cur w hg (by simpa using hfit) h1
  cases hq : P.info? elem with
  | none => simp [hq] at hs
  | some i =>
    have hi : i.size = k := by simpa [hq] using hs
    simp [Builtin.copy_, run_underlying hu, Builtin.lenOf, Builtin.firstCells, sizeOf, typeInfo, hq, hi, hm, ← hn, hl, hst]

theorem wpList_copy_rowk {w : World} {ops : Array Oper} {rest : List Oper} {o : Oper} {ac : Act} {Q : Exit → Act → World → Prop} (hgd : o.guard = none) (d s : Operand) (dT sT : TypeId)
    (ho : o.op = .call { callee := .builtin .copy, args := #[d, s], argTypes := #[dT, sT] }) (elem : TypeId) (g of dLen dCap k m : Nat) (a : Addr) (sLen sCap : Nat) (cur : Array Value) (t : TypeId) (cs : List Value)
    (hu : P.underlying dT = some (.slice elem)) (hs : (P.info? elem).map (·.size) = some k) (hd : ac.eval d = .slice (some ⟨g, of, none⟩) dLen dCap) (hss : ac.eval s = .slice (some a) sLen sCap)
    (hg : w.heap[g]? = some (.cells cur t (0, 0))) (hm : Nat.min sLen dLen = m) (hn : cs.length = m * k)
    (hsrc : ∀ j v, cs[j]? = some v → w.cell? (a.add j) = some v) (hfit : of + cs.length ≤ cur.size) (h1 : ∀ v ∈ cs, v.oneCell' = true)
    (h : wpList P ops Q rest (ac.put o.dst (goInt m)) (w.setRow g (cur.toList.take of ++ (cs ++ cur.toList.drop (of + cs.length))).toArray)) : wpList P ops Q (o :: rest) ac w := by
  refine wpList_plain hgd fun K hK => ?_
  have hrun := run_copy_rowk (P := P) w dT sT o.type elem g of dLen dCap k m a sLen sCap cur t cs hu hs hg hm hn hsrc hfit h1
  unfold Oper.wp
  simp [execOp, ho, resolve, invoke, builtin, hd, hss, hrun, Result.andThen]
  exact hK _ _ h

theorem wpList_append_zeros {w : World} {ops : Array Oper} {rest : List Oper} {o : Oper} {ac : Act} {Q : Exit → Act → World → Prop} (hgd : o.guard = none) (s x : Operand) (t tx e : TypeId)
    (ho : o.op = .call { callee := .builtin .append, args := #[s, x], argTypes := #[t, tx] }) (i : TypeInfo) (z : Value) (ht : P.underlying t = some (.slice e)) (hx : P.underlying tx = some (.int .i64)) (hi : P.info? e = some i) (hz : i.zero = some z) (base : Option Addr) (sLen sCap n : Nat) (olds : List Value)
    (hs : ac.eval s = .slice base sLen sCap) (hxx : ac.eval x = .int .i64 n)
    (hold : (Builtin.firstCells i.size sLen (.slice base sLen sCap)).run P w.drew = .ok olds.toArray w.drew) (hpos : 0 < n) (hsz : 0 < i.size) (hn : n ≤ 1048576) (hb : n * i.bytes ≤ 281474976710656)
    (hg : sCap < sLen + n) (h63 : ((sLen + n : Nat) : Int) ≤ 9223372036854775807) (hfit : Builtin.nextslicecap (sLen + n) sCap * i.bytes ≤ 281474976710656)
    (h : wpList P ops Q rest (ac.put o.dst (.slice (some ⟨w.heap.size, 0, none⟩) (sLen + n) (grownCap w (sLen + n) sCap e)))
      (w.drew.alloc (.cells (olds.toArray ++ (Builtin.zeroCells z.cells n ++ Builtin.zeroCells z.cells (grownCap w (sLen + n) sCap e - (sLen + n)))) e))) : wpList P ops Q (o :: rest) ac w := by
  refine wpList_plain hgd fun K hK => ?_
  have hrun := run_append_zeros (P := P) w t tx o.type e i z ht hx hi hz base sLen sCap n olds hold hpos hsz hn hb hg h63 hfit
  unfold Oper.wp
  simp [execOp, ho, resolve, invoke, builtin, hs, hxx, hrun, Result.andThen]
  exact hK _ _ h
end
theorem wpList_append_zerosV {P : Program} {w : World} {ops : Array Oper} {rest : List Oper} {o : Oper} {ac : Act} {Q : Exit → Act → World → Prop} (hgd : o.guard = none) (s x : Operand) (t tx e : TypeId)
    (ho : o.op = .call { callee := .builtin .append, args := #[s, x], argTypes := #[t, tx] }) (i : TypeInfo) (z : Value) (ht : P.underlying t = some (.slice e)) (hx : P.underlying tx = some (.int .i64)) (hi : P.info? e = some i) (hz : i.zero = some z) (base : Option Addr) (sLen sCap n : Nat) (olds : List Value)
    (hs : ac.eval s = .slice base sLen sCap) (hxx : ac.eval x = .int .i64 n)
    (hold : (Builtin.firstCells i.size sLen (.slice base sLen sCap)).run P w.drew = .ok olds.toArray w.drew) (hpos : 0 < n) (hsz : 0 < i.size) (hn : n ≤ 1048576) (hb : n * i.bytes ≤ 281474976710656)
    (hg : sCap < sLen + n) (h63 : sLen + n ≤ maxLen) (hfit : Builtin.nextslicecap (sLen + n) sCap * i.bytes ≤ 281474976710656) (hzc : z.cells.size = i.size)
    (h : ∀ cap' V (Zl : List Value), sLen + n ≤ cap' → cap' ≤ maxLen → V.heap[w.heap.size]? = some (.cells (olds ++ Zl).toArray e (0, 0)) → Zl.length = (cap' - sLen) * i.size → Below w.heap.size w V → wpList P ops Q rest (ac.put o.dst (.slice (some ⟨w.heap.size, 0, none⟩) (sLen + n) cap')) V) : wpList P ops Q (o :: rest) ac w := by
  have hge := grownCap_ge w (sLen + n) sCap e
  refine wpList_append_zeros hgd s x t tx e ho i z ht hx hi hz base sLen sCap n olds hs hxx hold hpos hsz hn hb hg (by simp only [maxLen] at h63; omega) hfit ?_
  refine h _ _ (Builtin.zeroCells z.cells n ++ Builtin.zeroCells z.cells (grownCap w (sLen + n) sCap e - (sLen + n))).toList hge (grownCap_le_maxLen w _ _ e h63) ?_ ?_ (((Below.refl w.heap.size w).drew).alloc (Nat.le_refl _) _)
  · have e1 : olds.toArray ++ (Builtin.zeroCells z.cells n ++ Builtin.zeroCells z.cells (grownCap w (sLen + n) sCap e - (sLen + n))) = (olds ++ (Builtin.zeroCells z.cells n ++ Builtin.zeroCells z.cells (grownCap w (sLen + n) sCap e - (sLen + n))).toList).toArray := by
      apply Array.ext'
      simp
    rw [← e1]
    exact heap_alloc_new w.drew _
  · simp only [Array.length_toList, Array.size_append, size_zeroCells, hzc, ← Nat.add_mul]
    congr 1
    omega
theorem wpList_copy_rowV {P : Program} {w : World} {ops : Array Oper} {rest : List Oper} {o : Oper} {ac : Act} {Q : Exit → Act → World → Prop} (hgd : o.guard = none) (d s : Operand) (dT sT : TypeId)
    (ho : o.op = .call { callee := .builtin .copy, args := #[d, s], argTypes := #[dT, sT] }) (elem : TypeId) (g of dLen dCap k m : Nat) (a : Addr) (sLen sCap : Nat) (xs ys tl : List Value) (t : TypeId) (cs : List Value)
    (hu : P.underlying dT = some (.slice elem)) (hs : (P.info? elem).map (·.size) = some k) (hd : ac.eval d = .slice (some ⟨g, of, none⟩) dLen dCap) (hss : ac.eval s = .slice (some a) sLen sCap)
    (hg : w.heap[g]? = some (.cells (xs ++ (ys ++ tl)).toArray t (0, 0))) (hm : Nat.min sLen dLen = m) (hn : cs.length = m * k)
    (hsrc : ∀ j v, cs[j]? = some v → w.cell? (a.add j) = some v) (hx : xs.length = of) (hy : ys.length = cs.length) (h1 : ∀ v ∈ cs, v.oneCell' = true)
    (h : ∀ V, V.heap[g]? = some (.cells (xs ++ (cs ++ tl)).toArray t (0, 0)) → w.grownBy V (some g) → wpList P ops Q rest (ac.put o.dst (goInt m)) V) : wpList P ops Q (o :: rest) ac w := by
  refine wpList_copy_rowk hgd d s dT sT ho elem g of dLen dCap k m a sLen sCap _ t cs hu hs hd hss hg hm hn hsrc (by simp [hx, hy]) h1 ?_
  have e1 : (xs ++ (ys ++ tl)).toArray.toList.take of = xs := by simp [← hx]
  have e2 : (xs ++ (ys ++ tl)).toArray.toList.drop (of + cs.length) = tl := by
    rw [← hx, ← hy]
    simp
  rw [e1, e2]
  exact h _ (setRow_heap w g _ _ t _ hg) ⟨rfl, rfl, rfl, by simp [World.setRow], fun b _ hne => setRow_other w g b _ (fun e => hne (by rw [e]))⟩
/-- append of one row to a full one: a block of its own. -/
theorem wpList_append_full {α : Type} {w : World} {B e n k : Nat} {a : Option Addr} {R : α → List Value} {zs : List α} {P : Program} {ops : Array Oper} {rest : List Oper} {o : Oper} {ac : Act} {Q : Exit → Act → World → Prop} (hgd : o.guard = none) (s x : Operand) {t : TypeId}
    (ho : o.op = .call { callee := .builtin .append, args := #[s, x], argTypes := #[t, t] }) {bytes m : Nat} (N : Nat) (el : Elt P t e k bytes R) {ys : List α} {ay : Option Addr} {cy : Nat} (hs : ac.eval s = .slice a n n) (hx : ac.eval x = .slice ay m cy)
    (hrow : Row w B e a n k R zs) (hys : RowsAt w ay k R ys) (hn : zs.length = n) (hm : ys.length = m) (hpos : 0 < m) (hN : n + m = N) (h63 : N ≤ maxLen) (hbytes : N * bytes ≤ 140737488355328)
    (h : ∀ cap' w', Row w' w.heap.size e (some ⟨w.heap.size, 0, none⟩) cap' k R (zs ++ ys) → Below w.heap.size w w' → wpList P ops Q rest (ac.put o.dst (.slice (some ⟨w.heap.size, 0, none⟩) N cap')) w') : wpList P ops Q (o :: rest) ac w := by
  subst hn hm hN
  obtain ⟨i, z, h1, h2, h3, h4, h5⟩ := el.info
  subst h3 h4
  have hsrc := RowsAt.src (P := P) (w := w) (cy := cy) el.under el.len el.pos el.one hys
  have hlz := flatMap_length el.len zs
  have hly := flatMap_length el.len ys
  have hr := run_append_grow_src (P := P) (w := w) t t o.type e i z el.under h1 h2 a zs.length zs.length (zs.flatMap R) (by
      have hw : RowsAt w.drew a i.size R zs := hrow.rows el.len
      exact hw.firsts (P := P) (cy := zs.length) el.len el.pos) (.slice ay ys.length cy) ys.length (ys.flatMap R) hsrc (by omega) (by simp only [maxLen] at h63; omega) (growslice_fits (by omega) hbytes)
  refine wpList_plain hgd fun K hK => ?_
  unfold Oper.wp
  simp [execOp, ho, resolve, invoke, builtin, hs, hx, hr, Result.andThen]
  refine hK _ _ (h _ _ ⟨?_, grownCap_le_maxLen w _ _ e h63, fun _ => ⟨w.heap.size, _, rfl, Nat.le_refl _, heap_alloc_new w.drew _, ?_, ?_⟩⟩ (((Below.refl w.heap.size w).drew).alloc (Nat.le_refl _) _))
  · have hge := grownCap_ge w (zs.length + ys.length) zs.length e
    rw [List.length_append]; exact hge
  · have hge := grownCap_ge w (zs.length + ys.length) zs.length e
    simp only [Array.size_append, List.size_toArray, List.length_append, size_zeroCells, h5, hlz, hly, ← Nat.add_mul]
    exact Nat.mul_le_mul_right _ (by omega)
  · intro j hj
    rw [← flatMap_length el.len] at hj
    rw [Array.getElem?_append_left (by rw [List.size_toArray, ← List.flatMap_append]; exact hj), ← List.flatMap_append]
    simp [flat]

theorem flatMap_one (zs : List Rq) : ∀ v ∈ zs.flatMap Rq.cs, v.oneCell' = true := by
  intro v hv
  obtain ⟨z, -, hz⟩ := List.mem_flatMap.1 hv
  exact five_one z v hz
theorem infoEntG : ∃ i z, Try.prog.info? 92 = some i ∧ i.zero = some z ∧ i.size = 5 ∧ i.bytes = 40 ∧ z.cells.size = 5 := eltEnt.info
theorem flat_three {xs : List Rq} {r : Rq} {ys : List Rq} {tl : List Value} {j : Nat} (hj : j < (xs ++ [r] ++ ys).length * 5) : ((xs.flatMap Rq.cs ++ (r.cs ++ (ys.flatMap Rq.cs ++ tl))).toArray)[j]? = (flat Rq.cs (xs ++ [r] ++ ys))[j]? := by
  have e : xs.flatMap Rq.cs ++ (r.cs ++ (ys.flatMap Rq.cs ++ tl)) = (xs ++ [r] ++ ys).flatMap Rq.cs ++ tl := by simp [List.flatMap_append]
  rw [e, List.getElem?_toArray, List.getElem?_append_left (by rw [flatMap_length five_len]; exact hj)]
  simp [flat]

set_option maxRecDepth 100000 in
set_option maxHeartbeats 8000000 in
theorem slInsertEnt_c {B n i : Nat} {a : Option Addr} {zs : List Rq} (gv : Nat) (r : Rq) (w : World) (h : Row w B 92 a n 5 Rq.cs zs) (hn : zs.length = n) (hi : i ≤ n) (hs : n ≤ 100) (hv : w.heap[gv]? = some (.cells #[.int .i64 r.c, .int .i64 r.n, .int .i64 r.o, .int .i64 r.x, .int .i64 r.y] 92 (0, 0))) :
    Calls Try.prog 115 #[.slice a n n, .int .i64 i, .slice (some ⟨gv, 0, none⟩) 1 1] w fun e w' => ∃ a' cap', e = .returned (.slice a' (n + 1) cap') ∧ Row w' w.heap.size 92 a' cap' 5 Rq.cs (zs.take i ++ [r] ++ zs.drop i) ∧ Below w.heap.size w w' := by
  have H := Lib.hid h
  have HN := Lib.hid hn
  have hrv : RowsAt w (some ⟨gv, 0, none⟩) 5 Rq.cs [r] := rows_of_block (t := 92) (fr := (0, 0)) five_len hv
  have HRV := Lib.hid hrv
  have hi0 : (0 : Int) ≤ (i : Int) := by omega
  have hin : (i : Int) ≤ (n : Int) := by omega
  have hw1 : IntKind.i64.wrap ((n : Int) + 1) = (n : Int) + 1 := IntWalk.i64_in _ ⟨by omega, by omega⟩
  clear hrv
  by_cases hlt : i = n
  · subst hlt
    clear h hn
    go_enter Try.func115, Try.ntmps115
    by_cases hz : i = 0
    · subst hz
      have hnil : zs = [] := List.eq_nil_of_length_eq_zero HN.out
      subst hnil
      cases a with
      | none =>
        go_wp2_with (at_builtin; refine wpList_append_full rfl _ _ rfl 1 eltEnt rfl rfl H.out HRV.out rfl rfl (by decide) rfl (by decide) (by decide) ?_; intro cap' w' hr' hb'; have HR' := Lib.hid hr'; have HB' := Lib.hid hb'; clear hr' hb')
        go_ret
        exact ⟨_, _, rfl, HR'.out, HB'.out⟩
      | some ad =>
        go_wp2_with (at_builtin; refine wpList_append_full rfl _ _ rfl 1 eltEnt rfl rfl H.out HRV.out rfl rfl (by decide) rfl (by decide) (by decide) ?_; intro cap' w' hr' hb'; have HR' := Lib.hid hr'; have HB' := Lib.hid hb'; clear hr' hb')
        go_ret
        exact ⟨_, _, rfl, HR'.out, HB'.out⟩
    · obtain ⟨ga, cur, rfl, -⟩ := H.out.own (by omega)
      go_wp2_with (at_builtin; refine wpList_append_full rfl _ _ rfl (i + 1) eltEnt rfl rfl H.out HRV.out HN.out rfl (by decide) rfl (by simp only [maxLen]; omega) (by omega) ?_; intro cap' w' hr' hb'; have HR' := Lib.hid hr'; have HB' := Lib.hid hb'; clear hr' hb')
      go_ret
      have e1 : zs.take i = zs := List.take_of_length_le (by rw [HN.out]; exact Nat.le_refl _)
      have e2 : zs.drop i = [] := List.drop_eq_nil_of_le (by rw [HN.out]; exact Nat.le_refl _)
      rw [e1, e2, List.append_nil]
      exact ⟨_, _, rfl, HR'.out, HB'.out⟩
  · obtain ⟨ga, cur, rfl, hgB, hg, hcs, hcur⟩ := h.own (by omega)
    have hlga := lt_of_block hg
    obtain ⟨m, hd⟩ : ∃ m, n + 1 = i + m := ⟨n + 1 - i, by omega⟩
    have hd0 : 2 ≤ m := by omega
    have HD := Lib.hid hd
    have hne : ¬ (i : Int) = (n : Int) := by omega
    have hnb : ((i : Int) == (n : Int)) = false := by simp; omega
    have hcz : ¬ n = i := by omega
    have hw2 : IntKind.i64.wrap ((n : Int) + 1 - (i : Int)) = (m : Int) := by
      have e : (n : Int) + 1 - (i : Int) = (m : Int) := by omega
      rw [e]; exact IntWalk.i64_in _ ⟨by omega, by omega⟩
    have hw3 : IntKind.i64.wrap ((i : Int) + 1) = (i : Int) + 1 := IntWalk.i64_in _ ⟨by omega, by omega⟩
    have hdn : n < i + m := by omega
    have him : i + m ≤ 101 := by omega
    have hi1 : (0 : Int) ≤ (i : Int) + 1 := by omega
    obtain ⟨ti, tz, hti, htz, hts, htb, htc⟩ := infoEntG
    have hold : (Builtin.firstCells 5 i (.slice (some ⟨ga, 0, none⟩) i n)).run Try.prog w.drew = .ok ((zs.take i).flatMap Rq.cs).toArray w.drew := by
      have hra : RowsAt w.drew (some ⟨ga, 0, none⟩) 5 Rq.cs (zs.take i) := (show Row w.drew B _ _ _ _ _ _ from h.drew).rows five_len |>.takeG i
      have := hra.firsts (P := Try.prog) (cy := n) five_len (by decide)
      rw [List.length_take, Nat.min_eq_left (by omega)] at this
      exact this
    have HOLD := Lib.hid hold
    have HCAP := Lib.hid (grownCap_ge w (i + m) n 92)
    have HCAM := Lib.hid (grownCap_le_maxLen w (i + m) n 92 (by simp only [maxLen]; omega))
    clear hd hold h hn hg hcs hcur
    go_enter Try.func115, Try.ntmps115
    have HRA := Lib.hid ((H.out.rows five_len).takeG i)
    go_upto_region 10 with (at_builtin; refine wpList_append_zerosV rfl (.tmp 34) (.tmp 39) 43 3 92 rfl ti tz eltEnt.under Try.underlying3 hti htz (some ⟨ga, 0, none⟩) i n m ((zs.take i).flatMap Rq.cs) rfl rfl (by rw [hts]; exact HOLD.out) (by omega) (by rw [hts]; decide) (by omega) (by rw [htb]; omega) hdn (by simp only [maxLen]; omega) (growslice_fits (by omega) (by rw [htb]; omega)) (by rw [htc, hts]) ?_; intro cp V Zl hcp hcpm hVg hZl kV)
    rw [hts] at hZl
    have hcpi : ¬ cp = i := by omega
    have hrv := fun j v (hj : (r.cs)[j]? = some v) => (show V.cell? ((⟨gv, 0, none⟩ : Addr).add j) = some v from by
      have := cell_of_block (carryN kV hv) j
      rw [Go.WideShapes.add_plain, Nat.zero_add, this]
      simpa [Rq.cs] using hj)
    have hmn : Nat.min 1 m = 1 := Nat.min_eq_left (by omega)
    have hicp : (i : Int) ≤ (cp : Int) := by unfold maxLen at hcpm; omega
    have hiim : (i : Int) ≤ ((i + m : Nat) : Int) := by omega
    have hA1 : (((zs.take i).flatMap Rq.cs)).length = i * 5 := by rw [flatMap_length five_len, List.length_take, HN.out, Nat.min_eq_left (by omega)]
    have hA2 : (Zl.take 5).length = r.cs.length := by
      rw [List.length_take, hZl]
      show min 5 ((cp - i) * 5) = 5
      omega
    have hA3 : (Try.prog.info? 92).map (·.size) = some 5 := by rw [hti]; simp [hts]
    have hA4 : V.heap[w.heap.size]? = some (.cells (((zs.take i).flatMap Rq.cs) ++ (Zl.take 5 ++ Zl.drop 5)).toArray 92 (0, 0)) := by rw [List.take_append_drop]; exact hVg
    have HA1 := Lib.hid hA1
    have HA2 := Lib.hid hA2
    have HA3 := Lib.hid hA3
    have HA4 := Lib.hid hA4
    have HRV2 := Lib.hid hrv
    clear hA1 hA2 hA3 hA4 hrv
    go_upto_region 11 with (with_reducible refine wpList_copy_rowV (o := ⟨some 45, .call { callee := .builtin .copy, args := #[.tmp 43, .tmp 44], argTypes := #[_, _] }, _, _, _, _⟩) rfl (.tmp 43) (.tmp 44) 43 43 rfl 92 w.heap.size (i * 5) m (cp - i) 5 1 ⟨gv, 0, none⟩ 1 1 ((zs.take i).flatMap Rq.cs) (Zl.take 5) (Zl.drop 5) 92 r.cs eltEnt.under HA3.out rfl rfl HA4.out hmn rfl HRV2.out HA1.out HA2.out (five_one r) ?_; intro Y hYg kY)
    have hY5 : Y.heap[w.heap.size]? = some (.cells ((((zs.take i).flatMap Rq.cs) ++ r.cs) ++ (((Zl.drop 5).take ((m - 1) * 5)) ++ ((Zl.drop 5).drop ((m - 1) * 5)))).toArray 92 (0, 0)) := by
      rw [hYg, List.take_append_drop, List.append_assoc]
    have hnews : ∀ j v, ((zs.drop i).flatMap Rq.cs)[j]? = some v → Y.drew.cell? ((⟨ga, 0 + i * 5, none⟩ : Addr).add j) = some v := by
      have hr0 : RowsAt Y.drew (some ⟨ga, 0 + i * 5, none⟩) 5 Rq.cs (zs.drop i) := by
        have hrY := ((H.out.below kV).kept kY (fun g hg e => by have := (H.out.blk hg).2; injection e; omega)).drew
        exact (hrY.rows five_len).drop i
      exact hr0.news five_len (by decide)
    rw [Nat.zero_add] at hnews
    have hnews' := Lib.hid hnews
    have hB1 : (((zs.take i).flatMap Rq.cs) ++ r.cs).length = (i + 1) * 5 := by rw [List.length_append, HA1.out]; show i * 5 + 5 = (i + 1) * 5; omega
    have HB1 := Lib.hid hB1
    clear hB1
    have hm2 : Nat.min (n - i) (i + m - (i + 1)) = m - 1 := by
      have := HD.out
      show min (n - i) (i + m - (i + 1)) = m - 1
      omega
    have hlen2 : ((zs.drop i).flatMap Rq.cs).length = (m - 1) * 5 := by rw [flatMap_length five_len, List.length_drop, HN.out]; have := HD.out; omega
    have HL2 := Lib.hid hlen2
    have hB2 : ((Zl.drop 5).take ((m - 1) * 5)).length = ((zs.drop i).flatMap Rq.cs).length := by
      rw [hlen2, List.length_take, List.length_drop, hZl]
      omega
    have HB2 := Lib.hid hB2
    clear hB2
    have KY := Lib.hid (kV.grown kY kV.size (fun g hg => by injection hg with hg; omega))
    have hY5' := Lib.hid (show Y.drew.heap[w.heap.size]? = _ from hY5)
    have hi1cp : (i : Int) + 1 ≤ (cp : Int) := by omega
    have hicpn : ¬ cp = i + 1 := by omega
    have hiim1 : (i : Int) + 1 ≤ (i : Int) + (m : Int) := by omega
    have hm1i : (1 : Int) ≤ (m : Int) := by omega
    have hw4 : IntKind.i64.wrap ((i : Int) + 1) = (i : Int) + 1 := hw3
    clear hY5 hYg hnews hlen2 hVg kV kY
    go_still_tail 8, (by kernel_rfl)
    change wpList _ _ _ _ _ Y.drew
    go_upto_region 12 with (with_reducible refine wpList_copy_rowV (o := ⟨some 54, .call { callee := .builtin .copy, args := #[.tmp 50, .tmp 53], argTypes := #[_, _] }, _, _, _, _⟩) rfl (.tmp 50) (.tmp 53) 43 43 rfl 92 w.heap.size ((i + 1) * 5) (i + m - (i + 1)) (cp - (i + 1)) 5 (m - 1) ⟨ga, i * 5, none⟩ (n - i) (n - i) (((zs.take i).flatMap Rq.cs) ++ r.cs) ((Zl.drop 5).take ((m - 1) * 5)) ((Zl.drop 5).drop ((m - 1) * 5)) 92 ((zs.drop i).flatMap Rq.cs) eltEnt.under HA3.out rfl rfl hY5'.out hm2 HL2.out hnews'.out HB1.out HB2.out (flatMap_one (zs.drop i)) ?_; intro S hSg kS)
    have HKS := Lib.hid ((KY.out.drew).grown kS KY.out.size (fun g hg => by injection hg with hg; omega))
    have HSG := Lib.hid hSg
    clear hSg kS KY
    go_wp2_with fail
    go_ret
    have hn1 : i + m = n + 1 := HD.out.symm
    have hsg := HSG.out
    rw [List.append_assoc] at hsg
    rw [hn1]
    have hll : (zs.take i ++ [r] ++ zs.drop i).length = n + 1 := by simp [HN.out]; omega
    refine ⟨_, cp, rfl, ⟨by rw [hll]; omega, hcpm, fun _ => ⟨w.heap.size, _, rfl, Nat.le_refl _, hsg, ?_, fun j hj => flat_three hj⟩⟩, HKS.out⟩
    simp only [List.size_toArray, List.length_append, HA1.out, HL2.out, List.length_drop, hZl]
    have : r.cs.length = 5 := rfl
    omega
end Go.Proofs.Ytofedboeggdkaaa

/-! A cell of a game in rows of its own stored; what the program's act leaves; no condition. -/
namespace Go.Proofs.Ytofedboeggdkaaa
open Go.RowKit Go.Joins

section
variable {w w' : World} {B : Nat} {a0 a1 a2 : Option Addr} {c0 c1 c2 : Nat} {z : Gm}
theorem Own3.cellE {g i j : Nat} (h : Own3 w B (some ⟨g, 0, none⟩) c0 a1 c1 a2 c2 z) (hi : i < z.es.length) (hj : j < 5) (z' : Rq) (v : Value) (hv : (Rq.cs z')[j]? = some v) (ho : ∀ j', j' < 5 → j' ≠ j → (Rq.cs z')[j']? = (Rq.cs z.es[i])[j']?) :
    Own3 (w.setCell ⟨g, i * 5 + j, none⟩ v) B (some ⟨g, 0, none⟩) c0 a1 c1 a2 c2 ⟨z.es.set i z', z.fl, z.la⟩ := by
  have hr : rowBlk (some ⟨g, 0, none⟩) c0 = some g := by have := h.e.len; simp [rowBlk]; omega
  exact ⟨h.e.setOne five_len hi hj z' v hv ho rfl, h.f.setNe (fun g' hg' e => h.ef g hr (by rw [hg']; exact congrArg some e)) v, h.l.setNe (fun g' hg' e => h.el g hr (by rw [hg']; exact congrArg some e)) v, h.ef, h.el, h.fl⟩
theorem Own3.cellF {f i : Nat} (h : Own3 w B a0 c0 (some ⟨f, 0, none⟩) c1 a2 c2 z) (hi : i < z.fl.length) (x : Int) :
    Own3 (w.setCell ⟨f, i, none⟩ (.int .i64 x)) B a0 c0 (some ⟨f, 0, none⟩) c1 a2 c2 ⟨z.es, z.fl.set i x, z.la⟩ := by
  have hr : rowBlk (some ⟨f, 0, none⟩) c1 = some f := by have := h.f.len; simp [rowBlk]; omega
  exact ⟨h.e.setNe (fun g' hg' e => h.ef g' hg' (by rw [hr]; exact congrArg some e.symm)) _, h.f.setInt hi x, h.l.setNe (fun g' hg' e => h.fl f hr (by rw [hg']; exact congrArg some e)) _, h.ef, h.el, h.fl⟩
theorem Own3.cellL {f i : Nat} (h : Own3 w B a0 c0 a1 c1 (some ⟨f, 0, none⟩) c2 z) (hi : i < z.la.length) (x : Int) :
    Own3 (w.setCell ⟨f, i, none⟩ (.int .i64 x)) B a0 c0 a1 c1 (some ⟨f, 0, none⟩) c2 ⟨z.es, z.fl, z.la.set i x⟩ := by
  have hr : rowBlk (some ⟨f, 0, none⟩) c2 = some f := by have := h.l.len; simp [rowBlk]; omega
  exact ⟨h.e.setNe (fun g' hg' e => h.el g' hg' (by rw [hr]; exact congrArg some e.symm)) _, h.f.setNe (fun g' hg' e => h.fl g' hg' (by rw [hr]; exact congrArg some e.symm)) _, h.l.setInt hi x, h.ef, h.el, h.fl⟩
/-- A row's figures turned in their block, the others as they were. -/
theorem Own3.grownE {es : List Rq} (h : Own3 w B a0 c0 a1 c1 a2 c2 z) (r : Row w' B 92 a0 c0 5 Rq.cs es) (k : w.grownBy w' (rowBlk a0 c0)) : Own3 w' B a0 c0 a1 c1 a2 c2 ⟨es, z.fl, z.la⟩ :=
  ⟨r, h.f.kept k (fun g hg e => h.ef g e hg), h.l.kept k (fun g hg e => h.el g e hg), h.ef, h.el, h.fl⟩
end
/-- What the program's act leaves: the game behind the pointer turned, its lists without room, below D nothing. -/
def ActOut (D B P c1 c2 : Nat) (z : Gm) (code : Int) (w : World) (e : Ending) (w' : World) : Prop :=
  e = .returned (.int .i64 code) ∧ (∃ a0 a1 a2, w'.heap[P]? = some (.cells #[.slice a0 z.es.length z.es.length, .slice a1 z.fl.length c1, .slice a2 z.la.length c2] 46 (0, 0)) ∧ Own3 w' B a0 z.es.length a1 c1 a2 c2 z) ∧ Below D w w'
theorem actOut {D B P n0 n1 n2 c1 c2 : Nat} {z : Gm} {code : Int} {w w' : World} {a0 a1 a2 : Option Addr} (h : w'.heap[P]? = some (.cells #[.slice a0 n0 n0, .slice a1 n1 c1, .slice a2 n2 c2] 46 (0, 0))) (o : Own3 w' B a0 n0 a1 c1 a2 c2 z) (k : Below D w w')
    (h0 : z.es.length = n0) (h1 : z.fl.length = n1) (h2 : z.la.length = n2) : ActOut D B P c1 c2 z code w (.returned (.int .i64 code)) w' := by
  subst h0 h1 h2
  exact ⟨rfl, ⟨a0, a1, a2, h, o⟩, k⟩
/-- A game and a number, the lists without room. -/
def RetGF (B : Nat) (z : Gm) (c : Int) (w : World) (e : Ending) (w' : World) : Prop :=
  ∃ b0 b1 b2, e = .returned (.tuple #[.agg #[.slice b0 z.es.length z.es.length, .slice b1 z.fl.length z.fl.length, .slice b2 z.la.length z.la.length], .int .i64 c]) ∧ Own3 w' B b0 z.es.length b1 z.fl.length b2 z.la.length z ∧ Below w.heap.size w w'
theorem retGF {B n0 n1 n2 : Nat} {z : Gm} {c : Int} {w w' : World} {b0 b1 b2 : Option Addr} (o : Own3 w' B b0 n0 b1 n1 b2 n2 z) (h0 : z.es.length = n0) (h1 : z.fl.length = n1) (h2 : z.la.length = n2) (k : Below w.heap.size w w') :
    RetGF B z c w (.returned (.tuple #[.agg #[.slice b0 n0 n0, .slice b1 n1 n1, .slice b2 n2 n2], .int .i64 c])) w' := by
  subst h0 h1 h2
  exact ⟨b0, b1, b2, rfl, o, k⟩
end Go.Proofs.Ytofedboeggdkaaa

/-! The program's act, joining; condition: small sizes. -/
namespace Go.Proofs.Ytofedboeggdkaaa
open Go.RowKit Go.Joins

set_option maxRecDepth 100000 in
set_option maxHeartbeats 8000000 in
theorem act_there {D B : Nat} (es : List Rq) (fl la : List Int) (n0 n2 P : Nat) (a0 a1 a2 : Option Addr) (c1 c2 : Nat) (c n x y : Int) (w : World) (aP : w.heap[P]? = some (.cells #[.slice a0 n0 n0, .slice a1 16 c1, .slice a2 n2 c2] 46 (0, 0))) (h : Own3 w B a0 n0 a1 c1 a2 c2 ⟨es, fl, la⟩) (hn0 : es.length = n0) (hn1 : fl.length = 16) (hn2 : la.length = n2) (h4 : n0 ≤ 4) (hD : D ≤ B) (hDP : D ≤ P) (hp : Places es) (hf : ∀ n ∈ fl, 0 ≤ n ∧ n ≤ 20)
    (hc : 1 ≤ c ∧ c ≤ 4) (hx : -1 ≤ x ∧ x ≤ 4) (hy : -1 ≤ y ∧ y ≤ 9) (k : Nat) (hfig : figAt es c = some k) :
    Calls Try.prog 83 #[.pointer (some ⟨P, 0, none⟩), .agg #[.int .i64 c, .int .i64 n, .int .i64 1, .int .i64 x, .int .i64 y]] w (ActOut D B P c1 c2 ⟨es, fl, la⟩ 4 w) := by
  have HN0 := Lib.hid hn0
  have HN1 := Lib.hid hn1
  have HN2 := Lib.hid hn2
  have HP := Lib.hid hp
  have HF := Lib.hid hf
  have hlP := lt_of_block aP
  have hDw : D ≤ w.heap.size := by omega
  go_enter Try.func83, Try.ntmps83
  go_upto_region 1 with fail
  obtain ⟨W, hW, sW, qX, kW⟩ := blocks1 w (.cells #[.int .i64 c, .int .i64 n, .int .i64 1, .int .i64 x, .int .i64 y] 34)
  rw [← hW]
  clear hW sW
  have aX := carryN kW aP
  have O := Lib.hid (h.below kW)
  have KD := Lib.hid (kW.mono hDw)
  have hPQ : ¬ (P = w.heap.size) := by omega
  have hQP : ¬ (w.heap.size = P) := by omega
  have ga := cellRe aX
  have gq := cellRe qX
  have cF := quietC (w := W) (fun V hV => figure_c es c a0 a1 a2 n0 16 n2 n0 c1 c2 V ((O.out.e.slG five_len HN0.out).below hV))
  rw [figI_opt, hfig] at cF
  clear aP h hn0 hn1 hn2 hp hf kW hlP
  go_wp2_with fail
  refine wp_region_quiet_below (by kernel_rfl) (by kernel_rfl) ?_
  repeat (go_big_quiet_step (first | with_reducible exact cF _ _))
  refine wpQuiet_nil ?_
  intro _ hw'
  obtain ⟨⟨dq, osq⟩, hw''⟩ := hw'
  subst hw''
  have hkb := below_regrown W dq osq
  replace aX := carryN hkb aX
  replace qX := carryN hkb qX
  replace O := Lib.hid (O.out.below hkb)
  replace KD := Lib.hid (KD.out.trans (hkb.mono (Nat.le_trans hDw KD.out.size)))
  clear hkb
  generalize Sort.grow (redrawn W dq) osq = X at *
  clear ga gq cF
  have cA := cell_of_block aX
  have cQ := cell_of_block qX
  have ho : optI (some k) = (k : Int) := rfl
  rw [ho]
  clear ho
  have hkz : k < es.length := by obtain ⟨hl, -⟩ := figAt_some hfig; exact hl
  have hkn : k < n0 := by rw [← HN0.out]; exact hkz
  have hk0 : (0 : Int) ≤ (k : Int) := by omega
  have hk1 : (k : Int) < (n0 : Int) := by omega
  have hkd : decide ((0 : Int) ≤ (k : Int)) = true := by simp
  have hkm : ¬ (k : Int) < 0 := by omega
  go_wp2_with fail
  go_ret
  exact actOut aX O.out KD.out HN0.out HN1.out HN2.out
set_option maxRecDepth 100000 in
set_option maxHeartbeats 8000000 in
theorem act_off {D B : Nat} (es : List Rq) (fl la : List Int) (n0 n2 P : Nat) (a0 a1 a2 : Option Addr) (c1 c2 : Nat) (c n o x y : Int) (w : World) (aP : w.heap[P]? = some (.cells #[.slice a0 n0 n0, .slice a1 16 c1, .slice a2 n2 c2] 46 (0, 0))) (h : Own3 w B a0 n0 a1 c1 a2 c2 ⟨es, fl, la⟩) (hn0 : es.length = n0) (hn1 : fl.length = 16) (hn2 : la.length = n2) (h4 : n0 ≤ 4) (hD : D ≤ B) (hDP : D ≤ P) (hp : Places es) (hf : ∀ n ∈ fl, 0 ≤ n ∧ n ≤ 20)
    (hc : 1 ≤ c ∧ c ≤ 4) (hx : -1 ≤ x ∧ x ≤ 4) (hy : -1 ≤ y ∧ y ≤ 9) (hfig : figAt es c = none) (ho1 : o ≠ 1) :
    Calls Try.prog 83 #[.pointer (some ⟨P, 0, none⟩), .agg #[.int .i64 c, .int .i64 n, .int .i64 o, .int .i64 x, .int .i64 y]] w (ActOut D B P c1 c2 ⟨es, fl, la⟩ 5 w) := by
  have HN0 := Lib.hid hn0
  have HN1 := Lib.hid hn1
  have HN2 := Lib.hid hn2
  have HP := Lib.hid hp
  have HF := Lib.hid hf
  have hlP := lt_of_block aP
  have hDw : D ≤ w.heap.size := by omega
  go_enter Try.func83, Try.ntmps83
  go_upto_region 1 with fail
  obtain ⟨W, hW, sW, qX, kW⟩ := blocks1 w (.cells #[.int .i64 c, .int .i64 n, .int .i64 o, .int .i64 x, .int .i64 y] 34)
  rw [← hW]
  clear hW sW
  have aX := carryN kW aP
  have O := Lib.hid (h.below kW)
  have KD := Lib.hid (kW.mono hDw)
  have hPQ : ¬ (P = w.heap.size) := by omega
  have hQP : ¬ (w.heap.size = P) := by omega
  have ga := cellRe aX
  have gq := cellRe qX
  have cF := quietC (w := W) (fun V hV => figure_c es c a0 a1 a2 n0 16 n2 n0 c1 c2 V ((O.out.e.slG five_len HN0.out).below hV))
  rw [figI_opt, hfig] at cF
  clear aP h hn0 hn1 hn2 hp hf kW hlP
  go_wp2_with fail
  refine wp_region_quiet_below (by kernel_rfl) (by kernel_rfl) ?_
  repeat (go_big_quiet_step (first | with_reducible exact cF _ _))
  refine wpQuiet_nil ?_
  intro _ hw'
  obtain ⟨⟨dq, osq⟩, hw''⟩ := hw'
  subst hw''
  have hkb := below_regrown W dq osq
  replace aX := carryN hkb aX
  replace qX := carryN hkb qX
  replace O := Lib.hid (O.out.below hkb)
  replace KD := Lib.hid (KD.out.trans (hkb.mono (Nat.le_trans hDw KD.out.size)))
  clear hkb
  generalize Sort.grow (redrawn W dq) osq = X at *
  clear ga gq cF
  have cA := cell_of_block aX
  have cQ := cell_of_block qX
  have hob : (o == 1) = false := by simpa using ho1
  have ho : optI none = -1 := rfl
  rw [ho]
  clear ho
  go_wp2_with fail
  go_ret
  exact actOut aX O.out KD.out HN0.out HN1.out HN2.out
set_option maxRecDepth 100000 in
set_option maxHeartbeats 8000000 in
theorem act_join {D B : Nat} (es : List Rq) (fl la : List Int) (n0 n2 P : Nat) (a0 a1 a2 : Option Addr) (c1 c2 : Nat) (c n x y : Int) (w : World) (aP : w.heap[P]? = some (.cells #[.slice a0 n0 n0, .slice a1 16 c1, .slice a2 n2 c2] 46 (0, 0))) (h : Own3 w B a0 n0 a1 c1 a2 c2 ⟨es, fl, la⟩) (hn0 : es.length = n0) (hn1 : fl.length = 16) (hn2 : la.length = n2) (h4 : n0 ≤ 4) (hD : D ≤ B) (hDP : D ≤ P) (hp : Places es) (hf : ∀ n ∈ fl, 0 ≤ n ∧ n ≤ 20)
    (hc : 1 ≤ c ∧ c ≤ 4) (hx : -1 ≤ x ∧ x ≤ 4) (hy : -1 ≤ y ∧ y ≤ 9) (hfig : figAt es c = none) (hB : B ≤ w.heap.size) :
    Calls Try.prog 83 #[.pointer (some ⟨P, 0, none⟩), .agg #[.int .i64 c, .int .i64 n, .int .i64 1, .int .i64 x, .int .i64 y]] w (ActOut D B P c1 c2 ⟨joinE es c, fl, la⟩ 0 w) := by
  have HN0 := Lib.hid hn0
  have HN1 := Lib.hid hn1
  have HN2 := Lib.hid hn2
  have HP := Lib.hid hp
  have HF := Lib.hid hf
  have hlP := lt_of_block aP
  have hDw : D ≤ w.heap.size := by omega
  go_enter Try.func83, Try.ntmps83
  go_upto_region 1 with fail
  obtain ⟨W, hW, sW, qX, kW⟩ := blocks1 w (.cells #[.int .i64 c, .int .i64 n, .int .i64 1, .int .i64 x, .int .i64 y] 34)
  rw [← hW]
  clear hW sW
  have aX := carryN kW aP
  have O := Lib.hid (h.below kW)
  have KD := Lib.hid (kW.mono hDw)
  have hPQ : ¬ (P = w.heap.size) := by omega
  have hQP : ¬ (w.heap.size = P) := by omega
  have ga := cellRe aX
  have gq := cellRe qX
  have cF := quietC (w := W) (fun V hV => figure_c es c a0 a1 a2 n0 16 n2 n0 c1 c2 V ((O.out.e.slG five_len HN0.out).below hV))
  rw [figI_opt, hfig] at cF
  clear aP h hn0 hn1 hn2 hp hf kW hlP
  go_wp2_with fail
  refine wp_region_quiet_below (by kernel_rfl) (by kernel_rfl) ?_
  repeat (go_big_quiet_step (first | with_reducible exact cF _ _))
  refine wpQuiet_nil ?_
  intro _ hw'
  obtain ⟨⟨dq, osq⟩, hw''⟩ := hw'
  subst hw''
  have hkb := below_regrown W dq osq
  replace aX := carryN hkb aX
  replace qX := carryN hkb qX
  replace O := Lib.hid (O.out.below hkb)
  replace KD := Lib.hid (KD.out.trans (hkb.mono (Nat.le_trans hDw KD.out.size)))
  clear hkb
  generalize Sort.grow (redrawn W dq) osq = X at *
  clear ga gq cF
  have cA := cell_of_block aX
  have cQ := cell_of_block qX
  have ho : optI none = -1 := rfl
  rw [ho]
  clear ho
  have hw1 : IntKind.i64.wrap (c - 1) = c - 1 := IntWalk.i64_in _ ⟨by omega, by omega⟩
  go_wp2_with fail
  go_loopw [6] (fun i wr => ∃ k : Nat, k ≤ n0 ∧ i = .int .i64 k ∧ (∀ j (hj : j < es.length), j < k → es[j].c < c) ∧ X.heap.size ≤ X.heap.size ∧ wr.heap[P]? = some (.cells #[.slice a0 n0 n0, .slice a1 16 c1, .slice a2 n2 c2] 46 (0, 0)) ∧ wr.heap[w.heap.size]? = some (.cells #[.int .i64 c, .int .i64 n, .int .i64 1, .int .i64 x, .int .i64 y] 34 (0, 0)) ∧ Hid (Own3 wr B a0 n0 a1 c1 a2 c2 ⟨es, fl, la⟩) ∧ Hid (Below D w wr)) (fun i _ => n0 - (intOf i).toNat)
  case atStart => exact ⟨0, Nat.zero_le _, rfl, fun j _ hj => absurd hj (Nat.not_lt_zero j), Nat.le_refl _, aX, qX, O, KD⟩
  case round =>
    clear aX qX O KD cA cQ
    obtain ⟨k, hk, rfl, hall, hsz, aX, qX, O, KD⟩ := hrel
    have HL := Lib.hid hall
    clear hall
    by_cases hlt : k < n0
    · have hkz : k < es.length := by rw [HN0.out]; exact hlt
      have hk1 : (k : Int) < (n0 : Int) := by omega
      have hk0 : (0 : Int) ≤ (k : Int) := by omega
      have hkd : decide (k < n0) = true := by simp; omega
      obtain ⟨g9, hg9, hgB, hgl, e0, -, -, -, -, -, -⟩ := O.out.e.entAt (i := k) hkz
      simp only at e0
      have hslot : a0 = some ⟨g9, 0, none⟩ := hg9
      subst hslot
      have x0 := cell_regrown e0
      have ga := cellRe aX
      have gq := cellRe qX
      clear e0
      by_cases he : es[k].c < c
      · have hed : decide (es[k].c < c) = true := by simp; omega
        go_wp2_with fail
        refine wp_region_quiet_below (by kernel_rfl) (by kernel_rfl) ?_
        repeat (go_big_quiet_step (fail))
        refine wpQuiet_nil ?_
        intro _ hw'
        obtain ⟨⟨dq, osq⟩, hw''⟩ := hw'
        subst hw''
        have hkb := below_regrown wr dq osq
        replace aX := carryN hkb aX
        replace qX := carryN hkb qX
        replace O := Lib.hid (O.out.below hkb)
        replace KD := Lib.hid (KD.out.trans (hkb.mono (Nat.le_trans hDw KD.out.size)))
        clear hkb
        generalize Sort.grow (redrawn wr dq) osq = X2 at *
        clear x0 ga gq
        go_wp2_with fail
        refine ⟨⟨k + 1, by omega, by go_num, fun j hj hjk => ?_, ?_, aX, qX, O, KD⟩, by simp [intOf]; omega⟩
        · by_cases hjk' : j = k
          · subst hjk'; exact he
          · exact HL.out j hj (by omega)
        · exact Nat.le_trans hsz (Nat.le_of_eq rfl)
      · have hed : decide (es[k].c < c) = false := by simp; omega
        go_wp2_with fail
        refine wp_region_quiet_below (by kernel_rfl) (by kernel_rfl) ?_
        repeat (go_big_quiet_step (fail))
        refine wpQuiet_nil ?_
        intro _ hw'
        obtain ⟨⟨dq, osq⟩, hw''⟩ := hw'
        subst hw''
        have hkb := below_regrown wr dq osq
        replace aX := carryN hkb aX
        replace qX := carryN hkb qX
        replace O := Lib.hid (O.out.below hkb)
        replace KD := Lib.hid (KD.out.trans (hkb.mono (Nat.le_trans hDw KD.out.size)))
        clear hkb
        generalize Sort.grow (redrawn wr dq) osq = X2 at *
        clear x0 ga gq
        have HJ := Lib.hid (joinE_at (c := c) (Nat.le_of_lt hkz) HL.out (fun _ => by omega))
        have cA := cell_of_block aX
        have cQ := cell_of_block qX
        go_wp2_with fail
        have hcd := cell_of_block (show X2.drew.heap[w.heap.size]? = _ from qX)
        refine wp_region_held_drew (S := fun w' => ∀ i, w'.cell? ⟨w.heap.size, i, none⟩ = (#[.int .i64 c, .int .i64 n, .int .i64 1, .int .i64 x, .int .i64 y] : Array Value)[i]?) (by kernel_rfl) hcd (fun hHeld => ?_)
        have O2 := Lib.hid O.out.drew
        have a2' := Lib.hid (show X2.drew.heap[P]? = _ from aX)
        have q2' := Lib.hid (show X2.drew.heap[w.heap.size]? = _ from qX)
        have K2 := Lib.hid KD.out.drew
        have hlt2 : w.heap.size < X2.drew.heap.size := lt_of_block qX
        clear aX qX O KD cA cQ hcd
        obtain ⟨U, hU⟩ : ∃ U, U = X2.drew := ⟨_, rfl⟩
        rw [← hU] at O2 a2' q2' K2 hlt2 hHeld ⊢
        clear hU
        refine wpAnyH_take (i := 0) (oi := _) (v := ?_) (by (simp only [List.getElem?_toArray]; rfl)) (by kernel_rfl) (by kernel_rfl) (by kernel_rfl) (by exact fun _ _ _ h => h) (Or.inl ⟨by rfl, ?_⟩) (by assumption) ?_
        rotate_left
        · intro wS hSw
          go_simp
          all_goals first | with_reducible rfl | rw [if_neg (by omega)]
        simp only [Act.put, List.setIfInBounds_toArray, List.set]
        refine wpAnyH_take (i := 1) (oi := _) (v := ?_) (by (simp only [List.getElem?_toArray]; rfl)) (by kernel_rfl) (by kernel_rfl) (by kernel_rfl) (by exact fun _ _ _ h => h) (Or.inl ⟨by rfl, ?_⟩) (by assumption) ?_
        rotate_left
        · intro wS hSw
          go_simp
          all_goals first | with_reducible rfl | rw [if_neg (by omega)]
        simp only [Act.put, List.setIfInBounds_toArray, List.set]
        refine wpAnyH_take (i := 2) (oi := _) (v := ?_) (by (simp only [List.getElem?_toArray]; rfl)) (by kernel_rfl) (by kernel_rfl) (by kernel_rfl) (by exact fun _ _ _ h => h) (Or.inl ⟨by rfl, ?_⟩) (by assumption) ?_
        rotate_left
        · intro wS hSw
          go_simp
          all_goals first | with_reducible rfl | rw [if_neg (by omega)]
        simp only [Act.put, List.setIfInBounds_toArray, List.set]
        refine wpAnyH_take (i := 3) (oi := _) (v := ?_) (by (simp only [List.getElem?_toArray]; rfl)) (by kernel_rfl) (by kernel_rfl) (by kernel_rfl) (by exact fun _ _ _ h => h) (Or.inl ⟨by rfl, ?_⟩) (by assumption) ?_
        rotate_left
        · intro wS hSw
          go_simp
          all_goals first | with_reducible rfl | rw [if_neg (by omega)]
        simp only [Act.put, List.setIfInBounds_toArray, List.set]
        refine wpAnyH_take (i := 5) (oi := _) (v := ?_) (by (simp only [List.getElem?_toArray]; rfl)) (by kernel_rfl) (by kernel_rfl) (by kernel_rfl) (by exact fun _ _ _ h => h) (Or.inl ⟨by rfl, ?_⟩) (by assumption) ?_
        rotate_left
        · intro wS hSw
          go_simp
          all_goals first | with_reducible rfl | rw [if_neg (by omega)]
        simp only [Act.put, List.setIfInBounds_toArray, List.set]
        refine wpAnyH_take (i := 6) (oi := _) (v := ?_) (by (simp only [List.getElem?_toArray]; rfl)) (by kernel_rfl) (by kernel_rfl) (by kernel_rfl) (by exact fun _ _ _ h => h) (Or.inl ⟨by rfl, ?_⟩) (by assumption) ?_
        rotate_left
        · intro wS hSw
          go_simp
          all_goals first | with_reducible rfl | rw [if_neg (by omega)]
        simp only [Act.put, List.setIfInBounds_toArray, List.set]
        refine wpAnyH_take (i := 7) (oi := _) (v := ?_) (by (simp only [List.getElem?_toArray]; rfl)) (by kernel_rfl) (by kernel_rfl) (by kernel_rfl) (by exact fun _ _ _ h => h) (Or.inl ⟨by rfl, ?_⟩) (by assumption) ?_
        rotate_left
        · intro wS hSw
          go_simp
          all_goals first | with_reducible rfl | rw [if_neg (by omega)]
        simp only [Act.put, List.setIfInBounds_toArray, List.set]
        refine wpAnyH_take (i := 8) (oi := _) (v := ?_) (by (simp only [List.getElem?_toArray]; rfl)) (by kernel_rfl) (by kernel_rfl) (by kernel_rfl) (by exact fun _ _ _ h => h) (Or.inl ⟨by rfl, ?_⟩) (by assumption) ?_
        rotate_left
        · intro wS hSw
          go_simp
          all_goals first | with_reducible rfl | rw [if_neg (by omega)]
        simp only [Act.put, List.setIfInBounds_toArray, List.set]
        refine wpAnyH_take (i := 9) (oi := _) (v := ?_) (by (simp only [List.getElem?_toArray]; rfl)) (by kernel_rfl) (by kernel_rfl) (by kernel_rfl) (by exact fun _ _ _ h => h) (Or.inl ⟨by rfl, ?_⟩) (by assumption) ?_
        rotate_left
        · intro wS hSw
          go_simp
          all_goals first | with_reducible rfl | rw [if_neg (by omega)]
        simp only [Act.put, List.setIfInBounds_toArray, List.set]
        refine wpAnyH_take (i := 10) (oi := _) (v := ?_) (by (simp only [List.getElem?_toArray]; rfl)) (by kernel_rfl) (by kernel_rfl) (by kernel_rfl) (by exact fun _ _ _ h => h) (Or.inl ⟨by rfl, ?_⟩) (by assumption) ?_
        rotate_left
        · intro wS hSw
          go_simp
          all_goals first | with_reducible rfl | rw [if_neg (by omega)]
        simp only [Act.put, List.setIfInBounds_toArray, List.set]
        refine wpAnyH_take (i := 11) (oi := _) (v := ?_) (by (simp only [List.getElem?_toArray]; rfl)) (by kernel_rfl) (by kernel_rfl) (by kernel_rfl) (by exact fun _ _ _ h => h) (Or.inl ⟨by rfl, ?_⟩) (by assumption) ?_
        rotate_left
        · intro wS hSw
          go_simp
          all_goals first | with_reducible rfl | rw [if_neg (by omega)]
        simp only [Act.put, List.setIfInBounds_toArray, List.set]
        refine wpAnyH_take (i := 12) (oi := _) (v := ?_) (by (simp only [List.getElem?_toArray]; rfl)) (by kernel_rfl) (by kernel_rfl) (by kernel_rfl) (by exact fun _ _ _ h => h) (Or.inl ⟨by rfl, ?_⟩) (by assumption) ?_
        rotate_left
        · intro wS hSw
          go_simp
          all_goals first | with_reducible rfl | rw [if_neg (by omega)]
        simp only [Act.put, List.setIfInBounds_toArray, List.set]
        refine wpAnyH_take (i := 13) (oi := _) (v := ?_) (by (simp only [List.getElem?_toArray]; rfl)) (by kernel_rfl) (by kernel_rfl) (by kernel_rfl) (by exact fun _ _ _ h => h) (Or.inl ⟨by rfl, ?_⟩) (by assumption) ?_
        rotate_left
        · intro wS hSw
          go_simp
          all_goals first | with_reducible rfl | rw [if_neg (by omega)]
        simp only [Act.put, List.setIfInBounds_toArray, List.set]
        refine wpAnyH_take (i := 14) (oi := _) (v := ?_) (by (simp only [List.getElem?_toArray]; rfl)) (by kernel_rfl) (by kernel_rfl) (by kernel_rfl) (by exact fun _ _ _ h => h) (Or.inl ⟨by rfl, ?_⟩) (by assumption) ?_
        rotate_left
        · intro wS hSw
          go_simp
          all_goals first | with_reducible rfl | rw [if_neg (by omega)]
        simp only [Act.put, List.setIfInBounds_toArray, List.set]
        refine wpAnyH_ready (rs := [4, 15]) (by kernel_rfl) (by simp) ?_
        refine AllReadyH.cons (o := _) (by (simp only [List.getElem?_toArray]; rfl)) (fun K hK => ?_) ?_
        · have cA := cell_of_block a2'.out
          go_simp
          refine hK.out _ _ hHeld (fun _ => ?_)
          clear hK K cA
          try simp only [Act.put, List.setIfInBounds_toArray, List.set]
          refine wpAnyH_ready (rs := [15]) (by kernel_rfl) (by simp) ?_
          refine AllReadyH.cons (o := _) (by (simp only [List.getElem?_toArray]; rfl)) (fun K hK => ?_) AllReadyH.nil
          go_simp
          obtain ⟨V, hV, sV, vV, kV⟩ := blocks1 U (.cells #[.int .i64 c, .int .i64 (c - 1), .int .i64 (c - 1), .int .i64 3, .int .i64 0] 92)
          rw [← hV]
          clear hV sV
          have OV := Lib.hid (O2.out.below kV)
          have aV := Lib.hid (carryN kV a2'.out)
          have qV := Lib.hid (carryN kV q2'.out)
          have KV := Lib.hid (K2.out.trans (kV.mono (Nat.le_trans hDw K2.out.size)))
          have hqV := cell_of_block qV.out
          refine hK.out _ _ hqV (fun _ => ?_)
          clear hK K
          try simp only [Act.put, List.setIfInBounds_toArray, List.set]
          refine wpAnyH_ready (rs := [16]) (by kernel_rfl) (by simp) ?_
          refine AllReadyH.cons (o := _) (by (simp only [List.getElem?_toArray]; rfl)) (fun K hK => ?_) AllReadyH.nil
          go_simp
          refine (slInsertEnt_c (n := n0) (i := k) U.heap.size ⟨c, c - 1, c - 1, 3, 0⟩ V OV.out.e HN0.out (by omega) (by omega) vV).mono ?_
          rintro e v1 ⟨b1, d1, rfl, r1, k1⟩
          rw [← HJ.out] at r1
          have O3 := Lib.hid (OV.out.below k1)
          have a3 := Lib.hid (carryN k1 aV.out)
          have q3 := Lib.hid (carryN k1 qV.out)
          have K3 := Lib.hid (KV.out.trans (k1.mono (Nat.le_trans hDw KV.out.size)))
          have hq3 := cell_of_block q3.out
          have HJL := Lib.hid (show (joinE es c).length = n0 + 1 by
            rw [HJ.out]
            simp only [List.length_append, List.length_take, List.length_drop, List.length_cons, List.length_nil, HN0.out]
            omega)
          have R1 := Lib.hid (r1.slG five_len HJL.out)
          clear r1 k1
          refine hK.out _ _ hq3 (fun _ => ?_)
          clear hK K
          try simp only [Act.put, List.setIfInBounds_toArray, List.set]
          refine wpAnyH_ready (rs := [17]) (by kernel_rfl) (by simp) ?_
          refine AllReadyH.cons (o := _) (by (simp only [List.getElem?_toArray]; rfl)) (fun K hK => ?_) AllReadyH.nil
          go_simp
          refine (cloneEnt_c b1 (n0 + 1) d1 (joinE es c) v1 R1.out (by omega)).mono ?_
          intro e v2 hcl
          obtain ⟨b2, rfl, r2, k2⟩ := hcl.row
          have O4 := Lib.hid (O3.out.newE k2 r2 (Nat.le_refl _) (Nat.le_trans hB (by have := lt_of_block q3.out; omega)))
          have a4 := Lib.hid (carryN k2 a3.out)
          have q4 := Lib.hid (carryN k2 q3.out)
          have K4 := Lib.hid (K3.out.trans (k2.mono (Nat.le_trans hDw K3.out.size)))
          have hq4 := cell_of_block q4.out
          clear r2 k2 hcl
          refine hK.out _ _ hq4 (fun _ => ?_)
          clear hK K
          try simp only [Act.put, List.setIfInBounds_toArray, List.set]
          rename_i hHeld2
          refine wpAnyH_take (i := 18) (oi := _) (v := ?_) (by (simp only [List.getElem?_toArray]; rfl)) (by kernel_rfl) (by kernel_rfl) (by kernel_rfl) (by exact fun _ _ _ h => h) (Or.inl ⟨by rfl, ?_⟩) (by assumption) ?_
          rotate_left
          · intro wS hSw
            go_simp
            all_goals first | with_reducible rfl | rw [if_neg (by omega)]
          simp only [Act.put, List.setIfInBounds_toArray, List.set]
          refine wpAnyH_take (i := 19) (oi := _) (v := ?_) (by (simp only [List.getElem?_toArray]; rfl)) (by kernel_rfl) (by kernel_rfl) (by kernel_rfl) (by exact fun _ _ _ h => h) (Or.inl ⟨by rfl, ?_⟩) (by assumption) ?_
          rotate_left
          · intro wS hSw
            go_simp
            all_goals first | with_reducible rfl | rw [if_neg (by omega)]
          simp only [Act.put, List.setIfInBounds_toArray, List.set]
          have cA := cell_of_block a4.out
          have fA := unfrozen_of_block a4.out
          have lA := lt_of_block a4.out
          refine wpAnyH_ready (rs := [20]) (by kernel_rfl) (by simp) ?_
          refine AllReadyH.cons (o := _) (by (simp only [List.getElem?_toArray]; rfl)) (fun K hK => ?_) AllReadyH.nil
          go_simp
          refine hK.out _ _ (fun i => ((World.cell?_setCell_other _ _ _ _ (by first | (simp; done) | (simp; omega))).trans (hq4 i))) (fun _ => ?_)
          clear hK K
          try simp only [Act.put, List.setIfInBounds_toArray, List.set]
          refine wpAnyH_done (by kernel_rfl) ?_ _
          go_wp2_with fail
          go_ret
          refine actOut (n0 := n0 + 1) (a0 := b2) ?_ (O4.out.setType a4.out (by decide) (by decide) 0 (.slice b2 (n0 + 1) (n0 + 1))) (Below.setCell K4.out hDP _) HJL.out HN1.out HN2.out
          have := block_setCell (i := 0) a4.out (.slice b2 (n0 + 1) (n0 + 1))
          simpa only [List.setIfInBounds_toArray, List.set] using this
        refine AllReadyH.cons (o := _) (by (simp only [List.getElem?_toArray]; rfl)) (fun K hK => ?_) AllReadyH.nil
        go_simp
        obtain ⟨V, hV, sV, vV, kV⟩ := blocks1 U (.cells #[.int .i64 c, .int .i64 (c - 1), .int .i64 (c - 1), .int .i64 3, .int .i64 0] 92)
        rw [← hV]
        clear hV sV
        have OV := Lib.hid (O2.out.below kV)
        have aV := Lib.hid (carryN kV a2'.out)
        have qV := Lib.hid (carryN kV q2'.out)
        have KV := Lib.hid (K2.out.trans (kV.mono (Nat.le_trans hDw K2.out.size)))
        have hqV := cell_of_block qV.out
        refine hK.out _ _ hqV (fun _ => ?_)
        clear hK K
        try simp only [Act.put, List.setIfInBounds_toArray, List.set]
        refine wpAnyH_ready (rs := [4]) (by kernel_rfl) (by simp) ?_
        refine AllReadyH.cons (o := _) (by (simp only [List.getElem?_toArray]; rfl)) (fun K hK => ?_) AllReadyH.nil
        have cA := cell_of_block aV.out
        go_simp
        refine hK.out _ _ hqV (fun _ => ?_)
        clear hK K cA
        try simp only [Act.put, List.setIfInBounds_toArray, List.set]
        refine wpAnyH_ready (rs := [16]) (by kernel_rfl) (by simp) ?_
        refine AllReadyH.cons (o := _) (by (simp only [List.getElem?_toArray]; rfl)) (fun K hK => ?_) AllReadyH.nil
        go_simp
        refine (slInsertEnt_c (n := n0) (i := k) U.heap.size ⟨c, c - 1, c - 1, 3, 0⟩ V OV.out.e HN0.out (by omega) (by omega) vV).mono ?_
        rintro e v1 ⟨b1, d1, rfl, r1, k1⟩
        rw [← HJ.out] at r1
        have O3 := Lib.hid (OV.out.below k1)
        have a3 := Lib.hid (carryN k1 aV.out)
        have q3 := Lib.hid (carryN k1 qV.out)
        have K3 := Lib.hid (KV.out.trans (k1.mono (Nat.le_trans hDw KV.out.size)))
        have hq3 := cell_of_block q3.out
        have HJL := Lib.hid (show (joinE es c).length = n0 + 1 by
          rw [HJ.out]
          simp only [List.length_append, List.length_take, List.length_drop, List.length_cons, List.length_nil, HN0.out]
          omega)
        have R1 := Lib.hid (r1.slG five_len HJL.out)
        clear r1 k1
        refine hK.out _ _ hq3 (fun _ => ?_)
        clear hK K
        try simp only [Act.put, List.setIfInBounds_toArray, List.set]
        refine wpAnyH_ready (rs := [17]) (by kernel_rfl) (by simp) ?_
        refine AllReadyH.cons (o := _) (by (simp only [List.getElem?_toArray]; rfl)) (fun K hK => ?_) AllReadyH.nil
        go_simp
        refine (cloneEnt_c b1 (n0 + 1) d1 (joinE es c) v1 R1.out (by omega)).mono ?_
        intro e v2 hcl
        obtain ⟨b2, rfl, r2, k2⟩ := hcl.row
        have O4 := Lib.hid (O3.out.newE k2 r2 (Nat.le_refl _) (Nat.le_trans hB (by have := lt_of_block q3.out; omega)))
        have a4 := Lib.hid (carryN k2 a3.out)
        have q4 := Lib.hid (carryN k2 q3.out)
        have K4 := Lib.hid (K3.out.trans (k2.mono (Nat.le_trans hDw K3.out.size)))
        have hq4 := cell_of_block q4.out
        clear r2 k2 hcl
        refine hK.out _ _ hq4 (fun _ => ?_)
        clear hK K
        try simp only [Act.put, List.setIfInBounds_toArray, List.set]
        rename_i hHeld2
        refine wpAnyH_take (i := 18) (oi := _) (v := ?_) (by (simp only [List.getElem?_toArray]; rfl)) (by kernel_rfl) (by kernel_rfl) (by kernel_rfl) (by exact fun _ _ _ h => h) (Or.inl ⟨by rfl, ?_⟩) (by assumption) ?_
        rotate_left
        · intro wS hSw
          go_simp
          all_goals first | with_reducible rfl | rw [if_neg (by omega)]
        simp only [Act.put, List.setIfInBounds_toArray, List.set]
        refine wpAnyH_take (i := 19) (oi := _) (v := ?_) (by (simp only [List.getElem?_toArray]; rfl)) (by kernel_rfl) (by kernel_rfl) (by kernel_rfl) (by exact fun _ _ _ h => h) (Or.inl ⟨by rfl, ?_⟩) (by assumption) ?_
        rotate_left
        · intro wS hSw
          go_simp
          all_goals first | with_reducible rfl | rw [if_neg (by omega)]
        simp only [Act.put, List.setIfInBounds_toArray, List.set]
        have cA := cell_of_block a4.out
        have fA := unfrozen_of_block a4.out
        have lA := lt_of_block a4.out
        refine wpAnyH_ready (rs := [20]) (by kernel_rfl) (by simp) ?_
        refine AllReadyH.cons (o := _) (by (simp only [List.getElem?_toArray]; rfl)) (fun K hK => ?_) AllReadyH.nil
        go_simp
        refine hK.out _ _ (fun i => ((World.cell?_setCell_other _ _ _ _ (by first | (simp; done) | (simp; omega))).trans (hq4 i))) (fun _ => ?_)
        clear hK K
        try simp only [Act.put, List.setIfInBounds_toArray, List.set]
        refine wpAnyH_done (by kernel_rfl) ?_ _
        go_wp2_with fail
        go_ret
        refine actOut (n0 := n0 + 1) (a0 := b2) ?_ (O4.out.setType a4.out (by decide) (by decide) 0 (.slice b2 (n0 + 1) (n0 + 1))) (Below.setCell K4.out hDP _) HJL.out HN1.out HN2.out
        have := block_setCell (i := 0) a4.out (.slice b2 (n0 + 1) (n0 + 1))
        simpa only [List.setIfInBounds_toArray, List.set] using this
    · have hkk : k = n0 := by omega
      subst hkk
      have hkd : decide (k < k) = false := by simp
      have hk0 : (0 : Int) ≤ (k : Int) := by omega
      have ga := cellRe aX
      have gq := cellRe qX
      go_wp2_with fail
      refine wp_region_quiet_below (by kernel_rfl) (by kernel_rfl) ?_
      repeat (go_big_quiet_step (fail))
      refine wpQuiet_nil ?_
      intro _ hw'
      obtain ⟨⟨dq, osq⟩, hw''⟩ := hw'
      subst hw''
      have hkb := below_regrown wr dq osq
      replace aX := carryN hkb aX
      replace qX := carryN hkb qX
      replace O := Lib.hid (O.out.below hkb)
      replace KD := Lib.hid (KD.out.trans (hkb.mono (Nat.le_trans hDw KD.out.size)))
      clear hkb
      generalize Sort.grow (redrawn wr dq) osq = X2 at *
      clear ga gq
      have HJ := Lib.hid (joinE_at (c := c) (k := k) (by rw [HN0.out]; exact Nat.le_refl _) HL.out (fun h => absurd h (by rw [HN0.out]; exact Nat.lt_irrefl _)))
      have cA := cell_of_block aX
      have cQ := cell_of_block qX
      go_wp2_with fail
      have hcd := cell_of_block (show X2.drew.heap[w.heap.size]? = _ from qX)
      refine wp_region_held_drew (S := fun w' => ∀ i, w'.cell? ⟨w.heap.size, i, none⟩ = (#[.int .i64 c, .int .i64 n, .int .i64 1, .int .i64 x, .int .i64 y] : Array Value)[i]?) (by kernel_rfl) hcd (fun hHeld => ?_)
      have O2 := Lib.hid O.out.drew
      have a2' := Lib.hid (show X2.drew.heap[P]? = _ from aX)
      have q2' := Lib.hid (show X2.drew.heap[w.heap.size]? = _ from qX)
      have K2 := Lib.hid KD.out.drew
      have hlt2 : w.heap.size < X2.drew.heap.size := lt_of_block qX
      clear aX qX O KD cA cQ hcd
      obtain ⟨U, hU⟩ : ∃ U, U = X2.drew := ⟨_, rfl⟩
      rw [← hU] at O2 a2' q2' K2 hlt2 hHeld ⊢
      clear hU
      refine wpAnyH_take (i := 0) (oi := _) (v := ?_) (by (simp only [List.getElem?_toArray]; rfl)) (by kernel_rfl) (by kernel_rfl) (by kernel_rfl) (by exact fun _ _ _ h => h) (Or.inl ⟨by rfl, ?_⟩) (by assumption) ?_
      rotate_left
      · intro wS hSw
        go_simp
        all_goals first | with_reducible rfl | rw [if_neg (by omega)]
      simp only [Act.put, List.setIfInBounds_toArray, List.set]
      refine wpAnyH_take (i := 1) (oi := _) (v := ?_) (by (simp only [List.getElem?_toArray]; rfl)) (by kernel_rfl) (by kernel_rfl) (by kernel_rfl) (by exact fun _ _ _ h => h) (Or.inl ⟨by rfl, ?_⟩) (by assumption) ?_
      rotate_left
      · intro wS hSw
        go_simp
        all_goals first | with_reducible rfl | rw [if_neg (by omega)]
      simp only [Act.put, List.setIfInBounds_toArray, List.set]
      refine wpAnyH_take (i := 2) (oi := _) (v := ?_) (by (simp only [List.getElem?_toArray]; rfl)) (by kernel_rfl) (by kernel_rfl) (by kernel_rfl) (by exact fun _ _ _ h => h) (Or.inl ⟨by rfl, ?_⟩) (by assumption) ?_
      rotate_left
      · intro wS hSw
        go_simp
        all_goals first | with_reducible rfl | rw [if_neg (by omega)]
      simp only [Act.put, List.setIfInBounds_toArray, List.set]
      refine wpAnyH_take (i := 3) (oi := _) (v := ?_) (by (simp only [List.getElem?_toArray]; rfl)) (by kernel_rfl) (by kernel_rfl) (by kernel_rfl) (by exact fun _ _ _ h => h) (Or.inl ⟨by rfl, ?_⟩) (by assumption) ?_
      rotate_left
      · intro wS hSw
        go_simp
        all_goals first | with_reducible rfl | rw [if_neg (by omega)]
      simp only [Act.put, List.setIfInBounds_toArray, List.set]
      refine wpAnyH_take (i := 5) (oi := _) (v := ?_) (by (simp only [List.getElem?_toArray]; rfl)) (by kernel_rfl) (by kernel_rfl) (by kernel_rfl) (by exact fun _ _ _ h => h) (Or.inl ⟨by rfl, ?_⟩) (by assumption) ?_
      rotate_left
      · intro wS hSw
        go_simp
        all_goals first | with_reducible rfl | rw [if_neg (by omega)]
      simp only [Act.put, List.setIfInBounds_toArray, List.set]
      refine wpAnyH_take (i := 6) (oi := _) (v := ?_) (by (simp only [List.getElem?_toArray]; rfl)) (by kernel_rfl) (by kernel_rfl) (by kernel_rfl) (by exact fun _ _ _ h => h) (Or.inl ⟨by rfl, ?_⟩) (by assumption) ?_
      rotate_left
      · intro wS hSw
        go_simp
        all_goals first | with_reducible rfl | rw [if_neg (by omega)]
      simp only [Act.put, List.setIfInBounds_toArray, List.set]
      refine wpAnyH_take (i := 7) (oi := _) (v := ?_) (by (simp only [List.getElem?_toArray]; rfl)) (by kernel_rfl) (by kernel_rfl) (by kernel_rfl) (by exact fun _ _ _ h => h) (Or.inl ⟨by rfl, ?_⟩) (by assumption) ?_
      rotate_left
      · intro wS hSw
        go_simp
        all_goals first | with_reducible rfl | rw [if_neg (by omega)]
      simp only [Act.put, List.setIfInBounds_toArray, List.set]
      refine wpAnyH_take (i := 8) (oi := _) (v := ?_) (by (simp only [List.getElem?_toArray]; rfl)) (by kernel_rfl) (by kernel_rfl) (by kernel_rfl) (by exact fun _ _ _ h => h) (Or.inl ⟨by rfl, ?_⟩) (by assumption) ?_
      rotate_left
      · intro wS hSw
        go_simp
        all_goals first | with_reducible rfl | rw [if_neg (by omega)]
      simp only [Act.put, List.setIfInBounds_toArray, List.set]
      refine wpAnyH_take (i := 9) (oi := _) (v := ?_) (by (simp only [List.getElem?_toArray]; rfl)) (by kernel_rfl) (by kernel_rfl) (by kernel_rfl) (by exact fun _ _ _ h => h) (Or.inl ⟨by rfl, ?_⟩) (by assumption) ?_
      rotate_left
      · intro wS hSw
        go_simp
        all_goals first | with_reducible rfl | rw [if_neg (by omega)]
      simp only [Act.put, List.setIfInBounds_toArray, List.set]
      refine wpAnyH_take (i := 10) (oi := _) (v := ?_) (by (simp only [List.getElem?_toArray]; rfl)) (by kernel_rfl) (by kernel_rfl) (by kernel_rfl) (by exact fun _ _ _ h => h) (Or.inl ⟨by rfl, ?_⟩) (by assumption) ?_
      rotate_left
      · intro wS hSw
        go_simp
        all_goals first | with_reducible rfl | rw [if_neg (by omega)]
      simp only [Act.put, List.setIfInBounds_toArray, List.set]
      refine wpAnyH_take (i := 11) (oi := _) (v := ?_) (by (simp only [List.getElem?_toArray]; rfl)) (by kernel_rfl) (by kernel_rfl) (by kernel_rfl) (by exact fun _ _ _ h => h) (Or.inl ⟨by rfl, ?_⟩) (by assumption) ?_
      rotate_left
      · intro wS hSw
        go_simp
        all_goals first | with_reducible rfl | rw [if_neg (by omega)]
      simp only [Act.put, List.setIfInBounds_toArray, List.set]
      refine wpAnyH_take (i := 12) (oi := _) (v := ?_) (by (simp only [List.getElem?_toArray]; rfl)) (by kernel_rfl) (by kernel_rfl) (by kernel_rfl) (by exact fun _ _ _ h => h) (Or.inl ⟨by rfl, ?_⟩) (by assumption) ?_
      rotate_left
      · intro wS hSw
        go_simp
        all_goals first | with_reducible rfl | rw [if_neg (by omega)]
      simp only [Act.put, List.setIfInBounds_toArray, List.set]
      refine wpAnyH_take (i := 13) (oi := _) (v := ?_) (by (simp only [List.getElem?_toArray]; rfl)) (by kernel_rfl) (by kernel_rfl) (by kernel_rfl) (by exact fun _ _ _ h => h) (Or.inl ⟨by rfl, ?_⟩) (by assumption) ?_
      rotate_left
      · intro wS hSw
        go_simp
        all_goals first | with_reducible rfl | rw [if_neg (by omega)]
      simp only [Act.put, List.setIfInBounds_toArray, List.set]
      refine wpAnyH_take (i := 14) (oi := _) (v := ?_) (by (simp only [List.getElem?_toArray]; rfl)) (by kernel_rfl) (by kernel_rfl) (by kernel_rfl) (by exact fun _ _ _ h => h) (Or.inl ⟨by rfl, ?_⟩) (by assumption) ?_
      rotate_left
      · intro wS hSw
        go_simp
        all_goals first | with_reducible rfl | rw [if_neg (by omega)]
      simp only [Act.put, List.setIfInBounds_toArray, List.set]
      refine wpAnyH_ready (rs := [4, 15]) (by kernel_rfl) (by simp) ?_
      refine AllReadyH.cons (o := _) (by (simp only [List.getElem?_toArray]; rfl)) (fun K hK => ?_) ?_
      · have cA := cell_of_block a2'.out
        go_simp
        refine hK.out _ _ hHeld (fun _ => ?_)
        clear hK K cA
        try simp only [Act.put, List.setIfInBounds_toArray, List.set]
        refine wpAnyH_ready (rs := [15]) (by kernel_rfl) (by simp) ?_
        refine AllReadyH.cons (o := _) (by (simp only [List.getElem?_toArray]; rfl)) (fun K hK => ?_) AllReadyH.nil
        go_simp
        obtain ⟨V, hV, sV, vV, kV⟩ := blocks1 U (.cells #[.int .i64 c, .int .i64 (c - 1), .int .i64 (c - 1), .int .i64 3, .int .i64 0] 92)
        rw [← hV]
        clear hV sV
        have OV := Lib.hid (O2.out.below kV)
        have aV := Lib.hid (carryN kV a2'.out)
        have qV := Lib.hid (carryN kV q2'.out)
        have KV := Lib.hid (K2.out.trans (kV.mono (Nat.le_trans hDw K2.out.size)))
        have hqV := cell_of_block qV.out
        refine hK.out _ _ hqV (fun _ => ?_)
        clear hK K
        try simp only [Act.put, List.setIfInBounds_toArray, List.set]
        refine wpAnyH_ready (rs := [16]) (by kernel_rfl) (by simp) ?_
        refine AllReadyH.cons (o := _) (by (simp only [List.getElem?_toArray]; rfl)) (fun K hK => ?_) AllReadyH.nil
        go_simp
        refine (slInsertEnt_c (n := k) (i := k) U.heap.size ⟨c, c - 1, c - 1, 3, 0⟩ V OV.out.e HN0.out (by omega) (by omega) vV).mono ?_
        rintro e v1 ⟨b1, d1, rfl, r1, k1⟩
        rw [← HJ.out] at r1
        have O3 := Lib.hid (OV.out.below k1)
        have a3 := Lib.hid (carryN k1 aV.out)
        have q3 := Lib.hid (carryN k1 qV.out)
        have K3 := Lib.hid (KV.out.trans (k1.mono (Nat.le_trans hDw KV.out.size)))
        have hq3 := cell_of_block q3.out
        have HJL := Lib.hid (show (joinE es c).length = k + 1 by
          rw [HJ.out]
          simp only [List.length_append, List.length_take, List.length_drop, List.length_cons, List.length_nil, HN0.out]
          omega)
        have R1 := Lib.hid (r1.slG five_len HJL.out)
        clear r1 k1
        refine hK.out _ _ hq3 (fun _ => ?_)
        clear hK K
        try simp only [Act.put, List.setIfInBounds_toArray, List.set]
        refine wpAnyH_ready (rs := [17]) (by kernel_rfl) (by simp) ?_
        refine AllReadyH.cons (o := _) (by (simp only [List.getElem?_toArray]; rfl)) (fun K hK => ?_) AllReadyH.nil
        go_simp
        refine (cloneEnt_c b1 (k + 1) d1 (joinE es c) v1 R1.out (by omega)).mono ?_
        intro e v2 hcl
        obtain ⟨b2, rfl, r2, k2⟩ := hcl.row
        have O4 := Lib.hid (O3.out.newE k2 r2 (Nat.le_refl _) (Nat.le_trans hB (by have := lt_of_block q3.out; omega)))
        have a4 := Lib.hid (carryN k2 a3.out)
        have q4 := Lib.hid (carryN k2 q3.out)
        have K4 := Lib.hid (K3.out.trans (k2.mono (Nat.le_trans hDw K3.out.size)))
        have hq4 := cell_of_block q4.out
        clear r2 k2 hcl
        refine hK.out _ _ hq4 (fun _ => ?_)
        clear hK K
        try simp only [Act.put, List.setIfInBounds_toArray, List.set]
        rename_i hHeld2
        refine wpAnyH_take (i := 18) (oi := _) (v := ?_) (by (simp only [List.getElem?_toArray]; rfl)) (by kernel_rfl) (by kernel_rfl) (by kernel_rfl) (by exact fun _ _ _ h => h) (Or.inl ⟨by rfl, ?_⟩) (by assumption) ?_
        rotate_left
        · intro wS hSw
          go_simp
          all_goals first | with_reducible rfl | rw [if_neg (by omega)]
        simp only [Act.put, List.setIfInBounds_toArray, List.set]
        refine wpAnyH_take (i := 19) (oi := _) (v := ?_) (by (simp only [List.getElem?_toArray]; rfl)) (by kernel_rfl) (by kernel_rfl) (by kernel_rfl) (by exact fun _ _ _ h => h) (Or.inl ⟨by rfl, ?_⟩) (by assumption) ?_
        rotate_left
        · intro wS hSw
          go_simp
          all_goals first | with_reducible rfl | rw [if_neg (by omega)]
        simp only [Act.put, List.setIfInBounds_toArray, List.set]
        have cA := cell_of_block a4.out
        have fA := unfrozen_of_block a4.out
        have lA := lt_of_block a4.out
        refine wpAnyH_ready (rs := [20]) (by kernel_rfl) (by simp) ?_
        refine AllReadyH.cons (o := _) (by (simp only [List.getElem?_toArray]; rfl)) (fun K hK => ?_) AllReadyH.nil
        go_simp
        refine hK.out _ _ (fun i => ((World.cell?_setCell_other _ _ _ _ (by first | (simp; done) | (simp; omega))).trans (hq4 i))) (fun _ => ?_)
        clear hK K
        try simp only [Act.put, List.setIfInBounds_toArray, List.set]
        refine wpAnyH_done (by kernel_rfl) ?_ _
        go_wp2_with fail
        go_ret
        refine actOut (n0 := k + 1) (a0 := b2) ?_ (O4.out.setType a4.out (by decide) (by decide) 0 (.slice b2 (k + 1) (k + 1))) (Below.setCell K4.out hDP _) HJL.out HN1.out HN2.out
        have := block_setCell (i := 0) a4.out (.slice b2 (k + 1) (k + 1))
        simpa only [List.setIfInBounds_toArray, List.set] using this
      refine AllReadyH.cons (o := _) (by (simp only [List.getElem?_toArray]; rfl)) (fun K hK => ?_) AllReadyH.nil
      go_simp
      obtain ⟨V, hV, sV, vV, kV⟩ := blocks1 U (.cells #[.int .i64 c, .int .i64 (c - 1), .int .i64 (c - 1), .int .i64 3, .int .i64 0] 92)
      rw [← hV]
      clear hV sV
      have OV := Lib.hid (O2.out.below kV)
      have aV := Lib.hid (carryN kV a2'.out)
      have qV := Lib.hid (carryN kV q2'.out)
      have KV := Lib.hid (K2.out.trans (kV.mono (Nat.le_trans hDw K2.out.size)))
      have hqV := cell_of_block qV.out
      refine hK.out _ _ hqV (fun _ => ?_)
      clear hK K
      try simp only [Act.put, List.setIfInBounds_toArray, List.set]
      refine wpAnyH_ready (rs := [4]) (by kernel_rfl) (by simp) ?_
      refine AllReadyH.cons (o := _) (by (simp only [List.getElem?_toArray]; rfl)) (fun K hK => ?_) AllReadyH.nil
      have cA := cell_of_block aV.out
      go_simp
      refine hK.out _ _ hqV (fun _ => ?_)
      clear hK K cA
      try simp only [Act.put, List.setIfInBounds_toArray, List.set]
      refine wpAnyH_ready (rs := [16]) (by kernel_rfl) (by simp) ?_
      refine AllReadyH.cons (o := _) (by (simp only [List.getElem?_toArray]; rfl)) (fun K hK => ?_) AllReadyH.nil
      go_simp
      refine (slInsertEnt_c (n := k) (i := k) U.heap.size ⟨c, c - 1, c - 1, 3, 0⟩ V OV.out.e HN0.out (by omega) (by omega) vV).mono ?_
      rintro e v1 ⟨b1, d1, rfl, r1, k1⟩
      rw [← HJ.out] at r1
      have O3 := Lib.hid (OV.out.below k1)
      have a3 := Lib.hid (carryN k1 aV.out)
      have q3 := Lib.hid (carryN k1 qV.out)
      have K3 := Lib.hid (KV.out.trans (k1.mono (Nat.le_trans hDw KV.out.size)))
      have hq3 := cell_of_block q3.out
      have HJL := Lib.hid (show (joinE es c).length = k + 1 by
        rw [HJ.out]
        simp only [List.length_append, List.length_take, List.length_drop, List.length_cons, List.length_nil, HN0.out]
        omega)
      have R1 := Lib.hid (r1.slG five_len HJL.out)
      clear r1 k1
      refine hK.out _ _ hq3 (fun _ => ?_)
      clear hK K
      try simp only [Act.put, List.setIfInBounds_toArray, List.set]
      refine wpAnyH_ready (rs := [17]) (by kernel_rfl) (by simp) ?_
      refine AllReadyH.cons (o := _) (by (simp only [List.getElem?_toArray]; rfl)) (fun K hK => ?_) AllReadyH.nil
      go_simp
      refine (cloneEnt_c b1 (k + 1) d1 (joinE es c) v1 R1.out (by omega)).mono ?_
      intro e v2 hcl
      obtain ⟨b2, rfl, r2, k2⟩ := hcl.row
      have O4 := Lib.hid (O3.out.newE k2 r2 (Nat.le_refl _) (Nat.le_trans hB (by have := lt_of_block q3.out; omega)))
      have a4 := Lib.hid (carryN k2 a3.out)
      have q4 := Lib.hid (carryN k2 q3.out)
      have K4 := Lib.hid (K3.out.trans (k2.mono (Nat.le_trans hDw K3.out.size)))
      have hq4 := cell_of_block q4.out
      clear r2 k2 hcl
      refine hK.out _ _ hq4 (fun _ => ?_)
      clear hK K
      try simp only [Act.put, List.setIfInBounds_toArray, List.set]
      rename_i hHeld2
      refine wpAnyH_take (i := 18) (oi := _) (v := ?_) (by (simp only [List.getElem?_toArray]; rfl)) (by kernel_rfl) (by kernel_rfl) (by kernel_rfl) (by exact fun _ _ _ h => h) (Or.inl ⟨by rfl, ?_⟩) (by assumption) ?_
      rotate_left
      · intro wS hSw
        go_simp
        all_goals first | with_reducible rfl | rw [if_neg (by omega)]
      simp only [Act.put, List.setIfInBounds_toArray, List.set]
      refine wpAnyH_take (i := 19) (oi := _) (v := ?_) (by (simp only [List.getElem?_toArray]; rfl)) (by kernel_rfl) (by kernel_rfl) (by kernel_rfl) (by exact fun _ _ _ h => h) (Or.inl ⟨by rfl, ?_⟩) (by assumption) ?_
      rotate_left
      · intro wS hSw
        go_simp
        all_goals first | with_reducible rfl | rw [if_neg (by omega)]
      simp only [Act.put, List.setIfInBounds_toArray, List.set]
      have cA := cell_of_block a4.out
      have fA := unfrozen_of_block a4.out
      have lA := lt_of_block a4.out
      refine wpAnyH_ready (rs := [20]) (by kernel_rfl) (by simp) ?_
      refine AllReadyH.cons (o := _) (by (simp only [List.getElem?_toArray]; rfl)) (fun K hK => ?_) AllReadyH.nil
      go_simp
      refine hK.out _ _ (fun i => ((World.cell?_setCell_other _ _ _ _ (by first | (simp; done) | (simp; omega))).trans (hq4 i))) (fun _ => ?_)
      clear hK K
      try simp only [Act.put, List.setIfInBounds_toArray, List.set]
      refine wpAnyH_done (by kernel_rfl) ?_ _
      go_wp2_with fail
      go_ret
      refine actOut (n0 := k + 1) (a0 := b2) ?_ (O4.out.setType a4.out (by decide) (by decide) 0 (.slice b2 (k + 1) (k + 1))) (Below.setCell K4.out hDP _) HJL.out HN1.out HN2.out
      have := block_setCell (i := 0) a4.out (.slice b2 (k + 1) (k + 1))
      simpa only [List.setIfInBounds_toArray, List.set] using this
end Go.Proofs.Ytofedboeggdkaaa

/-! The program's act, moving and taking; condition: small sizes. -/
namespace Go.Proofs.Ytofedboeggdkaaa
open Go.RowKit Go.Joins

set_option maxRecDepth 100000 in
set_option maxHeartbeats 8000000 in
theorem act_move_no {D B : Nat} (es : List Rq) (fl la : List Int) (n0 n2 P : Nat) (a0 a1 a2 : Option Addr) (c1 c2 : Nat) (c n x y : Int) (w : World) (aP : w.heap[P]? = some (.cells #[.slice a0 n0 n0, .slice a1 16 c1, .slice a2 n2 c2] 46 (0, 0))) (h : Own3 w B a0 n0 a1 c1 a2 c2 ⟨es, fl, la⟩) (hn0 : es.length = n0) (hn1 : fl.length = 16) (hn2 : la.length = n2) (h4 : n0 ≤ 4) (hD : D ≤ B) (hDP : D ≤ P) (hp : Places es) (hf : ∀ n ∈ fl, 0 ≤ n ∧ n ≤ 20)
    (hc : 1 ≤ c ∧ c ≤ 4) (hx : -1 ≤ x ∧ x ≤ 4) (hy : -1 ≤ y ∧ y ≤ 9) (k : Nat) (hfig : figAt es c = some k) (hb : (inB ((entN es k).n + x) 0 3 && inB ((entN es k).o + y) 0 3) = false) :
    Calls Try.prog 83 #[.pointer (some ⟨P, 0, none⟩), .agg #[.int .i64 c, .int .i64 n, .int .i64 2, .int .i64 x, .int .i64 y]] w (ActOut D B P c1 c2 ⟨es, fl, la⟩ 6 w) := by
  have HN0 := Lib.hid hn0
  have HN1 := Lib.hid hn1
  have HN2 := Lib.hid hn2
  have HP := Lib.hid hp
  have HF := Lib.hid hf
  have hlP := lt_of_block aP
  have hDw : D ≤ w.heap.size := by omega
  go_enter Try.func83, Try.ntmps83
  go_upto_region 1 with fail
  obtain ⟨W, hW, sW, qX, kW⟩ := blocks1 w (.cells #[.int .i64 c, .int .i64 n, .int .i64 2, .int .i64 x, .int .i64 y] 34)
  rw [← hW]
  clear hW sW
  have aX := carryN kW aP
  have O := Lib.hid (h.below kW)
  have KD := Lib.hid (kW.mono hDw)
  have hPQ : ¬ (P = w.heap.size) := by omega
  have hQP : ¬ (w.heap.size = P) := by omega
  have ga := cellRe aX
  have gq := cellRe qX
  have cF := quietC (w := W) (fun V hV => figure_c es c a0 a1 a2 n0 16 n2 n0 c1 c2 V ((O.out.e.slG five_len HN0.out).below hV))
  rw [figI_opt, hfig] at cF
  clear aP h hn0 hn1 hn2 hp hf kW hlP
  go_wp2_with fail
  refine wp_region_quiet_below (by kernel_rfl) (by kernel_rfl) ?_
  repeat (go_big_quiet_step (first | with_reducible exact cF _ _))
  refine wpQuiet_nil ?_
  intro _ hw'
  obtain ⟨⟨dq, osq⟩, hw''⟩ := hw'
  subst hw''
  have hkb := below_regrown W dq osq
  replace aX := carryN hkb aX
  replace qX := carryN hkb qX
  replace O := Lib.hid (O.out.below hkb)
  replace KD := Lib.hid (KD.out.trans (hkb.mono (Nat.le_trans hDw KD.out.size)))
  clear hkb
  generalize Sort.grow (redrawn W dq) osq = X at *
  clear ga gq cF
  have cA := cell_of_block aX
  have cQ := cell_of_block qX
  have ho : optI (some k) = (k : Int) := rfl
  rw [ho]
  clear ho
  have hkz : k < es.length := by obtain ⟨hl, -⟩ := figAt_some hfig; exact hl
  have hkn : k < n0 := by rw [← HN0.out]; exact hkz
  have hk0 : (0 : Int) ≤ (k : Int) := by omega
  have hk1 : (k : Int) < (n0 : Int) := by omega
  have hkd : decide ((0 : Int) ≤ (k : Int)) = true := by simp
  have hkm : ¬ (k : Int) < 0 := by omega
  obtain ⟨g0, hg0, hgB, hgl, e0, e1, e2, e3, e4, ff, hr0⟩ := O.out.e.entAt (i := k) hkz
  simp only at e0 e1 e2 e3 e4
  subst hg0
  have hPk := HP.out _ (List.getElem_mem hkz)
  have HGK := Lib.hid (entN_get hkz)
  have hPg : ¬ P = g0 := fun e => by
    obtain ⟨g', cur, q1, -, q3, -⟩ := O.out.e.own (by have := O.out.e.len; omega)
    injection q1 with q1
    injection q1 with q1
    subst q1
    rw [← e, aX] at q3
    injection q3 with q3
    injection q3 with q3 q4
    exact absurd q4 (by decide)
  have hgP : ¬ g0 = P := fun e => hPg e.symm
  have hQg : ¬ w.heap.size = g0 := fun e => by
    obtain ⟨g', cur, q1, -, q3, -⟩ := O.out.e.own (by have := O.out.e.len; omega)
    injection q1 with q1
    injection q1 with q1
    subst q1
    rw [← e, qX] at q3
    injection q3 with q3
    injection q3 with q3 q4
    exact absurd q4 (by decide)
  have hgQ : ¬ g0 = w.heap.size := fun e => hQg e.symm
  rw [HGK.out] at hb
  generalize hzk : es[k] = z at *
  have HZK := Lib.hid hzk
  clear hzk
  have hm1 : IntKind.i64.wrap (z.n + x) = z.n + x := IntWalk.i64_in _ ⟨by omega, by omega⟩
  have hm2 : IntKind.i64.wrap (z.o + y) = z.o + y := IntWalk.i64_in _ ⟨by omega, by omega⟩
  have cB := quietC (w := X) (fun V _ => (onBoard_c (z.n + x) (z.o + y) V).mono (fun e w' h => ⟨h.1, h.2 ▸ Below.refl _ _⟩))
  rw [hb] at cB
  have x1 := cell_regrown e1
  have x2 := cell_regrown e2
  have ga := cellRe aX
  have gq := cellRe qX
  clear e0 e1 e2 e3 e4 ff
  go_wp2_with fail
  refine wp_region_quiet_below (by kernel_rfl) (by kernel_rfl) ?_
  repeat (go_big_quiet_step (first | with_reducible exact cB _ _))
  refine wpQuiet_nil ?_
  intro _ hw'
  obtain ⟨⟨dq, osq⟩, hw''⟩ := hw'
  subst hw''
  have hkb := below_regrown X dq osq
  replace aX := carryN hkb aX
  replace qX := carryN hkb qX
  replace O := Lib.hid (O.out.below hkb)
  replace KD := Lib.hid (KD.out.trans (hkb.mono (Nat.le_trans hDw KD.out.size)))
  clear hkb
  generalize Sort.grow (redrawn X dq) osq = Y at *
  clear x1 x2 ga gq cB hm1 hm2
  go_wp2_with fail
  go_ret
  exact actOut aX O.out KD.out HN0.out HN1.out HN2.out
set_option maxRecDepth 100000 in
set_option maxHeartbeats 8000000 in
theorem act_move {D B : Nat} (es : List Rq) (fl la : List Int) (n0 n2 P : Nat) (a0 a1 a2 : Option Addr) (c1 c2 : Nat) (c n x y : Int) (w : World) (aP : w.heap[P]? = some (.cells #[.slice a0 n0 n0, .slice a1 16 c1, .slice a2 n2 c2] 46 (0, 0))) (h : Own3 w B a0 n0 a1 c1 a2 c2 ⟨es, fl, la⟩) (hn0 : es.length = n0) (hn1 : fl.length = 16) (hn2 : la.length = n2) (h4 : n0 ≤ 4) (hD : D ≤ B) (hDP : D ≤ P) (hp : Places es) (hf : ∀ n ∈ fl, 0 ≤ n ∧ n ≤ 20)
    (hc : 1 ≤ c ∧ c ≤ 4) (hx : -1 ≤ x ∧ x ≤ 4) (hy : -1 ≤ y ∧ y ≤ 9) (k : Nat) (hfig : figAt es c = some k) (hb : (inB ((entN es k).n + x) 0 3 && inB ((entN es k).o + y) 0 3) = true) :
    Calls Try.prog 83 #[.pointer (some ⟨P, 0, none⟩), .agg #[.int .i64 c, .int .i64 n, .int .i64 2, .int .i64 x, .int .i64 y]] w (ActOut D B P c1 c2 ⟨es.set k { (entN es k) with n := (entN es k).n + x, o := (entN es k).o + y }, fl, la⟩ 0 w) := by
  have HN0 := Lib.hid hn0
  have HN1 := Lib.hid hn1
  have HN2 := Lib.hid hn2
  have HP := Lib.hid hp
  have HF := Lib.hid hf
  have hlP := lt_of_block aP
  have hDw : D ≤ w.heap.size := by omega
  go_enter Try.func83, Try.ntmps83
  go_upto_region 1 with fail
  obtain ⟨W, hW, sW, qX, kW⟩ := blocks1 w (.cells #[.int .i64 c, .int .i64 n, .int .i64 2, .int .i64 x, .int .i64 y] 34)
  rw [← hW]
  clear hW sW
  have aX := carryN kW aP
  have O := Lib.hid (h.below kW)
  have KD := Lib.hid (kW.mono hDw)
  have hPQ : ¬ (P = w.heap.size) := by omega
  have hQP : ¬ (w.heap.size = P) := by omega
  have ga := cellRe aX
  have gq := cellRe qX
  have cF := quietC (w := W) (fun V hV => figure_c es c a0 a1 a2 n0 16 n2 n0 c1 c2 V ((O.out.e.slG five_len HN0.out).below hV))
  rw [figI_opt, hfig] at cF
  clear aP h hn0 hn1 hn2 hp hf kW hlP
  go_wp2_with fail
  refine wp_region_quiet_below (by kernel_rfl) (by kernel_rfl) ?_
  repeat (go_big_quiet_step (first | with_reducible exact cF _ _))
  refine wpQuiet_nil ?_
  intro _ hw'
  obtain ⟨⟨dq, osq⟩, hw''⟩ := hw'
  subst hw''
  have hkb := below_regrown W dq osq
  replace aX := carryN hkb aX
  replace qX := carryN hkb qX
  replace O := Lib.hid (O.out.below hkb)
  replace KD := Lib.hid (KD.out.trans (hkb.mono (Nat.le_trans hDw KD.out.size)))
  clear hkb
  generalize Sort.grow (redrawn W dq) osq = X at *
  clear ga gq cF
  have cA := cell_of_block aX
  have cQ := cell_of_block qX
  have ho : optI (some k) = (k : Int) := rfl
  rw [ho]
  clear ho
  have hkz : k < es.length := by obtain ⟨hl, -⟩ := figAt_some hfig; exact hl
  have hkn : k < n0 := by rw [← HN0.out]; exact hkz
  have hk0 : (0 : Int) ≤ (k : Int) := by omega
  have hk1 : (k : Int) < (n0 : Int) := by omega
  have hkd : decide ((0 : Int) ≤ (k : Int)) = true := by simp
  have hkm : ¬ (k : Int) < 0 := by omega
  obtain ⟨g0, hg0, hgB, hgl, e0, e1, e2, e3, e4, ff, hr0⟩ := O.out.e.entAt (i := k) hkz
  simp only at e0 e1 e2 e3 e4
  subst hg0
  have hPk := HP.out _ (List.getElem_mem hkz)
  have HGK := Lib.hid (entN_get hkz)
  have hPg : ¬ P = g0 := fun e => by
    obtain ⟨g', cur, q1, -, q3, -⟩ := O.out.e.own (by have := O.out.e.len; omega)
    injection q1 with q1
    injection q1 with q1
    subst q1
    rw [← e, aX] at q3
    injection q3 with q3
    injection q3 with q3 q4
    exact absurd q4 (by decide)
  have hgP : ¬ g0 = P := fun e => hPg e.symm
  have hQg : ¬ w.heap.size = g0 := fun e => by
    obtain ⟨g', cur, q1, -, q3, -⟩ := O.out.e.own (by have := O.out.e.len; omega)
    injection q1 with q1
    injection q1 with q1
    subst q1
    rw [← e, qX] at q3
    injection q3 with q3
    injection q3 with q3 q4
    exact absurd q4 (by decide)
  have hgQ : ¬ g0 = w.heap.size := fun e => hQg e.symm
  rw [HGK.out] at hb
  generalize hzk : es[k] = z at *
  have HZK := Lib.hid hzk
  clear hzk
  have hm1 : IntKind.i64.wrap (z.n + x) = z.n + x := IntWalk.i64_in _ ⟨by omega, by omega⟩
  have hm2 : IntKind.i64.wrap (z.o + y) = z.o + y := IntWalk.i64_in _ ⟨by omega, by omega⟩
  have cB := quietC (w := X) (fun V _ => (onBoard_c (z.n + x) (z.o + y) V).mono (fun e w' h => ⟨h.1, h.2 ▸ Below.refl _ _⟩))
  rw [hb] at cB
  have x1 := cell_regrown e1
  have x2 := cell_regrown e2
  have ga := cellRe aX
  have gq := cellRe qX
  clear e0 e1 e2 e3 e4 ff
  go_wp2_with fail
  refine wp_region_quiet_below (by kernel_rfl) (by kernel_rfl) ?_
  repeat (go_big_quiet_step (first | with_reducible exact cB _ _))
  refine wpQuiet_nil ?_
  intro _ hw'
  obtain ⟨⟨dq, osq⟩, hw''⟩ := hw'
  subst hw''
  have hkb := below_regrown X dq osq
  replace aX := carryN hkb aX
  replace qX := carryN hkb qX
  replace O := Lib.hid (O.out.below hkb)
  replace KD := Lib.hid (KD.out.trans (hkb.mono (Nat.le_trans hDw KD.out.size)))
  clear hkb
  generalize Sort.grow (redrawn X dq) osq = Y at *
  clear x1 x2 ga gq cB hm1 hm2
  have hm1 : IntKind.i64.wrap (z.n + x) = z.n + x := IntWalk.i64_in _ ⟨by omega, by omega⟩
  have hm2 : IntKind.i64.wrap (z.o + y) = z.o + y := IntWalk.i64_in _ ⟨by omega, by omega⟩
  obtain ⟨g9, hg9, -, -, -, e1, -, -, -, ff, -⟩ := O.out.e.entAt (i := k) hkz
  injection hg9 with hg9
  injection hg9 with hg9
  subst hg9
  simp only at e1
  rw [HZK.out] at e1
  have ff1 := ff (k * 5 + 1)
  clear ff
  have cA := cell_of_block aX
  have cQ := cell_of_block qX
  have hgY : D ≤ g0 := by omega
  have O1 := Lib.hid (O.out.cellE (i := k) (j := 1) hkz (by decide) ({ z with n := z.n + x } : Rq) (.int .i64 (z.n + x)) rfl (fun j' h1 h2 => by
    simp only [HZK.out]
    have : j' = 0 ∨ j' = 2 ∨ j' = 3 ∨ j' = 4 := by omega
    rcases this with rfl | rfl | rfl | rfl <;> rfl)).drew
  have a1' := (Below.heap_setCell Y ⟨g0, k * 5 + 1, none⟩ (.int .i64 (z.n + x)) P hPg).trans aX
  have q1' := (Below.heap_setCell Y ⟨g0, k * 5 + 1, none⟩ (.int .i64 (z.n + x)) w.heap.size hQg).trans qX
  have K1 := Lib.hid (Below.setCell KD.out (p := ⟨g0, k * 5 + 1, none⟩) hgY (.int .i64 (z.n + x))).drew
  go_wp2_with fail
  go_still_tail 9, (by kernel_rfl)
  change wpList _ _ _ _ _ Y.drew
  go_upto_region 18 with fail
  obtain ⟨Z, hZ⟩ : ∃ Z, Z = (Y.setCell ⟨g0, k * 5 + 1, none⟩ (.int .i64 (z.n + x))).drew := ⟨_, rfl⟩
  have a2' : (Y.setCell ⟨g0, k * 5 + 1, none⟩ (.int .i64 (z.n + x))).drew.heap[P]? = _ := a1'
  have q2' : (Y.setCell ⟨g0, k * 5 + 1, none⟩ (.int .i64 (z.n + x))).drew.heap[w.heap.size]? = _ := q1'
  rw [← hZ] at O1 K1 a2' q2' ⊢
  clear hZ a1' q1' aX qX O KD cA cQ e1 ff1 hm1
  have hkz1 : k < (es.set k ({ z with n := z.n + x } : Rq)).length := by rw [List.length_set]; exact hkz
  obtain ⟨g9, hg9, -, -, -, -, e2, -, -, ff, -⟩ := O1.out.e.entAt (i := k) hkz1
  injection hg9 with hg9
  injection hg9 with hg9
  subst hg9
  simp only [List.getElem_set_self] at e2
  have ff2 := ff (k * 5 + 2)
  clear ff
  have cA := cell_of_block a2'
  have cQ := cell_of_block q2'
  have O2 := Lib.hid (O1.out.cellE (i := k) (j := 2) hkz1 (by decide) ({ z with n := z.n + x, o := z.o + y } : Rq) (.int .i64 (z.o + y)) rfl (fun j' h1 h2 => by
    simp only [List.getElem_set_self]
    have : j' = 0 ∨ j' = 1 ∨ j' = 3 ∨ j' = 4 := by omega
    rcases this with rfl | rfl | rfl | rfl <;> rfl)).drew
  have a3' := (Below.heap_setCell Z ⟨g0, k * 5 + 2, none⟩ (.int .i64 (z.o + y)) P hPg).trans a2'
  have K2 := Lib.hid (Below.setCell K1.out (p := ⟨g0, k * 5 + 2, none⟩) hgY (.int .i64 (z.o + y))).drew
  go_still_tail 9, (by kernel_rfl)
  change wpList _ _ _ _ _ Z.drew
  go_wp2_with fail
  go_ret
  rw [HGK.out]
  have o2 := O2.out
  simp only [List.set_set] at o2
  exact actOut (show (Z.setCell ⟨g0, k * 5 + 2, none⟩ (.int .i64 (z.o + y))).drew.heap[P]? = _ from a3') o2 K2.out (by simp only [List.length_set]; exact HN0.out) HN1.out HN2.out
set_option maxRecDepth 100000 in
set_option maxHeartbeats 8000000 in
theorem act_take_no {D B : Nat} (es : List Rq) (fl la : List Int) (n0 n2 P : Nat) (a0 a1 a2 : Option Addr) (c1 c2 : Nat) (c n x y : Int) (w : World) (aP : w.heap[P]? = some (.cells #[.slice a0 n0 n0, .slice a1 16 c1, .slice a2 n2 c2] 46 (0, 0))) (h : Own3 w B a0 n0 a1 c1 a2 c2 ⟨es, fl, la⟩) (hn0 : es.length = n0) (hn1 : fl.length = 16) (hn2 : la.length = n2) (h4 : n0 ≤ 4) (hD : D ≤ B) (hDP : D ≤ P) (hp : Places es) (hf : ∀ n ∈ fl, 0 ≤ n ∧ n ≤ 20)
    (hc : 1 ≤ c ∧ c ≤ 4) (hx : -1 ≤ x ∧ x ≤ 4) (hy : -1 ≤ y ∧ y ≤ 9) (k : Nat) (hfig : figAt es c = some k) (hv : fl.getD (sqOf (entN es k)) 0 = 0) :
    Calls Try.prog 83 #[.pointer (some ⟨P, 0, none⟩), .agg #[.int .i64 c, .int .i64 n, .int .i64 3, .int .i64 x, .int .i64 y]] w (ActOut D B P c1 c2 ⟨es, fl, la⟩ 7 w) := by
  have HN0 := Lib.hid hn0
  have HN1 := Lib.hid hn1
  have HN2 := Lib.hid hn2
  have HP := Lib.hid hp
  have HF := Lib.hid hf
  have hlP := lt_of_block aP
  have hDw : D ≤ w.heap.size := by omega
  go_enter Try.func83, Try.ntmps83
  go_upto_region 1 with fail
  obtain ⟨W, hW, sW, qX, kW⟩ := blocks1 w (.cells #[.int .i64 c, .int .i64 n, .int .i64 3, .int .i64 x, .int .i64 y] 34)
  rw [← hW]
  clear hW sW
  have aX := carryN kW aP
  have O := Lib.hid (h.below kW)
  have KD := Lib.hid (kW.mono hDw)
  have hPQ : ¬ (P = w.heap.size) := by omega
  have hQP : ¬ (w.heap.size = P) := by omega
  have ga := cellRe aX
  have gq := cellRe qX
  have cF := quietC (w := W) (fun V hV => figure_c es c a0 a1 a2 n0 16 n2 n0 c1 c2 V ((O.out.e.slG five_len HN0.out).below hV))
  rw [figI_opt, hfig] at cF
  clear aP h hn0 hn1 hn2 hp hf kW hlP
  go_wp2_with fail
  refine wp_region_quiet_below (by kernel_rfl) (by kernel_rfl) ?_
  repeat (go_big_quiet_step (first | with_reducible exact cF _ _))
  refine wpQuiet_nil ?_
  intro _ hw'
  obtain ⟨⟨dq, osq⟩, hw''⟩ := hw'
  subst hw''
  have hkb := below_regrown W dq osq
  replace aX := carryN hkb aX
  replace qX := carryN hkb qX
  replace O := Lib.hid (O.out.below hkb)
  replace KD := Lib.hid (KD.out.trans (hkb.mono (Nat.le_trans hDw KD.out.size)))
  clear hkb
  generalize Sort.grow (redrawn W dq) osq = X at *
  clear ga gq cF
  have cA := cell_of_block aX
  have cQ := cell_of_block qX
  have ho : optI (some k) = (k : Int) := rfl
  rw [ho]
  clear ho
  have hkz : k < es.length := by obtain ⟨hl, -⟩ := figAt_some hfig; exact hl
  have hkn : k < n0 := by rw [← HN0.out]; exact hkz
  have hk0 : (0 : Int) ≤ (k : Int) := by omega
  have hk1 : (k : Int) < (n0 : Int) := by omega
  have hkd : decide ((0 : Int) ≤ (k : Int)) = true := by simp
  have hkm : ¬ (k : Int) < 0 := by omega
  obtain ⟨g0, hg0, hgB, hgl, e0, e1, e2, e3, e4, ff, hr0⟩ := O.out.e.entAt (i := k) hkz
  simp only at e0 e1 e2 e3 e4
  subst hg0
  have hPk := HP.out _ (List.getElem_mem hkz)
  have HGK := Lib.hid (entN_get hkz)
  have hPg : ¬ P = g0 := fun e => by
    obtain ⟨g', cur, q1, -, q3, -⟩ := O.out.e.own (by have := O.out.e.len; omega)
    injection q1 with q1
    injection q1 with q1
    subst q1
    rw [← e, aX] at q3
    injection q3 with q3
    injection q3 with q3 q4
    exact absurd q4 (by decide)
  have hgP : ¬ g0 = P := fun e => hPg e.symm
  have hQg : ¬ w.heap.size = g0 := fun e => by
    obtain ⟨g', cur, q1, -, q3, -⟩ := O.out.e.own (by have := O.out.e.len; omega)
    injection q1 with q1
    injection q1 with q1
    subst q1
    rw [← e, qX] at q3
    injection q3 with q3
    injection q3 with q3 q4
    exact absurd q4 (by decide)
  have hgQ : ¬ g0 = w.heap.size := fun e => hQg e.symm
  rw [HGK.out] at hv
  generalize hzk : es[k] = z at *
  have HZK := Lib.hid hzk
  clear hzk
  have hqn : sqOf z < 16 := by unfold sqOf; omega
  have hqz : sqOf z < fl.length := by rw [HN1.out]; exact hqn
  obtain ⟨f0, hf0, hfB, hfl, ef, -, hrf0⟩ := O.out.f.intAt (i := sqOf z) hqz
  simp only at ef
  have hfq := HF.out _ (List.getElem_mem hqz)
  rw [List.getD_eq_getElem?_getD, List.getElem?_eq_getElem hqz, Option.getD_some] at hv
  subst hf0
  have cL := quietC (w := X) (fun V _ => floor_c z f0 0 (some ⟨g0, 0, none⟩) a2 n0 16 n2 n0 c1 c2 V hPk.1 hPk.2.1 rfl)
  rw [Nat.zero_add] at cL
  have x0 := cell_regrown e0
  have x1 := cell_regrown e1
  have x2 := cell_regrown e2
  have x3 := cell_regrown e3
  have x4 := cell_regrown e4
  have ga := cellRe aX
  have gq := cellRe qX
  clear e0 e1 e2 e3 e4 ff ef
  go_wp2_with fail
  refine wp_region_quiet_below (by kernel_rfl) (by kernel_rfl) ?_
  repeat (go_big_quiet_step (first | with_reducible exact cL _ _))
  refine wpQuiet_nil ?_
  intro _ hw'
  obtain ⟨⟨dq, osq⟩, hw''⟩ := hw'
  subst hw''
  have hkb := below_regrown X dq osq
  replace aX := carryN hkb aX
  replace qX := carryN hkb qX
  replace O := Lib.hid (O.out.below hkb)
  replace KD := Lib.hid (KD.out.trans (hkb.mono (Nat.le_trans hDw KD.out.size)))
  clear hkb
  generalize Sort.grow (redrawn X dq) osq = Y at *
  clear x0 x1 x2 x3 x4 ga gq cL
  obtain ⟨f9, hf9, -, -, ef, fff, -⟩ := O.out.f.intAt (i := sqOf z) hqz
  injection hf9 with hf9
  injection hf9 with hf9
  subst hf9
  simp only at ef
  have cA := cell_of_block aX
  have cQ := cell_of_block qX
  generalize hq : sqOf z = q at *
  have HQ := Lib.hid hq
  clear hq
  rw [hv] at ef
  clear hfq fff
  go_wp2_with fail
  go_ret
  exact actOut aX O.out KD.out HN0.out HN1.out HN2.out
set_option maxRecDepth 100000 in
set_option maxHeartbeats 8000000 in
theorem act_take {D B : Nat} (es : List Rq) (fl la : List Int) (n0 n2 P : Nat) (a0 a1 a2 : Option Addr) (c1 c2 : Nat) (c n x y : Int) (w : World) (aP : w.heap[P]? = some (.cells #[.slice a0 n0 n0, .slice a1 16 c1, .slice a2 n2 c2] 46 (0, 0))) (h : Own3 w B a0 n0 a1 c1 a2 c2 ⟨es, fl, la⟩) (hn0 : es.length = n0) (hn1 : fl.length = 16) (hn2 : la.length = n2) (h4 : n0 ≤ 4) (hD : D ≤ B) (hDP : D ≤ P) (hp : Places es) (hf : ∀ n ∈ fl, 0 ≤ n ∧ n ≤ 20)
    (hc : 1 ≤ c ∧ c ≤ 4) (hx : -1 ≤ x ∧ x ≤ 4) (hy : -1 ≤ y ∧ y ≤ 9) (k : Nat) (hfig : figAt es c = some k) (hv : ¬ fl.getD (sqOf (entN es k)) 0 = 0) :
    Calls Try.prog 83 #[.pointer (some ⟨P, 0, none⟩), .agg #[.int .i64 c, .int .i64 n, .int .i64 3, .int .i64 x, .int .i64 y]] w (ActOut D B P c1 c2 ⟨es.set k { (entN es k) with y := (entN es k).y + 1 }, addAt fl (sqOf (entN es k)) (-1), la⟩ 0 w) := by
  have HN0 := Lib.hid hn0
  have HN1 := Lib.hid hn1
  have HN2 := Lib.hid hn2
  have HP := Lib.hid hp
  have HF := Lib.hid hf
  have hlP := lt_of_block aP
  have hDw : D ≤ w.heap.size := by omega
  go_enter Try.func83, Try.ntmps83
  go_upto_region 1 with fail
  obtain ⟨W, hW, sW, qX, kW⟩ := blocks1 w (.cells #[.int .i64 c, .int .i64 n, .int .i64 3, .int .i64 x, .int .i64 y] 34)
  rw [← hW]
  clear hW sW
  have aX := carryN kW aP
  have O := Lib.hid (h.below kW)
  have KD := Lib.hid (kW.mono hDw)
  have hPQ : ¬ (P = w.heap.size) := by omega
  have hQP : ¬ (w.heap.size = P) := by omega
  have ga := cellRe aX
  have gq := cellRe qX
  have cF := quietC (w := W) (fun V hV => figure_c es c a0 a1 a2 n0 16 n2 n0 c1 c2 V ((O.out.e.slG five_len HN0.out).below hV))
  rw [figI_opt, hfig] at cF
  clear aP h hn0 hn1 hn2 hp hf kW hlP
  go_wp2_with fail
  refine wp_region_quiet_below (by kernel_rfl) (by kernel_rfl) ?_
  repeat (go_big_quiet_step (first | with_reducible exact cF _ _))
  refine wpQuiet_nil ?_
  intro _ hw'
  obtain ⟨⟨dq, osq⟩, hw''⟩ := hw'
  subst hw''
  have hkb := below_regrown W dq osq
  replace aX := carryN hkb aX
  replace qX := carryN hkb qX
  replace O := Lib.hid (O.out.below hkb)
  replace KD := Lib.hid (KD.out.trans (hkb.mono (Nat.le_trans hDw KD.out.size)))
  clear hkb
  generalize Sort.grow (redrawn W dq) osq = X at *
  clear ga gq cF
  have cA := cell_of_block aX
  have cQ := cell_of_block qX
  have ho : optI (some k) = (k : Int) := rfl
  rw [ho]
  clear ho
  have hkz : k < es.length := by obtain ⟨hl, -⟩ := figAt_some hfig; exact hl
  have hkn : k < n0 := by rw [← HN0.out]; exact hkz
  have hk0 : (0 : Int) ≤ (k : Int) := by omega
  have hk1 : (k : Int) < (n0 : Int) := by omega
  have hkd : decide ((0 : Int) ≤ (k : Int)) = true := by simp
  have hkm : ¬ (k : Int) < 0 := by omega
  obtain ⟨g0, hg0, hgB, hgl, e0, e1, e2, e3, e4, ff, hr0⟩ := O.out.e.entAt (i := k) hkz
  simp only at e0 e1 e2 e3 e4
  subst hg0
  have hPk := HP.out _ (List.getElem_mem hkz)
  have HGK := Lib.hid (entN_get hkz)
  have hPg : ¬ P = g0 := fun e => by
    obtain ⟨g', cur, q1, -, q3, -⟩ := O.out.e.own (by have := O.out.e.len; omega)
    injection q1 with q1
    injection q1 with q1
    subst q1
    rw [← e, aX] at q3
    injection q3 with q3
    injection q3 with q3 q4
    exact absurd q4 (by decide)
  have hgP : ¬ g0 = P := fun e => hPg e.symm
  have hQg : ¬ w.heap.size = g0 := fun e => by
    obtain ⟨g', cur, q1, -, q3, -⟩ := O.out.e.own (by have := O.out.e.len; omega)
    injection q1 with q1
    injection q1 with q1
    subst q1
    rw [← e, qX] at q3
    injection q3 with q3
    injection q3 with q3 q4
    exact absurd q4 (by decide)
  have hgQ : ¬ g0 = w.heap.size := fun e => hQg e.symm
  rw [HGK.out] at hv
  generalize hzk : es[k] = z at *
  have HZK := Lib.hid hzk
  clear hzk
  have hqn : sqOf z < 16 := by unfold sqOf; omega
  have hqz : sqOf z < fl.length := by rw [HN1.out]; exact hqn
  obtain ⟨f0, hf0, hfB, hfl, ef, -, hrf0⟩ := O.out.f.intAt (i := sqOf z) hqz
  simp only at ef
  have hfq := HF.out _ (List.getElem_mem hqz)
  rw [List.getD_eq_getElem?_getD, List.getElem?_eq_getElem hqz, Option.getD_some] at hv
  subst hf0
  have cL := quietC (w := X) (fun V _ => floor_c z f0 0 (some ⟨g0, 0, none⟩) a2 n0 16 n2 n0 c1 c2 V hPk.1 hPk.2.1 rfl)
  rw [Nat.zero_add] at cL
  have x0 := cell_regrown e0
  have x1 := cell_regrown e1
  have x2 := cell_regrown e2
  have x3 := cell_regrown e3
  have x4 := cell_regrown e4
  have ga := cellRe aX
  have gq := cellRe qX
  clear e0 e1 e2 e3 e4 ff ef
  go_wp2_with fail
  refine wp_region_quiet_below (by kernel_rfl) (by kernel_rfl) ?_
  repeat (go_big_quiet_step (first | with_reducible exact cL _ _))
  refine wpQuiet_nil ?_
  intro _ hw'
  obtain ⟨⟨dq, osq⟩, hw''⟩ := hw'
  subst hw''
  have hkb := below_regrown X dq osq
  replace aX := carryN hkb aX
  replace qX := carryN hkb qX
  replace O := Lib.hid (O.out.below hkb)
  replace KD := Lib.hid (KD.out.trans (hkb.mono (Nat.le_trans hDw KD.out.size)))
  clear hkb
  generalize Sort.grow (redrawn X dq) osq = Y at *
  clear x0 x1 x2 x3 x4 ga gq cL
  obtain ⟨f9, hf9, -, -, ef, fff, -⟩ := O.out.f.intAt (i := sqOf z) hqz
  injection hf9 with hf9
  injection hf9 with hf9
  subst hf9
  simp only at ef
  have cA := cell_of_block aX
  have cQ := cell_of_block qX
  generalize hq : sqOf z = q at *
  have HQ := Lib.hid hq
  clear hq
  obtain ⟨v, hvv⟩ : ∃ v, fl[q] = v := ⟨_, rfl⟩
  rw [hvv] at hv ef hfq
  have HAD := Lib.hid (show fl.set q (v - 1) = addAt fl q (-1) by unfold addAt; rw [List.getD_eq_getElem?_getD, List.getElem?_eq_getElem hqz, Option.getD_some, hvv]; rfl)
  have hvb : (v == 0) = false := by simpa using hv
  have hm3 : IntKind.i64.wrap (v - 1) = v - 1 := IntWalk.i64_in _ ⟨by omega, by omega⟩
  have hm4 : IntKind.i64.wrap (z.y + 1) = z.y + 1 := IntWalk.i64_in _ ⟨by omega, by omega⟩
  clear hvv
  obtain ⟨g9, hg9, -, -, -, -, -, -, e4, ff, -⟩ := O.out.e.entAt (i := k) hkz
  injection hg9 with hg9
  injection hg9 with hg9
  subst hg9
  simp only at e4
  rw [HZK.out] at e4
  have ff4 := ff (k * 5 + 4)
  clear ff
  have hgf : ¬ g0 = f0 := fun e => O.out.ef g0 hr0 (by rw [hrf0, e])
  have hfg : ¬ f0 = g0 := fun e => hgf e.symm
  have hPf : ¬ P = f0 := fun e => by
    obtain ⟨g', cur, q1, -, q3, -⟩ := O.out.f.own (by have := O.out.f.len; simp only at this; omega)
    injection q1 with q1
    injection q1 with q1
    subst q1
    rw [← e, aX] at q3
    injection q3 with q3
    injection q3 with q3 q4
    exact absurd q4 (by decide)
  have hfP : ¬ f0 = P := fun e => hPf e.symm
  have hgY : D ≤ g0 := by omega
  have hfY : D ≤ f0 := by omega
  have O1 := Lib.hid ((O.out.cellF (i := q) hqz (v - 1)).cellE (i := k) (j := 4) hkz (by decide) ({ z with y := z.y + 1 } : Rq) (.int .i64 (z.y + 1)) rfl (fun j' h1 h2 => by
    simp only [HZK.out]
    have : j' = 0 ∨ j' = 1 ∨ j' = 2 ∨ j' = 3 := by omega
    rcases this with rfl | rfl | rfl | rfl <;> rfl))
  have a1' := (Below.heap_setCell (Y.setCell ⟨f0, q, none⟩ (.int .i64 (v - 1))) ⟨g0, k * 5 + 4, none⟩ (.int .i64 (z.y + 1)) P hPg).trans ((Below.heap_setCell Y ⟨f0, q, none⟩ (.int .i64 (v - 1)) P hPf).trans aX)
  have K1 := Lib.hid (Below.setCell (Below.setCell KD.out (p := ⟨f0, q, none⟩) hfY (.int .i64 (v - 1))) (p := ⟨g0, k * 5 + 4, none⟩) hgY (.int .i64 (z.y + 1)))
  go_wp2_with fail
  go_ret
  rw [HGK.out, HQ.out, ← HAD.out]
  exact actOut a1' O1.out K1.out (by simp only [List.length_set]; exact HN0.out) (by simp only [List.length_set]; exact HN1.out) HN2.out
end Go.Proofs.Ytofedboeggdkaaa

/-! The program's act, hits and gifts; condition: small sizes. -/
namespace Go.Proofs.Ytofedboeggdkaaa
open Go.RowKit Go.Joins

set_option maxRecDepth 100000 in
set_option maxHeartbeats 8000000 in
theorem act_far {D B : Nat} (es : List Rq) (fl la : List Int) (n0 n2 P : Nat) (a0 a1 a2 : Option Addr) (c1 c2 : Nat) (c n o x y : Int) (w : World) (aP : w.heap[P]? = some (.cells #[.slice a0 n0 n0, .slice a1 16 c1, .slice a2 n2 c2] 46 (0, 0))) (h : Own3 w B a0 n0 a1 c1 a2 c2 ⟨es, fl, la⟩) (hn0 : es.length = n0) (hn1 : fl.length = 16) (hn2 : la.length = n2) (h4 : n0 ≤ 4) (hD : D ≤ B) (hDP : D ≤ P) (hp : Places es) (hf : ∀ n ∈ fl, 0 ≤ n ∧ n ≤ 20)
    (hc : 1 ≤ c ∧ c ≤ 4) (hx : -1 ≤ x ∧ x ≤ 4) (hy : -1 ≤ y ∧ y ≤ 9) (k : Nat) (hfig : figAt es c = some k) (ho1 : o ≠ 1) (ho2 : o ≠ 2) (ho3 : o ≠ 3) (hfar : ∀ m, figAt es x = some m → m = k ∨ nearB (entN es k) (entN es m) = false) :
    Calls Try.prog 83 #[.pointer (some ⟨P, 0, none⟩), .agg #[.int .i64 c, .int .i64 n, .int .i64 o, .int .i64 x, .int .i64 y]] w (ActOut D B P c1 c2 ⟨es, fl, la⟩ 8 w) := by
  have HN0 := Lib.hid hn0
  have HN1 := Lib.hid hn1
  have HN2 := Lib.hid hn2
  have HP := Lib.hid hp
  have HF := Lib.hid hf
  have hlP := lt_of_block aP
  have hDw : D ≤ w.heap.size := by omega
  go_enter Try.func83, Try.ntmps83
  go_upto_region 1 with fail
  obtain ⟨W, hW, sW, qX, kW⟩ := blocks1 w (.cells #[.int .i64 c, .int .i64 n, .int .i64 o, .int .i64 x, .int .i64 y] 34)
  rw [← hW]
  clear hW sW
  have aX := carryN kW aP
  have O := Lib.hid (h.below kW)
  have KD := Lib.hid (kW.mono hDw)
  have hPQ : ¬ (P = w.heap.size) := by omega
  have hQP : ¬ (w.heap.size = P) := by omega
  have ga := cellRe aX
  have gq := cellRe qX
  have cF := quietC (w := W) (fun V hV => figure_c es c a0 a1 a2 n0 16 n2 n0 c1 c2 V ((O.out.e.slG five_len HN0.out).below hV))
  rw [figI_opt, hfig] at cF
  clear aP h hn0 hn1 hn2 hp hf kW hlP
  go_wp2_with fail
  refine wp_region_quiet_below (by kernel_rfl) (by kernel_rfl) ?_
  repeat (go_big_quiet_step (first | with_reducible exact cF _ _))
  refine wpQuiet_nil ?_
  intro _ hw'
  obtain ⟨⟨dq, osq⟩, hw''⟩ := hw'
  subst hw''
  have hkb := below_regrown W dq osq
  replace aX := carryN hkb aX
  replace qX := carryN hkb qX
  replace O := Lib.hid (O.out.below hkb)
  replace KD := Lib.hid (KD.out.trans (hkb.mono (Nat.le_trans hDw KD.out.size)))
  clear hkb
  generalize Sort.grow (redrawn W dq) osq = X at *
  clear ga gq cF
  have cA := cell_of_block aX
  have cQ := cell_of_block qX
  have ho : optI (some k) = (k : Int) := rfl
  rw [ho]
  clear ho
  have hkz : k < es.length := by obtain ⟨hl, -⟩ := figAt_some hfig; exact hl
  have hkn : k < n0 := by rw [← HN0.out]; exact hkz
  have hk0 : (0 : Int) ≤ (k : Int) := by omega
  have hk1 : (k : Int) < (n0 : Int) := by omega
  have hkd : decide ((0 : Int) ≤ (k : Int)) = true := by simp
  have hkm : ¬ (k : Int) < 0 := by omega
  obtain ⟨g0, hg0, hgB, hgl, e0, e1, e2, e3, e4, ff, hr0⟩ := O.out.e.entAt (i := k) hkz
  simp only at e0 e1 e2 e3 e4
  subst hg0
  have hPk := HP.out _ (List.getElem_mem hkz)
  have HGK := Lib.hid (entN_get hkz)
  have hPg : ¬ P = g0 := fun e => by
    obtain ⟨g', cur, q1, -, q3, -⟩ := O.out.e.own (by have := O.out.e.len; omega)
    injection q1 with q1
    injection q1 with q1
    subst q1
    rw [← e, aX] at q3
    injection q3 with q3
    injection q3 with q3 q4
    exact absurd q4 (by decide)
  have hgP : ¬ g0 = P := fun e => hPg e.symm
  have hQg : ¬ w.heap.size = g0 := fun e => by
    obtain ⟨g', cur, q1, -, q3, -⟩ := O.out.e.own (by have := O.out.e.len; omega)
    injection q1 with q1
    injection q1 with q1
    subst q1
    rw [← e, qX] at q3
    injection q3 with q3
    injection q3 with q3 q4
    exact absurd q4 (by decide)
  have hgQ : ¬ g0 = w.heap.size := fun e => hQg e.symm
  generalize hzk : es[k] = z at *
  have HZK := Lib.hid hzk
  clear hzk
  have hob1 : (o == 1) = false := by simpa using ho1
  have hob2 : (o == 2) = false := by simpa using ho2
  have hob3 : (o == 3) = false := by simpa using ho3
  have ga := cellRe aX
  have gq := cellRe qX
  have cG := quietC (w := X) (fun V hV => figure_c es x (some ⟨g0, 0, none⟩) a1 a2 n0 16 n2 n0 c1 c2 V ((O.out.e.slG five_len HN0.out).below hV))
  rw [figI_opt] at cG
  clear e0 e1 e2 e3 e4 ff
  go_wp2_with fail
  refine wp_region_quiet_below (by kernel_rfl) (by kernel_rfl) ?_
  repeat (go_big_quiet_step (first | with_reducible exact cG _ _))
  refine wpQuiet_nil ?_
  intro _ hw'
  obtain ⟨⟨dq, osq⟩, hw''⟩ := hw'
  subst hw''
  have hkb := below_regrown X dq osq
  replace aX := carryN hkb aX
  replace qX := carryN hkb qX
  replace O := Lib.hid (O.out.below hkb)
  replace KD := Lib.hid (KD.out.trans (hkb.mono (Nat.le_trans hDw KD.out.size)))
  clear hkb
  generalize Sort.grow (redrawn X dq) osq = Y at *
  clear ga gq cG
  have cA := cell_of_block aX
  have cQ := cell_of_block qX
  rw [HGK.out] at hfar
  have hfar2 : (optI (figAt es x) < 0 ∨ optI (figAt es x) = (k : Int)) ∨ ∃ m, figAt es x = some m ∧ m ≠ k ∧ nearB z (entN es m) = false := by
    cases hfa : figAt es x with
    | none => exact .inl (.inl (by decide))
    | some m =>
      rcases hfar m hfa with h | h
      · exact .inl (.inr (by rw [h]; rfl))
      · by_cases hmk : m = k
        · exact .inl (.inr (by rw [hmk]; rfl))
        · exact .inr ⟨m, rfl, hmk, h⟩
  clear hfar
  rcases hfar2 with hm | ⟨m, hfa, hmk, hnr⟩
  · obtain ⟨m, hmm⟩ : ∃ m, m = optI (figAt es x) := ⟨_, rfl⟩
    rw [← hmm] at hm ⊢
    clear hmm cA cQ
    have ga := cellRe aX
    rcases hm with hm | hm
    · have hmd : decide (m < 0) = true := by simp; omega
      go_wp2_with fail
      refine wp_region_quiet_below (by kernel_rfl) (by kernel_rfl) ?_
      repeat (go_big_quiet_step (fail))
      refine wpQuiet_nil ?_
      intro _ hw'
      obtain ⟨⟨dq, osq⟩, hw''⟩ := hw'
      subst hw''
      have hkb := below_regrown Y dq osq
      replace aX := carryN hkb aX
      replace qX := carryN hkb qX
      replace O := Lib.hid (O.out.below hkb)
      replace KD := Lib.hid (KD.out.trans (hkb.mono (Nat.le_trans hDw KD.out.size)))
      clear hkb
      generalize Sort.grow (redrawn Y dq) osq = Z at *
      have cA := cell_of_block aX
      have cQ := cell_of_block qX
      go_wp2_with fail
      go_ret
      exact actOut aX O.out KD.out HN0.out HN1.out HN2.out
    · have hmd : decide (m < 0) = false := by simp; omega
      have hm0 : ¬ m < 0 := by omega
      subst hm
      go_wp2_with fail
      refine wp_region_quiet_below (by kernel_rfl) (by kernel_rfl) ?_
      repeat (go_big_quiet_step (fail))
      refine wpQuiet_nil ?_
      intro _ hw'
      obtain ⟨⟨dq, osq⟩, hw''⟩ := hw'
      subst hw''
      have hkb := below_regrown Y dq osq
      replace aX := carryN hkb aX
      replace qX := carryN hkb qX
      replace O := Lib.hid (O.out.below hkb)
      replace KD := Lib.hid (KD.out.trans (hkb.mono (Nat.le_trans hDw KD.out.size)))
      clear hkb
      generalize Sort.grow (redrawn Y dq) osq = Z at *
      have cA := cell_of_block aX
      have cQ := cell_of_block qX
      go_wp2_with fail
      go_ret
      exact actOut aX O.out KD.out HN0.out HN1.out HN2.out
  · obtain ⟨hml, -⟩ := figAt_some hfa
    rw [hfa]
    have hm0 : optI (some m) = (m : Int) := rfl
    rw [hm0]
    clear hm0 hfa
    have hmn0 : m < n0 := by rw [← HN0.out]; exact hml
    obtain ⟨g9, hg9, -, -, e0, e1, e2, e3, e4, -, -⟩ := O.out.e.entAt (i := k) hkz
    injection hg9 with hg9
    injection hg9 with hg9
    subst hg9
    obtain ⟨g9, hg9, -, -, d0, d1, d2, d3, d4, -, -⟩ := O.out.e.entAt (i := m) hml
    injection hg9 with hg9
    injection hg9 with hg9
    subst hg9
    simp only at e0 e1 e2 e3 e4 d0 d1 d2 d3 d4
    rw [HZK.out] at e0 e1 e2 e3 e4
    have hPm := HP.out _ (List.getElem_mem hml)
    have HGN := Lib.hid (entN_get hml)
    rw [entN_get hml] at hnr
    generalize hzm : es[m] = zm at *
    have HZM := Lib.hid hzm
    clear hzm
    have x0 := cell_regrown e0
    have x1 := cell_regrown e1
    have x2 := cell_regrown e2
    have x3 := cell_regrown e3
    have x4 := cell_regrown e4
    have y0 := cell_regrown d0
    have y1 := cell_regrown d1
    have y2 := cell_regrown d2
    have y3 := cell_regrown d3
    have y4 := cell_regrown d4
    have ga := cellRe aX
    have cN := quietC (w := Y) (fun V _ => near_c z zm V ⟨hPk.1.1, hPk.1.2, hPk.2.1.1, hPk.2.1.2⟩ ⟨hPm.1.1, hPm.1.2, hPm.2.1.1, hPm.2.1.2⟩)
    rw [hnr] at cN
    have hmd : decide ((m : Int) < 0) = false := by simp
    have hmn : ¬ (m : Int) < 0 := by omega
    have hmkb : ((m : Int) == (k : Int)) = false := by simp; omega
    have hmk2 : ¬ (m : Int) = (k : Int) := by omega
    have hm0' : (0 : Int) ≤ (m : Int) := by omega
    have hm1' : (m : Int) < (n0 : Int) := by omega
    clear e0 e1 e2 e3 e4 d0 d1 d2 d3 d4 hnr cA cQ
    go_wp2_with fail
    refine wp_region_quiet_below (by kernel_rfl) (by kernel_rfl) ?_
    repeat (go_big_quiet_step (first | with_reducible exact cN _ _))
    refine wpQuiet_nil ?_
    intro _ hw'
    obtain ⟨⟨dq, osq⟩, hw''⟩ := hw'
    subst hw''
    have hkb := below_regrown Y dq osq
    replace aX := carryN hkb aX
    replace qX := carryN hkb qX
    replace O := Lib.hid (O.out.below hkb)
    replace KD := Lib.hid (KD.out.trans (hkb.mono (Nat.le_trans hDw KD.out.size)))
    clear hkb
    generalize Sort.grow (redrawn Y dq) osq = Z at *
    clear x0 x1 x2 x3 x4 y0 y1 y2 y3 y4 ga cN
    have cA := cell_of_block aX
    have cQ := cell_of_block qX
    go_wp2_with fail
    go_ret
    exact actOut aX O.out KD.out HN0.out HN1.out HN2.out
set_option maxRecDepth 100000 in
set_option maxHeartbeats 8000000 in
theorem act_poor {D B : Nat} (es : List Rq) (fl la : List Int) (n0 n2 P : Nat) (a0 a1 a2 : Option Addr) (c1 c2 : Nat) (c n x y : Int) (w : World) (aP : w.heap[P]? = some (.cells #[.slice a0 n0 n0, .slice a1 16 c1, .slice a2 n2 c2] 46 (0, 0))) (h : Own3 w B a0 n0 a1 c1 a2 c2 ⟨es, fl, la⟩) (hn0 : es.length = n0) (hn1 : fl.length = 16) (hn2 : la.length = n2) (h4 : n0 ≤ 4) (hD : D ≤ B) (hDP : D ≤ P) (hp : Places es) (hf : ∀ n ∈ fl, 0 ≤ n ∧ n ≤ 20)
    (hc : 1 ≤ c ∧ c ≤ 4) (hx : -1 ≤ x ∧ x ≤ 4) (hy : -1 ≤ y ∧ y ≤ 9) (k : Nat) (hfig : figAt es c = some k) (m : Nat) (hfa : figAt es x = some m) (hmk : m ≠ k) (hnr : nearB (entN es k) (entN es m) = true) (hpo : (entN es k).y < y) :
    Calls Try.prog 83 #[.pointer (some ⟨P, 0, none⟩), .agg #[.int .i64 c, .int .i64 n, .int .i64 5, .int .i64 x, .int .i64 y]] w (ActOut D B P c1 c2 ⟨es, fl, la⟩ 7 w) := by
  have HN0 := Lib.hid hn0
  have HN1 := Lib.hid hn1
  have HN2 := Lib.hid hn2
  have HP := Lib.hid hp
  have HF := Lib.hid hf
  have hlP := lt_of_block aP
  have hDw : D ≤ w.heap.size := by omega
  go_enter Try.func83, Try.ntmps83
  go_upto_region 1 with fail
  obtain ⟨W, hW, sW, qX, kW⟩ := blocks1 w (.cells #[.int .i64 c, .int .i64 n, .int .i64 5, .int .i64 x, .int .i64 y] 34)
  rw [← hW]
  clear hW sW
  have aX := carryN kW aP
  have O := Lib.hid (h.below kW)
  have KD := Lib.hid (kW.mono hDw)
  have hPQ : ¬ (P = w.heap.size) := by omega
  have hQP : ¬ (w.heap.size = P) := by omega
  have ga := cellRe aX
  have gq := cellRe qX
  have cF := quietC (w := W) (fun V hV => figure_c es c a0 a1 a2 n0 16 n2 n0 c1 c2 V ((O.out.e.slG five_len HN0.out).below hV))
  rw [figI_opt, hfig] at cF
  clear aP h hn0 hn1 hn2 hp hf kW hlP
  go_wp2_with fail
  refine wp_region_quiet_below (by kernel_rfl) (by kernel_rfl) ?_
  repeat (go_big_quiet_step (first | with_reducible exact cF _ _))
  refine wpQuiet_nil ?_
  intro _ hw'
  obtain ⟨⟨dq, osq⟩, hw''⟩ := hw'
  subst hw''
  have hkb := below_regrown W dq osq
  replace aX := carryN hkb aX
  replace qX := carryN hkb qX
  replace O := Lib.hid (O.out.below hkb)
  replace KD := Lib.hid (KD.out.trans (hkb.mono (Nat.le_trans hDw KD.out.size)))
  clear hkb
  generalize Sort.grow (redrawn W dq) osq = X at *
  clear ga gq cF
  have cA := cell_of_block aX
  have cQ := cell_of_block qX
  have ho : optI (some k) = (k : Int) := rfl
  rw [ho]
  clear ho
  have hkz : k < es.length := by obtain ⟨hl, -⟩ := figAt_some hfig; exact hl
  have hkn : k < n0 := by rw [← HN0.out]; exact hkz
  have hk0 : (0 : Int) ≤ (k : Int) := by omega
  have hk1 : (k : Int) < (n0 : Int) := by omega
  have hkd : decide ((0 : Int) ≤ (k : Int)) = true := by simp
  have hkm : ¬ (k : Int) < 0 := by omega
  obtain ⟨g0, hg0, hgB, hgl, e0, e1, e2, e3, e4, ff, hr0⟩ := O.out.e.entAt (i := k) hkz
  simp only at e0 e1 e2 e3 e4
  subst hg0
  have hPk := HP.out _ (List.getElem_mem hkz)
  have HGK := Lib.hid (entN_get hkz)
  have hPg : ¬ P = g0 := fun e => by
    obtain ⟨g', cur, q1, -, q3, -⟩ := O.out.e.own (by have := O.out.e.len; omega)
    injection q1 with q1
    injection q1 with q1
    subst q1
    rw [← e, aX] at q3
    injection q3 with q3
    injection q3 with q3 q4
    exact absurd q4 (by decide)
  have hgP : ¬ g0 = P := fun e => hPg e.symm
  have hQg : ¬ w.heap.size = g0 := fun e => by
    obtain ⟨g', cur, q1, -, q3, -⟩ := O.out.e.own (by have := O.out.e.len; omega)
    injection q1 with q1
    injection q1 with q1
    subst q1
    rw [← e, qX] at q3
    injection q3 with q3
    injection q3 with q3 q4
    exact absurd q4 (by decide)
  have hgQ : ¬ g0 = w.heap.size := fun e => hQg e.symm
  generalize hzk : es[k] = z at *
  have HZK := Lib.hid hzk
  clear hzk
  have hob1 : ((5 : Int) == 1) = false := by decide
  have hob2 : ((5 : Int) == 2) = false := by decide
  have hob3 : ((5 : Int) == 3) = false := by decide
  have ga := cellRe aX
  have gq := cellRe qX
  have cG := quietC (w := X) (fun V hV => figure_c es x (some ⟨g0, 0, none⟩) a1 a2 n0 16 n2 n0 c1 c2 V ((O.out.e.slG five_len HN0.out).below hV))
  rw [figI_opt] at cG
  clear e0 e1 e2 e3 e4 ff
  go_wp2_with fail
  refine wp_region_quiet_below (by kernel_rfl) (by kernel_rfl) ?_
  repeat (go_big_quiet_step (first | with_reducible exact cG _ _))
  refine wpQuiet_nil ?_
  intro _ hw'
  obtain ⟨⟨dq, osq⟩, hw''⟩ := hw'
  subst hw''
  have hkb := below_regrown X dq osq
  replace aX := carryN hkb aX
  replace qX := carryN hkb qX
  replace O := Lib.hid (O.out.below hkb)
  replace KD := Lib.hid (KD.out.trans (hkb.mono (Nat.le_trans hDw KD.out.size)))
  clear hkb
  generalize Sort.grow (redrawn X dq) osq = Y at *
  clear ga gq cG
  have cA := cell_of_block aX
  have cQ := cell_of_block qX
  obtain ⟨hml, -⟩ := figAt_some hfa
  rw [hfa]
  have hm0 : optI (some m) = (m : Int) := rfl
  rw [hm0]
  clear hm0 hfa
  have hmn0 : m < n0 := by rw [← HN0.out]; exact hml
  obtain ⟨g9, hg9, -, -, e0, e1, e2, e3, e4, -, -⟩ := O.out.e.entAt (i := k) hkz
  injection hg9 with hg9
  injection hg9 with hg9
  subst hg9
  obtain ⟨g9, hg9, -, -, d0, d1, d2, d3, d4, -, -⟩ := O.out.e.entAt (i := m) hml
  injection hg9 with hg9
  injection hg9 with hg9
  subst hg9
  simp only at e0 e1 e2 e3 e4 d0 d1 d2 d3 d4
  rw [HZK.out] at e0 e1 e2 e3 e4
  have hPm := HP.out _ (List.getElem_mem hml)
  have HGN := Lib.hid (entN_get hml)
  rw [HGK.out, entN_get hml] at hnr
  generalize hzm : es[m] = zm at *
  have HZM := Lib.hid hzm
  clear hzm
  have x0 := cell_regrown e0
  have x1 := cell_regrown e1
  have x2 := cell_regrown e2
  have x3 := cell_regrown e3
  have x4 := cell_regrown e4
  have y0 := cell_regrown d0
  have y1 := cell_regrown d1
  have y2 := cell_regrown d2
  have y3 := cell_regrown d3
  have y4 := cell_regrown d4
  have ga := cellRe aX
  have cN := quietC (w := Y) (fun V _ => near_c z zm V ⟨hPk.1.1, hPk.1.2, hPk.2.1.1, hPk.2.1.2⟩ ⟨hPm.1.1, hPm.1.2, hPm.2.1.1, hPm.2.1.2⟩)
  rw [hnr] at cN
  have hmd : decide ((m : Int) < 0) = false := by simp
  have hmn : ¬ (m : Int) < 0 := by omega
  have hmkb : ((m : Int) == (k : Int)) = false := by simp; omega
  have hmk2 : ¬ (m : Int) = (k : Int) := by omega
  have hm0' : (0 : Int) ≤ (m : Int) := by omega
  have hm1' : (m : Int) < (n0 : Int) := by omega
  clear e0 e1 e2 e3 e4 d0 d1 d2 d3 d4 hnr cA cQ
  go_wp2_with fail
  refine wp_region_quiet_below (by kernel_rfl) (by kernel_rfl) ?_
  repeat (go_big_quiet_step (first | with_reducible exact cN _ _))
  refine wpQuiet_nil ?_
  intro _ hw'
  obtain ⟨⟨dq, osq⟩, hw''⟩ := hw'
  subst hw''
  have hkb := below_regrown Y dq osq
  replace aX := carryN hkb aX
  replace qX := carryN hkb qX
  replace O := Lib.hid (O.out.below hkb)
  replace KD := Lib.hid (KD.out.trans (hkb.mono (Nat.le_trans hDw KD.out.size)))
  clear hkb
  generalize Sort.grow (redrawn Y dq) osq = Z at *
  clear x0 x1 x2 x3 x4 y0 y1 y2 y3 y4 ga cN
  have cA := cell_of_block aX
  have cQ := cell_of_block qX
  obtain ⟨g9, hg9, -, -, -, -, -, -, e4, ff, -⟩ := O.out.e.entAt (i := k) hkz
  injection hg9 with hg9
  injection hg9 with hg9
  subst hg9
  simp only at e4
  rw [HZK.out] at e4
  rw [HGK.out] at hpo
  have x4 := cell_regrown e4
  have gq := cellRe qX
  have hpd : decide (z.y < y) = true := by simp; omega
  have hpi : z.y < y := hpo
  go_wp2_with fail
  refine wp_region_quiet_below (by kernel_rfl) (by kernel_rfl) ?_
  repeat (go_big_quiet_step (fail))
  refine wpQuiet_nil ?_
  intro _ hw'
  obtain ⟨⟨dq, osq⟩, hw''⟩ := hw'
  subst hw''
  have hkb := below_regrown Z dq osq
  replace aX := carryN hkb aX
  replace qX := carryN hkb qX
  replace O := Lib.hid (O.out.below hkb)
  replace KD := Lib.hid (KD.out.trans (hkb.mono (Nat.le_trans hDw KD.out.size)))
  clear hkb
  generalize Sort.grow (redrawn Z dq) osq = T at *
  clear x4 gq e4 ff
  go_wp2_with fail
  go_ret
  exact actOut aX O.out KD.out HN0.out HN1.out HN2.out
set_option maxRecDepth 100000 in
set_option maxHeartbeats 8000000 in
theorem act_give {D B : Nat} (es : List Rq) (fl la : List Int) (n0 n2 P : Nat) (a0 a1 a2 : Option Addr) (c1 c2 : Nat) (c n x y : Int) (w : World) (aP : w.heap[P]? = some (.cells #[.slice a0 n0 n0, .slice a1 16 c1, .slice a2 n2 c2] 46 (0, 0))) (h : Own3 w B a0 n0 a1 c1 a2 c2 ⟨es, fl, la⟩) (hn0 : es.length = n0) (hn1 : fl.length = 16) (hn2 : la.length = n2) (h4 : n0 ≤ 4) (hD : D ≤ B) (hDP : D ≤ P) (hp : Places es) (hf : ∀ n ∈ fl, 0 ≤ n ∧ n ≤ 20)
    (hc : 1 ≤ c ∧ c ≤ 4) (hx : -1 ≤ x ∧ x ≤ 4) (hy : -1 ≤ y ∧ y ≤ 9) (k : Nat) (hfig : figAt es c = some k) (m : Nat) (hfa : figAt es x = some m) (hmk : m ≠ k) (hnr : nearB (entN es k) (entN es m) = true) (hpo : ¬ (entN es k).y < y) :
    Calls Try.prog 83 #[.pointer (some ⟨P, 0, none⟩), .agg #[.int .i64 c, .int .i64 n, .int .i64 5, .int .i64 x, .int .i64 y]] w (ActOut D B P c1 c2 ⟨(es.set m { (entN es m) with y := (entN es m).y + y }).set k { (entN es k) with y := (entN es k).y - y }, fl, la⟩ 0 w) := by
  have HN0 := Lib.hid hn0
  have HN1 := Lib.hid hn1
  have HN2 := Lib.hid hn2
  have HP := Lib.hid hp
  have HF := Lib.hid hf
  have hlP := lt_of_block aP
  have hDw : D ≤ w.heap.size := by omega
  go_enter Try.func83, Try.ntmps83
  go_upto_region 1 with fail
  obtain ⟨W, hW, sW, qX, kW⟩ := blocks1 w (.cells #[.int .i64 c, .int .i64 n, .int .i64 5, .int .i64 x, .int .i64 y] 34)
  rw [← hW]
  clear hW sW
  have aX := carryN kW aP
  have O := Lib.hid (h.below kW)
  have KD := Lib.hid (kW.mono hDw)
  have hPQ : ¬ (P = w.heap.size) := by omega
  have hQP : ¬ (w.heap.size = P) := by omega
  have ga := cellRe aX
  have gq := cellRe qX
  have cF := quietC (w := W) (fun V hV => figure_c es c a0 a1 a2 n0 16 n2 n0 c1 c2 V ((O.out.e.slG five_len HN0.out).below hV))
  rw [figI_opt, hfig] at cF
  clear aP h hn0 hn1 hn2 hp hf kW hlP
  go_wp2_with fail
  refine wp_region_quiet_below (by kernel_rfl) (by kernel_rfl) ?_
  repeat (go_big_quiet_step (first | with_reducible exact cF _ _))
  refine wpQuiet_nil ?_
  intro _ hw'
  obtain ⟨⟨dq, osq⟩, hw''⟩ := hw'
  subst hw''
  have hkb := below_regrown W dq osq
  replace aX := carryN hkb aX
  replace qX := carryN hkb qX
  replace O := Lib.hid (O.out.below hkb)
  replace KD := Lib.hid (KD.out.trans (hkb.mono (Nat.le_trans hDw KD.out.size)))
  clear hkb
  generalize Sort.grow (redrawn W dq) osq = X at *
  clear ga gq cF
  have cA := cell_of_block aX
  have cQ := cell_of_block qX
  have ho : optI (some k) = (k : Int) := rfl
  rw [ho]
  clear ho
  have hkz : k < es.length := by obtain ⟨hl, -⟩ := figAt_some hfig; exact hl
  have hkn : k < n0 := by rw [← HN0.out]; exact hkz
  have hk0 : (0 : Int) ≤ (k : Int) := by omega
  have hk1 : (k : Int) < (n0 : Int) := by omega
  have hkd : decide ((0 : Int) ≤ (k : Int)) = true := by simp
  have hkm : ¬ (k : Int) < 0 := by omega
  obtain ⟨g0, hg0, hgB, hgl, e0, e1, e2, e3, e4, ff, hr0⟩ := O.out.e.entAt (i := k) hkz
  simp only at e0 e1 e2 e3 e4
  subst hg0
  have hPk := HP.out _ (List.getElem_mem hkz)
  have HGK := Lib.hid (entN_get hkz)
  have hPg : ¬ P = g0 := fun e => by
    obtain ⟨g', cur, q1, -, q3, -⟩ := O.out.e.own (by have := O.out.e.len; omega)
    injection q1 with q1
    injection q1 with q1
    subst q1
    rw [← e, aX] at q3
    injection q3 with q3
    injection q3 with q3 q4
    exact absurd q4 (by decide)
  have hgP : ¬ g0 = P := fun e => hPg e.symm
  have hQg : ¬ w.heap.size = g0 := fun e => by
    obtain ⟨g', cur, q1, -, q3, -⟩ := O.out.e.own (by have := O.out.e.len; omega)
    injection q1 with q1
    injection q1 with q1
    subst q1
    rw [← e, qX] at q3
    injection q3 with q3
    injection q3 with q3 q4
    exact absurd q4 (by decide)
  have hgQ : ¬ g0 = w.heap.size := fun e => hQg e.symm
  generalize hzk : es[k] = z at *
  have HZK := Lib.hid hzk
  clear hzk
  have hob1 : ((5 : Int) == 1) = false := by decide
  have hob2 : ((5 : Int) == 2) = false := by decide
  have hob3 : ((5 : Int) == 3) = false := by decide
  have ga := cellRe aX
  have gq := cellRe qX
  have cG := quietC (w := X) (fun V hV => figure_c es x (some ⟨g0, 0, none⟩) a1 a2 n0 16 n2 n0 c1 c2 V ((O.out.e.slG five_len HN0.out).below hV))
  rw [figI_opt] at cG
  clear e0 e1 e2 e3 e4 ff
  go_wp2_with fail
  refine wp_region_quiet_below (by kernel_rfl) (by kernel_rfl) ?_
  repeat (go_big_quiet_step (first | with_reducible exact cG _ _))
  refine wpQuiet_nil ?_
  intro _ hw'
  obtain ⟨⟨dq, osq⟩, hw''⟩ := hw'
  subst hw''
  have hkb := below_regrown X dq osq
  replace aX := carryN hkb aX
  replace qX := carryN hkb qX
  replace O := Lib.hid (O.out.below hkb)
  replace KD := Lib.hid (KD.out.trans (hkb.mono (Nat.le_trans hDw KD.out.size)))
  clear hkb
  generalize Sort.grow (redrawn X dq) osq = Y at *
  clear ga gq cG
  have cA := cell_of_block aX
  have cQ := cell_of_block qX
  obtain ⟨hml, -⟩ := figAt_some hfa
  rw [hfa]
  have hm0 : optI (some m) = (m : Int) := rfl
  rw [hm0]
  clear hm0 hfa
  have hmn0 : m < n0 := by rw [← HN0.out]; exact hml
  obtain ⟨g9, hg9, -, -, e0, e1, e2, e3, e4, -, -⟩ := O.out.e.entAt (i := k) hkz
  injection hg9 with hg9
  injection hg9 with hg9
  subst hg9
  obtain ⟨g9, hg9, -, -, d0, d1, d2, d3, d4, -, -⟩ := O.out.e.entAt (i := m) hml
  injection hg9 with hg9
  injection hg9 with hg9
  subst hg9
  simp only at e0 e1 e2 e3 e4 d0 d1 d2 d3 d4
  rw [HZK.out] at e0 e1 e2 e3 e4
  have hPm := HP.out _ (List.getElem_mem hml)
  have HGN := Lib.hid (entN_get hml)
  rw [HGK.out, entN_get hml] at hnr
  generalize hzm : es[m] = zm at *
  have HZM := Lib.hid hzm
  clear hzm
  have x0 := cell_regrown e0
  have x1 := cell_regrown e1
  have x2 := cell_regrown e2
  have x3 := cell_regrown e3
  have x4 := cell_regrown e4
  have y0 := cell_regrown d0
  have y1 := cell_regrown d1
  have y2 := cell_regrown d2
  have y3 := cell_regrown d3
  have y4 := cell_regrown d4
  have ga := cellRe aX
  have cN := quietC (w := Y) (fun V _ => near_c z zm V ⟨hPk.1.1, hPk.1.2, hPk.2.1.1, hPk.2.1.2⟩ ⟨hPm.1.1, hPm.1.2, hPm.2.1.1, hPm.2.1.2⟩)
  rw [hnr] at cN
  have hmd : decide ((m : Int) < 0) = false := by simp
  have hmn : ¬ (m : Int) < 0 := by omega
  have hmkb : ((m : Int) == (k : Int)) = false := by simp; omega
  have hmk2 : ¬ (m : Int) = (k : Int) := by omega
  have hm0' : (0 : Int) ≤ (m : Int) := by omega
  have hm1' : (m : Int) < (n0 : Int) := by omega
  clear e0 e1 e2 e3 e4 d0 d1 d2 d3 d4 hnr cA cQ
  go_wp2_with fail
  refine wp_region_quiet_below (by kernel_rfl) (by kernel_rfl) ?_
  repeat (go_big_quiet_step (first | with_reducible exact cN _ _))
  refine wpQuiet_nil ?_
  intro _ hw'
  obtain ⟨⟨dq, osq⟩, hw''⟩ := hw'
  subst hw''
  have hkb := below_regrown Y dq osq
  replace aX := carryN hkb aX
  replace qX := carryN hkb qX
  replace O := Lib.hid (O.out.below hkb)
  replace KD := Lib.hid (KD.out.trans (hkb.mono (Nat.le_trans hDw KD.out.size)))
  clear hkb
  generalize Sort.grow (redrawn Y dq) osq = Z at *
  clear x0 x1 x2 x3 x4 y0 y1 y2 y3 y4 ga cN
  have cA := cell_of_block aX
  have cQ := cell_of_block qX
  obtain ⟨g9, hg9, -, -, -, -, -, -, e4, ff, -⟩ := O.out.e.entAt (i := k) hkz
  injection hg9 with hg9
  injection hg9 with hg9
  subst hg9
  simp only at e4
  rw [HZK.out] at e4
  rw [HGK.out] at hpo
  have x4 := cell_regrown e4
  have gq := cellRe qX
  have hpd : decide (z.y < y) = false := by simp; omega
  have hpi : ¬ z.y < y := by omega
  go_wp2_with fail
  refine wp_region_quiet_below (by kernel_rfl) (by kernel_rfl) ?_
  repeat (go_big_quiet_step (fail))
  refine wpQuiet_nil ?_
  intro _ hw'
  obtain ⟨⟨dq, osq⟩, hw''⟩ := hw'
  subst hw''
  have hkb := below_regrown Z dq osq
  replace aX := carryN hkb aX
  replace qX := carryN hkb qX
  replace O := Lib.hid (O.out.below hkb)
  replace KD := Lib.hid (KD.out.trans (hkb.mono (Nat.le_trans hDw KD.out.size)))
  clear hkb
  generalize Sort.grow (redrawn Z dq) osq = T at *
  clear x4 gq e4 ff cA cQ
  have hm3 : IntKind.i64.wrap (z.y - y) = z.y - y := IntWalk.i64_in _ ⟨by omega, by omega⟩
  have hm4 : IntKind.i64.wrap (zm.y + y) = zm.y + y := IntWalk.i64_in _ ⟨by omega, by omega⟩
  obtain ⟨g9, hg9, -, -, -, -, -, -, e4, ff, -⟩ := O.out.e.entAt (i := k) hkz
  injection hg9 with hg9
  injection hg9 with hg9
  subst hg9
  simp only at e4
  rw [HZK.out] at e4
  have ff4 := ff (k * 5 + 4)
  clear ff
  have cA := cell_of_block aX
  have cQ := cell_of_block qX
  have hgY : D ≤ g0 := by omega
  have O1 := Lib.hid (O.out.cellE (i := k) (j := 4) hkz (by decide) ({ z with y := z.y - y } : Rq) (.int .i64 (z.y - y)) rfl (fun j' h1 h2 => by
    simp only [HZK.out]
    have : j' = 0 ∨ j' = 1 ∨ j' = 2 ∨ j' = 3 := by omega
    rcases this with rfl | rfl | rfl | rfl <;> rfl)).drew
  have a1' := (Below.heap_setCell T ⟨g0, k * 5 + 4, none⟩ (.int .i64 (z.y - y)) P hPg).trans aX
  have q1' := (Below.heap_setCell T ⟨g0, k * 5 + 4, none⟩ (.int .i64 (z.y - y)) w.heap.size hQg).trans qX
  have K1 := Lib.hid (Below.setCell KD.out (p := ⟨g0, k * 5 + 4, none⟩) hgY (.int .i64 (z.y - y))).drew
  go_wp2_with fail
  go_still_tail 9, (by kernel_rfl)
  change wpList _ _ _ _ _ T.drew
  go_upto_region 35 with fail
  obtain ⟨U, hU⟩ : ∃ U, U = (T.setCell ⟨g0, k * 5 + 4, none⟩ (.int .i64 (z.y - y))).drew := ⟨_, rfl⟩
  have a2' : (T.setCell ⟨g0, k * 5 + 4, none⟩ (.int .i64 (z.y - y))).drew.heap[P]? = _ := a1'
  have q2' : (T.setCell ⟨g0, k * 5 + 4, none⟩ (.int .i64 (z.y - y))).drew.heap[w.heap.size]? = _ := q1'
  rw [← hU] at O1 K1 a2' q2' ⊢
  clear hU a1' q1' aX qX O KD cA cQ e4 ff4 hm3
  have hml1 : m < (es.set k ({ z with y := z.y - y } : Rq)).length := by rw [List.length_set]; exact hml
  obtain ⟨g9, hg9, -, -, -, -, -, -, e4, ff, -⟩ := O1.out.e.entAt (i := m) hml1
  injection hg9 with hg9
  injection hg9 with hg9
  subst hg9
  have hgm : (es.set k ({ z with y := z.y - y } : Rq))[m] = zm := by rw [List.getElem_set_ne (fun e => hmk e.symm), HZM.out]
  have HGM := Lib.hid hgm
  simp only at e4
  rw [hgm] at e4
  clear hgm
  have ff4 := ff (m * 5 + 4)
  clear ff
  have cA := cell_of_block a2'
  have cQ := cell_of_block q2'
  have O2 := Lib.hid (O1.out.cellE (i := m) (j := 4) hml1 (by decide) ({ zm with y := zm.y + y } : Rq) (.int .i64 (zm.y + y)) rfl (fun j' h1 h2 => by
    simp only [HGM.out]
    have : j' = 0 ∨ j' = 1 ∨ j' = 2 ∨ j' = 3 := by omega
    rcases this with rfl | rfl | rfl | rfl <;> rfl)).drew
  have a3' := (Below.heap_setCell U ⟨g0, m * 5 + 4, none⟩ (.int .i64 (zm.y + y)) P hPg).trans a2'
  have K2 := Lib.hid (Below.setCell K1.out (p := ⟨g0, m * 5 + 4, none⟩) hgY (.int .i64 (zm.y + y))).drew
  go_still_tail 9, (by kernel_rfl)
  change wpList _ _ _ _ _ U.drew
  go_wp2_with fail
  go_ret
  rw [HGK.out, HGN.out]
  have o2 := O2.out
  rw [List.set_comm _ _ (fun e => hmk e.symm)] at o2
  exact actOut (show (U.setCell ⟨g0, m * 5 + 4, none⟩ (.int .i64 (zm.y + y))).drew.heap[P]? = _ from a3') o2 K2.out (by simp only [List.length_set]; exact HN0.out) HN1.out HN2.out
set_option maxRecDepth 100000 in
set_option maxHeartbeats 8000000 in
theorem act_hit {D B : Nat} (es : List Rq) (fl la : List Int) (n0 n2 P : Nat) (a0 a1 a2 : Option Addr) (c1 c2 : Nat) (c n x y : Int) (w : World) (aP : w.heap[P]? = some (.cells #[.slice a0 n0 n0, .slice a1 16 c1, .slice a2 n2 c2] 46 (0, 0))) (h : Own3 w B a0 n0 a1 c1 a2 c2 ⟨es, fl, la⟩) (hn0 : es.length = n0) (hn1 : fl.length = 16) (hn2 : la.length = n2) (h4 : n0 ≤ 4) (hD : D ≤ B) (hDP : D ≤ P) (hp : Places es) (hf : ∀ n ∈ fl, 0 ≤ n ∧ n ≤ 20)
    (hc : 1 ≤ c ∧ c ≤ 4) (hx : -1 ≤ x ∧ x ≤ 4) (hy : -1 ≤ y ∧ y ≤ 9) (k : Nat) (hfig : figAt es c = some k) (m : Nat) (hfa : figAt es x = some m) (hmk : m ≠ k) (hnr : nearB (entN es k) (entN es m) = true) (hxp : 0 < (entN es m).x - 1) :
    Calls Try.prog 83 #[.pointer (some ⟨P, 0, none⟩), .agg #[.int .i64 c, .int .i64 n, .int .i64 4, .int .i64 x, .int .i64 y]] w (ActOut D B P c1 c2 ⟨es.set m { (entN es m) with x := (entN es m).x - 1 }, fl, la⟩ 0 w) := by
  have HN0 := Lib.hid hn0
  have HN1 := Lib.hid hn1
  have HN2 := Lib.hid hn2
  have HP := Lib.hid hp
  have HF := Lib.hid hf
  have hlP := lt_of_block aP
  have hDw : D ≤ w.heap.size := by omega
  go_enter Try.func83, Try.ntmps83
  go_upto_region 1 with fail
  obtain ⟨W, hW, sW, qX, kW⟩ := blocks1 w (.cells #[.int .i64 c, .int .i64 n, .int .i64 4, .int .i64 x, .int .i64 y] 34)
  rw [← hW]
  clear hW sW
  have aX := carryN kW aP
  have O := Lib.hid (h.below kW)
  have KD := Lib.hid (kW.mono hDw)
  have hPQ : ¬ (P = w.heap.size) := by omega
  have hQP : ¬ (w.heap.size = P) := by omega
  have ga := cellRe aX
  have gq := cellRe qX
  have cF := quietC (w := W) (fun V hV => figure_c es c a0 a1 a2 n0 16 n2 n0 c1 c2 V ((O.out.e.slG five_len HN0.out).below hV))
  rw [figI_opt, hfig] at cF
  clear aP h hn0 hn1 hn2 hp hf kW hlP
  go_wp2_with fail
  refine wp_region_quiet_below (by kernel_rfl) (by kernel_rfl) ?_
  repeat (go_big_quiet_step (first | with_reducible exact cF _ _))
  refine wpQuiet_nil ?_
  intro _ hw'
  obtain ⟨⟨dq, osq⟩, hw''⟩ := hw'
  subst hw''
  have hkb := below_regrown W dq osq
  replace aX := carryN hkb aX
  replace qX := carryN hkb qX
  replace O := Lib.hid (O.out.below hkb)
  replace KD := Lib.hid (KD.out.trans (hkb.mono (Nat.le_trans hDw KD.out.size)))
  clear hkb
  generalize Sort.grow (redrawn W dq) osq = X at *
  clear ga gq cF
  have cA := cell_of_block aX
  have cQ := cell_of_block qX
  have ho : optI (some k) = (k : Int) := rfl
  rw [ho]
  clear ho
  have hkz : k < es.length := by obtain ⟨hl, -⟩ := figAt_some hfig; exact hl
  have hkn : k < n0 := by rw [← HN0.out]; exact hkz
  have hk0 : (0 : Int) ≤ (k : Int) := by omega
  have hk1 : (k : Int) < (n0 : Int) := by omega
  have hkd : decide ((0 : Int) ≤ (k : Int)) = true := by simp
  have hkm : ¬ (k : Int) < 0 := by omega
  obtain ⟨g0, hg0, hgB, hgl, e0, e1, e2, e3, e4, ff, hr0⟩ := O.out.e.entAt (i := k) hkz
  simp only at e0 e1 e2 e3 e4
  subst hg0
  have hPk := HP.out _ (List.getElem_mem hkz)
  have HGK := Lib.hid (entN_get hkz)
  have hPg : ¬ P = g0 := fun e => by
    obtain ⟨g', cur, q1, -, q3, -⟩ := O.out.e.own (by have := O.out.e.len; omega)
    injection q1 with q1
    injection q1 with q1
    subst q1
    rw [← e, aX] at q3
    injection q3 with q3
    injection q3 with q3 q4
    exact absurd q4 (by decide)
  have hgP : ¬ g0 = P := fun e => hPg e.symm
  have hQg : ¬ w.heap.size = g0 := fun e => by
    obtain ⟨g', cur, q1, -, q3, -⟩ := O.out.e.own (by have := O.out.e.len; omega)
    injection q1 with q1
    injection q1 with q1
    subst q1
    rw [← e, qX] at q3
    injection q3 with q3
    injection q3 with q3 q4
    exact absurd q4 (by decide)
  have hgQ : ¬ g0 = w.heap.size := fun e => hQg e.symm
  generalize hzk : es[k] = z at *
  have HZK := Lib.hid hzk
  clear hzk
  have hob1 : ((4 : Int) == 1) = false := by decide
  have hob2 : ((4 : Int) == 2) = false := by decide
  have hob3 : ((4 : Int) == 3) = false := by decide
  have ga := cellRe aX
  have gq := cellRe qX
  have cG := quietC (w := X) (fun V hV => figure_c es x (some ⟨g0, 0, none⟩) a1 a2 n0 16 n2 n0 c1 c2 V ((O.out.e.slG five_len HN0.out).below hV))
  rw [figI_opt] at cG
  clear e0 e1 e2 e3 e4 ff
  go_wp2_with fail
  refine wp_region_quiet_below (by kernel_rfl) (by kernel_rfl) ?_
  repeat (go_big_quiet_step (first | with_reducible exact cG _ _))
  refine wpQuiet_nil ?_
  intro _ hw'
  obtain ⟨⟨dq, osq⟩, hw''⟩ := hw'
  subst hw''
  have hkb := below_regrown X dq osq
  replace aX := carryN hkb aX
  replace qX := carryN hkb qX
  replace O := Lib.hid (O.out.below hkb)
  replace KD := Lib.hid (KD.out.trans (hkb.mono (Nat.le_trans hDw KD.out.size)))
  clear hkb
  generalize Sort.grow (redrawn X dq) osq = Y at *
  clear ga gq cG
  have cA := cell_of_block aX
  have cQ := cell_of_block qX
  obtain ⟨hml, -⟩ := figAt_some hfa
  rw [hfa]
  have hm0 : optI (some m) = (m : Int) := rfl
  rw [hm0]
  clear hm0 hfa
  have hmn0 : m < n0 := by rw [← HN0.out]; exact hml
  obtain ⟨g9, hg9, -, -, e0, e1, e2, e3, e4, -, -⟩ := O.out.e.entAt (i := k) hkz
  injection hg9 with hg9
  injection hg9 with hg9
  subst hg9
  obtain ⟨g9, hg9, -, -, d0, d1, d2, d3, d4, -, -⟩ := O.out.e.entAt (i := m) hml
  injection hg9 with hg9
  injection hg9 with hg9
  subst hg9
  simp only at e0 e1 e2 e3 e4 d0 d1 d2 d3 d4
  rw [HZK.out] at e0 e1 e2 e3 e4
  have hPm := HP.out _ (List.getElem_mem hml)
  have HGN := Lib.hid (entN_get hml)
  rw [HGK.out, entN_get hml] at hnr
  generalize hzm : es[m] = zm at *
  have HZM := Lib.hid hzm
  clear hzm
  have x0 := cell_regrown e0
  have x1 := cell_regrown e1
  have x2 := cell_regrown e2
  have x3 := cell_regrown e3
  have x4 := cell_regrown e4
  have y0 := cell_regrown d0
  have y1 := cell_regrown d1
  have y2 := cell_regrown d2
  have y3 := cell_regrown d3
  have y4 := cell_regrown d4
  have ga := cellRe aX
  have cN := quietC (w := Y) (fun V _ => near_c z zm V ⟨hPk.1.1, hPk.1.2, hPk.2.1.1, hPk.2.1.2⟩ ⟨hPm.1.1, hPm.1.2, hPm.2.1.1, hPm.2.1.2⟩)
  rw [hnr] at cN
  have hmd : decide ((m : Int) < 0) = false := by simp
  have hmn : ¬ (m : Int) < 0 := by omega
  have hmkb : ((m : Int) == (k : Int)) = false := by simp; omega
  have hmk2 : ¬ (m : Int) = (k : Int) := by omega
  have hm0' : (0 : Int) ≤ (m : Int) := by omega
  have hm1' : (m : Int) < (n0 : Int) := by omega
  clear e0 e1 e2 e3 e4 d0 d1 d2 d3 d4 hnr cA cQ
  go_wp2_with fail
  refine wp_region_quiet_below (by kernel_rfl) (by kernel_rfl) ?_
  repeat (go_big_quiet_step (first | with_reducible exact cN _ _))
  refine wpQuiet_nil ?_
  intro _ hw'
  obtain ⟨⟨dq, osq⟩, hw''⟩ := hw'
  subst hw''
  have hkb := below_regrown Y dq osq
  replace aX := carryN hkb aX
  replace qX := carryN hkb qX
  replace O := Lib.hid (O.out.below hkb)
  replace KD := Lib.hid (KD.out.trans (hkb.mono (Nat.le_trans hDw KD.out.size)))
  clear hkb
  generalize Sort.grow (redrawn Y dq) osq = Z at *
  clear x0 x1 x2 x3 x4 y0 y1 y2 y3 y4 ga cN
  have cA := cell_of_block aX
  have cQ := cell_of_block qX
  have hm3 : IntKind.i64.wrap (zm.x - 1) = zm.x - 1 := IntWalk.i64_in _ ⟨by omega, by omega⟩
  obtain ⟨g9, hg9, -, -, -, -, -, e3, -, ff, -⟩ := O.out.e.entAt (i := m) hml
  injection hg9 with hg9
  injection hg9 with hg9
  subst hg9
  simp only at e3
  rw [HZM.out] at e3
  have ff3 := ff (m * 5 + 3)
  clear ff
  have hgY : D ≤ g0 := by omega
  have O1 := Lib.hid (O.out.cellE (i := m) (j := 3) hml (by decide) ({ zm with x := zm.x - 1 } : Rq) (.int .i64 (zm.x - 1)) rfl (fun j' h1 h2 => by
    simp only [HZM.out]
    have : j' = 0 ∨ j' = 1 ∨ j' = 2 ∨ j' = 4 := by omega
    rcases this with rfl | rfl | rfl | rfl <;> rfl))
  have a1' := (Below.heap_setCell Z ⟨g0, m * 5 + 3, none⟩ (.int .i64 (zm.x - 1)) P hPg).trans aX
  have K1 := Lib.hid (Below.setCell KD.out (p := ⟨g0, m * 5 + 3, none⟩) hgY (.int .i64 (zm.x - 1)))
  go_upto_region 38 with fail
  obtain ⟨U, hU⟩ : ∃ U, U = Z.setCell ⟨g0, m * 5 + 3, none⟩ (.int .i64 (zm.x - 1)) := ⟨_, rfl⟩
  rw [← hU] at O1 K1 a1' ⊢
  clear hU aX qX O KD cA cQ e3 ff3 hm3
  have hml1 : m < (es.set m ({ zm with x := zm.x - 1 } : Rq)).length := by rw [List.length_set]; exact hml
  obtain ⟨g9, hg9, -, -, e0, e1, e2, e3, e4, -, -⟩ := O1.out.e.entAt (i := m) hml1
  injection hg9 with hg9
  injection hg9 with hg9
  subst hg9
  simp only [List.getElem_set_self] at e0 e1 e2 e3 e4
  have HL1 := Lib.hid (show (es.set m ({ zm with x := zm.x - 1 } : Rq)).length = n0 by rw [List.length_set]; exact HN0.out)
  have cA := cell_of_block a1'
  rw [HGN.out] at hxp
  have hxi : ¬ zm.x - 1 ≤ 0 := by omega
  go_wp2_with fail
  go_ret
  rw [HGN.out]
  exact actOut a1' O1.out K1.out HL1.out HN1.out HN2.out
set_option maxRecDepth 100000 in
set_option maxHeartbeats 8000000 in
theorem act_kill {D B : Nat} (es : List Rq) (fl la : List Int) (n0 n2 P : Nat) (a0 a1 a2 : Option Addr) (c1 c2 : Nat) (c n x y : Int) (w : World) (aP : w.heap[P]? = some (.cells #[.slice a0 n0 n0, .slice a1 16 c1, .slice a2 n2 c2] 46 (0, 0))) (h : Own3 w B a0 n0 a1 c1 a2 c2 ⟨es, fl, la⟩) (hn0 : es.length = n0) (hn1 : fl.length = 16) (hn2 : la.length = n2) (h4 : n0 ≤ 4) (hD : D ≤ B) (hDP : D ≤ P) (hp : Places es) (hf : ∀ n ∈ fl, 0 ≤ n ∧ n ≤ 20)
    (hc : 1 ≤ c ∧ c ≤ 4) (hx : -1 ≤ x ∧ x ≤ 4) (hy : -1 ≤ y ∧ y ≤ 9) (k : Nat) (hfig : figAt es c = some k) (m : Nat) (hfa : figAt es x = some m) (hmk : m ≠ k) (hnr : nearB (entN es k) (entN es m) = true) (hxp : (entN es m).x - 1 ≤ 0) (hB : B ≤ w.heap.size) :
    Calls Try.prog 83 #[.pointer (some ⟨P, 0, none⟩), .agg #[.int .i64 c, .int .i64 n, .int .i64 4, .int .i64 x, .int .i64 y]] w (ActOut D B P c1 c2 ⟨es.eraseIdx m, addAt fl (sqOf (entN es m)) (entN es m).y, la⟩ 0 w) := by
  have HN0 := Lib.hid hn0
  have HN1 := Lib.hid hn1
  have HN2 := Lib.hid hn2
  have HP := Lib.hid hp
  have HF := Lib.hid hf
  have hlP := lt_of_block aP
  have hDw : D ≤ w.heap.size := by omega
  go_enter Try.func83, Try.ntmps83
  go_upto_region 1 with fail
  obtain ⟨W, hW, sW, qX, kW⟩ := blocks1 w (.cells #[.int .i64 c, .int .i64 n, .int .i64 4, .int .i64 x, .int .i64 y] 34)
  rw [← hW]
  clear hW sW
  have aX := carryN kW aP
  have O := Lib.hid (h.below kW)
  have KD := Lib.hid (kW.mono hDw)
  have hPQ : ¬ (P = w.heap.size) := by omega
  have hQP : ¬ (w.heap.size = P) := by omega
  have ga := cellRe aX
  have gq := cellRe qX
  have cF := quietC (w := W) (fun V hV => figure_c es c a0 a1 a2 n0 16 n2 n0 c1 c2 V ((O.out.e.slG five_len HN0.out).below hV))
  rw [figI_opt, hfig] at cF
  clear aP h hn0 hn1 hn2 hp hf kW hlP
  go_wp2_with fail
  refine wp_region_quiet_below (by kernel_rfl) (by kernel_rfl) ?_
  repeat (go_big_quiet_step (first | with_reducible exact cF _ _))
  refine wpQuiet_nil ?_
  intro _ hw'
  obtain ⟨⟨dq, osq⟩, hw''⟩ := hw'
  subst hw''
  have hkb := below_regrown W dq osq
  replace aX := carryN hkb aX
  replace qX := carryN hkb qX
  replace O := Lib.hid (O.out.below hkb)
  replace KD := Lib.hid (KD.out.trans (hkb.mono (Nat.le_trans hDw KD.out.size)))
  clear hkb
  generalize Sort.grow (redrawn W dq) osq = X at *
  clear ga gq cF
  have cA := cell_of_block aX
  have cQ := cell_of_block qX
  have ho : optI (some k) = (k : Int) := rfl
  rw [ho]
  clear ho
  have hkz : k < es.length := by obtain ⟨hl, -⟩ := figAt_some hfig; exact hl
  have hkn : k < n0 := by rw [← HN0.out]; exact hkz
  have hk0 : (0 : Int) ≤ (k : Int) := by omega
  have hk1 : (k : Int) < (n0 : Int) := by omega
  have hkd : decide ((0 : Int) ≤ (k : Int)) = true := by simp
  have hkm : ¬ (k : Int) < 0 := by omega
  obtain ⟨g0, hg0, hgB, hgl, e0, e1, e2, e3, e4, ff, hr0⟩ := O.out.e.entAt (i := k) hkz
  simp only at e0 e1 e2 e3 e4
  subst hg0
  have hPk := HP.out _ (List.getElem_mem hkz)
  have HGK := Lib.hid (entN_get hkz)
  have hPg : ¬ P = g0 := fun e => by
    obtain ⟨g', cur, q1, -, q3, -⟩ := O.out.e.own (by have := O.out.e.len; omega)
    injection q1 with q1
    injection q1 with q1
    subst q1
    rw [← e, aX] at q3
    injection q3 with q3
    injection q3 with q3 q4
    exact absurd q4 (by decide)
  have hgP : ¬ g0 = P := fun e => hPg e.symm
  have hQg : ¬ w.heap.size = g0 := fun e => by
    obtain ⟨g', cur, q1, -, q3, -⟩ := O.out.e.own (by have := O.out.e.len; omega)
    injection q1 with q1
    injection q1 with q1
    subst q1
    rw [← e, qX] at q3
    injection q3 with q3
    injection q3 with q3 q4
    exact absurd q4 (by decide)
  have hgQ : ¬ g0 = w.heap.size := fun e => hQg e.symm
  generalize hzk : es[k] = z at *
  have HZK := Lib.hid hzk
  clear hzk
  have hob1 : ((4 : Int) == 1) = false := by decide
  have hob2 : ((4 : Int) == 2) = false := by decide
  have hob3 : ((4 : Int) == 3) = false := by decide
  have ga := cellRe aX
  have gq := cellRe qX
  have cG := quietC (w := X) (fun V hV => figure_c es x (some ⟨g0, 0, none⟩) a1 a2 n0 16 n2 n0 c1 c2 V ((O.out.e.slG five_len HN0.out).below hV))
  rw [figI_opt] at cG
  clear e0 e1 e2 e3 e4 ff
  go_wp2_with fail
  refine wp_region_quiet_below (by kernel_rfl) (by kernel_rfl) ?_
  repeat (go_big_quiet_step (first | with_reducible exact cG _ _))
  refine wpQuiet_nil ?_
  intro _ hw'
  obtain ⟨⟨dq, osq⟩, hw''⟩ := hw'
  subst hw''
  have hkb := below_regrown X dq osq
  replace aX := carryN hkb aX
  replace qX := carryN hkb qX
  replace O := Lib.hid (O.out.below hkb)
  replace KD := Lib.hid (KD.out.trans (hkb.mono (Nat.le_trans hDw KD.out.size)))
  clear hkb
  generalize Sort.grow (redrawn X dq) osq = Y at *
  clear ga gq cG
  have cA := cell_of_block aX
  have cQ := cell_of_block qX
  obtain ⟨hml, -⟩ := figAt_some hfa
  rw [hfa]
  have hm0 : optI (some m) = (m : Int) := rfl
  rw [hm0]
  clear hm0 hfa
  have hmn0 : m < n0 := by rw [← HN0.out]; exact hml
  obtain ⟨g9, hg9, -, -, e0, e1, e2, e3, e4, -, -⟩ := O.out.e.entAt (i := k) hkz
  injection hg9 with hg9
  injection hg9 with hg9
  subst hg9
  obtain ⟨g9, hg9, -, -, d0, d1, d2, d3, d4, -, -⟩ := O.out.e.entAt (i := m) hml
  injection hg9 with hg9
  injection hg9 with hg9
  subst hg9
  simp only at e0 e1 e2 e3 e4 d0 d1 d2 d3 d4
  rw [HZK.out] at e0 e1 e2 e3 e4
  have hPm := HP.out _ (List.getElem_mem hml)
  have HGN := Lib.hid (entN_get hml)
  rw [HGK.out, entN_get hml] at hnr
  generalize hzm : es[m] = zm at *
  have HZM := Lib.hid hzm
  clear hzm
  have x0 := cell_regrown e0
  have x1 := cell_regrown e1
  have x2 := cell_regrown e2
  have x3 := cell_regrown e3
  have x4 := cell_regrown e4
  have y0 := cell_regrown d0
  have y1 := cell_regrown d1
  have y2 := cell_regrown d2
  have y3 := cell_regrown d3
  have y4 := cell_regrown d4
  have ga := cellRe aX
  have cN := quietC (w := Y) (fun V _ => near_c z zm V ⟨hPk.1.1, hPk.1.2, hPk.2.1.1, hPk.2.1.2⟩ ⟨hPm.1.1, hPm.1.2, hPm.2.1.1, hPm.2.1.2⟩)
  rw [hnr] at cN
  have hmd : decide ((m : Int) < 0) = false := by simp
  have hmn : ¬ (m : Int) < 0 := by omega
  have hmkb : ((m : Int) == (k : Int)) = false := by simp; omega
  have hmk2 : ¬ (m : Int) = (k : Int) := by omega
  have hm0' : (0 : Int) ≤ (m : Int) := by omega
  have hm1' : (m : Int) < (n0 : Int) := by omega
  clear e0 e1 e2 e3 e4 d0 d1 d2 d3 d4 hnr cA cQ
  go_wp2_with fail
  refine wp_region_quiet_below (by kernel_rfl) (by kernel_rfl) ?_
  repeat (go_big_quiet_step (first | with_reducible exact cN _ _))
  refine wpQuiet_nil ?_
  intro _ hw'
  obtain ⟨⟨dq, osq⟩, hw''⟩ := hw'
  subst hw''
  have hkb := below_regrown Y dq osq
  replace aX := carryN hkb aX
  replace qX := carryN hkb qX
  replace O := Lib.hid (O.out.below hkb)
  replace KD := Lib.hid (KD.out.trans (hkb.mono (Nat.le_trans hDw KD.out.size)))
  clear hkb
  generalize Sort.grow (redrawn Y dq) osq = Z at *
  clear x0 x1 x2 x3 x4 y0 y1 y2 y3 y4 ga cN
  have cA := cell_of_block aX
  have cQ := cell_of_block qX
  have hm3 : IntKind.i64.wrap (zm.x - 1) = zm.x - 1 := IntWalk.i64_in _ ⟨by omega, by omega⟩
  obtain ⟨g9, hg9, -, -, -, -, -, e3, -, ff, -⟩ := O.out.e.entAt (i := m) hml
  injection hg9 with hg9
  injection hg9 with hg9
  subst hg9
  simp only at e3
  rw [HZM.out] at e3
  have ff3 := ff (m * 5 + 3)
  clear ff
  have hgY : D ≤ g0 := by omega
  have O1 := Lib.hid (O.out.cellE (i := m) (j := 3) hml (by decide) ({ zm with x := zm.x - 1 } : Rq) (.int .i64 (zm.x - 1)) rfl (fun j' h1 h2 => by
    simp only [HZM.out]
    have : j' = 0 ∨ j' = 1 ∨ j' = 2 ∨ j' = 4 := by omega
    rcases this with rfl | rfl | rfl | rfl <;> rfl))
  have a1' := (Below.heap_setCell Z ⟨g0, m * 5 + 3, none⟩ (.int .i64 (zm.x - 1)) P hPg).trans aX
  have K1 := Lib.hid (Below.setCell KD.out (p := ⟨g0, m * 5 + 3, none⟩) hgY (.int .i64 (zm.x - 1)))
  go_upto_region 38 with fail
  obtain ⟨U, hU⟩ : ∃ U, U = Z.setCell ⟨g0, m * 5 + 3, none⟩ (.int .i64 (zm.x - 1)) := ⟨_, rfl⟩
  rw [← hU] at O1 K1 a1' ⊢
  clear hU aX qX O KD cA cQ e3 ff3 hm3
  have hml1 : m < (es.set m ({ zm with x := zm.x - 1 } : Rq)).length := by rw [List.length_set]; exact hml
  obtain ⟨g9, hg9, -, -, e0, e1, e2, e3, e4, -, -⟩ := O1.out.e.entAt (i := m) hml1
  injection hg9 with hg9
  injection hg9 with hg9
  subst hg9
  simp only [List.getElem_set_self] at e0 e1 e2 e3 e4
  have HL1 := Lib.hid (show (es.set m ({ zm with x := zm.x - 1 } : Rq)).length = n0 by rw [List.length_set]; exact HN0.out)
  have cA := cell_of_block a1'
  rw [HGN.out] at hxp
  have hxi : zm.x - 1 ≤ 0 := by omega
  have hqn : sqOf zm < 16 := by unfold sqOf; omega
  have hqz : sqOf zm < fl.length := by rw [HN1.out]; exact hqn
  obtain ⟨f0, hf0, hfB, hfl, ef, fff, hrf0⟩ := O1.out.f.intAt (i := sqOf zm) hqz
  simp only at ef
  have hfq := HF.out _ (List.getElem_mem hqz)
  subst hf0
  have hsq : sqOf ({ zm with x := zm.x - 1 } : Rq) = sqOf zm := rfl
  generalize hq : sqOf zm = q at *
  have HQ := Lib.hid hq
  obtain ⟨v, hvv⟩ : ∃ v, fl[q] = v := ⟨_, rfl⟩
  rw [hvv] at ef hfq
  have HAD := Lib.hid (show fl.set q (v + zm.y) = addAt fl q zm.y by unfold addAt; rw [List.getD_eq_getElem?_getD, List.getElem?_eq_getElem hqz, Option.getD_some, hvv])
  clear hvv hq
  have hm5 : IntKind.i64.wrap (v + zm.y) = v + zm.y := IntWalk.i64_in _ ⟨by omega, by omega⟩
  have CL := Lib.hid (fun V => floor_c ({ zm with x := zm.x - 1 } : Rq) f0 0 (some ⟨g0, 0, none⟩) a2 n0 16 n2 n0 c1 c2 V hPm.1 hPm.2.1 rfl)
  rw [hsq, Nat.zero_add] at CL
  clear hsq
  have hgf : ¬ g0 = f0 := fun e => O1.out.ef g0 hr0 (by rw [hrf0, e])
  have hfg : ¬ f0 = g0 := fun e => hgf e.symm
  have hPf : ¬ P = f0 := fun e => by
    obtain ⟨g', cur, q1, -, q3, -⟩ := O1.out.f.own (by have := O1.out.f.len; simp only at this; omega)
    injection q1 with q1
    injection q1 with q1
    subst q1
    rw [← e, a1'] at q3
    injection q3 with q3
    injection q3 with q3 q4
    exact absurd q4 (by decide)
  have hfP : ¬ f0 = P := fun e => hPf e.symm
  go_wp2_with fail
  clear cA
  have hcp := cell_of_block (show U.drew.heap[P]? = _ from a1')
  have O2 := Lib.hid O1.out.drew
  have K2 := Lib.hid K1.out.drew
  have a2' := Lib.hid (show U.drew.heap[P]? = _ from a1')
  have hUd : ∀ p : Addr, U.drew.cell? p = U.cell? p := fun _ => rfl
  have E0 := (hUd _).trans e0
  have E1 := (hUd _).trans e1
  have E2 := (hUd _).trans e2
  have E3 := (hUd _).trans e3
  have E4 := (hUd _).trans e4
  have EF := (hUd _).trans ef
  have EFF := Lib.hid (show U.drew.frozen? ⟨f0, q, none⟩ = false from fff)
  have hlf : f0 < U.drew.heap.size := hfl
  have hlg : g0 < U.drew.heap.size := by obtain ⟨g', cur, q1, -, q3, -⟩ := O2.out.e.own (by have := O2.out.e.len; have := HL1.out; omega); injection q1 with q1; injection q1 with q1; subst q1; exact lt_of_block q3
  have hlP2 : P < U.drew.heap.size := lt_of_block a2'.out
  clear e0 e1 e2 e3 e4 ef fff a1' O1 K1 hUd hfl
  obtain ⟨T, hT⟩ : ∃ T, T = U.drew := ⟨_, rfl⟩
  rw [← hT] at hcp O2 K2 a2' E0 E1 E2 E3 E4 EF EFF hlf hlg hlP2
  have hSS : (∀ i, T.cell? ⟨P, i, none⟩ = (#[.slice (some ⟨g0, 0, none⟩) n0 n0, .slice (some ⟨f0, 0, none⟩) 16 c1, .slice a2 n2 c2] : Array Value)[i]?) ∧ T.cell? ⟨g0, m * 5, none⟩ = some (.int .i64 zm.c) ∧ T.cell? ⟨g0, m * 5 + 1, none⟩ = some (.int .i64 zm.n) ∧ T.cell? ⟨g0, m * 5 + 2, none⟩ = some (.int .i64 zm.o) ∧ T.cell? ⟨g0, m * 5 + 3, none⟩ = some (.int .i64 (zm.x - 1)) ∧ T.cell? ⟨g0, m * 5 + 4, none⟩ = some (.int .i64 zm.y) := ⟨hcp, E0, E1, E2, E3, E4⟩
  refine wp_region_held_drew (S := fun w' => (∀ i, w'.cell? ⟨P, i, none⟩ = (#[.slice (some ⟨g0, 0, none⟩) n0 n0, .slice (some ⟨f0, 0, none⟩) 16 c1, .slice a2 n2 c2] : Array Value)[i]?) ∧ w'.cell? ⟨g0, m * 5, none⟩ = some (.int .i64 zm.c) ∧ w'.cell? ⟨g0, m * 5 + 1, none⟩ = some (.int .i64 zm.n) ∧ w'.cell? ⟨g0, m * 5 + 2, none⟩ = some (.int .i64 zm.o) ∧ w'.cell? ⟨g0, m * 5 + 3, none⟩ = some (.int .i64 (zm.x - 1)) ∧ w'.cell? ⟨g0, m * 5 + 4, none⟩ = some (.int .i64 zm.y)) (by kernel_rfl) (hT ▸ hSS) (fun hHeld => ?_)
  rw [← hT] at hHeld ⊢
  clear hT hcp E0 E1 E2 E3 E4 hSS
  refine wpAnyH_take (i := 0) (oi := _) (v := ?_) (by (simp only [List.getElem?_toArray]; rfl)) (by kernel_rfl) (by kernel_rfl) (by kernel_rfl) (by exact fun _ _ _ h => h) (Or.inl ⟨by rfl, ?_⟩) (by assumption) ?_
  rotate_left
  · intro wS hSw
    go_simp
    all_goals first | with_reducible rfl | rw [if_neg (by omega)]
  simp only [Act.put, List.setIfInBounds_toArray, List.set]
  refine wpAnyH_take (i := 1) (oi := _) (v := ?_) (by (simp only [List.getElem?_toArray]; rfl)) (by kernel_rfl) (by kernel_rfl) (by kernel_rfl) (by exact fun _ _ _ h => h) (Or.inl ⟨by rfl, ?_⟩) (by assumption) ?_
  rotate_left
  · intro wS hSw
    go_simp
    all_goals first | with_reducible rfl | rw [if_neg (by omega)]
  simp only [Act.put, List.setIfInBounds_toArray, List.set]
  refine wpAnyH_take (i := 2) (oi := _) (v := ?_) (by (simp only [List.getElem?_toArray]; rfl)) (by kernel_rfl) (by kernel_rfl) (by kernel_rfl) (by exact fun _ _ _ h => h) (Or.inl ⟨by rfl, ?_⟩) (by assumption) ?_
  rotate_left
  · intro wS hSw
    go_simp
    all_goals first | with_reducible rfl | rw [if_neg (by omega)]
  simp only [Act.put, List.setIfInBounds_toArray, List.set]
  refine wpAnyH_take (i := 3) (oi := _) (v := ?_) (by (simp only [List.getElem?_toArray]; rfl)) (by kernel_rfl) (by kernel_rfl) (by kernel_rfl) (by exact fun _ _ _ h => h) (Or.inl ⟨by rfl, ?_⟩) (by assumption) ?_
  rotate_left
  · intro wS hSw
    go_simp
    all_goals first | with_reducible rfl | rw [if_neg (by omega)]
  simp only [Act.put, List.setIfInBounds_toArray, List.set]
  refine wpAnyH_take (i := 4) (oi := _) (v := ?_) (by (simp only [List.getElem?_toArray]; rfl)) (by kernel_rfl) (by kernel_rfl) (by kernel_rfl) (by exact fun _ _ _ h => h) (Or.inl ⟨by rfl, ?_⟩) (by assumption) ?_
  rotate_left
  · intro wS hSw
    go_simp
    all_goals first | with_reducible rfl | rw [if_neg (by omega)]
  simp only [Act.put, List.setIfInBounds_toArray, List.set]
  refine wpAnyH_take (i := 5) (oi := _) (v := ?_) (by (simp only [List.getElem?_toArray]; rfl)) (by kernel_rfl) (by kernel_rfl) (by kernel_rfl) (by exact fun _ _ _ h => h) (Or.inl ⟨by rfl, ?_⟩) (by assumption) ?_
  rotate_left
  · intro wS hSw
    go_simp
    all_goals first | with_reducible rfl | rw [if_neg (by omega)]
  simp only [Act.put, List.setIfInBounds_toArray, List.set]
  refine wpAnyH_take (i := 9) (oi := _) (v := ?_) (by (simp only [List.getElem?_toArray]; rfl)) (by kernel_rfl) (by kernel_rfl) (by kernel_rfl) (by exact fun _ _ _ h => h) (Or.inl ⟨by rfl, ?_⟩) (by assumption) ?_
  rotate_left
  · intro wS hSw
    go_simp
    all_goals first | with_reducible rfl | rw [if_neg (by omega)]
  simp only [Act.put, List.setIfInBounds_toArray, List.set]
  refine wpAnyH_take (i := 10) (oi := _) (v := ?_) (by (simp only [List.getElem?_toArray]; rfl)) (by kernel_rfl) (by kernel_rfl) (by kernel_rfl) (by exact fun _ _ _ h => h) (Or.inl ⟨by rfl, ?_⟩) (by assumption) ?_
  rotate_left
  · intro wS hSw
    go_simp
    all_goals first | with_reducible rfl | rw [if_neg (by omega)]
  simp only [Act.put, List.setIfInBounds_toArray, List.set]
  refine wpAnyH_take (i := 11) (oi := _) (v := ?_) (by (simp only [List.getElem?_toArray]; rfl)) (by kernel_rfl) (by kernel_rfl) (by kernel_rfl) (by exact fun _ _ _ h => h) (Or.inl ⟨by rfl, ?_⟩) (by assumption) ?_
  rotate_left
  · intro wS hSw
    go_simp
    all_goals first | with_reducible rfl | rw [if_neg (by omega)]
  simp only [Act.put, List.setIfInBounds_toArray, List.set]
  refine wpAnyH_take (i := 12) (oi := _) (v := ?_) (by (simp only [List.getElem?_toArray]; rfl)) (by kernel_rfl) (by kernel_rfl) (by kernel_rfl) (by exact fun _ _ _ h => h) (Or.inl ⟨by rfl, ?_⟩) (by assumption) ?_
  rotate_left
  · intro wS hSw
    go_simp
    all_goals first | with_reducible rfl | rw [if_neg (by omega)]
  simp only [Act.put, List.setIfInBounds_toArray, List.set]
  refine wpAnyH_ready (rs := [6]) (by kernel_rfl) (by simp) ?_
  refine AllReadyH.cons (o := _) (by (simp only [List.getElem?_toArray]; rfl)) (fun K hK => ?_) AllReadyH.nil
  go_simp
  refine (CL.out T).mono ?_
  rintro e t1 ⟨rfl, k1⟩
  have EF1 := (k1.cell (p := ⟨f0, q, none⟩) hlf).trans EF
  have FF1 := Lib.hid ((k1.frozen (p := ⟨f0, q, none⟩) hlf).trans EFF.out)
  have S1 : (∀ i, t1.cell? ⟨P, i, none⟩ = (#[.slice (some ⟨g0, 0, none⟩) n0 n0, .slice (some ⟨f0, 0, none⟩) 16 c1, .slice a2 n2 c2] : Array Value)[i]?) ∧ t1.cell? ⟨g0, m * 5, none⟩ = some (.int .i64 zm.c) ∧ t1.cell? ⟨g0, m * 5 + 1, none⟩ = some (.int .i64 zm.n) ∧ t1.cell? ⟨g0, m * 5 + 2, none⟩ = some (.int .i64 zm.o) ∧ t1.cell? ⟨g0, m * 5 + 3, none⟩ = some (.int .i64 (zm.x - 1)) ∧ t1.cell? ⟨g0, m * 5 + 4, none⟩ = some (.int .i64 zm.y) :=
    ⟨fun i => (k1.cell (p := ⟨P, i, none⟩) hlP2).trans (hHeld.1 i), (k1.cell (p := ⟨g0, _, none⟩) hlg).trans hHeld.2.1, (k1.cell (p := ⟨g0, _, none⟩) hlg).trans hHeld.2.2.1, (k1.cell (p := ⟨g0, _, none⟩) hlg).trans hHeld.2.2.2.1, (k1.cell (p := ⟨g0, _, none⟩) hlg).trans hHeld.2.2.2.2.1, (k1.cell (p := ⟨g0, _, none⟩) hlg).trans hHeld.2.2.2.2.2⟩
  have O3 := Lib.hid (O2.out.below k1)
  have a3 := Lib.hid (carryN k1 a2'.out)
  have K3 := Lib.hid (K2.out.trans (k1.mono (Nat.le_trans hDw K2.out.size)))
  clear k1
  refine hK.out _ _ S1 (fun hHeld => ?_)
  clear hK K
  try simp only [Act.put, List.setIfInBounds_toArray, List.set]
  refine wpAnyH_take (i := 7) (oi := _) (v := ?_) (by (simp only [List.getElem?_toArray]; rfl)) (by kernel_rfl) (by kernel_rfl) (by kernel_rfl) (by exact fun _ _ _ h => h) (Or.inl ⟨by rfl, ?_⟩) (by assumption) ?_
  rotate_left
  · intro wS hSw
    go_simp
    all_goals first | with_reducible rfl | rw [if_neg (by omega)]
  simp only [Act.put, List.setIfInBounds_toArray, List.set]
  refine wpAnyH_ready (rs := [8]) (by kernel_rfl) (by simp) ?_
  refine AllReadyH.cons (o := _) (by (simp only [List.getElem?_toArray]; rfl)) (fun K hK => ?_) AllReadyH.nil
  go_simp
  refine hK.out _ _ S1 (fun hHeld => ?_)
  clear hK K
  try simp only [Act.put, List.setIfInBounds_toArray, List.set]
  refine wpAnyH_take (i := 13) (oi := _) (v := ?_) (by (simp only [List.getElem?_toArray]; rfl)) (by kernel_rfl) (by kernel_rfl) (by kernel_rfl) (by exact fun _ _ _ h => h) (Or.inl ⟨by rfl, ?_⟩) (by assumption) ?_
  rotate_left
  · intro wS hSw
    go_simp
    all_goals first | with_reducible rfl | rw [if_neg (by omega)]
  simp only [Act.put, List.setIfInBounds_toArray, List.set]
  refine wpAnyH_take (i := 14) (oi := _) (v := ?_) (by (simp only [List.getElem?_toArray]; rfl)) (by kernel_rfl) (by kernel_rfl) (by kernel_rfl) (by exact fun _ _ _ h => h) (Or.inl ⟨by rfl, ?_⟩) (by assumption) ?_
  rotate_left
  · intro wS hSw
    go_simp
    all_goals first | with_reducible rfl | rw [if_neg (by omega)]
  simp only [Act.put, List.setIfInBounds_toArray, List.set]
  have FF2 := FF1.out
  refine wpAnyH_ready (rs := [15]) (by kernel_rfl) (by simp) ?_
  refine AllReadyH.cons (o := _) (by (simp only [List.getElem?_toArray]; rfl)) (fun K hK => ?_) AllReadyH.nil
  go_simp
  refine hK.out _ _ ⟨fun i => (World.cell?_setCell_other _ _ _ _ (by first | (simp; done) | (simp; omega))).trans (S1.1 i), (World.cell?_setCell_other _ _ _ _ (by first | (simp; done) | (simp; omega))).trans S1.2.1, (World.cell?_setCell_other _ _ _ _ (by first | (simp; done) | (simp; omega))).trans S1.2.2.1, (World.cell?_setCell_other _ _ _ _ (by first | (simp; done) | (simp; omega))).trans S1.2.2.2.1, (World.cell?_setCell_other _ _ _ _ (by first | (simp; done) | (simp; omega))).trans S1.2.2.2.2.1, (World.cell?_setCell_other _ _ _ _ (by first | (simp; done) | (simp; omega))).trans S1.2.2.2.2.2⟩ (fun _ => ?_)
  clear hK K
  try simp only [Act.put, List.setIfInBounds_toArray, List.set]
  refine wpAnyH_done (by kernel_rfl) ?_ _
  have O4 := Lib.hid (O3.out.cellF (i := q) hqz (v + zm.y))
  have a4 := (Below.heap_setCell t1 ⟨f0, q, none⟩ (.int .i64 (v + zm.y)) P hPf).trans a3.out
  have K4 := Lib.hid (Below.setCell K3.out (p := ⟨f0, q, none⟩) (show D ≤ f0 by omega) (.int .i64 (v + zm.y)))
  obtain ⟨V, hV⟩ : ∃ V, V = t1.setCell ⟨f0, q, none⟩ (.int .i64 (v + zm.y)) := ⟨_, rfl⟩
  rw [← hV] at O4 a4 K4 ⊢
  clear hV S1 hHeld O2 O3 a2' a3 K2 K3 EF EF1 FF1 FF2 EFF
  have cA := cell_of_block a4
  have hm6 : IntKind.i64.wrap ((m : Int) + 1) = (m : Int) + 1 := IntWalk.i64_in _ ⟨by omega, by omega⟩
  go_wp2_with fail
  refine (slDeleteEnt_c (n := n0) (i := m) V O4.out.e HL1.out hmn0 (by omega)).mono ?_
  rintro e v1 ⟨rfl, r1, k1⟩
  rw [List.eraseIdx_set_eq] at r1
  have HEL := Lib.hid (show (es.eraseIdx m).length = n0 - 1 by rw [List.length_eraseIdx_of_lt hml, HN0.out])
  have O5 := Lib.hid (O4.out.grownE r1 k1)
  have a5 := (k1.block P (lt_of_block a4) (fun e => by rw [hr0] at e; injection e with e; exact hPg e)).trans a4
  have K5 := Lib.hid (K4.out.grown k1 (Nat.le_trans hDw K4.out.size) (fun g hg => by rw [hr0] at hg; injection hg; omega))
  have R5 := Lib.hid (r1.slG five_len HEL.out)
  clear r1 k1 cA a4 O4 K4
  go_wp2_with fail
  refine (cloneEnt_c (some ⟨g0, 0, none⟩) (n0 - 1) n0 (es.eraseIdx m) v1 R5.out (by omega)).mono ?_
  intro e v2 hcl
  obtain ⟨b2, rfl, r2, k2⟩ := hcl.row
  have O6 := Lib.hid (O5.out.newE k2 r2 (Nat.le_refl _) (Nat.le_trans hB (by have := lt_of_block a5; have := K5.out.size; omega)))
  have a6 := carryN k2 a5
  have K6 := Lib.hid (K5.out.trans (k2.mono (Nat.le_trans hDw K5.out.size)))
  clear r2 k2 hcl a5 O5 K5 R5
  have cA := cell_of_block a6
  have fA := unfrozen_of_block a6
  have lA := lt_of_block a6
  go_wp2_with fail
  go_ret
  rw [HGN.out, HQ.out, ← HAD.out]
  refine actOut (n0 := n0 - 1) (a0 := b2) ?_ (O6.out.setType a6 (by decide) (by decide) 0 (.slice b2 (n0 - 1) (n0 - 1))) (Below.setCell K6.out hDP _) HEL.out (by simp only [List.length_set]; exact HN1.out) HN2.out
  have := block_setCell (i := 0) a6 (.slice b2 (n0 - 1) (n0 - 1))
  simpa only [List.setIfInBounds_toArray, List.set] using this
end Go.Proofs.Ytofedboeggdkaaa

/-! The program's act, of any ask that is ok; condition: a game that is ok but for the last asks. -/
namespace Go.Proofs.Ytofedboeggdkaaa
open Go.RowKit Go.Joins

/-- What an ask does, its number being new. -/
def actR (z : Gm) (r : Rq) : Gm × Int :=
  match figAt z.es r.c with
  | some k => if r.o = 1 then (z, 4) else actG z k r
  | none => if r.o = 1 then (⟨joinE z.es r.c, z.fl, z.la⟩, 0) else (z, 5)
theorem doG_act {z : Gm} {r : Rq} (hz : r ≠ ⟨0, 0, 0, 0, 0⟩) (hold : ¬ r.n ≤ z.la.getD (r.c - 1).toNat 0) : doG z r = actR ⟨z.es, z.fl, z.la.set (r.c - 1).toNat r.n⟩ r := by
  unfold doG actR
  rw [if_neg hz, if_neg hold]
  rfl

theorem act_c {D B : Nat} (es : List Rq) (fl la : List Int) (r : Rq) (n0 n2 P : Nat) (a0 a1 a2 : Option Addr) (c1 c2 : Nat) (w : World) (aP : w.heap[P]? = some (.cells #[.slice a0 n0 n0, .slice a1 16 c1, .slice a2 n2 c2] 46 (0, 0))) (h : Own3 w B a0 n0 a1 c1 a2 c2 ⟨es, fl, la⟩)
    (hn0 : es.length = n0) (hn1 : fl.length = 16) (hn2 : la.length = n2) (h4 : n0 ≤ 4) (hD : D ≤ B) (hDP : D ≤ P) (hB : B ≤ w.heap.size) (hp : Places es) (hf : ∀ n ∈ fl, 0 ≤ n ∧ n ≤ 20) (hr : okB r.c r.n r.o r.x r.y = true) :
    Calls Try.prog 83 #[.pointer (some ⟨P, 0, none⟩), .agg #[.int .i64 r.c, .int .i64 r.n, .int .i64 r.o, .int .i64 r.x, .int .i64 r.y]] w (ActOut D B P c1 c2 (actR ⟨es, fl, la⟩ r).1 (actR ⟨es, fl, la⟩ r).2 w) := by
  have hb := okB_xy hr
  obtain ⟨c, n, o, x, y⟩ := r
  simp only at hb hr ⊢
  have hc : 1 ≤ c ∧ c ≤ 4 := by omega
  have hx : -1 ≤ x ∧ x ≤ 4 := by omega
  have hy : -1 ≤ y ∧ y ≤ 9 := by omega
  unfold actR
  simp only
  cases hfig : figAt es c with
  | none =>
    simp only
    by_cases ho1 : o = 1
    · subst ho1
      rw [if_pos rfl]
      exact act_join es fl la n0 n2 P a0 a1 a2 c1 c2 c n x y w aP h hn0 hn1 hn2 h4 hD hDP hp hf hc hx hy hfig hB
    · rw [if_neg ho1]
      exact act_off es fl la n0 n2 P a0 a1 a2 c1 c2 c n o x y w aP h hn0 hn1 hn2 h4 hD hDP hp hf hc hx hy hfig ho1
  | some k =>
    simp only
    by_cases ho1 : o = 1
    · subst ho1
      rw [if_pos rfl]
      exact act_there es fl la n0 n2 P a0 a1 a2 c1 c2 c n x y w aP h hn0 hn1 hn2 h4 hD hDP hp hf hc hx hy k hfig
    · rw [if_neg ho1]
      by_cases h2 : o = 2
      · subst h2
        cases hbb : (inB ((entN es k).n + x) 0 3 && inB ((entN es k).o + y) 0 3) with
        | true =>
          have e : actG ⟨es, fl, la⟩ k ⟨c, n, 2, x, y⟩ = (⟨es.set k { (entN es k) with n := (entN es k).n + x, o := (entN es k).o + y }, fl, la⟩, 0) := by
            unfold actG; simp only [if_true]; rw [if_pos hbb]
          rw [e]
          exact act_move es fl la n0 n2 P a0 a1 a2 c1 c2 c n x y w aP h hn0 hn1 hn2 h4 hD hDP hp hf hc hx hy k hfig hbb
        | false =>
          have e : actG ⟨es, fl, la⟩ k ⟨c, n, 2, x, y⟩ = (⟨es, fl, la⟩, 6) := by
            unfold actG; simp only [if_true]; rw [if_neg (by rw [hbb]; decide)]
          rw [e]
          exact act_move_no es fl la n0 n2 P a0 a1 a2 c1 c2 c n x y w aP h hn0 hn1 hn2 h4 hD hDP hp hf hc hx hy k hfig hbb
      · by_cases h3 : o = 3
        · subst h3
          by_cases hv : fl.getD (sqOf (entN es k)) 0 = 0
          · have e : actG ⟨es, fl, la⟩ k ⟨c, n, 3, x, y⟩ = (⟨es, fl, la⟩, 7) := by
              unfold actG; simp only; rw [if_neg (by decide), if_pos trivial, if_pos hv]
            rw [e]
            exact act_take_no es fl la n0 n2 P a0 a1 a2 c1 c2 c n x y w aP h hn0 hn1 hn2 h4 hD hDP hp hf hc hx hy k hfig hv
          · have e : actG ⟨es, fl, la⟩ k ⟨c, n, 3, x, y⟩ = (⟨es.set k { (entN es k) with y := (entN es k).y + 1 }, addAt fl (sqOf (entN es k)) (-1), la⟩, 0) := by
              unfold actG; simp only; rw [if_neg (by decide), if_pos trivial, if_neg hv]
            rw [e]
            exact act_take es fl la n0 n2 P a0 a1 a2 c1 c2 c n x y w aP h hn0 hn1 hn2 h4 hD hDP hp hf hc hx hy k hfig hv
        · by_cases hq : ∀ m, figAt es x = some m → m = k ∨ nearB (entN es k) (entN es m) = false
          · have e : actG ⟨es, fl, la⟩ k ⟨c, n, o, x, y⟩ = (⟨es, fl, la⟩, 8) := by
              unfold actG
              simp only
              rw [if_neg h2, if_neg h3]
              cases hfa : figAt es x with
              | none => rfl
              | some m =>
                simp only
                rw [if_pos (hq m hfa)]
            rw [e]
            exact act_far es fl la n0 n2 P a0 a1 a2 c1 c2 c n o x y w aP h hn0 hn1 hn2 h4 hD hDP hp hf hc hx hy k hfig ho1 h2 h3 hq
          · have hq' : ∃ m, figAt es x = some m ∧ m ≠ k ∧ nearB (entN es k) (entN es m) = true := by
              cases hfa : figAt es x with
              | none => exact absurd (fun m hm => by rw [hfa] at hm; cases hm) hq
              | some m =>
                refine ⟨m, rfl, fun e => hq (fun m' hm' => ?_), ?_⟩
                · rw [hfa] at hm'; injection hm' with hm'; exact .inl (hm' ▸ e)
                · cases hb2 : nearB (entN es k) (entN es m) with
                  | true => rfl
                  | false => exact absurd (fun m' hm' => by rw [hfa] at hm'; injection hm' with hm'; exact .inr (hm' ▸ hb2)) hq
            obtain ⟨m, hfa, hmk, hnr⟩ := hq'
            have hne : ¬ (m = k ∨ nearB (entN es k) (entN es m) = false) := fun q => q.elim hmk (fun q => by rw [hnr] at q; cases q)
            by_cases h4' : o = 4
            · subst h4'
              have e : actG ⟨es, fl, la⟩ k ⟨c, n, 4, x, y⟩ = (hitG ⟨es, fl, la⟩ m, 0) := by
                unfold actG
                simp only
                rw [if_neg h2, if_neg h3, hfa]
                simp only
                rw [if_neg hne, if_pos trivial]
              rw [e]
              by_cases hxp : (entN es m).x - 1 ≤ 0
              · have e2 : hitG ⟨es, fl, la⟩ m = ⟨es.eraseIdx m, addAt fl (sqOf (entN es m)) (entN es m).y, la⟩ := by
                  unfold hitG; simp only; rw [if_pos hxp]
                rw [e2]
                exact act_kill es fl la n0 n2 P a0 a1 a2 c1 c2 c n x y w aP h hn0 hn1 hn2 h4 hD hDP hp hf hc hx hy k hfig m hfa hmk hnr hxp hB
              · have e2 : hitG ⟨es, fl, la⟩ m = ⟨es.set m { (entN es m) with x := (entN es m).x - 1 }, fl, la⟩ := by
                  unfold hitG; simp only; rw [if_neg hxp]
                rw [e2]
                exact act_hit es fl la n0 n2 P a0 a1 a2 c1 c2 c n x y w aP h hn0 hn1 hn2 h4 hD hDP hp hf hc hx hy k hfig m hfa hmk hnr (by omega)
            · have h5 : o = 5 := by
                unfold okB at hr
                simp only [Bool.and_eq_true] at hr
                have h' := hr.2
                by_cases q5 : o = 5
                · exact q5
                · rw [if_neg (by omega), if_neg h2, if_neg h4', if_neg q5] at h'
                  cases h'
              subst h5
              by_cases hpo : (entN es k).y < y
              · have e : actG ⟨es, fl, la⟩ k ⟨c, n, 5, x, y⟩ = (⟨es, fl, la⟩, 7) := by
                  unfold actG
                  simp only
                  rw [if_neg h2, if_neg h3, hfa]
                  simp only
                  rw [if_neg hne, if_neg h4', if_pos hpo]
                rw [e]
                exact act_poor es fl la n0 n2 P a0 a1 a2 c1 c2 c n x y w aP h hn0 hn1 hn2 h4 hD hDP hp hf hc hx hy k hfig m hfa hmk hnr hpo
              · have e : actG ⟨es, fl, la⟩ k ⟨c, n, 5, x, y⟩ = (⟨(es.set m { (entN es m) with y := (entN es m).y + y }).set k { (entN es k) with y := (entN es k).y - y }, fl, la⟩, 0) := by
                  unfold actG
                  simp only
                  rw [if_neg h2, if_neg h3, hfa]
                  simp only
                  rw [if_neg hne, if_neg h4', if_neg hpo]
                rw [e]
                exact act_give es fl la n0 n2 P a0 a1 a2 c1 c2 c n x y w aP h hn0 hn1 hn2 h4 hD hDP hp hf hc hx hy k hfig m hfa hmk hnr hpo
end Go.Proofs.Ytofedboeggdkaaa

/-! GameDo, the program's; condition: small sizes. -/
namespace Go.Proofs.Ytofedboeggdkaaa
open Go.RowKit Go.Joins
attribute [local go_sem ↓] eql_rq neq_rq

def EmptyG : Gm := ⟨[], [], []⟩
theorem gameDo_bad {z : Gm} {r : Rq} (h : gameB z = false ∨ good r = false) : gameDo z r (good r) = (⟨[], [], []⟩, 1) := by
  unfold gameDo
  rcases h with h | h <;> rw [h] <;> simp
theorem own3_nil (w : World) (B : Nat) : Own3 w B none 0 none 0 none 0 ⟨[], [], []⟩ :=
  ⟨Row.nil _ _ _ _ _ _, Row.nil _ _ _ _ _ _, Row.nil _ _ _ _ _ _, fun g h => by simp [rowBlk] at h, fun g h => by simp [rowBlk] at h, fun g h => by simp [rowBlk] at h⟩

theorem game_lensG {g : Gm} (h : gameB g = true) : g.fl.length = 16 ∧ g.la.length = 4 := by
  rw [gameB_iff] at h
  exact ⟨h.2.2.2.1, h.2.2.2.2.1⟩
set_option maxRecDepth 100000 in
set_option maxHeartbeats 8000000 in
theorem GameDo_no (z : Gm) (r : Rq) (a0 a1 a2 : Option Addr) (c0 c1 c2 : Nat) (w : World) (h0 : IsSl w (.slice a0 z.es.length c0) 5 Rq.cs z.es) (h1 : IsSl w (.slice a1 z.fl.length c1) 1 intR z.fl) (h2 : IsSl w (.slice a2 z.la.length c2) 1 intR z.la)
    (hs : z.es.length + z.fl.length + z.la.length ≤ 1048576) (hbad : gameB z = false ∨ good r = false) :
    Calls Try.prog 29 #[.agg #[.slice a0 z.es.length c0, .slice a1 z.fl.length c1, .slice a2 z.la.length c2], .agg #[.int .i64 r.c, .int .i64 r.n, .int .i64 r.o, .int .i64 r.x, .int .i64 r.y]] w (RetGF w.heap.size ⟨[], [], []⟩ 1 w) := by
  have H0 := Lib.hid h0
  have H1 := Lib.hid h1
  have H2 := Lib.hid h2
  have HS := Lib.hid hs
  have hgr : goodB r.c r.n r.o r.x r.y = good r := rfl
  clear h0 h1 h2 hs
  go_enter Try.func29, Try.ntmps29
  go_upto_region 1 with fail
  obtain ⟨W, hW, sW, aW, qW, bW, kW⟩ := blocks3 w (.cells #[.slice a0 z.es.length c0, .slice a1 z.fl.length c1, .slice a2 z.la.length c2] 46) (.cells #[.int .i64 r.c, .int .i64 r.n, .int .i64 r.o, .int .i64 r.x, .int .i64 r.y] 34) (.cells #[.slice none 0 0, .slice none 0 0, .slice none 0 0] 46)
  rw [← hW]
  clear hW sW
  have cA := cell_of_block aW
  go_wp2_with fail
  refine (GameOk_c z a0 a1 a2 c0 c1 c2 W (H0.out.below kW) (H1.out.below kW) (H2.out.below kW) HS.out).mono ?_
  rintro e w1 ⟨rfl, k1⟩
  have bW1 := carryN k1 bW
  have qW1 := carryN k1 qW
  have KX := below_next kW k1
  have cQ := cell_of_block qW1
  have cB := cell_of_block bW1
  have fB := unfrozen_of_block bW1
  have lB := lt_of_block bW1
  clear cA k1 aW bW qW kW
  cases hg : gameB z with
  | false =>
    go_wp2_with fail
    refine bodyPost_ret (v := .tuple #[.agg #[.slice none 0 0, .slice none 0 0, .slice none 0 0], .int .i64 1]) (by simp [results, Try.results29, go_sem, cB]) rfl ?_
    exact retGF (own3_nil _ _) rfl rfl rfl (by repeat' (first | with_reducible exact Below.refl _ _ | with_reducible assumption | with_reducible refine Below.alloc ?_ ?_ _ | with_reducible refine Below.drew ?_ | with_reducible refine Below.setCell ?_ ?_ _ | omega | (simp; omega) | (simp; done)))
  | true =>
    have hgg : good r = false := by rcases hbad with q | q; rw [hg] at q; cases q; exact q
    go_wp2_with fail
    refine (okOrNull_c r.c r.n r.o r.x r.y w1).mono ?_
    rintro e w2 ⟨rfl, k2⟩
    rw [hgr, hgg]
    have bW2 := carryN k2 bW1
    have K2 := below_next KX k2
    clear cB fB lB cQ
    have cB := cell_of_block bW2
    have fB := unfrozen_of_block bW2
    have lB := lt_of_block bW2
    clear bW1 k2 KX qW1
    go_wp2_with fail
    refine bodyPost_ret (v := .tuple #[.agg #[.slice none 0 0, .slice none 0 0, .slice none 0 0], .int .i64 1]) (by simp [results, Try.results29, go_sem, cB]) rfl ?_
    exact retGF (own3_nil _ _) rfl rfl rfl (by repeat' (first | with_reducible exact Below.refl _ _ | with_reducible assumption | with_reducible refine Below.alloc ?_ ?_ _ | with_reducible refine Below.drew ?_ | with_reducible refine Below.setCell ?_ ?_ _ | omega | (simp; omega) | (simp; done)))

set_option maxRecDepth 100000 in
set_option maxHeartbeats 16000000 in
theorem GameDo_yes (es : List Rq) (fl la : List Int) (c n o x y : Int) (n0 : Nat) (a0 a1 a2 : Option Addr) (c0 c1 c2 : Nat) (w : World) (h0 : IsSl w (.slice a0 n0 c0) 5 Rq.cs es) (h1 : IsSl w (.slice a1 16 c1) 1 intR fl) (h2 : IsSl w (.slice a2 4 c2) 1 intR la)
    (hg : gameB ⟨es, fl, la⟩ = true) (hr : good ⟨c, n, o, x, y⟩ = true) :
    Calls Try.prog 29 #[.agg #[.slice a0 n0 c0, .slice a1 16 c1, .slice a2 4 c2], .agg #[.int .i64 c, .int .i64 n, .int .i64 o, .int .i64 x, .int .i64 y]] w (RetGF w.heap.size (doG ⟨es, fl, la⟩ ⟨c, n, o, x, y⟩).1 (doG ⟨es, fl, la⟩ ⟨c, n, o, x, y⟩).2 w) := by
  have hg' := hg
  rw [gameB_iff] at hg'
  obtain ⟨q1, q2, q3, q4, q5, -⟩ := hg'
  have hle : es.length ≤ 4 := ents_le4 q1
  have HP := Lib.hid (places_of q1.1)
  have HF := Lib.hid (show ∀ n ∈ fl, 0 ≤ n ∧ n ≤ 20 from q2)
  have hlen0 : es.length = n0 := h0.bounds.1
  have HN0 := Lib.hid hlen0
  have HN1 := Lib.hid (show fl.length = 16 from q4)
  have HN2 := Lib.hid (show la.length = 4 from q5)
  have h4 : n0 ≤ 4 := by omega
  have H0 := Lib.hid h0
  have H1 := Lib.hid h1
  have H2 := Lib.hid h2
  have hgr : goodB c n o x y = true := hr
  have HGO := Lib.hid (fun V (k : Below w.heap.size w V) => GameOk_c ⟨es, fl, la⟩ a0 a1 a2 c0 c1 c2 V (by rw [hlen0]; exact h0.below k) (by simp only at q4; rw [q4]; exact h1.below k) (by simp only at q5; rw [q5]; exact h2.below k) (by simp only at q4 q5 ⊢; omega))
  have hl2 := h2.bounds.2.1
  simp only at HGO
  rw [hg, hlen0, HN1.out, HN2.out] at HGO
  have HG := Lib.hid hg
  clear h0 h1 h2 q1 q2 q3 q4 q5 hlen0 hle hg
  go_enter Try.func29, Try.ntmps29
  go_upto_region 1 with fail
  obtain ⟨W, hW, sW, aW, qW, bW, kW⟩ := blocks3 w (.cells #[.slice a0 n0 c0, .slice a1 16 c1, .slice a2 4 c2] 46) (.cells #[.int .i64 c, .int .i64 n, .int .i64 o, .int .i64 x, .int .i64 y] 34) (.cells #[.slice none 0 0, .slice none 0 0, .slice none 0 0] 46)
  rw [← hW]
  clear hW sW
  have cA := cell_of_block aW
  have cQ := cell_of_block qW
  go_wp2_with fail
  refine (HGO.out W kW).mono ?_
  rintro e w1 ⟨rfl, k1⟩
  replace aW := carryN k1 aW
  replace bW := carryN k1 bW
  replace qW := carryN k1 qW
  have KX := Lib.hid (below_next kW k1)
  clear cA cQ k1 kW
  have cQ := cell_of_block qW
  go_wp2_with fail
  refine (okOrNull_c c n o x y w1).mono ?_
  rintro e w2 ⟨rfl, k2⟩
  rw [hgr]
  replace aW := carryN k2 aW
  replace bW := carryN k2 bW
  replace qW := carryN k2 qW
  replace KX := Lib.hid (below_next KX.out k2)
  clear cQ k2 HGO
  have cA := cell_of_block aW
  go_wp2_with fail
  refine (copyOfG_c ⟨es, fl, la⟩ a0 a1 a2 n0 16 4 c0 c1 c2 w2 (H0.out.below KX.out) (H1.out.below KX.out) (H2.out.below KX.out) (by omega) (by omega) (by omega)).mono ?_
  rintro e w3 ⟨b0, b1, b2, rfl, r0, r1, r2, d01, d02, d12, k3⟩
  have hsw3 : w.heap.size + 3 ≤ w2.heap.size := lt_of_block bW
  have O := Lib.hid (show Own3 w3 (w.heap.size + 3) b0 n0 b1 16 b2 4 ⟨es, fl, la⟩ from ⟨r0.low hsw3, r1.low hsw3, r2.low hsw3, d01, d02, d12⟩)
  replace aW := carryN k3 aW
  replace bW := carryN k3 bW
  replace qW := carryN k3 qW
  replace KX := Lib.hid (below_next KX.out k3)
  clear cA k3 r0 r1 r2 d01 d02 d12 hsw3
  obtain ⟨X, hX, sX, pX, kX⟩ := blocks1 w3 (.cells #[.slice b0 n0 n0, .slice b1 16 16, .slice b2 4 4] 46)
  obtain ⟨P, hP⟩ : ∃ P, P = w3.heap.size := ⟨_, rfl⟩
  go_upto_region 4 with fail
  rw [← hX]
  rw [← hP] at pX ⊢
  have hPw : w.heap.size + 2 < P := by rw [hP]; exact lt_of_block bW
  clear hX sX
  replace aW := carryN kX aW
  replace bW := carryN kX bW
  replace qW := carryN kX qW
  replace KX := Lib.hid (below_next KX.out kX)
  replace O := Lib.hid (O.out.below kX)
  clear kX hP
  have cQ := cell_of_block qW
  have cP := cell_of_block pX
  have cB := cell_of_block bW
  have fB := unfrozen_of_block bW
  have lB := lt_of_block bW
  have lP := lt_of_block pX
  by_cases hz : (⟨c, n, o, x, y⟩ : Rq) = ⟨0, 0, 0, 0, 0⟩
  · have hD : doG ⟨es, fl, la⟩ ⟨c, n, o, x, y⟩ = (⟨es, fl, la⟩, 2) := by unfold doG; rw [if_pos hz]
    have hez : eqR c n o x y 0 0 0 0 0 = true := by injection hz with e1 e2 e3 e4 e5; subst e1 e2 e3 e4 e5; rfl
    have HD := Lib.hid hD
    clear hz hD
    go_wp2_with fail
    refine bodyPost_ret (v := .tuple #[.agg #[.slice b0 n0 n0, .slice b1 16 16, .slice b2 4 4], .int .i64 2]) (by simp [results, Try.results29, go_sem, cB]) rfl ?_
    rw [HD.out]
    have KX' := KX.out
    exact retGF ((O.out.set3 bW _ _ _).low (by omega)) HN0.out HN1.out HN2.out (by repeat' (first | with_reducible exact Below.refl _ _ | with_reducible assumption | with_reducible refine Below.alloc ?_ ?_ _ | with_reducible refine Below.drew ?_ | with_reducible refine Below.setCell ?_ ?_ _ | omega | (simp; omega) | (simp; done)))
  · have hez : eqR c n o x y 0 0 0 0 0 = false := eqR_ne (r := ⟨c, n, o, x, y⟩) (s := ⟨0, 0, 0, 0, 0⟩) hz
    have hok := (good_or hr).resolve_right hz
    simp only at hok
    have hb := okB_xy hok
    obtain ⟨i, hi, hi4⟩ : ∃ i : Nat, c - 1 = (i : Int) ∧ i < 4 := ⟨(c - 1).toNat, by omega, by omega⟩
    have hci : (c - 1).toNat = i := by omega
    have hw1 : IntKind.i64.wrap (c - 1) = c - 1 := IntWalk.i64_in _ ⟨by omega, by omega⟩
    have hi0 : (0 : Int) ≤ (i : Int) := by omega
    have hi1 : (i : Int) < 4 := by omega
    have hiz : i < la.length := by rw [HN2.out]; exact hi4
    have HZ := Lib.hid hz
    have HCI := Lib.hid hci
    have HOK := Lib.hid hok
    have hrr := ((H2.out.below KX.out).bounds).2.2.2
    obtain ⟨f0, o0, hf0, hfl0, hfc⟩ := hrr i hiz
    have ef : X.cell? ⟨f0, o0 + i, none⟩ = some (.int .i64 la[i]) := by have := hfc 0 (by decide); simpa [intR] using this
    subst hf0
    clear hfc hrr hz
    obtain ⟨v, hv⟩ : ∃ v, la[i] = v := ⟨_, rfl⟩
    have HV := Lib.hid (show la.getD (c - 1).toNat 0 = v by rw [hci, List.getD_eq_getElem?_getD, List.getElem?_eq_getElem hiz, Option.getD_some, hv])
    rw [hv] at ef
    clear hv hci
    have e1 := cell_regrown ef
    have ga := cellRe aW
    have gq := cellRe qW
    clear ef
    by_cases hold : n ≤ v
    · have hd : decide (n ≤ v) = true := by simp; omega
      have HD := Lib.hid (show doG ⟨es, fl, la⟩ ⟨c, n, o, x, y⟩ = (⟨es, fl, la⟩, 3) by unfold doG; rw [if_neg HZ.out]; simp only; rw [HV.out, if_pos hold])
      go_wp2_with fail
      refine wp_region_quiet_below (by kernel_rfl) (by kernel_rfl) ?_
      repeat (go_big_quiet_step (fail))
      refine wpQuiet_nil ?_
      intro _ hw'
      obtain ⟨⟨dq, osq⟩, hw''⟩ := hw'
      subst hw''
      have hkb := below_regrown X dq osq
      replace pX := carryN hkb pX
      replace bW := carryN hkb bW
      replace KX := Lib.hid (below_next KX.out hkb)
      replace O := Lib.hid (O.out.below hkb)
      clear hkb e1 ga gq cQ cP cB fB lB lP aW qW
      generalize Sort.grow (redrawn X dq) osq = Y at *
      have cP := cell_of_block pX
      have cB := cell_of_block bW
      have fB := unfrozen_of_block bW
      have lB := lt_of_block bW
      have lP := lt_of_block pX
      go_wp2_with fail
      refine bodyPost_ret (v := .tuple #[.agg #[.slice b0 n0 n0, .slice b1 16 16, .slice b2 4 4], .int .i64 3]) (by simp [results, Try.results29, go_sem, cB]) rfl ?_
      rw [HD.out]
      have KX' := KX.out
      exact retGF ((O.out.set3 bW _ _ _).low (by omega)) HN0.out HN1.out HN2.out (by repeat' (first | with_reducible exact Below.refl _ _ | with_reducible assumption | with_reducible refine Below.alloc ?_ ?_ _ | with_reducible refine Below.drew ?_ | with_reducible refine Below.setCell ?_ ?_ _ | omega | (simp; omega) | (simp; done)))
    · have hd : decide (n ≤ v) = false := by simp; omega
      have HD := Lib.hid (show doG ⟨es, fl, la⟩ ⟨c, n, o, x, y⟩ = actR ⟨es, fl, la.set i n⟩ ⟨c, n, o, x, y⟩ by rw [doG_act HZ.out (by simp only; rw [HV.out]; exact hold)]; simp only; rw [HCI.out])
      go_wp2_with fail
      refine wp_region_quiet_below (by kernel_rfl) (by kernel_rfl) ?_
      repeat (go_big_quiet_step (fail))
      refine wpQuiet_nil ?_
      intro _ hw'
      obtain ⟨⟨dq, osq⟩, hw''⟩ := hw'
      subst hw''
      have hkb := below_regrown X dq osq
      replace pX := carryN hkb pX
      replace bW := carryN hkb bW
      replace qW := carryN hkb qW
      replace KX := Lib.hid (below_next KX.out hkb)
      replace O := Lib.hid (O.out.below hkb)
      clear hkb e1 ga gq cQ cP cB fB lB lP aW
      generalize Sort.grow (redrawn X dq) osq = Y at *
      have cP := cell_of_block pX
      have cQ := cell_of_block qW
      obtain ⟨f2, hf2, hf2B, hf2l, e2, ff, hr2⟩ := O.out.l.intAt (i := i) hiz
      subst hf2
      have hPf : ¬ P = f2 := fun e => by
        obtain ⟨g', cur, q1, -, q3, -⟩ := O.out.l.own (by omega)
        injection q1 with q1
        injection q1 with q1
        subst q1
        rw [← e, pX] at q3
        injection q3 with q3
        injection q3 with q3 q4
        exact absurd q4 (by decide)
      have hBf : ¬ (w.heap.size + 2) = f2 := fun e => by
        obtain ⟨g', cur, q1, -, q3, -⟩ := O.out.l.own (by omega)
        injection q1 with q1
        injection q1 with q1
        subst q1
        rw [← e, bW] at q3
        injection q3 with q3
        injection q3 with q3 q4
        exact absurd q4 (by decide)
      have hQf : ¬ (w.heap.size + 1) = f2 := fun e => by
        obtain ⟨g', cur, q1, -, q3, -⟩ := O.out.l.own (by omega)
        injection q1 with q1
        injection q1 with q1
        subst q1
        rw [← e, qW] at q3
        injection q3 with q3
        injection q3 with q3 q4
        exact absurd q4 (by decide)
      have hfP : ¬ f2 = P := fun e => hPf e.symm
      have hfB : ¬ f2 = (w.heap.size + 2) := fun e => hBf e.symm
      have hfQ : ¬ f2 = (w.heap.size + 1) := fun e => hQf e.symm
      have O2 := Lib.hid (O.out.cellL (i := i) hiz n)
      have p2 := (Below.heap_setCell Y ⟨f2, i, none⟩ (.int .i64 n) P hPf).trans pX
      have b2' := (Below.heap_setCell Y ⟨f2, i, none⟩ (.int .i64 n) (w.heap.size + 2) hBf).trans bW
      have q2 := (Below.heap_setCell Y ⟨f2, i, none⟩ (.int .i64 n) (w.heap.size + 1) hQf).trans qW
      have K2 := Lib.hid (Below.setCell KX.out (p := ⟨f2, i, none⟩) (show w.heap.size ≤ f2 by omega) (.int .i64 n))
      go_upto_region 9 with fail
      obtain ⟨U, hU⟩ : ∃ U, U = Y.setCell ⟨f2, i, none⟩ (.int .i64 n) := ⟨_, rfl⟩
      rw [← hU] at O2 p2 b2' q2 K2 ⊢
      clear hU pX bW qW O KX cP cQ e2 ff
      have HL4 := Lib.hid (show (la.set i n).length = 4 by rw [List.length_set]; exact HN2.out)
      have cQ := cell_of_block q2
      go_wp2_with fail
      refine (act_c (D := w.heap.size + 3) (B := w.heap.size + 3) es fl (la.set i n) ⟨c, n, o, x, y⟩ n0 4 P b0 b1 (some ⟨f2, 0, none⟩) 16 4 U p2 O2.out HN0.out HN1.out HL4.out h4 (Nat.le_refl _) (by omega) (by have := lt_of_block p2; omega) HP.out HF.out HOK.out).mono ?_
      rintro e w5 ⟨rfl, ⟨d0, d1, d2, p5, o5⟩, k5⟩
      obtain ⟨p, hpp⟩ : ∃ p, p = actR ⟨es, fl, la.set i n⟩ ⟨c, n, o, x, y⟩ := ⟨_, rfl⟩
      have HPP := Lib.hid hpp
      rw [← hpp] at p5 o5 ⊢
      clear hpp
      have HPL := Lib.hid (show p.1.fl.length = 16 ∧ p.1.la.length = 4 from by rw [HPP.out, ← HD.out]; exact game_lensG (doG_ok HG.out (good_or hr)))
      obtain ⟨g4, cd⟩ := p
      simp only at p5 o5 ⊢
      obtain ⟨m0, hm0⟩ : ∃ m, m = g4.es.length := ⟨_, rfl⟩
      obtain ⟨m1, hm1⟩ : ∃ m, m = g4.fl.length := ⟨_, rfl⟩
      obtain ⟨m2, hm2⟩ : ∃ m, m = g4.la.length := ⟨_, rfl⟩
      rw [← hm0, ← hm1, ← hm2] at p5
      rw [← hm0] at o5
      have h1m : m1 = 16 := by rw [hm1, HPL.out.1]
      have h2m : m2 = 4 := by rw [hm2, HPL.out.2]
      subst h1m h2m
      have HM0 := Lib.hid hm0
      have HM1 := Lib.hid hm1
      have HM2 := Lib.hid hm2
      have b5 := (k5.block (w.heap.size + 2) (by omega)).trans b2'
      have K5 := Lib.hid (K2.out.trans (k5.mono (by omega)))
      have OF := Lib.hid ((o5.set3 b5 (.slice d0 m0 m0) (.slice d1 16 16) (.slice d2 4 4)).low (show w.heap.size ≤ w.heap.size + 3 by omega))
      have KF := Lib.hid (below_set3 K5.out (show w.heap.size ≤ w.heap.size + 2 by omega) (.slice d0 m0 m0) (.slice d1 16 16) (.slice d2 4 4))
      clear hm0 hm1 hm2 k5 o5 p2 b2' q2 K2 O2 cQ
      have cP := cell_of_block p5
      have cB := cell_of_block b5
      have fB := unfrozen_of_block b5
      have lB := lt_of_block b5
      have lP := lt_of_block p5
      go_wp2_with fail
      refine bodyPost_ret (v := .tuple #[.agg #[.slice d0 m0 m0, .slice d1 16 16, .slice d2 4 4], .int .i64 cd]) (by simp [results, Try.results29, go_sem, cB]) rfl ?_
      rw [HD.out, ← HPP.out]
      exact retGF OF.out HM0.out.symm HM1.out.symm HM2.out.symm KF.out

/-- Of any game, and any ask. -/
theorem GameDoF_c (z : Gm) (r : Rq) (a0 a1 a2 : Option Addr) (c0 c1 c2 : Nat) (w : World) (h0 : IsSl w (.slice a0 z.es.length c0) 5 Rq.cs z.es) (h1 : IsSl w (.slice a1 z.fl.length c1) 1 intR z.fl) (h2 : IsSl w (.slice a2 z.la.length c2) 1 intR z.la)
    (hs : z.es.length + z.fl.length + z.la.length ≤ 1048576) :
    Calls Try.prog 29 #[.agg #[.slice a0 z.es.length c0, .slice a1 z.fl.length c1, .slice a2 z.la.length c2], .agg #[.int .i64 r.c, .int .i64 r.n, .int .i64 r.o, .int .i64 r.x, .int .i64 r.y]] w (RetGF w.heap.size (gameDo z r (good r)).1 (gameDo z r (good r)).2 w) := by
  by_cases hb : gameB z = true ∧ good r = true
  · rw [gameDo_yes hb.1 hb.2]
    have hg' := hb.1
    rw [gameB_iff] at hg'
    obtain ⟨q1, q2, q3, q4, q5, -⟩ := hg'
    obtain ⟨es, fl, la⟩ := z
    obtain ⟨c, n, o, x, y⟩ := r
    simp only at q4 q5 h0 h1 h2 ⊢
    rw [q4] at h1 ⊢
    rw [q5] at h2 ⊢
    exact GameDo_yes es fl la c n o x y es.length a0 a1 a2 c0 c1 c2 w h0 h1 h2 hb.1 hb.2
  · have hb' : gameB z = false ∨ good r = false := by
      cases h1 : gameB z with
      | false => exact .inl rfl
      | true =>
        cases h2 : good r with
        | false => exact .inr rfl
        | true => exact absurd ⟨h1, h2⟩ hb
    rw [gameDo_bad hb']
    exact GameDo_no z r a0 a1 a2 c0 c1 c2 w h0 h1 h2 hs hb'
end Go.Proofs.Ytofedboeggdkaaa
