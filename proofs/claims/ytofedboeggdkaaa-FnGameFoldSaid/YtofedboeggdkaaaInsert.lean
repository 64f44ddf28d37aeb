/- slices.Insert of one figure into a list without room; condition: small sizes. -/
import Derived.Test.YtofedboeggdkaaaOwnG
import Derived.StillTailTactics
import Derived.Laws.CopyRow
namespace Go.Proofs.Ytofedboeggdkaaa
open Go.RowKit Go.Joins

section
variable {P : Program}
/-- append of n zeros, where there is no room. -/
theorem run_append_zeros (w : World) (t tx ty e : TypeId) (i : TypeInfo) (z : Value) (ht : P.underlying t = some (.slice e)) (hx : P.underlying tx = some (.int .i64)) (hi : P.info? e = some i) (hz : i.zero = some z) (base : Option Addr) (sLen sCap n : Nat) (olds : List Value)
    (hold : (Builtin.firstCells i.size sLen (.slice base sLen sCap)).run P w.drew = .ok olds.toArray w.drew) (hpos : 0 < n) (hsz : 0 < i.size) (hn : n ≤ 1048576) (hb : n * i.bytes ≤ 281474976710656)
    (hg : sCap < sLen + n) (h63 : ((sLen + n : Nat) : Int) ≤ 9223372036854775807) (hfit : Builtin.nextslicecap (sLen + n) sCap * i.bytes ≤ 281474976710656) :
    (Builtin.append_ #[t, tx] ty #[.slice base sLen sCap, .int .i64 n]).run P w =
      .ok (.slice (some ⟨w.heap.size, 0, none⟩) (sLen + n) (grownCap w (sLen + n) sCap e))
        (w.drew.alloc (.cells (olds.toArray ++ Builtin.zeroCells z.cells n ++ Builtin.zeroCells z.cells (grownCap w (sLen + n) sCap e - (sLen + n))) e)) := by
  have hn' : ¬ (sLen + n ≤ sCap) := by omega
  have h63' : ¬ (9223372036854775807 < ((sLen : Int) + (n : Int))) := by omega
  have h48' : ¬ (281474976710656 < Builtin.nextslicecap (sLen + n) sCap * i.bytes) := by omega
  have hw : IntKind.i64.wrap (n : Int) = (n : Int) := IntWalk.i64_in _ ⟨by omega, by omega⟩
  have hl : ¬ ((n : Int) < 0) := by omega
  have hbb : ¬ (281474976710656 < (n : Int) * (i.bytes : Int)) := by
    have : ((n * i.bytes : Nat) : Int) = (n : Int) * (i.bytes : Int) := by simp
    omega
  have h0 : ¬ (n * i.size = 0) := by
    have := Nat.mul_pos hpos hsz
    omega
  have h0a : ¬ n = 0 := by omega
  have h0b : ¬ i.size = 0 := by omega
  simp [Builtin.append_, run_underlying ht, run_underlying hx, sizeOf, typeInfo, zeroValue, hi, hz, asInt, asIntOf, hw, hl, hbb, h0, h0a, h0b, hn', h63', h48', Question.forced, hold, newRow, grownCap]

/-- copy between rows of elements of k cells. -/
theorem run_copy_rowk (w : World) (dT sT ty elem : TypeId) (g o dLen dCap k m : Nat) (a : Addr) (sLen sCap : Nat) (cur : Array Value) (t : TypeId) (cs : List Value)
    (hu : P.underlying dT = some (.slice elem)) (hs : (P.info? elem).map (·.size) = some k)
    (hg : w.heap[g]? = some (.cells cur t (0, 0))) (hm : Nat.min sLen dLen = m) (hn : cs.length = m * k)
    (hsrc : ∀ j v, cs[j]? = some v → w.cell? (a.add j) = some v) (hfit : o + cs.length ≤ cur.size) (h1 : ∀ v ∈ cs, v.oneCell' = true) :
    (Builtin.copy_ #[dT, sT] ty #[.slice (some ⟨g, o, none⟩) dLen dCap, .slice (some a) sLen sCap]).run P w =
      .ok (goInt m) (w.setRow g (cur.toList.take o ++ cs ++ cur.toList.drop (o + cs.length)).toArray) := by
  have hl := run_loadCells_list (P := P) w a cs hsrc
  have hst := run_storeCells_at P g o t cs 0 cur w hg (by simpa using hfit) h1
  cases hq : P.info? elem with
  | none => simp [hq] at hs
  | some i =>
    have hi : i.size = k := by simpa [hq] using hs
    simp [Builtin.copy_, run_underlying hu, Builtin.lenOf, Builtin.firstCells, sizeOf, typeInfo, hq, hi, hm, ← hn, hl, hst]

theorem wpList_copy_rowk {w : World} {ops : Array Oper} {rest : List Oper} {o : Oper} {ac : Act} {Q : Exit → Act → World → Prop} (hgd : o.guard = none) (d s : Operand) (dT sT : TypeId)
    (ho : o.op = .call { callee := .builtin .copy, args := #[d, s], argTypes := #[dT, sT] }) (elem : TypeId) (g of dLen dCap k m : Nat) (a : Addr) (sLen sCap : Nat) (cur : Array Value) (t : TypeId) (cs : List Value)
    (hu : P.underlying dT = some (.slice elem)) (hs : (P.info? elem).map (·.size) = some k) (hd : ac.eval d = .slice (some ⟨g, of, none⟩) dLen dCap) (hss : ac.eval s = .slice (some a) sLen sCap)
    (hg : w.heap[g]? = some (.cells cur t (0, 0))) (hm : Nat.min sLen dLen = m) (hn : cs.length = m * k)
    (hsrc : ∀ j v, cs[j]? = some v → w.cell? (a.add j) = some v) (hfit : of + cs.length ≤ cur.size) (h1 : ∀ v ∈ cs, v.oneCell' = true)
    (h : wpList P ops Q rest (ac.put o.dst (goInt m)) (w.setRow g (cur.toList.take of ++ (cs ++ cur.toList.drop (of + cs.length))).toArray)) : wpList P ops Q (o :: rest) ac w := by
  refine wpList_plain hgd fun K hK => ?_
  have hrun := run_copy_rowk (P := P) w dT sT o.type elem g of dLen dCap k m a sLen sCap cur t cs hu hs hg hm hn hsrc hfit h1
  unfold Oper.wp
  simp [execOp, ho, resolve, invoke, builtin, hd, hss, hrun, Result.andThen]
  exact hK _ _ h

theorem wpList_append_zeros {w : World} {ops : Array Oper} {rest : List Oper} {o : Oper} {ac : Act} {Q : Exit → Act → World → Prop} (hgd : o.guard = none) (s x : Operand) (t tx e : TypeId)
    (ho : o.op = .call { callee := .builtin .append, args := #[s, x], argTypes := #[t, tx] }) (i : TypeInfo) (z : Value) (ht : P.underlying t = some (.slice e)) (hx : P.underlying tx = some (.int .i64)) (hi : P.info? e = some i) (hz : i.zero = some z) (base : Option Addr) (sLen sCap n : Nat) (olds : List Value)
    (hs : ac.eval s = .slice base sLen sCap) (hxx : ac.eval x = .int .i64 n)
    (hold : (Builtin.firstCells i.size sLen (.slice base sLen sCap)).run P w.drew = .ok olds.toArray w.drew) (hpos : 0 < n) (hsz : 0 < i.size) (hn : n ≤ 1048576) (hb : n * i.bytes ≤ 281474976710656)
    (hg : sCap < sLen + n) (h63 : ((sLen + n : Nat) : Int) ≤ 9223372036854775807) (hfit : Builtin.nextslicecap (sLen + n) sCap * i.bytes ≤ 281474976710656)
    (h : wpList P ops Q rest (ac.put o.dst (.slice (some ⟨w.heap.size, 0, none⟩) (sLen + n) (grownCap w (sLen + n) sCap e)))
      (w.drew.alloc (.cells (olds.toArray ++ (Builtin.zeroCells z.cells n ++ Builtin.zeroCells z.cells (grownCap w (sLen + n) sCap e - (sLen + n)))) e))) : wpList P ops Q (o :: rest) ac w := by
  refine wpList_plain hgd fun K hK => ?_
  have hrun := run_append_zeros (P := P) w t tx o.type e i z ht hx hi hz base sLen sCap n olds hold hpos hsz hn hb hg h63 hfit
  unfold Oper.wp
  simp [execOp, ho, resolve, invoke, builtin, hs, hxx, hrun, Result.andThen]
  exact hK _ _ h
end
theorem wpList_append_zerosV {P : Program} {w : World} {ops : Array Oper} {rest : List Oper} {o : Oper} {ac : Act} {Q : Exit → Act → World → Prop} (hgd : o.guard = none) (s x : Operand) (t tx e : TypeId)
    (ho : o.op = .call { callee := .builtin .append, args := #[s, x], argTypes := #[t, tx] }) (i : TypeInfo) (z : Value) (ht : P.underlying t = some (.slice e)) (hx : P.underlying tx = some (.int .i64)) (hi : P.info? e = some i) (hz : i.zero = some z) (base : Option Addr) (sLen sCap n : Nat) (olds : List Value)
    (hs : ac.eval s = .slice base sLen sCap) (hxx : ac.eval x = .int .i64 n)
    (hold : (Builtin.firstCells i.size sLen (.slice base sLen sCap)).run P w.drew = .ok olds.toArray w.drew) (hpos : 0 < n) (hsz : 0 < i.size) (hn : n ≤ 1048576) (hb : n * i.bytes ≤ 281474976710656)
    (hg : sCap < sLen + n) (h63 : sLen + n ≤ maxLen) (hfit : Builtin.nextslicecap (sLen + n) sCap * i.bytes ≤ 281474976710656) (hzc : z.cells.size = i.size)
    (h : ∀ cap' V (Zl : List Value), sLen + n ≤ cap' → cap' ≤ maxLen → V.heap[w.heap.size]? = some (.cells (olds ++ Zl).toArray e (0, 0)) → Zl.length = (cap' - sLen) * i.size → Below w.heap.size w V → wpList P ops Q rest (ac.put o.dst (.slice (some ⟨w.heap.size, 0, none⟩) (sLen + n) cap')) V) : wpList P ops Q (o :: rest) ac w := by
  have hge := grownCap_ge w (sLen + n) sCap e
  refine wpList_append_zeros hgd s x t tx e ho i z ht hx hi hz base sLen sCap n olds hs hxx hold hpos hsz hn hb hg (by simp only [maxLen] at h63; omega) hfit ?_
  refine h _ _ (Builtin.zeroCells z.cells n ++ Builtin.zeroCells z.cells (grownCap w (sLen + n) sCap e - (sLen + n))).toList hge (grownCap_le_maxLen w _ _ e h63) ?_ ?_ (((Below.refl w.heap.size w).drew).alloc (Nat.le_refl _) _)
  · have e1 : olds.toArray ++ (Builtin.zeroCells z.cells n ++ Builtin.zeroCells z.cells (grownCap w (sLen + n) sCap e - (sLen + n))) = (olds ++ (Builtin.zeroCells z.cells n ++ Builtin.zeroCells z.cells (grownCap w (sLen + n) sCap e - (sLen + n))).toList).toArray := by
      apply Array.ext'
      simp
    rw [← e1]
    exact heap_alloc_new w.drew _
  · simp only [Array.length_toList, Array.size_append, size_zeroCells, hzc, ← Nat.add_mul]
    congr 1
    omega
theorem wpList_copy_rowV {P : Program} {w : World} {ops : Array Oper} {rest : List Oper} {o : Oper} {ac : Act} {Q : Exit → Act → World → Prop} (hgd : o.guard = none) (d s : Operand) (dT sT : TypeId)
    (ho : o.op = .call { callee := .builtin .copy, args := #[d, s], argTypes := #[dT, sT] }) (elem : TypeId) (g of dLen dCap k m : Nat) (a : Addr) (sLen sCap : Nat) (xs ys tl : List Value) (t : TypeId) (cs : List Value)
    (hu : P.underlying dT = some (.slice elem)) (hs : (P.info? elem).map (·.size) = some k) (hd : ac.eval d = .slice (some ⟨g, of, none⟩) dLen dCap) (hss : ac.eval s = .slice (some a) sLen sCap)
    (hg : w.heap[g]? = some (.cells (xs ++ (ys ++ tl)).toArray t (0, 0))) (hm : Nat.min sLen dLen = m) (hn : cs.length = m * k)
    (hsrc : ∀ j v, cs[j]? = some v → w.cell? (a.add j) = some v) (hx : xs.length = of) (hy : ys.length = cs.length) (h1 : ∀ v ∈ cs, v.oneCell' = true)
    (h : ∀ V, V.heap[g]? = some (.cells (xs ++ (cs ++ tl)).toArray t (0, 0)) → w.grownBy V (some g) → wpList P ops Q rest (ac.put o.dst (goInt m)) V) : wpList P ops Q (o :: rest) ac w := by
  refine wpList_copy_rowk hgd d s dT sT ho elem g of dLen dCap k m a sLen sCap _ t cs hu hs hd hss hg hm hn hsrc (by simp [hx, hy]) h1 ?_
  have e1 : (xs ++ (ys ++ tl)).toArray.toList.take of = xs := by simp [← hx]
  have e2 : (xs ++ (ys ++ tl)).toArray.toList.drop (of + cs.length) = tl := by
    rw [← hx, ← hy]
    simp
  rw [e1, e2]
  exact h _ (setRow_heap w g _ _ t _ hg) ⟨rfl, rfl, rfl, by simp [World.setRow], fun b _ hne => setRow_other w g b _ (fun e => hne (by rw [e]))⟩
/-- append of one row to a full one: a block of its own. -/
theorem wpList_append_full {α : Type} {w : World} {B e n k : Nat} {a : Option Addr} {R : α → List Value} {zs : List α} {P : Program} {ops : Array Oper} {rest : List Oper} {o : Oper} {ac : Act} {Q : Exit → Act → World → Prop} (hgd : o.guard = none) (s x : Operand) {t : TypeId}
    (ho : o.op = .call { callee := .builtin .append, args := #[s, x], argTypes := #[t, t] }) {bytes m : Nat} (N : Nat) (el : Elt P t e k bytes R) {ys : List α} {ay : Option Addr} {cy : Nat} (hs : ac.eval s = .slice a n n) (hx : ac.eval x = .slice ay m cy)
    (hrow : Row w B e a n k R zs) (hys : RowsAt w ay k R ys) (hn : zs.length = n) (hm : ys.length = m) (hpos : 0 < m) (hN : n + m = N) (h63 : N ≤ maxLen) (hbytes : N * bytes ≤ 140737488355328)
    (h : ∀ cap' w', Row w' w.heap.size e (some ⟨w.heap.size, 0, none⟩) cap' k R (zs ++ ys) → Below w.heap.size w w' → wpList P ops Q rest (ac.put o.dst (.slice (some ⟨w.heap.size, 0, none⟩) N cap')) w') : wpList P ops Q (o :: rest) ac w := by
  subst hn hm hN
  obtain ⟨i, z, h1, h2, h3, h4, h5⟩ := el.info
  subst h3 h4
  have hsrc := RowsAt.src (P := P) (w := w) (cy := cy) el.under el.len el.pos el.one hys
  have hlz := flatMap_length el.len zs
  have hly := flatMap_length el.len ys
  have hr := run_append_grow_src (P := P) (w := w) t t o.type e i z el.under h1 h2 a zs.length zs.length (zs.flatMap R) (by
      have hw : RowsAt w.drew a i.size R zs := hrow.rows el.len
      exact hw.firsts (P := P) (cy := zs.length) el.len el.pos) (.slice ay ys.length cy) ys.length (ys.flatMap R) hsrc (by omega) (by simp only [maxLen] at h63; omega) (growslice_fits (by omega) hbytes)
  refine wpList_plain hgd fun K hK => ?_
  unfold Oper.wp
  simp [execOp, ho, resolve, invoke, builtin, hs, hx, hr, Result.andThen]
  refine hK _ _ (h _ _ ⟨?_, grownCap_le_maxLen w _ _ e h63, fun _ => ⟨w.heap.size, _, rfl, Nat.le_refl _, heap_alloc_new w.drew _, ?_, ?_⟩⟩ (((Below.refl w.heap.size w).drew).alloc (Nat.le_refl _) _))
  · have hge := grownCap_ge w (zs.length + ys.length) zs.length e
    rw [List.length_append]; exact hge
  · have hge := grownCap_ge w (zs.length + ys.length) zs.length e
    simp only [Array.size_append, List.size_toArray, List.length_append, size_zeroCells, h5, hlz, hly, ← Nat.add_mul]
    exact Nat.mul_le_mul_right _ (by omega)
  · intro j hj
    rw [← flatMap_length el.len] at hj
    rw [Array.getElem?_append_left (by rw [List.size_toArray, ← List.flatMap_append]; exact hj), ← List.flatMap_append]
    simp [flat]

theorem flatMap_one (zs : List Rq) : ∀ v ∈ zs.flatMap Rq.cs, v.oneCell' = true := by
  intro v hv
  obtain ⟨z, -, hz⟩ := List.mem_flatMap.1 hv
  exact five_one z v hz
theorem infoEntG : ∃ i z, Try.prog.info? 92 = some i ∧ i.zero = some z ∧ i.size = 5 ∧ i.bytes = 40 ∧ z.cells.size = 5 := eltEnt.info
theorem flat_three {xs : List Rq} {r : Rq} {ys : List Rq} {tl : List Value} {j : Nat} (hj : j < (xs ++ [r] ++ ys).length * 5) : ((xs.flatMap Rq.cs ++ (r.cs ++ (ys.flatMap Rq.cs ++ tl))).toArray)[j]? = (flat Rq.cs (xs ++ [r] ++ ys))[j]? := by
  have e : xs.flatMap Rq.cs ++ (r.cs ++ (ys.flatMap Rq.cs ++ tl)) = (xs ++ [r] ++ ys).flatMap Rq.cs ++ tl := by simp [List.flatMap_append]
  rw [e, List.getElem?_toArray, List.getElem?_append_left (by rw [flatMap_length five_len]; exact hj)]
  simp [flat]

set_option maxRecDepth 100000 in
set_option maxHeartbeats 8000000 in
theorem slInsertEnt_c {B n i : Nat} {a : Option Addr} {zs : List Rq} (gv : Nat) (r : Rq) (w : World) (h : Row w B 92 a n 5 Rq.cs zs) (hn : zs.length = n) (hi : i ≤ n) (hs : n ≤ 100) (hv : w.heap[gv]? = some (.cells #[.int .i64 r.c, .int .i64 r.n, .int .i64 r.o, .int .i64 r.x, .int .i64 r.y] 92 (0, 0))) :
    Calls Try.prog 115 #[.slice a n n, .int .i64 i, .slice (some ⟨gv, 0, none⟩) 1 1] w fun e w' => ∃ a' cap', e = .returned (.slice a' (n + 1) cap') ∧ Row w' w.heap.size 92 a' cap' 5 Rq.cs (zs.take i ++ [r] ++ zs.drop i) ∧ Below w.heap.size w w' := by
  have H := Lib.hid h
  have HN := Lib.hid hn
  have hrv : RowsAt w (some ⟨gv, 0, none⟩) 5 Rq.cs [r] := rows_of_block (t := 92) (fr := (0, 0)) five_len hv
  have HRV := Lib.hid hrv
  have hi0 : (0 : Int) ≤ (i : Int) := by omega
  have hin : (i : Int) ≤ (n : Int) := by omega
  have hw1 : IntKind.i64.wrap ((n : Int) + 1) = (n : Int) + 1 := IntWalk.i64_in _ ⟨by omega, by omega⟩
  clear hrv
  by_cases hlt : i = n
  · subst hlt
    clear h hn
    go_enter Try.func115, Try.ntmps115
    by_cases hz : i = 0
    · subst hz
      have hnil : zs = [] := List.eq_nil_of_length_eq_zero HN.out
      subst hnil
      cases a with
      | none =>
        go_wp2_with (at_builtin; refine wpList_append_full rfl _ _ rfl 1 eltEnt rfl rfl H.out HRV.out rfl rfl (by decide) rfl (by decide) (by decide) ?_; intro cap' w' hr' hb'; have HR' := Lib.hid hr'; have HB' := Lib.hid hb'; clear hr' hb')
        go_ret
        exact ⟨_, _, rfl, HR'.out, HB'.out⟩
      | some ad =>
        go_wp2_with (at_builtin; refine wpList_append_full rfl _ _ rfl 1 eltEnt rfl rfl H.out HRV.out rfl rfl (by decide) rfl (by decide) (by decide) ?_; intro cap' w' hr' hb'; have HR' := Lib.hid hr'; have HB' := Lib.hid hb'; clear hr' hb')
        go_ret
        exact ⟨_, _, rfl, HR'.out, HB'.out⟩
    · obtain ⟨ga, cur, rfl, -⟩ := H.out.own (by omega)
      go_wp2_with (at_builtin; refine wpList_append_full rfl _ _ rfl (i + 1) eltEnt rfl rfl H.out HRV.out HN.out rfl (by decide) rfl (by simp only [maxLen]; omega) (by omega) ?_; intro cap' w' hr' hb'; have HR' := Lib.hid hr'; have HB' := Lib.hid hb'; clear hr' hb')
      go_ret
      have e1 : zs.take i = zs := List.take_of_length_le (by rw [HN.out]; exact Nat.le_refl _)
      have e2 : zs.drop i = [] := List.drop_eq_nil_of_le (by rw [HN.out]; exact Nat.le_refl _)
      rw [e1, e2, List.append_nil]
      exact ⟨_, _, rfl, HR'.out, HB'.out⟩
  · obtain ⟨ga, cur, rfl, hgB, hg, hcs, hcur⟩ := h.own (by omega)
    have hlga := lt_of_block hg
    obtain ⟨m, hd⟩ : ∃ m, n + 1 = i + m := ⟨n + 1 - i, by omega⟩
    have hd0 : 2 ≤ m := by omega
    have HD := Lib.hid hd
    have hne : ¬ (i : Int) = (n : Int) := by omega
    have hnb : ((i : Int) == (n : Int)) = false := by simp; omega
    have hcz : ¬ n = i := by omega
    have hw2 : IntKind.i64.wrap ((n : Int) + 1 - (i : Int)) = (m : Int) := by
      have e : (n : Int) + 1 - (i : Int) = (m : Int) := by omega
      rw [e]; exact IntWalk.i64_in _ ⟨by omega, by omega⟩
    have hw3 : IntKind.i64.wrap ((i : Int) + 1) = (i : Int) + 1 := IntWalk.i64_in _ ⟨by omega, by omega⟩
    have hdn : n < i + m := by omega
    have him : i + m ≤ 101 := by omega
    have hi1 : (0 : Int) ≤ (i : Int) + 1 := by omega
    obtain ⟨ti, tz, hti, htz, hts, htb, htc⟩ := infoEntG
    have hold : (Builtin.firstCells 5 i (.slice (some ⟨ga, 0, none⟩) i n)).run Try.prog w.drew = .ok ((zs.take i).flatMap Rq.cs).toArray w.drew := by
      have hra : RowsAt w.drew (some ⟨ga, 0, none⟩) 5 Rq.cs (zs.take i) := (show Row w.drew B _ _ _ _ _ _ from h.drew).rows five_len |>.takeG i
      have := hra.firsts (P := Try.prog) (cy := n) five_len (by decide)
      rw [List.length_take, Nat.min_eq_left (by omega)] at this
      exact this
    have HOLD := Lib.hid hold
    have HCAP := Lib.hid (grownCap_ge w (i + m) n 92)
    have HCAM := Lib.hid (grownCap_le_maxLen w (i + m) n 92 (by simp only [maxLen]; omega))
    clear hd hold h hn hg hcs hcur
    go_enter Try.func115, Try.ntmps115
    have HRA := Lib.hid ((H.out.rows five_len).takeG i)
    go_upto_region 10 with (at_builtin; refine wpList_append_zerosV rfl (.tmp 34) (.tmp 39) 43 3 92 rfl ti tz eltEnt.under Try.underlying3 hti htz (some ⟨ga, 0, none⟩) i n m ((zs.take i).flatMap Rq.cs) rfl rfl (by rw [hts]; exact HOLD.out) (by omega) (by rw [hts]; decide) (by omega) (by rw [htb]; omega) hdn (by simp only [maxLen]; omega) (growslice_fits (by omega) (by rw [htb]; omega)) (by rw [htc, hts]) ?_; intro cp V Zl hcp hcpm hVg hZl kV)
    rw [hts] at hZl
    have hcpi : ¬ cp = i := by omega
    have hrv := fun j v (hj : (r.cs)[j]? = some v) => (show V.cell? ((⟨gv, 0, none⟩ : Addr).add j) = some v from by
      have := cell_of_block (carryN kV hv) j
      rw [Go.WideShapes.add_plain, Nat.zero_add, this]
      simpa [Rq.cs] using hj)
    have hmn : Nat.min 1 m = 1 := Nat.min_eq_left (by omega)
    have hicp : (i : Int) ≤ (cp : Int) := by unfold maxLen at hcpm; omega
    have hiim : (i : Int) ≤ ((i + m : Nat) : Int) := by omega
    have hA1 : (((zs.take i).flatMap Rq.cs)).length = i * 5 := by rw [flatMap_length five_len, List.length_take, HN.out, Nat.min_eq_left (by omega)]
    have hA2 : (Zl.take 5).length = r.cs.length := by
      rw [List.length_take, hZl]
      show min 5 ((cp - i) * 5) = 5
      omega
    have hA3 : (Try.prog.info? 92).map (·.size) = some 5 := by rw [hti]; simp [hts]
    have hA4 : V.heap[w.heap.size]? = some (.cells (((zs.take i).flatMap Rq.cs) ++ (Zl.take 5 ++ Zl.drop 5)).toArray 92 (0, 0)) := by rw [List.take_append_drop]; exact hVg
    have HA1 := Lib.hid hA1
    have HA2 := Lib.hid hA2
    have HA3 := Lib.hid hA3
    have HA4 := Lib.hid hA4
    have HRV2 := Lib.hid hrv
    clear hA1 hA2 hA3 hA4 hrv
    go_upto_region 11 with (with_reducible refine wpList_copy_rowV (o := ⟨some 45, .call { callee := .builtin .copy, args := #[.tmp 43, .tmp 44], argTypes := #[_, _] }, _, _, _, _⟩) rfl (.tmp 43) (.tmp 44) 43 43 rfl 92 w.heap.size (i * 5) m (cp - i) 5 1 ⟨gv, 0, none⟩ 1 1 ((zs.take i).flatMap Rq.cs) (Zl.take 5) (Zl.drop 5) 92 r.cs eltEnt.under HA3.out rfl rfl HA4.out hmn rfl HRV2.out HA1.out HA2.out (five_one r) ?_; intro Y hYg kY)
    have hY5 : Y.heap[w.heap.size]? = some (.cells ((((zs.take i).flatMap Rq.cs) ++ r.cs) ++ (((Zl.drop 5).take ((m - 1) * 5)) ++ ((Zl.drop 5).drop ((m - 1) * 5)))).toArray 92 (0, 0)) := by
      rw [hYg, List.take_append_drop, List.append_assoc]
    have hnews : ∀ j v, ((zs.drop i).flatMap Rq.cs)[j]? = some v → Y.drew.cell? ((⟨ga, 0 + i * 5, none⟩ : Addr).add j) = some v := by
      have hr0 : RowsAt Y.drew (some ⟨ga, 0 + i * 5, none⟩) 5 Rq.cs (zs.drop i) := by
        have hrY := ((H.out.below kV).kept kY (fun g hg e => by have := (H.out.blk hg).2; injection e; omega)).drew
        exact (hrY.rows five_len).drop i
      exact hr0.news five_len (by decide)
    rw [Nat.zero_add] at hnews
    have hnews' := Lib.hid hnews
    have hB1 : (((zs.take i).flatMap Rq.cs) ++ r.cs).length = (i + 1) * 5 := by rw [List.length_append, HA1.out]; show i * 5 + 5 = (i + 1) * 5; omega
    have HB1 := Lib.hid hB1
    clear hB1
    have hm2 : Nat.min (n - i) (i + m - (i + 1)) = m - 1 := by
      have := HD.out
      show min (n - i) (i + m - (i + 1)) = m - 1
      omega
    have hlen2 : ((zs.drop i).flatMap Rq.cs).length = (m - 1) * 5 := by rw [flatMap_length five_len, List.length_drop, HN.out]; have := HD.out; omega
    have HL2 := Lib.hid hlen2
    have hB2 : ((Zl.drop 5).take ((m - 1) * 5)).length = ((zs.drop i).flatMap Rq.cs).length := by
      rw [hlen2, List.length_take, List.length_drop, hZl]
      omega
    have HB2 := Lib.hid hB2
    clear hB2
    have KY := Lib.hid (kV.grown kY kV.size (fun g hg => by injection hg with hg; omega))
    have hY5' := Lib.hid (show Y.drew.heap[w.heap.size]? = _ from hY5)
    have hi1cp : (i : Int) + 1 ≤ (cp : Int) := by omega
    have hicpn : ¬ cp = i + 1 := by omega
    have hiim1 : (i : Int) + 1 ≤ (i : Int) + (m : Int) := by omega
    have hm1i : (1 : Int) ≤ (m : Int) := by omega
    have hw4 : IntKind.i64.wrap ((i : Int) + 1) = (i : Int) + 1 := hw3
    clear hY5 hYg hnews hlen2 hVg kV kY
    go_still_tail 8, (by kernel_rfl)
    change wpList _ _ _ _ _ Y.drew
    go_upto_region 12 with (with_reducible refine wpList_copy_rowV (o := ⟨some 54, .call { callee := .builtin .copy, args := #[.tmp 50, .tmp 53], argTypes := #[_, _] }, _, _, _, _⟩) rfl (.tmp 50) (.tmp 53) 43 43 rfl 92 w.heap.size ((i + 1) * 5) (i + m - (i + 1)) (cp - (i + 1)) 5 (m - 1) ⟨ga, i * 5, none⟩ (n - i) (n - i) (((zs.take i).flatMap Rq.cs) ++ r.cs) ((Zl.drop 5).take ((m - 1) * 5)) ((Zl.drop 5).drop ((m - 1) * 5)) 92 ((zs.drop i).flatMap Rq.cs) eltEnt.under HA3.out rfl rfl hY5'.out hm2 HL2.out hnews'.out HB1.out HB2.out (flatMap_one (zs.drop i)) ?_; intro S hSg kS)
    have HKS := Lib.hid ((KY.out.drew).grown kS KY.out.size (fun g hg => by injection hg with hg; omega))
    have HSG := Lib.hid hSg
    clear hSg kS KY
    go_wp2_with fail
    go_ret
    have hn1 : i + m = n + 1 := HD.out.symm
    have hsg := HSG.out
    rw [List.append_assoc] at hsg
    rw [hn1]
    have hll : (zs.take i ++ [r] ++ zs.drop i).length = n + 1 := by simp [HN.out]; omega
    refine ⟨_, cp, rfl, ⟨by rw [hll]; omega, hcpm, fun _ => ⟨w.heap.size, _, rfl, Nat.le_refl _, hsg, ?_, fun j hj => flat_three hj⟩⟩, HKS.out⟩
    simp only [List.size_toArray, List.length_append, HA1.out, HL2.out, List.length_drop, hZl]
    have : r.cs.length = 5 := rfl
    omega
end Go.Proofs.Ytofedboeggdkaaa
