/- Contract of l20Reqs: some valid asks, in a list of its own; condition: fewer than 2^40 reads. -/
import Derived.Test.YtilldpoleiippaaGreatDoorMC
import Derived.Test.YtilldpoleiippaaGreatDoorMA
import Derived.Great.BuildSlice
import Derived.Test.YtilldpoleiippaaGreatDoorDrawRow
set_option linter.unusedSimpArgs false
set_option linter.unusedVariables false
namespace Go.Proofs.YtilldpoleiippaaGreatDoor
open Go.RowKit Go.Joins

/-- Some valid asks, or none, at most so many; the reader has moved on; nothing else that was there has turned. -/
def ReqsDrawn (w : World) (g P most : Nat) (e : Ending) (w' : World) : Prop :=
  ∃ (rs : List Rq) (a' : Option Addr) (cap' : Nat), e = .returned (.slice a' rs.length cap') ∧ rs.length ≤ most ∧ rs.all good = true ∧ Row w' w.heap.size 79 a' cap' 5 Rq.cs rs ∧ Rdr w' g (P + 1 + 7 * most) ∧ w.grownBy w' (some g)

def nums (l : List Int) : Array Value := (l.map (Value.int .i64)).toArray
theorem nums_set (l : List Int) (j : Nat) (v : Int) : (nums l).setIfInBounds j (.int .i64 v) = nums (l.set j v) := by
  unfold nums; rw [List.setIfInBounds_toArray, List.map_set]
theorem nums_get {l : List Int} {j : Nat} (h : j < l.length) : (nums l)[j]? = some (.int .i64 l[j]) := by
  unfold nums; simp [h]
theorem good_of_ok {c n o x y : Int} (h : okB c n o x y = true) : good ⟨c, n, o, x, y⟩ = true := by
  unfold good goodB; simp [h]
theorem ok_num {c n o x y n' : Int} (h : okB c n o x y = true) (h1 : 1 ≤ n') (h2 : n' ≤ 30) : okB c n' o x y = true := by
  unfold okB at h ⊢
  simp only [Bool.and_eq_true, inB_iff] at h ⊢
  exact ⟨⟨h.1.1, h1, h2⟩, h.2⟩
theorem ok_client {c n o x y : Int} (h : okB c n o x y = true) : 1 ≤ c ∧ c ≤ 4 ∧ 1 ≤ n ∧ n ≤ 30 := by
  unfold okB at h
  simp only [Bool.and_eq_true, inB_iff] at h
  omega
theorem ok_join {c n o x y : Int} (h : okB c n o x y = true) : okB c 1 1 0 0 = true := by
  unfold okB at h ⊢
  simp only [Bool.and_eq_true, inB_iff] at h
  simp [inB]
  omega

theorem store_stop {P : Program} {ops : Array Oper} {rest : List Oper} {o : Oper} {a : Act} {w : World} {Q : Exit → Act → World → Prop} {ty : TypeId} {x y : Operand} (_ho : o.op = .store ty x y) (h : Hid (wpList P ops Q (o :: rest) a w)) : wpList P ops Q (o :: rest) a w := h.out
theorem call_ex {P : Program} {f : FuncId} {args : Array Value} {w : World} {Q : Ending → World → Prop} (h : ∀ V, V = w → Calls P f args V Q) : Calls P f args w Q := h w rfl
/-- A whole row stored: the world behind it under a name. -/
theorem rowStored {w : World} {g : Nat} {old : Array Value} {t : TypeId} (h : w.heap[g]? = some (.cells old t (0, 0))) (cells : Array Value) :
    ∃ V, V = w.setRow g cells ∧ V.heap[g]? = some (.cells cells t (0, 0)) ∧ (∀ b, b ≠ g → V.heap[b]? = w.heap[b]?) ∧ V.heap.size = w.heap.size ∧ V.os = w.os ∧ V.tape = w.tape ∧ V.output = w.output :=
  ⟨_, rfl, setRow_heap w g old cells t (0, 0) h, fun b hb => setRow_other w g b cells hb, by simp [World.setRow], rfl, rfl, rfl⟩
/-- The worlds of a round: the numbers' block, the ask's block, the rows, the reader. -/
structure Mid (w V : World) (g N xb Q : Nat) (c : Array Value) (ns : List Int) (a' : Option Addr) (cap' : Nat) (rs : List Rq) : Prop where
  ask : V.heap[xb]? = some (.cells c 79 (0, 0))
  num : V.heap[N]? = some (.cells (nums ns) 3 (0, 0))
  row : Row V (N + 1) 79 a' cap' 5 Rq.cs rs
  rdr : Rdr V g Q
  grown : w.grownBy V (some g)
  apart : ∀ g', rowBlk a' cap' = some g' → g' < xb
theorem Mid.setAsk {w V V' : World} {g N xb Q : Nat} {c c' : Array Value} {ns : List Int} {a' : Option Addr} {cap' : Nat} {rs : List Rq} (h : Mid w V g N xb Q c ns a' cap' rs) (hx : V'.heap[xb]? = some (.cells c' 79 (0, 0))) (ho : ∀ b, b ≠ xb → V'.heap[b]? = V.heap[b]?) (hs : V'.heap.size = V.heap.size) (h1 : V'.os = V.os) (h2 : V'.tape = V.tape) (h3 : V'.output = V.output) (hN : N < xb) (hg : g < N) (hw : w.heap.size ≤ xb) : Mid w V' g N xb Q c' ns a' cap' rs := by
  have hb : Below xb V V' := ⟨h1, h2, h3, by omega, fun b hb => ho b (by omega)⟩
  refine ⟨hx, (ho N (by omega)).trans h.num, ⟨h.row.len, h.row.max, fun hc => ?_⟩, h.rdr.below (hb.mono (by omega)), ⟨h1.trans h.grown.os, h2.trans h.grown.tape, h3.trans h.grown.output, by have := h.grown.size; omega, fun i hi hne => (ho i (by omega)).trans (h.grown.block i hi hne)⟩, h.apart⟩
  obtain ⟨g', cur, rfl, q2, q3, q4⟩ := h.row.own hc
  exact ⟨g', cur, rfl, q2, (ho g' (by have := h.apart g' (by simp [rowBlk]; omega); omega)).trans q3, q4⟩
theorem Mid.setNum {w V V' : World} {g N xb Q : Nat} {c : Array Value} {ns ns' : List Int} {a' : Option Addr} {cap' : Nat} {rs : List Rq} (h : Mid w V g N xb Q c ns a' cap' rs) (hx : V'.heap[N]? = some (.cells (nums ns') 3 (0, 0))) (ho : ∀ b, b ≠ N → V'.heap[b]? = V.heap[b]?) (hs : V'.heap.size = V.heap.size) (h1 : V'.os = V.os) (h2 : V'.tape = V.tape) (h3 : V'.output = V.output) (hN : N < xb) (hg : g < N) (hw : w.heap.size ≤ N) : Mid w V' g N xb Q c ns' a' cap' rs := by
  have hb : Below N V V' := ⟨h1, h2, h3, by omega, fun b hb => ho b (by omega)⟩
  refine ⟨(ho xb (by omega)).trans h.ask, hx, ⟨h.row.len, h.row.max, fun hc => ?_⟩, h.rdr.below (hb.mono (by omega)), ⟨h1.trans h.grown.os, h2.trans h.grown.tape, h3.trans h.grown.output, by have := h.grown.size; omega, fun i hi hne => (ho i (by omega)).trans (h.grown.block i hi hne)⟩, h.apart⟩
  obtain ⟨g', cur, rfl, q2, q3, q4⟩ := h.row.own hc
  exact ⟨g', cur, rfl, q2, (ho g' (by omega)).trans q3, q4⟩
theorem Mid.cellAsk {w V : World} {g N xb Q : Nat} {c : Array Value} {ns : List Int} {a' : Option Addr} {cap' : Nat} {rs : List Rq} (h : Mid w V g N xb Q c ns a' cap' rs) (i : Nat) (v : Value) (hN : N < xb) (hg : g < N) (hw : w.heap.size ≤ xb) : Mid w (V.setCell ⟨xb, i, none⟩ v) g N xb Q (c.setIfInBounds i v) ns a' cap' rs :=
  h.setAsk (block_setCell h.ask v) (fun b hb => Below.heap_setCell _ _ _ _ (by simpa using hb)) (by simp [World.setCell]) rfl rfl rfl hN hg hw
theorem Mid.cellNum {w V : World} {g N xb Q : Nat} {c : Array Value} {ns : List Int} {a' : Option Addr} {cap' : Nat} {rs : List Rq} (h : Mid w V g N xb Q c ns a' cap' rs) (j : Nat) (v : Int) (hN : N < xb) (hg : g < N) (hw : w.heap.size ≤ N) : Mid w (V.setCell ⟨N, j, none⟩ (.int .i64 v)) g N xb Q c (ns.set j v) a' cap' rs :=
  h.setNum (by rw [block_setCell h.num, nums_set]) (fun b hb => Below.heap_setCell _ _ _ _ (by simpa using hb)) (by simp [World.setCell]) rfl rfl rfl hN hg hw
theorem Mid.reAlloc {w w2 : World} {g N Q : Nat} {c c' : Array Value} {ns : List Int} {a' : Option Addr} {cap' : Nat} {rs : List Rq} (h : Mid w (w2.alloc (.cells c 79)) g N w2.heap.size Q c ns a' cap' rs) (hN : N < w2.heap.size) (hg : g < N) (hw : w.heap.size ≤ w2.heap.size) : Mid w (w2.alloc (.cells c' 79)) g N w2.heap.size Q c' ns a' cap' rs := by
  refine h.setAsk (heap_alloc_new w2 _) (fun b hb => ?_) (by simp) rfl rfl rfl hN hg hw
  by_cases hlt : b < w2.heap.size
  · rw [Below.heap_alloc _ _ _ hlt, Below.heap_alloc _ _ _ hlt]
  · rw [Array.getElem?_eq_none (by simp; omega), Array.getElem?_eq_none (by simp; omega)]
theorem Mid.read {w V V' : World} {g N xb Q : Nat} {c : Array Value} {ns : List Int} {a' : Option Addr} {cap' : Nat} {rs : List Rq} (h : Mid w V g N xb Q c ns a' cap' rs) (k : V.grownBy V' (some g)) (r : Rdr V' g (Q + 1)) (hN : N < xb) (hg : g < N) : Mid w V' g N xb (Q + 1) c ns a' cap' rs :=
  ⟨carry k (by omega) h.ask, carry k (by omega) h.num, h.row.kept k (fun g' hg' e => by have := (h.row.blk hg').1; injection e; omega), r, grown_trans h.grown k, h.apart⟩

set_option maxRecDepth 100000 in
set_option maxHeartbeats 8000000 in
theorem l20Reqs_c (w : World) (g P most : Nat) (hr : Rdr w g P) (hP : P ≤ 1099511600000) (hmost : most ≤ 100) :
    Calls Tryz.prog 32 #[.pointer (some ⟨g, 0, none⟩), .int .i64 most] w (ReqsDrawn w g P most) := by
  have hlt := hr.lt
  go_enter Tryz.func32, Tryz.ntmps32
  go_wp2_with fail
  obtain ⟨W, hW, sW, aW, bW, kW⟩ := blocks2 w (.cells #[] 79) (.cells #[.int .i64 0, .int .i64 0, .int .i64 0] 3)
  rw [← hW]
  clear hW
  refine (pick_c W g P ((most : Int) + 1) (hr.below (kW.mono (by omega))) (by omega) (by omega)).mono ?_
  rintro e w1 ⟨v, rfl, a1, b1, -, r1, k1⟩
  replace b1 := b1 (by omega)
  obtain ⟨m0, rfl⟩ := Int.eq_ofNat_of_zero_le a1
  have hs1 : w.heap.size + 2 ≤ w1.heap.size := by have := k1.size; omega
  have K1 : w.grownBy w1 (some g) := grown_trans (grown_of_below kW _) k1
  have bN : w1.heap[w.heap.size + 1]? = some (.cells (nums [0, 0, 0]) 3 (0, 0)) := carry k1 (by omega) bW
  clear k1 kW aW bW
  go_wp2_with fail
  go_loopw [5, 7] (fun out i wr => ∃ (rs : List Rq) (a' : Option Addr) (cap' m : Nat) (ns : List Int), i = .int .i64 m ∧ rs.length + m ≤ most ∧ out = .slice a' rs.length cap' ∧ rs.all good = true ∧ Row wr (w.heap.size + 2) 79 a' cap' 5 Rq.cs rs ∧ Rdr wr g (P + 1 + 7 * rs.length) ∧ w.grownBy wr (some g) ∧
    ns.length = 3 ∧ (∀ v ∈ ns, 0 ≤ v ∧ v ≤ 30) ∧ wr.heap[w.heap.size + 1]? = some (.cells (nums ns) 3 (0, 0)) ∧ w.heap.size + 2 ≤ wr.heap.size) (fun _ i _ => (intOf i).toNat)
  case atStart => exact ⟨[], some ⟨w.heap.size, 0, none⟩, 0, m0, [0, 0, 0], rfl, by simp; omega, rfl, rfl, Row.nil _ _ _ _ _ _, r1, K1, rfl, by simp, bN, hs1⟩
  case round =>
    obtain ⟨rs, a', cap', m, ns, rfl, hlm, rfl, hgood, hrow, hr', hgw, hnl, hnb, hN, hsz⟩ := hrel
    have HROW := Lib.hid hrow
    have HG := Lib.hid hgood
    have HNB := Lib.hid hnb
    clear hrow hgood hnb bN K1 r1
    by_cases hm : (m : Int) ≤ 0
    · go_wp2_with fail
      go_ret
      exact ⟨rs, a', cap', rfl, by omega, HG.out, HROW.out.low (by omega), hr'.mono (by omega), hgw⟩
    · have hlt' := hr'.lt
      go_wp2_with fail
      refine (l20Req_c wr g _ hr' (by omega)).mono ?_
      rintro e w2 ⟨r, rfl, hok, hc3, r2, k2⟩
      have hN2 := carry k2 (by omega) hN
      have hs2 : w.heap.size + 2 ≤ w2.heap.size := Nat.le_trans hsz k2.size
      have hl2 : w.heap.size + 1 < w2.heap.size := by omega
      have hrow2 := Lib.hid (HROW.out.kept k2 (fun g' hg' => by have := (HROW.out.blk hg').1; intro e; injection e; omega))
      have hgw2 := grown_trans hgw k2
      obtain ⟨j, hj⟩ : ∃ j : Nat, r.c = (j : Int) + 1 := by
        have := (ok_client hok).1
        exact ⟨(r.c - 1).toNat, by omega⟩
      have hj3 : j < ns.length := by omega
      have hcN := nums_get hj3
      have hvb := HNB.out ns[j] (List.getElem_mem _)
      generalize hv : ns[j] = v at *
      have hcell : w2.cell? ⟨w.heap.size + 1, j, none⟩ = some (.int .i64 v) := (cell_of_block hN2 j).trans hcN
      have hfr := unfrozen_of_block hN2 j
      obtain ⟨c, n, o, x, y⟩ := r
      simp only at hj hok hc3 ⊢
      subst hj
      have HM2 := Lib.hid (show Mid w (w2.alloc (.cells #[.int .i64 ((j : Int) + 1), .int .i64 n, .int .i64 o, .int .i64 x, .int .i64 y] 79)) g (w.heap.size + 1) w2.heap.size (P + 1 + 7 * rs.length + 5) #[.int .i64 ((j : Int) + 1), .int .i64 n, .int .i64 o, .int .i64 x, .int .i64 y] ns a' cap' rs from
        ⟨heap_alloc_new w2 _, by rw [Below.heap_alloc _ _ _ hl2]; exact hN2, hrow2.out.alloc _, r2.below (by repeat' (first | with_reducible exact Below.refl _ _ | with_reducible assumption | with_reducible refine Below.alloc ?_ ?_ _ | with_reducible refine Below.drew ?_ | with_reducible refine Below.setCell ?_ ?_ _ | omega | (simp; omega) | (simp; done))), grown_alloc hgw2 _, fun g' hg' => (hrow2.out.blk hg').2⟩)
      have HOK := Lib.hid hok
      have HCN := Lib.hid hcN
      have HNL := Lib.hid hnl
      have hgN : g < w.heap.size + 1 := by omega
      have hwN : w.heap.size ≤ w.heap.size + 1 := by omega
      have hwX : w.heap.size ≤ w2.heap.size := by omega
      clear hN2 hcN hok k2 hgw2 HROW hv hrow2 hr' hN
      by_cases hv30 : v < 30
      · go_wp2_with fail
        refine (pick_c _ g _ 8 HM2.out.rdr (by omega) (by omega)).mono ?_
        rintro e w3 ⟨p8, rfl, a8, -, -, r3, k3⟩
        have HM3 := Lib.hid (HM2.out.read k3 r3 hl2 hgN)
        clear r3 k3 HM2 hcell hfr
        have cX := cell_of_block HM3.out.ask
        have fX := unfrozen_of_block HM3.out.ask
        have cN := (cell_of_block HM3.out.num j).trans HCN.out
        have fN := unfrozen_of_block HM3.out.num j
        have hneXN : w2.heap.size ≠ w.heap.size + 1 := by omega
        have hneNX : w.heap.size + 1 ≠ w2.heap.size := by omega
        by_cases hp : 0 < p8
        · by_cases hv0 : v = 0
          · subst hv0
            have HS := Lib.hid ((HM3.out.cellNum j 1 hl2 hgN hwN).cellAsk 1 (.int .i64 1) hl2 hgN hwX)
            go_wp2_with (first
              | (refine wpList_store_rowTo rfl 79 _ _ rfl rfl w2.heap.size #[.int .i64 (↑j + 1), .int .i64 1, .int .i64 1, .int .i64 0, .int .i64 0] rfl rfl 79 _ HS.out.ask (by kernel_rfl) (by first | rfl | simp) (by first | kernel_rfl | simp [Value.oneCell']) ?_
                 obtain ⟨V, hV, vx, vo, vs, v1, v2, v3⟩ := rowStored HS.out.ask #[.int .i64 (↑j + 1), .int .i64 1, .int .i64 1, .int .i64 0, .int .i64 0]
                 rw [← hV]
                 have HM := Lib.hid (HS.out.setAsk vx vo vs v1 v2 v3 hl2 hgN hwX)
                 clear hV vx vo vs v1 v2 v3
                 go_wp2_with fail))
            clear HS HM3 cX cN fX fN
            refine (pick_c V g _ 12 HM.out.rdr (by omega) (by omega)).mono ?_
            rintro e w4 ⟨p12, rfl, a12, -, -, r4, k4⟩
            have HM4 := Lib.hid (HM.out.read k4 r4 hl2 hgN)
            clear r4 k4 HM
            by_cases h12 : p12 = 0
            · subst h12
              go_wp2_with (first
                | (refine wpList_store_rowTo rfl 79 _ _ rfl rfl w2.heap.size #[.int .i64 0, .int .i64 0, .int .i64 0, .int .i64 0, .int .i64 0] rfl rfl 79 _ HM4.out.ask (by kernel_rfl) rfl (by first | kernel_rfl | simp [Value.oneCell']) ?_
                   obtain ⟨V5, hV5, vx, vo, vs, v1, v2, v3⟩ := rowStored HM4.out.ask #[.int .i64 0, .int .i64 0, .int .i64 0, .int .i64 0, .int .i64 0]
                   rw [← hV5]
                   have HM5 := Lib.hid (HM4.out.setAsk vx vo vs v1 v2 v3 hl2 hgN hwX)
                   clear hV5 vx vo vs v1 v2 v3
                   have cX := cell_of_block HM5.out.ask
                   have hsW5 : w.heap.size + 2 ≤ V5.heap.size := by have := lt_of_block HM5.out.ask; omega
                   have P11 := Lib.hid (HM5.out.row.alloc (.cells #[.int .i64 0, .int .i64 0, .int .i64 0, .int .i64 0, .int .i64 0] 79))
                   go_wp2_with (at_builtin; refine wpList_append_row rfl _ _ rfl (rs.length + 1) eltReq rfl rfl P11.out (rowsAt_req _ ⟨0, 0, 0, 0, 0⟩ _) rfl rfl rfl (by simp only [maxLen]; omega) (by omega) (by simp <;> omega) ?_)))
              intro a5 cap5 w5 q5
              clear cX
              have hblk5 : ∀ g', rowBlk a' cap' = some g' → w.heap.size + 2 ≤ g' := fun g' hg' => (HM5.out.row.blk hg').1
              have hsW : w.heap.size + 2 ≤ V5.heap.size := by have := lt_of_block HM5.out.ask; omega
              have hb5 : Below (w.heap.size + 2) V5 w5 := Below.grown ((Below.refl _ _).alloc hsW _) q5.grown (by simp <;> omega) hblk5
              have hgood5 : (rs ++ [(⟨0, 0, 0, 0, 0⟩ : Rq)]).all good = true := by
                rw [List.all_append, HG.out, Bool.true_and]
                simp only [List.all_cons, List.all_nil, Bool.and_true]
                exact by decide
              have HF := Lib.hid (And.intro hgood5 (And.intro q5.row (And.intro ((HM5.out.rdr.below (hb5.mono (by omega))).mono (show _ ≤ P + 1 + 7 * (rs.length + 1) by omega)) (And.intro (show w.grownBy w5 (some g) from ⟨hb5.os.trans HM5.out.grown.os, hb5.tape.trans HM5.out.grown.tape, hb5.output.trans HM5.out.grown.output, Nat.le_trans HM5.out.grown.size hb5.size, fun i hi hne => (hb5.block i (by omega)).trans (HM5.out.grown.block i hi hne)⟩) (And.intro ((hb5.block _ (by omega)).trans HM5.out.num) (Nat.le_trans hsW hb5.size))))))
              clear hblk5 hsW hb5 hgood5 q5 P11
              go_wp2_with fail
              go_roundw
              case rel => exact ⟨rs ++ [⟨0, 0, 0, 0, 0⟩], a5, cap5, m - 1, ns.set j 1, by go_num, by rw [List.length_append]; simp; omega, by simp, HF.out.1, HF.out.2.1, by rw [List.length_append]; exact HF.out.2.2.1, HF.out.2.2.2.1, by simp [HNL.out], fun u hu => (List.mem_or_eq_of_mem_set hu).elim (HNB.out u) (fun e => by omega), HF.out.2.2.2.2.1, HF.out.2.2.2.2.2⟩
              case measure => simp [intOf]; omega
            · have P11 := Lib.hid (HM4.out.row.alloc (.cells #[.int .i64 (↑j + 1), .int .i64 1, .int .i64 1, .int .i64 0, .int .i64 0] 79))
              have cX := cell_of_block HM4.out.ask
              have hsW5 : w.heap.size + 2 ≤ w4.heap.size := by have := lt_of_block HM4.out.ask; omega
              go_wp2_with (at_builtin; refine wpList_append_row rfl _ _ rfl (rs.length + 1) eltReq rfl rfl P11.out (rowsAt_req _ ⟨(↑j + 1), 1, 1, 0, 0⟩ _) rfl rfl rfl (by simp only [maxLen]; omega) (by omega) (by simp <;> omega) ?_)
              intro a5 cap5 w5 q5
              clear cX
              have hblk5 : ∀ g', rowBlk a' cap' = some g' → w.heap.size + 2 ≤ g' := fun g' hg' => (HM4.out.row.blk hg').1
              have hsW : w.heap.size + 2 ≤ w4.heap.size := by have := lt_of_block HM4.out.ask; omega
              have hb5 : Below (w.heap.size + 2) w4 w5 := Below.grown ((Below.refl _ _).alloc hsW _) q5.grown (by simp <;> omega) hblk5
              have hgood5 : (rs ++ [(⟨(↑j + 1), 1, 1, 0, 0⟩ : Rq)]).all good = true := by
                rw [List.all_append, HG.out, Bool.true_and]
                simp only [List.all_cons, List.all_nil, Bool.and_true]
                exact good_of_ok (ok_join HOK.out)
              have HF := Lib.hid (And.intro hgood5 (And.intro q5.row (And.intro ((HM4.out.rdr.below (hb5.mono (by omega))).mono (show _ ≤ P + 1 + 7 * (rs.length + 1) by omega)) (And.intro (show w.grownBy w5 (some g) from ⟨hb5.os.trans HM4.out.grown.os, hb5.tape.trans HM4.out.grown.tape, hb5.output.trans HM4.out.grown.output, Nat.le_trans HM4.out.grown.size hb5.size, fun i hi hne => (hb5.block i (by omega)).trans (HM4.out.grown.block i hi hne)⟩) (And.intro ((hb5.block _ (by omega)).trans HM4.out.num) (Nat.le_trans hsW hb5.size))))))
              clear hblk5 hsW hb5 hgood5 q5 P11
              go_wp2_with fail
              go_roundw
              case rel => exact ⟨rs ++ [⟨(↑j + 1), 1, 1, 0, 0⟩], a5, cap5, m - 1, ns.set j 1, by go_num, by rw [List.length_append]; simp; omega, by simp, HF.out.1, HF.out.2.1, by rw [List.length_append]; exact HF.out.2.2.1, HF.out.2.2.2.1, by simp [HNL.out], fun u hu => (List.mem_or_eq_of_mem_set hu).elim (HNB.out u) (fun e => by omega), HF.out.2.2.2.2.1, HF.out.2.2.2.2.2⟩
              case measure => simp [intOf]; omega
          · have hv1 : v + 1 ≠ 1 := by omega
            go_wp2_with fail
            refine call_ex (fun V hV => ?_)
            have HM := Lib.hid (show Mid w V g (w.heap.size + 1) w2.heap.size (P + 1 + 7 * rs.length + 5 + 1) #[.int .i64 (↑j + 1), .int .i64 (v + 1), .int .i64 o, .int .i64 x, .int .i64 y] (ns.set j (v + 1)) a' cap' rs from hV ▸ (HM3.out.cellNum j (v + 1) hl2 hgN hwN).cellAsk 1 (.int .i64 (v + 1)) hl2 hgN hwX)
            clear hV HM3 cX cN fX fN
            refine (pick_c V g _ 12 HM.out.rdr (by omega) (by omega)).mono ?_
            rintro e w4 ⟨p12, rfl, a12, -, -, r4, k4⟩
            have HM4 := Lib.hid (HM.out.read k4 r4 hl2 hgN)
            clear r4 k4 HM
            by_cases h12 : p12 = 0
            · subst h12
              go_wp2_with (first
                | (refine wpList_store_rowTo rfl 79 _ _ rfl rfl w2.heap.size #[.int .i64 0, .int .i64 0, .int .i64 0, .int .i64 0, .int .i64 0] rfl rfl 79 _ HM4.out.ask (by kernel_rfl) rfl (by first | kernel_rfl | simp [Value.oneCell']) ?_
                   obtain ⟨V5, hV5, vx, vo, vs, v1, v2, v3⟩ := rowStored HM4.out.ask #[.int .i64 0, .int .i64 0, .int .i64 0, .int .i64 0, .int .i64 0]
                   rw [← hV5]
                   have HM5 := Lib.hid (HM4.out.setAsk vx vo vs v1 v2 v3 hl2 hgN hwX)
                   clear hV5 vx vo vs v1 v2 v3
                   have cX := cell_of_block HM5.out.ask
                   have hsW5 : w.heap.size + 2 ≤ V5.heap.size := by have := lt_of_block HM5.out.ask; omega
                   have P11 := Lib.hid (HM5.out.row.alloc (.cells #[.int .i64 0, .int .i64 0, .int .i64 0, .int .i64 0, .int .i64 0] 79))
                   go_wp2_with (at_builtin; refine wpList_append_row rfl _ _ rfl (rs.length + 1) eltReq rfl rfl P11.out (rowsAt_req _ ⟨0, 0, 0, 0, 0⟩ _) rfl rfl rfl (by simp only [maxLen]; omega) (by omega) (by simp <;> omega) ?_)))
              intro a5 cap5 w5 q5
              clear cX
              have hblk5 : ∀ g', rowBlk a' cap' = some g' → w.heap.size + 2 ≤ g' := fun g' hg' => (HM5.out.row.blk hg').1
              have hsW : w.heap.size + 2 ≤ V5.heap.size := by have := lt_of_block HM5.out.ask; omega
              have hb5 : Below (w.heap.size + 2) V5 w5 := Below.grown ((Below.refl _ _).alloc hsW _) q5.grown (by simp <;> omega) hblk5
              have hgood5 : (rs ++ [(⟨0, 0, 0, 0, 0⟩ : Rq)]).all good = true := by
                rw [List.all_append, HG.out, Bool.true_and]
                simp only [List.all_cons, List.all_nil, Bool.and_true]
                exact by decide
              have HF := Lib.hid (And.intro hgood5 (And.intro q5.row (And.intro ((HM5.out.rdr.below (hb5.mono (by omega))).mono (show _ ≤ P + 1 + 7 * (rs.length + 1) by omega)) (And.intro (show w.grownBy w5 (some g) from ⟨hb5.os.trans HM5.out.grown.os, hb5.tape.trans HM5.out.grown.tape, hb5.output.trans HM5.out.grown.output, Nat.le_trans HM5.out.grown.size hb5.size, fun i hi hne => (hb5.block i (by omega)).trans (HM5.out.grown.block i hi hne)⟩) (And.intro ((hb5.block _ (by omega)).trans HM5.out.num) (Nat.le_trans hsW hb5.size))))))
              clear hblk5 hsW hb5 hgood5 q5 P11
              go_wp2_with fail
              go_roundw
              case rel => exact ⟨rs ++ [⟨0, 0, 0, 0, 0⟩], a5, cap5, m - 1, ns.set j (v + 1), by go_num, by rw [List.length_append]; simp; omega, by simp, HF.out.1, HF.out.2.1, by rw [List.length_append]; exact HF.out.2.2.1, HF.out.2.2.2.1, by simp [HNL.out], fun u hu => (List.mem_or_eq_of_mem_set hu).elim (HNB.out u) (fun e => by omega), HF.out.2.2.2.2.1, HF.out.2.2.2.2.2⟩
              case measure => simp [intOf]; omega
            · have P11 := Lib.hid (HM4.out.row.alloc (.cells #[.int .i64 (↑j + 1), .int .i64 (v + 1), .int .i64 o, .int .i64 x, .int .i64 y] 79))
              have cX := cell_of_block HM4.out.ask
              have hsW5 : w.heap.size + 2 ≤ w4.heap.size := by have := lt_of_block HM4.out.ask; omega
              go_wp2_with (at_builtin; refine wpList_append_row rfl _ _ rfl (rs.length + 1) eltReq rfl rfl P11.out (rowsAt_req _ ⟨(↑j + 1), (v + 1), o, x, y⟩ _) rfl rfl rfl (by simp only [maxLen]; omega) (by omega) (by simp <;> omega) ?_)
              intro a5 cap5 w5 q5
              clear cX
              have hblk5 : ∀ g', rowBlk a' cap' = some g' → w.heap.size + 2 ≤ g' := fun g' hg' => (HM4.out.row.blk hg').1
              have hsW : w.heap.size + 2 ≤ w4.heap.size := by have := lt_of_block HM4.out.ask; omega
              have hb5 : Below (w.heap.size + 2) w4 w5 := Below.grown ((Below.refl _ _).alloc hsW _) q5.grown (by simp <;> omega) hblk5
              have hgood5 : (rs ++ [(⟨(↑j + 1), (v + 1), o, x, y⟩ : Rq)]).all good = true := by
                rw [List.all_append, HG.out, Bool.true_and]
                simp only [List.all_cons, List.all_nil, Bool.and_true]
                exact good_of_ok (ok_num HOK.out (by omega) (by omega))
              have HF := Lib.hid (And.intro hgood5 (And.intro q5.row (And.intro ((HM4.out.rdr.below (hb5.mono (by omega))).mono (show _ ≤ P + 1 + 7 * (rs.length + 1) by omega)) (And.intro (show w.grownBy w5 (some g) from ⟨hb5.os.trans HM4.out.grown.os, hb5.tape.trans HM4.out.grown.tape, hb5.output.trans HM4.out.grown.output, Nat.le_trans HM4.out.grown.size hb5.size, fun i hi hne => (hb5.block i (by omega)).trans (HM4.out.grown.block i hi hne)⟩) (And.intro ((hb5.block _ (by omega)).trans HM4.out.num) (Nat.le_trans hsW hb5.size))))))
              clear hblk5 hsW hb5 hgood5 q5 P11
              go_wp2_with fail
              go_roundw
              case rel => exact ⟨rs ++ [⟨(↑j + 1), (v + 1), o, x, y⟩], a5, cap5, m - 1, ns.set j (v + 1), by go_num, by rw [List.length_append]; simp; omega, by simp, HF.out.1, HF.out.2.1, by rw [List.length_append]; exact HF.out.2.2.1, HF.out.2.2.2.1, by simp [HNL.out], fun u hu => (List.mem_or_eq_of_mem_set hu).elim (HNB.out u) (fun e => by omega), HF.out.2.2.2.2.1, HF.out.2.2.2.2.2⟩
              case measure => simp [intOf]; omega
        · by_cases hv0 : v = 0
          · subst hv0
            by_cases hn1 : n = 1
            · subst hn1
              have HS := Lib.hid (HM3.out)
              go_wp2_with (first
                | (refine wpList_store_rowTo rfl 79 _ _ rfl rfl w2.heap.size #[.int .i64 (↑j + 1), .int .i64 1, .int .i64 1, .int .i64 0, .int .i64 0] rfl rfl 79 _ HS.out.ask (by kernel_rfl) (by first | rfl | simp) (by first | kernel_rfl | simp [Value.oneCell']) ?_
                   obtain ⟨V, hV, vx, vo, vs, v1, v2, v3⟩ := rowStored HS.out.ask #[.int .i64 (↑j + 1), .int .i64 1, .int .i64 1, .int .i64 0, .int .i64 0]
                   rw [← hV]
                   have HM := Lib.hid (HS.out.setAsk vx vo vs v1 v2 v3 hl2 hgN hwX)
                   clear hV vx vo vs v1 v2 v3
                   go_wp2_with fail))
              clear HS HM3 cX cN fX fN
              refine (pick_c V g _ 12 HM.out.rdr (by omega) (by omega)).mono ?_
              rintro e w4 ⟨p12, rfl, a12, -, -, r4, k4⟩
              have HM4 := Lib.hid (HM.out.read k4 r4 hl2 hgN)
              clear r4 k4 HM
              by_cases h12 : p12 = 0
              · subst h12
                go_wp2_with (first
                  | (refine wpList_store_rowTo rfl 79 _ _ rfl rfl w2.heap.size #[.int .i64 0, .int .i64 0, .int .i64 0, .int .i64 0, .int .i64 0] rfl rfl 79 _ HM4.out.ask (by kernel_rfl) rfl (by first | kernel_rfl | simp [Value.oneCell']) ?_
                     obtain ⟨V5, hV5, vx, vo, vs, v1, v2, v3⟩ := rowStored HM4.out.ask #[.int .i64 0, .int .i64 0, .int .i64 0, .int .i64 0, .int .i64 0]
                     rw [← hV5]
                     have HM5 := Lib.hid (HM4.out.setAsk vx vo vs v1 v2 v3 hl2 hgN hwX)
                     clear hV5 vx vo vs v1 v2 v3
                     have cX := cell_of_block HM5.out.ask
                     have hsW5 : w.heap.size + 2 ≤ V5.heap.size := by have := lt_of_block HM5.out.ask; omega
                     have P11 := Lib.hid (HM5.out.row.alloc (.cells #[.int .i64 0, .int .i64 0, .int .i64 0, .int .i64 0, .int .i64 0] 79))
                     go_wp2_with (at_builtin; refine wpList_append_row rfl _ _ rfl (rs.length + 1) eltReq rfl rfl P11.out (rowsAt_req _ ⟨0, 0, 0, 0, 0⟩ _) rfl rfl rfl (by simp only [maxLen]; omega) (by omega) (by simp <;> omega) ?_)))
                intro a5 cap5 w5 q5
                clear cX
                have hblk5 : ∀ g', rowBlk a' cap' = some g' → w.heap.size + 2 ≤ g' := fun g' hg' => (HM5.out.row.blk hg').1
                have hsW : w.heap.size + 2 ≤ V5.heap.size := by have := lt_of_block HM5.out.ask; omega
                have hb5 : Below (w.heap.size + 2) V5 w5 := Below.grown ((Below.refl _ _).alloc hsW _) q5.grown (by simp <;> omega) hblk5
                have hgood5 : (rs ++ [(⟨0, 0, 0, 0, 0⟩ : Rq)]).all good = true := by
                  rw [List.all_append, HG.out, Bool.true_and]
                  simp only [List.all_cons, List.all_nil, Bool.and_true]
                  exact by decide
                have HF := Lib.hid (And.intro hgood5 (And.intro q5.row (And.intro ((HM5.out.rdr.below (hb5.mono (by omega))).mono (show _ ≤ P + 1 + 7 * (rs.length + 1) by omega)) (And.intro (show w.grownBy w5 (some g) from ⟨hb5.os.trans HM5.out.grown.os, hb5.tape.trans HM5.out.grown.tape, hb5.output.trans HM5.out.grown.output, Nat.le_trans HM5.out.grown.size hb5.size, fun i hi hne => (hb5.block i (by omega)).trans (HM5.out.grown.block i hi hne)⟩) (And.intro ((hb5.block _ (by omega)).trans HM5.out.num) (Nat.le_trans hsW hb5.size))))))
                clear hblk5 hsW hb5 hgood5 q5 P11
                go_wp2_with fail
                go_roundw
                case rel => exact ⟨rs ++ [⟨0, 0, 0, 0, 0⟩], a5, cap5, m - 1, ns, by go_num, by rw [List.length_append]; simp; omega, by simp, HF.out.1, HF.out.2.1, by rw [List.length_append]; exact HF.out.2.2.1, HF.out.2.2.2.1, HNL.out, HNB.out, HF.out.2.2.2.2.1, HF.out.2.2.2.2.2⟩
                case measure => simp [intOf]; omega
              · have P11 := Lib.hid (HM4.out.row.alloc (.cells #[.int .i64 (↑j + 1), .int .i64 1, .int .i64 1, .int .i64 0, .int .i64 0] 79))
                have cX := cell_of_block HM4.out.ask
                have hsW5 : w.heap.size + 2 ≤ w4.heap.size := by have := lt_of_block HM4.out.ask; omega
                go_wp2_with (at_builtin; refine wpList_append_row rfl _ _ rfl (rs.length + 1) eltReq rfl rfl P11.out (rowsAt_req _ ⟨(↑j + 1), 1, 1, 0, 0⟩ _) rfl rfl rfl (by simp only [maxLen]; omega) (by omega) (by simp <;> omega) ?_)
                intro a5 cap5 w5 q5
                clear cX
                have hblk5 : ∀ g', rowBlk a' cap' = some g' → w.heap.size + 2 ≤ g' := fun g' hg' => (HM4.out.row.blk hg').1
                have hsW : w.heap.size + 2 ≤ w4.heap.size := by have := lt_of_block HM4.out.ask; omega
                have hb5 : Below (w.heap.size + 2) w4 w5 := Below.grown ((Below.refl _ _).alloc hsW _) q5.grown (by simp <;> omega) hblk5
                have hgood5 : (rs ++ [(⟨(↑j + 1), 1, 1, 0, 0⟩ : Rq)]).all good = true := by
                  rw [List.all_append, HG.out, Bool.true_and]
                  simp only [List.all_cons, List.all_nil, Bool.and_true]
                  exact good_of_ok (ok_join HOK.out)
                have HF := Lib.hid (And.intro hgood5 (And.intro q5.row (And.intro ((HM4.out.rdr.below (hb5.mono (by omega))).mono (show _ ≤ P + 1 + 7 * (rs.length + 1) by omega)) (And.intro (show w.grownBy w5 (some g) from ⟨hb5.os.trans HM4.out.grown.os, hb5.tape.trans HM4.out.grown.tape, hb5.output.trans HM4.out.grown.output, Nat.le_trans HM4.out.grown.size hb5.size, fun i hi hne => (hb5.block i (by omega)).trans (HM4.out.grown.block i hi hne)⟩) (And.intro ((hb5.block _ (by omega)).trans HM4.out.num) (Nat.le_trans hsW hb5.size))))))
                clear hblk5 hsW hb5 hgood5 q5 P11
                go_wp2_with fail
                go_roundw
                case rel => exact ⟨rs ++ [⟨(↑j + 1), 1, 1, 0, 0⟩], a5, cap5, m - 1, ns, by go_num, by rw [List.length_append]; simp; omega, by simp, HF.out.1, HF.out.2.1, by rw [List.length_append]; exact HF.out.2.2.1, HF.out.2.2.2.1, HNL.out, HNB.out, HF.out.2.2.2.2.1, HF.out.2.2.2.2.2⟩
                case measure => simp [intOf]; omega
            · go_wp2_with fail
              refine call_ex (fun V hV => ?_)
              have HM := Lib.hid (show Mid w V g (w.heap.size + 1) w2.heap.size (P + 1 + 7 * rs.length + 5 + 1) #[.int .i64 (↑j + 1), .int .i64 n, .int .i64 o, .int .i64 x, .int .i64 y] (ns) a' cap' rs from hV ▸ HM3.out)
              clear hV HM3 cX cN fX fN
              refine (pick_c V g _ 12 HM.out.rdr (by omega) (by omega)).mono ?_
              rintro e w4 ⟨p12, rfl, a12, -, -, r4, k4⟩
              have HM4 := Lib.hid (HM.out.read k4 r4 hl2 hgN)
              clear r4 k4 HM
              by_cases h12 : p12 = 0
              · subst h12
                go_wp2_with (first
                  | (refine wpList_store_rowTo rfl 79 _ _ rfl rfl w2.heap.size #[.int .i64 0, .int .i64 0, .int .i64 0, .int .i64 0, .int .i64 0] rfl rfl 79 _ HM4.out.ask (by kernel_rfl) rfl (by first | kernel_rfl | simp [Value.oneCell']) ?_
                     obtain ⟨V5, hV5, vx, vo, vs, v1, v2, v3⟩ := rowStored HM4.out.ask #[.int .i64 0, .int .i64 0, .int .i64 0, .int .i64 0, .int .i64 0]
                     rw [← hV5]
                     have HM5 := Lib.hid (HM4.out.setAsk vx vo vs v1 v2 v3 hl2 hgN hwX)
                     clear hV5 vx vo vs v1 v2 v3
                     have cX := cell_of_block HM5.out.ask
                     have hsW5 : w.heap.size + 2 ≤ V5.heap.size := by have := lt_of_block HM5.out.ask; omega
                     have P11 := Lib.hid (HM5.out.row.alloc (.cells #[.int .i64 0, .int .i64 0, .int .i64 0, .int .i64 0, .int .i64 0] 79))
                     go_wp2_with (at_builtin; refine wpList_append_row rfl _ _ rfl (rs.length + 1) eltReq rfl rfl P11.out (rowsAt_req _ ⟨0, 0, 0, 0, 0⟩ _) rfl rfl rfl (by simp only [maxLen]; omega) (by omega) (by simp <;> omega) ?_)))
                intro a5 cap5 w5 q5
                clear cX
                have hblk5 : ∀ g', rowBlk a' cap' = some g' → w.heap.size + 2 ≤ g' := fun g' hg' => (HM5.out.row.blk hg').1
                have hsW : w.heap.size + 2 ≤ V5.heap.size := by have := lt_of_block HM5.out.ask; omega
                have hb5 : Below (w.heap.size + 2) V5 w5 := Below.grown ((Below.refl _ _).alloc hsW _) q5.grown (by simp <;> omega) hblk5
                have hgood5 : (rs ++ [(⟨0, 0, 0, 0, 0⟩ : Rq)]).all good = true := by
                  rw [List.all_append, HG.out, Bool.true_and]
                  simp only [List.all_cons, List.all_nil, Bool.and_true]
                  exact by decide
                have HF := Lib.hid (And.intro hgood5 (And.intro q5.row (And.intro ((HM5.out.rdr.below (hb5.mono (by omega))).mono (show _ ≤ P + 1 + 7 * (rs.length + 1) by omega)) (And.intro (show w.grownBy w5 (some g) from ⟨hb5.os.trans HM5.out.grown.os, hb5.tape.trans HM5.out.grown.tape, hb5.output.trans HM5.out.grown.output, Nat.le_trans HM5.out.grown.size hb5.size, fun i hi hne => (hb5.block i (by omega)).trans (HM5.out.grown.block i hi hne)⟩) (And.intro ((hb5.block _ (by omega)).trans HM5.out.num) (Nat.le_trans hsW hb5.size))))))
                clear hblk5 hsW hb5 hgood5 q5 P11
                go_wp2_with fail
                go_roundw
                case rel => exact ⟨rs ++ [⟨0, 0, 0, 0, 0⟩], a5, cap5, m - 1, ns, by go_num, by rw [List.length_append]; simp; omega, by simp, HF.out.1, HF.out.2.1, by rw [List.length_append]; exact HF.out.2.2.1, HF.out.2.2.2.1, HNL.out, HNB.out, HF.out.2.2.2.2.1, HF.out.2.2.2.2.2⟩
                case measure => simp [intOf]; omega
              · have P11 := Lib.hid (HM4.out.row.alloc (.cells #[.int .i64 (↑j + 1), .int .i64 n, .int .i64 o, .int .i64 x, .int .i64 y] 79))
                have cX := cell_of_block HM4.out.ask
                have hsW5 : w.heap.size + 2 ≤ w4.heap.size := by have := lt_of_block HM4.out.ask; omega
                go_wp2_with (at_builtin; refine wpList_append_row rfl _ _ rfl (rs.length + 1) eltReq rfl rfl P11.out (rowsAt_req _ ⟨(↑j + 1), n, o, x, y⟩ _) rfl rfl rfl (by simp only [maxLen]; omega) (by omega) (by simp <;> omega) ?_)
                intro a5 cap5 w5 q5
                clear cX
                have hblk5 : ∀ g', rowBlk a' cap' = some g' → w.heap.size + 2 ≤ g' := fun g' hg' => (HM4.out.row.blk hg').1
                have hsW : w.heap.size + 2 ≤ w4.heap.size := by have := lt_of_block HM4.out.ask; omega
                have hb5 : Below (w.heap.size + 2) w4 w5 := Below.grown ((Below.refl _ _).alloc hsW _) q5.grown (by simp <;> omega) hblk5
                have hgood5 : (rs ++ [(⟨(↑j + 1), n, o, x, y⟩ : Rq)]).all good = true := by
                  rw [List.all_append, HG.out, Bool.true_and]
                  simp only [List.all_cons, List.all_nil, Bool.and_true]
                  exact good_of_ok HOK.out
                have HF := Lib.hid (And.intro hgood5 (And.intro q5.row (And.intro ((HM4.out.rdr.below (hb5.mono (by omega))).mono (show _ ≤ P + 1 + 7 * (rs.length + 1) by omega)) (And.intro (show w.grownBy w5 (some g) from ⟨hb5.os.trans HM4.out.grown.os, hb5.tape.trans HM4.out.grown.tape, hb5.output.trans HM4.out.grown.output, Nat.le_trans HM4.out.grown.size hb5.size, fun i hi hne => (hb5.block i (by omega)).trans (HM4.out.grown.block i hi hne)⟩) (And.intro ((hb5.block _ (by omega)).trans HM4.out.num) (Nat.le_trans hsW hb5.size))))))
                clear hblk5 hsW hb5 hgood5 q5 P11
                go_wp2_with fail
                go_roundw
                case rel => exact ⟨rs ++ [⟨(↑j + 1), n, o, x, y⟩], a5, cap5, m - 1, ns, by go_num, by rw [List.length_append]; simp; omega, by simp, HF.out.1, HF.out.2.1, by rw [List.length_append]; exact HF.out.2.2.1, HF.out.2.2.2.1, HNL.out, HNB.out, HF.out.2.2.2.2.1, HF.out.2.2.2.2.2⟩
                case measure => simp [intOf]; omega
          · by_cases hv1 : v = 1
            · subst hv1
              have HS := Lib.hid ((HM3.out).cellAsk 1 (.int .i64 1) hl2 hgN hwX)
              go_wp2_with (first
                | (refine wpList_store_rowTo rfl 79 _ _ rfl rfl w2.heap.size #[.int .i64 (↑j + 1), .int .i64 1, .int .i64 1, .int .i64 0, .int .i64 0] rfl rfl 79 _ HS.out.ask (by kernel_rfl) (by first | rfl | simp) (by first | kernel_rfl | simp [Value.oneCell']) ?_
                   obtain ⟨V, hV, vx, vo, vs, v1, v2, v3⟩ := rowStored HS.out.ask #[.int .i64 (↑j + 1), .int .i64 1, .int .i64 1, .int .i64 0, .int .i64 0]
                   rw [← hV]
                   have HM := Lib.hid (HS.out.setAsk vx vo vs v1 v2 v3 hl2 hgN hwX)
                   clear hV vx vo vs v1 v2 v3
                   go_wp2_with fail))
              clear HS HM3 cX cN fX fN
              refine (pick_c V g _ 12 HM.out.rdr (by omega) (by omega)).mono ?_
              rintro e w4 ⟨p12, rfl, a12, -, -, r4, k4⟩
              have HM4 := Lib.hid (HM.out.read k4 r4 hl2 hgN)
              clear r4 k4 HM
              by_cases h12 : p12 = 0
              · subst h12
                go_wp2_with (first
                  | (refine wpList_store_rowTo rfl 79 _ _ rfl rfl w2.heap.size #[.int .i64 0, .int .i64 0, .int .i64 0, .int .i64 0, .int .i64 0] rfl rfl 79 _ HM4.out.ask (by kernel_rfl) rfl (by first | kernel_rfl | simp [Value.oneCell']) ?_
                     obtain ⟨V5, hV5, vx, vo, vs, v1, v2, v3⟩ := rowStored HM4.out.ask #[.int .i64 0, .int .i64 0, .int .i64 0, .int .i64 0, .int .i64 0]
                     rw [← hV5]
                     have HM5 := Lib.hid (HM4.out.setAsk vx vo vs v1 v2 v3 hl2 hgN hwX)
                     clear hV5 vx vo vs v1 v2 v3
                     have cX := cell_of_block HM5.out.ask
                     have hsW5 : w.heap.size + 2 ≤ V5.heap.size := by have := lt_of_block HM5.out.ask; omega
                     have P11 := Lib.hid (HM5.out.row.alloc (.cells #[.int .i64 0, .int .i64 0, .int .i64 0, .int .i64 0, .int .i64 0] 79))
                     go_wp2_with (at_builtin; refine wpList_append_row rfl _ _ rfl (rs.length + 1) eltReq rfl rfl P11.out (rowsAt_req _ ⟨0, 0, 0, 0, 0⟩ _) rfl rfl rfl (by simp only [maxLen]; omega) (by omega) (by simp <;> omega) ?_)))
                intro a5 cap5 w5 q5
                clear cX
                have hblk5 : ∀ g', rowBlk a' cap' = some g' → w.heap.size + 2 ≤ g' := fun g' hg' => (HM5.out.row.blk hg').1
                have hsW : w.heap.size + 2 ≤ V5.heap.size := by have := lt_of_block HM5.out.ask; omega
                have hb5 : Below (w.heap.size + 2) V5 w5 := Below.grown ((Below.refl _ _).alloc hsW _) q5.grown (by simp <;> omega) hblk5
                have hgood5 : (rs ++ [(⟨0, 0, 0, 0, 0⟩ : Rq)]).all good = true := by
                  rw [List.all_append, HG.out, Bool.true_and]
                  simp only [List.all_cons, List.all_nil, Bool.and_true]
                  exact by decide
                have HF := Lib.hid (And.intro hgood5 (And.intro q5.row (And.intro ((HM5.out.rdr.below (hb5.mono (by omega))).mono (show _ ≤ P + 1 + 7 * (rs.length + 1) by omega)) (And.intro (show w.grownBy w5 (some g) from ⟨hb5.os.trans HM5.out.grown.os, hb5.tape.trans HM5.out.grown.tape, hb5.output.trans HM5.out.grown.output, Nat.le_trans HM5.out.grown.size hb5.size, fun i hi hne => (hb5.block i (by omega)).trans (HM5.out.grown.block i hi hne)⟩) (And.intro ((hb5.block _ (by omega)).trans HM5.out.num) (Nat.le_trans hsW hb5.size))))))
                clear hblk5 hsW hb5 hgood5 q5 P11
                go_wp2_with fail
                go_roundw
                case rel => exact ⟨rs ++ [⟨0, 0, 0, 0, 0⟩], a5, cap5, m - 1, ns, by go_num, by rw [List.length_append]; simp; omega, by simp, HF.out.1, HF.out.2.1, by rw [List.length_append]; exact HF.out.2.2.1, HF.out.2.2.2.1, HNL.out, HNB.out, HF.out.2.2.2.2.1, HF.out.2.2.2.2.2⟩
                case measure => simp [intOf]; omega
              · have P11 := Lib.hid (HM4.out.row.alloc (.cells #[.int .i64 (↑j + 1), .int .i64 1, .int .i64 1, .int .i64 0, .int .i64 0] 79))
                have cX := cell_of_block HM4.out.ask
                have hsW5 : w.heap.size + 2 ≤ w4.heap.size := by have := lt_of_block HM4.out.ask; omega
                go_wp2_with (at_builtin; refine wpList_append_row rfl _ _ rfl (rs.length + 1) eltReq rfl rfl P11.out (rowsAt_req _ ⟨(↑j + 1), 1, 1, 0, 0⟩ _) rfl rfl rfl (by simp only [maxLen]; omega) (by omega) (by simp <;> omega) ?_)
                intro a5 cap5 w5 q5
                clear cX
                have hblk5 : ∀ g', rowBlk a' cap' = some g' → w.heap.size + 2 ≤ g' := fun g' hg' => (HM4.out.row.blk hg').1
                have hsW : w.heap.size + 2 ≤ w4.heap.size := by have := lt_of_block HM4.out.ask; omega
                have hb5 : Below (w.heap.size + 2) w4 w5 := Below.grown ((Below.refl _ _).alloc hsW _) q5.grown (by simp <;> omega) hblk5
                have hgood5 : (rs ++ [(⟨(↑j + 1), 1, 1, 0, 0⟩ : Rq)]).all good = true := by
                  rw [List.all_append, HG.out, Bool.true_and]
                  simp only [List.all_cons, List.all_nil, Bool.and_true]
                  exact good_of_ok (ok_join HOK.out)
                have HF := Lib.hid (And.intro hgood5 (And.intro q5.row (And.intro ((HM4.out.rdr.below (hb5.mono (by omega))).mono (show _ ≤ P + 1 + 7 * (rs.length + 1) by omega)) (And.intro (show w.grownBy w5 (some g) from ⟨hb5.os.trans HM4.out.grown.os, hb5.tape.trans HM4.out.grown.tape, hb5.output.trans HM4.out.grown.output, Nat.le_trans HM4.out.grown.size hb5.size, fun i hi hne => (hb5.block i (by omega)).trans (HM4.out.grown.block i hi hne)⟩) (And.intro ((hb5.block _ (by omega)).trans HM4.out.num) (Nat.le_trans hsW hb5.size))))))
                clear hblk5 hsW hb5 hgood5 q5 P11
                go_wp2_with fail
                go_roundw
                case rel => exact ⟨rs ++ [⟨(↑j + 1), 1, 1, 0, 0⟩], a5, cap5, m - 1, ns, by go_num, by rw [List.length_append]; simp; omega, by simp, HF.out.1, HF.out.2.1, by rw [List.length_append]; exact HF.out.2.2.1, HF.out.2.2.2.1, HNL.out, HNB.out, HF.out.2.2.2.2.1, HF.out.2.2.2.2.2⟩
                case measure => simp [intOf]; omega
            · go_wp2_with fail
              refine call_ex (fun V hV => ?_)
              have HM := Lib.hid (show Mid w V g (w.heap.size + 1) w2.heap.size (P + 1 + 7 * rs.length + 5 + 1) #[.int .i64 (↑j + 1), .int .i64 v, .int .i64 o, .int .i64 x, .int .i64 y] (ns) a' cap' rs from hV ▸ (HM3.out).cellAsk 1 (.int .i64 v) hl2 hgN hwX)
              clear hV HM3 cX cN fX fN
              refine (pick_c V g _ 12 HM.out.rdr (by omega) (by omega)).mono ?_
              rintro e w4 ⟨p12, rfl, a12, -, -, r4, k4⟩
              have HM4 := Lib.hid (HM.out.read k4 r4 hl2 hgN)
              clear r4 k4 HM
              by_cases h12 : p12 = 0
              · subst h12
                go_wp2_with (first
                  | (refine wpList_store_rowTo rfl 79 _ _ rfl rfl w2.heap.size #[.int .i64 0, .int .i64 0, .int .i64 0, .int .i64 0, .int .i64 0] rfl rfl 79 _ HM4.out.ask (by kernel_rfl) rfl (by first | kernel_rfl | simp [Value.oneCell']) ?_
                     obtain ⟨V5, hV5, vx, vo, vs, v1, v2, v3⟩ := rowStored HM4.out.ask #[.int .i64 0, .int .i64 0, .int .i64 0, .int .i64 0, .int .i64 0]
                     rw [← hV5]
                     have HM5 := Lib.hid (HM4.out.setAsk vx vo vs v1 v2 v3 hl2 hgN hwX)
                     clear hV5 vx vo vs v1 v2 v3
                     have cX := cell_of_block HM5.out.ask
                     have hsW5 : w.heap.size + 2 ≤ V5.heap.size := by have := lt_of_block HM5.out.ask; omega
                     have P11 := Lib.hid (HM5.out.row.alloc (.cells #[.int .i64 0, .int .i64 0, .int .i64 0, .int .i64 0, .int .i64 0] 79))
                     go_wp2_with (at_builtin; refine wpList_append_row rfl _ _ rfl (rs.length + 1) eltReq rfl rfl P11.out (rowsAt_req _ ⟨0, 0, 0, 0, 0⟩ _) rfl rfl rfl (by simp only [maxLen]; omega) (by omega) (by simp <;> omega) ?_)))
                intro a5 cap5 w5 q5
                clear cX
                have hblk5 : ∀ g', rowBlk a' cap' = some g' → w.heap.size + 2 ≤ g' := fun g' hg' => (HM5.out.row.blk hg').1
                have hsW : w.heap.size + 2 ≤ V5.heap.size := by have := lt_of_block HM5.out.ask; omega
                have hb5 : Below (w.heap.size + 2) V5 w5 := Below.grown ((Below.refl _ _).alloc hsW _) q5.grown (by simp <;> omega) hblk5
                have hgood5 : (rs ++ [(⟨0, 0, 0, 0, 0⟩ : Rq)]).all good = true := by
                  rw [List.all_append, HG.out, Bool.true_and]
                  simp only [List.all_cons, List.all_nil, Bool.and_true]
                  exact by decide
                have HF := Lib.hid (And.intro hgood5 (And.intro q5.row (And.intro ((HM5.out.rdr.below (hb5.mono (by omega))).mono (show _ ≤ P + 1 + 7 * (rs.length + 1) by omega)) (And.intro (show w.grownBy w5 (some g) from ⟨hb5.os.trans HM5.out.grown.os, hb5.tape.trans HM5.out.grown.tape, hb5.output.trans HM5.out.grown.output, Nat.le_trans HM5.out.grown.size hb5.size, fun i hi hne => (hb5.block i (by omega)).trans (HM5.out.grown.block i hi hne)⟩) (And.intro ((hb5.block _ (by omega)).trans HM5.out.num) (Nat.le_trans hsW hb5.size))))))
                clear hblk5 hsW hb5 hgood5 q5 P11
                go_wp2_with fail
                go_roundw
                case rel => exact ⟨rs ++ [⟨0, 0, 0, 0, 0⟩], a5, cap5, m - 1, ns, by go_num, by rw [List.length_append]; simp; omega, by simp, HF.out.1, HF.out.2.1, by rw [List.length_append]; exact HF.out.2.2.1, HF.out.2.2.2.1, HNL.out, HNB.out, HF.out.2.2.2.2.1, HF.out.2.2.2.2.2⟩
                case measure => simp [intOf]; omega
              · have P11 := Lib.hid (HM4.out.row.alloc (.cells #[.int .i64 (↑j + 1), .int .i64 v, .int .i64 o, .int .i64 x, .int .i64 y] 79))
                have cX := cell_of_block HM4.out.ask
                have hsW5 : w.heap.size + 2 ≤ w4.heap.size := by have := lt_of_block HM4.out.ask; omega
                go_wp2_with (at_builtin; refine wpList_append_row rfl _ _ rfl (rs.length + 1) eltReq rfl rfl P11.out (rowsAt_req _ ⟨(↑j + 1), v, o, x, y⟩ _) rfl rfl rfl (by simp only [maxLen]; omega) (by omega) (by simp <;> omega) ?_)
                intro a5 cap5 w5 q5
                clear cX
                have hblk5 : ∀ g', rowBlk a' cap' = some g' → w.heap.size + 2 ≤ g' := fun g' hg' => (HM4.out.row.blk hg').1
                have hsW : w.heap.size + 2 ≤ w4.heap.size := by have := lt_of_block HM4.out.ask; omega
                have hb5 : Below (w.heap.size + 2) w4 w5 := Below.grown ((Below.refl _ _).alloc hsW _) q5.grown (by simp <;> omega) hblk5
                have hgood5 : (rs ++ [(⟨(↑j + 1), v, o, x, y⟩ : Rq)]).all good = true := by
                  rw [List.all_append, HG.out, Bool.true_and]
                  simp only [List.all_cons, List.all_nil, Bool.and_true]
                  exact good_of_ok (ok_num HOK.out (by omega) (by omega))
                have HF := Lib.hid (And.intro hgood5 (And.intro q5.row (And.intro ((HM4.out.rdr.below (hb5.mono (by omega))).mono (show _ ≤ P + 1 + 7 * (rs.length + 1) by omega)) (And.intro (show w.grownBy w5 (some g) from ⟨hb5.os.trans HM4.out.grown.os, hb5.tape.trans HM4.out.grown.tape, hb5.output.trans HM4.out.grown.output, Nat.le_trans HM4.out.grown.size hb5.size, fun i hi hne => (hb5.block i (by omega)).trans (HM4.out.grown.block i hi hne)⟩) (And.intro ((hb5.block _ (by omega)).trans HM4.out.num) (Nat.le_trans hsW hb5.size))))))
                clear hblk5 hsW hb5 hgood5 q5 P11
                go_wp2_with fail
                go_roundw
                case rel => exact ⟨rs ++ [⟨(↑j + 1), v, o, x, y⟩], a5, cap5, m - 1, ns, by go_num, by rw [List.length_append]; simp; omega, by simp, HF.out.1, HF.out.2.1, by rw [List.length_append]; exact HF.out.2.2.1, HF.out.2.2.2.1, HNL.out, HNB.out, HF.out.2.2.2.2.1, HF.out.2.2.2.2.2⟩
                case measure => simp [intOf]; omega

      · have hv30' : 30 ≤ v := by omega
        go_wp2_with fail
        refine call_ex (fun V hV => ?_)
        have HM := Lib.hid (show Mid w V g (w.heap.size + 1) w2.heap.size (P + 1 + 7 * rs.length + 5) #[.int .i64 ((j : Int) + 1), .int .i64 v, .int .i64 o, .int .i64 x, .int .i64 y] ns a' cap' rs from hV ▸ HM2.out.reAlloc hl2 hgN hwX)
        clear hV
        refine (pick_c V g _ 12 HM.out.rdr (by omega) (by omega)).mono ?_
        rintro e w4 ⟨p12, rfl, a12, -, -, r4, k4⟩
        have HM4 := Lib.hid (HM.out.read k4 r4 hl2 hgN)
        clear r4 k4 HM
        by_cases h12 : p12 = 0
        · subst h12
          go_wp2_with (first
            | (refine wpList_store_rowTo rfl 79 _ _ rfl rfl w2.heap.size #[.int .i64 0, .int .i64 0, .int .i64 0, .int .i64 0, .int .i64 0] rfl rfl 79 _ HM4.out.ask (by kernel_rfl) rfl (by first | kernel_rfl | simp [Value.oneCell']) ?_
               obtain ⟨V5, hV5, vx, vo, vs, v1, v2, v3⟩ := rowStored HM4.out.ask #[.int .i64 0, .int .i64 0, .int .i64 0, .int .i64 0, .int .i64 0]
               rw [← hV5]
               have HM5 := Lib.hid (HM4.out.setAsk vx vo vs v1 v2 v3 hl2 hgN hwX)
               clear hV5 vx vo vs v1 v2 v3
               have cX := cell_of_block HM5.out.ask
               have hsW5 : w.heap.size + 2 ≤ V5.heap.size := by have := lt_of_block HM5.out.ask; omega
               have P11 := Lib.hid (HM5.out.row.alloc (.cells #[.int .i64 0, .int .i64 0, .int .i64 0, .int .i64 0, .int .i64 0] 79))
               go_wp2_with (at_builtin; refine wpList_append_row rfl _ _ rfl (rs.length + 1) eltReq rfl rfl P11.out (rowsAt_req _ ⟨0, 0, 0, 0, 0⟩ _) rfl rfl rfl (by simp only [maxLen]; omega) (by omega) (by simp <;> omega) ?_)))
          intro a5 cap5 w5 q5
          clear cX
          have hblk5 : ∀ g', rowBlk a' cap' = some g' → w.heap.size + 2 ≤ g' := fun g' hg' => (HM5.out.row.blk hg').1
          have hsW : w.heap.size + 2 ≤ V5.heap.size := by have := lt_of_block HM5.out.ask; omega
          have hb5 : Below (w.heap.size + 2) V5 w5 := Below.grown ((Below.refl _ _).alloc hsW _) q5.grown (by simp <;> omega) hblk5
          have hgood5 : (rs ++ [(⟨0, 0, 0, 0, 0⟩ : Rq)]).all good = true := by
            rw [List.all_append, HG.out, Bool.true_and]
            simp only [List.all_cons, List.all_nil, Bool.and_true]
            exact by decide
          have HF := Lib.hid (And.intro hgood5 (And.intro q5.row (And.intro ((HM5.out.rdr.below (hb5.mono (by omega))).mono (show _ ≤ P + 1 + 7 * (rs.length + 1) by omega)) (And.intro (show w.grownBy w5 (some g) from ⟨hb5.os.trans HM5.out.grown.os, hb5.tape.trans HM5.out.grown.tape, hb5.output.trans HM5.out.grown.output, Nat.le_trans HM5.out.grown.size hb5.size, fun i hi hne => (hb5.block i (by omega)).trans (HM5.out.grown.block i hi hne)⟩) (And.intro ((hb5.block _ (by omega)).trans HM5.out.num) (Nat.le_trans hsW hb5.size))))))
          clear hblk5 hsW hb5 hgood5 q5 P11
          go_wp2_with fail
          go_roundw
          case rel => exact ⟨rs ++ [⟨0, 0, 0, 0, 0⟩], a5, cap5, m - 1, ns, by go_num, by rw [List.length_append]; simp; omega, by simp, HF.out.1, HF.out.2.1, by rw [List.length_append]; exact HF.out.2.2.1, HF.out.2.2.2.1, HNL.out, HNB.out, HF.out.2.2.2.2.1, HF.out.2.2.2.2.2⟩
          case measure => simp [intOf]; omega
        · have P11 := Lib.hid (HM4.out.row.alloc (.cells #[.int .i64 (↑j + 1), .int .i64 v, .int .i64 o, .int .i64 x, .int .i64 y] 79))
          have cX := cell_of_block HM4.out.ask
          have hsW5 : w.heap.size + 2 ≤ w4.heap.size := by have := lt_of_block HM4.out.ask; omega
          go_wp2_with (at_builtin; refine wpList_append_row rfl _ _ rfl (rs.length + 1) eltReq rfl rfl P11.out (rowsAt_req _ ⟨(↑j + 1), v, o, x, y⟩ _) rfl rfl rfl (by simp only [maxLen]; omega) (by omega) (by simp <;> omega) ?_)
          intro a5 cap5 w5 q5
          clear cX
          have hblk5 : ∀ g', rowBlk a' cap' = some g' → w.heap.size + 2 ≤ g' := fun g' hg' => (HM4.out.row.blk hg').1
          have hsW : w.heap.size + 2 ≤ w4.heap.size := by have := lt_of_block HM4.out.ask; omega
          have hb5 : Below (w.heap.size + 2) w4 w5 := Below.grown ((Below.refl _ _).alloc hsW _) q5.grown (by simp <;> omega) hblk5
          have hgood5 : (rs ++ [(⟨(↑j + 1), v, o, x, y⟩ : Rq)]).all good = true := by
            rw [List.all_append, HG.out, Bool.true_and]
            simp only [List.all_cons, List.all_nil, Bool.and_true]
            exact good_of_ok (ok_num HOK.out (by omega) (by omega))
          have HF := Lib.hid (And.intro hgood5 (And.intro q5.row (And.intro ((HM4.out.rdr.below (hb5.mono (by omega))).mono (show _ ≤ P + 1 + 7 * (rs.length + 1) by omega)) (And.intro (show w.grownBy w5 (some g) from ⟨hb5.os.trans HM4.out.grown.os, hb5.tape.trans HM4.out.grown.tape, hb5.output.trans HM4.out.grown.output, Nat.le_trans HM4.out.grown.size hb5.size, fun i hi hne => (hb5.block i (by omega)).trans (HM4.out.grown.block i hi hne)⟩) (And.intro ((hb5.block _ (by omega)).trans HM4.out.num) (Nat.le_trans hsW hb5.size))))))
          clear hblk5 hsW hb5 hgood5 q5 P11
          go_wp2_with fail
          go_roundw
          case rel => exact ⟨rs ++ [⟨(↑j + 1), v, o, x, y⟩], a5, cap5, m - 1, ns, by go_num, by rw [List.length_append]; simp; omega, by simp, HF.out.1, HF.out.2.1, by rw [List.length_append]; exact HF.out.2.2.1, HF.out.2.2.2.1, HNL.out, HNB.out, HF.out.2.2.2.2.1, HF.out.2.2.2.2.2⟩
          case measure => simp [intOf]; omega
end Go.Proofs.YtilldpoleiippaaGreatDoor
