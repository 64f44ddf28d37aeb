/- Contracts of clone at lists of figures, of numbers, of asks; condition: small sizes. | Rows of a ledger in lists of the program's own: appended to, cloned; condition: small sizes. | Contracts of LedgerOf, the reference's and the program's; condition: the package variables as listed. | Contract of the program's LedgerOf; condition: the package variables as listed. | Contract of wpRows: two lists of rows that are alike are found alike; no condition. | Contracts of markIntS, heldIntS, and of markEntS, heldEntS at the nil slice; condition: small numbers. | Contracts of markReqS, markEntS, heldReqS, heldEntS; marks over rows of the program's own; condition: small numbers. | Contracts of markEntryS, heldEntryS; condition: small numbers. | A cell of an own row stored: the row with one element turned; no condition. | One ask in a block of its own, as a row; no condition. | Contract of l20Reqs: some valid asks, in a list of its own; condition: fewer than 2^40 reads. | Contract of l20Ledger: some rows, in a list of their own; condition: fewer than 2^40 reads. | What is read of a text as rows, as a relation; no program; no condition. | What is read of a text as rows: the reference's way and the program's; no program; no condition. -/
import Derived.Test.YtilldpoleiippaaDoorLA
import Derived.Test.YtilldpoleiippaaDoorLG
import Derived.Laws.Cover3
import Derived.Test.YtilldpoleiippaaDoorLB
import Derived.Test.YtilldpoleiippaaDoorMeet
import Derived.LoopTactic
import Derived.Test.YtilldpoleiippaaDoorLC
import Derived.Great.BuildSlice
set_option linter.unusedSimpArgs false
set_option linter.unusedVariables false
/-! Contracts of clone at lists of figures, of numbers, of asks; condition: small sizes. -/
namespace Go.Proofs.YtilldpoleiippaaDoor
open Go.RowKit Go.Joins

/-- A copy in a block of its own, without room. -/
def Cloned {α : Type} (el k n : Nat) (R : α → List Value) (zs : List α) (w : World) (e : Ending) (w' : World) : Prop :=
  ∃ a', e = .returned (.slice a' n n) ∧ Row w' w.heap.size el a' n k R zs ∧ Below w.heap.size w w'
theorem run_eqlNil {P : Program} (t e : TypeId) (a : Option Addr) (l c : Nat) (h : P.underlying t = some (.slice e)) (w : World) : (binOp .eql t (.slice a l c) (.slice none 0 0)).run P w = .ok (.bool a.isNone) w := by
  simp [binOp, Go.run_equal_slice_nil w t e a l c h]


set_option maxRecDepth 100000 in
set_option maxHeartbeats 1000000 in
theorem slCloneEnt_c (a : Option Addr) (n c : Nat) (zs : List Rq) (w : World) (h : IsSl w (.slice a n c) 5 Rq.cs zs) (hs : n ≤ 16777216) :
    Calls Tryd.prog 116 #[.slice a n c] w fun e w' => ∃ a' c', e = .returned (.slice a' n c') ∧ Row w' w.heap.size 92 a' c' 5 Rq.cs zs ∧ Below w.heap.size w w' := by
  obtain ⟨hn, hc, hm, hr⟩ := h.bounds
  cases a with
  | none =>
    have hz := hr.none_nil
    subst hz
    simp only [List.length_nil] at hn
    subst hn
    clear hs hc hm hr h
    have hnil := run_eqlNil _ _ none 0 c Tryd.underlying39
    go_enter Tryd.func116, Tryd.ntmps116
    go_wp2_with fail
    go_ret
    exact ⟨none, 0, rfl, Row.nil _ _ _ _ _ _, (by repeat' (first | with_reducible exact Below.refl _ _ | with_reducible assumption | with_reducible refine Below.alloc ?_ ?_ _ | with_reducible refine Below.drew ?_ | with_reducible refine Below.setCell ?_ ?_ _ | omega | (simp; omega) | (simp; done)))⟩
  | some ad =>
    have HR := Lib.hid hr
    clear hr h
    have hnil := run_eqlNil _ _ (some ad) n c Tryd.underlying39
    go_enter Tryd.func116, Tryd.ntmps116
    go_wp2_with (at_builtin; refine wpList_append_new w.heap.size rfl _ _ rfl eltEnt rfl rfl (HR.out.below (by repeat' (first | with_reducible exact Below.refl _ _ | with_reducible assumption | with_reducible refine Below.alloc ?_ ?_ _ | with_reducible refine Below.drew ?_ | with_reducible refine Below.setCell ?_ ?_ _ | omega | (simp; omega) | (simp; done)))) hn (by simp only [maxLen]; omega) (by omega) (by simp <;> omega) ?_)
    intro a' c' w' q
    go_wp2_with fail
    go_ret
    exact ⟨a', c', rfl, q.row, below_next (by repeat' (first | with_reducible exact Below.refl _ _ | with_reducible assumption | with_reducible refine Below.alloc ?_ ?_ _ | with_reducible refine Below.drew ?_ | with_reducible refine Below.setCell ?_ ?_ _ | omega | (simp; omega) | (simp; done))) q.below⟩
set_option maxHeartbeats 1000000 in
theorem slClipEnt_c (a : Option Addr) (n c : Nat) (w : World) (hc : n ≤ c) (hm : c ≤ maxLen) :
    Calls Tryd.prog 115 #[.slice a n c] w fun e w' => e = .returned (.slice a n n) ∧ w = w' := by
  go_enter Tryd.func115, Tryd.ntmps115
  go_wp2_with fail
  go_ret
  exact ⟨rfl, rfl⟩
set_option maxHeartbeats 1000000 in
theorem cloneEnt_c (a : Option Addr) (n c : Nat) (zs : List Rq) (w : World) (h : IsSl w (.slice a n c) 5 Rq.cs zs) (hs : n ≤ 16777216) :
    Calls Tryd.prog 84 #[.slice a n c] w (Cloned 92 5 n Rq.cs zs w) := by
  have hn := h.bounds.1
  have H := Lib.hid h
  clear h
  go_enter Tryd.func84, Tryd.ntmps84
  go_wp2_with fail
  refine (slCloneEnt_c a n c zs _ H.out hs).mono ?_
  rintro e w1 ⟨a1, c1, rfl, r1, k1⟩
  have hl := r1.len
  have hmx := r1.max
  rw [hn] at hl
  have R1 := Lib.hid r1
  clear r1
  go_wp2_with fail
  refine (slClipEnt_c a1 n c1 _ hl hmx).mono ?_
  rintro e w2 ⟨rfl, rfl⟩
  have R2 := R1.out.clip
  rw [hn] at R2
  have R3 := Lib.hid R2
  clear R2
  go_wp2_with fail
  go_ret
  exact ⟨a1, rfl, R3.out, k1⟩

set_option maxRecDepth 100000 in
set_option maxHeartbeats 1000000 in
theorem slCloneint_c (a : Option Addr) (n c : Nat) (zs : List Int) (w : World) (h : IsSl w (.slice a n c) 1 intR zs) (hs : n ≤ 16777216) :
    Calls Tryd.prog 114 #[.slice a n c] w fun e w' => ∃ a' c', e = .returned (.slice a' n c') ∧ Row w' w.heap.size 3 a' c' 1 intR zs ∧ Below w.heap.size w w' := by
  obtain ⟨hn, hc, hm, hr⟩ := h.bounds
  cases a with
  | none =>
    have hz := hr.none_nil
    subst hz
    simp only [List.length_nil] at hn
    subst hn
    clear hs hc hm hr h
    have hnil := run_eqlNil _ _ none 0 c Tryd.underlying34
    go_enter Tryd.func114, Tryd.ntmps114
    go_wp2_with fail
    go_ret
    exact ⟨none, 0, rfl, Row.nil _ _ _ _ _ _, (by repeat' (first | with_reducible exact Below.refl _ _ | with_reducible assumption | with_reducible refine Below.alloc ?_ ?_ _ | with_reducible refine Below.drew ?_ | with_reducible refine Below.setCell ?_ ?_ _ | omega | (simp; omega) | (simp; done)))⟩
  | some ad =>
    have HR := Lib.hid hr
    clear hr h
    have hnil := run_eqlNil _ _ (some ad) n c Tryd.underlying34
    go_enter Tryd.func114, Tryd.ntmps114
    go_wp2_with (at_builtin; refine wpList_append_new w.heap.size rfl _ _ rfl eltInt rfl rfl (HR.out.below (by repeat' (first | with_reducible exact Below.refl _ _ | with_reducible assumption | with_reducible refine Below.alloc ?_ ?_ _ | with_reducible refine Below.drew ?_ | with_reducible refine Below.setCell ?_ ?_ _ | omega | (simp; omega) | (simp; done)))) hn (by simp only [maxLen]; omega) (by omega) (by simp <;> omega) ?_)
    intro a' c' w' q
    go_wp2_with fail
    go_ret
    exact ⟨a', c', rfl, q.row, below_next (by repeat' (first | with_reducible exact Below.refl _ _ | with_reducible assumption | with_reducible refine Below.alloc ?_ ?_ _ | with_reducible refine Below.drew ?_ | with_reducible refine Below.setCell ?_ ?_ _ | omega | (simp; omega) | (simp; done))) q.below⟩
set_option maxHeartbeats 1000000 in
theorem slClipint_c (a : Option Addr) (n c : Nat) (w : World) (hc : n ≤ c) (hm : c ≤ maxLen) :
    Calls Tryd.prog 113 #[.slice a n c] w fun e w' => e = .returned (.slice a n n) ∧ w = w' := by
  go_enter Tryd.func113, Tryd.ntmps113
  go_wp2_with fail
  go_ret
  exact ⟨rfl, rfl⟩
set_option maxHeartbeats 1000000 in
theorem cloneint_c (a : Option Addr) (n c : Nat) (zs : List Int) (w : World) (h : IsSl w (.slice a n c) 1 intR zs) (hs : n ≤ 16777216) :
    Calls Tryd.prog 82 #[.slice a n c] w (Cloned 3 1 n intR zs w) := by
  have hn := h.bounds.1
  have H := Lib.hid h
  clear h
  go_enter Tryd.func82, Tryd.ntmps82
  go_wp2_with fail
  refine (slCloneint_c a n c zs _ H.out hs).mono ?_
  rintro e w1 ⟨a1, c1, rfl, r1, k1⟩
  have hl := r1.len
  have hmx := r1.max
  rw [hn] at hl
  have R1 := Lib.hid r1
  clear r1
  go_wp2_with fail
  refine (slClipint_c a1 n c1 _ hl hmx).mono ?_
  rintro e w2 ⟨rfl, rfl⟩
  have R2 := R1.out.clip
  rw [hn] at R2
  have R3 := Lib.hid R2
  clear R2
  go_wp2_with fail
  go_ret
  exact ⟨a1, rfl, R3.out, k1⟩

end Go.Proofs.YtilldpoleiippaaDoor

/-! Rows of a ledger in lists of the program's own: appended to, cloned; condition: small sizes. -/
namespace Go.Proofs.YtilldpoleiippaaDoor
open Go.RowKit Go.Joins

theorem six_one : ∀ z : En, ∀ u ∈ z.cs, u.oneCell' = true := by
  intro z u hu
  simp [En.cs] at hu
  rcases hu with rfl | rfl | rfl | rfl | rfl | rfl <;> rfl
set_option maxRecDepth 100000 in
theorem eltEntry : Elt Tryd.prog 22 67 6 48 En.cs := by
  obtain ⟨i, h1, h2, h3, h4⟩ := info_parts infoEntry
  exact ⟨Tryd.underlying22, ⟨i, _, h1, h2, h3, h4, rfl⟩, by decide, fun _ => rfl, six_one⟩
theorem rowsAt_oneE (w : World) (z : En) (t : TypeId) : RowsAt (w.alloc (.cells #[.int .i64 z.r.c, .int .i64 z.r.n, .int .i64 z.r.o, .int .i64 z.r.x, .int .i64 z.r.y, .int .i64 z.s] t)) (some ⟨w.heap.size, 0, none⟩) 6 En.cs [z] :=
  rows_of_block (t := t) (fr := (0, 0)) six_len (heap_alloc_new w (.cells #[.int .i64 z.r.c, .int .i64 z.r.n, .int .i64 z.r.o, .int .i64 z.r.x, .int .i64 z.r.y, .int .i64 z.s] t))

set_option maxHeartbeats 1000000 in
theorem slClipEntry_c (a : Option Addr) (n c : Nat) (w : World) (hc : n ≤ c) (hm : c ≤ maxLen) :
    Calls Tryd.prog 49 #[.slice a n c] w fun e w' => e = .returned (.slice a n n) ∧ w = w' := by
  go_enter Tryd.func49, Tryd.ntmps49
  go_wp2_with fail
  go_ret
  exact ⟨rfl, rfl⟩
end Go.Proofs.YtilldpoleiippaaDoor

/-! Contracts of LedgerOf, the reference's and the program's; condition: the package variables as listed. -/
namespace Go.Proofs.YtilldpoleiippaaDoor
open Go.RowKit Go.Joins

/-- Rows in a list of their own. -/
def RowsGot (zs : List En) (w : World) (e : Ending) (w' : World) : Prop :=
  ∃ (a' : Option Addr) (cap' : Nat), e = .returned (.slice a' zs.length cap') ∧ Row w' w.heap.size 67 a' cap' 6 En.cs zs ∧ Below w.heap.size w w'
theorem rowsOf_length (rs : List Rq) : (rowsOf rs).length = rs.length := ofAux_length rs 0 0
theorem lastSum_rowsOf {rs : List Rq} (h60 : rs.length ≤ 60) (hg : rs.all good = true) : 0 ≤ lastSum (rowsOf rs) ∧ lastSum (rowsOf rs) < 4294967296 := by
  have h := far_rowsOf rs h60 hg
  have hl := rowsOf_length rs
  unfold lastSum
  rw [hl]
  exact prevAt_bounds (fun j hj => (far_is (rowsOf rs)).2.1 j (by omega))
theorem all_take {rs : List Rq} {k : Nat} (h : ∀ j (hj : j < rs.length), j < k → good rs[j] = true) : (rs.take k).all good = true := by
  rw [List.all_eq_true]
  intro z hz
  obtain ⟨j, hj, rfl⟩ := List.getElem_of_mem hz
  have hj2 : j < k ∧ j < rs.length := by simp at hj; omega
  rw [List.getElem_take]
  exact h j hj2.2 hj2.1
theorem ledOf_bad {rs : List Rq} {k : Nat} (hk : k < rs.length) (h : good rs[k] = false ∨ 60 ≤ k) : ledOf rs = [] := by
  unfold ledOf
  rw [if_neg]
  rintro ⟨h1, h2⟩
  rcases h with h | h
  · rw [List.all_eq_true] at h2
    have := h2 _ (List.getElem_mem hk)
    rw [h] at this
    cases this
  · omega
theorem Appended.belowB {α : Type} {w w' : World} {B B0 e cap cap' k : Nat} {a a' : Option Addr} {R : α → List Value} {zs zs0 : List α} (h : Appended w w' B e a a' cap cap' k R zs) (hrow : Row w B e a cap k R zs0) {w0 : World} (hb : Below B0 w0 w) (hB : B0 ≤ B) (hs : B0 ≤ w.heap.size) : Below B0 w0 w' :=
  hb.grown h.grown hs (fun g hg => Nat.le_trans hB (hrow.blk hg).1)

set_option maxRecDepth 100000 in
set_option maxHeartbeats 4000000 in
theorem sLedgerOf_c (a : Option Addr) (n cap : Nat) (rs : List Rq) (w : World) (h : IsSl w (.slice a n cap) 5 Rq.cs rs) (hn : n ≤ 16777216) :
    Calls Tryd.prog 45 #[.slice a n cap] w (RowsGot (ledOf rs) w) := by
  obtain ⟨hzl, hlc, hm, hr⟩ := h.bounds
  have HR := Lib.hid hr
  have HZ := Lib.hid hzl
  clear hr h hzl
  unfold maxLen at hm
  go_enter Tryd.func45, Tryd.ntmps45
  go_wp2_with fail
  obtain ⟨W0, hW0, sW0, aW0, kW0⟩ := blocks1 w (.cells #[] 67)
  rw [← hW0]
  clear hW0 aW0
  go_loopw [3, 4, 5] (fun out s i wr => ∃ (k : Nat) (a' : Option Addr) (cap' : Nat), k ≤ n ∧ i = .int .i64 k ∧ s = .int .i64 (lastSum (rowsOf (rs.take k))) ∧ out = .slice a' k cap' ∧ Row wr w.heap.size 67 a' cap' 6 En.cs (rowsOf (rs.take k)) ∧ k ≤ 60 ∧ (∀ j (hj : j < rs.length), j < k → good rs[j] = true) ∧ Below w.heap.size w wr) (fun _ _ i _ => n - (intOf i).toNat)
  case atStart => exact ⟨0, some ⟨w.heap.size, 0, none⟩, 0, Nat.zero_le _, rfl, rfl, rfl, Row.nil _ _ _ _ _ _, by omega, fun j _ hj => absurd hj (Nat.not_lt_zero j), kW0⟩
  case round =>
    obtain ⟨k, a', cap', hk, rfl, rfl, rfl, hrow, hk60, hall, hbel⟩ := hrel
    have HROW := Lib.hid hrow
    have HA := Lib.hid hall
    clear hrow hall
    by_cases hlt : k < n
    · have hkz : k < rs.length := by rw [HZ.out]; exact hlt
      have hk1 : (k : Int) < (n : Int) := by omega
      have hk0 : (0 : Int) ≤ (k : Int) := by omega
      obtain ⟨b0, o0, rfl, hl0, hc0⟩ := five_at HR.out k hkz
      obtain ⟨c0, c1, c2, c3, c4⟩ := hc0 wr hbel
      have hl := lastSum_rowsOf (rs := rs.take k) (by simp; omega) (all_take HA.out)
      have hlen : (rowsOf (rs.take k)).length = k := by rw [rowsOf_length]; simp; omega
      have HLEN := Lib.hid hlen
      have HBAD := Lib.hid (fun q => ledOf_bad hkz q)
      have HSN := Lib.hid (show rowsOf (rs.take (k + 1)) = rowsOf (rs.take k) ++ [⟨rs[k], sumL (lastSum (rowsOf (rs.take k))) ((k : Int) + 1) rs[k]⟩] by
        have el : (rs.take k).length = k := by rw [List.length_take]; omega
        rw [List.take_succ_eq_append_getElem hkz, rowsOf_snoc, el])
      have HZK := Lib.hid (rfl : rs[k] = rs[k])
      have HGK := Lib.hid (show good rs[k] = (noneB rs[k].c rs[k].n rs[k].o rs[k].x rs[k].y || okB rs[k].c rs[k].n rs[k].o rs[k].x rs[k].y) from rfl)
      have HALL := Lib.hid (fun (hg : good rs[k] = true) (j : Nat) (hj : j < rs.length) (hjk : j < k + 1) => show good rs[j] = true by
        by_cases e : j = k
        · subst e; exact hg
        · exact HA.out j hj (by omega))
      clear hlen hc0 HZK
      generalize hz : rs[k] = z at *
      clear hz
      generalize hls : lastSum (rowsOf (rs.take k)) = ls at *
      clear hls
      generalize rowsOf (rs.take k) = zs at *
      have bad : ∀ (q : good z = false ∨ 60 ≤ k) (V : World), Below w.heap.size w V → RowsGot (ledOf rs) w (.returned (.slice (some ⟨V.heap.size, 0, none⟩) 0 0)) (V.alloc (.cells #[] 67)) := fun q V hV => by
        rw [HBAD.out q]
        exact ⟨_, 0, rfl, Row.nil _ _ _ _ _ _, hV.alloc hV.size _⟩
      have BAD := Lib.hid bad
      clear bad
      go_wp2_with fail
      refine (l1Ok_c z.c z.n z.o z.x z.y wr).mono ?_
      rintro e w1 ⟨rfl, k1⟩
      have e0 := cell_stays k1 c0
      have e1 := cell_stays k1 c1
      have e2 := cell_stays k1 c2
      have e3 := cell_stays k1 c3
      have e4 := cell_stays k1 c4
      clear c0 c1 c2 c3 c4
      cases hok : okB z.c z.n z.o z.x z.y with
      | true =>
        have hno : True := trivial
        by_cases h60 : (k : Int) < 60
        · have hkk : k < 60 := by omega
          go_wp2_with fail
          refine (l7Sum_c ls ((k : Int) + 1) z w1 (by omega) (by omega) (by omega) (by omega)).mono ?_
          rintro e w9 ⟨rfl, k9⟩
          have K9 := below_next k1 k9
          have hb9 := below_next hbel K9
          have d0 := cell_stays k9 e0
          have d1 := cell_stays k9 e1
          have d2 := cell_stays k9 e2
          have d3 := cell_stays k9 e3
          have d4 := cell_stays k9 e4
          have HROW9 := Lib.hid (HROW.out.below K9)
          have hsz9 : w.heap.size ≤ w9.heap.size := hb9.size
          obtain ⟨sm, hsm⟩ : ∃ sm : Int, sm = (sumL ls ((k : Int) + 1) z : Int) := ⟨_, rfl⟩
          have HSM := Lib.hid hsm
          rw [← hsm]
          clear hsm k9 e0 e1 e2 e3 e4
          have P11 := Lib.hid (HROW9.out.alloc (.cells #[.int .i64 z.c, .int .i64 z.n, .int .i64 z.o, .int .i64 z.x, .int .i64 z.y, .int .i64 sm] 67))
          go_wp2_with (at_builtin; refine wpList_append_row rfl _ _ rfl (k + 1) eltEntry rfl rfl P11.out (rowsAt_oneE _ ⟨z, sm⟩ _) HLEN.out rfl rfl (by simp only [maxLen]; omega) (by omega) (by simp <;> omega) ?_)
          intro a5 cap5 w5 q5
          have kA := hb9.alloc hb9.size (.cells #[.int .i64 z.c, .int .i64 z.n, .int .i64 z.o, .int .i64 z.x, .int .i64 z.y, .int .i64 sm] 67)
          have K5 := q5.belowB P11.out kA (Nat.le_refl _) kA.size
          have hz5 : rowsOf (rs.take (k + 1)) = zs ++ [⟨z, sm⟩] := by rw [HSN.out, HSM.out]
          have H5 := Lib.hid (And.intro hz5 q5.row)
          have hls5 : lastSum (rowsOf (rs.take (k + 1))) = sm := by rw [hz5, lastSum_snoc]
          have HL5 := Lib.hid hls5
          clear hz5 q5 kA hls5 P11
          go_wp2_with fail
          go_roundw
          case rel => exact ⟨k + 1, a5, cap5, by omega, by go_num, by rw [HL5.out], rfl, by rw [H5.out.1]; exact H5.out.2, by omega, HALL.out (by rw [HGK.out]; simp [hok, hno]), K5⟩
          case measure => simp [intOf]; omega
        · have h60' : 60 ≤ k := by omega
          go_wp2_with fail
          go_ret
          exact BAD.out (.inr h60') w1 (below_next hbel k1)
      | false =>
        go_wp2_with fail
        refine (l1None_c z.c z.n z.o z.x z.y w1).mono ?_
        rintro e w2 ⟨rfl, k2⟩
        have K2 := below_next k1 k2
        replace e0 := cell_stays k2 e0
        replace e1 := cell_stays k2 e1
        replace e2 := cell_stays k2 e2
        replace e3 := cell_stays k2 e3
        replace e4 := cell_stays k2 e4
        clear k1 k2
        cases hno : noneB z.c z.n z.o z.x z.y with
        | true =>
          by_cases h60 : (k : Int) < 60
          · have hkk : k < 60 := by omega
            go_wp2_with fail
            refine (l7Sum_c ls ((k : Int) + 1) z w2 (by omega) (by omega) (by omega) (by omega)).mono ?_
            rintro e w9 ⟨rfl, k9⟩
            have K9 := below_next K2 k9
            have hb9 := below_next hbel K9
            have d0 := cell_stays k9 e0
            have d1 := cell_stays k9 e1
            have d2 := cell_stays k9 e2
            have d3 := cell_stays k9 e3
            have d4 := cell_stays k9 e4
            have HROW9 := Lib.hid (HROW.out.below K9)
            have hsz9 : w.heap.size ≤ w9.heap.size := hb9.size
            obtain ⟨sm, hsm⟩ : ∃ sm : Int, sm = (sumL ls ((k : Int) + 1) z : Int) := ⟨_, rfl⟩
            have HSM := Lib.hid hsm
            rw [← hsm]
            clear hsm k9 e0 e1 e2 e3 e4
            have P11 := Lib.hid (HROW9.out.alloc (.cells #[.int .i64 z.c, .int .i64 z.n, .int .i64 z.o, .int .i64 z.x, .int .i64 z.y, .int .i64 sm] 67))
            go_wp2_with (at_builtin; refine wpList_append_row rfl _ _ rfl (k + 1) eltEntry rfl rfl P11.out (rowsAt_oneE _ ⟨z, sm⟩ _) HLEN.out rfl rfl (by simp only [maxLen]; omega) (by omega) (by simp <;> omega) ?_)
            intro a5 cap5 w5 q5
            have kA := hb9.alloc hb9.size (.cells #[.int .i64 z.c, .int .i64 z.n, .int .i64 z.o, .int .i64 z.x, .int .i64 z.y, .int .i64 sm] 67)
            have K5 := q5.belowB P11.out kA (Nat.le_refl _) kA.size
            have hz5 : rowsOf (rs.take (k + 1)) = zs ++ [⟨z, sm⟩] := by rw [HSN.out, HSM.out]
            have H5 := Lib.hid (And.intro hz5 q5.row)
            have hls5 : lastSum (rowsOf (rs.take (k + 1))) = sm := by rw [hz5, lastSum_snoc]
            have HL5 := Lib.hid hls5
            clear hz5 q5 kA hls5 P11
            go_wp2_with fail
            go_roundw
            case rel => exact ⟨k + 1, a5, cap5, by omega, by go_num, by rw [HL5.out], rfl, by rw [H5.out.1]; exact H5.out.2, by omega, HALL.out (by rw [HGK.out]; simp [hok, hno]), K5⟩
            case measure => simp [intOf]; omega
          · have h60' : 60 ≤ k := by omega
            go_wp2_with fail
            go_ret
            exact BAD.out (.inr h60') w2 (below_next hbel K2)
        | false =>
          go_wp2_with fail
          go_ret
          exact BAD.out (.inl (by rw [HGK.out, hok, hno]; rfl)) w2 (below_next hbel K2)
    · have hkn : k = n := by omega
      have e : rs.take k = rs := List.take_of_length_le (by rw [HZ.out]; omega)
      have hled : ledOf rs = rowsOf rs := by
        unfold ledOf
        rw [if_pos ⟨by rw [HZ.out]; omega, by have := all_take HA.out; rwa [e] at this⟩]
      rw [e] at HROW
      have HE := Lib.hid hled
      have hl : (rowsOf rs).length = k := by rw [rowsOf_length, HZ.out]; omega
      have HL := Lib.hid hl
      clear e hled hl hkn
      go_wp2_with fail
      go_ret
      unfold RowsGot
      rw [HE.out, HL.out]
      exact ⟨a', cap', rfl, HROW.out, hbel⟩
end Go.Proofs.YtilldpoleiippaaDoor

/-! Contract of the program's LedgerOf; condition: the package variables as listed. -/
namespace Go.Proofs.YtilldpoleiippaaDoor
open Go.RowKit Go.Joins

/-- Rows in a list of their own, without room. -/
def RowsOwn (zs : List En) (w : World) (e : Ending) (w' : World) : Prop :=
  ∃ (a' : Option Addr), e = .returned (.slice a' zs.length zs.length) ∧ Row w' w.heap.size 67 a' zs.length 6 En.cs zs ∧ Below w.heap.size w w'
theorem ledOf_long {rs : List Rq} (h : 60 < rs.length) : ledOf rs = [] := by unfold ledOf; rw [if_neg (fun q => by omega)]
theorem ledOf_not {rs : List Rq} (h : rs.all good = false) : ledOf rs = [] := by unfold ledOf; rw [if_neg (fun q => by rw [q.2] at h; cases h)]
theorem Row.slE {α : Type} {w : World} {B e cap k n : Nat} {a : Option Addr} {R : α → List Value} {zs : List α} (h : Row w B e a cap k R zs) (hR : ∀ z, (R z).length = k) (hn : zs.length = n) : IsSl w (.slice a n cap) k R zs := hn ▸ h.sl hR
theorem all_take' {rs : List Rq} (k : Nat) (h : rs.all good = true) : (rs.take k).all good = true := by
  rw [List.all_eq_true] at h ⊢
  exact fun z hz => h z (List.mem_of_mem_take hz)

end Go.Proofs.YtilldpoleiippaaDoor

/-! Contract of wpRows: two lists of rows that are alike are found alike; no condition. -/
namespace Go.Proofs.YtilldpoleiippaaDoor
open Go.RowKit Go.Joins
attribute [local go_sem ↓] neq_en

set_option maxRecDepth 100000 in
set_option maxHeartbeats 4000000 in
theorem wpRows_c (va vb : Value) (zs : List En) (w : World) (ha : IsSl w va 6 En.cs zs) (hb : IsSl w vb 6 En.cs zs) :
    Calls Tryd.prog 18 #[va, vb] w fun e w' => e = .returned (.bool true) ∧ Below w.heap.size w w' := by
  obtain ⟨a, cap, rfl, hlc, hm, hra⟩ := ha
  obtain ⟨b, cap', rfl, hlc', hm', hrb⟩ := hb
  have HA := Lib.hid hra
  have HB := Lib.hid hrb
  clear hra hrb
  unfold maxLen at hm hm'
  generalize hnn : zs.length = n at *
  go_enter Tryd.func18, Tryd.ntmps18
  go_wp2_with fail
  go_loopw [5] (fun i wr => ∃ k : Nat, k ≤ n ∧ i = .int .i64 k ∧ Below w.heap.size w wr) (fun i _ => n - (intOf i).toNat)
  case atStart => exact ⟨0, Nat.zero_le _, rfl, Below.refl _ _⟩
  case round =>
    obtain ⟨k, hk, rfl, hbel⟩ := hrel
    by_cases hlt : k < n
    · have hkz : k < zs.length := by omega
      have hk1 : (k : Int) < (n : Int) := by omega
      have hk0 : (0 : Int) ≤ (k : Int) := by omega
      obtain ⟨b0, o0, rfl, hl0, hc0⟩ := HA.out k hkz
      obtain ⟨b1, o1, rfl, hl1, hc1⟩ := HB.out k hkz
      have c0 : wr.cell? ⟨b0, o0 + k * 6, none⟩ = some (.int .i64 zs[k].r.c) := (hbel.cell (p := ⟨b0, _, none⟩) hl0).trans (hc0 0 (by decide))
      have c1 : wr.cell? ⟨b0, o0 + k * 6 + 1, none⟩ = some (.int .i64 zs[k].r.n) := (hbel.cell (p := ⟨b0, _, none⟩) hl0).trans (hc0 1 (by decide))
      have c2 : wr.cell? ⟨b0, o0 + k * 6 + 2, none⟩ = some (.int .i64 zs[k].r.o) := (hbel.cell (p := ⟨b0, _, none⟩) hl0).trans (hc0 2 (by decide))
      have c3 : wr.cell? ⟨b0, o0 + k * 6 + 3, none⟩ = some (.int .i64 zs[k].r.x) := (hbel.cell (p := ⟨b0, _, none⟩) hl0).trans (hc0 3 (by decide))
      have c4 : wr.cell? ⟨b0, o0 + k * 6 + 4, none⟩ = some (.int .i64 zs[k].r.y) := (hbel.cell (p := ⟨b0, _, none⟩) hl0).trans (hc0 4 (by decide))
      have c5 : wr.cell? ⟨b0, o0 + k * 6 + 5, none⟩ = some (.int .i64 zs[k].s) := (hbel.cell (p := ⟨b0, _, none⟩) hl0).trans (hc0 5 (by decide))
      have d0 : wr.cell? ⟨b1, o1 + k * 6, none⟩ = some (.int .i64 zs[k].r.c) := (hbel.cell (p := ⟨b1, _, none⟩) hl1).trans (hc1 0 (by decide))
      have d1 : wr.cell? ⟨b1, o1 + k * 6 + 1, none⟩ = some (.int .i64 zs[k].r.n) := (hbel.cell (p := ⟨b1, _, none⟩) hl1).trans (hc1 1 (by decide))
      have d2 : wr.cell? ⟨b1, o1 + k * 6 + 2, none⟩ = some (.int .i64 zs[k].r.o) := (hbel.cell (p := ⟨b1, _, none⟩) hl1).trans (hc1 2 (by decide))
      have d3 : wr.cell? ⟨b1, o1 + k * 6 + 3, none⟩ = some (.int .i64 zs[k].r.x) := (hbel.cell (p := ⟨b1, _, none⟩) hl1).trans (hc1 3 (by decide))
      have d4 : wr.cell? ⟨b1, o1 + k * 6 + 4, none⟩ = some (.int .i64 zs[k].r.y) := (hbel.cell (p := ⟨b1, _, none⟩) hl1).trans (hc1 4 (by decide))
      have d5 : wr.cell? ⟨b1, o1 + k * 6 + 5, none⟩ = some (.int .i64 zs[k].s) := (hbel.cell (p := ⟨b1, _, none⟩) hl1).trans (hc1 5 (by decide))
      clear hc0 hc1
      generalize zs[k] = z at *
      obtain ⟨⟨zc, zn, zo, zx, zy⟩, zs'⟩ := z
      simp only at c0 c1 c2 c3 c4 c5 d0 d1 d2 d3 d4 d5
      have HE := eqE_refl zc zn zo zx zy zs'
      go_wp2_with fail
      go_region_with fail
      all_goals
        go_wp2_with fail
        refine ⟨⟨k + 1, by omega, by go_num, by first | exact hbel | exact hbel.drew⟩, ?_⟩
        simp [intOf]; omega
    · go_wp2_with fail
      go_ret
      exact ⟨rfl, hbel⟩
end Go.Proofs.YtilldpoleiippaaDoor

/-! Contracts of markIntS, heldIntS, and of markEntS, heldEntS at the nil slice; condition: small numbers. -/
namespace Go.Proofs.YtilldpoleiippaaDoor
open Go.RowKit Go.Joins

/-- Only cells of block f have turned. -/
structure OnlyBlock (f : Nat) (w w' : World) : Prop where
  others : ∀ b, b ≠ f → w'.heap[b]? = w.heap[b]?
  size : w'.heap.size = w.heap.size
  frozen : ∀ j, w'.frozen? ⟨f, j, none⟩ = w.frozen? ⟨f, j, none⟩
  below : Below f w w'
theorem OnlyBlock.refl (f : Nat) (w : World) : OnlyBlock f w w := ⟨fun _ _ => rfl, rfl, fun _ => rfl, Below.refl _ _⟩
theorem OnlyBlock.set {f : Nat} {w w' : World} (h : OnlyBlock f w w') (j : Nat) (v : Value) : OnlyBlock f w (w'.setCell ⟨f, j, none⟩ v) :=
  ⟨fun b hb => (Below.heap_setCell w' _ v b hb).trans (h.others b hb), by simp [h.size], fun i => by rw [World.frozen?_setCell]; exact h.frozen i, Below.setCell h.below (Nat.le_refl _) v⟩

def Marked (f n : Nat) (m : Int) (w : World) (e : Ending) (w' : World) : Prop :=
  e = .returned (.int .i64 (m + n)) ∧ (∀ j, j < n → w'.cell? ⟨f, j, none⟩ = some (.int .i64 (m + j))) ∧ OnlyBlock f w w'

set_option maxHeartbeats 1000000 in
theorem markIntS_c (f n cap : Nat) (m : Int) (w : World) (hlc : n ≤ cap) (hm0 : 0 ≤ m) (hm1 : m ≤ 1099511627776) (hn : n ≤ 1099511627776) (hc : ∀ j, j < n → ∃ v, w.cell? ⟨f, j, none⟩ = some v) (hf : ∀ j, j < n → w.frozen? ⟨f, j, none⟩ = false) :
    Calls Tryd.prog 86 #[.slice (some ⟨f, 0, none⟩) n cap, .int .i64 m] w (Marked f n m w) := by
  have HC := Lib.hid hc
  have HF := Lib.hid hf
  clear hc hf
  go_enter Tryd.func86, Tryd.ntmps86
  go_wp2_with fail
  go_loopw [1, 5] (fun s i wr => ∃ k : Nat, k ≤ n ∧ i = .int .i64 k ∧ s = .int .i64 (m + k) ∧ (∀ j, j < k → wr.cell? ⟨f, j, none⟩ = some (.int .i64 (m + j))) ∧ (∀ j, k ≤ j → wr.cell? ⟨f, j, none⟩ = w.cell? ⟨f, j, none⟩) ∧ OnlyBlock f w wr) (fun _ i _ => n - (intOf i).toNat)
  case atStart => exact ⟨0, Nat.zero_le _, rfl, by simp, fun j hj => absurd hj (Nat.not_lt_zero j), fun _ _ => rfl, OnlyBlock.refl _ _⟩
  case round =>
    obtain ⟨k, hk, rfl, rfl, h1, h2, hob⟩ := hrel
    have H1 := Lib.hid h1
    have H2 := Lib.hid h2
    clear h1 h2
    by_cases hlt : k < n
    · have hk1 : (k : Int) < (n : Int) := by omega
      have hk0 : (0 : Int) ≤ (k : Int) := by omega
      obtain ⟨v, hv⟩ := HC.out k hlt
      have c0 : wr.cell? ⟨f, k, none⟩ = some v := (H2.out k (Nat.le_refl _)).trans hv
      have f0 : wr.frozen? ⟨f, k, none⟩ = false := (hob.frozen k).trans (HF.out k hlt)
      have hw : IntKind.i64.wrap (m + (k : Int) + 1) = m + (k : Int) + 1 := IntWalk.i64_in _ ⟨by omega, by omega⟩
      have hset := World.cell?_setCell_same' wr ⟨f, k, none⟩ (.int .i64 (m + (k : Int))) (by rw [c0]; rfl)
      have HS := Lib.hid hset
      clear hset hv
      go_wp2_with fail
      go_roundw
      case rel =>
        refine ⟨k + 1, by omega, ?_, ?_, fun j hj => ?_, fun j hj => ?_, hob.set k _⟩
        · go_num
        · go_num
        · by_cases hjk : j = k
          · subst hjk; exact HS.out
          · rw [World.cell?_setCell_other (h := by simp <;> omega)]
            exact H1.out j (by omega)
        · rw [World.cell?_setCell_other (h := by simp <;> omega)]
          exact H2.out j (by omega)
      case measure => simp [intOf]; omega
    · have hkk : n = k := by omega
      subst hkk
      go_wp2_with fail
      go_ret
      exact ⟨rfl, H1.out, hob⟩

set_option maxHeartbeats 1000000 in
theorem heldIntS_c (f n cap : Nat) (m : Int) (w : World) (hlc : n ≤ cap) (hm0 : 0 ≤ m) (hm1 : m ≤ 1099511627776) (hn : n ≤ 1099511627776) (hc : ∀ j, j < n → w.cell? ⟨f, j, none⟩ = some (.int .i64 (m + j))) :
    Calls Tryd.prog 88 #[.slice (some ⟨f, 0, none⟩) n cap, .int .i64 m] w fun e w' => e = .returned (.int .i64 (m + n)) ∧ w = w' := by
  have HC := Lib.hid hc
  clear hc
  go_enter Tryd.func88, Tryd.ntmps88
  go_wp2_with fail
  go_loop [1, 5] (fun s i => ∃ k : Nat, k ≤ n ∧ i = .int .i64 k ∧ s = .int .i64 (m + k)) (fun _ i => n - (intOf i).toNat)
  case atStart => exact ⟨0, Nat.zero_le _, rfl, by simp⟩
  case round =>
    obtain ⟨k, hk, rfl, rfl⟩ := hrel
    by_cases hlt : k < n
    · have hk1 : (k : Int) < (n : Int) := by omega
      have hk0 : (0 : Int) ≤ (k : Int) := by omega
      have c0 := HC.out k hlt
      have hw : IntKind.i64.wrap (m + (k : Int) + 1) = m + (k : Int) + 1 := IntWalk.i64_in _ ⟨by omega, by omega⟩
      go_wp2_with fail
      go_round
      case rel => exact ⟨k + 1, by omega, by go_num, by go_num⟩
      case measure => simp [intOf]; omega
    · have hkk : n = k := by omega
      subst hkk
      go_wp2_with fail
      go_ret
      exact ⟨rfl, rfl⟩
end Go.Proofs.YtilldpoleiippaaDoor

/-! Contracts of markReqS, markEntS, heldReqS, heldEntS; marks over rows of the program's own; condition: small numbers. -/
namespace Go.Proofs.YtilldpoleiippaaDoor
open Go.RowKit Go.Joins

/-- Five stores, one behind the other, into the cells from j on. -/
theorem five_stores (w : World) (f j : Nat) (v0 v1 v2 v3 v4 : Value) (h0 : (w.cell? ⟨f, j, none⟩).isSome = true) (h1 : (w.cell? ⟨f, j + 1, none⟩).isSome = true) (h2 : (w.cell? ⟨f, j + 2, none⟩).isSome = true) (h3 : (w.cell? ⟨f, j + 3, none⟩).isSome = true) (h4 : (w.cell? ⟨f, j + 4, none⟩).isSome = true) :
    ∃ W, W = ((((w.setCell ⟨f, j, none⟩ v0).setCell ⟨f, j + 1, none⟩ v1).setCell ⟨f, j + 2, none⟩ v2).setCell ⟨f, j + 3, none⟩ v3).setCell ⟨f, j + 4, none⟩ v4 ∧
      W.cell? ⟨f, j, none⟩ = some v0 ∧ W.cell? ⟨f, j + 1, none⟩ = some v1 ∧ W.cell? ⟨f, j + 2, none⟩ = some v2 ∧ W.cell? ⟨f, j + 3, none⟩ = some v3 ∧ W.cell? ⟨f, j + 4, none⟩ = some v4 ∧
      (∀ i, i < j ∨ j + 5 ≤ i → W.cell? ⟨f, i, none⟩ = w.cell? ⟨f, i, none⟩) ∧ OnlyBlock f w W := by
  refine ⟨_, rfl, ?_, ?_, ?_, ?_, ?_, fun i hi => ?_, ((((((OnlyBlock.refl f w).set _ _).set _ _).set _ _).set _ _).set _ _)⟩
  · rw [World.cell?_setCell_other (h := by simp), World.cell?_setCell_other (h := by simp), World.cell?_setCell_other (h := by simp), World.cell?_setCell_other (h := by simp), World.cell?_setCell_same' _ _ _ h0]
  · rw [World.cell?_setCell_other (h := by simp), World.cell?_setCell_other (h := by simp), World.cell?_setCell_other (h := by simp), World.cell?_setCell_same' _ _ _ (by rw [World.cell?_setCell_other (h := by simp)]; exact h1)]
  · rw [World.cell?_setCell_other (h := by simp), World.cell?_setCell_other (h := by simp), World.cell?_setCell_same' _ _ _ (by rw [World.cell?_setCell_other (h := by simp), World.cell?_setCell_other (h := by simp)]; exact h2)]
  · rw [World.cell?_setCell_other (h := by simp), World.cell?_setCell_same' _ _ _ (by rw [World.cell?_setCell_other (h := by simp), World.cell?_setCell_other (h := by simp), World.cell?_setCell_other (h := by simp)]; exact h3)]
  · rw [World.cell?_setCell_same' _ _ _ (by rw [World.cell?_setCell_other (h := by simp), World.cell?_setCell_other (h := by simp), World.cell?_setCell_other (h := by simp), World.cell?_setCell_other (h := by simp)]; exact h4)]
  · rw [World.cell?_setCell_other (h := by simp <;> omega), World.cell?_setCell_other (h := by simp <;> omega), World.cell?_setCell_other (h := by simp <;> omega), World.cell?_setCell_other (h := by simp <;> omega), World.cell?_setCell_other (h := by simp <;> omega)]
theorem OnlyBlock.trans {f : Nat} {a b c : World} (h : OnlyBlock f a b) (k : OnlyBlock f b c) : OnlyBlock f a c :=
  ⟨fun x hx => (k.others x hx).trans (h.others x hx), k.size.trans h.size, fun j => (k.frozen j).trans (h.frozen j), h.below.trans k.below⟩

/-- A row's cells, numbered from m on; nothing else has turned. -/
structure MarkedRow (a : Option Addr) (n k : Nat) (m : Int) (w w' : World) : Prop where
  cells : ∀ g, rowBlk a n = some g → ∀ j, j < n * k → w'.cell? ⟨g, j, none⟩ = some (.int .i64 (m + j))
  grown : w.grownBy w' (rowBlk a n)
  size : w'.heap.size = w.heap.size
theorem OnlyBlock.grownBy {g : Nat} {w w' : World} (h : OnlyBlock g w w') : w.grownBy w' (some g) :=
  ⟨h.below.os, h.below.tape, h.below.output, Nat.le_of_eq h.size.symm, fun b _ hb => h.others b (fun e => hb (by rw [e]))⟩
theorem Row.cellsOf {α : Type} {w : World} {B e n k : Nat} {a : Option Addr} {R : α → List Value} {zs : List α} (h : Row w B e a n k R zs) (hn : zs.length = n) (hR : ∀ z, (R z).length = k) (hp : 0 < n) :
    ∃ g, a = some ⟨g, 0, none⟩ ∧ rowBlk a n = some g ∧ (∀ j, j < n * k → ∃ v, w.cell? ⟨g, j, none⟩ = some v) ∧ ∀ j, w.frozen? ⟨g, j, none⟩ = false := by
  obtain ⟨g, cur, rfl, h2, h3, h4, h5⟩ := h.own hp
  refine ⟨g, rfl, by simp [rowBlk]; omega, fun j hj => ⟨_, (cell_of_block h3 j).trans (Array.getElem?_eq_getElem (by omega))⟩, fun j => unfrozen_of_block h3 j⟩


set_option maxHeartbeats 4000000 in
theorem markEntS_c (f n cap : Nat) (m : Int) (w : World) (hlc : n ≤ cap) (hm0 : 0 ≤ m) (hm1 : m ≤ 1099511627776) (hn : n ≤ 1099511627776) (hc : ∀ j, j < n * 5 → ∃ v, w.cell? ⟨f, j, none⟩ = some v) (hf : ∀ j, w.frozen? ⟨f, j, none⟩ = false) :
    Calls Tryd.prog 85 #[.slice (some ⟨f, 0, none⟩) n cap, .int .i64 m] w fun e w' => e = .returned (.int .i64 (m + ((n * 5 : Nat) : Int))) ∧ (∀ j, j < n * 5 → w'.cell? ⟨f, j, none⟩ = some (.int .i64 (m + j))) ∧ OnlyBlock f w w' := by
  have HC := Lib.hid hc
  have HF := Lib.hid hf
  clear hc hf
  go_enter Tryd.func85, Tryd.ntmps85
  go_wp2_with fail
  go_loopw [1, 5] (fun s i wr => ∃ k : Nat, k ≤ n ∧ i = .int .i64 k ∧ s = .int .i64 (m + ((k * 5 : Nat) : Int)) ∧ (∀ j, j < k * 5 → wr.cell? ⟨f, j, none⟩ = some (.int .i64 (m + j))) ∧ (∀ j, k * 5 ≤ j → wr.cell? ⟨f, j, none⟩ = w.cell? ⟨f, j, none⟩) ∧ OnlyBlock f w wr) (fun _ i _ => n - (intOf i).toNat)
  case atStart => exact ⟨0, Nat.zero_le _, rfl, by simp, fun j hj => absurd hj (by omega), fun _ _ => rfl, OnlyBlock.refl _ _⟩
  case round =>
    obtain ⟨k, hk, rfl, rfl, h1, h2, hob⟩ := hrel
    have H1 := Lib.hid h1
    have H2 := Lib.hid h2
    clear h1 h2
    generalize hK5 : k * 5 = k5 at *
    by_cases hlt : k < n
    · have hk1 : (k : Int) < (n : Int) := by omega
      have hk0 : (0 : Int) ≤ (k : Int) := by omega
      have hcell : ∀ i, i < 5 → ∃ v, wr.cell? ⟨f, k5 + i, none⟩ = some v := fun i hi => by
        obtain ⟨v, hv⟩ := HC.out (k5 + i) (by omega)
        exact ⟨v, (H2.out _ (by omega)).trans hv⟩
      obtain ⟨v0, c0⟩ := hcell 0 (by decide)
      obtain ⟨v1, c1⟩ := hcell 1 (by decide)
      obtain ⟨v2, c2⟩ := hcell 2 (by decide)
      obtain ⟨v3, c3⟩ := hcell 3 (by decide)
      obtain ⟨v4, c4⟩ := hcell 4 (by decide)
      rw [Nat.add_zero] at c0
      have ff : ∀ j, wr.frozen? ⟨f, j, none⟩ = false := fun j => (hob.frozen j).trans (HF.out j)
      have hw1 : IntKind.i64.wrap (m + (k5 : Int) + 1) = m + (k5 : Int) + 1 := IntWalk.i64_in _ ⟨by omega, by omega⟩
      have hw2 : IntKind.i64.wrap (m + (k5 : Int) + 1 + 1) = m + (k5 : Int) + 1 + 1 := IntWalk.i64_in _ ⟨by omega, by omega⟩
      have hw3 : IntKind.i64.wrap (m + (k5 : Int) + 1 + 1 + 1) = m + (k5 : Int) + 1 + 1 + 1 := IntWalk.i64_in _ ⟨by omega, by omega⟩
      have hw4 : IntKind.i64.wrap (m + (k5 : Int) + 1 + 1 + 1 + 1) = m + (k5 : Int) + 1 + 1 + 1 + 1 := IntWalk.i64_in _ ⟨by omega, by omega⟩
      have hw5 : IntKind.i64.wrap (m + (k5 : Int) + 1 + 1 + 1 + 1 + 1) = m + (k5 : Int) + 1 + 1 + 1 + 1 + 1 := IntWalk.i64_in _ ⟨by omega, by omega⟩
      obtain ⟨W, hW, d0, d1, d2, d3, d4, dO, dB⟩ := five_stores wr f k5 (.int .i64 (m + (k5 : Int))) (.int .i64 (m + (k5 : Int) + 1)) (.int .i64 (m + (k5 : Int) + 1 + 1)) (.int .i64 (m + (k5 : Int) + 1 + 1 + 1)) (.int .i64 (m + (k5 : Int) + 1 + 1 + 1 + 1)) (by rw [c0]; rfl) (by rw [c1]; rfl) (by rw [c2]; rfl) (by rw [c3]; rfl) (by rw [c4]; rfl)
      have HW := Lib.hid hW
      have D := Lib.hid (And.intro d0 (And.intro d1 (And.intro d2 (And.intro d3 d4))))
      have DO := Lib.hid dO
      clear hW d0 d1 d2 d3 d4 dO hcell
      go_wp2_with fail
      go_roundw
      case rel =>
        rw [← HW.out]
        refine ⟨k + 1, by omega, by go_num, by go_num, fun j hj => ?_, fun j hj => ?_, hob.trans dB⟩
        · by_cases h5 : j < k5
          · exact (DO.out j (.inl h5)).trans (H1.out j h5)
          · obtain ⟨d0, d1, d2, d3, d4⟩ := D.out
            rcases (show j = k5 ∨ j = k5 + 1 ∨ j = k5 + 2 ∨ j = k5 + 3 ∨ j = k5 + 4 by omega) with rfl | rfl | rfl | rfl | rfl
            · exact d0
            · exact d1.trans (by go_num)
            · exact d2.trans (by go_num)
            · exact d3.trans (by go_num)
            · exact d4.trans (by go_num)
        · exact (DO.out j (.inr (by omega))).trans (H2.out j (by omega))
      case measure => simp [intOf]; omega
    · have hkk : n = k := by omega
      subst hkk
      subst hK5
      go_wp2_with fail
      go_ret
      exact ⟨rfl, H1.out, hob⟩

set_option maxHeartbeats 4000000 in
theorem heldEntS_c (f n cap : Nat) (m : Int) (w : World) (hlc : n ≤ cap) (hm0 : 0 ≤ m) (hm1 : m ≤ 1099511627776) (hn : n ≤ 1099511627776) (hc : ∀ j, j < n * 5 → w.cell? ⟨f, j, none⟩ = some (.int .i64 (m + j))) :
    Calls Tryd.prog 87 #[.slice (some ⟨f, 0, none⟩) n cap, .int .i64 m] w fun e w' => e = .returned (.int .i64 (m + ((n * 5 : Nat) : Int))) ∧ w = w' := by
  have HC := Lib.hid hc
  clear hc
  go_enter Tryd.func87, Tryd.ntmps87
  go_wp2_with fail
  go_loop [1, 5] (fun s i => ∃ k : Nat, k ≤ n ∧ i = .int .i64 k ∧ s = .int .i64 (m + ((k * 5 : Nat) : Int))) (fun _ i => n - (intOf i).toNat)
  case atStart => exact ⟨0, Nat.zero_le _, rfl, by simp⟩
  case round =>
    obtain ⟨k, hk, rfl, rfl⟩ := hrel
    generalize hK5 : k * 5 = k5 at *
    by_cases hlt : k < n
    · have hk1 : (k : Int) < (n : Int) := by omega
      have hk0 : (0 : Int) ≤ (k : Int) := by omega
      have c0 := HC.out k5 (by omega)
      have c1 : w.cell? ⟨f, k5 + 1, none⟩ = some (.int .i64 (m + (k5 : Int) + 1)) := (HC.out (k5 + 1) (by omega)).trans (by go_num)
      have c2 : w.cell? ⟨f, k5 + 2, none⟩ = some (.int .i64 (m + (k5 : Int) + 1 + 1)) := (HC.out (k5 + 2) (by omega)).trans (by go_num)
      have c3 : w.cell? ⟨f, k5 + 3, none⟩ = some (.int .i64 (m + (k5 : Int) + 1 + 1 + 1)) := (HC.out (k5 + 3) (by omega)).trans (by go_num)
      have c4 : w.cell? ⟨f, k5 + 4, none⟩ = some (.int .i64 (m + (k5 : Int) + 1 + 1 + 1 + 1)) := (HC.out (k5 + 4) (by omega)).trans (by go_num)
      have hw1 : IntKind.i64.wrap (m + (k5 : Int) + 1) = m + (k5 : Int) + 1 := IntWalk.i64_in _ ⟨by omega, by omega⟩
      have hw2 : IntKind.i64.wrap (m + (k5 : Int) + 1 + 1) = m + (k5 : Int) + 1 + 1 := IntWalk.i64_in _ ⟨by omega, by omega⟩
      have hw3 : IntKind.i64.wrap (m + (k5 : Int) + 1 + 1 + 1) = m + (k5 : Int) + 1 + 1 + 1 := IntWalk.i64_in _ ⟨by omega, by omega⟩
      have hw4 : IntKind.i64.wrap (m + (k5 : Int) + 1 + 1 + 1 + 1) = m + (k5 : Int) + 1 + 1 + 1 + 1 := IntWalk.i64_in _ ⟨by omega, by omega⟩
      have hw5 : IntKind.i64.wrap (m + (k5 : Int) + 1 + 1 + 1 + 1 + 1) = m + (k5 : Int) + 1 + 1 + 1 + 1 + 1 := IntWalk.i64_in _ ⟨by omega, by omega⟩
      go_wp2_with fail
      go_round
      case rel => exact ⟨k + 1, by omega, by go_num, by go_num⟩
      case measure => simp [intOf]; omega
    · have hkk : n = k := by omega
      subst hkk
      subst hK5
      go_wp2_with fail
      go_ret
      exact ⟨rfl, rfl⟩

set_option maxHeartbeats 1000000 in
theorem markEntS_0 (a : Option Addr) (cap : Nat) (m : Int) (w : World) : Calls Tryd.prog 85 #[.slice a 0 cap, .int .i64 m] w fun e w' => e = .returned (.int .i64 m) ∧ w = w' := by
  go_enter Tryd.func85, Tryd.ntmps85
  go_wp2_with fail
  refine wp_loop_rounds 1 ?_
  rw [rounds_succ]
  go_wp2_with fail
  go_ret
  exact ⟨rfl, rfl⟩
set_option maxHeartbeats 1000000 in
theorem heldEntS_0 (a : Option Addr) (cap : Nat) (m : Int) (w : World) : Calls Tryd.prog 87 #[.slice a 0 cap, .int .i64 m] w fun e w' => e = .returned (.int .i64 m) ∧ w = w' := by
  go_enter Tryd.func87, Tryd.ntmps87
  go_wp2_with fail
  refine wp_loop_rounds 1 ?_
  rw [rounds_succ]
  go_wp2_with fail
  go_ret
  exact ⟨rfl, rfl⟩

/-- A row marked. -/
theorem markEnts_r {B n : Nat} {a : Option Addr} {zs : List Rq} (m : Int) (w : World) (h : Row w B 92 a n 5 Rq.cs zs) (hl : zs.length = n) (hm0 : 0 ≤ m) (hm1 : m ≤ 1099511627776) (hn : n ≤ 1099511627776) :
    Calls Tryd.prog 85 #[.slice a n n, .int .i64 m] w fun e w' => e = .returned (.int .i64 (m + ((n * 5 : Nat) : Int))) ∧ MarkedRow a n 5 m w w' := by
  by_cases hp : 0 < n
  · obtain ⟨g, rfl, hg, hc, hf⟩ := h.cellsOf hl five_len hp
    refine (markEntS_c g n n m w (Nat.le_refl _) hm0 hm1 hn hc hf).mono fun e w' ⟨he, hm, ho⟩ => ⟨he, fun g' hg' j hj => ?_, ?_, ho.size⟩
    · rw [hg] at hg'
      injection hg' with hg'
      subst hg'
      exact hm j hj
    · rw [hg]
      exact ho.grownBy
  · obtain rfl : n = 0 := by omega
    refine (markEntS_0 a 0 m w).mono fun e w' ⟨he, hw⟩ => ?_
    subst hw
    exact ⟨by simpa using he, fun g hg => by simp [rowBlk] at hg, World.grownBy.refl w _, rfl⟩
theorem heldEnts_r {B n : Nat} {a : Option Addr} {zs : List Rq} {w0 : World} (m : Int) (w : World) (h : Row w0 B 92 a n 5 Rq.cs zs) (hl : zs.length = n) (hc : ∀ g, rowBlk a n = some g → ∀ j, j < n * 5 → w.cell? ⟨g, j, none⟩ = some (.int .i64 (m + j))) (hm0 : 0 ≤ m) (hm1 : m ≤ 1099511627776) (hn : n ≤ 1099511627776) :
    Calls Tryd.prog 87 #[.slice a n n, .int .i64 m] w fun e w' => e = .returned (.int .i64 (m + ((n * 5 : Nat) : Int))) ∧ w = w' := by
  by_cases hp : 0 < n
  · obtain ⟨g, rfl, hg, _, _⟩ := h.cellsOf hl five_len hp
    exact heldEntS_c g n n m w (Nat.le_refl _) hm0 hm1 hn (hc g hg)
  · obtain rfl : n = 0 := by omega
    refine (heldEntS_0 a 0 m w).mono fun e w' ⟨he, hw⟩ => ⟨by simpa using he, hw⟩


set_option maxHeartbeats 1000000 in
theorem markIntS_0 (a : Option Addr) (cap : Nat) (m : Int) (w : World) : Calls Tryd.prog 86 #[.slice a 0 cap, .int .i64 m] w fun e w' => e = .returned (.int .i64 m) ∧ w = w' := by
  go_enter Tryd.func86, Tryd.ntmps86
  go_wp2_with fail
  refine wp_loop_rounds 1 ?_
  rw [rounds_succ]
  go_wp2_with fail
  go_ret
  exact ⟨rfl, rfl⟩
set_option maxHeartbeats 1000000 in
theorem heldIntS_0 (a : Option Addr) (cap : Nat) (m : Int) (w : World) : Calls Tryd.prog 88 #[.slice a 0 cap, .int .i64 m] w fun e w' => e = .returned (.int .i64 m) ∧ w = w' := by
  go_enter Tryd.func88, Tryd.ntmps88
  go_wp2_with fail
  refine wp_loop_rounds 1 ?_
  rw [rounds_succ]
  go_wp2_with fail
  go_ret
  exact ⟨rfl, rfl⟩
theorem markInt_r {B n : Nat} {a : Option Addr} {zs : List Int} (m : Int) (w : World) (h : Row w B 3 a n 1 intR zs) (hl : zs.length = n) (hm0 : 0 ≤ m) (hm1 : m ≤ 1099511627776) (hn : n ≤ 1099511627776) :
    Calls Tryd.prog 86 #[.slice a n n, .int .i64 m] w fun e w' => e = .returned (.int .i64 (m + (n : Int))) ∧ MarkedRow a n 1 m w w' := by
  by_cases hp : 0 < n
  · obtain ⟨g, rfl, hg, hc, hf⟩ := h.cellsOf hl int_len hp
    refine (markIntS_c g n n m w (Nat.le_refl _) hm0 hm1 hn (fun j hj => hc j (by omega)) (fun j _ => hf j)).mono fun e w' ⟨he, hm, ho⟩ => ⟨he, fun g' hg' j hj => ?_, ?_, ho.size⟩
    · rw [hg] at hg'
      injection hg' with hg'
      subst hg'
      exact hm j (by omega)
    · rw [hg]
      exact ho.grownBy
  · obtain rfl : n = 0 := by omega
    refine (markIntS_0 a 0 m w).mono fun e w' ⟨he, hw⟩ => ?_
    subst hw
    exact ⟨by simpa using he, fun g hg => by simp [rowBlk] at hg, World.grownBy.refl w _, rfl⟩
theorem heldInt_r {B n : Nat} {a : Option Addr} {zs : List Int} {w0 : World} (m : Int) (w : World) (h : Row w0 B 3 a n 1 intR zs) (hl : zs.length = n) (hc : ∀ g, rowBlk a n = some g → ∀ j, j < n * 1 → w.cell? ⟨g, j, none⟩ = some (.int .i64 (m + j))) (hm0 : 0 ≤ m) (hm1 : m ≤ 1099511627776) (hn : n ≤ 1099511627776) :
    Calls Tryd.prog 88 #[.slice a n n, .int .i64 m] w fun e w' => e = .returned (.int .i64 (m + (n : Int))) ∧ w = w' := by
  by_cases hp : 0 < n
  · obtain ⟨g, rfl, hg, _, _⟩ := h.cellsOf hl int_len hp
    exact heldIntS_c g n n m w (Nat.le_refl _) hm0 hm1 hn (fun j hj => hc g hg j (by omega))
  · obtain rfl : n = 0 := by omega
    refine (heldIntS_0 a 0 m w).mono fun e w' ⟨he, hw⟩ => ⟨by simpa using he, hw⟩
end Go.Proofs.YtilldpoleiippaaDoor

/-! Contracts of markEntryS, heldEntryS; condition: small numbers. -/
namespace Go.Proofs.YtilldpoleiippaaDoor
open Go.RowKit Go.Joins

/-- Six stores, one behind the other, into the cells from j on. -/
theorem six_stores (w : World) (f j : Nat) (v0 v1 v2 v3 v4 v5 : Value) (h0 : (w.cell? ⟨f, j, none⟩).isSome = true) (h1 : (w.cell? ⟨f, j + 1, none⟩).isSome = true) (h2 : (w.cell? ⟨f, j + 2, none⟩).isSome = true) (h3 : (w.cell? ⟨f, j + 3, none⟩).isSome = true) (h4 : (w.cell? ⟨f, j + 4, none⟩).isSome = true) (h5 : (w.cell? ⟨f, j + 5, none⟩).isSome = true) :
    ∃ W, W = (((((w.setCell ⟨f, j, none⟩ v0).setCell ⟨f, j + 1, none⟩ v1).setCell ⟨f, j + 2, none⟩ v2).setCell ⟨f, j + 3, none⟩ v3).setCell ⟨f, j + 4, none⟩ v4).setCell ⟨f, j + 5, none⟩ v5 ∧
      W.cell? ⟨f, j, none⟩ = some v0 ∧ W.cell? ⟨f, j + 1, none⟩ = some v1 ∧ W.cell? ⟨f, j + 2, none⟩ = some v2 ∧ W.cell? ⟨f, j + 3, none⟩ = some v3 ∧ W.cell? ⟨f, j + 4, none⟩ = some v4 ∧ W.cell? ⟨f, j + 5, none⟩ = some v5 ∧
      (∀ i, i < j ∨ j + 6 ≤ i → W.cell? ⟨f, i, none⟩ = w.cell? ⟨f, i, none⟩) ∧ OnlyBlock f w W := by
  refine ⟨_, rfl, ?_, ?_, ?_, ?_, ?_, ?_, fun i hi => ?_, (((((((OnlyBlock.refl f w).set _ _).set _ _).set _ _).set _ _).set _ _).set _ _)⟩
  · rw [World.cell?_setCell_other (h := by simp), World.cell?_setCell_other (h := by simp), World.cell?_setCell_other (h := by simp), World.cell?_setCell_other (h := by simp), World.cell?_setCell_other (h := by simp), World.cell?_setCell_same' _ _ _ h0]
  · rw [World.cell?_setCell_other (h := by simp), World.cell?_setCell_other (h := by simp), World.cell?_setCell_other (h := by simp), World.cell?_setCell_other (h := by simp), World.cell?_setCell_same' _ _ _ (by rw [World.cell?_setCell_other (h := by simp)]; exact h1)]
  · rw [World.cell?_setCell_other (h := by simp), World.cell?_setCell_other (h := by simp), World.cell?_setCell_other (h := by simp), World.cell?_setCell_same' _ _ _ (by rw [World.cell?_setCell_other (h := by simp), World.cell?_setCell_other (h := by simp)]; exact h2)]
  · rw [World.cell?_setCell_other (h := by simp), World.cell?_setCell_other (h := by simp), World.cell?_setCell_same' _ _ _ (by rw [World.cell?_setCell_other (h := by simp), World.cell?_setCell_other (h := by simp), World.cell?_setCell_other (h := by simp)]; exact h3)]
  · rw [World.cell?_setCell_other (h := by simp), World.cell?_setCell_same' _ _ _ (by rw [World.cell?_setCell_other (h := by simp), World.cell?_setCell_other (h := by simp), World.cell?_setCell_other (h := by simp), World.cell?_setCell_other (h := by simp)]; exact h4)]
  · rw [World.cell?_setCell_same' _ _ _ (by rw [World.cell?_setCell_other (h := by simp), World.cell?_setCell_other (h := by simp), World.cell?_setCell_other (h := by simp), World.cell?_setCell_other (h := by simp), World.cell?_setCell_other (h := by simp)]; exact h5)]
  · rw [World.cell?_setCell_other (h := by simp <;> omega), World.cell?_setCell_other (h := by simp <;> omega), World.cell?_setCell_other (h := by simp <;> omega), World.cell?_setCell_other (h := by simp <;> omega), World.cell?_setCell_other (h := by simp <;> omega), World.cell?_setCell_other (h := by simp <;> omega)]

set_option maxHeartbeats 4000000 in
theorem markEntryS_c (f n cap : Nat) (m : Int) (w : World) (hlc : n ≤ cap) (hm0 : 0 ≤ m) (hm1 : m ≤ 1099511627776) (hn : n ≤ 1099511627776) (hc : ∀ j, j < n * 6 → ∃ v, w.cell? ⟨f, j, none⟩ = some v) (hf : ∀ j, w.frozen? ⟨f, j, none⟩ = false) :
    Calls Tryd.prog 15 #[.slice (some ⟨f, 0, none⟩) n cap, .int .i64 m] w fun e w' => e = .returned (.int .i64 (m + ((n * 6 : Nat) : Int))) ∧ (∀ j, j < n * 6 → w'.cell? ⟨f, j, none⟩ = some (.int .i64 (m + j))) ∧ OnlyBlock f w w' := by
  have HC := Lib.hid hc
  have HF := Lib.hid hf
  clear hc hf
  go_enter Tryd.func15, Tryd.ntmps15
  go_wp2_with fail
  go_loopw [1, 5] (fun s i wr => ∃ k : Nat, k ≤ n ∧ i = .int .i64 k ∧ s = .int .i64 (m + ((k * 6 : Nat) : Int)) ∧ (∀ j, j < k * 6 → wr.cell? ⟨f, j, none⟩ = some (.int .i64 (m + j))) ∧ (∀ j, k * 6 ≤ j → wr.cell? ⟨f, j, none⟩ = w.cell? ⟨f, j, none⟩) ∧ OnlyBlock f w wr) (fun _ i _ => n - (intOf i).toNat)
  case atStart => exact ⟨0, Nat.zero_le _, rfl, by simp, fun j hj => absurd hj (by omega), fun _ _ => rfl, OnlyBlock.refl _ _⟩
  case round =>
    obtain ⟨k, hk, rfl, rfl, h1, h2, hob⟩ := hrel
    have H1 := Lib.hid h1
    have H2 := Lib.hid h2
    clear h1 h2
    generalize hK6 : k * 6 = k6 at *
    by_cases hlt : k < n
    · have hk1 : (k : Int) < (n : Int) := by omega
      have hk0 : (0 : Int) ≤ (k : Int) := by omega
      have hcell : ∀ i, i < 6 → ∃ v, wr.cell? ⟨f, k6 + i, none⟩ = some v := fun i hi => by
        obtain ⟨v, hv⟩ := HC.out (k6 + i) (by omega)
        exact ⟨v, (H2.out _ (by omega)).trans hv⟩
      obtain ⟨v0, c0⟩ := hcell 0 (by decide)
      obtain ⟨v1, c1⟩ := hcell 1 (by decide)
      obtain ⟨v2, c2⟩ := hcell 2 (by decide)
      obtain ⟨v3, c3⟩ := hcell 3 (by decide)
      obtain ⟨v4, c4⟩ := hcell 4 (by decide)
      obtain ⟨v5, c5⟩ := hcell 5 (by decide)
      rw [Nat.add_zero] at c0
      have ff : ∀ j, wr.frozen? ⟨f, j, none⟩ = false := fun j => (hob.frozen j).trans (HF.out j)
      have hw1 : IntKind.i64.wrap (m + (k6 : Int) + 1) = m + (k6 : Int) + 1 := IntWalk.i64_in _ ⟨by omega, by omega⟩
      have hw2 : IntKind.i64.wrap (m + (k6 : Int) + 1 + 1) = m + (k6 : Int) + 1 + 1 := IntWalk.i64_in _ ⟨by omega, by omega⟩
      have hw3 : IntKind.i64.wrap (m + (k6 : Int) + 1 + 1 + 1) = m + (k6 : Int) + 1 + 1 + 1 := IntWalk.i64_in _ ⟨by omega, by omega⟩
      have hw4 : IntKind.i64.wrap (m + (k6 : Int) + 1 + 1 + 1 + 1) = m + (k6 : Int) + 1 + 1 + 1 + 1 := IntWalk.i64_in _ ⟨by omega, by omega⟩
      have hw5 : IntKind.i64.wrap (m + (k6 : Int) + 1 + 1 + 1 + 1 + 1) = m + (k6 : Int) + 1 + 1 + 1 + 1 + 1 := IntWalk.i64_in _ ⟨by omega, by omega⟩
      have hw6 : IntKind.i64.wrap (m + (k6 : Int) + 1 + 1 + 1 + 1 + 1 + 1) = m + (k6 : Int) + 1 + 1 + 1 + 1 + 1 + 1 := IntWalk.i64_in _ ⟨by omega, by omega⟩
      obtain ⟨W, hW, d0, d1, d2, d3, d4, d5, dO, dB⟩ := six_stores wr f k6 (.int .i64 (m + (k6 : Int))) (.int .i64 (m + (k6 : Int) + 1)) (.int .i64 (m + (k6 : Int) + 1 + 1)) (.int .i64 (m + (k6 : Int) + 1 + 1 + 1)) (.int .i64 (m + (k6 : Int) + 1 + 1 + 1 + 1)) (.int .i64 (m + (k6 : Int) + 1 + 1 + 1 + 1 + 1)) (by rw [c0]; rfl) (by rw [c1]; rfl) (by rw [c2]; rfl) (by rw [c3]; rfl) (by rw [c4]; rfl) (by rw [c5]; rfl)
      have HW := Lib.hid hW
      have D := Lib.hid (And.intro d0 (And.intro d1 (And.intro d2 (And.intro d3 (And.intro d4 d5)))))
      have DO := Lib.hid dO
      clear hW d0 d1 d2 d3 d4 d5 dO hcell
      go_wp2_with fail
      go_roundw
      case rel =>
        rw [← HW.out]
        refine ⟨k + 1, by omega, by go_num, by go_num, fun j hj => ?_, fun j hj => ?_, hob.trans dB⟩
        · by_cases h6 : j < k6
          · exact (DO.out j (.inl h6)).trans (H1.out j h6)
          · obtain ⟨d0, d1, d2, d3, d4, d5⟩ := D.out
            rcases (show j = k6 ∨ j = k6 + 1 ∨ j = k6 + 2 ∨ j = k6 + 3 ∨ j = k6 + 4 ∨ j = k6 + 5 by omega) with rfl | rfl | rfl | rfl | rfl | rfl
            · exact d0
            · exact d1.trans (by go_num)
            · exact d2.trans (by go_num)
            · exact d3.trans (by go_num)
            · exact d4.trans (by go_num)
            · exact d5.trans (by go_num)
        · exact (DO.out j (.inr (by omega))).trans (H2.out j (by omega))
      case measure => simp [intOf]; omega
    · have hkk : n = k := by omega
      subst hkk
      subst hK6
      go_wp2_with fail
      go_ret
      exact ⟨rfl, H1.out, hob⟩

set_option maxHeartbeats 4000000 in
theorem heldEntryS_c (f n cap : Nat) (m : Int) (w : World) (hlc : n ≤ cap) (hm0 : 0 ≤ m) (hm1 : m ≤ 1099511627776) (hn : n ≤ 1099511627776) (hc : ∀ j, j < n * 6 → w.cell? ⟨f, j, none⟩ = some (.int .i64 (m + j))) :
    Calls Tryd.prog 16 #[.slice (some ⟨f, 0, none⟩) n cap, .int .i64 m] w fun e w' => e = .returned (.int .i64 (m + ((n * 6 : Nat) : Int))) ∧ w = w' := by
  have HC := Lib.hid hc
  clear hc
  go_enter Tryd.func16, Tryd.ntmps16
  go_wp2_with fail
  go_loop [1, 5] (fun s i => ∃ k : Nat, k ≤ n ∧ i = .int .i64 k ∧ s = .int .i64 (m + ((k * 6 : Nat) : Int))) (fun _ i => n - (intOf i).toNat)
  case atStart => exact ⟨0, Nat.zero_le _, rfl, by simp⟩
  case round =>
    obtain ⟨k, hk, rfl, rfl⟩ := hrel
    generalize hK6 : k * 6 = k6 at *
    by_cases hlt : k < n
    · have hk1 : (k : Int) < (n : Int) := by omega
      have hk0 : (0 : Int) ≤ (k : Int) := by omega
      have c0 := HC.out k6 (by omega)
      have c1 : w.cell? ⟨f, k6 + 1, none⟩ = some (.int .i64 (m + (k6 : Int) + 1)) := (HC.out (k6 + 1) (by omega)).trans (by go_num)
      have c2 : w.cell? ⟨f, k6 + 2, none⟩ = some (.int .i64 (m + (k6 : Int) + 1 + 1)) := (HC.out (k6 + 2) (by omega)).trans (by go_num)
      have c3 : w.cell? ⟨f, k6 + 3, none⟩ = some (.int .i64 (m + (k6 : Int) + 1 + 1 + 1)) := (HC.out (k6 + 3) (by omega)).trans (by go_num)
      have c4 : w.cell? ⟨f, k6 + 4, none⟩ = some (.int .i64 (m + (k6 : Int) + 1 + 1 + 1 + 1)) := (HC.out (k6 + 4) (by omega)).trans (by go_num)
      have c5 : w.cell? ⟨f, k6 + 5, none⟩ = some (.int .i64 (m + (k6 : Int) + 1 + 1 + 1 + 1 + 1)) := (HC.out (k6 + 5) (by omega)).trans (by go_num)
      have hw1 : IntKind.i64.wrap (m + (k6 : Int) + 1) = m + (k6 : Int) + 1 := IntWalk.i64_in _ ⟨by omega, by omega⟩
      have hw2 : IntKind.i64.wrap (m + (k6 : Int) + 1 + 1) = m + (k6 : Int) + 1 + 1 := IntWalk.i64_in _ ⟨by omega, by omega⟩
      have hw3 : IntKind.i64.wrap (m + (k6 : Int) + 1 + 1 + 1) = m + (k6 : Int) + 1 + 1 + 1 := IntWalk.i64_in _ ⟨by omega, by omega⟩
      have hw4 : IntKind.i64.wrap (m + (k6 : Int) + 1 + 1 + 1 + 1) = m + (k6 : Int) + 1 + 1 + 1 + 1 := IntWalk.i64_in _ ⟨by omega, by omega⟩
      have hw5 : IntKind.i64.wrap (m + (k6 : Int) + 1 + 1 + 1 + 1 + 1) = m + (k6 : Int) + 1 + 1 + 1 + 1 + 1 := IntWalk.i64_in _ ⟨by omega, by omega⟩
      have hw6 : IntKind.i64.wrap (m + (k6 : Int) + 1 + 1 + 1 + 1 + 1 + 1) = m + (k6 : Int) + 1 + 1 + 1 + 1 + 1 + 1 := IntWalk.i64_in _ ⟨by omega, by omega⟩
      go_wp2_with fail
      go_round
      case rel => exact ⟨k + 1, by omega, by go_num, by go_num⟩
      case measure => simp [intOf]; omega
    · have hkk : n = k := by omega
      subst hkk
      subst hK6
      go_wp2_with fail
      go_ret
      exact ⟨rfl, rfl⟩

set_option maxHeartbeats 1000000 in
theorem markEntryS_0 (a : Option Addr) (cap : Nat) (m : Int) (w : World) : Calls Tryd.prog 15 #[.slice a 0 cap, .int .i64 m] w fun e w' => e = .returned (.int .i64 m) ∧ w = w' := by
  go_enter Tryd.func15, Tryd.ntmps15
  go_wp2_with fail
  refine wp_loop_rounds 1 ?_
  rw [rounds_succ]
  go_wp2_with fail
  go_ret
  exact ⟨rfl, rfl⟩
set_option maxHeartbeats 1000000 in
theorem heldEntryS_0 (a : Option Addr) (cap : Nat) (m : Int) (w : World) : Calls Tryd.prog 16 #[.slice a 0 cap, .int .i64 m] w fun e w' => e = .returned (.int .i64 m) ∧ w = w' := by
  go_enter Tryd.func16, Tryd.ntmps16
  go_wp2_with fail
  refine wp_loop_rounds 1 ?_
  rw [rounds_succ]
  go_wp2_with fail
  go_ret
  exact ⟨rfl, rfl⟩

/-- A row marked. -/
theorem markEntrys_r {B n : Nat} {a : Option Addr} {zs : List En} (m : Int) (w : World) (h : Row w B 67 a n 6 En.cs zs) (hl : zs.length = n) (hm0 : 0 ≤ m) (hm1 : m ≤ 1099511627776) (hn : n ≤ 1099511627776) :
    Calls Tryd.prog 15 #[.slice a n n, .int .i64 m] w fun e w' => e = .returned (.int .i64 (m + ((n * 6 : Nat) : Int))) ∧ MarkedRow a n 6 m w w' := by
  by_cases hp : 0 < n
  · obtain ⟨g, rfl, hg, hc, hf⟩ := h.cellsOf hl six_len hp
    refine (markEntryS_c g n n m w (Nat.le_refl _) hm0 hm1 hn hc hf).mono fun e w' ⟨he, hm, ho⟩ => ⟨he, fun g' hg' j hj => ?_, ?_, ho.size⟩
    · rw [hg] at hg'
      injection hg' with hg'
      subst hg'
      exact hm j hj
    · rw [hg]
      exact ho.grownBy
  · obtain rfl : n = 0 := by omega
    refine (markEntryS_0 a 0 m w).mono fun e w' ⟨he, hw⟩ => ?_
    subst hw
    exact ⟨by simpa using he, fun g hg => by simp [rowBlk] at hg, World.grownBy.refl w _, rfl⟩
theorem heldEntrys_r {B n : Nat} {a : Option Addr} {zs : List En} {w0 : World} (m : Int) (w : World) (h : Row w0 B 67 a n 6 En.cs zs) (hl : zs.length = n) (hc : ∀ g, rowBlk a n = some g → ∀ j, j < n * 6 → w.cell? ⟨g, j, none⟩ = some (.int .i64 (m + j))) (hm0 : 0 ≤ m) (hm1 : m ≤ 1099511627776) (hn : n ≤ 1099511627776) :
    Calls Tryd.prog 16 #[.slice a n n, .int .i64 m] w fun e w' => e = .returned (.int .i64 (m + ((n * 6 : Nat) : Int))) ∧ w = w' := by
  by_cases hp : 0 < n
  · obtain ⟨g, rfl, hg, _, _⟩ := h.cellsOf hl six_len hp
    exact heldEntryS_c g n n m w (Nat.le_refl _) hm0 hm1 hn (hc g hg)
  · obtain rfl : n = 0 := by omega
    refine (heldEntryS_0 a 0 m w).mono fun e w' ⟨he, hw⟩ => ⟨by simpa using he, hw⟩
end Go.Proofs.YtilldpoleiippaaDoor

/-! A cell of an own row stored: the row with one element turned; no condition. -/
namespace Go.Proofs.YtilldpoleiippaaDoor
open Go.RowKit Go.Joins

theorem Row.setOne {α : Type} {w : World} {B : Nat} {e : TypeId} {a : Option Addr} {cap k : Nat} {R : α → List Value} {zs : List α} (h : Row w B e a cap k R zs) (hR : ∀ z, (R z).length = k) {i j g : Nat} (hi : i < zs.length) (hj : j < k) (z' : α) (v : Value)
    (hv : (R z')[j]? = some v) (ho : ∀ j', j' < k → j' ≠ j → (R z')[j']? = (R zs[i])[j']?) (ha : a = some ⟨g, 0, none⟩) : Row (w.setCell ⟨g, i * k + j, none⟩ v) B e a cap k R (zs.set i z') := by
  refine ⟨by simpa using h.len, h.max, fun hc => ?_⟩
  obtain ⟨g', cur, q1, q2, q3, q4, q5⟩ := h.own hc
  obtain rfl : g = g' := by rw [ha] at q1; injection q1 with q1; injection q1
  refine ⟨g, cur.setIfInBounds (i * k + j) v, ha, q2, block_setCell q3 v, by simpa using q4, fun m hm => ?_⟩
  rw [List.length_set] at hm
  have hk : 0 < k := by omega
  have hq : m / k < zs.length := Nat.div_lt_of_lt_mul (by rw [Nat.mul_comm]; exact hm)
  have hr : m % k < k := Nat.mod_lt _ hk
  have he : m / k * k + m % k = m := by rw [Nat.mul_comm]; exact Nat.div_add_mod m k
  have f1 := flat_get hR (zs.set i z') (m / k) (by simpa using hq) (m % k) hr
  have f2 := flat_get hR zs (m / k) hq (m % k) hr
  rw [he] at f1 f2
  rw [f1, Array.getElem?_setIfInBounds]
  by_cases hm2 : i * k + j = m
  · have h1 : m / k = i := by rw [← hm2, Nat.mul_comm, Nat.mul_add_div hk, Nat.div_eq_of_lt hj, Nat.add_zero]
    have h2 : m % k = j := by rw [← hm2, Nat.mul_comm, Nat.mul_add_mod, Nat.mod_eq_of_lt hj]
    have hlt : m < cur.size := by
      have : zs.length * k ≤ cap * k := Nat.mul_le_mul_right k h.len
      omega
    rw [if_pos hm2, if_pos (by rw [hm2]; exact hlt)]
    subst h1 h2
    rw [List.getElem_set_self]
    exact hv.symm
  · rw [if_neg hm2, q5 m hm, f2]
    by_cases h1 : m / k = i
    · have h2 : m % k ≠ j := fun q => hm2 (by rw [← h1, ← q]; exact he)
      subst h1
      rw [List.getElem_set_self]
      exact (ho _ hr h2).symm
    · rw [List.getElem_set_ne (fun q => h1 q.symm)]
end Go.Proofs.YtilldpoleiippaaDoor

/-! One ask in a block of its own, as a row; no condition. -/
namespace Go.Proofs.YtilldpoleiippaaDoor
open Go.RowKit Go.Joins
theorem rowsAt_req (w : World) (r : Rq) (t : TypeId) : RowsAt (w.alloc (.cells #[.int .i64 r.c, .int .i64 r.n, .int .i64 r.o, .int .i64 r.x, .int .i64 r.y] t)) (some ⟨w.heap.size, 0, none⟩) 5 Rq.cs [r] :=
  rows_of_block (t := t) (fr := (0, 0)) five_len (heap_alloc_new w (.cells #[.int .i64 r.c, .int .i64 r.n, .int .i64 r.o, .int .i64 r.x, .int .i64 r.y] t))
end Go.Proofs.YtilldpoleiippaaDoor

/-! Contract of l20Reqs: some valid asks, in a list of its own; condition: fewer than 2^40 reads. -/
namespace Go.Proofs.YtilldpoleiippaaDoor
open Go.RowKit Go.Joins

/-- Some valid asks, or none, at most so many; the reader has moved on; nothing else that was there has turned. -/
def ReqsDrawn (w : World) (g P most : Nat) (e : Ending) (w' : World) : Prop :=
  ∃ (rs : List Rq) (a' : Option Addr) (cap' : Nat), e = .returned (.slice a' rs.length cap') ∧ rs.length ≤ most ∧ rs.all good = true ∧ Row w' w.heap.size 46 a' cap' 5 Rq.cs rs ∧ Rdr w' g (P + 1 + 7 * most) ∧ w.grownBy w' (some g)

def nums (l : List Int) : Array Value := (l.map (Value.int .i64)).toArray
theorem nums_set (l : List Int) (j : Nat) (v : Int) : (nums l).setIfInBounds j (.int .i64 v) = nums (l.set j v) := by
  unfold nums; rw [List.setIfInBounds_toArray, List.map_set]
theorem nums_get {l : List Int} {j : Nat} (h : j < l.length) : (nums l)[j]? = some (.int .i64 l[j]) := by
  unfold nums; simp [h]
theorem good_of_ok {c n o x y : Int} (h : okB c n o x y = true) : good ⟨c, n, o, x, y⟩ = true := by
  unfold good goodB; simp [h]
theorem ok_num {c n o x y n' : Int} (h : okB c n o x y = true) (h1 : 1 ≤ n') (h2 : n' ≤ 30) : okB c n' o x y = true := by
  unfold okB at h ⊢
  simp only [Bool.and_eq_true, inB_iff] at h ⊢
  exact ⟨⟨h.1.1, h1, h2⟩, h.2⟩
theorem ok_client {c n o x y : Int} (h : okB c n o x y = true) : 1 ≤ c ∧ c ≤ 4 ∧ 1 ≤ n ∧ n ≤ 30 := by
  unfold okB at h
  simp only [Bool.and_eq_true, inB_iff] at h
  omega
theorem ok_join {c n o x y : Int} (h : okB c n o x y = true) : okB c 1 1 0 0 = true := by
  unfold okB at h ⊢
  simp only [Bool.and_eq_true, inB_iff] at h
  simp [inB]
  omega

theorem store_stop {P : Program} {ops : Array Oper} {rest : List Oper} {o : Oper} {a : Act} {w : World} {Q : Exit → Act → World → Prop} {ty : TypeId} {x y : Operand} (_ho : o.op = .store ty x y) (h : Hid (wpList P ops Q (o :: rest) a w)) : wpList P ops Q (o :: rest) a w := h.out
theorem call_ex {P : Program} {f : FuncId} {args : Array Value} {w : World} {Q : Ending → World → Prop} (h : ∀ V, V = w → Calls P f args V Q) : Calls P f args w Q := h w rfl
/-- A whole row stored: the world behind it under a name. -/
theorem rowStored {w : World} {g : Nat} {old : Array Value} {t : TypeId} (h : w.heap[g]? = some (.cells old t (0, 0))) (cells : Array Value) :
    ∃ V, V = w.setRow g cells ∧ V.heap[g]? = some (.cells cells t (0, 0)) ∧ (∀ b, b ≠ g → V.heap[b]? = w.heap[b]?) ∧ V.heap.size = w.heap.size ∧ V.os = w.os ∧ V.tape = w.tape ∧ V.output = w.output :=
  ⟨_, rfl, setRow_heap w g old cells t (0, 0) h, fun b hb => setRow_other w g b cells hb, by simp [World.setRow], rfl, rfl, rfl⟩
/-- The worlds of a round: the numbers' block, the ask's block, the rows, the reader. -/
structure Mid (w V : World) (g N xb Q : Nat) (c : Array Value) (ns : List Int) (a' : Option Addr) (cap' : Nat) (rs : List Rq) : Prop where
  ask : V.heap[xb]? = some (.cells c 46 (0, 0))
  num : V.heap[N]? = some (.cells (nums ns) 3 (0, 0))
  row : Row V (N + 1) 46 a' cap' 5 Rq.cs rs
  rdr : Rdr V g Q
  grown : w.grownBy V (some g)
  apart : ∀ g', rowBlk a' cap' = some g' → g' < xb
theorem Mid.setAsk {w V V' : World} {g N xb Q : Nat} {c c' : Array Value} {ns : List Int} {a' : Option Addr} {cap' : Nat} {rs : List Rq} (h : Mid w V g N xb Q c ns a' cap' rs) (hx : V'.heap[xb]? = some (.cells c' 46 (0, 0))) (ho : ∀ b, b ≠ xb → V'.heap[b]? = V.heap[b]?) (hs : V'.heap.size = V.heap.size) (h1 : V'.os = V.os) (h2 : V'.tape = V.tape) (h3 : V'.output = V.output) (hN : N < xb) (hg : g < N) (hw : w.heap.size ≤ xb) : Mid w V' g N xb Q c' ns a' cap' rs := by
  have hb : Below xb V V' := ⟨h1, h2, h3, by omega, fun b hb => ho b (by omega)⟩
  refine ⟨hx, (ho N (by omega)).trans h.num, ⟨h.row.len, h.row.max, fun hc => ?_⟩, h.rdr.below (hb.mono (by omega)), ⟨h1.trans h.grown.os, h2.trans h.grown.tape, h3.trans h.grown.output, by have := h.grown.size; omega, fun i hi hne => (ho i (by omega)).trans (h.grown.block i hi hne)⟩, h.apart⟩
  obtain ⟨g', cur, rfl, q2, q3, q4⟩ := h.row.own hc
  exact ⟨g', cur, rfl, q2, (ho g' (by have := h.apart g' (by simp [rowBlk]; omega); omega)).trans q3, q4⟩
theorem Mid.setNum {w V V' : World} {g N xb Q : Nat} {c : Array Value} {ns ns' : List Int} {a' : Option Addr} {cap' : Nat} {rs : List Rq} (h : Mid w V g N xb Q c ns a' cap' rs) (hx : V'.heap[N]? = some (.cells (nums ns') 3 (0, 0))) (ho : ∀ b, b ≠ N → V'.heap[b]? = V.heap[b]?) (hs : V'.heap.size = V.heap.size) (h1 : V'.os = V.os) (h2 : V'.tape = V.tape) (h3 : V'.output = V.output) (hN : N < xb) (hg : g < N) (hw : w.heap.size ≤ N) : Mid w V' g N xb Q c ns' a' cap' rs := by
  have hb : Below N V V' := ⟨h1, h2, h3, by omega, fun b hb => ho b (by omega)⟩
  refine ⟨(ho xb (by omega)).trans h.ask, hx, ⟨h.row.len, h.row.max, fun hc => ?_⟩, h.rdr.below (hb.mono (by omega)), ⟨h1.trans h.grown.os, h2.trans h.grown.tape, h3.trans h.grown.output, by have := h.grown.size; omega, fun i hi hne => (ho i (by omega)).trans (h.grown.block i hi hne)⟩, h.apart⟩
  obtain ⟨g', cur, rfl, q2, q3, q4⟩ := h.row.own hc
  exact ⟨g', cur, rfl, q2, (ho g' (by omega)).trans q3, q4⟩
theorem Mid.cellAsk {w V : World} {g N xb Q : Nat} {c : Array Value} {ns : List Int} {a' : Option Addr} {cap' : Nat} {rs : List Rq} (h : Mid w V g N xb Q c ns a' cap' rs) (i : Nat) (v : Value) (hN : N < xb) (hg : g < N) (hw : w.heap.size ≤ xb) : Mid w (V.setCell ⟨xb, i, none⟩ v) g N xb Q (c.setIfInBounds i v) ns a' cap' rs :=
  h.setAsk (block_setCell h.ask v) (fun b hb => Below.heap_setCell _ _ _ _ (by simpa using hb)) (by simp [World.setCell]) rfl rfl rfl hN hg hw
theorem Mid.cellNum {w V : World} {g N xb Q : Nat} {c : Array Value} {ns : List Int} {a' : Option Addr} {cap' : Nat} {rs : List Rq} (h : Mid w V g N xb Q c ns a' cap' rs) (j : Nat) (v : Int) (hN : N < xb) (hg : g < N) (hw : w.heap.size ≤ N) : Mid w (V.setCell ⟨N, j, none⟩ (.int .i64 v)) g N xb Q c (ns.set j v) a' cap' rs :=
  h.setNum (by rw [block_setCell h.num, nums_set]) (fun b hb => Below.heap_setCell _ _ _ _ (by simpa using hb)) (by simp [World.setCell]) rfl rfl rfl hN hg hw
theorem Mid.reAlloc {w w2 : World} {g N Q : Nat} {c c' : Array Value} {ns : List Int} {a' : Option Addr} {cap' : Nat} {rs : List Rq} (h : Mid w (w2.alloc (.cells c 46)) g N w2.heap.size Q c ns a' cap' rs) (hN : N < w2.heap.size) (hg : g < N) (hw : w.heap.size ≤ w2.heap.size) : Mid w (w2.alloc (.cells c' 46)) g N w2.heap.size Q c' ns a' cap' rs := by
  refine h.setAsk (heap_alloc_new w2 _) (fun b hb => ?_) (by simp) rfl rfl rfl hN hg hw
  by_cases hlt : b < w2.heap.size
  · rw [Below.heap_alloc _ _ _ hlt, Below.heap_alloc _ _ _ hlt]
  · rw [Array.getElem?_eq_none (by simp; omega), Array.getElem?_eq_none (by simp; omega)]
theorem Mid.read {w V V' : World} {g N xb Q : Nat} {c : Array Value} {ns : List Int} {a' : Option Addr} {cap' : Nat} {rs : List Rq} (h : Mid w V g N xb Q c ns a' cap' rs) (k : V.grownBy V' (some g)) (r : Rdr V' g (Q + 1)) (hN : N < xb) (hg : g < N) : Mid w V' g N xb (Q + 1) c ns a' cap' rs :=
  ⟨carry k (by omega) h.ask, carry k (by omega) h.num, h.row.kept k (fun g' hg' e => by have := (h.row.blk hg').1; injection e; omega), r, grown_trans h.grown k, h.apart⟩

set_option maxRecDepth 100000 in
set_option maxHeartbeats 8000000 in
theorem l20Reqs_c (w : World) (g P most : Nat) (hr : Rdr w g P) (hP : P ≤ 1099511600000) (hmost : most ≤ 100) :
    Calls Tryd.prog 52 #[.pointer (some ⟨g, 0, none⟩), .int .i64 most] w (ReqsDrawn w g P most) := by
  have hlt := hr.lt
  go_enter Tryd.func52, Tryd.ntmps52
  go_wp2_with fail
  obtain ⟨W, hW, sW, aW, bW, kW⟩ := blocks2 w (.cells #[] 46) (.cells #[.int .i64 0, .int .i64 0, .int .i64 0] 3)
  rw [← hW]
  clear hW
  refine (pick_c W g P ((most : Int) + 1) (hr.below (kW.mono (by omega))) (by omega) (by omega)).mono ?_
  rintro e w1 ⟨v, rfl, a1, b1, -, r1, k1⟩
  replace b1 := b1 (by omega)
  obtain ⟨m0, rfl⟩ := Int.eq_ofNat_of_zero_le a1
  have hs1 : w.heap.size + 2 ≤ w1.heap.size := by have := k1.size; omega
  have K1 : w.grownBy w1 (some g) := grown_trans (grown_of_below kW _) k1
  have bN : w1.heap[w.heap.size + 1]? = some (.cells (nums [0, 0, 0]) 3 (0, 0)) := carry k1 (by omega) bW
  clear k1 kW aW bW
  go_wp2_with fail
  go_loopw [5, 7] (fun out i wr => ∃ (rs : List Rq) (a' : Option Addr) (cap' m : Nat) (ns : List Int), i = .int .i64 m ∧ rs.length + m ≤ most ∧ out = .slice a' rs.length cap' ∧ rs.all good = true ∧ Row wr (w.heap.size + 2) 46 a' cap' 5 Rq.cs rs ∧ Rdr wr g (P + 1 + 7 * rs.length) ∧ w.grownBy wr (some g) ∧
    ns.length = 3 ∧ (∀ v ∈ ns, 0 ≤ v ∧ v ≤ 30) ∧ wr.heap[w.heap.size + 1]? = some (.cells (nums ns) 3 (0, 0)) ∧ w.heap.size + 2 ≤ wr.heap.size) (fun _ i _ => (intOf i).toNat)
  case atStart => exact ⟨[], some ⟨w.heap.size, 0, none⟩, 0, m0, [0, 0, 0], rfl, by simp; omega, rfl, rfl, Row.nil _ _ _ _ _ _, r1, K1, rfl, by simp, bN, hs1⟩
  case round =>
    obtain ⟨rs, a', cap', m, ns, rfl, hlm, rfl, hgood, hrow, hr', hgw, hnl, hnb, hN, hsz⟩ := hrel
    have HROW := Lib.hid hrow
    have HG := Lib.hid hgood
    have HNB := Lib.hid hnb
    clear hrow hgood hnb bN K1 r1
    by_cases hm : (m : Int) ≤ 0
    · go_wp2_with fail
      go_ret
      exact ⟨rs, a', cap', rfl, by omega, HG.out, HROW.out.low (by omega), hr'.mono (by omega), hgw⟩
    · have hlt' := hr'.lt
      go_wp2_with fail
      refine (l20Req_c wr g _ hr' (by omega)).mono ?_
      rintro e w2 ⟨r, rfl, hok, hc3, r2, k2⟩
      have hN2 := carry k2 (by omega) hN
      have hs2 : w.heap.size + 2 ≤ w2.heap.size := Nat.le_trans hsz k2.size
      have hl2 : w.heap.size + 1 < w2.heap.size := by omega
      have hrow2 := Lib.hid (HROW.out.kept k2 (fun g' hg' => by have := (HROW.out.blk hg').1; intro e; injection e; omega))
      have hgw2 := grown_trans hgw k2
      obtain ⟨j, hj⟩ : ∃ j : Nat, r.c = (j : Int) + 1 := by
        have := (ok_client hok).1
        exact ⟨(r.c - 1).toNat, by omega⟩
      have hj3 : j < ns.length := by omega
      have hcN := nums_get hj3
      have hvb := HNB.out ns[j] (List.getElem_mem _)
      generalize hv : ns[j] = v at *
      have hcell : w2.cell? ⟨w.heap.size + 1, j, none⟩ = some (.int .i64 v) := (cell_of_block hN2 j).trans hcN
      have hfr := unfrozen_of_block hN2 j
      obtain ⟨c, n, o, x, y⟩ := r
      simp only at hj hok hc3 ⊢
      subst hj
      have HM2 := Lib.hid (show Mid w (w2.alloc (.cells #[.int .i64 ((j : Int) + 1), .int .i64 n, .int .i64 o, .int .i64 x, .int .i64 y] 46)) g (w.heap.size + 1) w2.heap.size (P + 1 + 7 * rs.length + 5) #[.int .i64 ((j : Int) + 1), .int .i64 n, .int .i64 o, .int .i64 x, .int .i64 y] ns a' cap' rs from
        ⟨heap_alloc_new w2 _, by rw [Below.heap_alloc _ _ _ hl2]; exact hN2, hrow2.out.alloc _, r2.below (by repeat' (first | with_reducible exact Below.refl _ _ | with_reducible assumption | with_reducible refine Below.alloc ?_ ?_ _ | with_reducible refine Below.drew ?_ | with_reducible refine Below.setCell ?_ ?_ _ | omega | (simp; omega) | (simp; done))), grown_alloc hgw2 _, fun g' hg' => (hrow2.out.blk hg').2⟩)
      have HOK := Lib.hid hok
      have HCN := Lib.hid hcN
      have HNL := Lib.hid hnl
      have hgN : g < w.heap.size + 1 := by omega
      have hwN : w.heap.size ≤ w.heap.size + 1 := by omega
      have hwX : w.heap.size ≤ w2.heap.size := by omega
      clear hN2 hcN hok k2 hgw2 HROW hv hrow2 hr' hN
      by_cases hv30 : v < 30
      · go_wp2_with fail
        refine (pick_c _ g _ 8 HM2.out.rdr (by omega) (by omega)).mono ?_
        rintro e w3 ⟨p8, rfl, a8, -, -, r3, k3⟩
        have HM3 := Lib.hid (HM2.out.read k3 r3 hl2 hgN)
        clear r3 k3 HM2 hcell hfr
        have cX := cell_of_block HM3.out.ask
        have fX := unfrozen_of_block HM3.out.ask
        have cN := (cell_of_block HM3.out.num j).trans HCN.out
        have fN := unfrozen_of_block HM3.out.num j
        have hneXN : w2.heap.size ≠ w.heap.size + 1 := by omega
        have hneNX : w.heap.size + 1 ≠ w2.heap.size := by omega
        by_cases hp : 0 < p8
        · by_cases hv0 : v = 0
          · subst hv0
            have HS := Lib.hid ((HM3.out.cellNum j 1 hl2 hgN hwN).cellAsk 1 (.int .i64 1) hl2 hgN hwX)
            go_wp2_with (first
              | (refine wpList_store_rowTo rfl 46 _ _ rfl rfl w2.heap.size #[.int .i64 (↑j + 1), .int .i64 1, .int .i64 1, .int .i64 0, .int .i64 0] rfl rfl 46 _ HS.out.ask (by kernel_rfl) (by first | rfl | simp) (by first | kernel_rfl | simp [Value.oneCell']) ?_
                 obtain ⟨V, hV, vx, vo, vs, v1, v2, v3⟩ := rowStored HS.out.ask #[.int .i64 (↑j + 1), .int .i64 1, .int .i64 1, .int .i64 0, .int .i64 0]
                 rw [← hV]
                 have HM := Lib.hid (HS.out.setAsk vx vo vs v1 v2 v3 hl2 hgN hwX)
                 clear hV vx vo vs v1 v2 v3
                 go_wp2_with fail))
            clear HS HM3 cX cN fX fN
            refine (pick_c V g _ 12 HM.out.rdr (by omega) (by omega)).mono ?_
            rintro e w4 ⟨p12, rfl, a12, -, -, r4, k4⟩
            have HM4 := Lib.hid (HM.out.read k4 r4 hl2 hgN)
            clear r4 k4 HM
            by_cases h12 : p12 = 0
            · subst h12
              go_wp2_with (first
                | (refine wpList_store_rowTo rfl 46 _ _ rfl rfl w2.heap.size #[.int .i64 0, .int .i64 0, .int .i64 0, .int .i64 0, .int .i64 0] rfl rfl 46 _ HM4.out.ask (by kernel_rfl) rfl (by first | kernel_rfl | simp [Value.oneCell']) ?_
                   obtain ⟨V5, hV5, vx, vo, vs, v1, v2, v3⟩ := rowStored HM4.out.ask #[.int .i64 0, .int .i64 0, .int .i64 0, .int .i64 0, .int .i64 0]
                   rw [← hV5]
                   have HM5 := Lib.hid (HM4.out.setAsk vx vo vs v1 v2 v3 hl2 hgN hwX)
                   clear hV5 vx vo vs v1 v2 v3
                   have cX := cell_of_block HM5.out.ask
                   have hsW5 : w.heap.size + 2 ≤ V5.heap.size := by have := lt_of_block HM5.out.ask; omega
                   have P11 := Lib.hid (HM5.out.row.alloc (.cells #[.int .i64 0, .int .i64 0, .int .i64 0, .int .i64 0, .int .i64 0] 46))
                   go_wp2_with (at_builtin; refine wpList_append_row rfl _ _ rfl (rs.length + 1) eltReq rfl rfl P11.out (rowsAt_req _ ⟨0, 0, 0, 0, 0⟩ _) rfl rfl rfl (by simp only [maxLen]; omega) (by omega) (by simp <;> omega) ?_)))
              intro a5 cap5 w5 q5
              clear cX
              have hblk5 : ∀ g', rowBlk a' cap' = some g' → w.heap.size + 2 ≤ g' := fun g' hg' => (HM5.out.row.blk hg').1
              have hsW : w.heap.size + 2 ≤ V5.heap.size := by have := lt_of_block HM5.out.ask; omega
              have hb5 : Below (w.heap.size + 2) V5 w5 := Below.grown ((Below.refl _ _).alloc hsW _) q5.grown (by simp <;> omega) hblk5
              have hgood5 : (rs ++ [(⟨0, 0, 0, 0, 0⟩ : Rq)]).all good = true := by
                rw [List.all_append, HG.out, Bool.true_and]
                simp only [List.all_cons, List.all_nil, Bool.and_true]
                exact by decide
              have HF := Lib.hid (And.intro hgood5 (And.intro q5.row (And.intro ((HM5.out.rdr.below (hb5.mono (by omega))).mono (show _ ≤ P + 1 + 7 * (rs.length + 1) by omega)) (And.intro (show w.grownBy w5 (some g) from ⟨hb5.os.trans HM5.out.grown.os, hb5.tape.trans HM5.out.grown.tape, hb5.output.trans HM5.out.grown.output, Nat.le_trans HM5.out.grown.size hb5.size, fun i hi hne => (hb5.block i (by omega)).trans (HM5.out.grown.block i hi hne)⟩) (And.intro ((hb5.block _ (by omega)).trans HM5.out.num) (Nat.le_trans hsW hb5.size))))))
              clear hblk5 hsW hb5 hgood5 q5 P11
              go_wp2_with fail
              go_roundw
              case rel => exact ⟨rs ++ [⟨0, 0, 0, 0, 0⟩], a5, cap5, m - 1, ns.set j 1, by go_num, by rw [List.length_append]; simp; omega, by simp, HF.out.1, HF.out.2.1, by rw [List.length_append]; exact HF.out.2.2.1, HF.out.2.2.2.1, by simp [HNL.out], fun u hu => (List.mem_or_eq_of_mem_set hu).elim (HNB.out u) (fun e => by omega), HF.out.2.2.2.2.1, HF.out.2.2.2.2.2⟩
              case measure => simp [intOf]; omega
            · have P11 := Lib.hid (HM4.out.row.alloc (.cells #[.int .i64 (↑j + 1), .int .i64 1, .int .i64 1, .int .i64 0, .int .i64 0] 46))
              have cX := cell_of_block HM4.out.ask
              have hsW5 : w.heap.size + 2 ≤ w4.heap.size := by have := lt_of_block HM4.out.ask; omega
              go_wp2_with (at_builtin; refine wpList_append_row rfl _ _ rfl (rs.length + 1) eltReq rfl rfl P11.out (rowsAt_req _ ⟨(↑j + 1), 1, 1, 0, 0⟩ _) rfl rfl rfl (by simp only [maxLen]; omega) (by omega) (by simp <;> omega) ?_)
              intro a5 cap5 w5 q5
              clear cX
              have hblk5 : ∀ g', rowBlk a' cap' = some g' → w.heap.size + 2 ≤ g' := fun g' hg' => (HM4.out.row.blk hg').1
              have hsW : w.heap.size + 2 ≤ w4.heap.size := by have := lt_of_block HM4.out.ask; omega
              have hb5 : Below (w.heap.size + 2) w4 w5 := Below.grown ((Below.refl _ _).alloc hsW _) q5.grown (by simp <;> omega) hblk5
              have hgood5 : (rs ++ [(⟨(↑j + 1), 1, 1, 0, 0⟩ : Rq)]).all good = true := by
                rw [List.all_append, HG.out, Bool.true_and]
                simp only [List.all_cons, List.all_nil, Bool.and_true]
                exact good_of_ok (ok_join HOK.out)
              have HF := Lib.hid (And.intro hgood5 (And.intro q5.row (And.intro ((HM4.out.rdr.below (hb5.mono (by omega))).mono (show _ ≤ P + 1 + 7 * (rs.length + 1) by omega)) (And.intro (show w.grownBy w5 (some g) from ⟨hb5.os.trans HM4.out.grown.os, hb5.tape.trans HM4.out.grown.tape, hb5.output.trans HM4.out.grown.output, Nat.le_trans HM4.out.grown.size hb5.size, fun i hi hne => (hb5.block i (by omega)).trans (HM4.out.grown.block i hi hne)⟩) (And.intro ((hb5.block _ (by omega)).trans HM4.out.num) (Nat.le_trans hsW hb5.size))))))
              clear hblk5 hsW hb5 hgood5 q5 P11
              go_wp2_with fail
              go_roundw
              case rel => exact ⟨rs ++ [⟨(↑j + 1), 1, 1, 0, 0⟩], a5, cap5, m - 1, ns.set j 1, by go_num, by rw [List.length_append]; simp; omega, by simp, HF.out.1, HF.out.2.1, by rw [List.length_append]; exact HF.out.2.2.1, HF.out.2.2.2.1, by simp [HNL.out], fun u hu => (List.mem_or_eq_of_mem_set hu).elim (HNB.out u) (fun e => by omega), HF.out.2.2.2.2.1, HF.out.2.2.2.2.2⟩
              case measure => simp [intOf]; omega
          · have hv1 : v + 1 ≠ 1 := by omega
            go_wp2_with fail
            refine call_ex (fun V hV => ?_)
            have HM := Lib.hid (show Mid w V g (w.heap.size + 1) w2.heap.size (P + 1 + 7 * rs.length + 5 + 1) #[.int .i64 (↑j + 1), .int .i64 (v + 1), .int .i64 o, .int .i64 x, .int .i64 y] (ns.set j (v + 1)) a' cap' rs from hV ▸ (HM3.out.cellNum j (v + 1) hl2 hgN hwN).cellAsk 1 (.int .i64 (v + 1)) hl2 hgN hwX)
            clear hV HM3 cX cN fX fN
            refine (pick_c V g _ 12 HM.out.rdr (by omega) (by omega)).mono ?_
            rintro e w4 ⟨p12, rfl, a12, -, -, r4, k4⟩
            have HM4 := Lib.hid (HM.out.read k4 r4 hl2 hgN)
            clear r4 k4 HM
            by_cases h12 : p12 = 0
            · subst h12
              go_wp2_with (first
                | (refine wpList_store_rowTo rfl 46 _ _ rfl rfl w2.heap.size #[.int .i64 0, .int .i64 0, .int .i64 0, .int .i64 0, .int .i64 0] rfl rfl 46 _ HM4.out.ask (by kernel_rfl) rfl (by first | kernel_rfl | simp [Value.oneCell']) ?_
                   obtain ⟨V5, hV5, vx, vo, vs, v1, v2, v3⟩ := rowStored HM4.out.ask #[.int .i64 0, .int .i64 0, .int .i64 0, .int .i64 0, .int .i64 0]
                   rw [← hV5]
                   have HM5 := Lib.hid (HM4.out.setAsk vx vo vs v1 v2 v3 hl2 hgN hwX)
                   clear hV5 vx vo vs v1 v2 v3
                   have cX := cell_of_block HM5.out.ask
                   have hsW5 : w.heap.size + 2 ≤ V5.heap.size := by have := lt_of_block HM5.out.ask; omega
                   have P11 := Lib.hid (HM5.out.row.alloc (.cells #[.int .i64 0, .int .i64 0, .int .i64 0, .int .i64 0, .int .i64 0] 46))
                   go_wp2_with (at_builtin; refine wpList_append_row rfl _ _ rfl (rs.length + 1) eltReq rfl rfl P11.out (rowsAt_req _ ⟨0, 0, 0, 0, 0⟩ _) rfl rfl rfl (by simp only [maxLen]; omega) (by omega) (by simp <;> omega) ?_)))
              intro a5 cap5 w5 q5
              clear cX
              have hblk5 : ∀ g', rowBlk a' cap' = some g' → w.heap.size + 2 ≤ g' := fun g' hg' => (HM5.out.row.blk hg').1
              have hsW : w.heap.size + 2 ≤ V5.heap.size := by have := lt_of_block HM5.out.ask; omega
              have hb5 : Below (w.heap.size + 2) V5 w5 := Below.grown ((Below.refl _ _).alloc hsW _) q5.grown (by simp <;> omega) hblk5
              have hgood5 : (rs ++ [(⟨0, 0, 0, 0, 0⟩ : Rq)]).all good = true := by
                rw [List.all_append, HG.out, Bool.true_and]
                simp only [List.all_cons, List.all_nil, Bool.and_true]
                exact by decide
              have HF := Lib.hid (And.intro hgood5 (And.intro q5.row (And.intro ((HM5.out.rdr.below (hb5.mono (by omega))).mono (show _ ≤ P + 1 + 7 * (rs.length + 1) by omega)) (And.intro (show w.grownBy w5 (some g) from ⟨hb5.os.trans HM5.out.grown.os, hb5.tape.trans HM5.out.grown.tape, hb5.output.trans HM5.out.grown.output, Nat.le_trans HM5.out.grown.size hb5.size, fun i hi hne => (hb5.block i (by omega)).trans (HM5.out.grown.block i hi hne)⟩) (And.intro ((hb5.block _ (by omega)).trans HM5.out.num) (Nat.le_trans hsW hb5.size))))))
              clear hblk5 hsW hb5 hgood5 q5 P11
              go_wp2_with fail
              go_roundw
              case rel => exact ⟨rs ++ [⟨0, 0, 0, 0, 0⟩], a5, cap5, m - 1, ns.set j (v + 1), by go_num, by rw [List.length_append]; simp; omega, by simp, HF.out.1, HF.out.2.1, by rw [List.length_append]; exact HF.out.2.2.1, HF.out.2.2.2.1, by simp [HNL.out], fun u hu => (List.mem_or_eq_of_mem_set hu).elim (HNB.out u) (fun e => by omega), HF.out.2.2.2.2.1, HF.out.2.2.2.2.2⟩
              case measure => simp [intOf]; omega
            · have P11 := Lib.hid (HM4.out.row.alloc (.cells #[.int .i64 (↑j + 1), .int .i64 (v + 1), .int .i64 o, .int .i64 x, .int .i64 y] 46))
              have cX := cell_of_block HM4.out.ask
              have hsW5 : w.heap.size + 2 ≤ w4.heap.size := by have := lt_of_block HM4.out.ask; omega
              go_wp2_with (at_builtin; refine wpList_append_row rfl _ _ rfl (rs.length + 1) eltReq rfl rfl P11.out (rowsAt_req _ ⟨(↑j + 1), (v + 1), o, x, y⟩ _) rfl rfl rfl (by simp only [maxLen]; omega) (by omega) (by simp <;> omega) ?_)
              intro a5 cap5 w5 q5
              clear cX
              have hblk5 : ∀ g', rowBlk a' cap' = some g' → w.heap.size + 2 ≤ g' := fun g' hg' => (HM4.out.row.blk hg').1
              have hsW : w.heap.size + 2 ≤ w4.heap.size := by have := lt_of_block HM4.out.ask; omega
              have hb5 : Below (w.heap.size + 2) w4 w5 := Below.grown ((Below.refl _ _).alloc hsW _) q5.grown (by simp <;> omega) hblk5
              have hgood5 : (rs ++ [(⟨(↑j + 1), (v + 1), o, x, y⟩ : Rq)]).all good = true := by
                rw [List.all_append, HG.out, Bool.true_and]
                simp only [List.all_cons, List.all_nil, Bool.and_true]
                exact good_of_ok (ok_num HOK.out (by omega) (by omega))
              have HF := Lib.hid (And.intro hgood5 (And.intro q5.row (And.intro ((HM4.out.rdr.below (hb5.mono (by omega))).mono (show _ ≤ P + 1 + 7 * (rs.length + 1) by omega)) (And.intro (show w.grownBy w5 (some g) from ⟨hb5.os.trans HM4.out.grown.os, hb5.tape.trans HM4.out.grown.tape, hb5.output.trans HM4.out.grown.output, Nat.le_trans HM4.out.grown.size hb5.size, fun i hi hne => (hb5.block i (by omega)).trans (HM4.out.grown.block i hi hne)⟩) (And.intro ((hb5.block _ (by omega)).trans HM4.out.num) (Nat.le_trans hsW hb5.size))))))
              clear hblk5 hsW hb5 hgood5 q5 P11
              go_wp2_with fail
              go_roundw
              case rel => exact ⟨rs ++ [⟨(↑j + 1), (v + 1), o, x, y⟩], a5, cap5, m - 1, ns.set j (v + 1), by go_num, by rw [List.length_append]; simp; omega, by simp, HF.out.1, HF.out.2.1, by rw [List.length_append]; exact HF.out.2.2.1, HF.out.2.2.2.1, by simp [HNL.out], fun u hu => (List.mem_or_eq_of_mem_set hu).elim (HNB.out u) (fun e => by omega), HF.out.2.2.2.2.1, HF.out.2.2.2.2.2⟩
              case measure => simp [intOf]; omega
        · by_cases hv0 : v = 0
          · subst hv0
            by_cases hn1 : n = 1
            · subst hn1
              have HS := Lib.hid (HM3.out)
              go_wp2_with (first
                | (refine wpList_store_rowTo rfl 46 _ _ rfl rfl w2.heap.size #[.int .i64 (↑j + 1), .int .i64 1, .int .i64 1, .int .i64 0, .int .i64 0] rfl rfl 46 _ HS.out.ask (by kernel_rfl) (by first | rfl | simp) (by first | kernel_rfl | simp [Value.oneCell']) ?_
                   obtain ⟨V, hV, vx, vo, vs, v1, v2, v3⟩ := rowStored HS.out.ask #[.int .i64 (↑j + 1), .int .i64 1, .int .i64 1, .int .i64 0, .int .i64 0]
                   rw [← hV]
                   have HM := Lib.hid (HS.out.setAsk vx vo vs v1 v2 v3 hl2 hgN hwX)
                   clear hV vx vo vs v1 v2 v3
                   go_wp2_with fail))
              clear HS HM3 cX cN fX fN
              refine (pick_c V g _ 12 HM.out.rdr (by omega) (by omega)).mono ?_
              rintro e w4 ⟨p12, rfl, a12, -, -, r4, k4⟩
              have HM4 := Lib.hid (HM.out.read k4 r4 hl2 hgN)
              clear r4 k4 HM
              by_cases h12 : p12 = 0
              · subst h12
                go_wp2_with (first
                  | (refine wpList_store_rowTo rfl 46 _ _ rfl rfl w2.heap.size #[.int .i64 0, .int .i64 0, .int .i64 0, .int .i64 0, .int .i64 0] rfl rfl 46 _ HM4.out.ask (by kernel_rfl) rfl (by first | kernel_rfl | simp [Value.oneCell']) ?_
                     obtain ⟨V5, hV5, vx, vo, vs, v1, v2, v3⟩ := rowStored HM4.out.ask #[.int .i64 0, .int .i64 0, .int .i64 0, .int .i64 0, .int .i64 0]
                     rw [← hV5]
                     have HM5 := Lib.hid (HM4.out.setAsk vx vo vs v1 v2 v3 hl2 hgN hwX)
                     clear hV5 vx vo vs v1 v2 v3
                     have cX := cell_of_block HM5.out.ask
                     have hsW5 : w.heap.size + 2 ≤ V5.heap.size := by have := lt_of_block HM5.out.ask; omega
                     have P11 := Lib.hid (HM5.out.row.alloc (.cells #[.int .i64 0, .int .i64 0, .int .i64 0, .int .i64 0, .int .i64 0] 46))
                     go_wp2_with (at_builtin; refine wpList_append_row rfl _ _ rfl (rs.length + 1) eltReq rfl rfl P11.out (rowsAt_req _ ⟨0, 0, 0, 0, 0⟩ _) rfl rfl rfl (by simp only [maxLen]; omega) (by omega) (by simp <;> omega) ?_)))
                intro a5 cap5 w5 q5
                clear cX
                have hblk5 : ∀ g', rowBlk a' cap' = some g' → w.heap.size + 2 ≤ g' := fun g' hg' => (HM5.out.row.blk hg').1
                have hsW : w.heap.size + 2 ≤ V5.heap.size := by have := lt_of_block HM5.out.ask; omega
                have hb5 : Below (w.heap.size + 2) V5 w5 := Below.grown ((Below.refl _ _).alloc hsW _) q5.grown (by simp <;> omega) hblk5
                have hgood5 : (rs ++ [(⟨0, 0, 0, 0, 0⟩ : Rq)]).all good = true := by
                  rw [List.all_append, HG.out, Bool.true_and]
                  simp only [List.all_cons, List.all_nil, Bool.and_true]
                  exact by decide
                have HF := Lib.hid (And.intro hgood5 (And.intro q5.row (And.intro ((HM5.out.rdr.below (hb5.mono (by omega))).mono (show _ ≤ P + 1 + 7 * (rs.length + 1) by omega)) (And.intro (show w.grownBy w5 (some g) from ⟨hb5.os.trans HM5.out.grown.os, hb5.tape.trans HM5.out.grown.tape, hb5.output.trans HM5.out.grown.output, Nat.le_trans HM5.out.grown.size hb5.size, fun i hi hne => (hb5.block i (by omega)).trans (HM5.out.grown.block i hi hne)⟩) (And.intro ((hb5.block _ (by omega)).trans HM5.out.num) (Nat.le_trans hsW hb5.size))))))
                clear hblk5 hsW hb5 hgood5 q5 P11
                go_wp2_with fail
                go_roundw
                case rel => exact ⟨rs ++ [⟨0, 0, 0, 0, 0⟩], a5, cap5, m - 1, ns, by go_num, by rw [List.length_append]; simp; omega, by simp, HF.out.1, HF.out.2.1, by rw [List.length_append]; exact HF.out.2.2.1, HF.out.2.2.2.1, HNL.out, HNB.out, HF.out.2.2.2.2.1, HF.out.2.2.2.2.2⟩
                case measure => simp [intOf]; omega
              · have P11 := Lib.hid (HM4.out.row.alloc (.cells #[.int .i64 (↑j + 1), .int .i64 1, .int .i64 1, .int .i64 0, .int .i64 0] 46))
                have cX := cell_of_block HM4.out.ask
                have hsW5 : w.heap.size + 2 ≤ w4.heap.size := by have := lt_of_block HM4.out.ask; omega
                go_wp2_with (at_builtin; refine wpList_append_row rfl _ _ rfl (rs.length + 1) eltReq rfl rfl P11.out (rowsAt_req _ ⟨(↑j + 1), 1, 1, 0, 0⟩ _) rfl rfl rfl (by simp only [maxLen]; omega) (by omega) (by simp <;> omega) ?_)
                intro a5 cap5 w5 q5
                clear cX
                have hblk5 : ∀ g', rowBlk a' cap' = some g' → w.heap.size + 2 ≤ g' := fun g' hg' => (HM4.out.row.blk hg').1
                have hsW : w.heap.size + 2 ≤ w4.heap.size := by have := lt_of_block HM4.out.ask; omega
                have hb5 : Below (w.heap.size + 2) w4 w5 := Below.grown ((Below.refl _ _).alloc hsW _) q5.grown (by simp <;> omega) hblk5
                have hgood5 : (rs ++ [(⟨(↑j + 1), 1, 1, 0, 0⟩ : Rq)]).all good = true := by
                  rw [List.all_append, HG.out, Bool.true_and]
                  simp only [List.all_cons, List.all_nil, Bool.and_true]
                  exact good_of_ok (ok_join HOK.out)
                have HF := Lib.hid (And.intro hgood5 (And.intro q5.row (And.intro ((HM4.out.rdr.below (hb5.mono (by omega))).mono (show _ ≤ P + 1 + 7 * (rs.length + 1) by omega)) (And.intro (show w.grownBy w5 (some g) from ⟨hb5.os.trans HM4.out.grown.os, hb5.tape.trans HM4.out.grown.tape, hb5.output.trans HM4.out.grown.output, Nat.le_trans HM4.out.grown.size hb5.size, fun i hi hne => (hb5.block i (by omega)).trans (HM4.out.grown.block i hi hne)⟩) (And.intro ((hb5.block _ (by omega)).trans HM4.out.num) (Nat.le_trans hsW hb5.size))))))
                clear hblk5 hsW hb5 hgood5 q5 P11
                go_wp2_with fail
                go_roundw
                case rel => exact ⟨rs ++ [⟨(↑j + 1), 1, 1, 0, 0⟩], a5, cap5, m - 1, ns, by go_num, by rw [List.length_append]; simp; omega, by simp, HF.out.1, HF.out.2.1, by rw [List.length_append]; exact HF.out.2.2.1, HF.out.2.2.2.1, HNL.out, HNB.out, HF.out.2.2.2.2.1, HF.out.2.2.2.2.2⟩
                case measure => simp [intOf]; omega
            · go_wp2_with fail
              refine call_ex (fun V hV => ?_)
              have HM := Lib.hid (show Mid w V g (w.heap.size + 1) w2.heap.size (P + 1 + 7 * rs.length + 5 + 1) #[.int .i64 (↑j + 1), .int .i64 n, .int .i64 o, .int .i64 x, .int .i64 y] (ns) a' cap' rs from hV ▸ HM3.out)
              clear hV HM3 cX cN fX fN
              refine (pick_c V g _ 12 HM.out.rdr (by omega) (by omega)).mono ?_
              rintro e w4 ⟨p12, rfl, a12, -, -, r4, k4⟩
              have HM4 := Lib.hid (HM.out.read k4 r4 hl2 hgN)
              clear r4 k4 HM
              by_cases h12 : p12 = 0
              · subst h12
                go_wp2_with (first
                  | (refine wpList_store_rowTo rfl 46 _ _ rfl rfl w2.heap.size #[.int .i64 0, .int .i64 0, .int .i64 0, .int .i64 0, .int .i64 0] rfl rfl 46 _ HM4.out.ask (by kernel_rfl) rfl (by first | kernel_rfl | simp [Value.oneCell']) ?_
                     obtain ⟨V5, hV5, vx, vo, vs, v1, v2, v3⟩ := rowStored HM4.out.ask #[.int .i64 0, .int .i64 0, .int .i64 0, .int .i64 0, .int .i64 0]
                     rw [← hV5]
                     have HM5 := Lib.hid (HM4.out.setAsk vx vo vs v1 v2 v3 hl2 hgN hwX)
                     clear hV5 vx vo vs v1 v2 v3
                     have cX := cell_of_block HM5.out.ask
                     have hsW5 : w.heap.size + 2 ≤ V5.heap.size := by have := lt_of_block HM5.out.ask; omega
                     have P11 := Lib.hid (HM5.out.row.alloc (.cells #[.int .i64 0, .int .i64 0, .int .i64 0, .int .i64 0, .int .i64 0] 46))
                     go_wp2_with (at_builtin; refine wpList_append_row rfl _ _ rfl (rs.length + 1) eltReq rfl rfl P11.out (rowsAt_req _ ⟨0, 0, 0, 0, 0⟩ _) rfl rfl rfl (by simp only [maxLen]; omega) (by omega) (by simp <;> omega) ?_)))
                intro a5 cap5 w5 q5
                clear cX
                have hblk5 : ∀ g', rowBlk a' cap' = some g' → w.heap.size + 2 ≤ g' := fun g' hg' => (HM5.out.row.blk hg').1
                have hsW : w.heap.size + 2 ≤ V5.heap.size := by have := lt_of_block HM5.out.ask; omega
                have hb5 : Below (w.heap.size + 2) V5 w5 := Below.grown ((Below.refl _ _).alloc hsW _) q5.grown (by simp <;> omega) hblk5
                have hgood5 : (rs ++ [(⟨0, 0, 0, 0, 0⟩ : Rq)]).all good = true := by
                  rw [List.all_append, HG.out, Bool.true_and]
                  simp only [List.all_cons, List.all_nil, Bool.and_true]
                  exact by decide
                have HF := Lib.hid (And.intro hgood5 (And.intro q5.row (And.intro ((HM5.out.rdr.below (hb5.mono (by omega))).mono (show _ ≤ P + 1 + 7 * (rs.length + 1) by omega)) (And.intro (show w.grownBy w5 (some g) from ⟨hb5.os.trans HM5.out.grown.os, hb5.tape.trans HM5.out.grown.tape, hb5.output.trans HM5.out.grown.output, Nat.le_trans HM5.out.grown.size hb5.size, fun i hi hne => (hb5.block i (by omega)).trans (HM5.out.grown.block i hi hne)⟩) (And.intro ((hb5.block _ (by omega)).trans HM5.out.num) (Nat.le_trans hsW hb5.size))))))
                clear hblk5 hsW hb5 hgood5 q5 P11
                go_wp2_with fail
                go_roundw
                case rel => exact ⟨rs ++ [⟨0, 0, 0, 0, 0⟩], a5, cap5, m - 1, ns, by go_num, by rw [List.length_append]; simp; omega, by simp, HF.out.1, HF.out.2.1, by rw [List.length_append]; exact HF.out.2.2.1, HF.out.2.2.2.1, HNL.out, HNB.out, HF.out.2.2.2.2.1, HF.out.2.2.2.2.2⟩
                case measure => simp [intOf]; omega
              · have P11 := Lib.hid (HM4.out.row.alloc (.cells #[.int .i64 (↑j + 1), .int .i64 n, .int .i64 o, .int .i64 x, .int .i64 y] 46))
                have cX := cell_of_block HM4.out.ask
                have hsW5 : w.heap.size + 2 ≤ w4.heap.size := by have := lt_of_block HM4.out.ask; omega
                go_wp2_with (at_builtin; refine wpList_append_row rfl _ _ rfl (rs.length + 1) eltReq rfl rfl P11.out (rowsAt_req _ ⟨(↑j + 1), n, o, x, y⟩ _) rfl rfl rfl (by simp only [maxLen]; omega) (by omega) (by simp <;> omega) ?_)
                intro a5 cap5 w5 q5
                clear cX
                have hblk5 : ∀ g', rowBlk a' cap' = some g' → w.heap.size + 2 ≤ g' := fun g' hg' => (HM4.out.row.blk hg').1
                have hsW : w.heap.size + 2 ≤ w4.heap.size := by have := lt_of_block HM4.out.ask; omega
                have hb5 : Below (w.heap.size + 2) w4 w5 := Below.grown ((Below.refl _ _).alloc hsW _) q5.grown (by simp <;> omega) hblk5
                have hgood5 : (rs ++ [(⟨(↑j + 1), n, o, x, y⟩ : Rq)]).all good = true := by
                  rw [List.all_append, HG.out, Bool.true_and]
                  simp only [List.all_cons, List.all_nil, Bool.and_true]
                  exact good_of_ok HOK.out
                have HF := Lib.hid (And.intro hgood5 (And.intro q5.row (And.intro ((HM4.out.rdr.below (hb5.mono (by omega))).mono (show _ ≤ P + 1 + 7 * (rs.length + 1) by omega)) (And.intro (show w.grownBy w5 (some g) from ⟨hb5.os.trans HM4.out.grown.os, hb5.tape.trans HM4.out.grown.tape, hb5.output.trans HM4.out.grown.output, Nat.le_trans HM4.out.grown.size hb5.size, fun i hi hne => (hb5.block i (by omega)).trans (HM4.out.grown.block i hi hne)⟩) (And.intro ((hb5.block _ (by omega)).trans HM4.out.num) (Nat.le_trans hsW hb5.size))))))
                clear hblk5 hsW hb5 hgood5 q5 P11
                go_wp2_with fail
                go_roundw
                case rel => exact ⟨rs ++ [⟨(↑j + 1), n, o, x, y⟩], a5, cap5, m - 1, ns, by go_num, by rw [List.length_append]; simp; omega, by simp, HF.out.1, HF.out.2.1, by rw [List.length_append]; exact HF.out.2.2.1, HF.out.2.2.2.1, HNL.out, HNB.out, HF.out.2.2.2.2.1, HF.out.2.2.2.2.2⟩
                case measure => simp [intOf]; omega
          · by_cases hv1 : v = 1
            · subst hv1
              have HS := Lib.hid ((HM3.out).cellAsk 1 (.int .i64 1) hl2 hgN hwX)
              go_wp2_with (first
                | (refine wpList_store_rowTo rfl 46 _ _ rfl rfl w2.heap.size #[.int .i64 (↑j + 1), .int .i64 1, .int .i64 1, .int .i64 0, .int .i64 0] rfl rfl 46 _ HS.out.ask (by kernel_rfl) (by first | rfl | simp) (by first | kernel_rfl | simp [Value.oneCell']) ?_
                   obtain ⟨V, hV, vx, vo, vs, v1, v2, v3⟩ := rowStored HS.out.ask #[.int .i64 (↑j + 1), .int .i64 1, .int .i64 1, .int .i64 0, .int .i64 0]
                   rw [← hV]
                   have HM := Lib.hid (HS.out.setAsk vx vo vs v1 v2 v3 hl2 hgN hwX)
                   clear hV vx vo vs v1 v2 v3
                   go_wp2_with fail))
              clear HS HM3 cX cN fX fN
              refine (pick_c V g _ 12 HM.out.rdr (by omega) (by omega)).mono ?_
              rintro e w4 ⟨p12, rfl, a12, -, -, r4, k4⟩
              have HM4 := Lib.hid (HM.out.read k4 r4 hl2 hgN)
              clear r4 k4 HM
              by_cases h12 : p12 = 0
              · subst h12
                go_wp2_with (first
                  | (refine wpList_store_rowTo rfl 46 _ _ rfl rfl w2.heap.size #[.int .i64 0, .int .i64 0, .int .i64 0, .int .i64 0, .int .i64 0] rfl rfl 46 _ HM4.out.ask (by kernel_rfl) rfl (by first | kernel_rfl | simp [Value.oneCell']) ?_
                     obtain ⟨V5, hV5, vx, vo, vs, v1, v2, v3⟩ := rowStored HM4.out.ask #[.int .i64 0, .int .i64 0, .int .i64 0, .int .i64 0, .int .i64 0]
                     rw [← hV5]
                     have HM5 := Lib.hid (HM4.out.setAsk vx vo vs v1 v2 v3 hl2 hgN hwX)
                     clear hV5 vx vo vs v1 v2 v3
                     have cX := cell_of_block HM5.out.ask
                     have hsW5 : w.heap.size + 2 ≤ V5.heap.size := by have := lt_of_block HM5.out.ask; omega
                     have P11 := Lib.hid (HM5.out.row.alloc (.cells #[.int .i64 0, .int .i64 0, .int .i64 0, .int .i64 0, .int .i64 0] 46))
                     go_wp2_with (at_builtin; refine wpList_append_row rfl _ _ rfl (rs.length + 1) eltReq rfl rfl P11.out (rowsAt_req _ ⟨0, 0, 0, 0, 0⟩ _) rfl rfl rfl (by simp only [maxLen]; omega) (by omega) (by simp <;> omega) ?_)))
                intro a5 cap5 w5 q5
                clear cX
                have hblk5 : ∀ g', rowBlk a' cap' = some g' → w.heap.size + 2 ≤ g' := fun g' hg' => (HM5.out.row.blk hg').1
                have hsW : w.heap.size + 2 ≤ V5.heap.size := by have := lt_of_block HM5.out.ask; omega
                have hb5 : Below (w.heap.size + 2) V5 w5 := Below.grown ((Below.refl _ _).alloc hsW _) q5.grown (by simp <;> omega) hblk5
                have hgood5 : (rs ++ [(⟨0, 0, 0, 0, 0⟩ : Rq)]).all good = true := by
                  rw [List.all_append, HG.out, Bool.true_and]
                  simp only [List.all_cons, List.all_nil, Bool.and_true]
                  exact by decide
                have HF := Lib.hid (And.intro hgood5 (And.intro q5.row (And.intro ((HM5.out.rdr.below (hb5.mono (by omega))).mono (show _ ≤ P + 1 + 7 * (rs.length + 1) by omega)) (And.intro (show w.grownBy w5 (some g) from ⟨hb5.os.trans HM5.out.grown.os, hb5.tape.trans HM5.out.grown.tape, hb5.output.trans HM5.out.grown.output, Nat.le_trans HM5.out.grown.size hb5.size, fun i hi hne => (hb5.block i (by omega)).trans (HM5.out.grown.block i hi hne)⟩) (And.intro ((hb5.block _ (by omega)).trans HM5.out.num) (Nat.le_trans hsW hb5.size))))))
                clear hblk5 hsW hb5 hgood5 q5 P11
                go_wp2_with fail
                go_roundw
                case rel => exact ⟨rs ++ [⟨0, 0, 0, 0, 0⟩], a5, cap5, m - 1, ns, by go_num, by rw [List.length_append]; simp; omega, by simp, HF.out.1, HF.out.2.1, by rw [List.length_append]; exact HF.out.2.2.1, HF.out.2.2.2.1, HNL.out, HNB.out, HF.out.2.2.2.2.1, HF.out.2.2.2.2.2⟩
                case measure => simp [intOf]; omega
              · have P11 := Lib.hid (HM4.out.row.alloc (.cells #[.int .i64 (↑j + 1), .int .i64 1, .int .i64 1, .int .i64 0, .int .i64 0] 46))
                have cX := cell_of_block HM4.out.ask
                have hsW5 : w.heap.size + 2 ≤ w4.heap.size := by have := lt_of_block HM4.out.ask; omega
                go_wp2_with (at_builtin; refine wpList_append_row rfl _ _ rfl (rs.length + 1) eltReq rfl rfl P11.out (rowsAt_req _ ⟨(↑j + 1), 1, 1, 0, 0⟩ _) rfl rfl rfl (by simp only [maxLen]; omega) (by omega) (by simp <;> omega) ?_)
                intro a5 cap5 w5 q5
                clear cX
                have hblk5 : ∀ g', rowBlk a' cap' = some g' → w.heap.size + 2 ≤ g' := fun g' hg' => (HM4.out.row.blk hg').1
                have hsW : w.heap.size + 2 ≤ w4.heap.size := by have := lt_of_block HM4.out.ask; omega
                have hb5 : Below (w.heap.size + 2) w4 w5 := Below.grown ((Below.refl _ _).alloc hsW _) q5.grown (by simp <;> omega) hblk5
                have hgood5 : (rs ++ [(⟨(↑j + 1), 1, 1, 0, 0⟩ : Rq)]).all good = true := by
                  rw [List.all_append, HG.out, Bool.true_and]
                  simp only [List.all_cons, List.all_nil, Bool.and_true]
                  exact good_of_ok (ok_join HOK.out)
                have HF := Lib.hid (And.intro hgood5 (And.intro q5.row (And.intro ((HM4.out.rdr.below (hb5.mono (by omega))).mono (show _ ≤ P + 1 + 7 * (rs.length + 1) by omega)) (And.intro (show w.grownBy w5 (some g) from ⟨hb5.os.trans HM4.out.grown.os, hb5.tape.trans HM4.out.grown.tape, hb5.output.trans HM4.out.grown.output, Nat.le_trans HM4.out.grown.size hb5.size, fun i hi hne => (hb5.block i (by omega)).trans (HM4.out.grown.block i hi hne)⟩) (And.intro ((hb5.block _ (by omega)).trans HM4.out.num) (Nat.le_trans hsW hb5.size))))))
                clear hblk5 hsW hb5 hgood5 q5 P11
                go_wp2_with fail
                go_roundw
                case rel => exact ⟨rs ++ [⟨(↑j + 1), 1, 1, 0, 0⟩], a5, cap5, m - 1, ns, by go_num, by rw [List.length_append]; simp; omega, by simp, HF.out.1, HF.out.2.1, by rw [List.length_append]; exact HF.out.2.2.1, HF.out.2.2.2.1, HNL.out, HNB.out, HF.out.2.2.2.2.1, HF.out.2.2.2.2.2⟩
                case measure => simp [intOf]; omega
            · go_wp2_with fail
              refine call_ex (fun V hV => ?_)
              have HM := Lib.hid (show Mid w V g (w.heap.size + 1) w2.heap.size (P + 1 + 7 * rs.length + 5 + 1) #[.int .i64 (↑j + 1), .int .i64 v, .int .i64 o, .int .i64 x, .int .i64 y] (ns) a' cap' rs from hV ▸ (HM3.out).cellAsk 1 (.int .i64 v) hl2 hgN hwX)
              clear hV HM3 cX cN fX fN
              refine (pick_c V g _ 12 HM.out.rdr (by omega) (by omega)).mono ?_
              rintro e w4 ⟨p12, rfl, a12, -, -, r4, k4⟩
              have HM4 := Lib.hid (HM.out.read k4 r4 hl2 hgN)
              clear r4 k4 HM
              by_cases h12 : p12 = 0
              · subst h12
                go_wp2_with (first
                  | (refine wpList_store_rowTo rfl 46 _ _ rfl rfl w2.heap.size #[.int .i64 0, .int .i64 0, .int .i64 0, .int .i64 0, .int .i64 0] rfl rfl 46 _ HM4.out.ask (by kernel_rfl) rfl (by first | kernel_rfl | simp [Value.oneCell']) ?_
                     obtain ⟨V5, hV5, vx, vo, vs, v1, v2, v3⟩ := rowStored HM4.out.ask #[.int .i64 0, .int .i64 0, .int .i64 0, .int .i64 0, .int .i64 0]
                     rw [← hV5]
                     have HM5 := Lib.hid (HM4.out.setAsk vx vo vs v1 v2 v3 hl2 hgN hwX)
                     clear hV5 vx vo vs v1 v2 v3
                     have cX := cell_of_block HM5.out.ask
                     have hsW5 : w.heap.size + 2 ≤ V5.heap.size := by have := lt_of_block HM5.out.ask; omega
                     have P11 := Lib.hid (HM5.out.row.alloc (.cells #[.int .i64 0, .int .i64 0, .int .i64 0, .int .i64 0, .int .i64 0] 46))
                     go_wp2_with (at_builtin; refine wpList_append_row rfl _ _ rfl (rs.length + 1) eltReq rfl rfl P11.out (rowsAt_req _ ⟨0, 0, 0, 0, 0⟩ _) rfl rfl rfl (by simp only [maxLen]; omega) (by omega) (by simp <;> omega) ?_)))
                intro a5 cap5 w5 q5
                clear cX
                have hblk5 : ∀ g', rowBlk a' cap' = some g' → w.heap.size + 2 ≤ g' := fun g' hg' => (HM5.out.row.blk hg').1
                have hsW : w.heap.size + 2 ≤ V5.heap.size := by have := lt_of_block HM5.out.ask; omega
                have hb5 : Below (w.heap.size + 2) V5 w5 := Below.grown ((Below.refl _ _).alloc hsW _) q5.grown (by simp <;> omega) hblk5
                have hgood5 : (rs ++ [(⟨0, 0, 0, 0, 0⟩ : Rq)]).all good = true := by
                  rw [List.all_append, HG.out, Bool.true_and]
                  simp only [List.all_cons, List.all_nil, Bool.and_true]
                  exact by decide
                have HF := Lib.hid (And.intro hgood5 (And.intro q5.row (And.intro ((HM5.out.rdr.below (hb5.mono (by omega))).mono (show _ ≤ P + 1 + 7 * (rs.length + 1) by omega)) (And.intro (show w.grownBy w5 (some g) from ⟨hb5.os.trans HM5.out.grown.os, hb5.tape.trans HM5.out.grown.tape, hb5.output.trans HM5.out.grown.output, Nat.le_trans HM5.out.grown.size hb5.size, fun i hi hne => (hb5.block i (by omega)).trans (HM5.out.grown.block i hi hne)⟩) (And.intro ((hb5.block _ (by omega)).trans HM5.out.num) (Nat.le_trans hsW hb5.size))))))
                clear hblk5 hsW hb5 hgood5 q5 P11
                go_wp2_with fail
                go_roundw
                case rel => exact ⟨rs ++ [⟨0, 0, 0, 0, 0⟩], a5, cap5, m - 1, ns, by go_num, by rw [List.length_append]; simp; omega, by simp, HF.out.1, HF.out.2.1, by rw [List.length_append]; exact HF.out.2.2.1, HF.out.2.2.2.1, HNL.out, HNB.out, HF.out.2.2.2.2.1, HF.out.2.2.2.2.2⟩
                case measure => simp [intOf]; omega
              · have P11 := Lib.hid (HM4.out.row.alloc (.cells #[.int .i64 (↑j + 1), .int .i64 v, .int .i64 o, .int .i64 x, .int .i64 y] 46))
                have cX := cell_of_block HM4.out.ask
                have hsW5 : w.heap.size + 2 ≤ w4.heap.size := by have := lt_of_block HM4.out.ask; omega
                go_wp2_with (at_builtin; refine wpList_append_row rfl _ _ rfl (rs.length + 1) eltReq rfl rfl P11.out (rowsAt_req _ ⟨(↑j + 1), v, o, x, y⟩ _) rfl rfl rfl (by simp only [maxLen]; omega) (by omega) (by simp <;> omega) ?_)
                intro a5 cap5 w5 q5
                clear cX
                have hblk5 : ∀ g', rowBlk a' cap' = some g' → w.heap.size + 2 ≤ g' := fun g' hg' => (HM4.out.row.blk hg').1
                have hsW : w.heap.size + 2 ≤ w4.heap.size := by have := lt_of_block HM4.out.ask; omega
                have hb5 : Below (w.heap.size + 2) w4 w5 := Below.grown ((Below.refl _ _).alloc hsW _) q5.grown (by simp <;> omega) hblk5
                have hgood5 : (rs ++ [(⟨(↑j + 1), v, o, x, y⟩ : Rq)]).all good = true := by
                  rw [List.all_append, HG.out, Bool.true_and]
                  simp only [List.all_cons, List.all_nil, Bool.and_true]
                  exact good_of_ok (ok_num HOK.out (by omega) (by omega))
                have HF := Lib.hid (And.intro hgood5 (And.intro q5.row (And.intro ((HM4.out.rdr.below (hb5.mono (by omega))).mono (show _ ≤ P + 1 + 7 * (rs.length + 1) by omega)) (And.intro (show w.grownBy w5 (some g) from ⟨hb5.os.trans HM4.out.grown.os, hb5.tape.trans HM4.out.grown.tape, hb5.output.trans HM4.out.grown.output, Nat.le_trans HM4.out.grown.size hb5.size, fun i hi hne => (hb5.block i (by omega)).trans (HM4.out.grown.block i hi hne)⟩) (And.intro ((hb5.block _ (by omega)).trans HM4.out.num) (Nat.le_trans hsW hb5.size))))))
                clear hblk5 hsW hb5 hgood5 q5 P11
                go_wp2_with fail
                go_roundw
                case rel => exact ⟨rs ++ [⟨(↑j + 1), v, o, x, y⟩], a5, cap5, m - 1, ns, by go_num, by rw [List.length_append]; simp; omega, by simp, HF.out.1, HF.out.2.1, by rw [List.length_append]; exact HF.out.2.2.1, HF.out.2.2.2.1, HNL.out, HNB.out, HF.out.2.2.2.2.1, HF.out.2.2.2.2.2⟩
                case measure => simp [intOf]; omega

      · have hv30' : 30 ≤ v := by omega
        go_wp2_with fail
        refine call_ex (fun V hV => ?_)
        have HM := Lib.hid (show Mid w V g (w.heap.size + 1) w2.heap.size (P + 1 + 7 * rs.length + 5) #[.int .i64 ((j : Int) + 1), .int .i64 v, .int .i64 o, .int .i64 x, .int .i64 y] ns a' cap' rs from hV ▸ HM2.out.reAlloc hl2 hgN hwX)
        clear hV
        refine (pick_c V g _ 12 HM.out.rdr (by omega) (by omega)).mono ?_
        rintro e w4 ⟨p12, rfl, a12, -, -, r4, k4⟩
        have HM4 := Lib.hid (HM.out.read k4 r4 hl2 hgN)
        clear r4 k4 HM
        by_cases h12 : p12 = 0
        · subst h12
          go_wp2_with (first
            | (refine wpList_store_rowTo rfl 46 _ _ rfl rfl w2.heap.size #[.int .i64 0, .int .i64 0, .int .i64 0, .int .i64 0, .int .i64 0] rfl rfl 46 _ HM4.out.ask (by kernel_rfl) rfl (by first | kernel_rfl | simp [Value.oneCell']) ?_
               obtain ⟨V5, hV5, vx, vo, vs, v1, v2, v3⟩ := rowStored HM4.out.ask #[.int .i64 0, .int .i64 0, .int .i64 0, .int .i64 0, .int .i64 0]
               rw [← hV5]
               have HM5 := Lib.hid (HM4.out.setAsk vx vo vs v1 v2 v3 hl2 hgN hwX)
               clear hV5 vx vo vs v1 v2 v3
               have cX := cell_of_block HM5.out.ask
               have hsW5 : w.heap.size + 2 ≤ V5.heap.size := by have := lt_of_block HM5.out.ask; omega
               have P11 := Lib.hid (HM5.out.row.alloc (.cells #[.int .i64 0, .int .i64 0, .int .i64 0, .int .i64 0, .int .i64 0] 46))
               go_wp2_with (at_builtin; refine wpList_append_row rfl _ _ rfl (rs.length + 1) eltReq rfl rfl P11.out (rowsAt_req _ ⟨0, 0, 0, 0, 0⟩ _) rfl rfl rfl (by simp only [maxLen]; omega) (by omega) (by simp <;> omega) ?_)))
          intro a5 cap5 w5 q5
          clear cX
          have hblk5 : ∀ g', rowBlk a' cap' = some g' → w.heap.size + 2 ≤ g' := fun g' hg' => (HM5.out.row.blk hg').1
          have hsW : w.heap.size + 2 ≤ V5.heap.size := by have := lt_of_block HM5.out.ask; omega
          have hb5 : Below (w.heap.size + 2) V5 w5 := Below.grown ((Below.refl _ _).alloc hsW _) q5.grown (by simp <;> omega) hblk5
          have hgood5 : (rs ++ [(⟨0, 0, 0, 0, 0⟩ : Rq)]).all good = true := by
            rw [List.all_append, HG.out, Bool.true_and]
            simp only [List.all_cons, List.all_nil, Bool.and_true]
            exact by decide
          have HF := Lib.hid (And.intro hgood5 (And.intro q5.row (And.intro ((HM5.out.rdr.below (hb5.mono (by omega))).mono (show _ ≤ P + 1 + 7 * (rs.length + 1) by omega)) (And.intro (show w.grownBy w5 (some g) from ⟨hb5.os.trans HM5.out.grown.os, hb5.tape.trans HM5.out.grown.tape, hb5.output.trans HM5.out.grown.output, Nat.le_trans HM5.out.grown.size hb5.size, fun i hi hne => (hb5.block i (by omega)).trans (HM5.out.grown.block i hi hne)⟩) (And.intro ((hb5.block _ (by omega)).trans HM5.out.num) (Nat.le_trans hsW hb5.size))))))
          clear hblk5 hsW hb5 hgood5 q5 P11
          go_wp2_with fail
          go_roundw
          case rel => exact ⟨rs ++ [⟨0, 0, 0, 0, 0⟩], a5, cap5, m - 1, ns, by go_num, by rw [List.length_append]; simp; omega, by simp, HF.out.1, HF.out.2.1, by rw [List.length_append]; exact HF.out.2.2.1, HF.out.2.2.2.1, HNL.out, HNB.out, HF.out.2.2.2.2.1, HF.out.2.2.2.2.2⟩
          case measure => simp [intOf]; omega
        · have P11 := Lib.hid (HM4.out.row.alloc (.cells #[.int .i64 (↑j + 1), .int .i64 v, .int .i64 o, .int .i64 x, .int .i64 y] 46))
          have cX := cell_of_block HM4.out.ask
          have hsW5 : w.heap.size + 2 ≤ w4.heap.size := by have := lt_of_block HM4.out.ask; omega
          go_wp2_with (at_builtin; refine wpList_append_row rfl _ _ rfl (rs.length + 1) eltReq rfl rfl P11.out (rowsAt_req _ ⟨(↑j + 1), v, o, x, y⟩ _) rfl rfl rfl (by simp only [maxLen]; omega) (by omega) (by simp <;> omega) ?_)
          intro a5 cap5 w5 q5
          clear cX
          have hblk5 : ∀ g', rowBlk a' cap' = some g' → w.heap.size + 2 ≤ g' := fun g' hg' => (HM4.out.row.blk hg').1
          have hsW : w.heap.size + 2 ≤ w4.heap.size := by have := lt_of_block HM4.out.ask; omega
          have hb5 : Below (w.heap.size + 2) w4 w5 := Below.grown ((Below.refl _ _).alloc hsW _) q5.grown (by simp <;> omega) hblk5
          have hgood5 : (rs ++ [(⟨(↑j + 1), v, o, x, y⟩ : Rq)]).all good = true := by
            rw [List.all_append, HG.out, Bool.true_and]
            simp only [List.all_cons, List.all_nil, Bool.and_true]
            exact good_of_ok (ok_num HOK.out (by omega) (by omega))
          have HF := Lib.hid (And.intro hgood5 (And.intro q5.row (And.intro ((HM4.out.rdr.below (hb5.mono (by omega))).mono (show _ ≤ P + 1 + 7 * (rs.length + 1) by omega)) (And.intro (show w.grownBy w5 (some g) from ⟨hb5.os.trans HM4.out.grown.os, hb5.tape.trans HM4.out.grown.tape, hb5.output.trans HM4.out.grown.output, Nat.le_trans HM4.out.grown.size hb5.size, fun i hi hne => (hb5.block i (by omega)).trans (HM4.out.grown.block i hi hne)⟩) (And.intro ((hb5.block _ (by omega)).trans HM4.out.num) (Nat.le_trans hsW hb5.size))))))
          clear hblk5 hsW hb5 hgood5 q5 P11
          go_wp2_with fail
          go_roundw
          case rel => exact ⟨rs ++ [⟨(↑j + 1), v, o, x, y⟩], a5, cap5, m - 1, ns, by go_num, by rw [List.length_append]; simp; omega, by simp, HF.out.1, HF.out.2.1, by rw [List.length_append]; exact HF.out.2.2.1, HF.out.2.2.2.1, HNL.out, HNB.out, HF.out.2.2.2.2.1, HF.out.2.2.2.2.2⟩
          case measure => simp [intOf]; omega
end Go.Proofs.YtilldpoleiippaaDoor

/-! Contract of l20Ledger: some rows, in a list of their own; condition: fewer than 2^40 reads. -/
namespace Go.Proofs.YtilldpoleiippaaDoor
open Go.RowKit Go.Joins

/-- Some rows, at most twelve, in a list of their own; the reader has moved on; nothing else that was there has turned. -/
def LedgerDrawn (w : World) (g P : Nat) (e : Ending) (w' : World) : Prop :=
  ∃ (zs : List En) (a' : Option Addr) (cap' : Nat), e = .returned (.slice a' zs.length cap') ∧ zs.length ≤ 12 ∧ Row w' w.heap.size 67 a' cap' 6 En.cs zs ∧ Rdr w' g (P + 95) ∧ w.grownBy w' (some g)
theorem ledOf_le (rs : List Rq) : (ledOf rs).length ≤ rs.length := by
  unfold ledOf
  split
  · rw [rowsOf_length]; exact Nat.le_refl _
  · exact Nat.zero_le _

set_option maxRecDepth 100000 in
set_option maxHeartbeats 4000000 in
theorem l20Ledger_c (w : World) (g P : Nat) (hr : Rdr w g P) (hP : P ≤ 1099511600000) :
    Calls Tryd.prog 89 #[.pointer (some ⟨g, 0, none⟩)] w (LedgerDrawn w g P) := by
  have hlt := hr.lt
  go_enter Tryd.func89, Tryd.ntmps89
  go_wp2_with fail
  refine (l20Reqs_c w g P 12 hr hP (by omega)).mono ?_
  rintro e w1 ⟨rs, a1, c1, rfl, h12, -, hrow, r1, k1⟩
  have hs1 := k1.size
  have hl1 := r1.lt
  go_wp2_with fail
  refine (sLedgerOf_c a1 _ c1 rs w1 (hrow.sl (fun _ => rfl)) (by omega)).mono ?_
  rintro e w2 ⟨d, cd, rfl, rD, k2⟩
  have K2 := Lib.hid (grown_trans k1 (grown_of_below k2 (some g)))
  have r2 := r1.below (k2.mono (by omega))
  have hle := ledOf_le rs
  generalize ledOf rs = zs at *
  obtain ⟨l, hl⟩ : ∃ l, l = zs.length := ⟨_, rfl⟩
  have HL := Lib.hid hl
  have RD := Lib.hid (rD.low hs1)
  have hs2 := k2.size
  have HB := Lib.hid (show ∀ g', rowBlk d cd = some g' → g < g' from fun g' hg' => by have := (rD.blk hg').1; omega)
  rw [← hl] at hle ⊢
  clear hl hrow k1 k2 rD
  by_cases h0 : l = 0
  · subst h0
    go_wp2_with fail
    go_ret
    exact ⟨zs, d, cd, by simp [← HL.out], by have := HL.out; omega, RD.out, r2.mono (by omega), K2.out⟩
  · have hpos : (0 : Int) < l := by omega
    go_wp2_with fail
    refine (pick_c w2 g _ 4 r2 (by omega) (by omega)).mono ?_
    rintro e w3 ⟨p, rfl, -, -, -, r3, k3⟩
    have K3 := Lib.hid (grown_trans K2.out k3)
    have RD3 := Lib.hid (RD.out.kept k3 (fun g' hg' e => by have := HB.out g' hg'; injection e; omega))
    clear k3 K2 RD
    by_cases hp : p = 0
    · subst hp
      go_wp2_with fail
      refine (pick_c w3 g _ l r3 (by omega) (by omega)).mono ?_
      rintro e w4 ⟨i, rfl, a4, b4, -, r4, k4⟩
      replace b4 := b4 (by omega)
      obtain ⟨k, rfl⟩ := Int.eq_ofNat_of_zero_le a4
      have K4 := Lib.hid (grown_trans K3.out k4)
      have RD4 := Lib.hid (RD3.out.kept k4 (fun g' hg' e => by have := HB.out g' hg'; injection e; omega))
      clear k4 K3 RD3
      go_wp2_with fail
      refine (pick_c w4 g _ 2 r4 (by omega) (by omega)).mono ?_
      rintro e w5 ⟨q, rfl, -, -, -, r5, k5⟩
      have K5 := Lib.hid (grown_trans K4.out k5)
      have RD5 := Lib.hid (RD4.out.kept k5 (fun g' hg' e => by have := HB.out g' hg'; injection e; omega))
      clear k5 K4 RD4
      have hkz : k < zs.length := by rw [← HL.out]; omega
      have hkl : k < l := by omega
      obtain ⟨g', cur, rfl, q2, q3, q4, q5⟩ := RD5.out.own (by have := RD5.out.len; omega)
      have hlt5 := lt_of_block q3
      have hgg : g < g' := HB.out g' (by simp [rowBlk]; have := RD5.out.len; omega)
      have cS : w5.cell? ⟨g', k * 6 + 5, none⟩ = some (.int .i64 zs[k].s) := (cell_of_block q3 _).trans ((q5 _ (by omega)).trans (flat_get six_len zs k hkz 5 (by decide)))
      have fS := unfrozen_of_block q3
      by_cases hq : q = 0
      · subst hq
        have RN := Lib.hid (RD5.out.setOne six_len hkz (j := 5) (by decide) ⟨zs[k].r, wrap64 (zs[k].s + 1)⟩ _ rfl (fun j' h1 h2 => by
          have : j' = 0 ∨ j' = 1 ∨ j' = 2 ∨ j' = 3 ∨ j' = 4 := by omega
          rcases this with rfl | rfl | rfl | rfl | rfl <;> rfl) rfl)
        have KN := Lib.hid (K5.out)
        go_wp2_with fail
        go_ret
        refine ⟨zs.set k ⟨zs[k].r, wrap64 (zs[k].s + 1)⟩, _, cd, by simp [← HL.out], by have := HL.out; simp; omega, RN.out, ?_, ?_⟩
        · exact ((r5.below (Below.setCell (Below.refl _ _) (by simp; omega) _)).mono (by omega))
        · exact ⟨KN.out.os, KN.out.tape, KN.out.output, by simpa [World.setCell] using KN.out.size, fun b hb hne => (Below.heap_setCell _ _ _ _ (by simp; omega)).trans (KN.out.block b hb hne)⟩
      · go_wp2_with fail
        refine (l20AnyReq_c w5 g _ r5 (by omega)).mono ?_
        rintro e w6 ⟨⟨c, n, o, x, y⟩, rfl, r6, k6⟩
        have K6 := Lib.hid (grown_trans K5.out k6)
        have RD6 := Lib.hid (RD5.out.kept k6 (fun g'' hg' e => by have := HB.out g'' hg'; injection e; omega))
        have q6 := carry k6 (by omega) q3
        have hlt6 := lt_of_block q6
        have f6 := unfrozen_of_block q6
        have cc : ∀ j, j < 6 → ∃ u, w6.cell? ⟨g', k * 6 + j, none⟩ = some u := fun j hj => by
          have hsz : k * 6 + j < cur.size := by have := RD5.out.len; omega
          exact ⟨cur[k * 6 + j], (cell_of_block q6 _).trans (by simp [hsz])⟩
        obtain ⟨u0, e0⟩ := cc 0 (by decide)
        obtain ⟨u1, e1⟩ := cc 1 (by decide)
        obtain ⟨u2, e2⟩ := cc 2 (by decide)
        obtain ⟨u3, e3⟩ := cc 3 (by decide)
        obtain ⟨u4, e4⟩ := cc 4 (by decide)
        rw [Nat.add_zero] at e0
        clear k6 K5 cc cS fS q3 q4 q5 q6
        have T1 := RD6.out.setOne six_len hkz (j := 0) (by decide) (⟨⟨c, zs[k].r.n, zs[k].r.o, zs[k].r.x, zs[k].r.y⟩, zs[k].s⟩ : En) _ rfl (fun j' h1 h2 => by
          have : j' = 1 ∨ j' = 2 ∨ j' = 3 ∨ j' = 4 ∨ j' = 5 := by omega
          rcases this with rfl | rfl | rfl | rfl | rfl <;> rfl) rfl
        have T2 := T1.setOne six_len (i := k) (by simpa using hkz) (j := 1) (by decide) (⟨⟨c, n, zs[k].r.o, zs[k].r.x, zs[k].r.y⟩, zs[k].s⟩ : En) _ rfl (fun j' h1 h2 => by
          rw [List.getElem_set_self]
          have : j' = 0 ∨ j' = 2 ∨ j' = 3 ∨ j' = 4 ∨ j' = 5 := by omega
          rcases this with rfl | rfl | rfl | rfl | rfl <;> rfl) rfl
        have T3 := T2.setOne six_len (i := k) (by simpa using hkz) (j := 2) (by decide) (⟨⟨c, n, o, zs[k].r.x, zs[k].r.y⟩, zs[k].s⟩ : En) _ rfl (fun j' h1 h2 => by
          rw [List.getElem_set_self]
          have : j' = 0 ∨ j' = 1 ∨ j' = 3 ∨ j' = 4 ∨ j' = 5 := by omega
          rcases this with rfl | rfl | rfl | rfl | rfl <;> rfl) rfl
        have T4 := T3.setOne six_len (i := k) (by simpa using hkz) (j := 3) (by decide) (⟨⟨c, n, o, x, zs[k].r.y⟩, zs[k].s⟩ : En) _ rfl (fun j' h1 h2 => by
          rw [List.getElem_set_self]
          have : j' = 0 ∨ j' = 1 ∨ j' = 2 ∨ j' = 4 ∨ j' = 5 := by omega
          rcases this with rfl | rfl | rfl | rfl | rfl <;> rfl) rfl
        have T5 := T4.setOne six_len (i := k) (by simpa using hkz) (j := 4) (by decide) (⟨⟨c, n, o, x, y⟩, zs[k].s⟩ : En) _ rfl (fun j' h1 h2 => by
          rw [List.getElem_set_self]
          have : j' = 0 ∨ j' = 1 ∨ j' = 2 ∨ j' = 3 ∨ j' = 5 := by omega
          rcases this with rfl | rfl | rfl | rfl | rfl <;> rfl) rfl
        have HT := Lib.hid T5
        clear T1 T2 T3 T4 T5
        go_wp2_with fail
        go_ret
        exact ⟨_, _, cd, by simp [← HL.out], by have := HL.out; simp; omega, HT.out, (r6.below (Below.setCell (Below.setCell (Below.setCell (Below.setCell (Below.setCell (Below.refl _ _) (by simp; omega) _) (by simp; omega) _) (by simp; omega) _) (by simp; omega) _) (by simp; omega) _)).mono (by omega), (grown_setCell (grown_setCell (grown_setCell (grown_setCell (grown_setCell K6.out (.inr q2) _) (.inr q2) _) (.inr q2) _) (.inr q2) _) (.inr q2) _)⟩
    · go_wp2_with fail
      go_ret
      exact ⟨zs, d, cd, by simp [← HL.out], by have := HL.out; omega, RD3.out, r3.mono (by omega), K3.out⟩
end Go.Proofs.YtilldpoleiippaaDoor

/-! What is read of a text as rows, as a relation; no program; no condition. -/
namespace Go.Proofs.YtilldpoleiippaaDoor
open Go.RowKit

/-- What is read of a text: the right rows that are written so, if there are any. -/
def IsRows (s : List UInt8) (zs : List En) (b : Bool) : Prop :=
  (b = true ∧ far zs = zs.length ∧ rowsText zs = s) ∨ (b = false ∧ zs = [] ∧ ∀ ys, far ys = ys.length → rowsText ys ≠ s)
/-- A row's line. -/
def lineOf (z : En) : List UInt8 := Lib.itoa z.s ++ 32 :: reqPutL z.r
theorem rowText_line (z : En) : rowText z = lineOf z ++ [10] := by simp [rowText, lineOf]
theorem put_free (r : Rq) : (10 : UInt8) ∉ reqPutL r := by
  unfold reqPutL
  split
  · decide
  · split
    · rw [putL_glue]
      intro h
      simp only [glue, restOf, List.flatMap_cons, List.flatMap_nil, List.append_nil, List.mem_append, List.mem_cons, List.cons_append] at h
      have hi : ∀ n : Int, (10 : UInt8) ∉ Lib.itoa n := fun n => itoa_free (by decide) (by decide)
      have hw := (words_free r.o.toNat).2
      have h32 : ¬ (10 : UInt8) = 32 := by decide
      rcases h with h | h | h | h | h | h | h | h | h <;> first | exact hi _ h | exact hw h | exact h32 h
    · simp
theorem line_free (z : En) : (10 : UInt8) ∉ lineOf z := by
  unfold lineOf
  intro h
  rcases List.mem_append.1 h with h | h
  · exact itoa_free (by decide) (by decide) h
  · rcases List.mem_cons.1 h with h | h
    · exact absurd h (by decide)
    · exact put_free _ h
theorem rowsText_cons (z : En) (zs : List En) : rowsText (z :: zs) = lineOf z ++ 10 :: rowsText zs := by
  simp [rowsText, rowText_line]
theorem rowsText_glue : ∀ (zs : List En), rowsText zs = match zs with | [] => glue 10 [] [] | z :: zs => glue 10 (lineOf z) (zs.map lineOf ++ [[]])
  | [] => rfl
  | [z] => by simp [rowsText, rowText_line, glue]
  | z :: y :: zs => by
    have h := rowsText_glue (y :: zs)
    simp only at h
    rw [rowsText_cons, h]
    simp [glue]
/-- All pieces. -/
theorem cut_rows {zs : List En} (h : zs.length ≤ 61) : cutL 10 61 (rowsText zs) = zs.map lineOf ++ [[]] := by
  have hg := rowsText_glue zs
  cases zs with
  | nil => rfl
  | cons z zs =>
    simp only at hg
    rw [hg, cutL_glue (line_free z) ?_ ?_]
    · rfl
    · intro q hq
      rcases List.mem_append.1 hq with h' | h'
      · obtain ⟨y, -, rfl⟩ := List.mem_map.1 h'
        exact line_free y
      · rw [List.mem_singleton] at h'
        subst h'
        simp
    · rw [List.length_append, List.length_map]
      simpa using h
theorem cut_line (z : En) : cutL 32 1 (lineOf z) = [Lib.itoa z.s, reqPutL z.r] := by
  unfold cutL lineOf
  rw [cutGo_free _ _ _ _ (itoa_free (by decide) (by decide)), cutGo, if_pos rfl, cutGo_zero]
  rfl
theorem cut_line_lib (z : En) : Lib.cut (lineOf z) [32] = (Lib.itoa z.s, reqPutL z.r, true) := cut_at (itoa_free (by decide) (by decide))
theorem cut_rows_lib (z : En) (zs : List En) : Lib.cut (rowsText (z :: zs)) [10] = (lineOf z, rowsText zs, true) := by
  rw [rowsText_cons]
  exact cut_at (line_free z)
theorem rowsText_ne (z : En) (zs : List En) : rowsText (z :: zs) ≠ [] := by
  rw [rowsText_cons]; simp

/-! Right rows are those of their asks. -/
theorem far_goods {zs : List En} (h : far zs = zs.length) : (zs.map En.r).all good = true ∧ zs.length ≤ 60 := by
  refine ⟨?_, by have := far_le60 zs; omega⟩
  rw [List.all_eq_true]
  intro r hr
  obtain ⟨z, hz, rfl⟩ := List.mem_map.1 hr
  obtain ⟨k, hk, rfl⟩ := List.getElem_of_mem hz
  have := right_good ((far_is zs).2.1 k (by omega))
  rwa [enAt_eq hk] at this
theorem rows_of_asks {zs : List En} (h : far zs = zs.length) : rowsOf (zs.map En.r) = zs := by
  have key : ∀ k, k ≤ zs.length → rowsOf ((zs.take k).map En.r) = zs.take k := by
    intro k
    induction k with
    | zero => intro _; rfl
    | succ k ih =>
      intro hk
      have hk' : k < zs.length := by omega
      have ih := ih (by omega)
      rw [List.take_succ_eq_append_getElem hk', List.map_append, List.map_cons, List.map_nil, rowsOf_snoc, ih]
      have hs := right_sum ((far_is zs).2.1 k (by omega))
      have hp : lastSum (zs.take k) = prevAt zs k := by
        unfold lastSum prevAt
        have hl : (zs.take k).length = k := by rw [List.length_take]; omega
        rw [hl]
        split
        · rfl
        · rw [enAt_take (by omega)]
      rw [hp, List.length_map, List.length_take, Nat.min_eq_left (by omega)]
      rw [enAt_eq hk'] at hs
      congr 2
      rw [← hs]
  have := key zs.length (Nat.le_refl _)
  rwa [List.take_length] at this
theorem ledOf_of_asks {zs : List En} (h : far zs = zs.length) : ledOf (zs.map En.r) = zs := by
  obtain ⟨h1, h2⟩ := far_goods h
  unfold ledOf
  rw [if_pos ⟨by rw [List.length_map]; exact h2, h1⟩, rows_of_asks h]
/-- Texts of right rows tell them apart. -/
theorem rowsText_inj {xs ys : List En} (hx : far xs = xs.length) (hy : far ys = ys.length) (h : rowsText xs = rowsText ys) : xs = ys := by
  obtain ⟨gx, lx⟩ := far_goods hx
  obtain ⟨gy, ly⟩ := far_goods hy
  have h1 := cut_rows (zs := xs) (by omega)
  rw [h, cut_rows (zs := ys) (by omega)] at h1
  have h2 : ys.map lineOf = xs.map lineOf := List.append_cancel_right h1
  have h3 : xs.map En.r = ys.map En.r := by
    have hl : ys.length = xs.length := by have := congrArg List.length h2; simpa using this
    apply List.ext_getElem
    · simp [hl]
    · intro i hi hj
      rw [List.length_map] at hi hj
      have e : lineOf ys[i] = lineOf xs[i] := by
        have := congrArg (fun l => l[i]?) h2
        simp only [List.getElem?_map, List.getElem?_eq_getElem hi, List.getElem?_eq_getElem hj, Option.map_some, Option.some.injEq] at this
        exact this
      have e2 := cut_line ys[i]
      rw [e, cut_line] at e2
      simp only [List.cons.injEq, and_true] at e2
      simp only [List.getElem_map]
      refine reqPutL_inj ?_ ?_ e2.2
      · exact List.all_eq_true.1 gx _ (List.mem_map.2 ⟨_, List.getElem_mem hi, rfl⟩)
      · exact List.all_eq_true.1 gy _ (List.mem_map.2 ⟨_, List.getElem_mem hj, rfl⟩)
  rw [← rows_of_asks hx, ← rows_of_asks hy, h3]
theorem IsRows.uniq {s : List UInt8} {xs ys : List En} {a b : Bool} (h : IsRows s xs a) (k : IsRows s ys b) : xs = ys ∧ a = b := by
  rcases h with ⟨rfl, h1, h2⟩ | ⟨rfl, h1, h2⟩ <;> rcases k with ⟨rfl, k1, k2⟩ | ⟨rfl, k1, k2⟩
  · exact ⟨rowsText_inj h1 k1 (h2.trans k2.symm), rfl⟩
  · exact absurd h2 (k2 _ h1)
  · exact absurd k2 (h2 _ k1)
  · exact ⟨h1.trans k1.symm, rfl⟩
theorem IsRows.put {zs : List En} (h : far zs = zs.length) : IsRows (rowsText zs) zs true := .inl ⟨rfl, h, rfl⟩
theorem isRows_yes {s : List UInt8} {zs : List En} (h : far zs = zs.length) (hs : ledPut zs = s) : IsRows s zs true := by
  refine .inl ⟨rfl, h, ?_⟩
  unfold ledPut at hs
  rwa [if_pos h] at hs
theorem isRows_no {s : List UInt8} (h : ∀ ys, far ys = ys.length → rowsText ys ≠ s) : IsRows s [] false := .inr ⟨rfl, rfl, h⟩
end Go.Proofs.YtilldpoleiippaaDoor

/-! What is read of a text as rows: the reference's way and the program's; no program; no condition. -/
namespace Go.Proofs.YtilldpoleiippaaDoor
open Go.RowKit

/-- The last piece of a line. -/
def lastOf (l : List UInt8) : List UInt8 := (cutL 32 1 l).getD ((cutL 32 1 l).length - 1) []
/-- The reference: asks read of the first lines. -/
def LinesRead (s : List UInt8) (rs : List Rq) : Prop := ∀ j (h : j < rs.length), ∃ l, (cutL 10 61 s)[j]? = some l ∧ IsGet (lastOf l) rs[j] true
theorem LinesRead.nil (s : List UInt8) : LinesRead s [] := fun j h => absurd h (Nat.not_lt_zero j)
theorem LinesRead.snoc {s l : List UInt8} {rs : List Rq} {r : Rq} (h : LinesRead s rs) (hl : (cutL 10 61 s)[rs.length]? = some l) (hr : IsGet (lastOf l) r true) : LinesRead s (rs ++ [r]) := fun j hj => by
  by_cases e : j < rs.length
  · obtain ⟨l', h1, h2⟩ := h j e
    exact ⟨l', h1, by rw [List.getElem_append_left e]; exact h2⟩
  · have : j = rs.length := by rw [List.length_append] at hj; simp at hj; omega
    subst this
    exact ⟨l, hl, by rw [List.getElem_append_right (Nat.le_refl _)]; simpa using hr⟩
theorem last_line (z : En) : lastOf (lineOf z) = reqPutL z.r := by
  unfold lastOf
  rw [cut_line]
  rfl
theorem rows_line {ys : List En} (h : far ys = ys.length) {j : Nat} {l : List UInt8} (hj : j + 1 < (cutL 10 61 (rowsText ys)).length) (hl : (cutL 10 61 (rowsText ys))[j]? = some l) : ∃ hy : j < ys.length, l = lineOf ys[j] := by
  have h60 := (far_goods h).2
  rw [cut_rows (by omega)] at hl hj
  rw [List.length_append, List.length_map] at hj
  simp only [List.length_cons, List.length_nil] at hj
  have hy : j < ys.length := by omega
  rw [List.getElem?_append_left (by rw [List.length_map]; exact hy), List.getElem?_map, List.getElem?_eq_getElem hy] at hl
  simp only [Option.map_some, Option.some.injEq] at hl
  exact ⟨hy, hl.symm⟩
theorem good_of_far {ys : List En} (h : far ys = ys.length) {j : Nat} (hy : j < ys.length) : good ys[j].r = true :=
  List.all_eq_true.1 (far_goods h).1 _ (List.mem_map.2 ⟨_, List.getElem_mem hy, rfl⟩)
/-- A line of another number of pieces, or that is no ask. -/
theorem isRows_spec_line {s l : List UInt8} {j : Nat} (hj : j + 1 < (cutL 10 61 s).length) (hl : (cutL 10 61 s)[j]? = some l) (h : (cutL 32 1 l).length ≠ 2 ∨ ∃ r, IsGet (lastOf l) r false) : IsRows s [] false := isRows_no fun ys hy e => by
  subst e
  obtain ⟨hk, rfl⟩ := rows_line hy hj hl
  rcases h with h | ⟨r, h⟩
  · rw [cut_line] at h
    exact h rfl
  · rw [last_line] at h
    have := (h.uniq (IsGet.put (good_of_far hy hk))).2
    cases this
theorem ledOf_far (rs : List Rq) : far (ledOf rs) = (ledOf rs).length := by
  unfold ledOf
  split
  · rename_i h
    rw [far_rowsOf rs h.1 h.2]
    unfold rowsOf
    rw [ofAux_length]
  · rfl
theorem lines_rows {ys : List En} (h : far ys = ys.length) {rs : List Rq} (hr : LinesRead (rowsText ys) rs) (hn : rs.length + 1 = (cutL 10 61 (rowsText ys)).length) : rs = ys.map En.r := by
  have h60 := (far_goods h).2
  have hl : rs.length = ys.length := by
    rw [cut_rows (by omega), List.length_append, List.length_map] at hn
    simpa using hn
  apply List.ext_getElem
  · rw [List.length_map]; exact hl
  · intro j h1 h2
    obtain ⟨l, hl1, hg⟩ := hr j h1
    obtain ⟨hk, rfl⟩ := rows_line h (by omega) hl1
    rw [last_line] at hg
    rw [List.getElem_map]
    exact (hg.uniq (IsGet.put (good_of_far h hk))).1
theorem isRows_spec {s : List UInt8} {rs : List Rq} (hr : LinesRead s rs) (hn : rs.length + 1 = (cutL 10 61 s).length) : (ledPut (ledOf rs) = s → (ledOf rs).length = rs.length → IsRows s (ledOf rs) true) ∧ (¬ (ledPut (ledOf rs) = s ∧ (ledOf rs).length = rs.length) → IsRows s [] false) := by
  refine ⟨fun h1 _ => isRows_yes (ledOf_far rs) h1, fun hno => isRows_no fun ys hy e => hno ?_⟩
  subst e
  have e := lines_rows hy hr hn
  have e2 := ledOf_of_asks hy
  rw [e, e2, List.length_map]
  refine ⟨?_, rfl⟩
  unfold ledPut
  rw [if_pos hy]

/-! The program's way. -/
/-- Rows read so far, and what is left. -/
def RowsRead (s : List UInt8) (zs : List En) (rest : List UInt8) : Prop := ∀ ys, far ys = ys.length → rowsText ys = s → zs = ys.take zs.length ∧ rest = rowsText (ys.drop zs.length)
theorem RowsRead.start (s : List UInt8) : RowsRead s [] s := fun ys _ e => ⟨by simp, by simp [e]⟩
theorem rest_row {s rest : List UInt8} {zs ys : List En} (h : RowsRead s zs rest) (hne : rest ≠ []) (hy : far ys = ys.length) (e : rowsText ys = s) : ∃ hk : zs.length < ys.length, (Lib.cut rest [10]).1 = lineOf ys[zs.length] ∧ (Lib.cut rest [10]).2.1 = rowsText (ys.drop (zs.length + 1)) := by
  obtain ⟨h1, h2⟩ := h ys hy e
  have hk : zs.length < ys.length := by
    rcases Nat.lt_or_ge zs.length ys.length with q | q
    · exact q
    · rw [List.drop_eq_nil_of_le q] at h2
      exact absurd h2 hne
  refine ⟨hk, ?_⟩
  rw [List.drop_eq_getElem_cons hk] at h2
  rw [h2, cut_rows_lib]
  exact ⟨rfl, rfl⟩
/-- A line that is no ask. -/
theorem isRows_impl_line {s rest : List UInt8} {zs : List En} {r : Rq} (h : RowsRead s zs rest) (hne : rest ≠ []) (hg : IsGet (Lib.cut (Lib.cut rest [10]).1 [32]).2.1 r false) : IsRows s [] false := isRows_no fun ys hy e => by
  obtain ⟨hk, h1, -⟩ := rest_row h hne hy e
  rw [h1, cut_line_lib] at hg
  have := (hg.uniq (IsGet.put (good_of_far hy hk))).2
  cases this
theorem RowsRead.snoc {s rest : List UInt8} {zs : List En} {r : Rq} (h : RowsRead s zs rest) (hne : rest ≠ []) (hg : IsGet (Lib.cut (Lib.cut rest [10]).1 [32]).2.1 r true) :
    RowsRead s (zs ++ [⟨r, Lib.atoiOr (Lib.cut (Lib.cut rest [10]).1 [32]).1 (-1099511627776)⟩]) (Lib.cut rest [10]).2.1 := fun ys hy e => by
  obtain ⟨hk, h1, h2⟩ := rest_row h hne hy e
  rw [h1, cut_line_lib] at hg
  obtain ⟨hr, -⟩ := hg.uniq (IsGet.put (good_of_far hy hk))
  have hb := s_bounds hy hk
  rw [h1, cut_line_lib, h2]
  simp only
  rw [atoiOr_itoa (by omega) (by omega), hr]
  refine ⟨?_, by rw [List.length_append]; rfl⟩
  have ht := (h ys hy e).1
  rw [List.length_append]
  show zs ++ [ys[zs.length]] = ys.take (zs.length + 1)
  rw [List.take_succ_eq_append_getElem hk, ← ht]
theorem rows_end {s : List UInt8} {zs ys : List En} (h : RowsRead s zs []) (hy : far ys = ys.length) (e : rowsText ys = s) : zs = ys := by
  obtain ⟨h1, h2⟩ := h ys hy e
  have hd : ys.drop zs.length = [] := by
    cases hq : ys.drop zs.length with
    | nil => rfl
    | cons z t => rw [hq] at h2; exact absurd h2.symm (rowsText_ne z t)
  have := List.take_append_drop zs.length ys
  rw [hd, List.append_nil] at this
  rw [h1]
  exact this
theorem isRows_impl {s : List UInt8} {zs : List En} (h : RowsRead s zs []) : (far zs = zs.length → ledPut zs = s → IsRows s zs true) ∧ (¬ (far zs = zs.length ∧ ledPut zs = s) → IsRows s [] false) := by
  refine ⟨fun h1 h2 => isRows_yes h1 h2, fun hno => isRows_no fun ys hy e => hno ?_⟩
  have := rows_end h hy e
  subst this
  refine ⟨hy, ?_⟩
  unfold ledPut
  rw [if_pos hy]
  exact e
end Go.Proofs.YtilldpoleiippaaDoor
