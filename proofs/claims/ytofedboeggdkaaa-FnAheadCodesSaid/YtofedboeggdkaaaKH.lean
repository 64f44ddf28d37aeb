/- Contracts of AheadOk and of its reference; the walk of FnExactAheadOk; no condition. | The walk of FnExactAheadOk; no condition. | Contracts of AheadPush, the program's and the reference's; condition: small sizes. | Contract of the reference's AheadPush; condition: small sizes. | slices.Index at asks; the reference's l8At; condition: small sizes. | Contract of the program's AheadKeep; condition: small sizes. | What is done ahead, as plain functions of games; no program; no condition. -/
import Derived.Test.YtofedboeggdkaaaKA
import Derived.Test.YtofedboeggdkaaaKB
set_option linter.unusedSimpArgs false
set_option linter.unusedVariables false
/-! Contracts of AheadOk and of its reference; the walk of FnExactAheadOk; no condition. -/
namespace Go.Proofs.Ytofedboeggdkaaa
open Go.RowKit Go.Joins

attribute [local go_sem ↓] eql_rq neq_rq

def aheadB (z : Ah) : Bool := z.dn.all good && z.wt.all good && decide (z.dn.length + z.wt.length ≤ 60) && inB z.bk 0 99

set_option maxHeartbeats 400000 in
theorem size_c (a0 a1 : Option Addr) (n0 n1 c0 c1 : Nat) (bk : Int) (w : World) (h0 : n0 ≤ c0) (m0 : c0 ≤ maxLen) (h1 : n1 ≤ c1) (m1 : c1 ≤ maxLen) (hs : n0 + n1 ≤ 9223372036854775807) :
    Calls Try.prog 67 #[.agg #[.slice a0 n0 c0, .slice a1 n1 c1, .int .i64 bk]] w fun e w' => e = .returned (.int .i64 (n0 + n1)) ∧ Below w.heap.size w w' := by
  unfold maxLen at m0 m1
  go_enter Try.func67, Try.ntmps67
  go_wp2_with fail
  go_ret
  exact ⟨rfl, (by repeat' (first | with_reducible exact Below.refl _ _ | with_reducible assumption | with_reducible refine Below.alloc ?_ ?_ _ | with_reducible refine Below.drew ?_ | with_reducible refine Below.setCell ?_ ?_ _ | omega | (simp; omega) | (simp; done)))⟩

set_option maxHeartbeats 1000000 in
theorem AheadOk_c (z : Ah) (a0 a1 : Option Addr) (c0 c1 : Nat) (w : World) (h0 : IsSl w (.slice a0 z.dn.length c0) 5 Rq.cs z.dn) (h1 : IsSl w (.slice a1 z.wt.length c1) 5 Rq.cs z.wt) (hs : z.dn.length + z.wt.length ≤ 1048576) :
    Calls Try.prog 27 #[.agg #[.slice a0 z.dn.length c0, .slice a1 z.wt.length c1, .int .i64 z.bk]] w fun e w' => e = .returned (.bool (aheadB z)) ∧ Below w.heap.size w w' := by
  obtain ⟨dn, wt, bk⟩ := z
  simp only [aheadB] at h0 h1 hs ⊢
  generalize hn0 : dn.length = n0 at *
  generalize hn1 : wt.length = n1 at *
  have L0 : n0 ≤ c0 ∧ c0 ≤ maxLen := by
    obtain ⟨_, _, e, hl, hm, _⟩ := h0
    simp only [Value.slice.injEq] at e
    omega
  have L1 : n1 ≤ c1 ∧ c1 ≤ maxLen := by
    obtain ⟨_, _, e, hl, hm, _⟩ := h1
    simp only [Value.slice.injEq] at e
    omega
  have H1 := Lib.hid h1
  have HL := Lib.hid (And.intro L0 L1)
  clear h1 L0 L1
  go_enter Try.func27, Try.ntmps27
  go_wp2_with fail
  obtain ⟨W, hW, sW, aW, kW⟩ := blocks1 w (.cells #[.slice a0 n0 c0, .slice a1 n1 c1, .int .i64 bk] 30)
  rw [← hW]
  clear hW
  refine (allOk_c a0 dn n0 c0 _ (h0.below kW) hn0).mono ?_
  rintro e w1 ⟨rfl, k1⟩
  have K1 := below_next kW k1
  have aW1 := carryB k1 (by omega) aW
  have hc1 := cell_of_block aW1
  have s1 := k1.size
  clear aW k1
  cases hd : dn.all good with
  | false =>
    go_wp2_with fail
    go_ret
    exact ⟨ret_bool (by rw [hd]; rfl), K1⟩
  | true =>
    go_wp2_with fail
    refine (allOk_c a1 wt n1 c1 _ (H1.out.below K1) hn1).mono ?_
    rintro e w2 ⟨rfl, k2⟩
    have K2 := below_next K1 k2
    have aW2 := carryB k2 (by omega) aW1
    have hc2 := cell_of_block aW2
    have s2 := k2.size
    clear aW1 hc1 k2
    cases hw : wt.all good with
    | false =>
      go_wp2_with fail
      go_ret
      exact ⟨ret_bool (by rw [hd, hw]; rfl), K2⟩
    | true =>
      go_wp2_with fail
      refine (size_c a0 a1 n0 n1 c0 c1 bk _ HL.out.1.1 HL.out.1.2 HL.out.2.1 HL.out.2.2 (by omega)).mono ?_
      rintro e w3 ⟨rfl, k3⟩
      have K3 := below_next K2 k3
      have hc3 := cell_of_block (carryB k3 (by omega) aW2)
      clear aW2 hc2 k3
      by_cases h60 : n0 + n1 ≤ 60
      · have h60' : (n0 : Int) + (n1 : Int) ≤ 60 := by omega
        go_wp2_with fail
        refine (in_c _ _ _ _).mono ?_
        rintro e w4 ⟨rfl, rfl⟩
        go_wp2_with fail
        go_ret
        exact ⟨ret_bool (by first | rfl | (rw [hd, hw]; simp [h60])), K3⟩
      · have h60' : ¬ (n0 : Int) + (n1 : Int) ≤ 60 := by omega
        go_wp2_with fail
        go_ret
        exact ⟨ret_bool (by first | rfl | (rw [hd, hw]; simp [h60])), K3⟩

theorem bad_both {dn wt : List Rq} {k : Nat} (h : k < (dn ++ wt).length) (hb : good (dn ++ wt)[k] = false) : (dn.all good && wt.all good) = false := by
  rw [← List.all_append, ← Bool.not_eq_true, List.all_eq_true]
  intro hh
  have := hh _ (List.getElem_mem h)
  rw [hb] at this
  cases this

/-- One ask of a list out of two. -/
theorem both_at {dn wt : List Rq} {k : Nat} (h : k < (dn ++ wt).length) : (∃ h' : k < dn.length, (dn ++ wt)[k] = dn[k]) ∨ (∃ h' : dn.length ≤ k, ∃ h'' : k - dn.length < wt.length, (dn ++ wt)[k] = wt[k - dn.length]) := by
  by_cases h' : k < dn.length
  · exact .inl ⟨h', List.getElem_append_left h'⟩
  · refine .inr ⟨by omega, by simp at h; omega, List.getElem_append_right (by omega)⟩

set_option maxRecDepth 100000 in
set_option maxHeartbeats 4000000 in
theorem l8Ok_c (z : Ah) (a0 a1 : Option Addr) (c0 c1 : Nat) (w : World) (h0 : IsSl w (.slice a0 z.dn.length c0) 5 Rq.cs z.dn) (h1 : IsSl w (.slice a1 z.wt.length c1) 5 Rq.cs z.wt) (hs : z.dn.length + z.wt.length ≤ 1048576) :
    Calls Try.prog 61 #[.agg #[.slice a0 z.dn.length c0, .slice a1 z.wt.length c1, .int .i64 z.bk]] w fun e w' => e = .returned (.bool (aheadB z)) ∧ Below w.heap.size w w' := by
  obtain ⟨dn, wt, bk⟩ := z
  simp only [aheadB] at h0 h1 hs ⊢
  obtain ⟨a', cap', e, hlc0, hm0, hr0⟩ := h0
  simp only [Value.slice.injEq] at e
  obtain ⟨rfl, -, rfl⟩ := e
  obtain ⟨a', cap', e, hlc1, hm1, hr1⟩ := h1
  simp only [Value.slice.injEq] at e
  obtain ⟨rfl, -, rfl⟩ := e
  have R0 := Lib.hid hr0
  have R1 := Lib.hid hr1
  clear hr0 hr1
  unfold maxLen at hm0 hm1
  generalize hn0 : dn.length = n0 at *
  generalize hn1 : wt.length = n1 at *
  go_enter Try.func61, Try.ntmps61
  go_wp2_with fail
  obtain ⟨W, hW, sW, aW, kW⟩ := blocks1 w (.cells #[.slice a0 n0 c0, .slice a1 n1 c1, .int .i64 bk] 30)
  rw [← hW]
  clear hW
  go_loopw [3] (fun i wr => ∃ k : Nat, k ≤ n0 + n1 ∧ i = .int .i64 k ∧ (∀ j (hj : j < (dn ++ wt).length), j < k → good (dn ++ wt)[j] = true) ∧ wr.heap[w.heap.size]? = some (.cells #[.slice a0 n0 c0, .slice a1 n1 c1, .int .i64 bk] 30 (0, 0)) ∧ Below w.heap.size w wr) (fun i _ => n0 + n1 - (intOf i).toNat)
  case atStart => exact ⟨0, Nat.zero_le _, rfl, fun j _ hj => absurd hj (Nat.not_lt_zero j), aW, kW⟩
  case round =>
    obtain ⟨k, hk, rfl, hall, hB, hbel⟩ := hrel
    have HA := Lib.hid hall
    have HB := Lib.hid hB
    have hlB := lt_of_block hB
    have hcB := cell_of_block hB
    clear hall hB aW kW
    by_cases hlt : k < n0 + n1
    · have hkz : k < (dn ++ wt).length := by simp; omega
      have hk1 : (k : Int) < (n0 : Int) + (n1 : Int) := by omega
      have hk0 : (0 : Int) ≤ (k : Int) := by omega
      rcases both_at hkz with ⟨hk', hz⟩ | ⟨hk', hk'', hz⟩
      · obtain ⟨b, off, rfl, hb, hcz⟩ := five_at R0.out k hk'
        obtain ⟨d0, d1, d2, d3, d4⟩ := hcz wr hbel
        have hb' := Nat.lt_of_lt_of_le hb hbel.size
        have hne : b ≠ wr.heap.size := by omega
        have hne' : w.heap.size ≠ wr.heap.size := by omega
        have hkn : (k : Int) < (n0 : Int) := by omega
        rw [← hz] at d0 d1 d2 d3 d4
        clear hz hcz
        generalize hzz : (dn ++ wt)[k] = z at d0 d1 d2 d3 d4
        have hzg : good (dn ++ wt)[k] = goodB z.c z.n z.o z.x z.y := by rw [hzz]; rfl
        have HZ := Lib.hid hzg
        clear hzg hzz
        go_wp2_with fail
        obtain ⟨X, hX, sX, aX, kX⟩ := blocks1 wr (.cells #[.int .i64 z.c, .int .i64 z.n, .int .i64 z.o, .int .i64 z.x, .int .i64 z.y] 34)
        rw [← hX]
        clear hX
        have oX := carryB kX hlB HB.out
        have KX := below_next hbel kX
        have lX : wr.heap.size < X.heap.size := by omega
        have lX' : w.heap.size < X.heap.size := by omega
        refine (l1Ok_c z.c z.n z.o z.x z.y _).mono ?_
        rintro e w1 ⟨rfl, k1⟩
        have s1 := k1.size
        have aX1 := carryB k1 lX aX
        have oX1 := carryB k1 lX' oX
        have hc1 := cell_of_block aX1
        have K1 := below_next KX k1
        clear aX oX k1 kX d0 d1 d2 d3 d4 hcB
        cases hg : okB z.c z.n z.o z.x z.y with
        | true =>
          go_wp2_with fail
          refine ⟨⟨k + 1, by omega, by go_num, fun j hj hjk => ?_, oX1, K1⟩, ?_⟩
          · by_cases hjk' : j = k
            · subst hjk'; rw [HZ.out, goodB, hg]; simp
            · exact HA.out j hj (by omega)
          · simp [intOf]; omega
        | false =>
          go_wp2_with fail
          refine (l1None_c z.c z.n z.o z.x z.y _).mono ?_
          rintro e w2 ⟨rfl, k2⟩
          have oX2 := carryB k2 (by omega) oX1
          have K2 := below_next K1 k2
          clear k2 hc1 aX1
          cases hh : noneB z.c z.n z.o z.x z.y with
          | true =>
            go_wp2_with fail
            refine ⟨⟨k + 1, by omega, by go_num, fun j hj hjk => ?_, oX2, K2⟩, ?_⟩
            · by_cases hjk' : j = k
              · subst hjk'; rw [HZ.out, goodB, show eqR z.c z.n z.o z.x z.y 0 0 0 0 0 = true from hh]; rfl
              · exact HA.out j hj (by omega)
            · simp [intOf]; omega
          | false =>
            go_wp2_with fail
            go_ret
            refine ⟨ret_bool ?_, K2⟩
            have hb2 := bad_both hkz (by rw [HZ.out, goodB, show eqR z.c z.n z.o z.x z.y 0 0 0 0 0 = false from hh, hg]; rfl)
            rw [hb2]
            rfl
      · obtain ⟨b, off, rfl, hb, hcz⟩ := five_at R1.out (k - dn.length) hk''
        obtain ⟨d0, d1, d2, d3, d4⟩ := hcz wr hbel
        have hb' := Nat.lt_of_lt_of_le hb hbel.size
        have hne : b ≠ wr.heap.size := by omega
        have hne' : w.heap.size ≠ wr.heap.size := by omega
        have hkn : ¬ (k : Int) < (n0 : Int) := by omega
        rw [← hz] at d0 d1 d2 d3 d4
        rw [hn0] at d0 d1 d2 d3 d4
        clear hz hcz
        generalize hzz : (dn ++ wt)[k] = z at d0 d1 d2 d3 d4
        have hzg : good (dn ++ wt)[k] = goodB z.c z.n z.o z.x z.y := by rw [hzz]; rfl
        have HZ := Lib.hid hzg
        clear hzg hzz
        obtain ⟨m, hm⟩ : ∃ m : Nat, k = n0 + m := ⟨k - n0, by omega⟩
        subst hm
        have hm1' : (m : Int) < (n1 : Int) := by omega
        rw [show n0 + m - n0 = m by omega] at d0 d1 d2 d3 d4
        go_wp2_with fail
        obtain ⟨X, hX, sX, aX, kX⟩ := blocks1 wr (.cells #[.int .i64 z.c, .int .i64 z.n, .int .i64 z.o, .int .i64 z.x, .int .i64 z.y] 34)
        rw [← hX]
        clear hX
        have oX := carryB kX hlB HB.out
        have KX := below_next hbel kX
        have lX : wr.heap.size < X.heap.size := by omega
        have lX' : w.heap.size < X.heap.size := by omega
        refine (l1Ok_c z.c z.n z.o z.x z.y _).mono ?_
        rintro e w1 ⟨rfl, k1⟩
        have s1 := k1.size
        have aX1 := carryB k1 lX aX
        have oX1 := carryB k1 lX' oX
        have hc1 := cell_of_block aX1
        have K1 := below_next KX k1
        clear aX oX k1 kX d0 d1 d2 d3 d4 hcB
        cases hg : okB z.c z.n z.o z.x z.y with
        | true =>
          go_wp2_with fail
          refine ⟨⟨n0 + m + 1, by omega, by go_num, fun j hj hjk => ?_, oX1, K1⟩, ?_⟩
          · by_cases hjk' : j = n0 + m
            · subst hjk'; rw [HZ.out, goodB, hg]; simp
            · exact HA.out j hj (by omega)
          · simp [intOf]; omega
        | false =>
          go_wp2_with fail
          refine (l1None_c z.c z.n z.o z.x z.y _).mono ?_
          rintro e w2 ⟨rfl, k2⟩
          have oX2 := carryB k2 (by omega) oX1
          have K2 := below_next K1 k2
          clear k2 hc1 aX1
          cases hh : noneB z.c z.n z.o z.x z.y with
          | true =>
            go_wp2_with fail
            refine ⟨⟨n0 + m + 1, by omega, by go_num, fun j hj hjk => ?_, oX2, K2⟩, ?_⟩
            · by_cases hjk' : j = n0 + m
              · subst hjk'; rw [HZ.out, goodB, show eqR z.c z.n z.o z.x z.y 0 0 0 0 0 = true from hh]; rfl
              · exact HA.out j hj (by omega)
            · simp [intOf]; omega
          | false =>
            go_wp2_with fail
            go_ret
            refine ⟨ret_bool ?_, K2⟩
            have hb2 := bad_both hkz (by rw [HZ.out, goodB, show eqR z.c z.n z.o z.x z.y 0 0 0 0 0 = false from hh, hg]; rfl)
            rw [hb2]
            rfl
    · have hkk : k = n0 + n1 := by omega
      have hall2 : (dn.all good && wt.all good) = true := by
        have h2 : (dn ++ wt).all good = true := by
          rw [List.all_eq_true]
          intro z hz
          obtain ⟨j, hj, rfl⟩ := List.getElem_of_mem hz
          exact HA.out j hj (by simp at hj; omega)
        rwa [List.all_append] at h2
      by_cases h60 : n0 + n1 ≤ 60
      · go_wp2_with fail
        refine (l1In_c _ _ _ _).mono ?_
        rintro e w4 ⟨rfl, rfl⟩
        go_wp2_with fail
        go_ret
        exact ⟨ret_bool (by first | rfl | (rw [hall2]; simp [h60])), hbel⟩
      · go_wp2_with fail
        go_ret
        exact ⟨ret_bool (by first | rfl | (rw [hall2]; simp [h60])), hbel⟩
end Go.Proofs.Ytofedboeggdkaaa

/-! The walk of FnExactAheadOk; no condition. -/
namespace Go.Proofs.Ytofedboeggdkaaa
open Go.RowKit Go.Joins

set_option maxHeartbeats 1000000 in
theorem sAheadOk_c (z : Ah) (a0 a1 : Option Addr) (c0 c1 : Nat) (w : World) (h0 : IsSl w (.slice a0 z.dn.length c0) 5 Rq.cs z.dn) (h1 : IsSl w (.slice a1 z.wt.length c1) 5 Rq.cs z.wt) (hs : z.dn.length + z.wt.length ≤ 1048576) :
    Calls Try.prog 28 #[.agg #[.slice a0 z.dn.length c0, .slice a1 z.wt.length c1, .int .i64 z.bk]] w fun e w' => e = .returned (.bool (aheadB z)) ∧ Below w.heap.size w w' := by
  have H0 := Lib.hid h0
  have H1 := Lib.hid h1
  clear h0 h1
  go_enter Try.func28, Try.ntmps28
  go_wp2_with fail
  obtain ⟨W, hW, sW, aW, kW⟩ := blocks1 w (.cells #[.slice a0 z.dn.length c0, .slice a1 z.wt.length c1, .int .i64 z.bk] 30)
  rw [← hW]
  clear hW
  refine (l8Ok_c z a0 a1 c0 c1 _ (H0.out.below kW) (H1.out.below kW) hs).mono ?_
  rintro e w1 ⟨rfl, k1⟩
  have K1 := below_next kW k1
  go_wp2_with fail
  go_ret
  exact ⟨rfl, K1⟩

end Go.Proofs.Ytofedboeggdkaaa

/-! Contracts of AheadPush, the program's and the reference's; condition: small sizes. -/
namespace Go.Proofs.Ytofedboeggdkaaa
open Go.RowKit Go.Joins

/-- AheadPush. -/
def pushA (z : Ah) (r : Rq) : Ah × Bool :=
  if aheadB z then (if okB r.c r.n r.o r.x r.y && !(decide (z.dn.length + z.wt.length = 60)) then (⟨z.dn, z.wt ++ [r], z.bk⟩, true) else (z, false)) else (⟨[], [], 0⟩, false)

theorem pushA_len (z : Ah) (r : Rq) (hs : z.dn.length + z.wt.length ≤ 1048576) : (pushA z r).1.dn.length ≤ 1048576 ∧ (pushA z r).1.wt.length ≤ 1048577 := by
  unfold pushA
  split
  · split
    · exact ⟨by simp only; omega, by simp only [List.length_append, List.length_cons, List.length_nil]; omega⟩
    · exact ⟨by simp only; omega, by simp only; omega⟩
  · exact ⟨by simp, by simp⟩
theorem rowsAt_one (w : World) (r : Rq) (t : TypeId) : RowsAt (w.alloc (.cells #[.int .i64 r.c, .int .i64 r.n, .int .i64 r.o, .int .i64 r.x, .int .i64 r.y] t)) (some ⟨w.heap.size, 0, none⟩) 5 Rq.cs [r] :=
  rows_of_block (t := t) (fr := (0, 0)) five_len (heap_alloc_new w (.cells #[.int .i64 r.c, .int .i64 r.n, .int .i64 r.o, .int .i64 r.x, .int .i64 r.y] t))
/-- A client in rows of its own, without room, and a truth. -/
def RetA (z : Ah) (b : Bool) (w : World) (e : Ending) (w' : World) : Prop :=
  ∃ b0 b1, e = .returned (.tuple #[.agg #[.slice b0 z.dn.length z.dn.length, .slice b1 z.wt.length z.wt.length, .int .i64 z.bk], .bool b]) ∧ Row w' w.heap.size 34 b0 z.dn.length 5 Rq.cs z.dn ∧ Row w' w.heap.size 34 b1 z.wt.length 5 Rq.cs z.wt ∧ (∀ g, rowBlk b0 z.dn.length = some g → rowBlk b1 z.wt.length ≠ some g) ∧ Below w.heap.size w w'

set_option maxRecDepth 100000 in
set_option maxHeartbeats 4000000 in
theorem AheadPush_c (z : Ah) (r : Rq) (a0 a1 : Option Addr) (c0 c1 : Nat) (w : World) (h0 : IsSl w (.slice a0 z.dn.length c0) 5 Rq.cs z.dn) (h1 : IsSl w (.slice a1 z.wt.length c1) 5 Rq.cs z.wt) (hs : z.dn.length + z.wt.length ≤ 1048576) :
    Calls Try.prog 19 #[.agg #[.slice a0 z.dn.length c0, .slice a1 z.wt.length c1, .int .i64 z.bk], .agg #[.int .i64 r.c, .int .i64 r.n, .int .i64 r.o, .int .i64 r.x, .int .i64 r.y]] w (RetA (pushA z r).1 (pushA z r).2 w) := by
  have H0 := Lib.hid h0
  have H1 := Lib.hid h1
  clear h0 h1
  by_cases hA : aheadB z = true
  · go_enter Try.func19, Try.ntmps19
    go_wp2_with fail
    obtain ⟨W, hW, sW, aW, bW, cW, kW⟩ := blocks3 w (.cells #[.slice a0 z.dn.length c0, .slice a1 z.wt.length c1, .int .i64 z.bk] 30) (.cells #[.int .i64 r.c, .int .i64 r.n, .int .i64 r.o, .int .i64 r.x, .int .i64 r.y] 34) (.cells #[.slice none 0 0, .slice none 0 0, .int .i64 0] 30)
    rw [← hW]
    clear hW
    refine (AheadOk_c z _ _ _ _ _ (H0.out.below kW) (H1.out.below kW) hs).mono ?_
    rintro e w1 ⟨rfl, k1⟩
    rw [hA]
    have K1 := below_next kW k1
    have s1 := k1.size
    replace aW := carryB k1 (by omega) aW
    replace bW := carryB k1 (by omega) bW
    replace cW := carryB k1 (by omega) cW
    have caW := cell_of_block aW
    have faW := unfrozen_of_block aW
    have laW := lt_of_block aW
    clear kW k1
    go_wp2_with fail
    refine (copyOfA_c z _ _ _ _ _ _ w1 (H0.out.below K1) (H1.out.below K1) (by omega) (by omega)).mono ?_
    rintro e w2 ⟨b0, b1, rfl, r0, r1, ap, k2⟩
    have K2 := below_next K1 k2
    have R0 := Lib.hid r0
    have R1 := Lib.hid r1
    have AP := Lib.hid ap
    have HB0 := Lib.hid (fun g (hg : rowBlk b0 z.dn.length = some g) => r0.blk hg)
    have HB1 := Lib.hid (fun g (hg : rowBlk b1 z.wt.length = some g) => r1.blk hg)
    have s2 := k2.size
    clear caW faW laW
    replace aW := carryB k2 (by omega) aW
    replace bW := carryB k2 (by omega) bW
    replace cW := carryB k2 (by omega) cW
    clear K1 k2 r0 r1 ap
    have caW := cell_of_block aW
    have faW := unfrozen_of_block aW
    have laW := lt_of_block aW
    have cbW := cell_of_block bW
    have fbW := unfrozen_of_block bW
    have lbW := lt_of_block bW
    have ccW := cell_of_block cW
    have fcW := unfrozen_of_block cW
    have lcW := lt_of_block cW
    go_wp2_with fail
    obtain ⟨X, hX, sX, dW, kX⟩ := blocks1 w2 (.cells #[.slice b0 z.dn.length z.dn.length, .slice b1 z.wt.length z.wt.length, .int .i64 z.bk] 30)
    rw [← hX]
    clear hX
    clear caW faW laW cbW fbW lbW ccW fcW lcW
    refine (ReqOk_c r.c r.n r.o r.x r.y X).mono ?_
    rintro e w3 ⟨rfl, k3⟩
    have s3 := k3.size
    replace aW := carryB kX (by omega) aW
    replace bW := carryB kX (by omega) bW
    replace cW := carryB kX (by omega) cW
    replace aW := carryB k3 (by omega) aW
    replace bW := carryB k3 (by omega) bW
    replace cW := carryB k3 (by omega) cW
    replace dW := carryB k3 (by omega) dW
    have K3 := below_next (below_next K2 kX) k3
    have Q0 := Lib.hid ((R0.out.below kX).below k3)
    have Q1 := Lib.hid ((R1.out.below kX).below k3)
    clear kX k3 K2
    have caW := cell_of_block aW
    have faW := unfrozen_of_block aW
    have laW := lt_of_block aW
    have cbW := cell_of_block bW
    have fbW := unfrozen_of_block bW
    have lbW := lt_of_block bW
    have ccW := cell_of_block cW
    have fcW := unfrozen_of_block cW
    have lcW := lt_of_block cW
    have cdW := cell_of_block dW
    have fdW := unfrozen_of_block dW
    have ldW := lt_of_block dW
    cases hO : okB r.c r.n r.o r.x r.y with
    | false =>
      have hp : pushA z r = (z, false) := by unfold pushA; rw [if_pos hA, hO]; rfl
      go_wp2_with fail
      refine bodyPost_ret (v := .tuple #[.agg #[.slice b0 z.dn.length z.dn.length, .slice b1 z.wt.length z.wt.length, .int .i64 z.bk], .bool false]) (by simp [results, Try.results19, go_sem, ccW]) rfl ?_
      rw [hp]
      exact ⟨b0, b1, rfl, (((Q0.out.setOther (by simp <;> omega) _).setOther (by simp <;> omega) _).setOther (by simp <;> omega) _).low (by omega), (((Q1.out.setOther (by simp <;> omega) _).setOther (by simp <;> omega) _).setOther (by simp <;> omega) _).low (by omega), AP.out, (by repeat' (first | with_reducible exact Below.refl _ _ | with_reducible assumption | with_reducible refine Below.alloc ?_ ?_ _ | with_reducible refine Below.drew ?_ | with_reducible refine Below.setCell ?_ ?_ _ | omega | (simp; omega) | (simp; done)))⟩
    | true =>
      have hsz := hs
      have hlb0 := H0.out.bounds
      have hlb1 := H1.out.bounds
      have hl0 := Lib.hid (And.intro hlb0.2.1 hlb0.2.2.1)
      have hl1 := Lib.hid (And.intro hlb1.2.1 hlb1.2.2.1)
      clear hlb0 hlb1
      go_wp2_with fail
      refine (size_c a0 a1 _ _ c0 c1 z.bk w3 hl0.out.1 hl0.out.2 hl1.out.1 hl1.out.2 (by omega)).mono ?_
      rintro e w4 ⟨rfl, k4⟩
      have s4 := k4.size
      clear caW faW laW cbW fbW lbW ccW fcW lcW cdW fdW ldW
      replace aW := carryB k4 (by omega) aW
      replace bW := carryB k4 (by omega) bW
      replace cW := carryB k4 (by omega) cW
      replace dW := carryB k4 (by omega) dW
      have K4 := below_next K3 k4
      have P0 := Lib.hid (Q0.out.below k4)
      have P1 := Lib.hid (Q1.out.below k4)
      clear k4 K3 Q0 Q1 R0 R1
      have caW := cell_of_block aW
      have faW := unfrozen_of_block aW
      have laW := lt_of_block aW
      have cbW := cell_of_block bW
      have fbW := unfrozen_of_block bW
      have lbW := lt_of_block bW
      have ccW := cell_of_block cW
      have fcW := unfrozen_of_block cW
      have lcW := lt_of_block cW
      have cdW := cell_of_block dW
      have fdW := unfrozen_of_block dW
      have ldW := lt_of_block dW
      by_cases h60 : z.dn.length + z.wt.length = 60
      · have hp : pushA z r = (z, false) := by unfold pushA; rw [if_pos hA, hO]; simp [h60]
        have h60' : ((z.dn.length : Int) + (z.wt.length : Int)) = 60 := by omega
        rw [h60']
        go_wp2_with fail
        refine bodyPost_ret (v := .tuple #[.agg #[.slice b0 z.dn.length z.dn.length, .slice b1 z.wt.length z.wt.length, .int .i64 z.bk], .bool false]) (by simp [results, Try.results19, go_sem, ccW]) rfl ?_
        rw [hp]
        exact ⟨b0, b1, rfl, (((P0.out.setOther (by simp <;> omega) _).setOther (by simp <;> omega) _).setOther (by simp <;> omega) _).low (by omega), (((P1.out.setOther (by simp <;> omega) _).setOther (by simp <;> omega) _).setOther (by simp <;> omega) _).low (by omega), AP.out, (by repeat' (first | with_reducible exact Below.refl _ _ | with_reducible assumption | with_reducible refine Below.alloc ?_ ?_ _ | with_reducible refine Below.drew ?_ | with_reducible refine Below.setCell ?_ ?_ _ | omega | (simp; omega) | (simp; done)))⟩
      · have hp : pushA z r = (⟨z.dn, z.wt ++ [r], z.bk⟩, true) := by unfold pushA; rw [if_pos hA, hO]; simp [h60]
        have h60' : ¬ ((z.dn.length : Int) + (z.wt.length : Int)) = 60 := by omega
        have P11 := Lib.hid (P1.out.alloc (.cells #[.int .i64 r.c, .int .i64 r.n, .int .i64 r.o, .int .i64 r.x, .int .i64 r.y] 34))
        go_wp2_with (at_builtin; refine wpList_append_row rfl _ _ rfl (z.wt.length + 1) eltReq rfl rfl P11.out (rowsAt_one _ r _) rfl rfl rfl (by simp only [maxLen]; omega) (by omega) (by simp <;> omega) ?_)
        intro b2 c2 w5 q5
        have s5 := q5.grown.size
        rw [World.size_alloc] at s5
        clear caW faW laW cbW fbW lbW ccW fcW lcW cdW fdW ldW
        replace aW := (q5.grown.block _ (by simp <;> omega) (fun e => by have := HB1.out _ e.symm; omega)).trans ((Below.heap_alloc _ _ _ (by omega)).trans aW)
        replace bW := (q5.grown.block _ (by simp <;> omega) (fun e => by have := HB1.out _ e.symm; omega)).trans ((Below.heap_alloc _ _ _ (by omega)).trans bW)
        replace cW := (q5.grown.block _ (by simp <;> omega) (fun e => by have := HB1.out _ e.symm; omega)).trans ((Below.heap_alloc _ _ _ (by omega)).trans cW)
        replace dW := (q5.grown.block _ (by simp <;> omega) (fun e => by have := HB1.out _ e.symm; omega)).trans ((Below.heap_alloc _ _ _ (by omega)).trans dW)
        have K5 := (K4.alloc K4.size (.cells #[.int .i64 r.c, .int .i64 r.n, .int .i64 r.o, .int .i64 r.x, .int .i64 r.y] 34)).grown q5.grown (by simp <;> omega) (fun g hg => by have := HB1.out g hg; omega)
        have P05 := Lib.hid ((P0.out.alloc (.cells #[.int .i64 r.c, .int .i64 r.n, .int .i64 r.o, .int .i64 r.x, .int .i64 r.y] 34)).kept q5.grown (fun g hg => AP.out g hg))
        have hl5 : (z.wt ++ [r]).length = z.wt.length + 1 := by simp
        have i5 := q5.row.sl five_len
        rw [hl5] at i5
        have I5 := Lib.hid i5
        have HL5 := Lib.hid hl5
        clear i5 hl5 q5 P0 P1 P11
        have caW := cell_of_block aW
        have faW := unfrozen_of_block aW
        have laW := lt_of_block aW
        have cbW := cell_of_block bW
        have fbW := unfrozen_of_block bW
        have lbW := lt_of_block bW
        have ccW := cell_of_block cW
        have fcW := unfrozen_of_block cW
        have lcW := lt_of_block cW
        have cdW := cell_of_block dW
        have fdW := unfrozen_of_block dW
        have ldW := lt_of_block dW
        go_wp2_with fail
        refine (cloneReq_c b2 (z.wt.length + 1) c2 (z.wt ++ [r]) w5 I5.out (by omega)).mono ?_
        rintro e w6 ⟨b3, rfl, r3, k6⟩
        have s6 := k6.size
        have K6 := below_next K5 k6
        have P06 := Lib.hid (P05.out.below k6)
        have ap3 := Lib.hid (r3.apart P05.out (Nat.le_refl _))
        have R3 := Lib.hid r3
        clear caW faW laW cbW fbW lbW ccW fcW lcW cdW fdW ldW
        replace aW := carryB k6 (by omega) aW
        replace bW := carryB k6 (by omega) bW
        replace cW := carryB k6 (by omega) cW
        replace dW := carryB k6 (by omega) dW
        clear k6 r3 K5
        have caW := cell_of_block aW
        have faW := unfrozen_of_block aW
        have laW := lt_of_block aW
        have cbW := cell_of_block bW
        have fbW := unfrozen_of_block bW
        have lbW := lt_of_block bW
        have ccW := cell_of_block cW
        have fcW := unfrozen_of_block cW
        have lcW := lt_of_block cW
        have cdW := cell_of_block dW
        have fdW := unfrozen_of_block dW
        have ldW := lt_of_block dW
        have ne_ : ¬ (w.heap.size + 1 + 1 = w2.heap.size) := by omega
        have ne_ : ¬ (w2.heap.size = w.heap.size + 1 + 1) := by omega
        go_wp2_with fail
        refine bodyPost_ret (v := .tuple #[.agg #[.slice b0 z.dn.length z.dn.length, .slice b3 (z.wt.length + 1) (z.wt.length + 1), .int .i64 z.bk], .bool true]) (by simp [results, Try.results19, go_sem, ccW]) rfl ?_
        rw [hp]
        unfold RetA
        simp only [HL5.out]
        refine ⟨b0, b3, rfl, ?_, ?_, ap3.out, (by repeat' (first | with_reducible exact Below.refl _ _ | with_reducible assumption | with_reducible refine Below.alloc ?_ ?_ _ | with_reducible refine Below.drew ?_ | with_reducible refine Below.setCell ?_ ?_ _ | omega | (simp; omega) | (simp; done)))⟩
        · exact ((((P06.out.setNe (fun g hg => by have := (HB0.out g hg).2; simp only; omega) _).setOther (by simp <;> omega) _).setOther (by simp <;> omega) _).setOther (by simp <;> omega) _).low (by omega)
        · exact ((((R3.out.setOther (by simp <;> omega) _).setOther (by simp <;> omega) _).setOther (by simp <;> omega) _).setOther (by simp <;> omega) _).low (by omega)
  · have hA' : aheadB z = false := by simpa using hA
    have hp : pushA z r = (⟨[], [], 0⟩, false) := by unfold pushA; rw [if_neg hA]
    rw [hp]
    go_enter Try.func19, Try.ntmps19
    go_wp2_with fail
    obtain ⟨W, hW, sW, aW, bW, cW, kW⟩ := blocks3 w (.cells #[.slice a0 z.dn.length c0, .slice a1 z.wt.length c1, .int .i64 z.bk] 30) (.cells #[.int .i64 r.c, .int .i64 r.n, .int .i64 r.o, .int .i64 r.x, .int .i64 r.y] 34) (.cells #[.slice none 0 0, .slice none 0 0, .int .i64 0] 30)
    rw [← hW]
    clear hW
    refine (AheadOk_c z _ _ _ _ _ (H0.out.below kW) (H1.out.below kW) hs).mono ?_
    rintro e w1 ⟨rfl, k1⟩
    rw [hA']
    have K1 := below_next kW k1
    have cz := cell_of_block (carryB k1 (by omega) cW)
    have fz := unfrozen_of_block (carryB k1 (by omega) cW)
    go_wp2_with fail
    refine bodyPost_ret (v := .tuple #[.agg #[.slice none 0 0, .slice none 0 0, .int .i64 0], .bool false]) (by simp [results, Try.results19, go_sem, cz]) rfl ?_
    exact ⟨none, none, rfl, Row.nil _ _ _ _ _ _, Row.nil _ _ _ _ _ _, fun g hg => by simp [rowBlk] at hg, (by repeat' (first | with_reducible exact Below.refl _ _ | with_reducible assumption | with_reducible refine Below.alloc ?_ ?_ _ | with_reducible refine Below.drew ?_ | with_reducible refine Below.setCell ?_ ?_ _ | omega | (simp; omega) | (simp; done)))⟩
end Go.Proofs.Ytofedboeggdkaaa

/-! Contract of the reference's AheadPush; condition: small sizes. -/
namespace Go.Proofs.Ytofedboeggdkaaa
open Go.RowKit Go.Joins

/-- A client's lists, wherever they lie, and a truth. -/
def RetAS (z : Ah) (b : Bool) (w : World) (e : Ending) (w' : World) : Prop :=
  ∃ b0 d0 b1 d1, e = .returned (.tuple #[.agg #[.slice b0 z.dn.length d0, .slice b1 z.wt.length d1, .int .i64 z.bk], .bool b]) ∧ Row w' w.heap.size 34 b0 d0 5 Rq.cs z.dn ∧ Row w' w.heap.size 34 b1 d1 5 Rq.cs z.wt ∧ Below w.heap.size w w'
theorem IsSl.nil {α : Type} (w : World) (k : Nat) (R : α → List Value) : IsSl w (.slice none 0 0) k R [] := ⟨none, 0, rfl, Nat.le_refl _, Nat.zero_le _, fun i hi => absurd hi (Nat.not_lt_zero i)⟩
theorem Row.sl' {α : Type} {w : World} {B e cap k n : Nat} {a : Option Addr} {R : α → List Value} {zs : List α} (h : Row w B e a cap k R zs) (hR : ∀ z, (R z).length = k) (hn : zs.length = n) : IsSl w (.slice a n cap) k R zs := hn ▸ h.sl hR

set_option maxRecDepth 100000 in
set_option maxHeartbeats 4000000 in
theorem sAheadPush_c (z : Ah) (r : Rq) (a0 a1 : Option Addr) (c0 c1 : Nat) (w : World) (h0 : IsSl w (.slice a0 z.dn.length c0) 5 Rq.cs z.dn) (h1 : IsSl w (.slice a1 z.wt.length c1) 5 Rq.cs z.wt) (hs : z.dn.length + z.wt.length ≤ 1048576) :
    Calls Try.prog 16 #[.agg #[.slice a0 z.dn.length c0, .slice a1 z.wt.length c1, .int .i64 z.bk], .agg #[.int .i64 r.c, .int .i64 r.n, .int .i64 r.o, .int .i64 r.x, .int .i64 r.y]] w (RetAS (pushA z r).1 (pushA z r).2 w) := by
  have H0 := Lib.hid h0
  have H1 := Lib.hid h1
  clear h0 h1
  by_cases hA : aheadB z = true
  · have h60s : z.dn.length + z.wt.length ≤ 60 := by
      unfold aheadB at hA
      simp only [Bool.and_eq_true, decide_eq_true_eq] at hA
      exact hA.1.2
    go_enter Try.func16, Try.ntmps16
    go_wp2_with fail
    obtain ⟨W, hW, sW, aW, bW, cW, kW⟩ := blocks3 w (.cells #[.slice a0 z.dn.length c0, .slice a1 z.wt.length c1, .int .i64 z.bk] 30) (.cells #[.int .i64 r.c, .int .i64 r.n, .int .i64 r.o, .int .i64 r.x, .int .i64 r.y] 34) (.cells #[.slice none 0 0, .slice none 0 0, .int .i64 0] 30)
    rw [← hW]
    clear hW
    refine (l8Ok_c z _ _ _ _ _ (H0.out.below kW) (H1.out.below kW) hs).mono ?_
    rintro e w1 ⟨rfl, k1⟩
    rw [hA]
    have K1 := below_next kW k1
    have s1 := k1.size
    replace aW := carryB k1 (by omega) aW
    replace bW := carryB k1 (by omega) bW
    replace cW := carryB k1 (by omega) cW
    have caW := cell_of_block aW
    have faW := unfrozen_of_block aW
    have laW := lt_of_block aW
    clear kW k1
    go_wp2_with fail
    refine (l8Copy_c z _ _ _ _ _ _ w1 (H0.out.below K1) (H1.out.below K1) (by omega) (by omega)).mono ?_
    rintro e w2 ⟨v, rfl, ⟨b0, d0, b1, d1, rfl, r0, r1, ap⟩, k2⟩
    have K2 := below_next K1 k2
    have R0 := Lib.hid r0
    have R1 := Lib.hid r1
    have AP := Lib.hid ap
    have HB0 := Lib.hid (fun g (hg : rowBlk b0 d0 = some g) => r0.blk hg)
    have HB1 := Lib.hid (fun g (hg : rowBlk b1 d1 = some g) => r1.blk hg)
    have s2 := k2.size
    clear caW faW laW
    replace aW := carryB k2 (by omega) aW
    replace bW := carryB k2 (by omega) bW
    replace cW := carryB k2 (by omega) cW
    clear K1 k2 r0 r1 ap
    have caW := cell_of_block aW
    have faW := unfrozen_of_block aW
    have laW := lt_of_block aW
    have cbW := cell_of_block bW
    have fbW := unfrozen_of_block bW
    have lbW := lt_of_block bW
    have ccW := cell_of_block cW
    have fcW := unfrozen_of_block cW
    have lcW := lt_of_block cW
    go_wp2_with fail
    obtain ⟨X, hX, sX, dW, kX⟩ := blocks1 w2 (.cells #[.slice b0 z.dn.length d0, .slice b1 z.wt.length d1, .int .i64 z.bk] 30)
    rw [← hX]
    clear hX
    clear caW faW laW cbW fbW lbW ccW fcW lcW
    refine (l1Ok_c r.c r.n r.o r.x r.y X).mono ?_
    rintro e w3 ⟨rfl, k3⟩
    have s3 := k3.size
    replace aW := carryB kX (by omega) aW
    replace bW := carryB kX (by omega) bW
    replace cW := carryB kX (by omega) cW
    replace aW := carryB k3 (by omega) aW
    replace bW := carryB k3 (by omega) bW
    replace cW := carryB k3 (by omega) cW
    replace dW := carryB k3 (by omega) dW
    have K3 := below_next (below_next K2 kX) k3
    have Q0 := Lib.hid ((R0.out.below kX).below k3)
    have Q1 := Lib.hid ((R1.out.below kX).below k3)
    clear kX k3 K2
    have caW := cell_of_block aW
    have faW := unfrozen_of_block aW
    have laW := lt_of_block aW
    have cbW := cell_of_block bW
    have fbW := unfrozen_of_block bW
    have lbW := lt_of_block bW
    have ccW := cell_of_block cW
    have fcW := unfrozen_of_block cW
    have lcW := lt_of_block cW
    have cdW := cell_of_block dW
    have fdW := unfrozen_of_block dW
    have ldW := lt_of_block dW
    have ne_ : ¬ (w.heap.size + 1 + 1 = w2.heap.size) := by omega
    have ne_ : ¬ (w2.heap.size = w.heap.size + 1 + 1) := by omega
    cases hO : okB r.c r.n r.o r.x r.y with
    | false =>
      have hp : pushA z r = (z, false) := by unfold pushA; rw [if_pos hA, hO]; rfl
      go_wp2_with fail
      refine bodyPost_ret (v := .tuple #[.agg #[.slice b0 z.dn.length d0, .slice b1 z.wt.length d1, .int .i64 z.bk], .bool false]) (by simp [results, Try.results16, go_sem, ccW]) rfl ?_
      rw [hp]
      exact ⟨b0, d0, b1, d1, rfl, (((Q0.out.setOther (by simp <;> omega) _).setOther (by simp <;> omega) _).setOther (by simp <;> omega) _).low (by omega), (((Q1.out.setOther (by simp <;> omega) _).setOther (by simp <;> omega) _).setOther (by simp <;> omega) _).low (by omega), (by repeat' (first | with_reducible exact Below.refl _ _ | with_reducible assumption | with_reducible refine Below.alloc ?_ ?_ _ | with_reducible refine Below.drew ?_ | with_reducible refine Below.setCell ?_ ?_ _ | omega | (simp; omega) | (simp; done)))⟩
    | true =>
      by_cases h60 : z.dn.length + z.wt.length = 60
      · have hp : pushA z r = (z, false) := by unfold pushA; rw [if_pos hA, hO]; simp [h60]
        have h60' : (60 : Int) ≤ ((z.dn.length : Int) + (z.wt.length : Int)) := by omega
        go_wp2_with fail
        refine bodyPost_ret (v := .tuple #[.agg #[.slice b0 z.dn.length d0, .slice b1 z.wt.length d1, .int .i64 z.bk], .bool false]) (by simp [results, Try.results16, go_sem, ccW]) rfl ?_
        rw [hp]
        exact ⟨b0, d0, b1, d1, rfl, (((Q0.out.setOther (by simp <;> omega) _).setOther (by simp <;> omega) _).setOther (by simp <;> omega) _).low (by omega), (((Q1.out.setOther (by simp <;> omega) _).setOther (by simp <;> omega) _).setOther (by simp <;> omega) _).low (by omega), (by repeat' (first | with_reducible exact Below.refl _ _ | with_reducible assumption | with_reducible refine Below.alloc ?_ ?_ _ | with_reducible refine Below.drew ?_ | with_reducible refine Below.setCell ?_ ?_ _ | omega | (simp; omega) | (simp; done)))⟩
      · have hp : pushA z r = (⟨z.dn, z.wt ++ [r], z.bk⟩, true) := by unfold pushA; rw [if_pos hA, hO]; simp [h60]
        have h60' : ¬ (60 : Int) ≤ ((z.dn.length : Int) + (z.wt.length : Int)) := by omega
        have P11 := Lib.hid (Q1.out.alloc (.cells #[.int .i64 r.c, .int .i64 r.n, .int .i64 r.o, .int .i64 r.x, .int .i64 r.y] 34))
        go_wp2_with (at_builtin; refine wpList_append_row rfl _ _ rfl (z.wt.length + 1) eltReq rfl rfl P11.out (rowsAt_one _ r _) rfl rfl rfl (by simp only [maxLen]; omega) (by omega) (by simp <;> omega) ?_)
        intro b2 d2 w5 q5
        have s5 := q5.grown.size
        rw [World.size_alloc] at s5
        clear caW faW laW cbW fbW lbW ccW fcW lcW cdW fdW ldW
        replace aW := (q5.grown.block _ (by simp <;> omega) (fun e => by have := HB1.out _ e.symm; omega)).trans ((Below.heap_alloc _ _ _ (by omega)).trans aW)
        replace bW := (q5.grown.block _ (by simp <;> omega) (fun e => by have := HB1.out _ e.symm; omega)).trans ((Below.heap_alloc _ _ _ (by omega)).trans bW)
        replace cW := (q5.grown.block _ (by simp <;> omega) (fun e => by have := HB1.out _ e.symm; omega)).trans ((Below.heap_alloc _ _ _ (by omega)).trans cW)
        replace dW := (q5.grown.block _ (by simp <;> omega) (fun e => by have := HB1.out _ e.symm; omega)).trans ((Below.heap_alloc _ _ _ (by omega)).trans dW)
        have K5 := (K3.alloc K3.size (.cells #[.int .i64 r.c, .int .i64 r.n, .int .i64 r.o, .int .i64 r.x, .int .i64 r.y] 34)).grown q5.grown (by simp <;> omega) (fun g hg => by have := HB1.out g hg; omega)
        have P05 := Lib.hid ((Q0.out.alloc (.cells #[.int .i64 r.c, .int .i64 r.n, .int .i64 r.o, .int .i64 r.x, .int .i64 r.y] 34)).kept q5.grown (fun g hg => AP.out g hg))
        have hb2 : ∀ g, rowBlk b2 d2 = some g → g ≠ w2.heap.size ∧ w1.heap.size ≤ g := fun g hg => by
          have hlow := (q5.row.blk hg).1
          refine ⟨?_, hlow⟩
          rcases q5.blk with q | q
          · have := (HB1.out g (q ▸ hg)).2; omega
          · rw [hg] at q; injection q with q; rw [World.size_alloc] at q; omega
        have HB2 := Lib.hid hb2
        have hl5 : (z.wt ++ [r]).length = z.wt.length + 1 := by simp
        have R5 := Lib.hid q5.row
        have HL5 := Lib.hid hl5
        clear hl5 q5 Q0 Q1 P11 hb2
        have caW := cell_of_block aW
        have faW := unfrozen_of_block aW
        have laW := lt_of_block aW
        have cbW := cell_of_block bW
        have fbW := unfrozen_of_block bW
        have lbW := lt_of_block bW
        have ccW := cell_of_block cW
        have fcW := unfrozen_of_block cW
        have lcW := lt_of_block cW
        have cdW := cell_of_block dW
        have fdW := unfrozen_of_block dW
        have ldW := lt_of_block dW
        go_wp2_with fail
        refine bodyPost_ret (v := .tuple #[.agg #[.slice b0 z.dn.length d0, .slice b2 (z.wt.length + 1) d2, .int .i64 z.bk], .bool true]) (by simp [results, Try.results16, go_sem, ccW]) rfl ?_
        rw [hp]
        unfold RetAS
        simp only [HL5.out]
        refine ⟨b0, d0, b2, d2, rfl, ?_, ?_, (by repeat' (first | with_reducible exact Below.refl _ _ | with_reducible assumption | with_reducible refine Below.alloc ?_ ?_ _ | with_reducible refine Below.drew ?_ | with_reducible refine Below.setCell ?_ ?_ _ | omega | (simp; omega) | (simp; done)))⟩
        · exact ((((P05.out.setNe (fun g hg => by have := (HB0.out g hg).2; simp only; omega) _).setOther (by simp <;> omega) _).setOther (by simp <;> omega) _).setOther (by simp <;> omega) _).low (by omega)
        · exact ((((R5.out.setNe (fun g hg => by have := (HB2.out g hg).1; simp only; omega) _).setOther (by simp <;> omega) _).setOther (by simp <;> omega) _).setOther (by simp <;> omega) _).low (by omega)
  · have hA' : aheadB z = false := by simpa using hA
    have hp : pushA z r = (⟨[], [], 0⟩, false) := by unfold pushA; rw [if_neg hA]
    rw [hp]
    go_enter Try.func16, Try.ntmps16
    go_wp2_with fail
    obtain ⟨W, hW, sW, aW, bW, cW, kW⟩ := blocks3 w (.cells #[.slice a0 z.dn.length c0, .slice a1 z.wt.length c1, .int .i64 z.bk] 30) (.cells #[.int .i64 r.c, .int .i64 r.n, .int .i64 r.o, .int .i64 r.x, .int .i64 r.y] 34) (.cells #[.slice none 0 0, .slice none 0 0, .int .i64 0] 30)
    rw [← hW]
    clear hW
    refine (l8Ok_c z _ _ _ _ _ (H0.out.below kW) (H1.out.below kW) hs).mono ?_
    rintro e w1 ⟨rfl, k1⟩
    rw [hA']
    have K1 := below_next kW k1
    have cz := cell_of_block (carryB k1 (by omega) cW)
    have fz := unfrozen_of_block (carryB k1 (by omega) cW)
    go_wp2_with fail
    refine bodyPost_ret (v := .tuple #[.agg #[.slice none 0 0, .slice none 0 0, .int .i64 0], .bool false]) (by simp [results, Try.results16, go_sem, cz]) rfl ?_
    exact ⟨none, 0, none, 0, rfl, Row.nil _ _ _ _ _ _, Row.nil _ _ _ _ _ _, (by repeat' (first | with_reducible exact Below.refl _ _ | with_reducible assumption | with_reducible refine Below.alloc ?_ ?_ _ | with_reducible refine Below.drew ?_ | with_reducible refine Below.setCell ?_ ?_ _ | omega | (simp; omega) | (simp; done)))⟩
end Go.Proofs.Ytofedboeggdkaaa

/-! slices.Index at asks; the reference's l8At; condition: small sizes. -/
namespace Go.Proofs.Ytofedboeggdkaaa
open Go.RowKit Go.Joins

attribute [local go_sem ↓] eql_rq neq_rq

/-- The place of an ask; -1, if it is not there. -/
def idxP (zs : List Rq) (r : Rq) : Option Nat := zs.findIdx? (fun e => decide (e = r))
def idxI (zs : List Rq) (r : Rq) : Int := match idxP zs r with | some k => (k : Int) | none => -1
theorem idxI_some {zs : List Rq} {r : Rq} {k : Nat} (hk : k < zs.length) (he : zs[k] = r) (hb : ∀ j (hj : j < zs.length), j < k → zs[j] ≠ r) : idxI zs r = k := by
  have : idxP zs r = some k := by
    unfold idxP
    rw [List.findIdx?_eq_some_iff_getElem]
    exact ⟨hk, by simpa using he, fun j hj => by simpa using hb j (by omega) hj⟩
  unfold idxI
  rw [this]
theorem idxI_none {zs : List Rq} {r : Rq} (hb : ∀ j (hj : j < zs.length), zs[j] ≠ r) : idxI zs r = -1 := by
  have : idxP zs r = none := by
    unfold idxP
    rw [List.findIdx?_eq_none_iff]
    intro x hx
    obtain ⟨j, hj, rfl⟩ := List.getElem_of_mem hx
    simpa using hb j hj
  unfold idxI
  rw [this]
set_option maxRecDepth 100000 in
set_option maxHeartbeats 1000000 in
theorem slIndexReq_c (a : Option Addr) (zs : List Rq) (r : Rq) (n cap : Nat) (w : World) (h : IsSl w (.slice a n cap) 5 Rq.cs zs) :
    Calls Try.prog 74 #[.slice a n cap, .agg #[.int .i64 r.c, .int .i64 r.n, .int .i64 r.o, .int .i64 r.x, .int .i64 r.y]] w fun e w' => e = .returned (.int .i64 (idxI zs r)) ∧ Below w.heap.size w w' := by
  obtain ⟨hnn, hlc, hm, hr⟩ := h.bounds
  have HR := Lib.hid hr
  clear hr h
  unfold maxLen at hm
  go_enter Try.func74, Try.ntmps74
  go_wp2_with fail
  obtain ⟨W, hW, sW, bW, kW⟩ := blocks1 w (.cells #[.int .i64 r.c, .int .i64 r.n, .int .i64 r.o, .int .i64 r.x, .int .i64 r.y] 34)
  rw [← hW]
  clear hW
  have HB := Lib.hid bW
  clear bW
  go_loopw [8] (fun i wr => ∃ k : Nat, k ≤ n ∧ i = .int .i64 k ∧ (∀ j (hj : j < zs.length), j < k → zs[j] ≠ r) ∧ Below W.heap.size W wr) (fun i _ => n - (intOf i).toNat)
  case atStart => exact ⟨0, Nat.zero_le _, rfl, fun j _ hj => absurd hj (Nat.not_lt_zero j), Below.refl _ _⟩
  case round =>
    obtain ⟨k, hk, rfl, hall, hbel⟩ := hrel
    have HA := Lib.hid hall
    clear hall
    by_cases hlt : k < n
    · have hkz : k < zs.length := by omega
      have hk1 : (k : Int) < (n : Int) := by omega
      have hk0 : (0 : Int) ≤ (k : Int) := by omega
      obtain ⟨b0, o0, rfl, hl0, hc0⟩ := five_at HR.out k hkz
      obtain ⟨c0, c1, c2, c3, c4⟩ := hc0 wr (kW.trans (hbel.mono (by omega)))
      have d := cell_of_block (carryN hbel HB.out)
      clear hc0
      have HE := Lib.hid (eqR_iff r zs[k])
      generalize hz : zs[k] = z at *
      have HZ := Lib.hid hz
      clear hz
      cases he : eqR r.c r.n r.o r.x r.y z.c z.n z.o z.x z.y with
      | true =>
        have hek := HE.out.1 he
        subst hek
        clear HE
        go_wp2_with fail
        go_region_with fail
        all_goals go_wp2_with fail
        all_goals go_ret
        all_goals refine ⟨?_, kW.trans (Below.drew (hbel.mono (by omega)))⟩
        all_goals rw [idxI_some hkz HZ.out (fun j hj hjk => HA.out j hj hjk)]
        all_goals rfl
      | false =>
        have hek := Lib.hid (show r ≠ z from fun h => by have := HE.out.2 h; rw [he] at this; cases this)
        clear HE
        go_wp2_with fail
        go_region_with fail
        all_goals go_wp2_with fail
        all_goals refine ⟨⟨k + 1, by omega, by go_num, fun j hj hjk => ?_, Below.drew hbel⟩, by simp [intOf]; omega⟩
        all_goals by_cases hjk' : j = k
        all_goals first
          | (subst hjk'; rw [HZ.out]; exact fun h => hek.out h.symm)
          | exact HA.out j hj (by omega)
    · have hkk : n = k := by omega
      subst hkk
      go_wp2_with fail
      go_ret
      refine ⟨?_, kW.trans (hbel.mono (by omega))⟩
      rw [idxI_none (fun j hj => HA.out j hj (by omega))]
      rfl

set_option maxRecDepth 100000 in
set_option maxHeartbeats 2000000 in
theorem l8At_c (z : Ah) (r : Rq) (a0 a1 : Option Addr) (n0 n1 c0 c1 : Nat) (w : World) (h1 : IsSl w (.slice a1 n1 c1) 5 Rq.cs z.wt) :
    Calls Try.prog 72 #[.agg #[.slice a0 n0 c0, .slice a1 n1 c1, .int .i64 z.bk], .agg #[.int .i64 r.c, .int .i64 r.n, .int .i64 r.o, .int .i64 r.x, .int .i64 r.y]] w fun e w' => e = .returned (.int .i64 (idxI z.wt r)) ∧ Below w.heap.size w w' := by
  obtain ⟨dn, zs, bk⟩ := z
  simp only at h1 ⊢
  obtain ⟨hnn, hlc, hm, hr⟩ := h1.bounds
  have HR := Lib.hid hr
  clear hr h1
  unfold maxLen at hm
  go_enter Try.func72, Try.ntmps72
  go_wp2_with fail
  obtain ⟨W, hW, sW, aW, bW, kW⟩ := blocks2 w (.cells #[.slice a0 n0 c0, .slice a1 n1 c1, .int .i64 bk] 30) (.cells #[.int .i64 r.c, .int .i64 r.n, .int .i64 r.o, .int .i64 r.x, .int .i64 r.y] 34)
  rw [← hW]
  clear hW
  have HA0 := Lib.hid aW
  have HB := Lib.hid bW
  clear bW aW
  go_loopw [5] (fun i wr => ∃ k : Nat, k ≤ n1 ∧ i = .int .i64 k ∧ (∀ j (hj : j < zs.length), j < k → zs[j] ≠ r) ∧ Below W.heap.size W wr) (fun i _ => n1 - (intOf i).toNat)
  case atStart => exact ⟨0, Nat.zero_le _, rfl, fun j _ hj => absurd hj (Nat.not_lt_zero j), Below.refl _ _⟩
  case round =>
    obtain ⟨k, hk, rfl, hall, hbel⟩ := hrel
    have HA := Lib.hid hall
    clear hall
    have dA := cell_of_block (carryN hbel HA0.out)
    by_cases hlt : k < n1
    · have hkz : k < zs.length := by omega
      have hk1 : (k : Int) < (n1 : Int) := by omega
      have hk0 : (0 : Int) ≤ (k : Int) := by omega
      obtain ⟨b0, o0, rfl, hl0, hc0⟩ := five_at HR.out k hkz
      obtain ⟨e0, e1, e2, e3, e4⟩ := hc0 wr (kW.trans (hbel.mono (by omega)))
      have d := cell_of_block (carryN hbel HB.out)
      clear hc0
      have HE := Lib.hid (eqR_iff zs[k] r)
      generalize hz : zs[k] = z at *
      have HZ := Lib.hid hz
      clear hz
      cases he : eqR z.c z.n z.o z.x z.y r.c r.n r.o r.x r.y with
      | true =>
        have hek := HE.out.1 he
        subst hek
        clear HE
        go_wp2_with fail
        go_region_with fail
        all_goals go_wp2_with fail
        all_goals go_ret
        all_goals refine ⟨?_, kW.trans (Below.drew (hbel.mono (by omega)))⟩
        all_goals rw [idxI_some hkz HZ.out (fun j hj hjk => HA.out j hj hjk)]
        all_goals rfl
      | false =>
        have hek := Lib.hid (show z ≠ r from fun h => by have := HE.out.2 h; rw [he] at this; cases this)
        clear HE
        go_wp2_with fail
        go_region_with fail
        all_goals go_wp2_with fail
        all_goals refine ⟨⟨k + 1, by omega, by go_num, fun j hj hjk => ?_, Below.drew hbel⟩, by simp [intOf]; omega⟩
        all_goals by_cases hjk' : j = k
        all_goals first
          | (subst hjk'; rw [HZ.out]; exact hek.out)
          | exact HA.out j hj (by omega)
    · have hkk : n1 = k := by omega
      subst hkk
      go_wp2_with fail
      go_ret
      refine ⟨?_, kW.trans (hbel.mono (by omega))⟩
      rw [idxI_none (fun j hj => HA.out j hj (by omega))]
      rfl
end Go.Proofs.Ytofedboeggdkaaa

/-! Contract of the program's AheadKeep; condition: small sizes. -/
namespace Go.Proofs.Ytofedboeggdkaaa
open Go.RowKit Go.Joins

/-- AheadKeep. -/
def keepA (z : Ah) (r : Rq) : Ah × Bool :=
  if aheadB z then
    (if good r && !(decide (idxI z.wt r < 0) && decide (z.dn.length + z.wt.length = 60)) then
      (⟨z.dn ++ [r], if 0 ≤ idxI z.wt r then z.wt.eraseIdx (idxI z.wt r).toNat else z.wt, if 0 < z.wt.length ∧ idxI z.wt r ≠ 0 then (if z.bk + 1 ≤ 99 then z.bk + 1 else 99) else z.bk⟩, true)
    else (z, false))
  else (⟨[], [], 0⟩, false)
theorem keepA_len (z : Ah) (r : Rq) (hs : z.dn.length + z.wt.length ≤ 1048576) : (keepA z r).1.dn.length ≤ 1048577 ∧ (keepA z r).1.wt.length ≤ 1048576 := by
  unfold keepA
  split
  · split
    · refine ⟨by simp only [List.length_append, List.length_cons, List.length_nil]; omega, ?_⟩
      simp only
      split
      · have := List.length_eraseIdx_le z.wt (idxI z.wt r).toNat
        omega
      · omega
    · exact ⟨by simp only; omega, by simp only; omega⟩
  · exact ⟨by simp, by simp⟩
theorem keepA_eq {dn wt wt' : List Rq} {bk nb ix : Int} {r : Rq} (hA : aheadB ⟨dn, wt, bk⟩ = true) (hO : good r = true) (hix : idxI wt r = ix) (h6 : ¬ (ix < 0 ∧ dn.length + wt.length = 60)) (hw : wt' = if 0 ≤ ix then wt.eraseIdx ix.toNat else wt)
    (hb : nb = if 0 < wt.length ∧ ix ≠ 0 then (if bk + 1 ≤ 99 then bk + 1 else 99) else bk) : keepA ⟨dn, wt, bk⟩ r = (⟨dn ++ [r], wt', nb⟩, true) := by
  subst hix hw hb
  unfold keepA
  rw [if_pos hA, hO, if_pos]
  simp only [Bool.true_and, Bool.not_eq_true', Bool.and_eq_false_iff, decide_eq_false_iff_not]
  omega
/-- The place of an ask, as it comes. -/
theorem idxI_range (zs : List Rq) (r : Rq) : idxI zs r = -1 ∨ ∃ k : Nat, idxI zs r = ((k : Nat) : Int) ∧ k < zs.length := by
  unfold idxI
  cases h : idxP zs r with
  | none => exact .inl rfl
  | some k =>
    have hk : k < zs.length := by
      unfold idxP at h
      rw [List.findIdx?_eq_some_iff_getElem] at h
      exact h.1
    exact .inr ⟨k, rfl, hk⟩

set_option maxRecDepth 100000 in
set_option maxHeartbeats 16000000 in
theorem AheadKeep_c (z : Ah) (r : Rq) (a0 a1 : Option Addr) (c0 c1 : Nat) (w : World) (h0 : IsSl w (.slice a0 z.dn.length c0) 5 Rq.cs z.dn) (h1 : IsSl w (.slice a1 z.wt.length c1) 5 Rq.cs z.wt) (hs : z.dn.length + z.wt.length ≤ 1048576) :
    Calls Try.prog 24 #[.agg #[.slice a0 z.dn.length c0, .slice a1 z.wt.length c1, .int .i64 z.bk], .agg #[.int .i64 r.c, .int .i64 r.n, .int .i64 r.o, .int .i64 r.x, .int .i64 r.y]] w (RetA (keepA z r).1 (keepA z r).2 w) := by
  obtain ⟨dn, wt, bk⟩ := z
  simp only at h0 h1 hs ⊢
  have H0 := Lib.hid h0
  have H1 := Lib.hid h1
  clear h0 h1
  by_cases hA : aheadB ⟨dn, wt, bk⟩ = true
  case neg =>
    have hA' : aheadB ⟨dn, wt, bk⟩ = false := by simpa using hA
    have hp : keepA ⟨dn, wt, bk⟩ r = (⟨[], [], 0⟩, false) := by unfold keepA; rw [if_neg hA]
    rw [hp]
    go_enter Try.func24, Try.ntmps24
    go_wp2_with fail
    obtain ⟨W, hW, sW, aW, bW, cW, kW⟩ := blocks3 w (.cells #[.slice a0 dn.length c0, .slice a1 wt.length c1, .int .i64 bk] 30) (.cells #[.int .i64 r.c, .int .i64 r.n, .int .i64 r.o, .int .i64 r.x, .int .i64 r.y] 34) (.cells #[.slice none 0 0, .slice none 0 0, .int .i64 0] 30)
    rw [← hW]
    clear hW
    refine (AheadOk_c ⟨dn, wt, bk⟩ _ _ _ _ _ (H0.out.below kW) (H1.out.below kW) hs).mono ?_
    rintro e w1 ⟨rfl, k1⟩
    rw [hA']
    have K1 := below_next kW k1
    have cz := cell_of_block (carryB k1 (by omega) cW)
    have fz := unfrozen_of_block (carryB k1 (by omega) cW)
    go_wp2_with fail
    refine bodyPost_ret (v := .tuple #[.agg #[.slice none 0 0, .slice none 0 0, .int .i64 0], .bool false]) (by simp [results, Try.results24, go_sem, cz]) rfl ?_
    exact ⟨none, none, rfl, Row.nil _ _ _ _ _ _, Row.nil _ _ _ _ _ _, fun g hg => by simp [rowBlk] at hg, (by repeat' (first | with_reducible exact Below.refl _ _ | with_reducible assumption | with_reducible refine Below.alloc ?_ ?_ _ | with_reducible refine Below.drew ?_ | with_reducible refine Below.setCell ?_ ?_ _ | omega | (simp; omega) | (simp; done)))⟩
  have h60 : dn.length + wt.length ≤ 60 ∧ 0 ≤ bk ∧ bk ≤ 99 := by
    unfold aheadB at hA
    simp only [Bool.and_eq_true, decide_eq_true_eq, inB_iff] at hA
    exact ⟨hA.1.2, hA.2.1, hA.2.2⟩
  obtain ⟨h60, hbk0, hbk1⟩ := h60
  go_enter Try.func24, Try.ntmps24
  go_wp2_with fail
  obtain ⟨W, hW, sW, aW, bW, cW, kW⟩ := blocks3 w (.cells #[.slice a0 dn.length c0, .slice a1 wt.length c1, .int .i64 bk] 30) (.cells #[.int .i64 r.c, .int .i64 r.n, .int .i64 r.o, .int .i64 r.x, .int .i64 r.y] 34) (.cells #[.slice none 0 0, .slice none 0 0, .int .i64 0] 30)
  rw [← hW]
  clear hW
  refine (AheadOk_c ⟨dn, wt, bk⟩ _ _ _ _ _ (H0.out.below kW) (H1.out.below kW) hs).mono ?_
  rintro e w1 ⟨rfl, k1⟩
  rw [hA]
  have K1 := below_next kW k1
  have s1 := k1.size
  replace aW := carryB k1 (by omega) aW
  replace bW := carryB k1 (by omega) bW
  replace cW := carryB k1 (by omega) cW
  have caW := cell_of_block aW
  have faW := unfrozen_of_block aW
  have laW := lt_of_block aW
  clear kW k1
  go_wp2_with fail
  refine (copyOfA_c ⟨dn, wt, bk⟩ _ _ _ _ _ _ w1 (H0.out.below K1) (H1.out.below K1) (by omega) (by omega)).mono ?_
  rintro e w2 ⟨b0, b1, rfl, r0, r1, ap, k2⟩
  have K2 := below_next K1 k2
  have R0 := Lib.hid r0
  have R1 := Lib.hid r1
  have AP := Lib.hid ap
  have HB0 := Lib.hid (fun g (hg : rowBlk b0 dn.length = some g) => r0.blk hg)
  have HB1 := Lib.hid (fun g (hg : rowBlk b1 wt.length = some g) => r1.blk hg)
  have s2 := k2.size
  clear caW faW laW
  replace aW := carryB k2 (by omega) aW
  replace bW := carryB k2 (by omega) bW
  replace cW := carryB k2 (by omega) cW
  clear K1 k2 r0 r1 ap
  have caW := cell_of_block aW
  have faW := unfrozen_of_block aW
  have laW := lt_of_block aW
  have cbW := cell_of_block bW
  have fbW := unfrozen_of_block bW
  have lbW := lt_of_block bW
  have ccW := cell_of_block cW
  have fcW := unfrozen_of_block cW
  have lcW := lt_of_block cW
  go_wp2_with fail
  obtain ⟨X, hX, sX, dW, kX⟩ := blocks1 w2 (.cells #[.slice b0 dn.length dn.length, .slice b1 wt.length wt.length, .int .i64 bk] 30)
  rw [← hX]
  clear hX
  clear caW faW laW cbW fbW lbW ccW fcW lcW
  have KX := below_next K2 kX
  refine (slIndexReq_c a1 wt r _ c1 X (H1.out.below KX)).mono ?_
  rintro e w3 ⟨rfl, k3⟩
  have s3 := k3.size
  replace aW := carryB kX (by omega) aW
  replace bW := carryB kX (by omega) bW
  replace cW := carryB kX (by omega) cW
  replace aW := carryB k3 (by omega) aW
  replace bW := carryB k3 (by omega) bW
  replace cW := carryB k3 (by omega) cW
  replace dW := carryB k3 (by omega) dW
  have K3 := below_next KX k3
  have Q0 := Lib.hid ((R0.out.below kX).below k3)
  have Q1 := Lib.hid ((R1.out.below kX).below k3)
  clear kX k3 K2 KX R0 R1
  have caW := cell_of_block aW
  have faW := unfrozen_of_block aW
  have laW := lt_of_block aW
  have cbW := cell_of_block bW
  have fbW := unfrozen_of_block bW
  have lbW := lt_of_block bW
  have ccW := cell_of_block cW
  have fcW := unfrozen_of_block cW
  have lcW := lt_of_block cW
  have cdW := cell_of_block dW
  have fdW := unfrozen_of_block dW
  have ldW := lt_of_block dW
  go_wp2_with fail
  refine (okOrNull_c r.c r.n r.o r.x r.y w3).mono ?_
  rintro e w4 ⟨rfl, k4⟩
  have s4 := k4.size
  clear caW faW laW cbW fbW lbW ccW fcW lcW cdW fdW ldW
  replace aW := carryB k4 (by omega) aW
  replace bW := carryB k4 (by omega) bW
  replace cW := carryB k4 (by omega) cW
  replace dW := carryB k4 (by omega) dW
  have K4 := below_next K3 k4
  have P0 := Lib.hid (Q0.out.below k4)
  have P1 := Lib.hid (Q1.out.below k4)
  clear k4 K3 Q0 Q1
  have caW := cell_of_block aW
  have faW := unfrozen_of_block aW
  have laW := lt_of_block aW
  have cbW := cell_of_block bW
  have fbW := unfrozen_of_block bW
  have lbW := lt_of_block bW
  have ccW := cell_of_block cW
  have fcW := unfrozen_of_block cW
  have lcW := lt_of_block cW
  have cdW := cell_of_block dW
  have fdW := unfrozen_of_block dW
  have ldW := lt_of_block dW
  have ne_ : ¬ (w.heap.size + 1 + 1 = w2.heap.size) := by omega
  have ne_ : ¬ (w2.heap.size = w.heap.size + 1 + 1) := by omega
  have hgd : goodB r.c r.n r.o r.x r.y = good r := rfl
  rw [hgd]
  clear hgd
  cases hO : good r with
  | false =>
    have hp : keepA ⟨dn, wt, bk⟩ r = (⟨dn, wt, bk⟩, false) := by unfold keepA; rw [if_pos hA, hO]; rfl
    go_wp2_with fail
    refine bodyPost_ret (v := .tuple #[.agg #[.slice b0 dn.length dn.length, .slice b1 wt.length wt.length, .int .i64 bk], .bool false]) (by simp [results, Try.results24, go_sem, ccW]) rfl ?_
    rw [hp]
    exact ⟨b0, b1, rfl, (((P0.out.setOther (by simp <;> omega) _).setOther (by simp <;> omega) _).setOther (by simp <;> omega) _).low (by omega), (((P1.out.setOther (by simp <;> omega) _).setOther (by simp <;> omega) _).setOther (by simp <;> omega) _).low (by omega), AP.out, (by repeat' (first | with_reducible exact Below.refl _ _ | with_reducible assumption | with_reducible refine Below.alloc ?_ ?_ _ | with_reducible refine Below.drew ?_ | with_reducible refine Below.setCell ?_ ?_ _ | omega | (simp; omega) | (simp; done)))⟩
  | true =>
    have HX := Lib.hid (idxI_range wt r)
    generalize hix : idxI wt r = ix at *
    have HIX := Lib.hid hix
    clear hix

    rcases HX.out with hix | ⟨k, hix, hk⟩
    · subst hix
      have hl0 := H0.out.bounds
      have hl1 := H1.out.bounds
      have hb0 := Lib.hid (And.intro hl0.2.1 hl0.2.2.1)
      have hb1 := Lib.hid (And.intro hl1.2.1 hl1.2.2.1)
      clear hl0 hl1
      go_wp2_with fail
      refine (size_c a0 a1 _ _ c0 c1 bk w4 hb0.out.1 hb0.out.2 hb1.out.1 hb1.out.2 (by omega)).mono ?_
      rintro e w5 ⟨rfl, k5⟩
      have s5 := k5.size
      clear caW faW laW cbW fbW lbW ccW fcW lcW cdW fdW ldW
      replace aW := carryB k5 (by omega) aW
      replace bW := carryB k5 (by omega) bW
      replace cW := carryB k5 (by omega) cW
      replace dW := carryB k5 (by omega) dW
      have K5 := below_next K4 k5
      have PA0 := Lib.hid (P0.out.below k5)
      have PA1 := Lib.hid (P1.out.below k5)
      clear k5 K4 P0 P1
      have caW := cell_of_block aW
      have faW := unfrozen_of_block aW
      have laW := lt_of_block aW
      have cbW := cell_of_block bW
      have fbW := unfrozen_of_block bW
      have lbW := lt_of_block bW
      have ccW := cell_of_block cW
      have fcW := unfrozen_of_block cW
      have lcW := lt_of_block cW
      have cdW := cell_of_block dW
      have fdW := unfrozen_of_block dW
      have ldW := lt_of_block dW
      by_cases h6 : dn.length + wt.length = 60
      · have hp : keepA ⟨dn, wt, bk⟩ r = (⟨dn, wt, bk⟩, false) := by unfold keepA; rw [if_pos hA, hO, HIX.out]; simp [h6]
        have h60' : ((dn.length : Int) + (wt.length : Int)) = 60 := by omega
        rw [h60']
        go_wp2_with fail
        refine bodyPost_ret (v := .tuple #[.agg #[.slice b0 dn.length dn.length, .slice b1 wt.length wt.length, .int .i64 bk], .bool false]) (by simp [results, Try.results24, go_sem, ccW]) rfl ?_
        rw [hp]
        exact ⟨b0, b1, rfl, (((PA0.out.setOther (by first | omega | (simp <;> omega)) _).setOther (by first | omega | (simp <;> omega)) _).setOther (by first | omega | (simp <;> omega)) _).low (by omega), (((PA1.out.setOther (by first | omega | (simp <;> omega)) _).setOther (by first | omega | (simp <;> omega)) _).setOther (by first | omega | (simp <;> omega)) _).low (by omega), AP.out, (by repeat' (first | with_reducible exact Below.refl _ _ | with_reducible assumption | with_reducible refine Below.alloc ?_ ?_ _ | with_reducible refine Below.drew ?_ | with_reducible refine Below.setCell ?_ ?_ _ | omega | (simp; omega) | (simp; done)))⟩
      · have h60' : ¬ ((dn.length : Int) + (wt.length : Int)) = 60 := by omega
        have H6 := Lib.hid h6
        clear h6
        by_cases hw0 : wt.length = 0
        · have hw0' : ¬ (0 : Int) < (wt.length : Int) := by omega
          have HW0 := Lib.hid hw0
          clear hw0
          have hR0 := Lib.hid (PA0.out)
          have hR1 := Lib.hid (PA1.out)
          have Y0 := Lib.hid hR0.out
          have Y1 := Lib.hid hR1.out
          have hRA := rowsAt_one w5 r 34
          have RA := Lib.hid hRA
          clear hRA
          go_wp2_with (at_builtin; refine wpList_append_row rfl _ _ rfl (dn.length + 1) eltReq rfl rfl (Row.alloc Y0.out (.cells #[.int .i64 r.c, .int .i64 r.n, .int .i64 r.o, .int .i64 r.x, .int .i64 r.y] 34)) RA.out rfl rfl rfl (by simp only [maxLen]; omega) (by omega) (by simp <;> omega) ?_)
          intro b2 c2 w6 q6
          have aW6 := (q6.grown.block _ (by first | omega | (simp <;> omega)) (fun e => by have := HB0.out _ e.symm; omega)).trans ((Below.heap_alloc _ _ _ (by first | omega | (simp <;> omega))).trans aW)
          have bW6 := (q6.grown.block _ (by first | omega | (simp <;> omega)) (fun e => by have := HB0.out _ e.symm; omega)).trans ((Below.heap_alloc _ _ _ (by first | omega | (simp <;> omega))).trans bW)
          have cW6 := (q6.grown.block _ (by first | omega | (simp <;> omega)) (fun e => by have := HB0.out _ e.symm; omega)).trans ((Below.heap_alloc _ _ _ (by first | omega | (simp <;> omega))).trans cW)
          have dW6 := (q6.grown.block _ (by first | omega | (simp <;> omega)) (fun e => by have := HB0.out _ e.symm; omega)).trans ((Below.heap_alloc _ _ _ (by first | omega | (simp <;> omega))).trans dW)
          have s6 := q6.grown.size
          simp only [World.size_alloc, World.size_setCell] at s6
          have K6 := Lib.hid ((Below.alloc (K5) (by first | omega | (simp <;> omega)) (.cells #[.int .i64 r.c, .int .i64 r.n, .int .i64 r.o, .int .i64 r.x, .int .i64 r.y] 34)).grown q6.grown (by first | omega | (simp <;> omega)) (fun g hg => by have := HB0.out g hg; omega))
          have P16 := Lib.hid ((Y1.out.alloc (.cells #[.int .i64 r.c, .int .i64 r.n, .int .i64 r.o, .int .i64 r.x, .int .i64 r.y] 34)).kept q6.grown (fun g hg e => AP.out g e hg))
          have hl6 : (dn ++ [r]).length = dn.length + 1 := by simp
          have i6 := q6.row.sl' five_len hl6
          have I6 := Lib.hid i6
          have HL6 := Lib.hid hl6
          clear i6 hl6 q6 Y0 Y1 RA hR0 hR1 
          clear caW faW laW cbW fbW lbW ccW fcW lcW cdW fdW ldW
          clear aW bW cW dW
          have aW := aW6
          have bW := bW6
          have cW := cW6
          have dW : w6.heap[w2.heap.size]? = some (.cells #[.slice b0 dn.length dn.length, .slice b1 wt.length wt.length, .int .i64 bk] 30 (0, 0)) := dW6
          clear aW6 bW6 cW6 dW6
          have caW := cell_of_block aW
          have faW := unfrozen_of_block aW
          have laW := lt_of_block aW
          have cbW := cell_of_block bW
          have fbW := unfrozen_of_block bW
          have lbW := lt_of_block bW
          have ccW := cell_of_block cW
          have fcW := unfrozen_of_block cW
          have lcW := lt_of_block cW
          have cdW := cell_of_block dW
          have fdW := unfrozen_of_block dW
          have ldW := lt_of_block dW
          go_wp2_with fail
          refine (cloneReq_c b2 (dn.length + 1) c2 (dn ++ [r]) w6 I6.out (by omega)).mono ?_
          rintro e w7 ⟨b3, rfl, r3, k7⟩
          have s7 := k7.size
          have K7 := Lib.hid (below_next K6.out k7)
          have P17 := Lib.hid (P16.out.below k7)
          have ap3 := Lib.hid (r3.apart P16.out (Nat.le_refl _))
          have R3 := Lib.hid r3
          clear caW faW laW cbW fbW lbW ccW fcW lcW cdW fdW ldW
          replace aW := carryB k7 (by omega) aW
          replace bW := carryB k7 (by omega) bW
          replace cW := carryB k7 (by omega) cW
          replace dW := carryB k7 (by omega) dW
          clear k7 r3
          have caW := cell_of_block aW
          have faW := unfrozen_of_block aW
          have laW := lt_of_block aW
          have cbW := cell_of_block bW
          have fbW := unfrozen_of_block bW
          have lbW := lt_of_block bW
          have ccW := cell_of_block cW
          have fcW := unfrozen_of_block cW
          have lcW := lt_of_block cW
          have cdW := cell_of_block dW
          have fdW := unfrozen_of_block dW
          have ldW := lt_of_block dW
          go_wp2_with fail
          refine bodyPost_ret (v := .tuple #[.agg #[.slice b3 (dn.length + 1) (dn.length + 1), .slice b1 wt.length wt.length, .int .i64 bk], .bool true]) (by simp [results, Try.results24, go_sem, ccW]) rfl ?_
          have hp := keepA_eq (wt' := wt) (nb := bk) hA hO HIX.out (by have := H6.out; omega) (by rw [if_neg (by omega)]) (by rw [if_neg (by have := HW0.out; omega)])
          rw [hp]
          unfold RetA
          simp only [HL6.out]
          have K7' := K7.out
          refine ⟨b3, b1, rfl, ?_, ?_, fun g u v => ap3.out g v u, (by repeat' (first | with_reducible exact Below.refl _ _ | with_reducible assumption | with_reducible refine Below.alloc ?_ ?_ _ | with_reducible refine Below.drew ?_ | with_reducible refine Below.setCell ?_ ?_ _ | omega | (simp; omega) | (simp; done)))⟩
          · exact ((((R3.out.setOther (by first | omega | (simp <;> omega)) _).setOther (by first | omega | (simp <;> omega)) _).setOther (by first | omega | (simp <;> omega)) _).setOther (by first | omega | (simp <;> omega)) _).low (by omega)
          · exact ((((P17.out.setNe (fun g hg => by have := (HB1.out g hg).2; simp only; omega) _).setOther (by first | omega | (simp <;> omega)) _).setOther (by first | omega | (simp <;> omega)) _).setOther (by first | omega | (simp <;> omega)) _).low (by omega)
        · have hw0' : (0 : Int) < (wt.length : Int) := by omega
          rcases (show bk ≤ 97 ∨ bk = 98 ∨ bk = 99 by omega) with h97 | h97 | h97
          · skip
            have hR0 := Lib.hid (PA0.out)
            have hR1 := Lib.hid (PA1.out)
            have hb1' : IntKind.i64.wrap (bk + 1) = bk + 1 := IntWalk.i64_in _ ⟨by omega, by omega⟩
            have hb2' : bk + 1 < 99 := by omega
            have hb3' : ¬ 99 < bk + 1 := by omega
            have hb4' : bk < 98 := by omega
            have hb5' : ¬ 98 < bk := by omega
            obtain ⟨Y, hY, sY, dY, oY, kY⟩ := stored1 w5 w2.heap.size 2 (.int .i64 (bk + 1)) dW
            have Y0 := Lib.hid (Row.setNe (p := ⟨w2.heap.size, 2, none⟩) hR0.out (fun g hg => by have := (HB0.out g hg).2; simp only; omega) (.int .i64 (bk + 1)))
            have Y1 := Lib.hid (Row.setNe (p := ⟨w2.heap.size, 2, none⟩) hR1.out (fun g hg => by have := (HB1.out g hg).2; simp only; omega) (.int .i64 (bk + 1)))
            have HY := Lib.hid hY
            clear hY
            have hRA := rowsAt_one (w5.setCell ⟨w2.heap.size, 2, none⟩ (.int .i64 (bk + 1))) r 34
            rw [show (w5.setCell ⟨w2.heap.size, 2, none⟩ (.int .i64 (bk + 1))).heap.size = w5.heap.size by simp] at hRA
            have RA := Lib.hid hRA
            clear hRA
            go_wp2_with (at_builtin; refine wpList_append_row rfl _ _ rfl (dn.length + 1) eltReq rfl rfl (Row.alloc Y0.out (.cells #[.int .i64 r.c, .int .i64 r.n, .int .i64 r.o, .int .i64 r.x, .int .i64 r.y] 34)) RA.out rfl rfl rfl (by simp only [maxLen]; omega) (by omega) (by simp <;> omega) ?_)
            intro b2 c2 w6 q6
            have aW6 := (q6.grown.block _ (by first | omega | (simp <;> omega)) (fun e => by have := HB0.out _ e.symm; omega)).trans ((Below.heap_alloc _ _ _ (by first | omega | (simp <;> omega))).trans ((Below.heap_setCell _ _ _ _ (by first | omega | (simp <;> omega))).trans aW))
            have bW6 := (q6.grown.block _ (by first | omega | (simp <;> omega)) (fun e => by have := HB0.out _ e.symm; omega)).trans ((Below.heap_alloc _ _ _ (by first | omega | (simp <;> omega))).trans ((Below.heap_setCell _ _ _ _ (by first | omega | (simp <;> omega))).trans bW))
            have cW6 := (q6.grown.block _ (by first | omega | (simp <;> omega)) (fun e => by have := HB0.out _ e.symm; omega)).trans ((Below.heap_alloc _ _ _ (by first | omega | (simp <;> omega))).trans ((Below.heap_setCell _ _ _ _ (by first | omega | (simp <;> omega))).trans cW))
            have dW6 := (q6.grown.block _ (by first | omega | (simp <;> omega)) (fun e => by have := HB0.out _ e.symm; omega)).trans ((Below.heap_alloc _ _ _ (by first | omega | (simp <;> omega))).trans (block_setCell (i := 2) dW (.int .i64 (bk + 1))))
            have s6 := q6.grown.size
            simp only [World.size_alloc, World.size_setCell] at s6
            have K6 := Lib.hid ((Below.alloc (K5.setCell (p := ⟨w2.heap.size, 2, none⟩) (by first | omega | (simp <;> omega)) (.int .i64 (bk + 1))) (by first | omega | (simp <;> omega)) (.cells #[.int .i64 r.c, .int .i64 r.n, .int .i64 r.o, .int .i64 r.x, .int .i64 r.y] 34)).grown q6.grown (by first | omega | (simp <;> omega)) (fun g hg => by have := HB0.out g hg; omega))
            have P16 := Lib.hid ((Y1.out.alloc (.cells #[.int .i64 r.c, .int .i64 r.n, .int .i64 r.o, .int .i64 r.x, .int .i64 r.y] 34)).kept q6.grown (fun g hg e => AP.out g e hg))
            have hl6 : (dn ++ [r]).length = dn.length + 1 := by simp
            have i6 := q6.row.sl' five_len hl6
            have I6 := Lib.hid i6
            have HL6 := Lib.hid hl6
            clear i6 hl6 q6 Y0 Y1 RA hR0 hR1 HY sY oY kY dY
            clear caW faW laW cbW fbW lbW ccW fcW lcW cdW fdW ldW
            clear aW bW cW dW
            have aW := aW6
            have bW := bW6
            have cW := cW6
            have dW : w6.heap[w2.heap.size]? = some (.cells #[.slice b0 dn.length dn.length, .slice b1 wt.length wt.length, .int .i64 (bk + 1)] 30 (0, 0)) := dW6
            clear aW6 bW6 cW6 dW6
            have caW := cell_of_block aW
            have faW := unfrozen_of_block aW
            have laW := lt_of_block aW
            have cbW := cell_of_block bW
            have fbW := unfrozen_of_block bW
            have lbW := lt_of_block bW
            have ccW := cell_of_block cW
            have fcW := unfrozen_of_block cW
            have lcW := lt_of_block cW
            have cdW := cell_of_block dW
            have fdW := unfrozen_of_block dW
            have ldW := lt_of_block dW
            go_wp2_with fail
            refine (cloneReq_c b2 (dn.length + 1) c2 (dn ++ [r]) w6 I6.out (by omega)).mono ?_
            rintro e w7 ⟨b3, rfl, r3, k7⟩
            have s7 := k7.size
            have K7 := Lib.hid (below_next K6.out k7)
            have P17 := Lib.hid (P16.out.below k7)
            have ap3 := Lib.hid (r3.apart P16.out (Nat.le_refl _))
            have R3 := Lib.hid r3
            clear caW faW laW cbW fbW lbW ccW fcW lcW cdW fdW ldW
            replace aW := carryB k7 (by omega) aW
            replace bW := carryB k7 (by omega) bW
            replace cW := carryB k7 (by omega) cW
            replace dW := carryB k7 (by omega) dW
            clear k7 r3
            have caW := cell_of_block aW
            have faW := unfrozen_of_block aW
            have laW := lt_of_block aW
            have cbW := cell_of_block bW
            have fbW := unfrozen_of_block bW
            have lbW := lt_of_block bW
            have ccW := cell_of_block cW
            have fcW := unfrozen_of_block cW
            have lcW := lt_of_block cW
            have cdW := cell_of_block dW
            have fdW := unfrozen_of_block dW
            have ldW := lt_of_block dW
            go_wp2_with fail
            refine bodyPost_ret (v := .tuple #[.agg #[.slice b3 (dn.length + 1) (dn.length + 1), .slice b1 wt.length wt.length, .int .i64 (bk + 1)], .bool true]) (by simp [results, Try.results24, go_sem, ccW]) rfl ?_
            have hp := keepA_eq (wt' := wt) (nb := (bk + 1)) hA hO HIX.out (by have := H6.out; omega) (by rw [if_neg (by omega)]) (by rw [if_pos ⟨by omega, by omega⟩, if_pos (by omega)])
            rw [hp]
            unfold RetA
            simp only [HL6.out]
            have K7' := K7.out
            refine ⟨b3, b1, rfl, ?_, ?_, fun g u v => ap3.out g v u, (by repeat' (first | with_reducible exact Below.refl _ _ | with_reducible assumption | with_reducible refine Below.alloc ?_ ?_ _ | with_reducible refine Below.drew ?_ | with_reducible refine Below.setCell ?_ ?_ _ | omega | (simp; omega) | (simp; done)))⟩
            · exact ((((R3.out.setOther (by first | omega | (simp <;> omega)) _).setOther (by first | omega | (simp <;> omega)) _).setOther (by first | omega | (simp <;> omega)) _).setOther (by first | omega | (simp <;> omega)) _).low (by omega)
            · exact ((((P17.out.setNe (fun g hg => by have := (HB1.out g hg).2; simp only; omega) _).setOther (by first | omega | (simp <;> omega)) _).setOther (by first | omega | (simp <;> omega)) _).setOther (by first | omega | (simp <;> omega)) _).low (by omega)
          · subst h97
            have hR0 := Lib.hid (PA0.out)
            have hR1 := Lib.hid (PA1.out)
            obtain ⟨Y, hY, sY, dY, oY, kY⟩ := stored1 w5 w2.heap.size 2 (.int .i64 99) dW
            have Y0 := Lib.hid (Row.setNe (p := ⟨w2.heap.size, 2, none⟩) hR0.out (fun g hg => by have := (HB0.out g hg).2; simp only; omega) (.int .i64 99))
            have Y1 := Lib.hid (Row.setNe (p := ⟨w2.heap.size, 2, none⟩) hR1.out (fun g hg => by have := (HB1.out g hg).2; simp only; omega) (.int .i64 99))
            have HY := Lib.hid hY
            clear hY
            have hRA := rowsAt_one (w5.setCell ⟨w2.heap.size, 2, none⟩ (.int .i64 99)) r 34
            rw [show (w5.setCell ⟨w2.heap.size, 2, none⟩ (.int .i64 99)).heap.size = w5.heap.size by simp] at hRA
            have RA := Lib.hid hRA
            clear hRA
            go_wp2_with (at_builtin; refine wpList_append_row rfl _ _ rfl (dn.length + 1) eltReq rfl rfl (Row.alloc Y0.out (.cells #[.int .i64 r.c, .int .i64 r.n, .int .i64 r.o, .int .i64 r.x, .int .i64 r.y] 34)) RA.out rfl rfl rfl (by simp only [maxLen]; omega) (by omega) (by simp <;> omega) ?_)
            intro b2 c2 w6 q6
            have aW6 := (q6.grown.block _ (by first | omega | (simp <;> omega)) (fun e => by have := HB0.out _ e.symm; omega)).trans ((Below.heap_alloc _ _ _ (by first | omega | (simp <;> omega))).trans ((Below.heap_setCell _ _ _ _ (by first | omega | (simp <;> omega))).trans aW))
            have bW6 := (q6.grown.block _ (by first | omega | (simp <;> omega)) (fun e => by have := HB0.out _ e.symm; omega)).trans ((Below.heap_alloc _ _ _ (by first | omega | (simp <;> omega))).trans ((Below.heap_setCell _ _ _ _ (by first | omega | (simp <;> omega))).trans bW))
            have cW6 := (q6.grown.block _ (by first | omega | (simp <;> omega)) (fun e => by have := HB0.out _ e.symm; omega)).trans ((Below.heap_alloc _ _ _ (by first | omega | (simp <;> omega))).trans ((Below.heap_setCell _ _ _ _ (by first | omega | (simp <;> omega))).trans cW))
            have dW6 := (q6.grown.block _ (by first | omega | (simp <;> omega)) (fun e => by have := HB0.out _ e.symm; omega)).trans ((Below.heap_alloc _ _ _ (by first | omega | (simp <;> omega))).trans (block_setCell (i := 2) dW (.int .i64 99)))
            have s6 := q6.grown.size
            simp only [World.size_alloc, World.size_setCell] at s6
            have K6 := Lib.hid ((Below.alloc (K5.setCell (p := ⟨w2.heap.size, 2, none⟩) (by first | omega | (simp <;> omega)) (.int .i64 99)) (by first | omega | (simp <;> omega)) (.cells #[.int .i64 r.c, .int .i64 r.n, .int .i64 r.o, .int .i64 r.x, .int .i64 r.y] 34)).grown q6.grown (by first | omega | (simp <;> omega)) (fun g hg => by have := HB0.out g hg; omega))
            have P16 := Lib.hid ((Y1.out.alloc (.cells #[.int .i64 r.c, .int .i64 r.n, .int .i64 r.o, .int .i64 r.x, .int .i64 r.y] 34)).kept q6.grown (fun g hg e => AP.out g e hg))
            have hl6 : (dn ++ [r]).length = dn.length + 1 := by simp
            have i6 := q6.row.sl' five_len hl6
            have I6 := Lib.hid i6
            have HL6 := Lib.hid hl6
            clear i6 hl6 q6 Y0 Y1 RA hR0 hR1 HY sY oY kY dY
            clear caW faW laW cbW fbW lbW ccW fcW lcW cdW fdW ldW
            clear aW bW cW dW
            have aW := aW6
            have bW := bW6
            have cW := cW6
            have dW : w6.heap[w2.heap.size]? = some (.cells #[.slice b0 dn.length dn.length, .slice b1 wt.length wt.length, .int .i64 99] 30 (0, 0)) := dW6
            clear aW6 bW6 cW6 dW6
            have caW := cell_of_block aW
            have faW := unfrozen_of_block aW
            have laW := lt_of_block aW
            have cbW := cell_of_block bW
            have fbW := unfrozen_of_block bW
            have lbW := lt_of_block bW
            have ccW := cell_of_block cW
            have fcW := unfrozen_of_block cW
            have lcW := lt_of_block cW
            have cdW := cell_of_block dW
            have fdW := unfrozen_of_block dW
            have ldW := lt_of_block dW
            go_wp2_with fail
            refine (cloneReq_c b2 (dn.length + 1) c2 (dn ++ [r]) w6 I6.out (by omega)).mono ?_
            rintro e w7 ⟨b3, rfl, r3, k7⟩
            have s7 := k7.size
            have K7 := Lib.hid (below_next K6.out k7)
            have P17 := Lib.hid (P16.out.below k7)
            have ap3 := Lib.hid (r3.apart P16.out (Nat.le_refl _))
            have R3 := Lib.hid r3
            clear caW faW laW cbW fbW lbW ccW fcW lcW cdW fdW ldW
            replace aW := carryB k7 (by omega) aW
            replace bW := carryB k7 (by omega) bW
            replace cW := carryB k7 (by omega) cW
            replace dW := carryB k7 (by omega) dW
            clear k7 r3
            have caW := cell_of_block aW
            have faW := unfrozen_of_block aW
            have laW := lt_of_block aW
            have cbW := cell_of_block bW
            have fbW := unfrozen_of_block bW
            have lbW := lt_of_block bW
            have ccW := cell_of_block cW
            have fcW := unfrozen_of_block cW
            have lcW := lt_of_block cW
            have cdW := cell_of_block dW
            have fdW := unfrozen_of_block dW
            have ldW := lt_of_block dW
            go_wp2_with fail
            refine bodyPost_ret (v := .tuple #[.agg #[.slice b3 (dn.length + 1) (dn.length + 1), .slice b1 wt.length wt.length, .int .i64 99], .bool true]) (by simp [results, Try.results24, go_sem, ccW]) rfl ?_
            have hp := keepA_eq (wt' := wt) (nb := 99) hA hO HIX.out (by have := H6.out; omega) (by rw [if_neg (by omega)]) (by rw [if_pos ⟨by omega, by omega⟩]; rfl)
            rw [hp]
            unfold RetA
            simp only [HL6.out]
            have K7' := K7.out
            refine ⟨b3, b1, rfl, ?_, ?_, fun g u v => ap3.out g v u, (by repeat' (first | with_reducible exact Below.refl _ _ | with_reducible assumption | with_reducible refine Below.alloc ?_ ?_ _ | with_reducible refine Below.drew ?_ | with_reducible refine Below.setCell ?_ ?_ _ | omega | (simp; omega) | (simp; done)))⟩
            · exact ((((R3.out.setOther (by first | omega | (simp <;> omega)) _).setOther (by first | omega | (simp <;> omega)) _).setOther (by first | omega | (simp <;> omega)) _).setOther (by first | omega | (simp <;> omega)) _).low (by omega)
            · exact ((((P17.out.setNe (fun g hg => by have := (HB1.out g hg).2; simp only; omega) _).setOther (by first | omega | (simp <;> omega)) _).setOther (by first | omega | (simp <;> omega)) _).setOther (by first | omega | (simp <;> omega)) _).low (by omega)
          · subst h97
            have hR0 := Lib.hid (PA0.out)
            have hR1 := Lib.hid (PA1.out)
            obtain ⟨Y, hY, sY, dY, oY, kY⟩ := stored1 w5 w2.heap.size 2 (.int .i64 99) dW
            have Y0 := Lib.hid (Row.setNe (p := ⟨w2.heap.size, 2, none⟩) hR0.out (fun g hg => by have := (HB0.out g hg).2; simp only; omega) (.int .i64 99))
            have Y1 := Lib.hid (Row.setNe (p := ⟨w2.heap.size, 2, none⟩) hR1.out (fun g hg => by have := (HB1.out g hg).2; simp only; omega) (.int .i64 99))
            have HY := Lib.hid hY
            clear hY
            have hRA := rowsAt_one (w5.setCell ⟨w2.heap.size, 2, none⟩ (.int .i64 99)) r 34
            rw [show (w5.setCell ⟨w2.heap.size, 2, none⟩ (.int .i64 99)).heap.size = w5.heap.size by simp] at hRA
            have RA := Lib.hid hRA
            clear hRA
            go_wp2_with (at_builtin; refine wpList_append_row rfl _ _ rfl (dn.length + 1) eltReq rfl rfl (Row.alloc Y0.out (.cells #[.int .i64 r.c, .int .i64 r.n, .int .i64 r.o, .int .i64 r.x, .int .i64 r.y] 34)) RA.out rfl rfl rfl (by simp only [maxLen]; omega) (by omega) (by simp <;> omega) ?_)
            intro b2 c2 w6 q6
            have aW6 := (q6.grown.block _ (by first | omega | (simp <;> omega)) (fun e => by have := HB0.out _ e.symm; omega)).trans ((Below.heap_alloc _ _ _ (by first | omega | (simp <;> omega))).trans ((Below.heap_setCell _ _ _ _ (by first | omega | (simp <;> omega))).trans aW))
            have bW6 := (q6.grown.block _ (by first | omega | (simp <;> omega)) (fun e => by have := HB0.out _ e.symm; omega)).trans ((Below.heap_alloc _ _ _ (by first | omega | (simp <;> omega))).trans ((Below.heap_setCell _ _ _ _ (by first | omega | (simp <;> omega))).trans bW))
            have cW6 := (q6.grown.block _ (by first | omega | (simp <;> omega)) (fun e => by have := HB0.out _ e.symm; omega)).trans ((Below.heap_alloc _ _ _ (by first | omega | (simp <;> omega))).trans ((Below.heap_setCell _ _ _ _ (by first | omega | (simp <;> omega))).trans cW))
            have dW6 := (q6.grown.block _ (by first | omega | (simp <;> omega)) (fun e => by have := HB0.out _ e.symm; omega)).trans ((Below.heap_alloc _ _ _ (by first | omega | (simp <;> omega))).trans (block_setCell (i := 2) dW (.int .i64 99)))
            have s6 := q6.grown.size
            simp only [World.size_alloc, World.size_setCell] at s6
            have K6 := Lib.hid ((Below.alloc (K5.setCell (p := ⟨w2.heap.size, 2, none⟩) (by first | omega | (simp <;> omega)) (.int .i64 99)) (by first | omega | (simp <;> omega)) (.cells #[.int .i64 r.c, .int .i64 r.n, .int .i64 r.o, .int .i64 r.x, .int .i64 r.y] 34)).grown q6.grown (by first | omega | (simp <;> omega)) (fun g hg => by have := HB0.out g hg; omega))
            have P16 := Lib.hid ((Y1.out.alloc (.cells #[.int .i64 r.c, .int .i64 r.n, .int .i64 r.o, .int .i64 r.x, .int .i64 r.y] 34)).kept q6.grown (fun g hg e => AP.out g e hg))
            have hl6 : (dn ++ [r]).length = dn.length + 1 := by simp
            have i6 := q6.row.sl' five_len hl6
            have I6 := Lib.hid i6
            have HL6 := Lib.hid hl6
            clear i6 hl6 q6 Y0 Y1 RA hR0 hR1 HY sY oY kY dY
            clear caW faW laW cbW fbW lbW ccW fcW lcW cdW fdW ldW
            clear aW bW cW dW
            have aW := aW6
            have bW := bW6
            have cW := cW6
            have dW : w6.heap[w2.heap.size]? = some (.cells #[.slice b0 dn.length dn.length, .slice b1 wt.length wt.length, .int .i64 99] 30 (0, 0)) := dW6
            clear aW6 bW6 cW6 dW6
            have caW := cell_of_block aW
            have faW := unfrozen_of_block aW
            have laW := lt_of_block aW
            have cbW := cell_of_block bW
            have fbW := unfrozen_of_block bW
            have lbW := lt_of_block bW
            have ccW := cell_of_block cW
            have fcW := unfrozen_of_block cW
            have lcW := lt_of_block cW
            have cdW := cell_of_block dW
            have fdW := unfrozen_of_block dW
            have ldW := lt_of_block dW
            go_wp2_with fail
            refine (cloneReq_c b2 (dn.length + 1) c2 (dn ++ [r]) w6 I6.out (by omega)).mono ?_
            rintro e w7 ⟨b3, rfl, r3, k7⟩
            have s7 := k7.size
            have K7 := Lib.hid (below_next K6.out k7)
            have P17 := Lib.hid (P16.out.below k7)
            have ap3 := Lib.hid (r3.apart P16.out (Nat.le_refl _))
            have R3 := Lib.hid r3
            clear caW faW laW cbW fbW lbW ccW fcW lcW cdW fdW ldW
            replace aW := carryB k7 (by omega) aW
            replace bW := carryB k7 (by omega) bW
            replace cW := carryB k7 (by omega) cW
            replace dW := carryB k7 (by omega) dW
            clear k7 r3
            have caW := cell_of_block aW
            have faW := unfrozen_of_block aW
            have laW := lt_of_block aW
            have cbW := cell_of_block bW
            have fbW := unfrozen_of_block bW
            have lbW := lt_of_block bW
            have ccW := cell_of_block cW
            have fcW := unfrozen_of_block cW
            have lcW := lt_of_block cW
            have cdW := cell_of_block dW
            have fdW := unfrozen_of_block dW
            have ldW := lt_of_block dW
            go_wp2_with fail
            refine bodyPost_ret (v := .tuple #[.agg #[.slice b3 (dn.length + 1) (dn.length + 1), .slice b1 wt.length wt.length, .int .i64 99], .bool true]) (by simp [results, Try.results24, go_sem, ccW]) rfl ?_
            have hp := keepA_eq (wt' := wt) (nb := 99) hA hO HIX.out (by have := H6.out; omega) (by rw [if_neg (by omega)]) (by rw [if_pos ⟨by omega, by omega⟩]; rfl)
            rw [hp]
            unfold RetA
            simp only [HL6.out]
            have K7' := K7.out
            refine ⟨b3, b1, rfl, ?_, ?_, fun g u v => ap3.out g v u, (by repeat' (first | with_reducible exact Below.refl _ _ | with_reducible assumption | with_reducible refine Below.alloc ?_ ?_ _ | with_reducible refine Below.drew ?_ | with_reducible refine Below.setCell ?_ ?_ _ | omega | (simp; omega) | (simp; done)))⟩
            · exact ((((R3.out.setOther (by first | omega | (simp <;> omega)) _).setOther (by first | omega | (simp <;> omega)) _).setOther (by first | omega | (simp <;> omega)) _).setOther (by first | omega | (simp <;> omega)) _).low (by omega)
            · exact ((((P17.out.setNe (fun g hg => by have := (HB1.out g hg).2; simp only; omega) _).setOther (by first | omega | (simp <;> omega)) _).setOther (by first | omega | (simp <;> omega)) _).setOther (by first | omega | (simp <;> omega)) _).low (by omega)
    · subst hix
      have hx0 : ¬ ((k : Nat) : Int) < 0 := by omega
      have hx1 : (0 : Int) ≤ ((k : Nat) : Int) := by omega
      have hw0' : (0 : Int) < (wt.length : Int) := by omega
      by_cases hk0 : k = 0
      · subst hk0
        have hR0 := Lib.hid (P0.out)
        have hR1 := Lib.hid (P1.out)
        have Y0 := Lib.hid hR0.out
        have Y1 := Lib.hid hR1.out
        have hRA := rowsAt_one w4 r 34
        have RA := Lib.hid hRA
        clear hRA
        go_wp2_with (at_builtin; refine wpList_append_row rfl _ _ rfl (dn.length + 1) eltReq rfl rfl (Row.alloc Y0.out (.cells #[.int .i64 r.c, .int .i64 r.n, .int .i64 r.o, .int .i64 r.x, .int .i64 r.y] 34)) RA.out rfl rfl rfl (by simp only [maxLen]; omega) (by omega) (by simp <;> omega) ?_)
        intro b2 c2 w6 q6
        have aW6 := (q6.grown.block _ (by first | omega | (simp <;> omega)) (fun e => by have := HB0.out _ e.symm; omega)).trans ((Below.heap_alloc _ _ _ (by first | omega | (simp <;> omega))).trans aW)
        have bW6 := (q6.grown.block _ (by first | omega | (simp <;> omega)) (fun e => by have := HB0.out _ e.symm; omega)).trans ((Below.heap_alloc _ _ _ (by first | omega | (simp <;> omega))).trans bW)
        have cW6 := (q6.grown.block _ (by first | omega | (simp <;> omega)) (fun e => by have := HB0.out _ e.symm; omega)).trans ((Below.heap_alloc _ _ _ (by first | omega | (simp <;> omega))).trans cW)
        have dW6 := (q6.grown.block _ (by first | omega | (simp <;> omega)) (fun e => by have := HB0.out _ e.symm; omega)).trans ((Below.heap_alloc _ _ _ (by first | omega | (simp <;> omega))).trans dW)
        have s6 := q6.grown.size
        simp only [World.size_alloc, World.size_setCell] at s6
        have K6 := Lib.hid ((Below.alloc (K4) (by first | omega | (simp <;> omega)) (.cells #[.int .i64 r.c, .int .i64 r.n, .int .i64 r.o, .int .i64 r.x, .int .i64 r.y] 34)).grown q6.grown (by first | omega | (simp <;> omega)) (fun g hg => by have := HB0.out g hg; omega))
        have P16 := Lib.hid ((Y1.out.alloc (.cells #[.int .i64 r.c, .int .i64 r.n, .int .i64 r.o, .int .i64 r.x, .int .i64 r.y] 34)).kept q6.grown (fun g hg e => AP.out g e hg))
        have hl6 : (dn ++ [r]).length = dn.length + 1 := by simp
        have i6 := q6.row.sl' five_len hl6
        have I6 := Lib.hid i6
        have HL6 := Lib.hid hl6
        clear i6 hl6 q6 Y0 Y1 RA hR0 hR1 
        clear caW faW laW cbW fbW lbW ccW fcW lcW cdW fdW ldW
        clear aW bW cW dW
        have aW := aW6
        have bW := bW6
        have cW := cW6
        have dW : w6.heap[w2.heap.size]? = some (.cells #[.slice b0 dn.length dn.length, .slice b1 wt.length wt.length, .int .i64 bk] 30 (0, 0)) := dW6
        clear aW6 bW6 cW6 dW6
        have caW := cell_of_block aW
        have faW := unfrozen_of_block aW
        have laW := lt_of_block aW
        have cbW := cell_of_block bW
        have fbW := unfrozen_of_block bW
        have lbW := lt_of_block bW
        have ccW := cell_of_block cW
        have fcW := unfrozen_of_block cW
        have lcW := lt_of_block cW
        have cdW := cell_of_block dW
        have fdW := unfrozen_of_block dW
        have ldW := lt_of_block dW
        go_wp2_with fail
        refine (cloneReq_c b2 (dn.length + 1) c2 (dn ++ [r]) w6 I6.out (by omega)).mono ?_
        rintro e w7 ⟨b3, rfl, r3, k7⟩
        have s7 := k7.size
        have K7 := Lib.hid (below_next K6.out k7)
        have P17 := Lib.hid (P16.out.below k7)
        have ap3 := Lib.hid (r3.apart P16.out (Nat.le_refl _))
        have R3 := Lib.hid r3
        clear caW faW laW cbW fbW lbW ccW fcW lcW cdW fdW ldW
        replace aW := carryB k7 (by omega) aW
        replace bW := carryB k7 (by omega) bW
        replace cW := carryB k7 (by omega) cW
        replace dW := carryB k7 (by omega) dW
        clear k7 r3
        have caW := cell_of_block aW
        have faW := unfrozen_of_block aW
        have laW := lt_of_block aW
        have cbW := cell_of_block bW
        have fbW := unfrozen_of_block bW
        have lbW := lt_of_block bW
        have ccW := cell_of_block cW
        have fcW := unfrozen_of_block cW
        have lcW := lt_of_block cW
        have cdW := cell_of_block dW
        have fdW := unfrozen_of_block dW
        have ldW := lt_of_block dW
        go_wp2_with fail
        obtain ⟨Z, hZ, sZ, dZ, oZ, kZ⟩ := stored1 w7 w2.heap.size 0 (.slice b3 (dn.length + 1) (dn.length + 1)) dW
        rw [← hZ]
        have P1Z := Lib.hid (show Row Z w1.heap.size 34 b1 wt.length 5 Rq.cs wt by rw [hZ]; exact P17.out.setNe (fun g hg => by have := (HB1.out g hg).2; simp only; omega) _)
        have R3Z := Lib.hid (show Row Z w6.heap.size 34 b3 (dn.length + 1) 5 Rq.cs (dn ++ [r]) by rw [hZ]; exact R3.out.setOther (by simp <;> omega) _)
        replace aW := (oZ _ (by omega)).trans aW
        replace bW := (oZ _ (by omega)).trans bW
        replace cW := (oZ _ (by omega)).trans cW
        replace dW : Z.heap[w2.heap.size]? = some (.cells #[.slice b3 (dn.length + 1) (dn.length + 1), .slice b1 wt.length wt.length, .int .i64 bk] 30 (0, 0)) := dZ
        have KZ := Lib.hid (K7.out.trans (kZ.mono (by omega)))
        clear caW faW laW cbW fbW lbW ccW fcW lcW cdW fdW ldW
        clear hZ oZ kZ dZ
        refine (slDeleteReq_c (i := 0) Z P1Z.out rfl hk (by omega)).mono ?_
        rintro e w8 ⟨rfl, r8, t8⟩
        replace aW := (t8.block _ (by omega) (fun e => by have := HB1.out _ e.symm; omega)).trans aW
        replace bW := (t8.block _ (by omega) (fun e => by have := HB1.out _ e.symm; omega)).trans bW
        replace cW := (t8.block _ (by omega) (fun e => by have := HB1.out _ e.symm; omega)).trans cW
        replace dW := (t8.block _ (by omega) (fun e => by have := HB1.out _ e.symm; omega)).trans dW
        have s8 := t8.size
        have R38 := Lib.hid (R3Z.out.kept t8 (fun g hg e => by have := (R3Z.out.blk hg).1; have := HB1.out g e; omega))
        have K8 := Lib.hid (KZ.out.grown t8 (by omega) (fun g hg => by have := HB1.out g hg; omega))
        have hl8 : (wt.eraseIdx 0).length = wt.length - 1 := by rw [List.length_eraseIdx, if_pos hk]
        have i8 := r8.sl' five_len hl8
        have I8 := Lib.hid i8
        have HL8 := Lib.hid hl8
        clear i8 hl8 r8 t8
        have caW := cell_of_block aW
        have faW := unfrozen_of_block aW
        have laW := lt_of_block aW
        have cbW := cell_of_block bW
        have fbW := unfrozen_of_block bW
        have lbW := lt_of_block bW
        have ccW := cell_of_block cW
        have fcW := unfrozen_of_block cW
        have lcW := lt_of_block cW
        have cdW := cell_of_block dW
        have fdW := unfrozen_of_block dW
        have ldW := lt_of_block dW
        go_wp2_with fail
        refine (cloneReq_c b1 (wt.length - 1) wt.length (wt.eraseIdx 0) w8 I8.out (by omega)).mono ?_
        rintro e w9 ⟨b4, rfl, r4, k9⟩
        have s9 := k9.size
        have K9 := below_next K8.out k9
        have R39 := Lib.hid (R38.out.below k9)
        have ap4 := Lib.hid (r4.apart R38.out (Nat.le_refl _))
        have R4 := Lib.hid r4
        clear caW faW laW cbW fbW lbW ccW fcW lcW cdW fdW ldW
        replace aW := carryB k9 (by omega) aW
        replace bW := carryB k9 (by omega) bW
        replace cW := carryB k9 (by omega) cW
        replace dW := carryB k9 (by omega) dW
        clear k9 r4
        have caW := cell_of_block aW
        have faW := unfrozen_of_block aW
        have laW := lt_of_block aW
        have cbW := cell_of_block bW
        have fbW := unfrozen_of_block bW
        have lbW := lt_of_block bW
        have ccW := cell_of_block cW
        have fcW := unfrozen_of_block cW
        have lcW := lt_of_block cW
        have cdW := cell_of_block dW
        have fdW := unfrozen_of_block dW
        have ldW := lt_of_block dW
        go_wp2_with fail
        refine bodyPost_ret (v := .tuple #[.agg #[.slice b3 (dn.length + 1) (dn.length + 1), .slice b4 (wt.length - 1) (wt.length - 1), .int .i64 bk], .bool true]) (by simp [results, Try.results24, go_sem, ccW]) rfl ?_
        have hp := keepA_eq (wt' := wt.eraseIdx 0) (nb := bk) hA hO HIX.out (by omega) (by rw [if_pos (by omega)]; rfl) (by rw [if_neg (by omega)])
        rw [hp]
        unfold RetA
        simp only [HL6.out, HL8.out]
        refine ⟨b3, b4, rfl, ?_, ?_, ap4.out, (by repeat' (first | with_reducible exact Below.refl _ _ | with_reducible assumption | with_reducible refine Below.alloc ?_ ?_ _ | with_reducible refine Below.drew ?_ | with_reducible refine Below.setCell ?_ ?_ _ | omega | (simp; omega) | (simp; done)))⟩
        · exact ((((R39.out.setOther (by first | omega | (simp <;> omega)) _).setOther (by first | omega | (simp <;> omega)) _).setOther (by first | omega | (simp <;> omega)) _).setOther (by first | omega | (simp <;> omega)) _).low (by omega)
        · exact ((((R4.out.setOther (by first | omega | (simp <;> omega)) _).setOther (by first | omega | (simp <;> omega)) _).setOther (by first | omega | (simp <;> omega)) _).setOther (by first | omega | (simp <;> omega)) _).low (by omega)
      · have hk0' : ¬ ((k : Nat) : Int) = 0 := by omega
        have hwk : IntKind.i64.wrap ((k : Int) + 1) = (k : Int) + 1 := IntWalk.i64_in _ ⟨by omega, by omega⟩
        rcases (show bk ≤ 97 ∨ bk = 98 ∨ bk = 99 by omega) with h97 | h97 | h97
        · skip
          have hR0 := Lib.hid (P0.out)
          have hR1 := Lib.hid (P1.out)
          have hb1' : IntKind.i64.wrap (bk + 1) = bk + 1 := IntWalk.i64_in _ ⟨by omega, by omega⟩
          have hb2' : bk + 1 < 99 := by omega
          have hb3' : ¬ 99 < bk + 1 := by omega
          have hb4' : bk < 98 := by omega
          have hb5' : ¬ 98 < bk := by omega
          obtain ⟨Y, hY, sY, dY, oY, kY⟩ := stored1 w4 w2.heap.size 2 (.int .i64 (bk + 1)) dW
          have Y0 := Lib.hid (Row.setNe (p := ⟨w2.heap.size, 2, none⟩) hR0.out (fun g hg => by have := (HB0.out g hg).2; simp only; omega) (.int .i64 (bk + 1)))
          have Y1 := Lib.hid (Row.setNe (p := ⟨w2.heap.size, 2, none⟩) hR1.out (fun g hg => by have := (HB1.out g hg).2; simp only; omega) (.int .i64 (bk + 1)))
          have HY := Lib.hid hY
          clear hY
          have hRA := rowsAt_one (w4.setCell ⟨w2.heap.size, 2, none⟩ (.int .i64 (bk + 1))) r 34
          rw [show (w4.setCell ⟨w2.heap.size, 2, none⟩ (.int .i64 (bk + 1))).heap.size = w4.heap.size by simp] at hRA
          have RA := Lib.hid hRA
          clear hRA
          go_wp2_with (at_builtin; refine wpList_append_row rfl _ _ rfl (dn.length + 1) eltReq rfl rfl (Row.alloc Y0.out (.cells #[.int .i64 r.c, .int .i64 r.n, .int .i64 r.o, .int .i64 r.x, .int .i64 r.y] 34)) RA.out rfl rfl rfl (by simp only [maxLen]; omega) (by omega) (by simp <;> omega) ?_)
          intro b2 c2 w6 q6
          have aW6 := (q6.grown.block _ (by first | omega | (simp <;> omega)) (fun e => by have := HB0.out _ e.symm; omega)).trans ((Below.heap_alloc _ _ _ (by first | omega | (simp <;> omega))).trans ((Below.heap_setCell _ _ _ _ (by first | omega | (simp <;> omega))).trans aW))
          have bW6 := (q6.grown.block _ (by first | omega | (simp <;> omega)) (fun e => by have := HB0.out _ e.symm; omega)).trans ((Below.heap_alloc _ _ _ (by first | omega | (simp <;> omega))).trans ((Below.heap_setCell _ _ _ _ (by first | omega | (simp <;> omega))).trans bW))
          have cW6 := (q6.grown.block _ (by first | omega | (simp <;> omega)) (fun e => by have := HB0.out _ e.symm; omega)).trans ((Below.heap_alloc _ _ _ (by first | omega | (simp <;> omega))).trans ((Below.heap_setCell _ _ _ _ (by first | omega | (simp <;> omega))).trans cW))
          have dW6 := (q6.grown.block _ (by first | omega | (simp <;> omega)) (fun e => by have := HB0.out _ e.symm; omega)).trans ((Below.heap_alloc _ _ _ (by first | omega | (simp <;> omega))).trans (block_setCell (i := 2) dW (.int .i64 (bk + 1))))
          have s6 := q6.grown.size
          simp only [World.size_alloc, World.size_setCell] at s6
          have K6 := Lib.hid ((Below.alloc (K4.setCell (p := ⟨w2.heap.size, 2, none⟩) (by first | omega | (simp <;> omega)) (.int .i64 (bk + 1))) (by first | omega | (simp <;> omega)) (.cells #[.int .i64 r.c, .int .i64 r.n, .int .i64 r.o, .int .i64 r.x, .int .i64 r.y] 34)).grown q6.grown (by first | omega | (simp <;> omega)) (fun g hg => by have := HB0.out g hg; omega))
          have P16 := Lib.hid ((Y1.out.alloc (.cells #[.int .i64 r.c, .int .i64 r.n, .int .i64 r.o, .int .i64 r.x, .int .i64 r.y] 34)).kept q6.grown (fun g hg e => AP.out g e hg))
          have hl6 : (dn ++ [r]).length = dn.length + 1 := by simp
          have i6 := q6.row.sl' five_len hl6
          have I6 := Lib.hid i6
          have HL6 := Lib.hid hl6
          clear i6 hl6 q6 Y0 Y1 RA hR0 hR1 HY sY oY kY dY
          clear caW faW laW cbW fbW lbW ccW fcW lcW cdW fdW ldW
          clear aW bW cW dW
          have aW := aW6
          have bW := bW6
          have cW := cW6
          have dW : w6.heap[w2.heap.size]? = some (.cells #[.slice b0 dn.length dn.length, .slice b1 wt.length wt.length, .int .i64 (bk + 1)] 30 (0, 0)) := dW6
          clear aW6 bW6 cW6 dW6
          have caW := cell_of_block aW
          have faW := unfrozen_of_block aW
          have laW := lt_of_block aW
          have cbW := cell_of_block bW
          have fbW := unfrozen_of_block bW
          have lbW := lt_of_block bW
          have ccW := cell_of_block cW
          have fcW := unfrozen_of_block cW
          have lcW := lt_of_block cW
          have cdW := cell_of_block dW
          have fdW := unfrozen_of_block dW
          have ldW := lt_of_block dW
          go_wp2_with fail
          refine (cloneReq_c b2 (dn.length + 1) c2 (dn ++ [r]) w6 I6.out (by omega)).mono ?_
          rintro e w7 ⟨b3, rfl, r3, k7⟩
          have s7 := k7.size
          have K7 := Lib.hid (below_next K6.out k7)
          have P17 := Lib.hid (P16.out.below k7)
          have ap3 := Lib.hid (r3.apart P16.out (Nat.le_refl _))
          have R3 := Lib.hid r3
          clear caW faW laW cbW fbW lbW ccW fcW lcW cdW fdW ldW
          replace aW := carryB k7 (by omega) aW
          replace bW := carryB k7 (by omega) bW
          replace cW := carryB k7 (by omega) cW
          replace dW := carryB k7 (by omega) dW
          clear k7 r3
          have caW := cell_of_block aW
          have faW := unfrozen_of_block aW
          have laW := lt_of_block aW
          have cbW := cell_of_block bW
          have fbW := unfrozen_of_block bW
          have lbW := lt_of_block bW
          have ccW := cell_of_block cW
          have fcW := unfrozen_of_block cW
          have lcW := lt_of_block cW
          have cdW := cell_of_block dW
          have fdW := unfrozen_of_block dW
          have ldW := lt_of_block dW
          go_wp2_with fail
          obtain ⟨Z, hZ, sZ, dZ, oZ, kZ⟩ := stored1 w7 w2.heap.size 0 (.slice b3 (dn.length + 1) (dn.length + 1)) dW
          rw [← hZ]
          have P1Z := Lib.hid (show Row Z w1.heap.size 34 b1 wt.length 5 Rq.cs wt by rw [hZ]; exact P17.out.setNe (fun g hg => by have := (HB1.out g hg).2; simp only; omega) _)
          have R3Z := Lib.hid (show Row Z w6.heap.size 34 b3 (dn.length + 1) 5 Rq.cs (dn ++ [r]) by rw [hZ]; exact R3.out.setOther (by simp <;> omega) _)
          replace aW := (oZ _ (by omega)).trans aW
          replace bW := (oZ _ (by omega)).trans bW
          replace cW := (oZ _ (by omega)).trans cW
          replace dW : Z.heap[w2.heap.size]? = some (.cells #[.slice b3 (dn.length + 1) (dn.length + 1), .slice b1 wt.length wt.length, .int .i64 (bk + 1)] 30 (0, 0)) := dZ
          have KZ := Lib.hid (K7.out.trans (kZ.mono (by omega)))
          clear caW faW laW cbW fbW lbW ccW fcW lcW cdW fdW ldW
          clear hZ oZ kZ dZ
          refine (slDeleteReq_c (i := k) Z P1Z.out rfl hk (by omega)).mono ?_
          rintro e w8 ⟨rfl, r8, t8⟩
          replace aW := (t8.block _ (by omega) (fun e => by have := HB1.out _ e.symm; omega)).trans aW
          replace bW := (t8.block _ (by omega) (fun e => by have := HB1.out _ e.symm; omega)).trans bW
          replace cW := (t8.block _ (by omega) (fun e => by have := HB1.out _ e.symm; omega)).trans cW
          replace dW := (t8.block _ (by omega) (fun e => by have := HB1.out _ e.symm; omega)).trans dW
          have s8 := t8.size
          have R38 := Lib.hid (R3Z.out.kept t8 (fun g hg e => by have := (R3Z.out.blk hg).1; have := HB1.out g e; omega))
          have K8 := Lib.hid (KZ.out.grown t8 (by omega) (fun g hg => by have := HB1.out g hg; omega))
          have hl8 : (wt.eraseIdx k).length = wt.length - 1 := by rw [List.length_eraseIdx, if_pos hk]
          have i8 := r8.sl' five_len hl8
          have I8 := Lib.hid i8
          have HL8 := Lib.hid hl8
          clear i8 hl8 r8 t8
          have caW := cell_of_block aW
          have faW := unfrozen_of_block aW
          have laW := lt_of_block aW
          have cbW := cell_of_block bW
          have fbW := unfrozen_of_block bW
          have lbW := lt_of_block bW
          have ccW := cell_of_block cW
          have fcW := unfrozen_of_block cW
          have lcW := lt_of_block cW
          have cdW := cell_of_block dW
          have fdW := unfrozen_of_block dW
          have ldW := lt_of_block dW
          go_wp2_with fail
          refine (cloneReq_c b1 (wt.length - 1) wt.length (wt.eraseIdx k) w8 I8.out (by omega)).mono ?_
          rintro e w9 ⟨b4, rfl, r4, k9⟩
          have s9 := k9.size
          have K9 := below_next K8.out k9
          have R39 := Lib.hid (R38.out.below k9)
          have ap4 := Lib.hid (r4.apart R38.out (Nat.le_refl _))
          have R4 := Lib.hid r4
          clear caW faW laW cbW fbW lbW ccW fcW lcW cdW fdW ldW
          replace aW := carryB k9 (by omega) aW
          replace bW := carryB k9 (by omega) bW
          replace cW := carryB k9 (by omega) cW
          replace dW := carryB k9 (by omega) dW
          clear k9 r4
          have caW := cell_of_block aW
          have faW := unfrozen_of_block aW
          have laW := lt_of_block aW
          have cbW := cell_of_block bW
          have fbW := unfrozen_of_block bW
          have lbW := lt_of_block bW
          have ccW := cell_of_block cW
          have fcW := unfrozen_of_block cW
          have lcW := lt_of_block cW
          have cdW := cell_of_block dW
          have fdW := unfrozen_of_block dW
          have ldW := lt_of_block dW
          go_wp2_with fail
          refine bodyPost_ret (v := .tuple #[.agg #[.slice b3 (dn.length + 1) (dn.length + 1), .slice b4 (wt.length - 1) (wt.length - 1), .int .i64 (bk + 1)], .bool true]) (by simp [results, Try.results24, go_sem, ccW]) rfl ?_
          have hp := keepA_eq (wt' := wt.eraseIdx k) (nb := (bk + 1)) hA hO HIX.out (by omega) (by rw [if_pos (by omega)]; rfl) (by rw [if_pos ⟨by omega, by omega⟩, if_pos (by omega)])
          rw [hp]
          unfold RetA
          simp only [HL6.out, HL8.out]
          refine ⟨b3, b4, rfl, ?_, ?_, ap4.out, (by repeat' (first | with_reducible exact Below.refl _ _ | with_reducible assumption | with_reducible refine Below.alloc ?_ ?_ _ | with_reducible refine Below.drew ?_ | with_reducible refine Below.setCell ?_ ?_ _ | omega | (simp; omega) | (simp; done)))⟩
          · exact ((((R39.out.setOther (by first | omega | (simp <;> omega)) _).setOther (by first | omega | (simp <;> omega)) _).setOther (by first | omega | (simp <;> omega)) _).setOther (by first | omega | (simp <;> omega)) _).low (by omega)
          · exact ((((R4.out.setOther (by first | omega | (simp <;> omega)) _).setOther (by first | omega | (simp <;> omega)) _).setOther (by first | omega | (simp <;> omega)) _).setOther (by first | omega | (simp <;> omega)) _).low (by omega)
        · subst h97
          have hR0 := Lib.hid (P0.out)
          have hR1 := Lib.hid (P1.out)
          obtain ⟨Y, hY, sY, dY, oY, kY⟩ := stored1 w4 w2.heap.size 2 (.int .i64 99) dW
          have Y0 := Lib.hid (Row.setNe (p := ⟨w2.heap.size, 2, none⟩) hR0.out (fun g hg => by have := (HB0.out g hg).2; simp only; omega) (.int .i64 99))
          have Y1 := Lib.hid (Row.setNe (p := ⟨w2.heap.size, 2, none⟩) hR1.out (fun g hg => by have := (HB1.out g hg).2; simp only; omega) (.int .i64 99))
          have HY := Lib.hid hY
          clear hY
          have hRA := rowsAt_one (w4.setCell ⟨w2.heap.size, 2, none⟩ (.int .i64 99)) r 34
          rw [show (w4.setCell ⟨w2.heap.size, 2, none⟩ (.int .i64 99)).heap.size = w4.heap.size by simp] at hRA
          have RA := Lib.hid hRA
          clear hRA
          go_wp2_with (at_builtin; refine wpList_append_row rfl _ _ rfl (dn.length + 1) eltReq rfl rfl (Row.alloc Y0.out (.cells #[.int .i64 r.c, .int .i64 r.n, .int .i64 r.o, .int .i64 r.x, .int .i64 r.y] 34)) RA.out rfl rfl rfl (by simp only [maxLen]; omega) (by omega) (by simp <;> omega) ?_)
          intro b2 c2 w6 q6
          have aW6 := (q6.grown.block _ (by first | omega | (simp <;> omega)) (fun e => by have := HB0.out _ e.symm; omega)).trans ((Below.heap_alloc _ _ _ (by first | omega | (simp <;> omega))).trans ((Below.heap_setCell _ _ _ _ (by first | omega | (simp <;> omega))).trans aW))
          have bW6 := (q6.grown.block _ (by first | omega | (simp <;> omega)) (fun e => by have := HB0.out _ e.symm; omega)).trans ((Below.heap_alloc _ _ _ (by first | omega | (simp <;> omega))).trans ((Below.heap_setCell _ _ _ _ (by first | omega | (simp <;> omega))).trans bW))
          have cW6 := (q6.grown.block _ (by first | omega | (simp <;> omega)) (fun e => by have := HB0.out _ e.symm; omega)).trans ((Below.heap_alloc _ _ _ (by first | omega | (simp <;> omega))).trans ((Below.heap_setCell _ _ _ _ (by first | omega | (simp <;> omega))).trans cW))
          have dW6 := (q6.grown.block _ (by first | omega | (simp <;> omega)) (fun e => by have := HB0.out _ e.symm; omega)).trans ((Below.heap_alloc _ _ _ (by first | omega | (simp <;> omega))).trans (block_setCell (i := 2) dW (.int .i64 99)))
          have s6 := q6.grown.size
          simp only [World.size_alloc, World.size_setCell] at s6
          have K6 := Lib.hid ((Below.alloc (K4.setCell (p := ⟨w2.heap.size, 2, none⟩) (by first | omega | (simp <;> omega)) (.int .i64 99)) (by first | omega | (simp <;> omega)) (.cells #[.int .i64 r.c, .int .i64 r.n, .int .i64 r.o, .int .i64 r.x, .int .i64 r.y] 34)).grown q6.grown (by first | omega | (simp <;> omega)) (fun g hg => by have := HB0.out g hg; omega))
          have P16 := Lib.hid ((Y1.out.alloc (.cells #[.int .i64 r.c, .int .i64 r.n, .int .i64 r.o, .int .i64 r.x, .int .i64 r.y] 34)).kept q6.grown (fun g hg e => AP.out g e hg))
          have hl6 : (dn ++ [r]).length = dn.length + 1 := by simp
          have i6 := q6.row.sl' five_len hl6
          have I6 := Lib.hid i6
          have HL6 := Lib.hid hl6
          clear i6 hl6 q6 Y0 Y1 RA hR0 hR1 HY sY oY kY dY
          clear caW faW laW cbW fbW lbW ccW fcW lcW cdW fdW ldW
          clear aW bW cW dW
          have aW := aW6
          have bW := bW6
          have cW := cW6
          have dW : w6.heap[w2.heap.size]? = some (.cells #[.slice b0 dn.length dn.length, .slice b1 wt.length wt.length, .int .i64 99] 30 (0, 0)) := dW6
          clear aW6 bW6 cW6 dW6
          have caW := cell_of_block aW
          have faW := unfrozen_of_block aW
          have laW := lt_of_block aW
          have cbW := cell_of_block bW
          have fbW := unfrozen_of_block bW
          have lbW := lt_of_block bW
          have ccW := cell_of_block cW
          have fcW := unfrozen_of_block cW
          have lcW := lt_of_block cW
          have cdW := cell_of_block dW
          have fdW := unfrozen_of_block dW
          have ldW := lt_of_block dW
          go_wp2_with fail
          refine (cloneReq_c b2 (dn.length + 1) c2 (dn ++ [r]) w6 I6.out (by omega)).mono ?_
          rintro e w7 ⟨b3, rfl, r3, k7⟩
          have s7 := k7.size
          have K7 := Lib.hid (below_next K6.out k7)
          have P17 := Lib.hid (P16.out.below k7)
          have ap3 := Lib.hid (r3.apart P16.out (Nat.le_refl _))
          have R3 := Lib.hid r3
          clear caW faW laW cbW fbW lbW ccW fcW lcW cdW fdW ldW
          replace aW := carryB k7 (by omega) aW
          replace bW := carryB k7 (by omega) bW
          replace cW := carryB k7 (by omega) cW
          replace dW := carryB k7 (by omega) dW
          clear k7 r3
          have caW := cell_of_block aW
          have faW := unfrozen_of_block aW
          have laW := lt_of_block aW
          have cbW := cell_of_block bW
          have fbW := unfrozen_of_block bW
          have lbW := lt_of_block bW
          have ccW := cell_of_block cW
          have fcW := unfrozen_of_block cW
          have lcW := lt_of_block cW
          have cdW := cell_of_block dW
          have fdW := unfrozen_of_block dW
          have ldW := lt_of_block dW
          go_wp2_with fail
          obtain ⟨Z, hZ, sZ, dZ, oZ, kZ⟩ := stored1 w7 w2.heap.size 0 (.slice b3 (dn.length + 1) (dn.length + 1)) dW
          rw [← hZ]
          have P1Z := Lib.hid (show Row Z w1.heap.size 34 b1 wt.length 5 Rq.cs wt by rw [hZ]; exact P17.out.setNe (fun g hg => by have := (HB1.out g hg).2; simp only; omega) _)
          have R3Z := Lib.hid (show Row Z w6.heap.size 34 b3 (dn.length + 1) 5 Rq.cs (dn ++ [r]) by rw [hZ]; exact R3.out.setOther (by simp <;> omega) _)
          replace aW := (oZ _ (by omega)).trans aW
          replace bW := (oZ _ (by omega)).trans bW
          replace cW := (oZ _ (by omega)).trans cW
          replace dW : Z.heap[w2.heap.size]? = some (.cells #[.slice b3 (dn.length + 1) (dn.length + 1), .slice b1 wt.length wt.length, .int .i64 99] 30 (0, 0)) := dZ
          have KZ := Lib.hid (K7.out.trans (kZ.mono (by omega)))
          clear caW faW laW cbW fbW lbW ccW fcW lcW cdW fdW ldW
          clear hZ oZ kZ dZ
          refine (slDeleteReq_c (i := k) Z P1Z.out rfl hk (by omega)).mono ?_
          rintro e w8 ⟨rfl, r8, t8⟩
          replace aW := (t8.block _ (by omega) (fun e => by have := HB1.out _ e.symm; omega)).trans aW
          replace bW := (t8.block _ (by omega) (fun e => by have := HB1.out _ e.symm; omega)).trans bW
          replace cW := (t8.block _ (by omega) (fun e => by have := HB1.out _ e.symm; omega)).trans cW
          replace dW := (t8.block _ (by omega) (fun e => by have := HB1.out _ e.symm; omega)).trans dW
          have s8 := t8.size
          have R38 := Lib.hid (R3Z.out.kept t8 (fun g hg e => by have := (R3Z.out.blk hg).1; have := HB1.out g e; omega))
          have K8 := Lib.hid (KZ.out.grown t8 (by omega) (fun g hg => by have := HB1.out g hg; omega))
          have hl8 : (wt.eraseIdx k).length = wt.length - 1 := by rw [List.length_eraseIdx, if_pos hk]
          have i8 := r8.sl' five_len hl8
          have I8 := Lib.hid i8
          have HL8 := Lib.hid hl8
          clear i8 hl8 r8 t8
          have caW := cell_of_block aW
          have faW := unfrozen_of_block aW
          have laW := lt_of_block aW
          have cbW := cell_of_block bW
          have fbW := unfrozen_of_block bW
          have lbW := lt_of_block bW
          have ccW := cell_of_block cW
          have fcW := unfrozen_of_block cW
          have lcW := lt_of_block cW
          have cdW := cell_of_block dW
          have fdW := unfrozen_of_block dW
          have ldW := lt_of_block dW
          go_wp2_with fail
          refine (cloneReq_c b1 (wt.length - 1) wt.length (wt.eraseIdx k) w8 I8.out (by omega)).mono ?_
          rintro e w9 ⟨b4, rfl, r4, k9⟩
          have s9 := k9.size
          have K9 := below_next K8.out k9
          have R39 := Lib.hid (R38.out.below k9)
          have ap4 := Lib.hid (r4.apart R38.out (Nat.le_refl _))
          have R4 := Lib.hid r4
          clear caW faW laW cbW fbW lbW ccW fcW lcW cdW fdW ldW
          replace aW := carryB k9 (by omega) aW
          replace bW := carryB k9 (by omega) bW
          replace cW := carryB k9 (by omega) cW
          replace dW := carryB k9 (by omega) dW
          clear k9 r4
          have caW := cell_of_block aW
          have faW := unfrozen_of_block aW
          have laW := lt_of_block aW
          have cbW := cell_of_block bW
          have fbW := unfrozen_of_block bW
          have lbW := lt_of_block bW
          have ccW := cell_of_block cW
          have fcW := unfrozen_of_block cW
          have lcW := lt_of_block cW
          have cdW := cell_of_block dW
          have fdW := unfrozen_of_block dW
          have ldW := lt_of_block dW
          go_wp2_with fail
          refine bodyPost_ret (v := .tuple #[.agg #[.slice b3 (dn.length + 1) (dn.length + 1), .slice b4 (wt.length - 1) (wt.length - 1), .int .i64 99], .bool true]) (by simp [results, Try.results24, go_sem, ccW]) rfl ?_
          have hp := keepA_eq (wt' := wt.eraseIdx k) (nb := 99) hA hO HIX.out (by omega) (by rw [if_pos (by omega)]; rfl) (by rw [if_pos ⟨by omega, by omega⟩]; rfl)
          rw [hp]
          unfold RetA
          simp only [HL6.out, HL8.out]
          refine ⟨b3, b4, rfl, ?_, ?_, ap4.out, (by repeat' (first | with_reducible exact Below.refl _ _ | with_reducible assumption | with_reducible refine Below.alloc ?_ ?_ _ | with_reducible refine Below.drew ?_ | with_reducible refine Below.setCell ?_ ?_ _ | omega | (simp; omega) | (simp; done)))⟩
          · exact ((((R39.out.setOther (by first | omega | (simp <;> omega)) _).setOther (by first | omega | (simp <;> omega)) _).setOther (by first | omega | (simp <;> omega)) _).setOther (by first | omega | (simp <;> omega)) _).low (by omega)
          · exact ((((R4.out.setOther (by first | omega | (simp <;> omega)) _).setOther (by first | omega | (simp <;> omega)) _).setOther (by first | omega | (simp <;> omega)) _).setOther (by first | omega | (simp <;> omega)) _).low (by omega)
        · subst h97
          have hR0 := Lib.hid (P0.out)
          have hR1 := Lib.hid (P1.out)
          obtain ⟨Y, hY, sY, dY, oY, kY⟩ := stored1 w4 w2.heap.size 2 (.int .i64 99) dW
          have Y0 := Lib.hid (Row.setNe (p := ⟨w2.heap.size, 2, none⟩) hR0.out (fun g hg => by have := (HB0.out g hg).2; simp only; omega) (.int .i64 99))
          have Y1 := Lib.hid (Row.setNe (p := ⟨w2.heap.size, 2, none⟩) hR1.out (fun g hg => by have := (HB1.out g hg).2; simp only; omega) (.int .i64 99))
          have HY := Lib.hid hY
          clear hY
          have hRA := rowsAt_one (w4.setCell ⟨w2.heap.size, 2, none⟩ (.int .i64 99)) r 34
          rw [show (w4.setCell ⟨w2.heap.size, 2, none⟩ (.int .i64 99)).heap.size = w4.heap.size by simp] at hRA
          have RA := Lib.hid hRA
          clear hRA
          go_wp2_with (at_builtin; refine wpList_append_row rfl _ _ rfl (dn.length + 1) eltReq rfl rfl (Row.alloc Y0.out (.cells #[.int .i64 r.c, .int .i64 r.n, .int .i64 r.o, .int .i64 r.x, .int .i64 r.y] 34)) RA.out rfl rfl rfl (by simp only [maxLen]; omega) (by omega) (by simp <;> omega) ?_)
          intro b2 c2 w6 q6
          have aW6 := (q6.grown.block _ (by first | omega | (simp <;> omega)) (fun e => by have := HB0.out _ e.symm; omega)).trans ((Below.heap_alloc _ _ _ (by first | omega | (simp <;> omega))).trans ((Below.heap_setCell _ _ _ _ (by first | omega | (simp <;> omega))).trans aW))
          have bW6 := (q6.grown.block _ (by first | omega | (simp <;> omega)) (fun e => by have := HB0.out _ e.symm; omega)).trans ((Below.heap_alloc _ _ _ (by first | omega | (simp <;> omega))).trans ((Below.heap_setCell _ _ _ _ (by first | omega | (simp <;> omega))).trans bW))
          have cW6 := (q6.grown.block _ (by first | omega | (simp <;> omega)) (fun e => by have := HB0.out _ e.symm; omega)).trans ((Below.heap_alloc _ _ _ (by first | omega | (simp <;> omega))).trans ((Below.heap_setCell _ _ _ _ (by first | omega | (simp <;> omega))).trans cW))
          have dW6 := (q6.grown.block _ (by first | omega | (simp <;> omega)) (fun e => by have := HB0.out _ e.symm; omega)).trans ((Below.heap_alloc _ _ _ (by first | omega | (simp <;> omega))).trans (block_setCell (i := 2) dW (.int .i64 99)))
          have s6 := q6.grown.size
          simp only [World.size_alloc, World.size_setCell] at s6
          have K6 := Lib.hid ((Below.alloc (K4.setCell (p := ⟨w2.heap.size, 2, none⟩) (by first | omega | (simp <;> omega)) (.int .i64 99)) (by first | omega | (simp <;> omega)) (.cells #[.int .i64 r.c, .int .i64 r.n, .int .i64 r.o, .int .i64 r.x, .int .i64 r.y] 34)).grown q6.grown (by first | omega | (simp <;> omega)) (fun g hg => by have := HB0.out g hg; omega))
          have P16 := Lib.hid ((Y1.out.alloc (.cells #[.int .i64 r.c, .int .i64 r.n, .int .i64 r.o, .int .i64 r.x, .int .i64 r.y] 34)).kept q6.grown (fun g hg e => AP.out g e hg))
          have hl6 : (dn ++ [r]).length = dn.length + 1 := by simp
          have i6 := q6.row.sl' five_len hl6
          have I6 := Lib.hid i6
          have HL6 := Lib.hid hl6
          clear i6 hl6 q6 Y0 Y1 RA hR0 hR1 HY sY oY kY dY
          clear caW faW laW cbW fbW lbW ccW fcW lcW cdW fdW ldW
          clear aW bW cW dW
          have aW := aW6
          have bW := bW6
          have cW := cW6
          have dW : w6.heap[w2.heap.size]? = some (.cells #[.slice b0 dn.length dn.length, .slice b1 wt.length wt.length, .int .i64 99] 30 (0, 0)) := dW6
          clear aW6 bW6 cW6 dW6
          have caW := cell_of_block aW
          have faW := unfrozen_of_block aW
          have laW := lt_of_block aW
          have cbW := cell_of_block bW
          have fbW := unfrozen_of_block bW
          have lbW := lt_of_block bW
          have ccW := cell_of_block cW
          have fcW := unfrozen_of_block cW
          have lcW := lt_of_block cW
          have cdW := cell_of_block dW
          have fdW := unfrozen_of_block dW
          have ldW := lt_of_block dW
          go_wp2_with fail
          refine (cloneReq_c b2 (dn.length + 1) c2 (dn ++ [r]) w6 I6.out (by omega)).mono ?_
          rintro e w7 ⟨b3, rfl, r3, k7⟩
          have s7 := k7.size
          have K7 := Lib.hid (below_next K6.out k7)
          have P17 := Lib.hid (P16.out.below k7)
          have ap3 := Lib.hid (r3.apart P16.out (Nat.le_refl _))
          have R3 := Lib.hid r3
          clear caW faW laW cbW fbW lbW ccW fcW lcW cdW fdW ldW
          replace aW := carryB k7 (by omega) aW
          replace bW := carryB k7 (by omega) bW
          replace cW := carryB k7 (by omega) cW
          replace dW := carryB k7 (by omega) dW
          clear k7 r3
          have caW := cell_of_block aW
          have faW := unfrozen_of_block aW
          have laW := lt_of_block aW
          have cbW := cell_of_block bW
          have fbW := unfrozen_of_block bW
          have lbW := lt_of_block bW
          have ccW := cell_of_block cW
          have fcW := unfrozen_of_block cW
          have lcW := lt_of_block cW
          have cdW := cell_of_block dW
          have fdW := unfrozen_of_block dW
          have ldW := lt_of_block dW
          go_wp2_with fail
          obtain ⟨Z, hZ, sZ, dZ, oZ, kZ⟩ := stored1 w7 w2.heap.size 0 (.slice b3 (dn.length + 1) (dn.length + 1)) dW
          rw [← hZ]
          have P1Z := Lib.hid (show Row Z w1.heap.size 34 b1 wt.length 5 Rq.cs wt by rw [hZ]; exact P17.out.setNe (fun g hg => by have := (HB1.out g hg).2; simp only; omega) _)
          have R3Z := Lib.hid (show Row Z w6.heap.size 34 b3 (dn.length + 1) 5 Rq.cs (dn ++ [r]) by rw [hZ]; exact R3.out.setOther (by simp <;> omega) _)
          replace aW := (oZ _ (by omega)).trans aW
          replace bW := (oZ _ (by omega)).trans bW
          replace cW := (oZ _ (by omega)).trans cW
          replace dW : Z.heap[w2.heap.size]? = some (.cells #[.slice b3 (dn.length + 1) (dn.length + 1), .slice b1 wt.length wt.length, .int .i64 99] 30 (0, 0)) := dZ
          have KZ := Lib.hid (K7.out.trans (kZ.mono (by omega)))
          clear caW faW laW cbW fbW lbW ccW fcW lcW cdW fdW ldW
          clear hZ oZ kZ dZ
          refine (slDeleteReq_c (i := k) Z P1Z.out rfl hk (by omega)).mono ?_
          rintro e w8 ⟨rfl, r8, t8⟩
          replace aW := (t8.block _ (by omega) (fun e => by have := HB1.out _ e.symm; omega)).trans aW
          replace bW := (t8.block _ (by omega) (fun e => by have := HB1.out _ e.symm; omega)).trans bW
          replace cW := (t8.block _ (by omega) (fun e => by have := HB1.out _ e.symm; omega)).trans cW
          replace dW := (t8.block _ (by omega) (fun e => by have := HB1.out _ e.symm; omega)).trans dW
          have s8 := t8.size
          have R38 := Lib.hid (R3Z.out.kept t8 (fun g hg e => by have := (R3Z.out.blk hg).1; have := HB1.out g e; omega))
          have K8 := Lib.hid (KZ.out.grown t8 (by omega) (fun g hg => by have := HB1.out g hg; omega))
          have hl8 : (wt.eraseIdx k).length = wt.length - 1 := by rw [List.length_eraseIdx, if_pos hk]
          have i8 := r8.sl' five_len hl8
          have I8 := Lib.hid i8
          have HL8 := Lib.hid hl8
          clear i8 hl8 r8 t8
          have caW := cell_of_block aW
          have faW := unfrozen_of_block aW
          have laW := lt_of_block aW
          have cbW := cell_of_block bW
          have fbW := unfrozen_of_block bW
          have lbW := lt_of_block bW
          have ccW := cell_of_block cW
          have fcW := unfrozen_of_block cW
          have lcW := lt_of_block cW
          have cdW := cell_of_block dW
          have fdW := unfrozen_of_block dW
          have ldW := lt_of_block dW
          go_wp2_with fail
          refine (cloneReq_c b1 (wt.length - 1) wt.length (wt.eraseIdx k) w8 I8.out (by omega)).mono ?_
          rintro e w9 ⟨b4, rfl, r4, k9⟩
          have s9 := k9.size
          have K9 := below_next K8.out k9
          have R39 := Lib.hid (R38.out.below k9)
          have ap4 := Lib.hid (r4.apart R38.out (Nat.le_refl _))
          have R4 := Lib.hid r4
          clear caW faW laW cbW fbW lbW ccW fcW lcW cdW fdW ldW
          replace aW := carryB k9 (by omega) aW
          replace bW := carryB k9 (by omega) bW
          replace cW := carryB k9 (by omega) cW
          replace dW := carryB k9 (by omega) dW
          clear k9 r4
          have caW := cell_of_block aW
          have faW := unfrozen_of_block aW
          have laW := lt_of_block aW
          have cbW := cell_of_block bW
          have fbW := unfrozen_of_block bW
          have lbW := lt_of_block bW
          have ccW := cell_of_block cW
          have fcW := unfrozen_of_block cW
          have lcW := lt_of_block cW
          have cdW := cell_of_block dW
          have fdW := unfrozen_of_block dW
          have ldW := lt_of_block dW
          go_wp2_with fail
          refine bodyPost_ret (v := .tuple #[.agg #[.slice b3 (dn.length + 1) (dn.length + 1), .slice b4 (wt.length - 1) (wt.length - 1), .int .i64 99], .bool true]) (by simp [results, Try.results24, go_sem, ccW]) rfl ?_
          have hp := keepA_eq (wt' := wt.eraseIdx k) (nb := 99) hA hO HIX.out (by omega) (by rw [if_pos (by omega)]; rfl) (by rw [if_pos ⟨by omega, by omega⟩]; rfl)
          rw [hp]
          unfold RetA
          simp only [HL6.out, HL8.out]
          refine ⟨b3, b4, rfl, ?_, ?_, ap4.out, (by repeat' (first | with_reducible exact Below.refl _ _ | with_reducible assumption | with_reducible refine Below.alloc ?_ ?_ _ | with_reducible refine Below.drew ?_ | with_reducible refine Below.setCell ?_ ?_ _ | omega | (simp; omega) | (simp; done)))⟩
          · exact ((((R39.out.setOther (by first | omega | (simp <;> omega)) _).setOther (by first | omega | (simp <;> omega)) _).setOther (by first | omega | (simp <;> omega)) _).setOther (by first | omega | (simp <;> omega)) _).low (by omega)
          · exact ((((R4.out.setOther (by first | omega | (simp <;> omega)) _).setOther (by first | omega | (simp <;> omega)) _).setOther (by first | omega | (simp <;> omega)) _).setOther (by first | omega | (simp <;> omega)) _).low (by omega)
end Go.Proofs.Ytofedboeggdkaaa

/-! What is done ahead, as plain functions of games; no program; no condition. -/
namespace Go.Proofs.Ytofedboeggdkaaa
open Go.RowKit

/-- AheadGame, AheadSure, AheadCodes. -/
def gameA (z : Ah) : Gm := if aheadB z then foldG newG (z.dn ++ z.wt) else emptyG
def sureA (z : Ah) : Gm := if aheadB z then foldG newG z.dn else emptyG
def codesA (z : Ah) : List Int := if aheadB z then codesG (foldG newG z.dn) z.wt else []

theorem aheadB_iff (z : Ah) : aheadB z = true ↔ z.dn.all good = true ∧ z.wt.all good = true ∧ z.dn.length + z.wt.length ≤ 60 ∧ 0 ≤ z.bk ∧ z.bk ≤ 99 := by
  unfold aheadB
  simp only [Bool.and_eq_true, inB_iff, decide_eq_true_eq]
  constructor
  · rintro ⟨⟨⟨a, b⟩, c⟩, d, e⟩; exact ⟨a, b, c, d, e⟩
  · rintro ⟨a, b, c, d, e⟩; exact ⟨⟨⟨a, b⟩, c⟩, d, e⟩
theorem ok_good {r : Rq} (h : okB r.c r.n r.o r.x r.y = true) : good r = true := by unfold good goodB; rw [h, Bool.or_true]
theorem all_snoc {rs : List Rq} {r : Rq} (h : rs.all good = true) (hr : good r = true) : (rs ++ [r]).all good = true := by
  rw [List.all_append, h]; simp [hr]

/-- An ask pushed ahead. -/
theorem pushA_yes {z : Ah} {r : Rq} (hz : aheadB z = true) (h : (pushA z r).2 = true) :
    pushA z r = (⟨z.dn, z.wt ++ [r], z.bk⟩, true) ∧ okB r.c r.n r.o r.x r.y = true ∧ aheadB ⟨z.dn, z.wt ++ [r], z.bk⟩ = true ∧ gameA ⟨z.dn, z.wt ++ [r], z.bk⟩ = (doG (gameA z) r).1 ∧ sureA ⟨z.dn, z.wt ++ [r], z.bk⟩ = sureA z ∧
      codesA ⟨z.dn, z.wt ++ [r], z.bk⟩ = codesA z ++ [(doG (gameA z) r).2] := by
  unfold pushA at h ⊢
  rw [if_pos hz] at h ⊢
  split at h
  · rename_i hc
    rw [if_pos hc]
    simp only [Bool.and_eq_true, Bool.not_eq_true', decide_eq_false_iff_not] at hc
    obtain ⟨hr, h60⟩ := hc
    have hz' := (aheadB_iff z).1 hz
    obtain ⟨a, b, c, d, e⟩ := hz'
    have hx : aheadB ⟨z.dn, z.wt ++ [r], z.bk⟩ = true := by
      rw [aheadB_iff]
      exact ⟨a, all_snoc b (ok_good hr), by simp only [List.length_append, List.length_cons, List.length_nil]; omega, d, e⟩
    refine ⟨rfl, hr, hx, ?_, ?_, ?_⟩
    · unfold gameA
      rw [if_pos hx, if_pos hz]
      show foldG newG (z.dn ++ (z.wt ++ [r])) = _
      rw [← List.append_assoc, foldG_snoc]
    · unfold sureA
      rw [if_pos hx, if_pos hz]
    · unfold codesA gameA
      rw [if_pos hx, if_pos hz, if_pos hz]
      show codesG (foldG newG z.dn) (z.wt ++ [r]) = _
      rw [codesG_snoc, foldG_append]
  · cases h
theorem pushA_no {z : Ah} {r : Rq} (hz : aheadB z = true) (h : (pushA z r).2 = false) : (pushA z r).1 = z := by
  unfold pushA at h ⊢
  rw [if_pos hz] at h ⊢
  split at h
  · cases h
  · rename_i hc
    rw [if_neg hc]

theorem idxI_head (r : Rq) (t : List Rq) : idxI (r :: t) r = 0 := idxI_some (k := 0) (by simp) rfl (fun j _ hj => absurd hj (Nat.not_lt_zero j))
theorem all_erase {rs : List Rq} (k : Nat) (h : rs.all good = true) : (rs.eraseIdx k).all good = true := by
  rw [List.all_eq_true] at h ⊢
  exact fun z hz => h z (List.mem_of_mem_eraseIdx hz)
/-- An ask kept. -/
theorem keepA_yes {z : Ah} {r : Rq} (hz : aheadB z = true) (h : (keepA z r).2 = true) :
    (keepA z r).1.dn = z.dn ++ [r] ∧ good r = true ∧ aheadB (keepA z r).1 = true ∧ sureA (keepA z r).1 = (doG (sureA z) r).1 ∧ z.bk ≤ (keepA z r).1.bk := by
  have hz' := (aheadB_iff z).1 hz
  obtain ⟨a, b, c, d, e⟩ := hz'
  unfold keepA at h ⊢
  rw [if_pos hz] at h ⊢
  split at h
  · rename_i hc
    rw [if_pos hc]
    simp only [Bool.and_eq_true, Bool.not_eq_true', Bool.and_eq_false_iff, decide_eq_false_iff_not] at hc
    obtain ⟨hr, h60⟩ := hc
    have hle : z.dn.length + 1 + (if 0 ≤ idxI z.wt r then z.wt.eraseIdx (idxI z.wt r).toNat else z.wt).length ≤ 60 := by
      rcases idxI_range z.wt r with hi | ⟨k, hi, hk⟩
      · rw [hi, if_neg (by omega)]; omega
      · rw [hi, if_pos (by omega), Int.toNat_natCast, List.length_eraseIdx_of_lt hk]; omega
    have hx : aheadB ⟨z.dn ++ [r], if 0 ≤ idxI z.wt r then z.wt.eraseIdx (idxI z.wt r).toNat else z.wt, if 0 < z.wt.length ∧ idxI z.wt r ≠ 0 then (if z.bk + 1 ≤ 99 then z.bk + 1 else 99) else z.bk⟩ = true := by
      rw [aheadB_iff]
      refine ⟨all_snoc a hr, ?_, by simp only [List.length_append, List.length_cons, List.length_nil]; omega, ?_, ?_⟩
      · dsimp only
        split
        · exact all_erase _ b
        · exact b
      · dsimp only
        split
        · split <;> omega
        · exact d
      · dsimp only
        split
        · split <;> omega
        · exact e
    refine ⟨rfl, hr, hx, ?_, ?_⟩
    · unfold sureA
      rw [if_pos hx, if_pos hz]
      exact foldG_snoc _ _ _
    · dsimp only
      split
      · split <;> omega
      · exact Int.le_refl _
  · cases h
theorem keepA_no {z : Ah} {r : Rq} (hz : aheadB z = true) (h : (keepA z r).2 = false) : (keepA z r).1 = z := by
  unfold keepA at h ⊢
  rw [if_pos hz] at h ⊢
  split at h
  · cases h
  · rename_i hc
    rw [if_neg hc]
/-- The first that was done ahead is kept: nothing looks another way. -/
theorem keepA_first {dn t : List Rq} {bk : Int} {r : Rq} (hz : aheadB ⟨dn, r :: t, bk⟩ = true) : keepA ⟨dn, r :: t, bk⟩ r = (⟨dn ++ [r], t, bk⟩, true) := by
  have hz' := (aheadB_iff _).1 hz
  have hr : good r = true := by
    have := hz'.2.1
    rw [List.all_cons, Bool.and_eq_true] at this
    exact this.1
  exact keepA_eq hz hr (idxI_head r t) (by omega) (by rw [if_pos (by omega)]; rfl) (by rw [if_neg (by simp)])
theorem keepA_first_ok {dn t : List Rq} {bk : Int} {r : Rq} (hz : aheadB ⟨dn, r :: t, bk⟩ = true) : aheadB ⟨dn ++ [r], t, bk⟩ = true ∧ gameA ⟨dn ++ [r], t, bk⟩ = gameA ⟨dn, r :: t, bk⟩ := by
  have hk := keepA_yes hz (r := r) (by rw [keepA_first hz])
  rw [keepA_first hz] at hk
  refine ⟨hk.2.2.1, ?_⟩
  unfold gameA
  rw [if_pos hk.2.2.1, if_pos hz]
  simp
/-- k of those that were done ahead are kept. -/
theorem kept_take {z : Ah} (hz : aheadB z = true) (k : Nat) (hk : k ≤ z.wt.length) : aheadB ⟨z.dn ++ z.wt.take k, z.wt.drop k, z.bk⟩ = true := by
  have hz' := (aheadB_iff z).1 hz
  obtain ⟨a, b, c, d, e⟩ := hz'
  rw [aheadB_iff]
  refine ⟨?_, all_dropG k b, ?_, d, e⟩
  · show (z.dn ++ z.wt.take k).all good = true
    rw [List.all_append, a, all_takeG k b]; rfl
  · simp only [List.length_append, List.length_take, List.length_drop]; omega
theorem kept_next {z : Ah} (hz : aheadB z = true) (k : Nat) (hk : k < z.wt.length) : keepA ⟨z.dn ++ z.wt.take k, z.wt.drop k, z.bk⟩ z.wt[k] = (⟨z.dn ++ z.wt.take (k + 1), z.wt.drop (k + 1), z.bk⟩, true) := by
  have h1 := kept_take hz k (Nat.le_of_lt hk)
  rw [List.drop_eq_getElem_cons hk] at h1 ⊢
  rw [keepA_first h1, List.take_succ_eq_append_getElem hk, List.append_assoc]
theorem kept_all {z : Ah} (hz : aheadB z = true) : sureA ⟨z.dn ++ z.wt.take z.wt.length, z.wt.drop z.wt.length, z.bk⟩ = gameA z := by
  have h1 := kept_take hz z.wt.length (Nat.le_refl _)
  unfold sureA gameA
  rw [if_pos h1, if_pos hz]
  simp
theorem gameA_gfold {z : Ah} (hz : aheadB z = true) : gameA z = gfold (z.dn ++ z.wt) := by
  have hz' := (aheadB_iff z).1 hz
  obtain ⟨a, b, c, d, e⟩ := hz'
  unfold gameA
  rw [if_pos hz, gfold_yes (by rw [List.length_append]; exact c) (by rw [List.all_append, a, b]; rfl)]
theorem sureA_gfold {z : Ah} (hz : aheadB z = true) : sureA z = gfold z.dn := by
  have hz' := (aheadB_iff z).1 hz
  obtain ⟨a, b, c, d, e⟩ := hz'
  unfold sureA
  rw [if_pos hz, gfold_yes (by omega) a]
theorem gameA_ok {z : Ah} (hz : aheadB z = true) : gameB (gameA z) = true := by
  have hz' := (aheadB_iff z).1 hz
  obtain ⟨a, b, c, d, e⟩ := hz'
  unfold gameA
  rw [if_pos hz]
  exact foldG_new_ok (by rw [List.all_append, a, b]; rfl)
theorem sureA_ok {z : Ah} (hz : aheadB z = true) : gameB (sureA z) = true := by
  have hz' := (aheadB_iff z).1 hz
  unfold sureA
  rw [if_pos hz]
  exact foldG_new_ok hz'.1
theorem codesA_first {z : Ah} (hz : aheadB z = true) (h : 0 < z.wt.length) : (codesA z).length = z.wt.length ∧ (codesA z)[0]? = some (doG (sureA z) z.wt[0]).2 := by
  unfold codesA sureA
  rw [if_pos hz, if_pos hz, codesG_length]
  refine ⟨rfl, ?_⟩
  rw [List.getElem?_eq_getElem (by rw [codesG_length]; exact h), codesG_get h]
  rfl
end Go.Proofs.Ytofedboeggdkaaa
