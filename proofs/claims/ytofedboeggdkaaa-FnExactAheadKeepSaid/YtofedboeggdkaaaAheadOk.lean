/- Contracts of AheadOk and of its reference; the walk of FnExactAheadOk; no condition. -/
import Derived.Test.YtofedboeggdkaaaArgsA
import Derived.Test.YtofedboeggdkaaaAllOk
import Derived.Test.YtofedboeggdkaaaAt
import Derived.Test.YtofedboeggdkaaaPutReq
namespace Go.Proofs.Ytofedboeggdkaaa
open Go.RowKit Go.Joins

attribute [local go_sem ↓] eql_rq neq_rq

def aheadB (z : Ah) : Bool := z.dn.all good && z.wt.all good && decide (z.dn.length + z.wt.length ≤ 60) && inB z.bk 0 99

set_option maxHeartbeats 400000 in
theorem size_c (a0 a1 : Option Addr) (n0 n1 c0 c1 : Nat) (bk : Int) (w : World) (h0 : n0 ≤ c0) (m0 : c0 ≤ maxLen) (h1 : n1 ≤ c1) (m1 : c1 ≤ maxLen) (hs : n0 + n1 ≤ 9223372036854775807) :
    Calls Try.prog 67 #[.agg #[.slice a0 n0 c0, .slice a1 n1 c1, .int .i64 bk]] w fun e w' => e = .returned (.int .i64 (n0 + n1)) ∧ Below w.heap.size w w' := by
  unfold maxLen at m0 m1
  go_enter Try.func67, Try.ntmps67
  go_wp2_with fail
  go_ret
  exact ⟨rfl, (by repeat' (first | with_reducible exact Below.refl _ _ | with_reducible assumption | with_reducible refine Below.alloc ?_ ?_ _ | with_reducible refine Below.drew ?_ | with_reducible refine Below.setCell ?_ ?_ _ | omega | (simp; omega) | (simp; done)))⟩

set_option maxHeartbeats 1000000 in
theorem AheadOk_c (z : Ah) (a0 a1 : Option Addr) (c0 c1 : Nat) (w : World) (h0 : IsSl w (.slice a0 z.dn.length c0) 5 Rq.cs z.dn) (h1 : IsSl w (.slice a1 z.wt.length c1) 5 Rq.cs z.wt) (hs : z.dn.length + z.wt.length ≤ 1048576) :
    Calls Try.prog 27 #[.agg #[.slice a0 z.dn.length c0, .slice a1 z.wt.length c1, .int .i64 z.bk]] w fun e w' => e = .returned (.bool (aheadB z)) ∧ Below w.heap.size w w' := by
  obtain ⟨dn, wt, bk⟩ := z
  simp only [aheadB] at h0 h1 hs ⊢
  generalize hn0 : dn.length = n0 at *
  generalize hn1 : wt.length = n1 at *
  have L0 : n0 ≤ c0 ∧ c0 ≤ maxLen := by
    obtain ⟨_, _, e, hl, hm, _⟩ := h0
    simp only [Value.slice.injEq] at e
    omega
  have L1 : n1 ≤ c1 ∧ c1 ≤ maxLen := by
    obtain ⟨_, _, e, hl, hm, _⟩ := h1
    simp only [Value.slice.injEq] at e
    omega
  have H1 := Lib.hid h1
  have HL := Lib.hid (And.intro L0 L1)
  clear h1 L0 L1
  go_enter Try.func27, Try.ntmps27
  go_wp2_with fail
  obtain ⟨W, hW, sW, aW, kW⟩ := blocks1 w (.cells #[.slice a0 n0 c0, .slice a1 n1 c1, .int .i64 bk] 30)
  rw [← hW]
  clear hW
  refine (allOk_c a0 dn n0 c0 _ (h0.below kW) hn0).mono ?_
  rintro e w1 ⟨rfl, k1⟩
  have K1 := below_next kW k1
  have aW1 := carryB k1 (by omega) aW
  have hc1 := cell_of_block aW1
  have s1 := k1.size
  clear aW k1
  cases hd : dn.all good with
  | false =>
    go_wp2_with fail
    go_ret
    exact ⟨ret_bool (by rw [hd]; rfl), K1⟩
  | true =>
    go_wp2_with fail
    refine (allOk_c a1 wt n1 c1 _ (H1.out.below K1) hn1).mono ?_
    rintro e w2 ⟨rfl, k2⟩
    have K2 := below_next K1 k2
    have aW2 := carryB k2 (by omega) aW1
    have hc2 := cell_of_block aW2
    have s2 := k2.size
    clear aW1 hc1 k2
    cases hw : wt.all good with
    | false =>
      go_wp2_with fail
      go_ret
      exact ⟨ret_bool (by rw [hd, hw]; rfl), K2⟩
    | true =>
      go_wp2_with fail
      refine (size_c a0 a1 n0 n1 c0 c1 bk _ HL.out.1.1 HL.out.1.2 HL.out.2.1 HL.out.2.2 (by omega)).mono ?_
      rintro e w3 ⟨rfl, k3⟩
      have K3 := below_next K2 k3
      have hc3 := cell_of_block (carryB k3 (by omega) aW2)
      clear aW2 hc2 k3
      by_cases h60 : n0 + n1 ≤ 60
      · have h60' : (n0 : Int) + (n1 : Int) ≤ 60 := by omega
        go_wp2_with fail
        refine (in_c _ _ _ _).mono ?_
        rintro e w4 ⟨rfl, rfl⟩
        go_wp2_with fail
        go_ret
        exact ⟨ret_bool (by first | rfl | (rw [hd, hw]; simp [h60])), K3⟩
      · have h60' : ¬ (n0 : Int) + (n1 : Int) ≤ 60 := by omega
        go_wp2_with fail
        go_ret
        exact ⟨ret_bool (by first | rfl | (rw [hd, hw]; simp [h60])), K3⟩

theorem bad_both {dn wt : List Rq} {k : Nat} (h : k < (dn ++ wt).length) (hb : good (dn ++ wt)[k] = false) : (dn.all good && wt.all good) = false := by
  rw [← List.all_append, ← Bool.not_eq_true, List.all_eq_true]
  intro hh
  have := hh _ (List.getElem_mem h)
  rw [hb] at this
  cases this

/-- One ask of a list out of two. -/
theorem both_at {dn wt : List Rq} {k : Nat} (h : k < (dn ++ wt).length) : (∃ h' : k < dn.length, (dn ++ wt)[k] = dn[k]) ∨ (∃ h' : dn.length ≤ k, ∃ h'' : k - dn.length < wt.length, (dn ++ wt)[k] = wt[k - dn.length]) := by
  by_cases h' : k < dn.length
  · exact .inl ⟨h', List.getElem_append_left h'⟩
  · refine .inr ⟨by omega, by simp at h; omega, List.getElem_append_right (by omega)⟩

set_option maxRecDepth 100000 in
set_option maxHeartbeats 4000000 in
theorem l8Ok_c (z : Ah) (a0 a1 : Option Addr) (c0 c1 : Nat) (w : World) (h0 : IsSl w (.slice a0 z.dn.length c0) 5 Rq.cs z.dn) (h1 : IsSl w (.slice a1 z.wt.length c1) 5 Rq.cs z.wt) (hs : z.dn.length + z.wt.length ≤ 1048576) :
    Calls Try.prog 61 #[.agg #[.slice a0 z.dn.length c0, .slice a1 z.wt.length c1, .int .i64 z.bk]] w fun e w' => e = .returned (.bool (aheadB z)) ∧ Below w.heap.size w w' := by
  obtain ⟨dn, wt, bk⟩ := z
  simp only [aheadB] at h0 h1 hs ⊢
  obtain ⟨a', cap', e, hlc0, hm0, hr0⟩ := h0
  simp only [Value.slice.injEq] at e
  obtain ⟨rfl, -, rfl⟩ := e
  obtain ⟨a', cap', e, hlc1, hm1, hr1⟩ := h1
  simp only [Value.slice.injEq] at e
  obtain ⟨rfl, -, rfl⟩ := e
  have R0 := Lib.hid hr0
  have R1 := Lib.hid hr1
  clear hr0 hr1
  unfold maxLen at hm0 hm1
  generalize hn0 : dn.length = n0 at *
  generalize hn1 : wt.length = n1 at *
  go_enter Try.func61, Try.ntmps61
  go_wp2_with fail
  obtain ⟨W, hW, sW, aW, kW⟩ := blocks1 w (.cells #[.slice a0 n0 c0, .slice a1 n1 c1, .int .i64 bk] 30)
  rw [← hW]
  clear hW
  go_loopw [3] (fun i wr => ∃ k : Nat, k ≤ n0 + n1 ∧ i = .int .i64 k ∧ (∀ j (hj : j < (dn ++ wt).length), j < k → good (dn ++ wt)[j] = true) ∧ wr.heap[w.heap.size]? = some (.cells #[.slice a0 n0 c0, .slice a1 n1 c1, .int .i64 bk] 30 (0, 0)) ∧ Below w.heap.size w wr) (fun i _ => n0 + n1 - (intOf i).toNat)
  case atStart => exact ⟨0, Nat.zero_le _, rfl, fun j _ hj => absurd hj (Nat.not_lt_zero j), aW, kW⟩
  case round =>
    obtain ⟨k, hk, rfl, hall, hB, hbel⟩ := hrel
    have HA := Lib.hid hall
    have HB := Lib.hid hB
    have hlB := lt_of_block hB
    have hcB := cell_of_block hB
    clear hall hB aW kW
    by_cases hlt : k < n0 + n1
    · have hkz : k < (dn ++ wt).length := by simp; omega
      have hk1 : (k : Int) < (n0 : Int) + (n1 : Int) := by omega
      have hk0 : (0 : Int) ≤ (k : Int) := by omega
      rcases both_at hkz with ⟨hk', hz⟩ | ⟨hk', hk'', hz⟩
      · obtain ⟨b, off, rfl, hb, hcz⟩ := five_at R0.out k hk'
        obtain ⟨d0, d1, d2, d3, d4⟩ := hcz wr hbel
        have hb' := Nat.lt_of_lt_of_le hb hbel.size
        have hne : b ≠ wr.heap.size := by omega
        have hne' : w.heap.size ≠ wr.heap.size := by omega
        have hkn : (k : Int) < (n0 : Int) := by omega
        rw [← hz] at d0 d1 d2 d3 d4
        clear hz hcz
        generalize hzz : (dn ++ wt)[k] = z at d0 d1 d2 d3 d4
        have hzg : good (dn ++ wt)[k] = goodB z.c z.n z.o z.x z.y := by rw [hzz]; rfl
        have HZ := Lib.hid hzg
        clear hzg hzz
        go_wp2_with fail
        obtain ⟨X, hX, sX, aX, kX⟩ := blocks1 wr (.cells #[.int .i64 z.c, .int .i64 z.n, .int .i64 z.o, .int .i64 z.x, .int .i64 z.y] 34)
        rw [← hX]
        clear hX
        have oX := carryB kX hlB HB.out
        have KX := below_next hbel kX
        have lX : wr.heap.size < X.heap.size := by omega
        have lX' : w.heap.size < X.heap.size := by omega
        refine (l1Ok_c z.c z.n z.o z.x z.y _).mono ?_
        rintro e w1 ⟨rfl, k1⟩
        have s1 := k1.size
        have aX1 := carryB k1 lX aX
        have oX1 := carryB k1 lX' oX
        have hc1 := cell_of_block aX1
        have K1 := below_next KX k1
        clear aX oX k1 kX d0 d1 d2 d3 d4 hcB
        cases hg : okB z.c z.n z.o z.x z.y with
        | true =>
          go_wp2_with fail
          refine ⟨⟨k + 1, by omega, by go_num, fun j hj hjk => ?_, oX1, K1⟩, ?_⟩
          · by_cases hjk' : j = k
            · subst hjk'; rw [HZ.out, goodB, hg]; simp
            · exact HA.out j hj (by omega)
          · simp [intOf]; omega
        | false =>
          go_wp2_with fail
          refine (l1None_c z.c z.n z.o z.x z.y _).mono ?_
          rintro e w2 ⟨rfl, k2⟩
          have oX2 := carryB k2 (by omega) oX1
          have K2 := below_next K1 k2
          clear k2 hc1 aX1
          cases hh : noneB z.c z.n z.o z.x z.y with
          | true =>
            go_wp2_with fail
            refine ⟨⟨k + 1, by omega, by go_num, fun j hj hjk => ?_, oX2, K2⟩, ?_⟩
            · by_cases hjk' : j = k
              · subst hjk'; rw [HZ.out, goodB, show eqR z.c z.n z.o z.x z.y 0 0 0 0 0 = true from hh]; rfl
              · exact HA.out j hj (by omega)
            · simp [intOf]; omega
          | false =>
            go_wp2_with fail
            go_ret
            refine ⟨ret_bool ?_, K2⟩
            have hb2 := bad_both hkz (by rw [HZ.out, goodB, show eqR z.c z.n z.o z.x z.y 0 0 0 0 0 = false from hh, hg]; rfl)
            rw [hb2]
            rfl
      · obtain ⟨b, off, rfl, hb, hcz⟩ := five_at R1.out (k - dn.length) hk''
        obtain ⟨d0, d1, d2, d3, d4⟩ := hcz wr hbel
        have hb' := Nat.lt_of_lt_of_le hb hbel.size
        have hne : b ≠ wr.heap.size := by omega
        have hne' : w.heap.size ≠ wr.heap.size := by omega
        have hkn : ¬ (k : Int) < (n0 : Int) := by omega
        rw [← hz] at d0 d1 d2 d3 d4
        rw [hn0] at d0 d1 d2 d3 d4
        clear hz hcz
        generalize hzz : (dn ++ wt)[k] = z at d0 d1 d2 d3 d4
        have hzg : good (dn ++ wt)[k] = goodB z.c z.n z.o z.x z.y := by rw [hzz]; rfl
        have HZ := Lib.hid hzg
        clear hzg hzz
        obtain ⟨m, hm⟩ : ∃ m : Nat, k = n0 + m := ⟨k - n0, by omega⟩
        subst hm
        have hm1' : (m : Int) < (n1 : Int) := by omega
        rw [show n0 + m - n0 = m by omega] at d0 d1 d2 d3 d4
        go_wp2_with fail
        obtain ⟨X, hX, sX, aX, kX⟩ := blocks1 wr (.cells #[.int .i64 z.c, .int .i64 z.n, .int .i64 z.o, .int .i64 z.x, .int .i64 z.y] 34)
        rw [← hX]
        clear hX
        have oX := carryB kX hlB HB.out
        have KX := below_next hbel kX
        have lX : wr.heap.size < X.heap.size := by omega
        have lX' : w.heap.size < X.heap.size := by omega
        refine (l1Ok_c z.c z.n z.o z.x z.y _).mono ?_
        rintro e w1 ⟨rfl, k1⟩
        have s1 := k1.size
        have aX1 := carryB k1 lX aX
        have oX1 := carryB k1 lX' oX
        have hc1 := cell_of_block aX1
        have K1 := below_next KX k1
        clear aX oX k1 kX d0 d1 d2 d3 d4 hcB
        cases hg : okB z.c z.n z.o z.x z.y with
        | true =>
          go_wp2_with fail
          refine ⟨⟨n0 + m + 1, by omega, by go_num, fun j hj hjk => ?_, oX1, K1⟩, ?_⟩
          · by_cases hjk' : j = n0 + m
            · subst hjk'; rw [HZ.out, goodB, hg]; simp
            · exact HA.out j hj (by omega)
          · simp [intOf]; omega
        | false =>
          go_wp2_with fail
          refine (l1None_c z.c z.n z.o z.x z.y _).mono ?_
          rintro e w2 ⟨rfl, k2⟩
          have oX2 := carryB k2 (by omega) oX1
          have K2 := below_next K1 k2
          clear k2 hc1 aX1
          cases hh : noneB z.c z.n z.o z.x z.y with
          | true =>
            go_wp2_with fail
            refine ⟨⟨n0 + m + 1, by omega, by go_num, fun j hj hjk => ?_, oX2, K2⟩, ?_⟩
            · by_cases hjk' : j = n0 + m
              · subst hjk'; rw [HZ.out, goodB, show eqR z.c z.n z.o z.x z.y 0 0 0 0 0 = true from hh]; rfl
              · exact HA.out j hj (by omega)
            · simp [intOf]; omega
          | false =>
            go_wp2_with fail
            go_ret
            refine ⟨ret_bool ?_, K2⟩
            have hb2 := bad_both hkz (by rw [HZ.out, goodB, show eqR z.c z.n z.o z.x z.y 0 0 0 0 0 = false from hh, hg]; rfl)
            rw [hb2]
            rfl
    · have hkk : k = n0 + n1 := by omega
      have hall2 : (dn.all good && wt.all good) = true := by
        have h2 : (dn ++ wt).all good = true := by
          rw [List.all_eq_true]
          intro z hz
          obtain ⟨j, hj, rfl⟩ := List.getElem_of_mem hz
          exact HA.out j hj (by simp at hj; omega)
        rwa [List.all_append] at h2
      by_cases h60 : n0 + n1 ≤ 60
      · go_wp2_with fail
        refine (l1In_c _ _ _ _).mono ?_
        rintro e w4 ⟨rfl, rfl⟩
        go_wp2_with fail
        go_ret
        exact ⟨ret_bool (by first | rfl | (rw [hall2]; simp [h60])), hbel⟩
      · go_wp2_with fail
        go_ret
        exact ⟨ret_bool (by first | rfl | (rw [hall2]; simp [h60])), hbel⟩
end Go.Proofs.Ytofedboeggdkaaa
