/- Contracts of DrawReqLess, DrawLeader, Leader; the walks of FnReqLess and FnLeader; no condition. -/
import Derived.Test.YtoiacbdnbbnebaaDraw2
import Derived.Test.YtoiacbdnbbnebaaLess
import Derived.Test.YtoiacbdnbbnebaaBlocks
import Derived.Test.YtoiacbdnbbnebaaEql
namespace Go.Proofs.Ytoiacbdnbbnebaa
open Go.RowKit Go.Joins

def TwoReqs (w : World) (e : Ending) (w' : World) : Prop :=
  ∃ r s : Rq, e = .returned (.tuple #[.agg #[.int .i64 r.c, .int .i64 r.n, .int .i64 r.o, .int .i64 r.x, .int .i64 r.y], .agg #[.int .i64 s.c, .int .i64 s.n, .int .i64 s.o, .int .i64 s.x, .int .i64 s.y]]) ∧ Below w.heap.size w w'

set_option maxRecDepth 100000 in
set_option maxHeartbeats 2000000 in
theorem DrawReqLess_c (v : Value) (z : Bts) (w : World) (hz : IsBytes w v z) :
    Calls Try.prog 25 #[v] w (TwoReqs w) := by
  have HZ := Lib.hid hz
  clear hz
  go_enter Try.func25, Try.ntmps25
  go_wp2_with fail
  obtain ⟨W, hW, sW, aW, bW, kW⟩ := blocks2 w (.cells #[.int .i64 0, .int .i64 0, .int .i64 0, .int .i64 0, .int .i64 0] 33) (.cells #[.int .i64 0, .int .i64 0, .int .i64 0, .int .i64 0, .int .i64 0] 33)
  rw [← hW]
  clear hW
  have AW := Lib.hid aW
  have BW := Lib.hid bW
  have SW := Lib.hid sW
  clear aW bW sW
  refine (l20Open_c v z _ (HZ.out.below kW)).mono ?_
  rintro e w1 ⟨g, rfl, hg, r1, k1⟩
  have sW := SW.out
  have hl1 := r1.lt
  have AW1 := Lib.hid (carryB k1 (by omega) AW.out)
  have BW1 := Lib.hid (carryB k1 (by omega) BW.out)
  have hne0 : w.heap.size ≠ g := by omega
  have hne1 : w.heap.size + 1 ≠ g := by omega
  have hs1 : w.heap.size + 2 ≤ w1.heap.size := by have := k1.size; omega
  have hgw : w.heap.size ≤ g := by omega
  clear sW
  go_wp2_with fail
  refine (l20AnyReq_c _ g 0 r1 (by omega)).mono ?_
  rintro e w2 ⟨r, rfl, r2, k2⟩
  have AW2 := Lib.hid (carry k2 hne0 AW1.out)
  have BW2 := Lib.hid (carry k2 hne1 BW1.out)
  have hs2 : w.heap.size + 2 ≤ w2.heap.size := by have := k2.size; omega
  have hl2 := r2.lt
  go_wp2_with fail
  obtain ⟨X, hX, sX, aX, kX⟩ := blocks1 w2 (.cells #[.int .i64 r.c, .int .i64 r.n, .int .i64 r.o, .int .i64 r.x, .int .i64 r.y] 33)
  rw [← hX]
  clear hX
  have rX := r2.below (kX.mono (by omega))
  have AX := Lib.hid (carryB kX (by omega) AW2.out)
  have BX := Lib.hid (carryB kX (by omega) BW2.out)
  have CX := Lib.hid aX
  have hcX := cell_of_block aX
  clear aX
  have sX' : w2.heap.size < X.heap.size := by omega
  have hne2 : w2.heap.size ≠ g := by omega
  clear sX
  have hcXd : ∀ i, X.drew.cell? ⟨w2.heap.size, i, none⟩ = #[.int .i64 r.c, .int .i64 r.n, .int .i64 r.o, .int .i64 r.x, .int .i64 r.y][i]? := hcX
  have rXd : Rdr X.drew g (0 + 7) := rX
  have AXd := Lib.hid (show X.drew.heap[w.heap.size]? = _ from AX.out)
  have BXd := Lib.hid (show X.drew.heap[w.heap.size + 1]? = _ from BX.out)
  have sX'' : w2.heap.size < X.drew.heap.size := sX'
  have hw0 : w.heap.size ≠ w2.heap.size := by omega
  have hw1 : w.heap.size + 1 ≠ w2.heap.size := by omega
  go_region_held3 (fun w' => (∀ i, w'.cell? ⟨w2.heap.size, i, none⟩ = #[.int .i64 r.c, .int .i64 r.n, .int .i64 r.o, .int .i64 r.x, .int .i64 r.y][i]?))
    (first | with_reducible exact hcXd | with_reducible exact hcX3 | (intro i; go_simp))
    ((go_at_call 58; refine (l20AnyReq_c _ g (0 + 7) rXd (by omega)).mono ?_; rintro e w3 ⟨s, rfl, r3, k3⟩; have hcX3 : ∀ i, w3.cell? ⟨w2.heap.size, i, none⟩ = #[.int .i64 r.c, .int .i64 r.n, .int .i64 r.o, .int .i64 r.x, .int .i64 r.y][i]? := fun i => ((gcell k3).1 _ i sX'' hne2).trans (hcXd i); have hcA := cell_of_block (carry k3 hne0 AXd.out); have hfA := unfrozen_of_block (carry k3 hne0 AXd.out); have hcB := cell_of_block (carry k3 hne1 BXd.out); have hfB := unfrozen_of_block (carry k3 hne1 BXd.out)))
  all_goals go_wp2_with fail
  have KB : Below w.heap.size w w3 := bel_grown (below_next (bel_grown (below_next kW k1) k2 (by omega)) (below_next kX (Below.drew (Below.refl _ _)))) k3 (by omega)
  refine bodyPost_ret (v := .tuple #[.agg #[.int .i64 r.c, .int .i64 r.n, .int .i64 r.o, .int .i64 r.x, .int .i64 r.y], .agg #[.int .i64 s.c, .int .i64 s.n, .int .i64 s.o, .int .i64 s.x, .int .i64 s.y]]) (by simp [results, Try.results25, go_sem, hcA, hcB]) rfl ?_
  exact ⟨r, s, rfl, by repeat (first | with_reducible exact KB | with_reducible refine Below.setCell ?_ (by simp) _)⟩

theorem lessB_irrefl (r : Rq) : lessB r r = false := by simp [lessB]
theorem lessB_total {r s : Rq} (h : r ≠ s) : lessB r s = !lessB s r := by
  obtain ⟨c, n, o, x, y⟩ := r
  obtain ⟨c', n', o', x', y'⟩ := s
  simp only [lessB]
  by_cases h1 : c = c'
  · by_cases h2 : n = n'
    · by_cases h3 : o = o'
      · by_cases h4 : x = x'
        · have h5 : y ≠ y' := fun e => h (by rw [h1, h2, h3, h4, e])
          subst h1 h2 h3 h4
          simp
          by_cases h6 : y < y' <;> simp [h6] <;> omega
        · subst h1 h2 h3
          simp [h4, Ne.symm h4]
          by_cases h6 : x < x' <;> simp [h6] <;> omega
      · subst h1 h2
        simp [h3, Ne.symm h3]
        by_cases h6 : o < o' <;> simp [h6] <;> omega
    · subst h1
      simp [h2, Ne.symm h2]
      by_cases h6 : n < n' <;> simp [h6] <;> omega
  · simp [h1, Ne.symm h1]
    by_cases h6 : c < c' <;> simp [h6] <;> omega
theorem lessB_iff (r s : Rq) : lessB r s = true ↔ r.c < s.c ∨ r.c = s.c ∧ (r.n < s.n ∨ r.n = s.n ∧ (r.o < s.o ∨ r.o = s.o ∧ (r.x < s.x ∨ r.x = s.x ∧ r.y < s.y))) := by
  unfold lessB
  split
  · simp; omega
  · split
    · simp; omega
    · split
      · simp; omega
      · split
        · simp; omega
        · simp; omega
theorem lessB_trans {r s t : Rq} (h : lessB r s = true) (k : lessB s t = true) : lessB r t = true := by
  rw [lessB_iff] at *
  omega

attribute [local go_sem ↓] eql_rq neq_rq
set_option maxRecDepth 100000 in
set_option maxHeartbeats 400000 in
theorem fnReqLess.walk (v0 : Value) (z0 : Bts) (v1 : Value) (z1 : Bts) (w : World) (h0 : IsBytes w v0 z0) (h1 : IsBytes w v1 z1) :
    Calls Try.prog 9 #[v0, v1] w fun e w' => e = .returned (.bool true) ∧ Below w.heap.size w w' := by
  obtain ⟨a0, l0, c0⟩ := z0
  obtain ⟨a1, l1, c1⟩ := z1
  obtain ⟨rfl, hlc0, hm0, _⟩ := id h0
  obtain ⟨rfl, hlc1, hm1, _⟩ := id h1
  simp only at hlc0 hlc1 hm0 hm1
  unfold maxLen at hm0 hm1
  have H0 := Lib.hid h0
  have H1 := Lib.hid h1
  clear h0 h1
  by_cases hl0 : l0 ≤ 1048576
  · by_cases hl1 : l1 ≤ 1048576
    · go_enter Try.func9, Try.ntmps9
      go_wp2_with fail
      refine (DrawReqLess_c _ _ _ H0.out).mono ?_
      rintro e w1 ⟨r, s, rfl, k1⟩
      go_wp2_with fail
      obtain ⟨W, hW, sW, aW, bW, kW⟩ := blocks2 w1 (.cells #[.int .i64 r.c, .int .i64 r.n, .int .i64 r.o, .int .i64 r.x, .int .i64 r.y] 33) (.cells #[.int .i64 s.c, .int .i64 s.n, .int .i64 s.o, .int .i64 s.x, .int .i64 s.y] 33)
      rw [← hW]
      clear hW
      refine (DrawReqLess_c _ _ _ (H1.out.below (below_next k1 kW))).mono ?_
      rintro e w2 ⟨t, u, rfl, k2⟩
      have aX := carryB k2 (by omega) aW
      have bX := carryB k2 (by omega) bW
      have s2 : w1.heap.size + 2 ≤ w2.heap.size := by have := k2.size; omega
      have K2 := below_next (below_next k1 kW) k2
      have AX := Lib.hid aX
      have BX := Lib.hid bX
      clear aW bW aX bX k1 kW k2 sW
      have hcA := cell_of_block AX.out
      have hcB := cell_of_block BX.out
      have q3 : w1.heap.size < w2.heap.size := by omega
      have q4 : w1.heap.size + 1 < w2.heap.size := by omega
      go_wp2_with fail
      clear hcA hcB
      obtain ⟨X, hX, sX, cX, dX, kX⟩ := blocks2 w2 (.cells #[.int .i64 t.c, .int .i64 t.n, .int .i64 t.o, .int .i64 t.x, .int .i64 t.y] 33) (.cells #[.int .i64 u.c, .int .i64 u.n, .int .i64 u.o, .int .i64 u.x, .int .i64 u.y] 33)
      rw [← hX]
      clear hX
      have hcA := cell_of_block (carryB kX (by omega) AX.out)
      have hcB := cell_of_block (carryB kX (by omega) BX.out)
      have hcC := cell_of_block cX
      have hsz : w2.heap.size + 1 ≤ X.heap.size := by omega
      have q1 : w1.heap.size < w2.heap.size + 1 := by omega
      have q2 : w1.heap.size + 1 < w2.heap.size + 1 := by omega
      have KX := Lib.hid (below_next K2 kX)
      clear cX dX kX K2 sX
      have key : Hid ((r = s ∧ lessB r s = false ∧ lessB s r = false) ∨ (r ≠ s ∧ lessB r s = true ∧ lessB s r = false ∧ (lessB s t = true → lessB r t = true)) ∨ (r ≠ s ∧ lessB r s = false ∧ lessB s r = true)) := by
        by_cases h : r = s
        · subst h
          exact .inl ⟨rfl, lessB_irrefl r, lessB_irrefl r⟩
        · have := lessB_total h
          cases hb : lessB s r
          · exact .inr (.inl ⟨h, by rw [this, hb]; rfl, rfl, lessB_trans (by rw [this, hb]; rfl)⟩)
          · exact .inr (.inr ⟨h, by rw [this, hb]; rfl, rfl⟩)
      go_wp2_with fail
      refine (ReqLess_c r s _).mono ?_
      rintro e w3 ⟨rfl, k3⟩
      have hk := Kept.next hsz (Kept.refl (B := w2.heap.size + 1) X) k3
      clear k3
      go_wp2_with fail
      refine (sReqLess_c r s _).mono ?_
      rintro e w4 ⟨rfl, k4⟩
      replace hk := Kept.next hsz hk k4
      clear k4
      have hnn : (lessB r s != lessB r s) = false := by simp
      go_wp2_with fail
      refine (ReqLess_c s r _).mono ?_
      rintro e w5 ⟨rfl, k5⟩
      replace hk := Kept.next hsz hk k5
      clear k5
      rcases key.out with ⟨hrs, h1, h2⟩ | ⟨hrs, h1, h2, h3⟩ | ⟨hrs, h1, h2⟩
      · clear key
        rw [h1, h2]
        subst hrs
        have he := eqR_refl r.c r.n r.o r.x r.y
        go_wp2_with fail
        go_ret
        exact ⟨rfl, below_next KX.out hk.2⟩
      · clear key
        rw [h1, h2]
        have H3 := Lib.hid h3
        have HRS := Lib.hid hrs
        have he := eqR_ne hrs
        clear h1 h2 h3 hrs
        go_wp2_with fail
        all_goals
          refine (ReqLess_c s t _).mono ?_
          rintro e w6 ⟨rfl, k6⟩
          replace hk := Kept.next hsz hk k6
          clear k6
          by_cases hst : lessB s t = true
          · rw [hst]
            go_wp2_with fail
            refine (ReqLess_c r t _).mono ?_
            rintro e w7 ⟨rfl, k7⟩
            replace hk := Kept.next hsz hk k7
            clear k7
            rw [H3.out hst]
            go_wp2_with fail
            go_ret
            exact ⟨rfl, below_next KX.out hk.2⟩
          · rw [Bool.not_eq_true] at hst
            rw [hst]
            go_wp2_with fail
            go_ret
            exact ⟨rfl, below_next KX.out hk.2⟩
      · clear key
        rw [h1, h2]
        have HRS := Lib.hid hrs
        have he := eqR_ne hrs
        clear h1 h2 hrs
        go_wp2_with fail
        all_goals
          go_ret
          exact ⟨rfl, below_next KX.out hk.2⟩
    · go_enter Try.func9, Try.ntmps9
      go_wp2_with fail
      go_ret
      exact ⟨rfl, Below.refl _ _⟩
  · go_enter Try.func9, Try.ntmps9
    go_wp2_with fail
    go_ret
    exact ⟨rfl, Below.refl _ _⟩
end Go.Proofs.Ytoiacbdnbbnebaa
