/- Claims, votes, letters compared by the reference (l3SameClaims, l3SameVotes, l3Same); no condition. -/
import Derived.Test.YtgdhieffjflejaaOpenM
import Derived.Test.YtgdhieffjflejaaEql
import Derived.Test.YtgdhieffjflejaaBlocks
set_option linter.unusedSimpArgs false
set_option linter.unusedVariables false
namespace Go.Proofs.Ytgdhieffjflejaa
open Go.RowKit Go.Joins

def eqC (s v c n o x y s' v' c' n' o' x' y' : Int) : Bool := s == s' && v == v' && eqR c n o x y c' n' o' x' y'
theorem eqC_iff (a b : Cl) : eqC a.s a.v a.r.c a.r.n a.r.o a.r.x a.r.y b.s b.v b.r.c b.r.n b.r.o b.r.x b.r.y = true ↔ a = b := by
  unfold eqC
  simp only [Bool.and_eq_true, beq_iff_eq, eqR_iff]
  constructor
  · rintro ⟨⟨h1, h2⟩, h3⟩
    obtain ⟨s, v, r⟩ := a
    obtain ⟨s', v', r'⟩ := b
    simp only at h1 h2 h3
    rw [h1, h2, h3]
  · rintro rfl
    exact ⟨⟨rfl, rfl⟩, rfl⟩
set_option maxHeartbeats 2000000 in
theorem neq_cl (w : World) (s v c n o x y s' v' c' n' o' x' y' : Int) : (binOp .neq 62 (.agg #[.int .i64 s, .int .i64 v, .int .i64 c, .int .i64 n, .int .i64 o, .int .i64 x, .int .i64 y]) (.agg #[.int .i64 s', .int .i64 v', .int .i64 c', .int .i64 n', .int .i64 o', .int .i64 x', .int .i64 y'])).run Try.prog w = .ok (.bool (!eqC s v c n o x y s' v' c' n' o' x' y')) w := by
  go_simp
  by_cases ha : s = s' <;> by_cases hb : v = v' <;> by_cases h1 : c = c' <;> by_cases h2 : n = n' <;> by_cases h3 : o = o' <;> by_cases h4 : x = x' <;> by_cases h5 : y = y' <;> simp [eqC, eqR, ha, hb, h1, h2, h3, h4, h5]
attribute [local go_sem ↓] neq_cl

theorem list_ext_upto {α : Type} {xs ys : List α} (hl : xs.length = ys.length) (h : ∀ j, j < xs.length → xs[j]? = ys[j]?) : xs = ys :=
  List.ext_getElem? fun j => by
    by_cases hj : j < xs.length
    · exact h j hj
    · rw [List.getElem?_eq_none (by omega), List.getElem?_eq_none (by omega)]

set_option maxRecDepth 100000 in
set_option maxHeartbeats 1000000 in
theorem l3SameClaims_c (va vb : Value) (xs ys : List Cl) (w : World) (ha : IsSl w va 7 Cl.cs xs) (hb : IsSl w vb 7 Cl.cs ys) :
    Calls Try.prog 53 #[va, vb] w fun e w' => e = .returned (.bool (decide (xs = ys))) ∧ Below w.heap.size w w' := by
  obtain ⟨a, cap, rfl, hlc, hm, hra⟩ := ha
  obtain ⟨b, cap', rfl, hlc', hm', hrb⟩ := hb
  have HA := Lib.hid hra
  have HB := Lib.hid hrb
  clear hra hrb
  unfold maxLen at hm hm'
  by_cases hne : xs.length = ys.length
  · generalize hnn : xs.length = n at *
    have hnb : ys.length = n := hne.symm
    rw [hnb] at hlc' ⊢
    clear hne
    go_enter Try.func53, Try.ntmps53
    go_wp2_with fail
    go_loopw [5] (fun i wr => ∃ k : Nat, k ≤ n ∧ i = .int .i64 k ∧ (∀ j, j < k → xs[j]? = ys[j]?) ∧ Below w.heap.size w wr) (fun i _ => n - (intOf i).toNat)
    case atStart => exact ⟨0, Nat.zero_le _, rfl, fun j hj => absurd hj (Nat.not_lt_zero j), Below.refl _ _⟩
    case round =>
      obtain ⟨k, hk, rfl, hal, hbel⟩ := hrel
      have AL := Lib.hid hal
      clear hal
      by_cases hlt : k < n
      · have hka : k < xs.length := by omega
        have hkb : k < ys.length := by omega
        have hk1 : (k : Int) < (n : Int) := by omega
        have hk0 : (0 : Int) ≤ (k : Int) := by omega
        obtain ⟨b0, o0, rfl, hl0, hc0⟩ := HA.out k hka
        obtain ⟨b1, o1, rfl, hl1, hc1⟩ := HB.out k hkb
        have c0 : wr.cell? ⟨b0, o0 + k * 7, none⟩ = some (.int .i64 xs[k].s) := (hbel.cell (p := ⟨b0, _, none⟩) hl0).trans (hc0 0 (by decide))
        have c1 : wr.cell? ⟨b0, o0 + k * 7 + 1, none⟩ = some (.int .i64 xs[k].v) := (hbel.cell (p := ⟨b0, _, none⟩) hl0).trans (hc0 1 (by decide))
        have c2 : wr.cell? ⟨b0, o0 + k * 7 + 2, none⟩ = some (.int .i64 xs[k].r.c) := (hbel.cell (p := ⟨b0, _, none⟩) hl0).trans (hc0 2 (by decide))
        have c3 : wr.cell? ⟨b0, o0 + k * 7 + 3, none⟩ = some (.int .i64 xs[k].r.n) := (hbel.cell (p := ⟨b0, _, none⟩) hl0).trans (hc0 3 (by decide))
        have c4 : wr.cell? ⟨b0, o0 + k * 7 + 4, none⟩ = some (.int .i64 xs[k].r.o) := (hbel.cell (p := ⟨b0, _, none⟩) hl0).trans (hc0 4 (by decide))
        have c5 : wr.cell? ⟨b0, o0 + k * 7 + 5, none⟩ = some (.int .i64 xs[k].r.x) := (hbel.cell (p := ⟨b0, _, none⟩) hl0).trans (hc0 5 (by decide))
        have c6 : wr.cell? ⟨b0, o0 + k * 7 + 6, none⟩ = some (.int .i64 xs[k].r.y) := (hbel.cell (p := ⟨b0, _, none⟩) hl0).trans (hc0 6 (by decide))
        have d0 : wr.cell? ⟨b1, o1 + k * 7, none⟩ = some (.int .i64 ys[k].s) := (hbel.cell (p := ⟨b1, _, none⟩) hl1).trans (hc1 0 (by decide))
        have d1 : wr.cell? ⟨b1, o1 + k * 7 + 1, none⟩ = some (.int .i64 ys[k].v) := (hbel.cell (p := ⟨b1, _, none⟩) hl1).trans (hc1 1 (by decide))
        have d2 : wr.cell? ⟨b1, o1 + k * 7 + 2, none⟩ = some (.int .i64 ys[k].r.c) := (hbel.cell (p := ⟨b1, _, none⟩) hl1).trans (hc1 2 (by decide))
        have d3 : wr.cell? ⟨b1, o1 + k * 7 + 3, none⟩ = some (.int .i64 ys[k].r.n) := (hbel.cell (p := ⟨b1, _, none⟩) hl1).trans (hc1 3 (by decide))
        have d4 : wr.cell? ⟨b1, o1 + k * 7 + 4, none⟩ = some (.int .i64 ys[k].r.o) := (hbel.cell (p := ⟨b1, _, none⟩) hl1).trans (hc1 4 (by decide))
        have d5 : wr.cell? ⟨b1, o1 + k * 7 + 5, none⟩ = some (.int .i64 ys[k].r.x) := (hbel.cell (p := ⟨b1, _, none⟩) hl1).trans (hc1 5 (by decide))
        have d6 : wr.cell? ⟨b1, o1 + k * 7 + 6, none⟩ = some (.int .i64 ys[k].r.y) := (hbel.cell (p := ⟨b1, _, none⟩) hl1).trans (hc1 6 (by decide))
        clear hc0 hc1
        by_cases he : xs[k] = ys[k]
        · have HX := Lib.hid (show ∀ j, j < k + 1 → xs[j]? = ys[j]? from fun j hj => by
            by_cases hjk : j < k
            · exact AL.out j hjk
            · obtain rfl : j = k := by omega
              rw [List.getElem?_eq_getElem hka, List.getElem?_eq_getElem hkb, he])
          have HE := (eqC_iff xs[k] ys[k]).2 he
          clear he
          generalize xs[k] = x at *
          generalize ys[k] = y at *
          go_wp2_with fail
          go_region_with fail
          all_goals
            go_wp2_with fail
            refine ⟨⟨k + 1, by omega, by go_num, HX.out, by first | exact hbel | exact hbel.drew⟩, ?_⟩
            simp [intOf]; omega
        · have HX := Lib.hid (show decide (xs = ys) = false from decide_eq_false fun hab => he (by subst hab; rfl))
          have HE : eqC xs[k].s xs[k].v xs[k].r.c xs[k].r.n xs[k].r.o xs[k].r.x xs[k].r.y ys[k].s ys[k].v ys[k].r.c ys[k].r.n ys[k].r.o ys[k].r.x ys[k].r.y = false := by
            rw [← Bool.not_eq_true, eqC_iff]
            exact he
          clear he
          generalize xs[k] = x at *
          generalize ys[k] = y at *
          go_wp2_with fail
          go_region_with fail
          all_goals
            go_wp2_with fail
            go_ret
            exact ⟨ret_bool HX.out.symm, by first | exact hbel | exact hbel.drew⟩
      · have HX := Lib.hid (show decide (xs = ys) = true from decide_eq_true (list_ext_upto (by omega) (fun j hj => AL.out j (by omega))))
        go_wp2_with fail
        go_ret
        exact ⟨ret_bool HX.out.symm, hbel⟩
  · have hni : ¬ (xs.length : Int) = (ys.length : Int) := by omega
    have hnb : ((xs.length : Int) == (ys.length : Int)) = false := by simp; omega
    have HX := Lib.hid (show decide (xs = ys) = false from decide_eq_false fun h => hne (by rw [h]))
    go_enter Try.func53, Try.ntmps53
    go_wp2_with fail
    go_ret
    exact ⟨ret_bool HX.out.symm, Below.refl _ _⟩
end Go.Proofs.Ytgdhieffjflejaa
