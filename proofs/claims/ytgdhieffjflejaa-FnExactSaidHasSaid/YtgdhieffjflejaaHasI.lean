/- Whether a letter was said, by the program (SaidHas: slices.ContainsFunc with a closure); no condition. -/
import Derived.Test.YtgdhieffjflejaaHasS
import Derived.Test.YtgdhieffjflejaaMsgSame
set_option linter.unusedSimpArgs false
set_option linter.unusedVariables false
namespace Go.Proofs.Ytgdhieffjflejaa
open Go.RowKit Go.Joins

set_option maxRecDepth 100000 in
set_option maxHeartbeats 1000000 in
theorem saidFn_c (va : Value) (x m : Mg) (B : Nat) (w : World) (ha : IsMg w va x) (am bm : Option Addr) (cm dm : Nat) (hb : w.heap[B]? = some (.cells #[.int .i64 m.k, .int .i64 m.f, .int .i64 m.v, .int .i64 m.s, .int .i64 m.r.c, .int .i64 m.r.n, .int .i64 m.r.o, .int .i64 m.r.x, .int .i64 m.r.y, .slice am m.cl.length cm, .slice bm m.vs.length dm] 34 (0, 0)))
    (hm : IsMg w (.agg #[.int .i64 m.k, .int .i64 m.f, .int .i64 m.v, .int .i64 m.s, .int .i64 m.r.c, .int .i64 m.r.n, .int .i64 m.r.o, .int .i64 m.r.x, .int .i64 m.r.y, .slice am m.cl.length cm, .slice bm m.vs.length dm]) m) :
    Calls Try.prog 37 #[va, .pointer (some ⟨B, 0, none⟩)] w fun e w' => e = .returned (.bool (decide (x.say = m.say))) ∧ Below w.heap.size w w' := by
  have HX := Lib.hid ha
  have HM := Lib.hid hm
  obtain ⟨rfl, ⟨ax, cx, ex, -⟩, ⟨bx, dx, fx, -⟩, -⟩ := ha
  simp only [Mg.cs, ex, fx] at HX ⊢
  clear ex fx hm
  have hlB := lt_of_block hb
  have h0 := carryB ((Below.refl w.heap.size w).alloc (Nat.le_refl _) (.cells #[.int .i64 x.k, .int .i64 x.f, .int .i64 x.v, .int .i64 x.s, .int .i64 x.r.c, .int .i64 x.r.n, .int .i64 x.r.o, .int .i64 x.r.x, .int .i64 x.r.y, .slice ax x.cl.length cx, .slice bx x.vs.length dx] 34)) hlB hb
  have cB := cell_of_block h0
  go_enter Try.func37, Try.ntmps37
  go_wp2_with fail
  obtain ⟨W, hW, sW, aW, kW⟩ := blocks1 w (.cells #[.int .i64 x.k, .int .i64 x.f, .int .i64 x.v, .int .i64 x.s, .int .i64 x.r.c, .int .i64 x.r.n, .int .i64 x.r.o, .int .i64 x.r.x, .int .i64 x.r.y, .slice ax x.cl.length cx, .slice bx x.vs.length dx] 34)
  rw [← hW]
  clear hW
  refine (MsgSame_c _ _ x m W (HX.out.below kW) (HM.out.below kW)).mono ?_
  rintro e w1 ⟨rfl, k1⟩
  go_wp2_with fail
  go_ret
  exact ⟨rfl, below_next kW k1⟩

set_option maxRecDepth 100000 in
set_option maxHeartbeats 2000000 in
theorem slIndexFunc_c (va : Value) (ms : List Mg) (m : Mg) (B : Nat) (w : World) (ha : IsMs w va ms) (am bm : Option Addr) (cm dm : Nat) (hb : w.heap[B]? = some (.cells #[.int .i64 m.k, .int .i64 m.f, .int .i64 m.v, .int .i64 m.s, .int .i64 m.r.c, .int .i64 m.r.n, .int .i64 m.r.o, .int .i64 m.r.x, .int .i64 m.r.y, .slice am m.cl.length cm, .slice bm m.vs.length dm] 34 (0, 0)))
    (hm : IsMg w (.agg #[.int .i64 m.k, .int .i64 m.f, .int .i64 m.v, .int .i64 m.s, .int .i64 m.r.c, .int .i64 m.r.n, .int .i64 m.r.o, .int .i64 m.r.x, .int .i64 m.r.y, .slice am m.cl.length cm, .slice bm m.vs.length dm]) m) :
    Calls Try.prog 59 #[va, .func (.func 37) #[] #[.pointer (some ⟨B, 0, none⟩)]] w fun e w' => ∃ i : Int, e = .returned (.int .i64 i) ∧ decide (0 ≤ i) = hasM ms m ∧ Below w.heap.size w w' := by
  have HM := Lib.hid hm
  have HB := Lib.hid hb
  clear hm hb
  obtain ⟨⟨a, cap, rfl, hlc, hm, hra⟩, hca⟩ := ha
  have HA := Lib.hid hra
  have CA := Lib.hid hca
  clear hra hca
  unfold maxLen at hm
  generalize hnn : ms.length = n at *
  go_enter Try.func59, Try.ntmps59
  go_wp2_with fail
  go_loopw [8] (fun i wr => ∃ k : Nat, k ≤ n ∧ i = .int .i64 k ∧ (∀ j (hj : j < ms.length), j < k → ms[j].say ≠ m.say) ∧ Below w.heap.size w wr) (fun i _ => n - (intOf i).toNat)
  case atStart => exact ⟨0, Nat.zero_le _, rfl, fun j _ hj => absurd hj (Nat.not_lt_zero j), Below.refl _ _⟩
  case round =>
    obtain ⟨k, hk, rfl, hal, hbel⟩ := hrel
    have AL := Lib.hid hal
    clear hal
    by_cases hlt : k < n
    · have hka : k < ms.length := by omega
      have hk1 : (k : Int) < (n : Int) := by omega
      have hk0 : (0 : Int) ≤ (k : Int) := by omega
      obtain ⟨b0, o0, rfl, hl0, hc0⟩ := mg_at HA.out k hka
      obtain ⟨x0, x1, x2, x3, x4, x5, x6, x7, x8, x9, x10⟩ := hc0 wr hbel
      have SX := (CA.out ms[k] (List.getElem_mem hka)).below hbel
      have HY := Lib.hid (show ms[k].say = m.say → hasM ms m = true from hasM_yes k hka)
      have HN := Lib.hid (show ms[k].say ≠ m.say → ∀ j (hj : j < ms.length), j < k + 1 → ms[j].say ≠ m.say from fun h j hj hjk => by
        by_cases hj' : j < k
        · exact AL.out j hj hj'
        · obtain rfl : j = k := by omega
          exact h)
      clear hc0
      generalize ms[k] = x at *
      have HX := Lib.hid (show IsMg wr (.agg x.cs.toArray) x from ⟨rfl, SX⟩)
      obtain ⟨⟨ax, cx, ex, -⟩, ⟨bx, dx, fx, -⟩, -⟩ := SX
      rw [ex] at x9
      rw [fx] at x10
      simp only [Mg.cs, ex, fx] at HX
      clear ex fx
      have hBr := carryB hbel (lt_of_block HB.out) HB.out
      go_wp2_with fail
      refine (saidFn_c _ x m B wr HX.out am bm cm dm hBr (HM.out.below hbel)).mono ?_
      rintro e w1 ⟨rfl, k1⟩
      have hbel1 := below_next hbel k1
      clear x0 x1 x2 x3 x4 x5 x6 x7 x8 x9 x10 k1 hBr hbel
      by_cases hS : x.say = m.say
      · have HZ := Lib.hid (HY.out hS)
        rw [decide_eq_true hS]
        clear hS HY HN
        go_wp2_with fail
        go_ret
        exact ⟨k, rfl, by rw [HZ.out]; simp, hbel1⟩
      · have HZ := Lib.hid (HN.out hS)
        rw [decide_eq_false hS]
        clear hS HY HN
        go_wp2_with fail
        refine ⟨⟨k + 1, by omega, by go_num, HZ.out, hbel1⟩, ?_⟩
        simp [intOf]; omega
    · have HX := Lib.hid (hasM_no (ms := ms) (m := m) fun j hj => AL.out j hj (by omega))
      go_wp2_with fail
      go_ret
      exact ⟨-1, rfl, by rw [HX.out]; simp, hbel⟩

set_option maxRecDepth 100000 in
set_option maxHeartbeats 1000000 in
theorem slContainsFunc_c (va : Value) (ms : List Mg) (m : Mg) (B : Nat) (w : World) (ha : IsMs w va ms) (am bm : Option Addr) (cm dm : Nat) (hb : w.heap[B]? = some (.cells #[.int .i64 m.k, .int .i64 m.f, .int .i64 m.v, .int .i64 m.s, .int .i64 m.r.c, .int .i64 m.r.n, .int .i64 m.r.o, .int .i64 m.r.x, .int .i64 m.r.y, .slice am m.cl.length cm, .slice bm m.vs.length dm] 34 (0, 0)))
    (hm : IsMg w (.agg #[.int .i64 m.k, .int .i64 m.f, .int .i64 m.v, .int .i64 m.s, .int .i64 m.r.c, .int .i64 m.r.n, .int .i64 m.r.o, .int .i64 m.r.x, .int .i64 m.r.y, .slice am m.cl.length cm, .slice bm m.vs.length dm]) m) :
    Calls Try.prog 36 #[va, .func (.func 37) #[] #[.pointer (some ⟨B, 0, none⟩)]] w fun e w' => e = .returned (.bool (hasM ms m)) ∧ Below w.heap.size w w' := by
  have HM := Lib.hid hm
  have HB := Lib.hid hb
  have HA := Lib.hid ha
  clear hm hb
  obtain ⟨⟨a, cap, rfl, -⟩, -⟩ := ha
  go_enter Try.func36, Try.ntmps36
  go_wp2_with fail
  refine (slIndexFunc_c _ ms m B _ HA.out am bm cm dm HB.out HM.out).mono ?_
  rintro e w1 ⟨i, rfl, hi, k1⟩
  have HI := Lib.hid hi
  clear hi
  go_wp2_with fail
  go_ret
  exact ⟨ret_bool (by rw [← HI.out]), k1⟩

set_option maxRecDepth 100000 in
set_option maxHeartbeats 1000000 in
theorem SaidHas_c (va vb : Value) (ms : List Mg) (m : Mg) (w : World) (ha : IsMs w va ms) (hb : IsMg w vb m) :
    Calls Try.prog 15 #[va, vb] w fun e w' => e = .returned (.bool (hasM ms m)) ∧ Below w.heap.size w w' := by
  have HA := Lib.hid ha
  have HM := Lib.hid hb
  obtain ⟨⟨a, cap, rfl, -⟩, -⟩ := ha
  obtain ⟨rfl, ⟨am, cm, em, -⟩, ⟨bm, dm, fm, -⟩, -⟩ := hb
  simp only [Mg.cs, em, fm] at HM ⊢
  clear em fm
  go_enter Try.func15, Try.ntmps15
  go_wp2_with fail
  obtain ⟨W, hW, sW, aW, kW⟩ := blocks1 w (.cells #[.int .i64 m.k, .int .i64 m.f, .int .i64 m.v, .int .i64 m.s, .int .i64 m.r.c, .int .i64 m.r.n, .int .i64 m.r.o, .int .i64 m.r.x, .int .i64 m.r.y, .slice am m.cl.length cm, .slice bm m.vs.length dm] 34)
  rw [← hW]
  clear hW
  refine (slContainsFunc_c _ ms m w.heap.size W (HA.out.below kW) am bm cm dm aW (HM.out.below kW)).mono ?_
  rintro e w1 ⟨rfl, k1⟩
  go_wp2_with fail
  go_ret
  exact ⟨rfl, below_next kW k1⟩
end Go.Proofs.Ytgdhieffjflejaa
