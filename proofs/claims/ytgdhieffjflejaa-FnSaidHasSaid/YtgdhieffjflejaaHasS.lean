/- Whether a letter was said, by the reference (l3Has, SaidHas); no condition. -/
import Derived.Test.YtgdhieffjflejaaSameM
set_option linter.unusedSimpArgs false
set_option linter.unusedVariables false
namespace Go.Proofs.Ytgdhieffjflejaa
open Go.RowKit Go.Joins

/-- Letters that lie in a world. -/
def IsMs (w : World) (v : Value) (ms : List Mg) : Prop := IsSl w v 11 Mg.cs ms ∧ ∀ m ∈ ms, m.ok w
theorem IsMs.below {w w' : World} {v : Value} {ms : List Mg} (h : IsMs w v ms) (b : Below w.heap.size w w') : IsMs w' v ms := ⟨h.1.below b, fun m hm => (h.2 m hm).below b⟩
theorem IsMg.below {w w' : World} {v : Value} {m : Mg} (h : IsMg w v m) (b : Below w.heap.size w w') : IsMg w' v m := ⟨h.1, h.2.below b⟩
theorem eleven_len (m : Mg) : m.cs.length = 11 := rfl
/-- Is it among them? -/
def hasM (ms : List Mg) (m : Mg) : Bool := ms.any fun x => decide (x.say = m.say)
theorem hasM_yes {ms : List Mg} {m : Mg} (k : Nat) (hk : k < ms.length) (h : ms[k].say = m.say) : hasM ms m = true := by
  unfold hasM
  rw [List.any_eq_true]
  exact ⟨ms[k], List.getElem_mem hk, decide_eq_true h⟩
theorem hasM_no {ms : List Mg} {m : Mg} (h : ∀ j (hj : j < ms.length), ms[j].say ≠ m.say) : hasM ms m = false := by
  unfold hasM
  rw [List.any_eq_false]
  intro x hx
  obtain ⟨j, hj, rfl⟩ := List.getElem_of_mem hx
  simpa using h j hj
theorem mg_at {w : World} {a : Option Addr} {ms : List Mg} (h : RowsAt w a 11 Mg.cs ms) (k : Nat) (hk : k < ms.length) :
    ∃ b off, a = some ⟨b, off, none⟩ ∧ b < w.heap.size ∧ ∀ wr, Below w.heap.size w wr → wr.cell? ⟨b, off + k * 11, none⟩ = some (.int .i64 ms[k].k) ∧ wr.cell? ⟨b, off + k * 11 + 1, none⟩ = some (.int .i64 ms[k].f) ∧ wr.cell? ⟨b, off + k * 11 + 2, none⟩ = some (.int .i64 ms[k].v) ∧ wr.cell? ⟨b, off + k * 11 + 3, none⟩ = some (.int .i64 ms[k].s) ∧
      wr.cell? ⟨b, off + k * 11 + 4, none⟩ = some (.int .i64 ms[k].r.c) ∧ wr.cell? ⟨b, off + k * 11 + 5, none⟩ = some (.int .i64 ms[k].r.n) ∧ wr.cell? ⟨b, off + k * 11 + 6, none⟩ = some (.int .i64 ms[k].r.o) ∧ wr.cell? ⟨b, off + k * 11 + 7, none⟩ = some (.int .i64 ms[k].r.x) ∧ wr.cell? ⟨b, off + k * 11 + 8, none⟩ = some (.int .i64 ms[k].r.y) ∧
      wr.cell? ⟨b, off + k * 11 + 9, none⟩ = some ms[k].vc ∧ wr.cell? ⟨b, off + k * 11 + 10, none⟩ = some ms[k].vv := by
  obtain ⟨b, off, rfl, hb, hc⟩ := h k hk
  refine ⟨b, off, rfl, hb, fun wr hbel => ?_⟩
  have g : ∀ j, j < 11 → wr.cell? ⟨b, off + k * 11 + j, none⟩ = ms[k].cs[j]? := fun j hj => (hbel.cell (p := ⟨b, _, none⟩) hb).trans (hc j hj)
  exact ⟨g 0 (by decide), g 1 (by decide), g 2 (by decide), g 3 (by decide), g 4 (by decide), g 5 (by decide), g 6 (by decide), g 7 (by decide), g 8 (by decide), g 9 (by decide), g 10 (by decide)⟩

set_option maxRecDepth 100000 in
set_option maxHeartbeats 2000000 in
theorem l3Has_c (va vb : Value) (ms : List Mg) (m : Mg) (w : World) (ha : IsMs w va ms) (hb : IsMg w vb m) :
    Calls Try.prog 35 #[va, vb] w fun e w' => e = .returned (.bool (hasM ms m)) ∧ Below w.heap.size w w' := by
  have HM := Lib.hid hb
  obtain ⟨rfl, ⟨am, cm, em, -⟩, ⟨bm, dm, fm, -⟩, -⟩ := hb
  simp only [Mg.cs, em, fm] at HM ⊢
  clear em fm
  obtain ⟨⟨a, cap, rfl, hlc, hm, hra⟩, hca⟩ := ha
  have HA := Lib.hid hra
  have CA := Lib.hid hca
  clear hra hca
  unfold maxLen at hm
  generalize hnn : ms.length = n at *
  go_enter Try.func35, Try.ntmps35
  go_wp2_with fail
  obtain ⟨W, hW, sW, aW, kW⟩ := blocks1 w (.cells #[.int .i64 m.k, .int .i64 m.f, .int .i64 m.v, .int .i64 m.s, .int .i64 m.r.c, .int .i64 m.r.n, .int .i64 m.r.o, .int .i64 m.r.x, .int .i64 m.r.y, .slice am m.cl.length cm, .slice bm m.vs.length dm] 34)
  rw [← hW]
  clear hW
  go_loopw [5] (fun i wr => ∃ k : Nat, k ≤ n ∧ i = .int .i64 k ∧ (∀ j (hj : j < ms.length), j < k → ms[j].say ≠ m.say) ∧ Below W.heap.size W wr) (fun i _ => n - (intOf i).toNat)
  case atStart => exact ⟨0, Nat.zero_le _, rfl, fun j _ hj => absurd hj (Nat.not_lt_zero j), Below.refl _ _⟩
  case round =>
    obtain ⟨k, hk, rfl, hal, hbW⟩ := hrel
    have AL := Lib.hid hal
    clear hal
    have hbel := below_next kW hbW
    by_cases hlt : k < n
    · have hka : k < ms.length := by omega
      have hk1 : (k : Int) < (n : Int) := by omega
      have hk0 : (0 : Int) ≤ (k : Int) := by omega
      obtain ⟨b0, o0, rfl, hl0, hc0⟩ := mg_at HA.out k hka
      obtain ⟨x0, x1, x2, x3, x4, x5, x6, x7, x8, x9, x10⟩ := hc0 wr hbel
      have SX := (CA.out ms[k] (List.getElem_mem hka)).below hbel
      have HY := Lib.hid (show ms[k].say = m.say → hasM ms m = true from hasM_yes k hka)
      have HN := Lib.hid (show ms[k].say ≠ m.say → ∀ j (hj : j < ms.length), j < k + 1 → ms[j].say ≠ m.say from fun h j hj hjk => by
        by_cases hj' : j < k
        · exact AL.out j hj hj'
        · obtain rfl : j = k := by omega
          exact h)
      clear hc0
      generalize ms[k] = x at *
      have HX := Lib.hid (show IsMg wr (.agg x.cs.toArray) x from ⟨rfl, SX⟩)
      obtain ⟨⟨ax, cx, ex, -⟩, ⟨bx, dx, fx, -⟩, -⟩ := SX
      rw [ex] at x9
      rw [fx] at x10
      simp only [Mg.cs, ex, fx] at HX
      clear ex fx
      have cS := quietC (w := wr) (fun V hV => l3Same_c _ _ x m V (HX.out.below hV) (HM.out.below (below_next hbel hV)))
      have e0 := cell_regrown x0
      have e1 := cell_regrown x1
      have e2 := cell_regrown x2
      have e3 := cell_regrown x3
      have e4 := cell_regrown x4
      have e5 := cell_regrown x5
      have e6 := cell_regrown x6
      have e7 := cell_regrown x7
      have e8 := cell_regrown x8
      have e9 := cell_regrown x9
      have e10 := cell_regrown x10
      have g0 := cellRe (carryB hbW (lt_of_block aW) aW)
      clear x0 x1 x2 x3 x4 x5 x6 x7 x8 x9 x10
      by_cases hS : x.say = m.say
      · have HX := Lib.hid (HY.out hS)
        rw [decide_eq_true hS] at cS
        clear hS HY HN
        go_wp2_with fail
        refine wp_region_quiet_below (by kernel_rfl) (by kernel_rfl) ?_
        repeat (go_big_quiet_step (with_reducible exact cS _ _))
        refine wpQuiet_nil ?_
        intro _ hw'
        obtain ⟨⟨dq, osq⟩, hw''⟩ := hw'
        subst hw''
        have KQ := below_next hbel (below_regrown wr dq osq)
        go_wp2_with fail
        go_ret
        exact ⟨ret_bool HX.out.symm, KQ⟩
      · have HX := Lib.hid (HN.out hS)
        rw [decide_eq_false hS] at cS
        clear hS HY HN
        go_wp2_with fail
        refine wp_region_quiet_below (by kernel_rfl) (by kernel_rfl) ?_
        repeat (go_big_quiet_step (with_reducible exact cS _ _))
        refine wpQuiet_nil ?_
        intro _ hw'
        obtain ⟨⟨dq, osq⟩, hw''⟩ := hw'
        subst hw''
        have KQ := below_next hbW (below_regrown wr dq osq)
        go_wp2_with fail
        refine ⟨⟨k + 1, by omega, by go_num, HX.out, KQ⟩, ?_⟩
        simp [intOf]; omega
    · have HX := Lib.hid (hasM_no (ms := ms) (m := m) fun j hj => AL.out j hj (by omega))
      go_wp2_with fail
      go_ret
      exact ⟨ret_bool HX.out.symm, hbel⟩

set_option maxRecDepth 100000 in
set_option maxHeartbeats 1000000 in
theorem sSaidHas_c (va vb : Value) (ms : List Mg) (m : Mg) (w : World) (ha : IsMs w va ms) (hb : IsMg w vb m) :
    Calls Try.prog 13 #[va, vb] w fun e w' => e = .returned (.bool (hasM ms m)) ∧ Below w.heap.size w w' := by
  have HA := Lib.hid ha
  have HM := Lib.hid hb
  obtain ⟨⟨a, cap, rfl, -⟩, -⟩ := ha
  obtain ⟨rfl, ⟨am, cm, em, -⟩, ⟨bm, dm, fm, -⟩, -⟩ := hb
  simp only [Mg.cs, em, fm] at HM ⊢
  clear em fm
  go_enter Try.func13, Try.ntmps13
  go_wp2_with fail
  obtain ⟨W, hW, sW, aW, kW⟩ := blocks1 w (.cells #[.int .i64 m.k, .int .i64 m.f, .int .i64 m.v, .int .i64 m.s, .int .i64 m.r.c, .int .i64 m.r.n, .int .i64 m.r.o, .int .i64 m.r.x, .int .i64 m.r.y, .slice am m.cl.length cm, .slice bm m.vs.length dm] 34)
  rw [← hW]
  clear hW
  refine (l3Has_c _ _ ms m W (HA.out.below kW) (HM.out.below kW)).mono ?_
  rintro e w1 ⟨rfl, k1⟩
  go_wp2_with fail
  go_ret
  exact ⟨rfl, below_next kW k1⟩
end Go.Proofs.Ytgdhieffjflejaa
