/- Proofs by the reference (l4Ready, l4Turn, l4Votes): some answer; condition: claims' places of at most 5. -/
import Derived.Test.YtgdhieffjflejaaL4D
set_option linter.unusedSimpArgs false
set_option linter.unusedVariables false
namespace Go.Proofs.Ytgdhieffjflejaa
open Go.RowKit Go.Joins

set_option maxRecDepth 100000 in
set_option maxHeartbeats 4000000 in
theorem l4Ready_w (va : Value) (ms : List Mg) (c : Cl) (w : World) (ha : IsMs w va ms) (hf : MsFit ms) :
    Calls Try.prog 116 #[va, .agg #[.int .i64 c.s, .int .i64 c.v, .int .i64 c.r.c, .int .i64 c.r.n, .int .i64 c.r.o, .int .i64 c.r.x, .int .i64 c.r.y]] w fun e w' => ∃ b, e = .returned (.bool b) ∧ Below w.heap.size w w' := by
  have HA := Lib.hid ha
  have HF := Lib.hid hf
  obtain ⟨⟨a, cap, rfl, hlc, hm, -⟩, -⟩ := ha
  clear hf
  go_enter Try.func116, Try.ntmps116
  go_wp2_with fail
  obtain ⟨W, hW_, sW, x, kW⟩ := blocks1 w (.cells #[.int .i64 c.s, .int .i64 c.v, .int .i64 c.r.c, .int .i64 c.r.n, .int .i64 c.r.o, .int .i64 c.r.x, .int .i64 c.r.y] 62)
  rw [← hW_]
  clear hW_
  refine (l4Offered_w _ ms c W (HA.out.below kW) HF.out).mono ?_
  rintro e w1 ⟨b, rfl, k1⟩
  have K1 := below_next kW k1
  replace x := carryB k1 (lt_of_block x) x
  clear k1 kW sW
  have cx := cell_of_block x
  have fx := unfrozen_of_block x
  have lx := lt_of_block x
  cases b with
  | false =>
    go_wp2_with fail
    go_ret
    exact ⟨_, rfl, K1⟩
  | true =>
    go_wp2_with fail
    refine (l4Count_w _ ms 3 c w1 (HA.out.below K1)).mono ?_
    rintro e w2 ⟨t, rfl, k2⟩
    have K2 := below_next K1 k2
    go_wp2_with fail
    go_ret
    exact ⟨_, rfl, K2⟩

/-- The letter that turns. -/
def turnM (f v : Int) (sl : Value) (cl : List Cl) : Mg := ⟨5, f, v, 0, ⟨0, 0, 0, 0, 0⟩, sl, .slice none 0 0, cl, []⟩
theorem turnM_is (w : World) (f v : Int) (a : Option Addr) (n c : Nat) (cl : List Cl) (h : IsSl w (.slice a n c) 7 Cl.cs cl) : IsMg w (.agg #[.int .i64 5, .int .i64 f, .int .i64 v, .int .i64 0, .int .i64 0, .int .i64 0, .int .i64 0, .int .i64 0, .int .i64 0, .slice a n c, .slice none 0 0]) (turnM f v (.slice a n c) cl) :=
  ⟨rfl, h, isSl_nil _ _ _ _ (Nat.zero_le _) _, fun z hz => nomatch hz⟩

set_option maxRecDepth 100000 in
set_option maxHeartbeats 4000000 in
theorem l4Turn_w (va : Value) (ms : List Mg) (view F : Int) (a : Option Addr) (n c : Nat) (cl : List Cl) (w : World) (ha : IsMs w va ms) (hf : MsFit ms) (hc : IsSl w (.slice a n c) 7 Cl.cs cl) :
    Calls Try.prog 113 #[va, .int .i64 view, .agg #[.int .i64 F, .slice a n c]] w fun e w' => ∃ b, e = .returned (.bool b) ∧ Below w.heap.size w w' := by
  have HA := Lib.hid ha
  have HF := Lib.hid hf
  have HC := Lib.hid hc
  obtain ⟨⟨am, capm, rfl, -⟩, -⟩ := ha
  obtain ⟨hn, hlc, hm, hr⟩ := hc.bounds
  have HR := Lib.hid hr
  clear hf hc hr
  unfold maxLen at hm
  go_enter Try.func113, Try.ntmps113
  go_wp2_with fail
  obtain ⟨W, hW_, sW, x, kW⟩ := blocks1 w (.cells #[.int .i64 F, .slice a n c] 65)
  rw [← hW_]
  clear hW_
  refine (l3Has_c _ _ ms (turnM F view (.slice a n c) cl) W (HA.out.below kW) (turnM_is W F view a n c cl (HC.out.below kW))).mono ?_
  rintro e w1 ⟨rfl, k1⟩
  have K1 := below_next kW k1
  replace x := carryB k1 (lt_of_block x) x
  clear k1 kW sW
  generalize hasM ms (turnM F view (.slice a n c) cl) = b
  cases b with
  | false =>
    go_wp2_with fail
    go_ret
    exact ⟨_, rfl, K1⟩
  | true =>
    go_wp2_with fail
    go_loopw [7] (fun i wr => ∃ k : Nat, k ≤ n ∧ i = .int .i64 k ∧ wr.heap[w.heap.size]? = some (.cells #[.int .i64 F, .slice a n c] 65 (0, 0)) ∧ Below w.heap.size w wr) (fun i _ => n - (intOf i).toNat)
    case atStart => exact ⟨0, Nat.zero_le _, rfl, x, K1⟩
    case round =>
      clear x K1
      obtain ⟨k, hk, rfl, x, hbel⟩ := hrel
      have X := Lib.hid x
      have cx := cell_of_block x
      have fx := unfrozen_of_block x
      have lx := lt_of_block x
      by_cases hlt : k < n
      · have hka : k < cl.length := by omega
        have hk1 : (k : Int) < (n : Int) := by omega
        have hk0 : (0 : Int) ≤ (k : Int) := by omega
        obtain ⟨b1, o1, rfl, hl1, hd0⟩ := seven_at HR.out k hka
        obtain ⟨d0, d1, d2, d3, d4, d5, d6⟩ := hd0 wr hbel
        clear hd0
        generalize cl[k] = u at *
        obtain ⟨q1, h1⟩ : ∃ q, decide (view ≤ u.v) = q := ⟨_, rfl⟩
        cases q1 with
        | true =>
          go_wp2_with fail
          go_ret
          exact ⟨_, rfl, hbel⟩
        | false =>
          go_wp2_with fail
          refine (l4Ready_w _ ms u wr (HA.out.below hbel) HF.out).mono ?_
          rintro e w2 ⟨b, rfl, k2⟩
          have KB := Lib.hid (below_next hbel k2)
          have XB := Lib.hid (carryB k2 (lt_of_block X.out) X.out)
          clear d0 d1 d2 d3 d4 d5 d6
          cases b with
          | false =>
            go_wp2_with fail
            go_ret
            exact ⟨_, rfl, KB.out⟩
          | true =>
            go_wp2_with fail
            go_roundw
            case rel => exact ⟨k + 1, by omega, by go_num, XB.out, KB.out⟩
            case measure => simp [intOf]; omega
      · go_wp2_with fail
        go_ret
        exact ⟨_, rfl, hbel⟩

set_option maxRecDepth 100000 in
set_option maxHeartbeats 4000000 in
theorem l4Votes_w (va vb : Value) (ms : List Mg) (view : Int) (vs : List Vx) (w : World) (ha : IsMs w va ms) (hf : MsFit ms) (hv : IsVs w vb vs) :
    Calls Try.prog 109 #[va, .int .i64 view, vb] w fun e w' => ∃ b, e = .returned (.bool b) ∧ Below w.heap.size w w' := by
  have HA := Lib.hid ha
  have HF := Lib.hid hf
  have HV := Lib.hid hv
  obtain ⟨⟨am, capm, rfl, -⟩, -⟩ := ha
  obtain ⟨⟨a, cap, rfl, hlc, hm, hr⟩, hca⟩ := hv
  have HR := Lib.hid hr
  have CA := Lib.hid hca
  clear hf hr hca
  unfold maxLen at hm
  generalize hnn : vs.length = n at *
  go_enter Try.func109, Try.ntmps109
  go_wp2_with fail
  go_loopw [7] (fun i wr => ∃ k : Nat, k ≤ n ∧ i = .int .i64 k ∧ Below w.heap.size w wr) (fun i _ => n - (intOf i).toNat)
  case atStart => exact ⟨0, Nat.zero_le _, rfl, Below.refl _ _⟩
  case round =>
    obtain ⟨k, hk, rfl, hbel⟩ := hrel
    by_cases hlt : k < n
    · have hka : k < vs.length := by omega
      have hk1 : (k : Int) < (n : Int) := by omega
      have hk0 : (0 : Int) ≤ (k : Int) := by omega
      obtain ⟨b0, o0, rfl, hl0, hc0⟩ := HR.out k hka
      have c0 : wr.cell? ⟨b0, o0 + k * 2, none⟩ = some (.int .i64 vs[k].f) := (hbel.cell (p := ⟨b0, _, none⟩) hl0).trans (hc0 0 (by decide))
      have c1 : wr.cell? ⟨b0, o0 + k * 2 + 1, none⟩ = some vs[k].sl := (hbel.cell (p := ⟨b0, _, none⟩) hl0).trans (hc0 1 (by decide))
      have SX := (CA.out vs[k] (List.getElem_mem hka)).below hbel
      clear hc0
      generalize vs[k] = z at *
      obtain ⟨F, sx, cx⟩ := z
      simp only at c0 c1 SX
      have HX := Lib.hid SX
      obtain ⟨ax, kx, hsx, -⟩ := SX
      subst hsx
      go_wp2_with fail
      refine (l4Turn_w _ ms view F ax cx.length kx cx wr (HA.out.below hbel) HF.out HX.out).mono ?_
      rintro e w2 ⟨b, rfl, k2⟩
      have KB := Lib.hid (below_next hbel k2)
      clear c0 c1 k2
      cases b with
      | false =>
        go_wp2_with fail
        go_ret
        exact ⟨_, rfl, KB.out⟩
      | true =>
        go_wp2_with fail
        go_roundw
        case rel => exact ⟨k + 1, by omega, by go_num, KB.out⟩
        case measure => simp [intOf]; omega
    · go_wp2_with fail
      refine (l3VotesOk_c _ vs _ (HV.out.below hbel)).mono ?_
      rintro e w2 ⟨rfl, k2⟩
      have KB := Lib.hid (below_next hbel k2)
      generalize votesOkB vs = b
      cases b <;> go_wp2_with fail
      all_goals
        go_ret
        exact ⟨_, rfl, KB.out⟩
end Go.Proofs.Ytgdhieffjflejaa
