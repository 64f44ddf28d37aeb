/- Proofs by the reference, in part (l4Count): some answer; no condition. -/
import Derived.Test.YtgdhieffjflejaaL4A
set_option linter.unusedSimpArgs false
set_option linter.unusedVariables false
namespace Go.Proofs.Ytgdhieffjflejaa
open Go.RowKit Go.Joins
attribute [local go_sem ↓] eql_rq neq_rq

set_option maxRecDepth 100000 in
set_option maxHeartbeats 8000000 in
theorem l4Count_w (va : Value) (ms : List Mg) (kind : Int) (c : Cl) (w : World) (ha : IsMs w va ms) :
    Calls Try.prog 111 #[va, .int .i64 kind, .agg #[.int .i64 c.s, .int .i64 c.v, .int .i64 c.r.c, .int .i64 c.r.n, .int .i64 c.r.o, .int .i64 c.r.x, .int .i64 c.r.y]] w fun e w' => ∃ t : Int, e = .returned (.int .i64 t) ∧ Below w.heap.size w w' := by
  obtain ⟨⟨a, cap, rfl, hlc, hm, hra⟩, hca⟩ := ha
  have HA := Lib.hid hra
  have CA := Lib.hid hca
  clear hra hca
  unfold maxLen at hm
  generalize hnn : ms.length = n at *
  go_enter Try.func111, Try.ntmps111
  go_upto_region 1 with fail
  obtain ⟨W, hW_, sW, x, kW⟩ := blocks1 w (.cells #[.int .i64 c.s, .int .i64 c.v, .int .i64 c.r.c, .int .i64 c.r.n, .int .i64 c.r.o, .int .i64 c.r.x, .int .i64 c.r.y] 62)
  rw [← hW_]
  clear hW_
  go_wp2_with fail
  go_loopw [7, 8] (fun t i wr => ∃ (k : Nat) (y : Int), k ≤ 4 ∧ i = .int .i64 k ∧ t = .int .i64 y ∧ wr.heap[w.heap.size]? = some (.cells #[.int .i64 c.s, .int .i64 c.v, .int .i64 c.r.c, .int .i64 c.r.n, .int .i64 c.r.o, .int .i64 c.r.x, .int .i64 c.r.y] 62 (0, 0)) ∧ Below w.heap.size w wr) (fun _ i _ => 4 - (intOf i).toNat)
  case atStart => exact ⟨0, 0, by omega, rfl, rfl, x, kW⟩
  case round =>
    clear x kW sW
    obtain ⟨k, y, hk, rfl, rfl, x, hbel⟩ := hrel
    by_cases hlt : k < 4
    · have hk1 : (k : Int) < 4 := by omega
      have hk0 : (0 : Int) ≤ (k : Int) := by omega
      go_wp2_with fail
      go_loopw [9, 10] (fun f j wr => ∃ (m : Nat) (g : Bool), m ≤ n ∧ j = .int .i64 m ∧ f = .bool g ∧ wr.heap[w.heap.size]? = some (.cells #[.int .i64 c.s, .int .i64 c.v, .int .i64 c.r.c, .int .i64 c.r.n, .int .i64 c.r.o, .int .i64 c.r.x, .int .i64 c.r.y] 62 (0, 0)) ∧ Below w.heap.size w wr) (fun _ j _ => n - (intOf j).toNat)
      case atStart => exact ⟨0, false, Nat.zero_le _, rfl, rfl, x, hbel⟩
      case round =>
        clear x hbel
        obtain ⟨m, g, hm', rfl, rfl, x, hbel⟩ := hrel
        by_cases hmq : m < n
        · have hmx : m < ms.length := by omega
          have hm1 : (m : Int) < (n : Int) := by omega
          have hm0 : (0 : Int) ≤ (m : Int) := by omega
          obtain ⟨b1, o1, rfl, hl1, hd0⟩ := mg_at HA.out m hmx
          obtain ⟨x0, x1, x2, x3, x4, x5, x6, x7, x8, x9, x10⟩ := hd0 wr hbel
          have SX := (CA.out ms[m] (List.getElem_mem hmx)).below hbel
          clear hd0
          generalize ms[m] = u at *
          obtain ⟨⟨ax, cx, ex, -⟩, ⟨bx, dx, fx, -⟩, -⟩ := SX
          rw [ex] at x9
          rw [fx] at x10
          clear ex fx
          go_upto_region 10 with fail
          obtain ⟨V, hV, sV, v, kV⟩ := blocks1 wr (.cells #[.int .i64 u.k, .int .i64 u.f, .int .i64 u.v, .int .i64 u.s, .int .i64 u.r.c, .int .i64 u.r.n, .int .i64 u.r.o, .int .i64 u.r.x, .int .i64 u.r.y, .slice ax u.cl.length cx, .slice bx u.vs.length dx] 34)
          rw [← hV]
          clear hV x0 x1 x2 x3 x4 x5 x6 x7 x8 x9 x10
          replace x := carryB kV (lt_of_block x) x
          have KV := Lib.hid (below_next hbel kV)
          have X := Lib.hid x
          clear hbel kV sV
          have cx := cell_of_block x
          have fx := unfrozen_of_block x
          have lx := lt_of_block x
          have cv := cell_of_block v
          have fv := unfrozen_of_block v
          have lv := lt_of_block v
          go_wp2_with fail
          all_goals
            go_roundw
            case rel => exact ⟨m + 1, _, by omega, by go_num, rfl, X.out, KV.out⟩
            case measure => simp [intOf]; omega
        · have X := Lib.hid x
          have KB := Lib.hid hbel
          have cx := cell_of_block x
          have fx := unfrozen_of_block x
          have lx := lt_of_block x
          obtain ⟨q, hq⟩ : ∃ q, ((k : Int) != leadN c.v) = q := ⟨_, rfl⟩
          obtain ⟨q2, hq2⟩ : ∃ q, (kind != 3) = q := ⟨_, rfl⟩
          cases q <;> cases q2 <;>
          go_wp2_with (go_at_call 101; refine (l3Leader_c _ _).mono ?_; rintro e w' ⟨rfl, k'⟩; replace X := Lib.hid (carryB k' (lt_of_block X.out) X.out); replace KB := Lib.hid (below_next KB.out k'))
          all_goals
            go_roundw
            case rel => exact ⟨k + 1, _, by omega, by go_num, rfl, X.out, KB.out⟩
            case measure => simp [intOf]; omega
    · go_wp2_with fail
      go_ret
      exact ⟨y, rfl, hbel⟩
end Go.Proofs.Ytgdhieffjflejaa
