/- Proofs by the reference, in part (l4Pick): some answer; no condition. -/
import Derived.Test.YtgdhieffjflejaaL4A
set_option linter.unusedSimpArgs false
set_option linter.unusedVariables false
namespace Go.Proofs.Ytgdhieffjflejaa
open Go.RowKit Go.Joins
attribute [local go_sem ↓] eql_rq neq_rq

set_option maxRecDepth 100000 in
set_option maxHeartbeats 4000000 in
theorem l4Pick_w (va : Value) (vs : List Vx) (s : Int) (w : World) (ha : IsVs w va vs) :
    Calls Try.prog 118 #[va, .int .i64 s] w fun e w' => ∃ r : Rq, e = .returned (.agg #[.int .i64 r.c, .int .i64 r.n, .int .i64 r.o, .int .i64 r.x, .int .i64 r.y]) ∧ Below w.heap.size w w' := by
  obtain ⟨⟨a, cap, rfl, hlc, hm, hra⟩, hca⟩ := ha
  have HA := Lib.hid hra
  have CA := Lib.hid hca
  clear hra hca
  unfold maxLen at hm
  generalize hnn : vs.length = n at *
  go_enter Try.func118, Try.ntmps118
  go_upto_region 4 with fail
  obtain ⟨W, hW_, sW, x, y, kW⟩ := blocks2 w (.cells #[.int .i64 0, .int .i64 0, .int .i64 0, .int .i64 0, .int .i64 0] 30) (.cells #[.int .i64 0, .int .i64 0, .int .i64 0, .int .i64 0, .int .i64 0] 30)
  rw [← hW_]
  clear hW_
  go_wp2_with fail
  go_loopw [5, 6, 8] (fun t f i wr => ∃ (k : Nat) (b : Int) (g : Bool) (r : Rq), k ≤ n ∧ i = .int .i64 k ∧ t = .int .i64 b ∧ f = .bool g ∧ wr.heap[w.heap.size]? = some (.cells #[.int .i64 0, .int .i64 0, .int .i64 0, .int .i64 0, .int .i64 0] 30 (0, 0)) ∧ wr.heap[w.heap.size + 1]? = some (.cells #[.int .i64 r.c, .int .i64 r.n, .int .i64 r.o, .int .i64 r.x, .int .i64 r.y] 30 (0, 0)) ∧ Below w.heap.size w wr) (fun _ _ i _ => n - (intOf i).toNat)
  case atStart => exact ⟨0, 0, false, ⟨0, 0, 0, 0, 0⟩, Nat.zero_le _, rfl, rfl, rfl, x, y, kW⟩
  case round =>
    obtain ⟨k, b, g, r, hk, rfl, rfl, rfl, x, y, hbel⟩ := hrel
    by_cases hlt : k < n
    · have hka : k < vs.length := by omega
      have hk1 : (k : Int) < (n : Int) := by omega
      have hk0 : (0 : Int) ≤ (k : Int) := by omega
      obtain ⟨b0, o0, rfl, hl0, hc0⟩ := HA.out k hka
      have hc1 : w.cell? ⟨b0, o0 + k * 2 + 1, none⟩ = some vs[k].sl := hc0 1 (by decide)
      have SX := CA.out vs[k] (List.getElem_mem hka)
      clear hc0
      generalize vs[k] = z at *
      obtain ⟨F, sx, cx⟩ := z
      obtain ⟨ax, kx, hsx, hxl, hxm, hxr⟩ := SX
      simp only at hc1 hsx hxl hxr
      subst hsx
      have XR := Lib.hid hxr
      have HC1 := Lib.hid hc1
      clear hxr hc1
      unfold maxLen at hxm
      generalize hcn : cx.length = q at *
      go_wp2_with fail
      go_loopw [5, 6, 9] (fun t f j wr' => ∃ (m : Nat) (b : Int) (g : Bool) (r : Rq), m ≤ q ∧ j = .int .i64 m ∧ t = .int .i64 b ∧ f = .bool g ∧ wr'.heap[w.heap.size]? = some (.cells #[.int .i64 0, .int .i64 0, .int .i64 0, .int .i64 0, .int .i64 0] 30 (0, 0)) ∧ wr'.heap[w.heap.size + 1]? = some (.cells #[.int .i64 r.c, .int .i64 r.n, .int .i64 r.o, .int .i64 r.x, .int .i64 r.y] 30 (0, 0)) ∧ Below w.heap.size w wr') (fun _ _ j _ => q - (intOf j).toNat)
      case atStart => exact ⟨0, b, g, r, Nat.zero_le _, rfl, rfl, rfl, x, y, hbel⟩
      case round =>
        clear x y hbel
        obtain ⟨m, b, g, r, hm', rfl, rfl, rfl, x, y, hbel⟩ := hrel
        have c1 : wr.cell? ⟨b0, o0 + k * 2 + 1, none⟩ = some (.slice ax q kx) := (hbel.cell (p := ⟨b0, _, none⟩) hl0).trans HC1.out
        by_cases hmq : m < q
        · have hmx : m < cx.length := by omega
          have hm1 : (m : Int) < (q : Int) := by omega
          have hm0 : (0 : Int) ≤ (m : Int) := by omega
          obtain ⟨b1, o1, rfl, hl1, hd0⟩ := seven_at XR.out m hmx
          obtain ⟨d0, d1, d2, d3, d4, d5, d6⟩ := hd0 wr hbel
          clear hd0
          generalize cx[m] = u at *
          go_upto_region 11 with fail
          obtain ⟨V, hV, sV, v, kV⟩ := blocks1 wr (.cells #[.int .i64 u.s, .int .i64 u.v, .int .i64 u.r.c, .int .i64 u.r.n, .int .i64 u.r.o, .int .i64 u.r.x, .int .i64 u.r.y] 62)
          rw [← hV]
          clear hV d0 d1 d2 d3 d4 d5 d6 c1
          replace x := carryB kV (lt_of_block x) x
          replace y := carryB kV (lt_of_block y) y
          have KV := Lib.hid (below_next hbel kV)
          have X := Lib.hid x
          have Y := Lib.hid y
          have YS := Lib.hid (block_setCell (i := 4) (block_setCell (i := 3) (block_setCell (i := 2) (block_setCell (i := 1) (block_setCell (i := 0) y (.int .i64 u.r.c)) (.int .i64 u.r.n)) (.int .i64 u.r.o)) (.int .i64 u.r.x)) (.int .i64 u.r.y))
          have XS := Lib.hid (show (((((V.setCell ⟨w.heap.size + 1, 0, none⟩ (.int .i64 u.r.c)).setCell ⟨w.heap.size + 1, 1, none⟩ (.int .i64 u.r.n)).setCell ⟨w.heap.size + 1, 2, none⟩ (.int .i64 u.r.o)).setCell ⟨w.heap.size + 1, 3, none⟩ (.int .i64 u.r.x)).setCell ⟨w.heap.size + 1, 4, none⟩ (.int .i64 u.r.y)).heap[w.heap.size]? = some (.cells #[.int .i64 0, .int .i64 0, .int .i64 0, .int .i64 0, .int .i64 0] 30 (0, 0)) by
            repeat rw [Below.heap_setCell _ _ _ _ (by simp)]
            exact x)
          have KS := Lib.hid (show Below w.heap.size w (((((V.setCell ⟨w.heap.size + 1, 0, none⟩ (.int .i64 u.r.c)).setCell ⟨w.heap.size + 1, 1, none⟩ (.int .i64 u.r.n)).setCell ⟨w.heap.size + 1, 2, none⟩ (.int .i64 u.r.o)).setCell ⟨w.heap.size + 1, 3, none⟩ (.int .i64 u.r.x)).setCell ⟨w.heap.size + 1, 4, none⟩ (.int .i64 u.r.y)) by
            have K := KV.out
            exact (by repeat' (first | with_reducible exact Below.refl _ _ | with_reducible assumption | with_reducible refine Below.alloc ?_ ?_ _ | with_reducible refine Below.drew ?_ | with_reducible refine Below.setCell ?_ ?_ _ | omega | (simp; omega) | (simp; done))))
          have KB := Lib.hid hbel
          clear hbel kV sV
          by_cases hs : u.s = s
          · subst hs
            cases g with
            | false =>
              have cx := cell_of_block x
              have fx := unfrozen_of_block x
              have lx := lt_of_block x
              have cy := cell_of_block y
              have fy := unfrozen_of_block y
              have ly := lt_of_block y
              have cv := cell_of_block v
              have fv := unfrozen_of_block v
              have lv := lt_of_block v
              go_wp2_with fail
              go_roundw
              case rel => exact ⟨m + 1, u.v, true, u.r, by omega, by go_num, rfl, rfl, XS.out, YS.out, KS.out⟩
              case measure => simp [intOf]; omega
            | true =>
              by_cases hb : b < u.v
              · skip
                have cx := cell_of_block x
                have fx := unfrozen_of_block x
                have lx := lt_of_block x
                have cy := cell_of_block y
                have fy := unfrozen_of_block y
                have ly := lt_of_block y
                have cv := cell_of_block v
                have fv := unfrozen_of_block v
                have lv := lt_of_block v
                go_wp2_with fail
                go_roundw
                case rel => exact ⟨m + 1, u.v, true, u.r, by omega, by go_num, rfl, rfl, XS.out, YS.out, KS.out⟩
                case measure => simp [intOf]; omega
              · skip
                have cx := cell_of_block x
                have fx := unfrozen_of_block x
                have lx := lt_of_block x
                have cy := cell_of_block y
                have fy := unfrozen_of_block y
                have ly := lt_of_block y
                have cv := cell_of_block v
                have fv := unfrozen_of_block v
                have lv := lt_of_block v
                go_wp2_with fail
                go_roundw
                case rel => exact ⟨m + 1, b, true, r, by omega, by go_num, rfl, rfl, X.out, Y.out, KV.out⟩
                case measure => simp [intOf]; omega
          · have hs' : (u.s == s) = false := by simpa using hs
            have cx := cell_of_block x
            have fx := unfrozen_of_block x
            have lx := lt_of_block x
            have cy := cell_of_block y
            have fy := unfrozen_of_block y
            have ly := lt_of_block y
            have cv := cell_of_block v
            have fv := unfrozen_of_block v
            have lv := lt_of_block v
            go_wp2_with fail
            go_roundw
            case rel => exact ⟨m + 1, b, g, r, by omega, by go_num, rfl, rfl, X.out, Y.out, KV.out⟩
            case measure => simp [intOf]; omega
        · have X := Lib.hid x
          have Y := Lib.hid y
          have KB := Lib.hid hbel
          clear x y hbel
          go_wp2_with fail
          go_roundw
          case rel => exact ⟨k + 1, b, g, r, by omega, by go_num, rfl, rfl, X.out, Y.out, KB.out⟩
          case measure => simp [intOf]; omega
    · skip
      have cx := cell_of_block x
      have fx := unfrozen_of_block x
      have lx := lt_of_block x
      have cy := cell_of_block y
      have fy := unfrozen_of_block y
      have ly := lt_of_block y
      go_wp2_with fail
      refine bodyPost_ret (v := .agg #[.int .i64 r.c, .int .i64 r.n, .int .i64 r.o, .int .i64 r.x, .int .i64 r.y]) (by simp [results, Try.results118, go_sem, cx]) rfl ?_
      exact ⟨r, rfl, (by repeat' (first | with_reducible exact Below.refl _ _ | with_reducible assumption | with_reducible refine Below.alloc ?_ ?_ _ | with_reducible refine Below.drew ?_ | with_reducible refine Below.setCell ?_ ?_ _ | omega | (simp; omega) | (simp; done)))⟩
end Go.Proofs.Ytgdhieffjflejaa
