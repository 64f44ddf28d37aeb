/- Proofs by the reference, in part (l4Asked, l4Top, l4Pick, l4Count): some answer; condition: claims' places of at most 5 (l4Top). -/
import Derived.Test.YtgdhieffjflejaaOkV
import Derived.Test.YtgdhieffjflejaaHasS
set_option linter.unusedSimpArgs false
set_option linter.unusedVariables false
namespace Go.Proofs.Ytgdhieffjflejaa
open Go.RowKit Go.Joins
attribute [local go_sem ↓] eql_rq neq_rq

theorem isSl_nil {α : Type} (w : World) (k : Nat) (R : α → List Value) (c : Nat) (hc : c ≤ maxLen) (a : Option Addr) : IsSl w (.slice a 0 c) k R [] :=
  ⟨a, c, rfl, Nat.zero_le _, hc, fun i hi => absurd hi (Nat.not_lt_zero i)⟩
/-- The letter that asks. -/
def askM (r : Rq) : Mg := ⟨1, 0, 0, 0, r, .slice none 0 0, .slice none 0 0, [], []⟩
theorem askM_is (w : World) (r : Rq) : IsMg w (.agg #[.int .i64 1, .int .i64 0, .int .i64 0, .int .i64 0, .int .i64 r.c, .int .i64 r.n, .int .i64 r.o, .int .i64 r.x, .int .i64 r.y, .slice none 0 0, .slice none 0 0]) (askM r) :=
  ⟨rfl, isSl_nil _ _ _ _ (Nat.zero_le _) _, isSl_nil _ _ _ _ (Nat.zero_le _) _, fun z hz => nomatch hz⟩
set_option maxRecDepth 100000 in
set_option maxHeartbeats 1000000 in
theorem l4Asked_c (va : Value) (ms : List Mg) (r : Rq) (w : World) (ha : IsMs w va ms) :
    Calls Try.prog 104 #[va, .agg #[.int .i64 r.c, .int .i64 r.n, .int .i64 r.o, .int .i64 r.x, .int .i64 r.y]] w fun e w' => e = .returned (.bool (hasM ms (askM r))) ∧ Below w.heap.size w w' := by
  have HA := Lib.hid ha
  obtain ⟨⟨a, cap, rfl, -⟩, -⟩ := ha
  go_enter Try.func104, Try.ntmps104
  go_wp2_with fail
  obtain ⟨W, hW, sW, aW, kW⟩ := blocks1 w (.cells #[.int .i64 r.c, .int .i64 r.n, .int .i64 r.o, .int .i64 r.x, .int .i64 r.y] 30)
  rw [← hW]
  clear hW
  refine (l3Has_c _ _ ms (askM r) W (HA.out.below kW) (askM_is W r)).mono ?_
  rintro e w1 ⟨rfl, k1⟩
  go_wp2_with fail
  go_ret
  exact ⟨rfl, below_next kW k1⟩

set_option maxRecDepth 100000 in
set_option maxHeartbeats 2000000 in
theorem l4Top_w (va : Value) (vs : List Vx) (w : World) (ha : IsVs w va vs) (hf : ∀ z ∈ vs, ∀ c ∈ z.cl, c.s ≤ 5) :
    Calls Try.prog 117 #[va] w fun e w' => ∃ t : Int, e = .returned (.int .i64 t) ∧ t ≤ 5 ∧ Below w.heap.size w w' := by
  obtain ⟨⟨a, cap, rfl, hlc, hm, hra⟩, hca⟩ := ha
  have HA := Lib.hid hra
  have CA := Lib.hid hca
  have HF := Lib.hid hf
  clear hra hca hf
  unfold maxLen at hm
  generalize hnn : vs.length = n at *
  go_enter Try.func117, Try.ntmps117
  go_wp2_with fail
  go_loopw [3, 4] (fun t i wr => ∃ (k : Nat) (x : Int), k ≤ n ∧ i = .int .i64 k ∧ t = .int .i64 x ∧ x ≤ 5 ∧ Below w.heap.size w wr) (fun _ i _ => n - (intOf i).toNat)
  case atStart => exact ⟨0, 0, Nat.zero_le _, rfl, rfl, by omega, Below.refl _ _⟩
  case round =>
    obtain ⟨k, x, hk, rfl, rfl, hx, hbel⟩ := hrel
    by_cases hlt : k < n
    · have hka : k < vs.length := by omega
      have hk1 : (k : Int) < (n : Int) := by omega
      have hk0 : (0 : Int) ≤ (k : Int) := by omega
      obtain ⟨b0, o0, rfl, hl0, hc0⟩ := HA.out k hka
      have c1 : wr.cell? ⟨b0, o0 + k * 2 + 1, none⟩ = some vs[k].sl := (hbel.cell (p := ⟨b0, _, none⟩) hl0).trans (hc0 1 (by decide))
      have SX := (CA.out vs[k] (List.getElem_mem hka)).below hbel
      have FX := Lib.hid (HF.out vs[k] (List.getElem_mem hka))
      clear hc0
      generalize vs[k] = z at *
      obtain ⟨F, sx, cx⟩ := z
      obtain ⟨ax, kx, hsx, hxl, hxm, hxr⟩ := SX
      simp only at c1 hsx hxl hxr FX
      subst hsx
      have XR := Lib.hid hxr
      clear hxr
      unfold maxLen at hxm
      generalize hcn : cx.length = q at *
      go_wp2_with fail
      go_loopw [3, 5] (fun t j wr' => ∃ (m : Nat) (y : Int), m ≤ q ∧ j = .int .i64 m ∧ t = .int .i64 y ∧ y ≤ 5 ∧ wr' = wr) (fun _ j _ => q - (intOf j).toNat)
      case atStart => exact ⟨0, x, Nat.zero_le _, rfl, rfl, hx, rfl⟩
      case round =>
        obtain ⟨m, y, hm', rfl, rfl, hy, rfl⟩ := hrel
        by_cases hmq : m < q
        · have hmx : m < cx.length := by omega
          have hm1 : (m : Int) < (q : Int) := by omega
          have hm0 : (0 : Int) ≤ (m : Int) := by omega
          obtain ⟨b1, o1, rfl, hl1, hc1⟩ := XR.out m hmx
          have d0 := hc1 0 (by decide)
          have hs := FX.out cx[m] (List.getElem_mem hmx)
          rw [Nat.add_zero] at d0
          clear hc1
          generalize cx[m] = u at *
          replace d0 : wr.cell? ⟨b1, o1 + m * 7, none⟩ = some (.int .i64 u.s) := d0
          by_cases hgt : y < u.s
          · go_wp2_with fail
            refine ⟨⟨m + 1, u.s, by omega, by go_num, rfl, hs, trivial⟩, ?_⟩
            simp [intOf]; omega
          · go_wp2_with fail
            refine ⟨⟨m + 1, y, by omega, by go_num, rfl, hy, trivial⟩, ?_⟩
            simp [intOf]; omega
        · go_wp2_with fail
          refine ⟨⟨k + 1, y, by omega, by go_num, rfl, hy, hbel⟩, ?_⟩
          simp [intOf]; omega
    · go_wp2_with fail
      go_ret
      exact ⟨x, rfl, hx, hbel⟩
end Go.Proofs.Ytgdhieffjflejaa
