/- Proofs by the reference (l4Offered): some answer; condition: claims' places of at most 5. -/
import Derived.Test.YtgdhieffjflejaaL4B
import Derived.Test.YtgdhieffjflejaaL4C
set_option linter.unusedSimpArgs false
set_option linter.unusedVariables false
namespace Go.Proofs.Ytgdhieffjflejaa
open Go.RowKit Go.Joins
attribute [local go_sem ↓] eql_rq neq_rq

/-- Claims, votes, letters that are few, and of places of at most 5. -/
def ClsFit (cl : List Cl) : Prop := cl.length ≤ 8 ∧ ∀ c ∈ cl, c.s ≤ 5
def VsFit (vs : List Vx) : Prop := vs.length ≤ 8 ∧ ∀ z ∈ vs, ClsFit z.cl
def Mg.fit (m : Mg) : Prop := ClsFit m.cl ∧ VsFit m.vs
def MsFit (ms : List Mg) : Prop := ∀ m ∈ ms, m.fit
theorem VsFit.places {vs : List Vx} (h : VsFit vs) : ∀ z ∈ vs, ∀ c ∈ z.cl, c.s ≤ 5 := fun z hz => (h.2 z hz).2

set_option maxRecDepth 100000 in
set_option maxHeartbeats 16000000 in
theorem l4Offered_w (va : Value) (ms : List Mg) (c : Cl) (w : World) (ha : IsMs w va ms) (hf : MsFit ms) :
    Calls Try.prog 119 #[va, .agg #[.int .i64 c.s, .int .i64 c.v, .int .i64 c.r.c, .int .i64 c.r.n, .int .i64 c.r.o, .int .i64 c.r.x, .int .i64 c.r.y]] w fun e w' => ∃ b, e = .returned (.bool b) ∧ Below w.heap.size w w' := by
  obtain ⟨⟨a, cap, rfl, hlc, hm, hra⟩, hca⟩ := ha
  have HA := Lib.hid hra
  have CA := Lib.hid hca
  have HF := Lib.hid hf
  clear hra hca hf
  unfold maxLen at hm
  generalize hnn : ms.length = n at *
  go_enter Try.func119, Try.ntmps119
  go_wp2_with fail
  obtain ⟨W, hW_, sW, x, kW⟩ := blocks1 w (.cells #[.int .i64 c.s, .int .i64 c.v, .int .i64 c.r.c, .int .i64 c.r.n, .int .i64 c.r.o, .int .i64 c.r.x, .int .i64 c.r.y] 62)
  rw [← hW_]
  clear hW_
  refine (l3Leader_c c.v W).mono ?_
  rintro e w1 ⟨rfl, k1⟩
  replace x := carryB k1 (lt_of_block x) x
  have K1 := below_next kW k1
  clear k1 kW sW
  go_wp2_with fail
  go_loopw [6] (fun i wr => ∃ k : Nat, k ≤ n ∧ i = .int .i64 k ∧ wr.heap[w.heap.size]? = some (.cells #[.int .i64 c.s, .int .i64 c.v, .int .i64 c.r.c, .int .i64 c.r.n, .int .i64 c.r.o, .int .i64 c.r.x, .int .i64 c.r.y] 62 (0, 0)) ∧ Below w.heap.size w wr) (fun i _ => n - (intOf i).toNat)
  case atStart => exact ⟨0, Nat.zero_le _, rfl, x, K1⟩
  case round =>
    clear x K1
    obtain ⟨k, hk, rfl, x, hbel⟩ := hrel
    by_cases hlt : k < n
    · have hka : k < ms.length := by omega
      have hk1 : (k : Int) < (n : Int) := by omega
      have hk0 : (0 : Int) ≤ (k : Int) := by omega
      obtain ⟨b1, o1, rfl, hl1, hd0⟩ := mg_at HA.out k hka
      obtain ⟨x0, x1, x2, x3, x4, x5, x6, x7, x8, x9, x10⟩ := hd0 wr hbel
      have SX := (CA.out ms[k] (List.getElem_mem hka)).below hbel
      have FX := Lib.hid (HF.out ms[k] (List.getElem_mem hka))
      clear hd0
      generalize ms[k] = u at *
      have SV := Lib.hid SX.2
      obtain ⟨⟨au, cu, eu, -⟩, ⟨bu, du, fu, -⟩, -⟩ := SX
      rw [eu] at x9
      rw [fu] at x10 SV
      clear eu fu
      go_upto_region 6 with fail
      obtain ⟨V, hV, sV, v, kV⟩ := blocks1 wr (.cells #[.int .i64 u.k, .int .i64 u.f, .int .i64 u.v, .int .i64 u.s, .int .i64 u.r.c, .int .i64 u.r.n, .int .i64 u.r.o, .int .i64 u.r.x, .int .i64 u.r.y, .slice au u.cl.length cu, .slice bu u.vs.length du] 34)
      rw [← hV]
      clear hV x0 x1 x2 x3 x4 x5 x6 x7 x8 x9 x10
      replace x := carryB kV (lt_of_block x) x
      have KV := Lib.hid (below_next hbel kV)
      have X := Lib.hid x
      replace SV := Lib.hid (SV.out.below kV)
      clear hbel kV sV
      have cx := cell_of_block x
      have fx := unfrozen_of_block x
      have lx := lt_of_block x
      have cv := cell_of_block v
      have fv := unfrozen_of_block v
      have lv := lt_of_block v
      obtain ⟨q1, h1⟩ : ∃ q, (u.f != leadN c.v) = q := ⟨_, rfl⟩
      obtain ⟨q2, h2⟩ : ∃ q, (u.v != c.v) = q := ⟨_, rfl⟩
      obtain ⟨q3, h3⟩ : ∃ q, (u.k == 2) = q := ⟨_, rfl⟩
      obtain ⟨q4, h4⟩ : ∃ q, (u.s == c.s) = q := ⟨_, rfl⟩
      obtain ⟨q5, h5⟩ : ∃ q, eqR u.r.c u.r.n u.r.o u.r.x u.r.y c.r.c c.r.n c.r.o c.r.x c.r.y = q := ⟨_, rfl⟩
      obtain ⟨q6, h6⟩ : ∃ q, (u.k == 6) = q := ⟨_, rfl⟩
      cases q1 with
      | true =>
        go_wp2_with fail
        go_roundw
        case rel => exact ⟨k + 1, by omega, by go_num, X.out, KV.out⟩
        case measure => simp [intOf]; omega
      | false =>
        cases q2 with
        | true =>
          go_wp2_with fail
          go_roundw
          case rel => exact ⟨k + 1, by omega, by go_num, X.out, KV.out⟩
          case measure => simp [intOf]; omega
        | false =>
          cases q3 <;> cases q4 <;> cases q5 <;> go_wp2_with fail
          all_goals try (go_ret; exact ⟨_, rfl, KV.out⟩; done)
          all_goals
            cases q6 with
            | false =>
              refine wp_region_held_drew (S := fun w' => (∀ b o, b < V.heap.size → w'.cell? ⟨b, o, none⟩ = V.cell? ⟨b, o, none⟩) ∧ Below V.heap.size V w') (by kernel_rfl) (Kept.start V) (fun hHeld => ?_)
              refine wpAnyH_take (i := 0) (oi := _) (v := ?_) (by (simp only [List.getElem?_toArray]; rfl)) (by kernel_rfl) (by kernel_rfl) (by kernel_rfl) (by exact fun _ _ _ h => h) (Or.inl ⟨by rfl, ?_⟩) (by assumption) ?_
              rotate_left
              · intro wS hSw
                go_simp
                all_goals first | with_reducible rfl | rw [if_neg (by omega)]
              simp only [Act.put, List.setIfInBounds_toArray, List.set]
              refine wpAnyH_take (i := 1) (oi := _) (v := ?_) (by (simp only [List.getElem?_toArray]; rfl)) (by kernel_rfl) (by kernel_rfl) (by kernel_rfl) (by exact fun _ _ _ h => h) (Or.inl ⟨by rfl, ?_⟩) (by assumption) ?_
              rotate_left
              · intro wS hSw
                go_simp
                all_goals first | with_reducible rfl | rw [if_neg (by omega)]
              simp only [Act.put, List.setIfInBounds_toArray, List.set]
              refine wpAnyH_take (i := 2) (oi := _) (v := ?_) (by (simp only [List.getElem?_toArray]; rfl)) (by kernel_rfl) (by kernel_rfl) (by kernel_rfl) (by exact fun _ _ _ h => h) (Or.inl ⟨by rfl, ?_⟩) (by assumption) ?_
              rotate_left
              · intro wS hSw
                go_simp
                all_goals first | with_reducible rfl | rw [if_neg (by omega)]
              simp only [Act.put, List.setIfInBounds_toArray, List.set]
              refine wpAnyH_take (i := 3) (oi := _) (v := ?_) (by (simp only [List.getElem?_toArray]; rfl)) (by kernel_rfl) (by kernel_rfl) (by kernel_rfl) (by exact fun _ _ _ h => h) (Or.inl ⟨by rfl, ?_⟩) (by assumption) ?_
              rotate_left
              · intro wS hSw
                go_simp
                all_goals first | with_reducible rfl | rw [if_neg (by omega)]
              simp only [Act.put, List.setIfInBounds_toArray, List.set]
              refine wpAnyH_take (i := 4) (oi := _) (v := undef) (by (simp only [List.getElem?_toArray]; rfl)) (by kernel_rfl) (by kernel_rfl) (by kernel_rfl) (by exact fun _ _ _ h => h) (Or.inr ⟨by rfl, rfl⟩) (by assumption) ?_
              simp only [Act.put, List.setIfInBounds_toArray, List.set]
              refine wpAnyH_take (i := 5) (oi := _) (v := undef) (by (simp only [List.getElem?_toArray]; rfl)) (by kernel_rfl) (by kernel_rfl) (by kernel_rfl) (by exact fun _ _ _ h => h) (Or.inr ⟨by rfl, rfl⟩) (by assumption) ?_
              simp only [Act.put, List.setIfInBounds_toArray, List.set]
              refine wpAnyH_take (i := 6) (oi := _) (v := undef) (by (simp only [List.getElem?_toArray]; rfl)) (by kernel_rfl) (by kernel_rfl) (by kernel_rfl) (by exact fun _ _ _ h => h) (Or.inr ⟨by rfl, rfl⟩) (by assumption) ?_
              simp only [Act.put, List.setIfInBounds_toArray, List.set]
              refine wpAnyH_take (i := 7) (oi := _) (v := undef) (by (simp only [List.getElem?_toArray]; rfl)) (by kernel_rfl) (by kernel_rfl) (by kernel_rfl) (by exact fun _ _ _ h => h) (Or.inr ⟨by rfl, rfl⟩) (by assumption) ?_
              simp only [Act.put, List.setIfInBounds_toArray, List.set]
              refine wpAnyH_take (i := 8) (oi := _) (v := undef) (by (simp only [List.getElem?_toArray]; rfl)) (by kernel_rfl) (by kernel_rfl) (by kernel_rfl) (by exact fun _ _ _ h => h) (Or.inr ⟨by rfl, rfl⟩) (by assumption) ?_
              simp only [Act.put, List.setIfInBounds_toArray, List.set]
              refine wpAnyH_take (i := 9) (oi := _) (v := undef) (by (simp only [List.getElem?_toArray]; rfl)) (by kernel_rfl) (by kernel_rfl) (by kernel_rfl) (by exact fun _ _ _ h => h) (Or.inr ⟨by rfl, rfl⟩) (by assumption) ?_
              simp only [Act.put, List.setIfInBounds_toArray, List.set]
              refine wpAnyH_take (i := 10) (oi := _) (v := ?_) (by (simp only [List.getElem?_toArray]; rfl)) (by kernel_rfl) (by kernel_rfl) (by kernel_rfl) (by exact fun _ _ _ h => h) (Or.inl ⟨by rfl, ?_⟩) (by assumption) ?_
              rotate_left
              · intro wS hSw
                go_simp
                all_goals first | with_reducible rfl | rw [if_neg (by omega)]
              simp only [Act.put, List.setIfInBounds_toArray, List.set]
              refine wpAnyH_take (i := 11) (oi := _) (v := ?_) (by (simp only [List.getElem?_toArray]; rfl)) (by kernel_rfl) (by kernel_rfl) (by kernel_rfl) (by exact fun _ _ _ h => h) (Or.inl ⟨by rfl, ?_⟩) (by assumption) ?_
              rotate_left
              · intro wS hSw
                go_simp
                all_goals first | with_reducible rfl | rw [if_neg (by omega)]
              simp only [Act.put, List.setIfInBounds_toArray, List.set]
              refine wpAnyH_take (i := 12) (oi := _) (v := undef) (by (simp only [List.getElem?_toArray]; rfl)) (by kernel_rfl) (by kernel_rfl) (by kernel_rfl) (by exact fun _ _ _ h => h) (Or.inr ⟨by rfl, rfl⟩) (by assumption) ?_
              simp only [Act.put, List.setIfInBounds_toArray, List.set]
              refine wpAnyH_take (i := 13) (oi := _) (v := undef) (by (simp only [List.getElem?_toArray]; rfl)) (by kernel_rfl) (by kernel_rfl) (by kernel_rfl) (by exact fun _ _ _ h => h) (Or.inr ⟨by rfl, rfl⟩) (by assumption) ?_
              simp only [Act.put, List.setIfInBounds_toArray, List.set]
              refine wpAnyH_take (i := 14) (oi := _) (v := undef) (by (simp only [List.getElem?_toArray]; rfl)) (by kernel_rfl) (by kernel_rfl) (by kernel_rfl) (by exact fun _ _ _ h => h) (Or.inr ⟨by rfl, rfl⟩) (by assumption) ?_
              simp only [Act.put, List.setIfInBounds_toArray, List.set]
              refine wpAnyH_take (i := 15) (oi := _) (v := undef) (by (simp only [List.getElem?_toArray]; rfl)) (by kernel_rfl) (by kernel_rfl) (by kernel_rfl) (by exact fun _ _ _ h => h) (Or.inr ⟨by rfl, rfl⟩) (by assumption) ?_
              simp only [Act.put, List.setIfInBounds_toArray, List.set]
              refine wpAnyH_take (i := 16) (oi := _) (v := undef) (by (simp only [List.getElem?_toArray]; rfl)) (by kernel_rfl) (by kernel_rfl) (by kernel_rfl) (by exact fun _ _ _ h => h) (Or.inr ⟨by rfl, rfl⟩) (by assumption) ?_
              simp only [Act.put, List.setIfInBounds_toArray, List.set]
              refine wpAnyH_take (i := 17) (oi := _) (v := undef) (by (simp only [List.getElem?_toArray]; rfl)) (by kernel_rfl) (by kernel_rfl) (by kernel_rfl) (by exact fun _ _ _ h => h) (Or.inr ⟨by rfl, rfl⟩) (by assumption) ?_
              simp only [Act.put, List.setIfInBounds_toArray, List.set]
              refine wpAnyH_take (i := 18) (oi := _) (v := undef) (by (simp only [List.getElem?_toArray]; rfl)) (by kernel_rfl) (by kernel_rfl) (by kernel_rfl) (by exact fun _ _ _ h => h) (Or.inr ⟨by rfl, rfl⟩) (by assumption) ?_
              simp only [Act.put, List.setIfInBounds_toArray, List.set]
              refine wpAnyH_take (i := 19) (oi := _) (v := undef) (by (simp only [List.getElem?_toArray]; rfl)) (by kernel_rfl) (by kernel_rfl) (by kernel_rfl) (by exact fun _ _ _ h => h) (Or.inr ⟨by rfl, rfl⟩) (by assumption) ?_
              simp only [Act.put, List.setIfInBounds_toArray, List.set]
              refine wpAnyH_take (i := 20) (oi := _) (v := ?_) (by (simp only [List.getElem?_toArray]; rfl)) (by kernel_rfl) (by kernel_rfl) (by kernel_rfl) (by exact fun _ _ _ h => h) (Or.inl ⟨by rfl, ?_⟩) (by assumption) ?_
              rotate_left
              · intro wS hSw
                go_simp
                all_goals first | with_reducible rfl | rw [if_neg (by omega)]
              simp only [Act.put, List.setIfInBounds_toArray, List.set]
              refine wpAnyH_done (by kernel_rfl) ?_ _
              clear hHeld
              have XD := Lib.hid (carryB ((Below.refl V.heap.size V).drew) lx X.out)
              have KD := Lib.hid (KV.out.drew)
              go_wp2_with fail
              go_roundw
              case rel => exact ⟨k + 1, by omega, by go_num, XD.out, KD.out⟩
              case measure => simp [intOf]; omega
            | true =>
              refine wp_region_held_drew (S := fun w' => (∀ b o, b < V.heap.size → w'.cell? ⟨b, o, none⟩ = V.cell? ⟨b, o, none⟩) ∧ Below V.heap.size V w') (by kernel_rfl) (Kept.start V) (fun hHeld => ?_)
              refine wpAnyH_take (i := 0) (oi := _) (v := ?_) (by (simp only [List.getElem?_toArray]; rfl)) (by kernel_rfl) (by kernel_rfl) (by kernel_rfl) (by exact fun _ _ _ h => h) (Or.inl ⟨by rfl, ?_⟩) (by assumption) ?_
              rotate_left
              · intro wS hSw
                go_simp
                all_goals first | with_reducible rfl | rw [if_neg (by omega)]
              simp only [Act.put, List.setIfInBounds_toArray, List.set]
              refine wpAnyH_take (i := 1) (oi := _) (v := ?_) (by (simp only [List.getElem?_toArray]; rfl)) (by kernel_rfl) (by kernel_rfl) (by kernel_rfl) (by exact fun _ _ _ h => h) (Or.inl ⟨by rfl, ?_⟩) (by assumption) ?_
              rotate_left
              · intro wS hSw
                go_simp
                all_goals first | with_reducible rfl | rw [if_neg (by omega)]
              simp only [Act.put, List.setIfInBounds_toArray, List.set]
              refine wpAnyH_take (i := 2) (oi := _) (v := ?_) (by (simp only [List.getElem?_toArray]; rfl)) (by kernel_rfl) (by kernel_rfl) (by kernel_rfl) (by exact fun _ _ _ h => h) (Or.inl ⟨by rfl, ?_⟩) (by assumption) ?_
              rotate_left
              · intro wS hSw
                go_simp
                all_goals first | with_reducible rfl | rw [if_neg (by omega)]
              simp only [Act.put, List.setIfInBounds_toArray, List.set]
              refine wpAnyH_take (i := 3) (oi := _) (v := ?_) (by (simp only [List.getElem?_toArray]; rfl)) (by kernel_rfl) (by kernel_rfl) (by kernel_rfl) (by exact fun _ _ _ h => h) (Or.inl ⟨by rfl, ?_⟩) (by assumption) ?_
              rotate_left
              · intro wS hSw
                go_simp
                all_goals first | with_reducible rfl | rw [if_neg (by omega)]
              simp only [Act.put, List.setIfInBounds_toArray, List.set]
              refine wpAnyH_take (i := 4) (oi := _) (v := ?_) (by (simp only [List.getElem?_toArray]; rfl)) (by kernel_rfl) (by kernel_rfl) (by kernel_rfl) (by exact fun _ _ _ h => h) (Or.inl ⟨by rfl, ?_⟩) (by assumption) ?_
              rotate_left
              · intro wS hSw
                go_simp
                all_goals first | with_reducible rfl | rw [if_neg (by omega)]
              simp only [Act.put, List.setIfInBounds_toArray, List.set]
              refine wpAnyH_take (i := 5) (oi := _) (v := ?_) (by (simp only [List.getElem?_toArray]; rfl)) (by kernel_rfl) (by kernel_rfl) (by kernel_rfl) (by exact fun _ _ _ h => h) (Or.inl ⟨by rfl, ?_⟩) (by assumption) ?_
              rotate_left
              · intro wS hSw
                go_simp
                all_goals first | with_reducible rfl | rw [if_neg (by omega)]
              simp only [Act.put, List.setIfInBounds_toArray, List.set]
              refine wpAnyH_take (i := 6) (oi := _) (v := ?_) (by (simp only [List.getElem?_toArray]; rfl)) (by kernel_rfl) (by kernel_rfl) (by kernel_rfl) (by exact fun _ _ _ h => h) (Or.inl ⟨by rfl, ?_⟩) (by assumption) ?_
              rotate_left
              · intro wS hSw
                go_simp
                all_goals first | with_reducible rfl | rw [if_neg (by omega)]
              simp only [Act.put, List.setIfInBounds_toArray, List.set]
              refine wpAnyH_take (i := 7) (oi := _) (v := ?_) (by (simp only [List.getElem?_toArray]; rfl)) (by kernel_rfl) (by kernel_rfl) (by kernel_rfl) (by exact fun _ _ _ h => h) (Or.inl ⟨by rfl, ?_⟩) (by assumption) ?_
              rotate_left
              · intro wS hSw
                go_simp
                all_goals first | with_reducible rfl | rw [if_neg (by omega)]
              simp only [Act.put, List.setIfInBounds_toArray, List.set]
              refine wpAnyH_ready (rs := [8]) (by kernel_rfl) (by simp) ?_
              refine AllReadyH.cons (o := _) (by (simp only [List.getElem?_toArray]; rfl)) (fun K hK => ?_) AllReadyH.nil
              go_simp
              refine (l4Top_w _ u.vs _ (SV.out.below (Below.drew (Below.refl V.heap.size V))) FX.out.2.places).mono ?_
              rintro e w2 ⟨t, rfl, ht, k2⟩
              have kS := Kept.next (Nat.le_refl _) (Kept.start V) k2
              have lx2 : w.heap.size < w2.heap.size := Nat.lt_of_lt_of_le lx kS.2.size
              refine hK.out _ _ kS (fun hHeld => ?_)
              clear hK K
              try simp only [Act.put, List.setIfInBounds_toArray, List.set]
              clear k2
              obtain ⟨q7, h7⟩ : ∃ q, decide (c.s ≤ t) = q := ⟨_, rfl⟩
              cases q7 with
              | false =>
                refine wpAnyH_take (i := 9) (oi := _) (v := ?_) (by (simp only [List.getElem?_toArray]; rfl)) (by kernel_rfl) (by kernel_rfl) (by kernel_rfl) (by exact fun _ _ _ h => h) (Or.inl ⟨by rfl, ?_⟩) (by assumption) ?_
                rotate_left
                · intro wS hSw
                  go_simp
                  all_goals first | with_reducible rfl | rw [if_neg (by omega)]
                simp only [Act.put, List.setIfInBounds_toArray, List.set]
                refine wpAnyH_take (i := 10) (oi := _) (v := ?_) (by (simp only [List.getElem?_toArray]; rfl)) (by kernel_rfl) (by kernel_rfl) (by kernel_rfl) (by exact fun _ _ _ h => h) (Or.inl ⟨by rfl, ?_⟩) (by assumption) ?_
                rotate_left
                · intro wS hSw
                  go_simp
                  all_goals first | with_reducible rfl | rw [if_neg (by omega)]
                simp only [Act.put, List.setIfInBounds_toArray, List.set]
                refine wpAnyH_take (i := 11) (oi := _) (v := ?_) (by (simp only [List.getElem?_toArray]; rfl)) (by kernel_rfl) (by kernel_rfl) (by kernel_rfl) (by exact fun _ _ _ h => h) (Or.inl ⟨by rfl, ?_⟩) (by assumption) ?_
                rotate_left
                · intro wS hSw
                  go_simp
                  all_goals first | with_reducible rfl | rw [if_neg (by omega)]
                simp only [Act.put, List.setIfInBounds_toArray, List.set]
                refine wpAnyH_take (i := 12) (oi := _) (v := undef) (by (simp only [List.getElem?_toArray]; rfl)) (by kernel_rfl) (by kernel_rfl) (by kernel_rfl) (by exact fun _ _ _ h => h) (Or.inr ⟨by rfl, rfl⟩) (by assumption) ?_
                simp only [Act.put, List.setIfInBounds_toArray, List.set]
                refine wpAnyH_take (i := 13) (oi := _) (v := undef) (by (simp only [List.getElem?_toArray]; rfl)) (by kernel_rfl) (by kernel_rfl) (by kernel_rfl) (by exact fun _ _ _ h => h) (Or.inr ⟨by rfl, rfl⟩) (by assumption) ?_
                simp only [Act.put, List.setIfInBounds_toArray, List.set]
                refine wpAnyH_take (i := 14) (oi := _) (v := undef) (by (simp only [List.getElem?_toArray]; rfl)) (by kernel_rfl) (by kernel_rfl) (by kernel_rfl) (by exact fun _ _ _ h => h) (Or.inr ⟨by rfl, rfl⟩) (by assumption) ?_
                simp only [Act.put, List.setIfInBounds_toArray, List.set]
                refine wpAnyH_take (i := 15) (oi := _) (v := undef) (by (simp only [List.getElem?_toArray]; rfl)) (by kernel_rfl) (by kernel_rfl) (by kernel_rfl) (by exact fun _ _ _ h => h) (Or.inr ⟨by rfl, rfl⟩) (by assumption) ?_
                simp only [Act.put, List.setIfInBounds_toArray, List.set]
                refine wpAnyH_take (i := 16) (oi := _) (v := undef) (by (simp only [List.getElem?_toArray]; rfl)) (by kernel_rfl) (by kernel_rfl) (by kernel_rfl) (by exact fun _ _ _ h => h) (Or.inr ⟨by rfl, rfl⟩) (by assumption) ?_
                simp only [Act.put, List.setIfInBounds_toArray, List.set]
                refine wpAnyH_take (i := 17) (oi := _) (v := undef) (by (simp only [List.getElem?_toArray]; rfl)) (by kernel_rfl) (by kernel_rfl) (by kernel_rfl) (by exact fun _ _ _ h => h) (Or.inr ⟨by rfl, rfl⟩) (by assumption) ?_
                simp only [Act.put, List.setIfInBounds_toArray, List.set]
                refine wpAnyH_take (i := 18) (oi := _) (v := undef) (by (simp only [List.getElem?_toArray]; rfl)) (by kernel_rfl) (by kernel_rfl) (by kernel_rfl) (by exact fun _ _ _ h => h) (Or.inr ⟨by rfl, rfl⟩) (by assumption) ?_
                simp only [Act.put, List.setIfInBounds_toArray, List.set]
                refine wpAnyH_take (i := 19) (oi := _) (v := undef) (by (simp only [List.getElem?_toArray]; rfl)) (by kernel_rfl) (by kernel_rfl) (by kernel_rfl) (by exact fun _ _ _ h => h) (Or.inr ⟨by rfl, rfl⟩) (by assumption) ?_
                simp only [Act.put, List.setIfInBounds_toArray, List.set]
                refine wpAnyH_take (i := 20) (oi := _) (v := ?_) (by (simp only [List.getElem?_toArray]; rfl)) (by kernel_rfl) (by kernel_rfl) (by kernel_rfl) (by exact fun _ _ _ h => h) (Or.inl ⟨by rfl, ?_⟩) (by assumption) ?_
                rotate_left
                · intro wS hSw
                  go_simp
                  all_goals first | with_reducible rfl | rw [if_neg (by omega)]
                simp only [Act.put, List.setIfInBounds_toArray, List.set]
                refine wpAnyH_done (by kernel_rfl) ?_ _
                clear hHeld
                have XD := Lib.hid (carryB kS.2 lx X.out)
                have KD := Lib.hid (below_next KV.out kS.2)
                clear kS
                go_wp2_with fail
                go_roundw
                case rel => exact ⟨k + 1, by omega, by go_num, XD.out, KD.out⟩
                case measure => simp [intOf]; omega
              | true =>
                refine wpAnyH_take (i := 9) (oi := _) (v := ?_) (by (simp only [List.getElem?_toArray]; rfl)) (by kernel_rfl) (by kernel_rfl) (by kernel_rfl) (by exact fun _ _ _ h => h) (Or.inl ⟨by rfl, ?_⟩) (by assumption) ?_
                rotate_left
                · intro wS hSw
                  go_simp
                  all_goals first | with_reducible rfl | rw [if_neg (by omega)]
                simp only [Act.put, List.setIfInBounds_toArray, List.set]
                refine wpAnyH_take (i := 10) (oi := _) (v := ?_) (by (simp only [List.getElem?_toArray]; rfl)) (by kernel_rfl) (by kernel_rfl) (by kernel_rfl) (by exact fun _ _ _ h => h) (Or.inl ⟨by rfl, ?_⟩) (by assumption) ?_
                rotate_left
                · intro wS hSw
                  go_simp
                  all_goals first | with_reducible rfl | rw [if_neg (by omega)]
                simp only [Act.put, List.setIfInBounds_toArray, List.set]
                refine wpAnyH_take (i := 11) (oi := _) (v := ?_) (by (simp only [List.getElem?_toArray]; rfl)) (by kernel_rfl) (by kernel_rfl) (by kernel_rfl) (by exact fun _ _ _ h => h) (Or.inl ⟨by rfl, ?_⟩) (by assumption) ?_
                rotate_left
                · intro wS hSw
                  go_simp
                  all_goals first | with_reducible rfl | rw [if_neg (by omega)]
                simp only [Act.put, List.setIfInBounds_toArray, List.set]
                refine wpAnyH_take (i := 12) (oi := _) (v := ?_) (by (simp only [List.getElem?_toArray]; rfl)) (by kernel_rfl) (by kernel_rfl) (by kernel_rfl) (by exact fun _ _ _ h => h) (Or.inl ⟨by rfl, ?_⟩) (by assumption) ?_
                rotate_left
                · intro wS hSw
                  go_simp
                  all_goals first | with_reducible rfl | rw [if_neg (by omega)]
                simp only [Act.put, List.setIfInBounds_toArray, List.set]
                refine wpAnyH_take (i := 13) (oi := _) (v := ?_) (by (simp only [List.getElem?_toArray]; rfl)) (by kernel_rfl) (by kernel_rfl) (by kernel_rfl) (by exact fun _ _ _ h => h) (Or.inl ⟨by rfl, ?_⟩) (by assumption) ?_
                rotate_left
                · intro wS hSw
                  go_simp
                  all_goals first | with_reducible rfl | rw [if_neg (by omega)]
                simp only [Act.put, List.setIfInBounds_toArray, List.set]
                refine wpAnyH_take (i := 14) (oi := _) (v := ?_) (by (simp only [List.getElem?_toArray]; rfl)) (by kernel_rfl) (by kernel_rfl) (by kernel_rfl) (by exact fun _ _ _ h => h) (Or.inl ⟨by rfl, ?_⟩) (by assumption) ?_
                rotate_left
                · intro wS hSw
                  go_simp
                  all_goals first | with_reducible rfl | rw [if_neg (by omega)]
                simp only [Act.put, List.setIfInBounds_toArray, List.set]
                refine wpAnyH_take (i := 15) (oi := _) (v := ?_) (by (simp only [List.getElem?_toArray]; rfl)) (by kernel_rfl) (by kernel_rfl) (by kernel_rfl) (by exact fun _ _ _ h => h) (Or.inl ⟨by rfl, ?_⟩) (by assumption) ?_
                rotate_left
                · intro wS hSw
                  go_simp
                  all_goals first | with_reducible rfl | rw [if_neg (by omega)]
                simp only [Act.put, List.setIfInBounds_toArray, List.set]
                refine wpAnyH_take (i := 17) (oi := _) (v := ?_) (by (simp only [List.getElem?_toArray]; rfl)) (by kernel_rfl) (by kernel_rfl) (by kernel_rfl) (by exact fun _ _ _ h => h) (Or.inl ⟨by rfl, ?_⟩) (by assumption) ?_
                rotate_left
                · intro wS hSw
                  go_simp
                  all_goals first | with_reducible rfl | rw [if_neg (by omega)]
                simp only [Act.put, List.setIfInBounds_toArray, List.set]
                refine wpAnyH_take (i := 18) (oi := _) (v := ?_) (by (simp only [List.getElem?_toArray]; rfl)) (by kernel_rfl) (by kernel_rfl) (by kernel_rfl) (by exact fun _ _ _ h => h) (Or.inl ⟨by rfl, ?_⟩) (by assumption) ?_
                rotate_left
                · intro wS hSw
                  go_simp
                  all_goals first | with_reducible rfl | rw [if_neg (by omega)]
                simp only [Act.put, List.setIfInBounds_toArray, List.set]
                refine wpAnyH_ready (rs := [16]) (by kernel_rfl) (by simp) ?_
                refine AllReadyH.cons (o := _) (by (simp only [List.getElem?_toArray]; rfl)) (fun K hK => ?_) AllReadyH.nil
                go_simp
                refine (l4Pick_w _ u.vs c.s _ (SV.out.below kS.2)).mono ?_
                rintro e w3 ⟨r, rfl, k3⟩
                have kS' := Kept.next (Nat.le_refl _) kS k3
                refine hK.out _ _ kS' (fun hHeld => ?_)
                clear hK K
                try simp only [Act.put, List.setIfInBounds_toArray, List.set]
                refine wpAnyH_take (i := 19) (oi := _) (v := ?_) (by (simp only [List.getElem?_toArray]; rfl)) (by kernel_rfl) (by kernel_rfl) (by kernel_rfl) (by exact fun _ _ _ h => h) (Or.inl ⟨by rfl, ?_⟩) (by assumption) ?_
                rotate_left
                · intro wS hSw
                  go_simp
                  all_goals first | with_reducible rfl | rw [if_neg (by omega)]
                simp only [Act.put, List.setIfInBounds_toArray, List.set]
                refine wpAnyH_take (i := 20) (oi := _) (v := ?_) (by (simp only [List.getElem?_toArray]; rfl)) (by kernel_rfl) (by kernel_rfl) (by kernel_rfl) (by exact fun _ _ _ h => h) (Or.inl ⟨by rfl, ?_⟩) (by assumption) ?_
                rotate_left
                · intro wS hSw
                  go_simp
                  all_goals first | with_reducible rfl | rw [if_neg (by omega)]
                simp only [Act.put, List.setIfInBounds_toArray, List.set]
                refine wpAnyH_done (by kernel_rfl) ?_ _
                clear hHeld
                have XD := Lib.hid (carryB kS'.2 lx X.out)
                have KD := Lib.hid (below_next KV.out kS'.2)
                clear kS kS' k3
                go_wp2_with fail
                all_goals first
                  | (go_ret; exact ⟨_, rfl, KD.out⟩; done)
                  | (go_roundw
                     case rel => exact ⟨k + 1, by omega, by go_num, XD.out, KD.out⟩
                     case measure => simp [intOf]; omega)
    · go_wp2_with fail
      go_ret
      exact ⟨_, rfl, hbel⟩
end Go.Proofs.Ytgdhieffjflejaa
