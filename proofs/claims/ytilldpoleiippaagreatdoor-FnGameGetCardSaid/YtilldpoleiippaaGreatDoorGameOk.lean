/- Contract of GameOk (the program's); condition: at most 2^20 elements. -/
import Derived.Test.YtilldpoleiippaaGreatDoorMA
set_option linter.unusedSimpArgs false
set_option linter.unusedVariables false
namespace Go.Proofs.YtilldpoleiippaaGreatDoor
open Go.RowKit Go.Joins

set_option maxHeartbeats 400000 in
theorem onBoard_c (x y : Int) (w : World) :
    Calls Tryz.prog 27 #[.int .i64 x, .int .i64 y] w fun e w' => e = .returned (.bool (inB x 0 3 && inB y 0 3)) ∧ w = w' := by
  cases h : inB x 0 3 with
  | true =>
    go_enter Tryz.func27, Tryz.ntmps27
    go_wp2_with (go_at_call 26; refine (in_c _ _ _ _).mono ?_; rintro e w' ⟨rfl, rfl⟩)
    go_ret
    exact ⟨ret_bool (by simp), rfl⟩
  | false =>
    go_enter Tryz.func27, Tryz.ntmps27
    go_wp2_with (go_at_call 26; refine (in_c _ _ _ _).mono ?_; rintro e w' ⟨rfl, rfl⟩)
    go_ret
    exact ⟨ret_bool (by simp), rfl⟩

set_option maxHeartbeats 400000 in
theorem notNum_c (n : Int) (w : World) :
    Calls Tryz.prog 29 #[.int .i64 n] w fun e w' => e = .returned (.bool (!inB n 0 30)) ∧ w = w' := by
  go_enter Tryz.func29, Tryz.ntmps29
  go_wp2_with (go_at_call 26; refine (in_c _ _ _ _).mono ?_; rintro e w' ⟨rfl, rfl⟩)
  go_ret
  exact ⟨rfl, rfl⟩

def IsFirstI (zs : List Int) (w : World) (e : Ending) (w' : World) : Prop :=
  ∃ m : Int, e = .returned (.int .i64 m) ∧ ((zs.all (fun n => inB n 0 30) = true ∧ m < 0) ∨ (zs.all (fun n => inB n 0 30) = false ∧ 0 ≤ m)) ∧ Below w.heap.size w w'

set_option maxRecDepth 100000 in
set_option maxHeartbeats 1000000 in
theorem firstBadI_c (a : Option Addr) (zs : List Int) (n cap : Nat) (w : World) (h : IsSl w (.slice a n cap) 1 intR zs) :
    Calls Tryz.prog 49 #[.slice a n cap, .func (.func 29) #[] #[]] w (IsFirstI zs w) := by
  obtain ⟨hnn, hlc, hm, hr⟩ := h.bounds
  have HR := Lib.hid hr
  clear hr h
  unfold maxLen at hm
  go_enter Tryz.func49, Tryz.ntmps49
  go_wp2_with fail
  go_loopw [8] (fun i wr => ∃ k : Nat, k ≤ n ∧ i = .int .i64 k ∧ (∀ j (hj : j < zs.length), j < k → inB zs[j] 0 30 = true) ∧ Below w.heap.size w wr) (fun i _ => n - (intOf i).toNat)
  case atStart => exact ⟨0, Nat.zero_le _, rfl, fun j _ hj => absurd hj (Nat.not_lt_zero j), Below.refl _ _⟩
  case round =>
    obtain ⟨k, hk, rfl, hall, hbel⟩ := hrel
    have HA := Lib.hid hall
    clear hall
    by_cases hlt : k < n
    · have hkz : k < zs.length := by omega
      have hk1 : (k : Int) < (n : Int) := by omega
      have hk0 : (0 : Int) ≤ (k : Int) := by omega
      obtain ⟨b, off, rfl, hb, hcz⟩ := one_at HR.out k hkz
      have d0 := hcz wr hbel
      clear hcz
      cases hg : inB zs[k] 0 30 with
      | true =>
        go_wp2_with fail
        refine (notNum_c zs[k] _).mono ?_
        rintro e w1 ⟨rfl, rfl⟩
        rw [hg]
        go_wp2_with fail
        refine ⟨⟨k + 1, by omega, by go_num, fun j hj hjk => ?_, hbel⟩, ?_⟩
        · by_cases hjk' : j = k
          · subst hjk'; exact hg
          · exact HA.out j hj (by omega)
        · simp [intOf]; omega
      | false =>
        go_wp2_with fail
        refine (notNum_c zs[k] _).mono ?_
        rintro e w1 ⟨rfl, rfl⟩
        rw [hg]
        go_wp2_with fail
        go_ret
        exact ⟨k, rfl, .inr ⟨all_bad hkz hg, by omega⟩, hbel⟩
    · go_wp2_with fail
      go_ret
      exact ⟨-1, rfl, .inl ⟨all_good HA.out (by omega), by omega⟩, hbel⟩

set_option maxHeartbeats 400000 in
theorem anyBadI_c (a : Option Addr) (zs : List Int) (n cap : Nat) (w : World) (h : IsSl w (.slice a n cap) 1 intR zs) :
    Calls Tryz.prog 28 #[.slice a n cap, .func (.func 29) #[] #[]] w fun e w' => e = .returned (.bool (!zs.all (fun n => inB n 0 30))) ∧ Below w.heap.size w w' := by
  have HI := Lib.hid (firstBadI_c a zs n cap w h)
  clear h
  go_enter Tryz.func28, Tryz.ntmps28
  go_wp2_with fail
  refine HI.out.mono ?_
  rintro e w1 ⟨m, rfl, hm, k1⟩
  rcases hm with ⟨ha, hm⟩ | ⟨ha, hm⟩
  · go_wp2_with fail
    go_ret
    exact ⟨ret_bool (by rw [ha]; simp; omega), k1⟩
  · go_wp2_with fail
    go_ret
    exact ⟨ret_bool (by rw [ha]; simp; try omega), k1⟩

set_option maxRecDepth 100000 in
set_option maxHeartbeats 4000000 in
theorem GameOk_c (z : Gm) (a0 a1 a2 : Option Addr) (c0 c1 c2 : Nat) (w : World) (h0 : IsSl w (.slice a0 z.es.length c0) 5 Rq.cs z.es) (h1 : IsSl w (.slice a1 z.fl.length c1) 1 intR z.fl) (h2 : IsSl w (.slice a2 z.la.length c2) 1 intR z.la)
    (hs : z.es.length + z.fl.length + z.la.length ≤ 4194304) :
    Calls Tryz.prog 9 #[.agg #[.slice a0 z.es.length c0, .slice a1 z.fl.length c1, .slice a2 z.la.length c2]] w fun e w' => e = .returned (.bool (gameB z)) ∧ Below w.heap.size w w' := by
  obtain ⟨es, fl, la⟩ := z
  simp only [gameB] at h0 h1 h2 hs ⊢
  obtain ⟨-, hlc0, hm0, hr0⟩ := h0.bounds
  obtain ⟨-, hlc1, hm1, hr1⟩ := h1.bounds
  obtain ⟨-, hlc2, hm2, hr2⟩ := h2.bounds
  have R0 := Lib.hid hr0
  have R1 := Lib.hid hr1
  have H2 := Lib.hid h2
  clear hr0 hr1 hr2 h0 h1 h2
  unfold maxLen at hm0 hm1 hm2
  generalize hn0 : es.length = n0 at *
  generalize hn1 : fl.length = n1 at *
  generalize hn2 : la.length = n2 at *
  go_enter Tryz.func9, Tryz.ntmps9
  go_wp2_with fail
  obtain ⟨W, hW, sW, aW, kW⟩ := blocks1 w (.cells #[.slice a0 n0 c0, .slice a1 n1 c1, .slice a2 n2 c2] 27)
  rw [← hW]
  clear hW
  have hcW := cell_of_block aW
  go_wp2_with fail
  go_loopw [3, 4, 12] (fun l s i wr => ∃ k : Nat, k ≤ n0 ∧ i = .int .i64 k ∧ l = .int .i64 (prevC es k) ∧ s = .int .i64 (golds (es.take k)) ∧ (∀ j, j < k → entAt es j = true) ∧ wr.heap[w.heap.size]? = some (.cells #[.slice a0 n0 c0, .slice a1 n1 c1, .slice a2 n2 c2] 27 (0, 0)) ∧ Below w.heap.size w wr) (fun _ _ i _ => n0 - (intOf i).toNat)
  case atStart => exact ⟨0, Nat.zero_le _, rfl, rfl, by simp [golds], fun j hj => absurd hj (Nat.not_lt_zero j), aW, kW⟩
  case round =>
    obtain ⟨k, hk, rfl, rfl, rfl, hall, hB, hbel⟩ := hrel
    obtain ⟨hp0, hp1⟩ := prev_bound hall
    obtain ⟨hg0, hg1⟩ := golds_bound (by omega) hall
    have HA := Lib.hid hall
    have HB := Lib.hid hB
    have hlB := lt_of_block hB
    have hcB := cell_of_block hB
    clear hall hB aW kW hcW
    by_cases hlt : k < n0
    · have hkz : k < es.length := by omega
      have hk1 : (k : Int) < (n0 : Int) := by omega
      have hk0 : (0 : Int) ≤ (k : Int) := by omega
      obtain ⟨b, off, rfl, hb, hcz⟩ := five_at R0.out k hkz
      obtain ⟨d0, d1, d2, d3, d4⟩ := hcz wr hbel
      have hb' := Nat.lt_of_lt_of_le hb hbel.size
      have hne : b ≠ wr.heap.size := by omega
      have hne' : w.heap.size ≠ wr.heap.size := by omega
      have hpn : prevC es (k + 1) = es[k].c := by unfold prevC; rw [if_neg (by omega), Nat.add_sub_cancel, entN_get hkz]
      have hgn := golds_snoc hkz
      have hat : entAt es k = figB (prevC es k) es[k] := by unfold entAt; rw [entN_get hkz]
      rw [entN_get hkz] at hgn
      have HP := Lib.hid hpn
      have HG := Lib.hid hgn
      have HT := Lib.hid hat
      clear hcz hpn hgn hat
      generalize prevC es k = L at *
      generalize golds (es.take k) = G at *
      generalize es[k] = z at *
      have hL : IntKind.i64.wrap (L + 1) = L + 1 := IntWalk.i64_in _ ⟨by omega, by omega⟩
      go_wp2_with fail
      obtain ⟨X, hX, sX, aX, kX⟩ := blocks1 wr (.cells #[.int .i64 z.c, .int .i64 z.n, .int .i64 z.o, .int .i64 z.x, .int .i64 z.y] 44)
      rw [← hX]
      clear hX
      have oX := carryB kX hlB HB.out
      have KX := below_next hbel kX
      have hcX := cell_of_block aX
      clear kX d0 d1 d2 d3 d4 hcB
      cases e1 : inB z.c (L + 1) 4 with
      | false =>
        go_wp2_with (first | (go_at_call 26; refine (in_c _ _ _ _).mono ?_; rintro e w' ⟨rfl, rfl⟩) | (go_at_call 27; refine (onBoard_c _ _ _).mono ?_; rintro e w' ⟨rfl, rfl⟩))
        go_ret
        refine ⟨ret_bool ?_, KX⟩
        rw [entsB_bad hkz (by rw [HT.out]; simp only [figB, e1, Bool.false_and])]
        rfl
      | true =>
        cases e2 : inB z.n 0 3 with
        | false =>
          go_wp2_with (first | (go_at_call 26; refine (in_c _ _ _ _).mono ?_; rintro e w' ⟨rfl, rfl⟩) | (go_at_call 27; refine (onBoard_c _ _ _).mono ?_; rintro e w' ⟨rfl, rfl⟩))
          go_ret
          refine ⟨ret_bool ?_, KX⟩
          rw [entsB_bad hkz (by rw [HT.out]; simp only [figB, e1, e2, Bool.false_and, Bool.and_false])]
          rfl
        | true =>
          cases e3 : inB z.o 0 3 with
          | false =>
            go_wp2_with (first | (go_at_call 26; refine (in_c _ _ _ _).mono ?_; rintro e w' ⟨rfl, rfl⟩) | (go_at_call 27; refine (onBoard_c _ _ _).mono ?_; rintro e w' ⟨rfl, rfl⟩))
            go_ret
            refine ⟨ret_bool ?_, KX⟩
            rw [entsB_bad hkz (by rw [HT.out]; simp only [figB, e1, e2, e3, Bool.false_and, Bool.and_false])]
            rfl
          | true =>
            cases e4 : inB z.x 0 3 with
            | false =>
              go_wp2_with (first | (go_at_call 26; refine (in_c _ _ _ _).mono ?_; rintro e w' ⟨rfl, rfl⟩) | (go_at_call 27; refine (onBoard_c _ _ _).mono ?_; rintro e w' ⟨rfl, rfl⟩))
              go_ret
              refine ⟨ret_bool ?_, KX⟩
              rw [entsB_bad hkz (by rw [HT.out]; simp only [figB, e1, e2, e3, e4, Bool.false_and, Bool.and_false])]
              rfl
            | true =>
              cases e5 : inB z.y 0 20 with
              | false =>
                go_wp2_with (first | (go_at_call 26; refine (in_c _ _ _ _).mono ?_; rintro e w' ⟨rfl, rfl⟩) | (go_at_call 27; refine (onBoard_c _ _ _).mono ?_; rintro e w' ⟨rfl, rfl⟩))
                go_ret
                refine ⟨ret_bool ?_, KX⟩
                rw [entsB_bad hkz (by rw [HT.out]; simp only [figB, e1, e2, e3, e4, e5, Bool.and_false])]
                rfl
              | true =>
                have hy := (inB_iff _ _ _).1 e5
                have hGy : IntKind.i64.wrap (G + z.y) = G + z.y := IntWalk.i64_in _ ⟨by omega, by omega⟩
                go_wp2_with (first | (go_at_call 26; refine (in_c _ _ _ _).mono ?_; rintro e w' ⟨rfl, rfl⟩) | (go_at_call 27; refine (onBoard_c _ _ _).mono ?_; rintro e w' ⟨rfl, rfl⟩))
                refine ⟨⟨k + 1, by omega, by go_num, by rw [HP.out], by rw [HG.out], fun j hj => ?_, oX, KX⟩, ?_⟩
                · by_cases hjk : j = k
                  · subst hjk
                    rw [HT.out]
                    simp only [figB, e1, e2, e3, e4, e5]
                    rfl
                  · exact HA.out j (by omega)
                · simp [intOf]; omega
    · have hkk : n0 = k := by omega
      subst hkk
      have hents : entsB es = true := by
        rw [entsB_iff]
        exact fun j hj => HA.out j (by omega)
      rw [show es.take n0 = es by exact List.take_of_length_le (by omega)] at hg0 hg1 ⊢
      have HE := Lib.hid hents
      clear hents
      generalize hG : golds es = G at *
      go_wp2_with fail
      go_loopw [4, 8, 52] (fun s _ i wr => ∃ k : Nat, k ≤ n1 ∧ i = .int .i64 k ∧ s = .int .i64 (G + (fl.take k).sum) ∧ (∀ j (hj : j < fl.length), j < k → inB fl[j] 0 20 = true) ∧ wr.heap[w.heap.size]? = some (.cells #[.slice a0 n0 c0, .slice a1 n1 c1, .slice a2 n2 c2] 27 (0, 0)) ∧ Below w.heap.size w wr) (fun _ _ i _ => n1 - (intOf i).toNat)
      case atStart => exact ⟨0, Nat.zero_le _, rfl, by simp, fun j _ hj => absurd hj (Nat.not_lt_zero j), HB.out, hbel⟩
      case round =>
        clear hcB hbel HB HA hlB hlt
        obtain ⟨k, hk, rfl, rfl, hall, hB, hbel⟩ := hrel
        obtain ⟨hs0, hs1⟩ := sum_bound (by omega) hall
        have HA := Lib.hid hall
        have HB := Lib.hid hB
        have hlB := lt_of_block hB
        have hcB := cell_of_block hB
        clear hall hB
        by_cases hlt : k < n1
        · have hkz : k < fl.length := by omega
          have hk1 : (k : Int) < (n1 : Int) := by omega
          have hk0 : (0 : Int) ≤ (k : Int) := by omega
          obtain ⟨b, off, rfl, hb, hcz⟩ := one_at R1.out k hkz
          have d0 := hcz wr hbel
          have HG := Lib.hid (sum_snoc hkz)
          clear hcz
          cases e1 : inB fl[k] 0 20 with
          | false =>
            go_wp2_with (first | (go_at_call 26; refine (in_c _ _ _ _).mono ?_; rintro e w' ⟨rfl, rfl⟩) | (go_at_call 27; refine (onBoard_c _ _ _).mono ?_; rintro e w' ⟨rfl, rfl⟩))
            go_ret
            refine ⟨ret_bool ?_, hbel⟩
            rw [all_bad (p := fun n => inB n 0 20) hkz e1, HE.out]
            rfl
          | true =>
            have hy := (inB_iff _ _ _).1 e1
            have hGy : IntKind.i64.wrap (G + (fl.take k).sum + fl[k]) = G + (fl.take k).sum + fl[k] := IntWalk.i64_in _ ⟨by omega, by omega⟩
            go_wp2_with (first | (go_at_call 26; refine (in_c _ _ _ _).mono ?_; rintro e w' ⟨rfl, rfl⟩) | (go_at_call 27; refine (onBoard_c _ _ _).mono ?_; rintro e w' ⟨rfl, rfl⟩))
            go_roundw
            case rel =>
              refine ⟨k + 1, by omega, ?_, ?_, fun j hj hjk => ?_, HB.out, hbel⟩
              · go_num
              · rw [HG.out, Int.add_assoc]
              · by_cases hjk' : j = k
                · subst hjk'; exact e1
                · exact HA.out j hj (by omega)
            case measure => simp [intOf]; omega
        · have hkk : k = n1 := by omega
          have hfl : fl.all (fun n => inB n 0 20) = true := all_good HA.out (by omega)
          rw [show fl.take k = fl by rw [hkk]; exact List.take_of_length_le (by omega)] at hs0 hs1 ⊢
          clear hlt HA
          have HF := Lib.hid hfl
          clear hfl
          generalize hF : fl.sum = F at *
          by_cases q1 : n1 = 16
          · have q1' : ((n1 : Int) == 16) = true := by simp; omega
            have Q1 := Lib.hid q1
            clear q1
            by_cases q2 : n2 = 4
            · have q2' : ((n2 : Int) == 4) = true := by simp; omega
              have Q2 := Lib.hid q2
              clear q2
              by_cases q3 : G + F = 20
              · have q3' : (G + F == 20) = true := by simp; omega
                have Q3 := Lib.hid q3
                clear q3
                go_wp2_with fail
                refine (anyBadI_c a2 la n2 c2 _ (H2.out.below hbel)).mono ?_
                rintro e w1 ⟨rfl, k1⟩
                go_wp2_with fail
                go_ret
                exact ⟨ret_bool (by rw [HE.out, HF.out, hG, hF]; simp [Q1.out, Q2.out, Q3.out]), below_next hbel k1⟩
              · have q3' : (G + F == 20) = false := by simp; omega
                have Q3 := Lib.hid q3
                clear q3
                go_wp2_with fail
                go_ret
                exact ⟨ret_bool (by rw [HE.out, HF.out, hG, hF]; simp [Q3.out]), hbel⟩
            · have q2' : ((n2 : Int) == 4) = false := by simp; omega
              have Q2 := Lib.hid q2
              clear q2
              go_wp2_with fail
              go_ret
              exact ⟨ret_bool (by rw [HE.out, HF.out, hG, hF]; simp [Q2.out]), hbel⟩
          · have q1' : ((n1 : Int) == 16) = false := by simp; omega
            have Q1 := Lib.hid q1
            clear q1
            go_wp2_with fail
            go_ret
            exact ⟨ret_bool (by rw [HE.out, HF.out, hG, hF]; simp [Q1.out]), hbel⟩
end Go.Proofs.YtilldpoleiippaaGreatDoor
