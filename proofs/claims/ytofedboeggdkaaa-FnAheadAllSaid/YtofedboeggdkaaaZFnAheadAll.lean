/- The walk of FnAheadAll: it returns true for every code; no condition. | FnAheadAll: the law returns true for every input; no condition. -/
import Derived.Test.YtofedboeggdkaaaKI
import Derived.Test.YtofedboeggdkaaaKA
import Derived.ProofKit
import Derived.OpenShut
import Derived.ShutString
import Derived.ChangeOld
import Derived.Below
set_option linter.unusedSimpArgs false
set_option linter.unusedVariables false
/-! The walk of FnAheadAll: it returns true for every code; no condition. -/
namespace Go.Proofs.Ytofedboeggdkaaa.fnAheadAll
open Go.RowKit Go.Joins
attribute [local go_sem ↓] eql_rq neq_rq
/-- What is left behind k that were kept. -/
def keptAt (z : Ah) (k : Nat) : Ah := ⟨z.dn ++ z.wt.take k, z.wt.drop k, z.bk⟩
theorem keptAt_next {z : Ah} (hz : aheadB z = true) {k : Nat} (hk : k < z.wt.length) : keepA (keptAt z k) z.wt[k] = (keptAt z (k + 1), true) := kept_next hz k hk
theorem keptAt_small {z : Ah} (k : Nat) (h : z.dn.length + z.wt.length ≤ 13) : (keptAt z k).dn.length + (keptAt z k).wt.length ≤ 1048576 := by
  simp only [keptAt, List.length_append, List.length_take, List.length_drop]
  omega
theorem keptAt_zero (z : Ah) : keptAt z 0 = z := by simp [keptAt]

set_option maxRecDepth 100000 in
set_option maxHeartbeats 16000000 in
theorem walk (v0 : Value) (z0 : Bts) (w : World) (h0 : IsBytes w v0 z0) :
    Calls Try.prog 14 #[v0] w fun e w' => e = .returned (.bool true) ∧ Below w.heap.size w w' := by
  obtain ⟨a, n, cap⟩ := z0
  have HZ := Lib.hid h0
  obtain ⟨hv, hlc, hm, -⟩ := h0
  simp only at hv hlc hm
  subst hv
  by_cases hbig : (1048576 : Int) < n
  · go_enter Try.func14, Try.ntmps14
    go_wp2_with fail
    go_ret
    exact ⟨rfl, Below.refl _ _⟩
  · go_enter Try.func14, Try.ntmps14
    go_wp2_with fail
    refine (DrawAheadGame_c _ _ w HZ.out).mono ?_
    rintro e w1 ⟨z, a0, a1, c0, c1, rfl, h8, h5, r0, r1, k1⟩
    have s0 := r0.sl five_len
    have s1 := r1.sl five_len
    have CI := Lib.hid (fun V (k : Below w1.heap.size w1 V) => AheadGame_c z a0 a1 c0 c1 V (s0.below k) (s1.below k) (by omega))
    have CS := Lib.hid (fun V (k : Below w1.heap.size w1 V) => sAheadGame_c z a0 a1 c0 c1 V (s0.below k) (s1.below k) (by omega))
    have CG := Lib.hid (fun V (k : Below w1.heap.size w1 V) => AheadGame_c z a0 a1 c0 c1 V (s0.below k) (s1.below k) (by omega))
    have CO := Lib.hid (fun V (k : Below w1.heap.size w1 V) => AheadOk_c z a0 a1 c0 c1 V (s0.below k) (s1.below k) (by omega))
    have CF := Lib.hid (fun V (k : Below w1.heap.size w1 V) => GameFold_c a0 z.dn.length c0 z.dn V (s0.below k) rfl)
    have S0 := Lib.hid s0
    have S1 := Lib.hid s1
    have R0 := Lib.hid r0
    have R1 := Lib.hid r1
    have K1 := Lib.hid k1
    have SG := Lib.hid (sureA_gfold (z := z))
    have GG := Lib.hid (gameA_gfold (z := z))
    obtain ⟨n0, hn0⟩ : ∃ n0, n0 = z.dn.length := ⟨_, rfl⟩
    obtain ⟨n1, hn1⟩ : ∃ n1, n1 = z.wt.length := ⟨_, rfl⟩
    have HN0 := Lib.hid hn0.symm
    have HN1 := Lib.hid hn1.symm
    rw [← hn0] at CI CS CG CO CF S0 h8 ⊢
    rw [← hn1] at CI CS CG CO S1 h5 ⊢
    obtain ⟨y, hy⟩ : ∃ y, y = gameA z := ⟨_, rfl⟩
    have HYA := Lib.hid hy
    rw [← hy] at CI CS
    obtain ⟨ab, hab⟩ : ∃ ab, ab = aheadB z := ⟨_, rfl⟩
    have HAB := Lib.hid hab
    rw [← hab] at CO
    clear hn0 hn1 hy hab s0 s1 k1 HZ r0 r1
    go_wp2_with fail
    obtain ⟨w2, hw2, sw2, aB, k2⟩ := blocks1 w1 (.cells #[.slice a0 n0 c0, .slice a1 n1 c1, .int .i64 z.bk] 30)
    rw [← hw2]
    clear hw2 sw2
    refine (CI.out w2 k2).mono ?_
    rintro e w3' ⟨v, rfl, ov, k3⟩
    obtain ⟨e0, f0, e1, f1, e2, f2, rfl, o3⟩ := ov.rows
    go_wp2_with fail
    obtain ⟨w3, hw3, sw3, gB, k3'⟩ := blocks1 w3' (.cells #[.slice e0 y.es.length f0, .slice e1 y.fl.length f1, .slice e2 y.la.length f2] 46)
    rw [← hw3]
    clear hw3 sw3
    obtain ⟨A, hA⟩ : ∃ A, A = w1.heap.size := ⟨_, rfl⟩
    obtain ⟨G, hG⟩ : ∃ G, G = w3'.heap.size := ⟨_, rfl⟩
    have O3 := Lib.hid ((o3.below k3').low (Nat.zero_le _))
    have A3 := Lib.hid (carryN (below_next k3 k3') aB)
    have G3 := Lib.hid gB
    have W3 := Lib.hid (below_next k2 (below_next k3 k3'))
    rw [← hA] at A3 ⊢
    rw [← hG] at G3 ⊢
    clear k2 k3 k3' ov o3 aB gB hA hG
    have cA := cell_of_block A3.out
    have lA := lt_of_block A3.out
    have cG := cell_of_block G3.out
    have lG := lt_of_block G3.out
    refine wp_region_held_drew (S := fun w' => ((∀ b o, b < w3.heap.size → (w').cell? ⟨b, o, none⟩ = (w3).cell? ⟨b, o, none⟩) ∧ Below (w3.heap.size) (w3) (w'))) (by kernel_rfl) (KeptB.drew (KeptB.refl _ _)) (fun hHeld => ?_)
    refine wpAnyH_take (i := 0) (oi := _) (v := ?_) (by (simp only [List.getElem?_toArray]; rfl)) (by kernel_rfl) (by kernel_rfl) (by kernel_rfl) (by exact fun _ _ _ h => h) (Or.inl ⟨by rfl, ?_⟩) (by assumption) ?_
    rotate_left
    · intro wS hSw
      go_simp
      all_goals first | with_reducible rfl | rw [if_neg (by omega)]
    simp only [Act.put, List.setIfInBounds_toArray, List.set]
    refine wpAnyH_take (i := 1) (oi := _) (v := ?_) (by (simp only [List.getElem?_toArray]; rfl)) (by kernel_rfl) (by kernel_rfl) (by kernel_rfl) (by exact fun _ _ _ h => h) (Or.inl ⟨by rfl, ?_⟩) (by assumption) ?_
    rotate_left
    · intro wS hSw
      go_simp
      all_goals first | with_reducible rfl | rw [if_neg (by omega)]
    simp only [Act.put, List.setIfInBounds_toArray, List.set]
    have t0 := Lib.hid (KeptB.drew (KeptB.refl w3.heap.size w3))
    clear hHeld
    refine wpAnyH_ready (rs := [2]) (by kernel_rfl) (by simp) ?_
    refine AllReadyH.cons (o := _) (by (simp only [List.getElem?_toArray]; rfl)) (fun K hK => ?_) AllReadyH.nil
    go_simp
    refine (CS.out _ (below_next W3.out t0.out.2)).mono ?_
    rintro e u1 ⟨v1, rfl, ov1, kk⟩
    obtain ⟨p0, q0, p1, q1, p2, q2, rfl, o1⟩ := ov1.rows
    have t1 := Lib.hid (KeptB.next (Nat.le_refl _) t0.out kk)
    have Q1 := Lib.hid o1
    clear kk ov1 o1
    refine hK.out _ _ t1.out (fun hHeld => ?_)
    clear hK K
    try simp only [Act.put, List.setIfInBounds_toArray, List.set]
    clear hHeld
    refine wpAnyH_ready (rs := [3]) (by kernel_rfl) (by simp) ?_
    refine AllReadyH.cons (o := _) (by (simp only [List.getElem?_toArray]; rfl)) (fun K hK => ?_) AllReadyH.nil
    go_simp
    refine (wpGame_c y e0 e1 e2 p0 p1 p2 _ _ _ f0 f1 f2 q0 q1 q2 _ ((O3.out.below t1.out.2).e.sl five_len) ((O3.out.below t1.out.2).f.sl int_len) ((O3.out.below t1.out.2).l.sl int_len) (Q1.out.e.sl five_len) (Q1.out.f.sl int_len) (Q1.out.l.sl int_len)).mono ?_
    rintro e u2 ⟨rfl, kk⟩
    have t2 := Lib.hid (KeptB.next (Nat.le_refl _) t1.out kk)
    clear kk Q1
    refine hK.out _ _ t2.out (fun hHeld => ?_)
    clear hK K
    try simp only [Act.put, List.setIfInBounds_toArray, List.set]
    refine wpAnyH_take (i := 4) (oi := _) (v := ?_) (by (simp only [List.getElem?_toArray]; rfl)) (by kernel_rfl) (by kernel_rfl) (by kernel_rfl) (by exact fun _ _ _ h => h) (Or.inl ⟨by rfl, ?_⟩) (by assumption) ?_
    rotate_left
    · intro wS hSw
      go_simp
      all_goals first | with_reducible rfl | rw [if_neg (by omega)]
    simp only [Act.put, List.setIfInBounds_toArray, List.set]
    refine wpAnyH_take (i := 5) (oi := _) (v := ?_) (by (simp only [List.getElem?_toArray]; rfl)) (by kernel_rfl) (by kernel_rfl) (by kernel_rfl) (by exact fun _ _ _ h => h) (Or.inl ⟨by rfl, ?_⟩) (by assumption) ?_
    rotate_left
    · intro wS hSw
      go_simp
      all_goals first | with_reducible rfl | rw [if_neg (by omega)]
    simp only [Act.put, List.setIfInBounds_toArray, List.set]
    refine wpAnyH_take (i := 6) (oi := _) (v := ?_) (by (simp only [List.getElem?_toArray]; rfl)) (by kernel_rfl) (by kernel_rfl) (by kernel_rfl) (by exact fun _ _ _ h => h) (Or.inl ⟨by rfl, ?_⟩) (by assumption) ?_
    rotate_left
    · intro wS hSw
      go_simp
      all_goals first | with_reducible rfl | rw [if_neg (by omega)]
    simp only [Act.put, List.setIfInBounds_toArray, List.set]
    clear hHeld
    refine wpAnyH_ready (rs := [7]) (by kernel_rfl) (by simp) ?_
    refine AllReadyH.cons (o := _) (by (simp only [List.getElem?_toArray]; rfl)) (fun K hK => ?_) AllReadyH.nil
    go_simp
    refine (CO.out _ (below_next W3.out t2.out.2)).mono ?_
    rintro e w4 ⟨rfl, kk⟩
    have t4 := Lib.hid (KeptB.next (Nat.le_refl _) t2.out kk)
    clear kk
    refine hK.out _ _ t4.out (fun hHeld => ?_)
    clear hK K
    try simp only [Act.put, List.setIfInBounds_toArray, List.set]
    refine wpAnyH_take (i := 8) (oi := _) (v := ?_) (by (simp only [List.getElem?_toArray]; rfl)) (by kernel_rfl) (by kernel_rfl) (by kernel_rfl) (by exact fun _ _ _ h => h) (Or.inl ⟨by rfl, ?_⟩) (by assumption) ?_
    rotate_left
    · intro wS hSw
      go_simp
      all_goals first | with_reducible rfl | rw [if_neg (by omega)]
    simp only [Act.put, List.setIfInBounds_toArray, List.set]
    refine wpAnyH_take (i := 9) (oi := _) (v := ?_) (by (simp only [List.getElem?_toArray]; rfl)) (by kernel_rfl) (by kernel_rfl) (by kernel_rfl) (by exact fun _ _ _ h => h) (Or.inl ⟨by rfl, ?_⟩) (by assumption) ?_
    rotate_left
    · intro wS hSw
      go_simp
      all_goals first | with_reducible rfl | rw [if_neg (by omega)]
    simp only [Act.put, List.setIfInBounds_toArray, List.set]
    refine wpAnyH_done (by kernel_rfl) ?_ _
    have O4 := Lib.hid (O3.out.below t4.out.2)
    have W4 := Lib.hid (below_next W3.out t4.out.2)
    have G4 := Lib.hid (carryN t4.out.2 G3.out)
    have A4 := Lib.hid (carryN t4.out.2 A3.out)
    clear t0 t1 t2 t4 O3 W3 A3 G3 cA lA cG lG hHeld
    have cA := cell_of_block A4.out
    have lA := lt_of_block A4.out
    have cG := cell_of_block G4.out
    have lG := lt_of_block G4.out
    cases ab with
    | false =>
      go_wp2_with fail
      refine wp_region_held_drew (S := fun w' => ((∀ b o, b < w4.heap.size → (w').cell? ⟨b, o, none⟩ = (w4).cell? ⟨b, o, none⟩) ∧ Below (w4.heap.size) (w4) (w'))) (by kernel_rfl) (KeptB.drew (KeptB.refl _ _)) (fun hHeld => ?_)
      refine wpAnyH_take (i := 0) (oi := _) (v := ?_) (by (simp only [List.getElem?_toArray]; rfl)) (by kernel_rfl) (by kernel_rfl) (by kernel_rfl) (by exact fun _ _ _ h => h) (Or.inl ⟨by rfl, ?_⟩) (by assumption) ?_
      rotate_left
      · intro wS hSw
        go_simp
        all_goals first | with_reducible rfl | rw [if_neg (by omega)]
      simp only [Act.put, List.setIfInBounds_toArray, List.set]
      refine wpAnyH_take (i := 1) (oi := _) (v := ?_) (by (simp only [List.getElem?_toArray]; rfl)) (by kernel_rfl) (by kernel_rfl) (by kernel_rfl) (by exact fun _ _ _ h => h) (Or.inl ⟨by rfl, ?_⟩) (by assumption) ?_
      rotate_left
      · intro wS hSw
        go_simp
        all_goals first | with_reducible rfl | rw [if_neg (by omega)]
      simp only [Act.put, List.setIfInBounds_toArray, List.set]
      have t0 := Lib.hid (KeptB.drew (KeptB.refl w4.heap.size w4))
      clear hHeld
      refine wpAnyH_ready (rs := [2]) (by kernel_rfl) (by simp) ?_
      refine AllReadyH.cons (o := _) (by (simp only [List.getElem?_toArray]; rfl)) (fun K hK => ?_) AllReadyH.nil
      go_simp
      refine (CS.out _ (below_next W4.out t0.out.2)).mono ?_
      rintro e u1 ⟨v1, rfl, ov1, kk⟩
      obtain ⟨p0, q0, p1, q1, p2, q2, rfl, o1⟩ := ov1.rows
      have t1 := Lib.hid (KeptB.next (Nat.le_refl _) t0.out kk)
      have Q1 := Lib.hid o1
      clear kk ov1 o1
      refine hK.out _ _ t1.out (fun hHeld => ?_)
      clear hK K
      try simp only [Act.put, List.setIfInBounds_toArray, List.set]
      clear hHeld
      refine wpAnyH_ready (rs := [3]) (by kernel_rfl) (by simp) ?_
      refine AllReadyH.cons (o := _) (by (simp only [List.getElem?_toArray]; rfl)) (fun K hK => ?_) AllReadyH.nil
      go_simp
      refine (wpGame_c y e0 e1 e2 p0 p1 p2 _ _ _ f0 f1 f2 q0 q1 q2 _ ((O4.out.below t1.out.2).e.sl five_len) ((O4.out.below t1.out.2).f.sl int_len) ((O4.out.below t1.out.2).l.sl int_len) (Q1.out.e.sl five_len) (Q1.out.f.sl int_len) (Q1.out.l.sl int_len)).mono ?_
      rintro e u2 ⟨rfl, kk⟩
      have t2 := Lib.hid (KeptB.next (Nat.le_refl _) t1.out kk)
      clear kk Q1
      refine hK.out _ _ t2.out (fun hHeld => ?_)
      clear hK K
      try simp only [Act.put, List.setIfInBounds_toArray, List.set]
      refine wpAnyH_take (i := 4) (oi := _) (v := ?_) (by (simp only [List.getElem?_toArray]; rfl)) (by kernel_rfl) (by kernel_rfl) (by kernel_rfl) (by exact fun _ _ _ h => h) (Or.inl ⟨by rfl, ?_⟩) (by assumption) ?_
      rotate_left
      · intro wS hSw
        go_simp
        all_goals first | with_reducible rfl | rw [if_neg (by omega)]
      simp only [Act.put, List.setIfInBounds_toArray, List.set]
      refine wpAnyH_done (by kernel_rfl) ?_ _
      have K5 := Lib.hid (below_next K1.out (below_next W4.out t2.out.2))
      clear t0 t1 t2 cG lG cA lA hHeld
      go_wp2_with fail
      go_ret
      exact ⟨rfl, K5.out⟩
    | true =>
      have HZZ := Lib.hid HAB.out.symm
      clear cG lG
      simp only [Bool.not_true]
      go_wp2_with fail
      go_loopw [5] (fun i wr => ∃ k : Nat, k ≤ n1 ∧ i = .int .i64 k ∧ Below w4.heap.size w4 wr) (fun i _ => n1 - (intOf i).toNat)
      case atStart => exact ⟨0, Nat.zero_le _, rfl, Below.refl _ _⟩
      case round =>
        obtain ⟨k, hk, rfl, hbel⟩ := hrel
        have KR := Lib.hid hbel
        have AR := Lib.hid (carryN hbel A4.out)
        clear cA lA
        have cA := cell_of_block AR.out
        have lA := lt_of_block AR.out
        have SR := Lib.hid (S1.out.below (below_next W4.out hbel))
        obtain ⟨hsl, hlc, hmx, hrows⟩ := SR.out.bounds
        unfold maxLen at hmx
        clear hbel hsl
        by_cases hlt : k < n1
        · have hkz : k < z.wt.length := by have := HN1.out; omega
          have hk1 : (k : Int) < (n1 : Int) := by omega
          have hk0 : (0 : Int) ≤ (k : Int) := by omega
          have hwk : IntKind.i64.wrap ((k : Int) + 1) = (k : Int) + 1 := IntWalk.i64_in _ ⟨by omega, by omega⟩
          obtain ⟨bb, oo, rfl, hl0, hc0⟩ := hrows k hkz
          have q0 := hc0 0 (by decide)
          have q1 := hc0 1 (by decide)
          have q2 := hc0 2 (by decide)
          have q3 := hc0 3 (by decide)
          have q4 := hc0 4 (by decide)
          obtain ⟨r, hr⟩ : ∃ r, r = z.wt[k] := ⟨_, rfl⟩
          rw [← hr] at q0 q1 q2 q3 q4
          replace q0 : wr.cell? ⟨bb, oo + k * 5, none⟩ = some (.int .i64 r.c) := q0
          replace q1 : wr.cell? ⟨bb, oo + k * 5 + 1, none⟩ = some (.int .i64 r.n) := q1
          replace q2 : wr.cell? ⟨bb, oo + k * 5 + 2, none⟩ = some (.int .i64 r.o) := q2
          replace q3 : wr.cell? ⟨bb, oo + k * 5 + 3, none⟩ = some (.int .i64 r.x) := q3
          replace q4 : wr.cell? ⟨bb, oo + k * 5 + 4, none⟩ = some (.int .i64 r.y) := q4
          clear hr hc0 hrows
          cases hq : eqR r.c r.n r.o r.x r.y 0 0 0 0 0 with
          | true =>
            go_wp2_with fail
            go_ret
            exact ⟨rfl, below_next K1.out (below_next W4.out KR.out)⟩
          | false =>
            go_wp2_with fail
            go_roundw
            case rel => exact ⟨k + 1, by omega, by go_num, KR.out⟩
            case measure => simp [intOf]; omega
        · have hkk : k = n1 := by omega
          subst hkk
          clear hrows
          go_wp2_with fail
          obtain ⟨w5, hw5, sw5, xB, k5⟩ := blocks1 wr (.cells #[.slice a0 n0 c0, .slice a1 k c1, .int .i64 z.bk] 30)
          rw [← hw5]
          clear hw5 sw5
          have W5 := Lib.hid (below_next W4.out (below_next KR.out k5))
          have G5 := Lib.hid (carryN (below_next KR.out k5) G4.out)
          have A5 := Lib.hid (carryN (below_next KR.out k5) A4.out)
          have O5 := Lib.hid (O4.out.below (below_next KR.out k5))
          obtain ⟨X, hX⟩ : ∃ X, X = wr.heap.size := ⟨_, rfl⟩
          have HAX := Lib.hid (show A < X by rw [hX]; exact lt_of_block AR.out)
          have HGX := Lib.hid (show G < X by rw [hX]; exact lt_of_block (carryN KR.out G4.out))
          have HWX := Lib.hid (show w1.heap.size ≤ X by rw [hX]; exact (below_next W4.out KR.out).size)
          have KX := Lib.hid (show Below X wr w5 by rw [hX]; exact k5)
          have WR := Lib.hid (below_next W4.out KR.out)
          have GR := Lib.hid (carryN KR.out G4.out)
          have OR := Lib.hid (O4.out.below KR.out)
          have HSX := Lib.hid hX.symm
          rw [← hX] at xB ⊢
          have XB := Lib.hid xB
          have hzl : z.dn.length + z.wt.length ≤ 13 := by rw [HN0.out, HN1.out]; omega
          have HZL := Lib.hid hzl
          clear k5 xB cA lA hX hzl W4 G4 A4 O4 KR SR hlt
          obtain ⟨wq, hwq⟩ : ∃ V, V = wr := ⟨_, rfl⟩
          subst hwq
          go_loopw [7] (fun i wv => ∃ (k' : Nat) (y' : Ah) (b0 b1 : Option Addr) (d0 d1 : Nat), k' ≤ k ∧ i = .int .i64 k' ∧ y' = keptAt z k' ∧ wv.heap[X]? = some (.cells #[.slice b0 y'.dn.length d0, .slice b1 y'.wt.length d1, .int .i64 y'.bk] 30 (0, 0)) ∧
              Row wv 0 34 b0 d0 5 Rq.cs y'.dn ∧ Row wv 0 34 b1 d1 5 Rq.cs y'.wt ∧ Below X wq wv ∧ X < wv.heap.size) (fun i _ => k - (intOf i).toNat)
          case atStart =>
            refine ⟨0, keptAt z 0, a0, a1, c0, c1, Nat.zero_le _, rfl, rfl, ?_, ?_, ?_, KX.out, lt_of_block XB.out⟩
            · rw [keptAt_zero, HN0.out, HN1.out]; exact XB.out
            · rw [keptAt_zero]; exact ((R0.out.below W5.out).low (Nat.zero_le _))
            · rw [keptAt_zero]; exact ((R1.out.below W5.out).low (Nat.zero_le _))
          case round =>
            obtain ⟨k', y', b0, b1, d0, d1, hk', rfl, hy', hX', hr0, hr1, hbx, hxs⟩ := hrel
            have XR := Lib.hid hX'
            have RR0 := Lib.hid hr0
            have RR1 := Lib.hid hr1
            have KV := Lib.hid hbx
            have HY' := Lib.hid hy'
            have hsz : X ≤ wr.heap.size := by omega
            have hWV := below_next WR.out (HSX.out ▸ hbx)
            have WV := Lib.hid hWV
            have AV := Lib.hid (carryN (HSX.out ▸ hbx) AR.out)
            have SV := Lib.hid (S1.out.below hWV)
            have hax := HAX.out
            clear hX' hr0 hr1 hbx hy'
            have cA := cell_of_block AV.out
            have lA := lt_of_block AV.out
            obtain ⟨hsl, hlc, hmx, hrows⟩ := SV.out.bounds
            unfold maxLen at hmx
            clear hsl
            by_cases hlt : k' < k
            · have hkz : k' < z.wt.length := by have := HN1.out; omega
              have hk1 : (k' : Int) < (k : Int) := by omega
              have hk0 : (0 : Int) ≤ (k' : Int) := by omega
              have hwk : IntKind.i64.wrap ((k' : Int) + 1) = (k' : Int) + 1 := IntWalk.i64_in _ ⟨by omega, by omega⟩
              obtain ⟨F, oo, rfl, -, -⟩ := hrows k' hkz
              obtain ⟨FB, hFB⟩ : ∃ FB, FB = F := ⟨_, rfl⟩
              obtain ⟨gF, curF, hgF, -, hbF, hcF, hqF⟩ := (R1.out.below hWV).own (by have := (R1.out).len; omega)
              injection hgF with hgF
              injection hgF with hgF1 hgF2
              subst hgF1 hgF2
              have hFX : F < X := by have := (R1.out.blk (show rowBlk (some ⟨F, 0, none⟩) c1 = some F by have := R1.out.len; simp [rowBlk]; omega)).2; have := HWX.out; omega
              have cel := cell_of_block hbF
              have q0 : wr.cell? ⟨F, k' * 5, none⟩ = some (.int .i64 z.wt[k'].c) := (cel _).trans ((hqF _ (by omega)).trans (flat_get five_len z.wt k' hkz 0 (by decide)))
              have q1 : wr.cell? ⟨F, k' * 5 + 1, none⟩ = some (.int .i64 z.wt[k'].n) := (cel _).trans ((hqF _ (by omega)).trans (flat_get five_len z.wt k' hkz 1 (by decide)))
              have q2 : wr.cell? ⟨F, k' * 5 + 2, none⟩ = some (.int .i64 z.wt[k'].o) := (cel _).trans ((hqF _ (by omega)).trans (flat_get five_len z.wt k' hkz 2 (by decide)))
              have q3 : wr.cell? ⟨F, k' * 5 + 3, none⟩ = some (.int .i64 z.wt[k'].x) := (cel _).trans ((hqF _ (by omega)).trans (flat_get five_len z.wt k' hkz 3 (by decide)))
              have q4 : wr.cell? ⟨F, k' * 5 + 4, none⟩ = some (.int .i64 z.wt[k'].y) := (cel _).trans ((hqF _ (by omega)).trans (flat_get five_len z.wt k' hkz 4 (by decide)))
              have CK := Lib.hid (fun V (h0 : Row V 0 34 b0 d0 5 Rq.cs y'.dn) (h1 : Row V 0 34 b1 d1 5 Rq.cs y'.wt) => AheadKeep_c y' z.wt[k'] b0 b1 d0 d1 V (h0.sl five_len) (h1.sl five_len) (by rw [HY'.out]; exact keptAt_small k' HZL.out))
              have hnx := keptAt_next HZZ.out hkz
              rw [← HY'.out] at hnx
              rw [hnx] at CK
              obtain ⟨y2, hy2⟩ : ∃ y2, y2 = keptAt z (k' + 1) := ⟨_, rfl⟩
              rw [← hy2] at CK
              have HY2 := Lib.hid hy2
              obtain ⟨r, hr⟩ : ∃ r, r = z.wt[k'] := ⟨_, rfl⟩
              rw [← hr] at q0 q1 q2 q3 q4 CK
              clear hr hnx hy2 hrows cel hqF hcF hbF hFB FB
              have cX := cell_of_block XR.out
              have fX := unfrozen_of_block XR.out
              have lX := lt_of_block XR.out
              go_wp2_with fail
              refine wp_region_held_drew (S := fun w' => ((∀ b o, b < X → (w').cell? ⟨b, o, none⟩ = (wr).cell? ⟨b, o, none⟩) ∧ Below (X) (wr) (w'))) (by kernel_rfl) (KeptB.drew (KeptB.refl _ _)) (fun hHeld => ?_)
              refine wpAnyH_take (i := 1) (oi := _) (v := ?_) (by (simp only [List.getElem?_toArray]; rfl)) (by kernel_rfl) (by kernel_rfl) (by kernel_rfl) (by exact fun _ _ _ h => h) (Or.inl ⟨by rfl, ?_⟩) (by assumption) ?_
              rotate_left
              · intro wS hSw
                go_simp
                all_goals first | with_reducible rfl | rw [if_neg (by omega)]
              simp only [Act.put, List.setIfInBounds_toArray, List.set]
              refine wpAnyH_take (i := 2) (oi := _) (v := ?_) (by (simp only [List.getElem?_toArray]; rfl)) (by kernel_rfl) (by kernel_rfl) (by kernel_rfl) (by exact fun _ _ _ h => h) (Or.inl ⟨by rfl, ?_⟩) (by assumption) ?_
              rotate_left
              · intro wS hSw
                go_simp
                all_goals first | with_reducible rfl | rw [if_neg (by omega)]
              simp only [Act.put, List.setIfInBounds_toArray, List.set]
              refine wpAnyH_take (i := 3) (oi := _) (v := ?_) (by (simp only [List.getElem?_toArray]; rfl)) (by kernel_rfl) (by kernel_rfl) (by kernel_rfl) (by exact fun _ _ _ h => h) (Or.inl ⟨by rfl, ?_⟩) (by assumption) ?_
              rotate_left
              · intro wS hSw
                go_simp
                all_goals first | with_reducible rfl | rw [if_neg (by omega)]
              simp only [Act.put, List.setIfInBounds_toArray, List.set]
              refine wpAnyH_take (i := 4) (oi := _) (v := ?_) (by (simp only [List.getElem?_toArray]; rfl)) (by kernel_rfl) (by kernel_rfl) (by kernel_rfl) (by exact fun _ _ _ h => h) (Or.inl ⟨by rfl, ?_⟩) (by assumption) ?_
              rotate_left
              · intro wS hSw
                go_simp
                all_goals first | with_reducible rfl | rw [if_neg (by omega)]
              simp only [Act.put, List.setIfInBounds_toArray, List.set]
              refine wpAnyH_take (i := 5) (oi := _) (v := ?_) (by (simp only [List.getElem?_toArray]; rfl)) (by kernel_rfl) (by kernel_rfl) (by kernel_rfl) (by exact fun _ _ _ h => h) (Or.inl ⟨by rfl, ?_⟩) (by assumption) ?_
              rotate_left
              · intro wS hSw
                go_simp
                all_goals first | with_reducible rfl | rw [if_neg (by omega)]
              simp only [Act.put, List.setIfInBounds_toArray, List.set]
              have t0 := Lib.hid (KeptB.drew (KeptB.refl wr.heap.size wr))
              clear hHeld
              refine wpAnyH_ready (rs := [0]) (by kernel_rfl) (by simp) ?_
              refine AllReadyH.cons (o := _) (by (simp only [List.getElem?_toArray]; rfl)) (fun K hK => ?_) AllReadyH.nil
              go_simp
              refine hK.out _ _ (KeptB.weak t0.out hsz) (fun hHeld => ?_)
              clear hK K
              try simp only [Act.put, List.setIfInBounds_toArray, List.set]
              clear hHeld
              refine wpAnyH_ready (rs := [6]) (by kernel_rfl) (by simp) ?_
              refine AllReadyH.cons (o := _) (by (simp only [List.getElem?_toArray]; rfl)) (fun K hK => ?_) AllReadyH.nil
              go_simp
              refine (CK.out _ (RR0.out.below t0.out.2) (RR1.out.below t0.out.2)).mono ?_
              rintro e u1 ⟨i0, i1, rfl, p0, p1, -, kk⟩
              have t1 := Lib.hid (KeptB.next (Nat.le_refl _) t0.out kk)
              have X1 := Lib.hid (carryN t1.out.2 XR.out)
              have P0 := Lib.hid p0
              have P1 := Lib.hid p1
              have HSU := Lib.hid (show X < wr.drew.heap.size from hxs)
              clear kk p0 p1 cX lX fX q0 q1 q2 q3 q4
              refine hK.out _ _ (KeptB.weak t1.out hsz) (fun hHeld => ?_)
              clear hK K
              try simp only [Act.put, List.setIfInBounds_toArray, List.set]
              refine wpAnyH_take (i := 7) (oi := _) (v := ?_) (by (simp only [List.getElem?_toArray]; rfl)) (by kernel_rfl) (by kernel_rfl) (by kernel_rfl) (by exact fun _ _ _ h => h) (Or.inl ⟨by rfl, ?_⟩) (by assumption) ?_
              rotate_left
              · intro wS hSw
                go_simp
                all_goals first | with_reducible rfl | rw [if_neg (by omega)]
              simp only [Act.put, List.setIfInBounds_toArray, List.set]
              refine wpAnyH_take (i := 8) (oi := _) (v := ?_) (by (simp only [List.getElem?_toArray]; rfl)) (by kernel_rfl) (by kernel_rfl) (by kernel_rfl) (by exact fun _ _ _ h => h) (Or.inl ⟨by rfl, ?_⟩) (by assumption) ?_
              rotate_left
              · intro wS hSw
                go_simp
                all_goals first | with_reducible rfl | rw [if_neg (by omega)]
              simp only [Act.put, List.setIfInBounds_toArray, List.set]
              refine wpAnyH_take (i := 9) (oi := _) (v := ?_) (by (simp only [List.getElem?_toArray]; rfl)) (by kernel_rfl) (by kernel_rfl) (by kernel_rfl) (by exact fun _ _ _ h => h) (Or.inl ⟨by rfl, ?_⟩) (by assumption) ?_
              rotate_left
              · intro wS hSw
                go_simp
                all_goals first | with_reducible rfl | rw [if_neg (by omega)]
              simp only [Act.put, List.setIfInBounds_toArray, List.set]
              clear hHeld
              have cX := cell_of_block X1.out
              have lX := lt_of_block X1.out
              have fX := unfrozen_of_block X1.out
              refine wpAnyH_ready (rs := [10]) (by kernel_rfl) (by simp) ?_
              refine AllReadyH.cons (o := _) (by (simp only [List.getElem?_toArray]; rfl)) (fun K hK => ?_) AllReadyH.nil
              go_simp
              refine hK.out _ _ (KeptB.set (by simp) _ (KeptB.set (by simp) _ (KeptB.set (by simp) _ (KeptB.weak t1.out hsz)))) (fun hHeld => ?_)
              clear hK K
              try simp only [Act.put, List.setIfInBounds_toArray, List.set]
              refine wpAnyH_done (by kernel_rfl) ?_ _
              have K7 := Lib.hid (KV.out.trans (t1.out.2.mono hsz))
              clear hHeld cX lX fX t0 t1 XR
              go_wp2_with fail
              go_roundw
              case rel =>
                refine ⟨k' + 1, y2, i0, i1, y2.dn.length, y2.wt.length, by omega, ?_, HY2.out, ?_, ?_, ?_, ?_, ?_⟩
                · go_num
                · exact block_set3 X1.out _ _ _
                · exact (((P0.out.setOther (by simp; have := HSU.out; simp at this; omega) _).setOther (by simp; have := HSU.out; simp at this; omega) _).setOther (by simp; have := HSU.out; simp at this; omega) _).low (Nat.zero_le _)
                · exact (((P1.out.setOther (by simp; have := HSU.out; simp at this; omega) _).setOther (by simp; have := HSU.out; simp at this; omega) _).setOther (by simp; have := HSU.out; simp at this; omega) _).low (Nat.zero_le _)
                · exact below_set3 K7.out (Nat.le_refl _) _ _ _
                · have := lt_of_block X1.out; simpa using this
              case measure => simp [intOf]; omega
            · have hkk : k' = k := by omega
              subst hkk
              have hsu : sureA y' = y := by rw [HY'.out, HYA.out, ← kept_all HZZ.out, HN1.out]; rfl
              have hl0 : y'.wt.length = 0 := by rw [HY'.out]; simp [keptAt]; have := HN1.out; omega
              have hbk : y'.bk = z.bk := by rw [HY'.out]; rfl
              have CZ := Lib.hid (fun V (k : Below wr.heap.size wr V) => AheadSure_c y' b0 b1 d0 d1 V ((RR0.out.below k).sl five_len) ((RR1.out.below k).sl five_len) (by rw [HY'.out]; exact keptAt_small k' HZL.out))
              rw [hsu, hl0, hbk] at CZ
              rw [hl0, hbk] at XR
              have GV := Lib.hid (carryN (HSX.out ▸ KV.out) GR.out)
              have OV := Lib.hid (OR.out.below (HSX.out ▸ KV.out))
              clear hsu hl0 hbk hrows
              have cX := cell_of_block XR.out
              have lX := lt_of_block XR.out
              have cG := cell_of_block GV.out
              have lG := lt_of_block GV.out
              go_wp2_with fail
              refine wp_region_held_drew (S := fun w' => ((∀ b o, b < wr.heap.size → (w').cell? ⟨b, o, none⟩ = (wr).cell? ⟨b, o, none⟩) ∧ Below (wr.heap.size) (wr) (w'))) (by kernel_rfl) (KeptB.drew (KeptB.refl _ _)) (fun hHeld => ?_)
              refine wpAnyH_take (i := 0) (oi := _) (v := ?_) (by (simp only [List.getElem?_toArray]; rfl)) (by kernel_rfl) (by kernel_rfl) (by kernel_rfl) (by exact fun _ _ _ h => h) (Or.inl ⟨by rfl, ?_⟩) (by assumption) ?_
              rotate_left
              · intro wS hSw
                go_simp
                all_goals first | with_reducible rfl | rw [if_neg (by omega)]
              simp only [Act.put, List.setIfInBounds_toArray, List.set]
              refine wpAnyH_take (i := 2) (oi := _) (v := ?_) (by (simp only [List.getElem?_toArray]; rfl)) (by kernel_rfl) (by kernel_rfl) (by kernel_rfl) (by exact fun _ _ _ h => h) (Or.inl ⟨by rfl, ?_⟩) (by assumption) ?_
              rotate_left
              · intro wS hSw
                go_simp
                all_goals first | with_reducible rfl | rw [if_neg (by omega)]
              simp only [Act.put, List.setIfInBounds_toArray, List.set]
              have t0 := Lib.hid (KeptB.drew (KeptB.refl wr.heap.size wr))
              clear hHeld
              refine wpAnyH_ready (rs := [1]) (by kernel_rfl) (by simp) ?_
              refine AllReadyH.cons (o := _) (by (simp only [List.getElem?_toArray]; rfl)) (fun K hK => ?_) AllReadyH.nil
              go_simp
              refine (CZ.out _ t0.out.2).mono ?_
              rintro e u1 ⟨v1, rfl, ov1, kk⟩
              obtain ⟨p0, q0, p1, q1, p2, q2, rfl, o1⟩ := ov1.rows
              have t1 := Lib.hid (KeptB.next (Nat.le_refl _) t0.out kk)
              have Q1 := Lib.hid o1
              clear kk ov1 o1
              refine hK.out _ _ t1.out (fun hHeld => ?_)
              clear hK K
              try simp only [Act.put, List.setIfInBounds_toArray, List.set]
              clear hHeld
              refine wpAnyH_ready (rs := [3]) (by kernel_rfl) (by simp) ?_
              refine AllReadyH.cons (o := _) (by (simp only [List.getElem?_toArray]; rfl)) (fun K hK => ?_) AllReadyH.nil
              go_simp
              refine (wpGame_c y p0 p1 p2 e0 e1 e2 _ _ _ q0 q1 q2 f0 f1 f2 _ (Q1.out.e.sl five_len) (Q1.out.f.sl int_len) (Q1.out.l.sl int_len) ((OV.out.below t1.out.2).e.sl five_len) ((OV.out.below t1.out.2).f.sl int_len) ((OV.out.below t1.out.2).l.sl int_len)).mono ?_
              rintro e u2 ⟨rfl, kk⟩
              have t2 := Lib.hid (KeptB.next (Nat.le_refl _) t1.out kk)
              clear kk Q1
              refine hK.out _ _ t2.out (fun hHeld => ?_)
              clear hK K
              try simp only [Act.put, List.setIfInBounds_toArray, List.set]
              refine wpAnyH_take (i := 4) (oi := _) (v := ?_) (by (simp only [List.getElem?_toArray]; rfl)) (by kernel_rfl) (by kernel_rfl) (by kernel_rfl) (by exact fun _ _ _ h => h) (Or.inl ⟨by rfl, ?_⟩) (by assumption) ?_
              rotate_left
              · intro wS hSw
                go_simp
                all_goals first | with_reducible rfl | rw [if_neg (by omega)]
              simp only [Act.put, List.setIfInBounds_toArray, List.set]
              refine wpAnyH_take (i := 5) (oi := _) (v := ?_) (by (simp only [List.getElem?_toArray]; rfl)) (by kernel_rfl) (by kernel_rfl) (by kernel_rfl) (by exact fun _ _ _ h => h) (Or.inl ⟨by rfl, ?_⟩) (by assumption) ?_
              rotate_left
              · intro wS hSw
                go_simp
                all_goals first | with_reducible rfl | rw [if_neg (by omega)]
              simp only [Act.put, List.setIfInBounds_toArray, List.set]
              refine wpAnyH_take (i := 6) (oi := _) (v := ?_) (by (simp only [List.getElem?_toArray]; rfl)) (by kernel_rfl) (by kernel_rfl) (by kernel_rfl) (by exact fun _ _ _ h => h) (Or.inl ⟨by rfl, ?_⟩) (by assumption) ?_
              rotate_left
              · intro wS hSw
                go_simp
                all_goals first | with_reducible rfl | rw [if_neg (by omega)]
              simp only [Act.put, List.setIfInBounds_toArray, List.set]
              refine wpAnyH_take (i := 7) (oi := _) (v := ?_) (by (simp only [List.getElem?_toArray]; rfl)) (by kernel_rfl) (by kernel_rfl) (by kernel_rfl) (by exact fun _ _ _ h => h) (Or.inl ⟨by rfl, ?_⟩) (by assumption) ?_
              rotate_left
              · intro wS hSw
                go_simp
                all_goals first | with_reducible rfl | rw [if_neg (by omega)]
              simp only [Act.put, List.setIfInBounds_toArray, List.set]
              refine wpAnyH_take (i := 8) (oi := _) (v := ?_) (by (simp only [List.getElem?_toArray]; rfl)) (by kernel_rfl) (by kernel_rfl) (by kernel_rfl) (by exact fun _ _ _ h => h) (Or.inl ⟨by rfl, ?_⟩) (by assumption) ?_
              rotate_left
              · intro wS hSw
                go_simp
                all_goals first | with_reducible rfl | rw [if_neg (by omega)]
              simp only [Act.put, List.setIfInBounds_toArray, List.set]
              refine wpAnyH_take (i := 9) (oi := _) (v := ?_) (by (simp only [List.getElem?_toArray]; rfl)) (by kernel_rfl) (by kernel_rfl) (by kernel_rfl) (by exact fun _ _ _ h => h) (Or.inl ⟨by rfl, ?_⟩) (by assumption) ?_
              rotate_left
              · intro wS hSw
                go_simp
                all_goals first | with_reducible rfl | rw [if_neg (by omega)]
              simp only [Act.put, List.setIfInBounds_toArray, List.set]
              refine wpAnyH_take (i := 10) (oi := _) (v := ?_) (by (simp only [List.getElem?_toArray]; rfl)) (by kernel_rfl) (by kernel_rfl) (by kernel_rfl) (by exact fun _ _ _ h => h) (Or.inl ⟨by rfl, ?_⟩) (by assumption) ?_
              rotate_left
              · intro wS hSw
                go_simp
                all_goals first | with_reducible rfl | rw [if_neg (by omega)]
              simp only [Act.put, List.setIfInBounds_toArray, List.set]
              refine wpAnyH_take (i := 11) (oi := _) (v := ?_) (by (simp only [List.getElem?_toArray]; rfl)) (by kernel_rfl) (by kernel_rfl) (by kernel_rfl) (by exact fun _ _ _ h => h) (Or.inl ⟨by rfl, ?_⟩) (by assumption) ?_
              rotate_left
              · intro wS hSw
                go_simp
                all_goals first | with_reducible rfl | rw [if_neg (by omega)]
              simp only [Act.put, List.setIfInBounds_toArray, List.set]
              refine wpAnyH_take (i := 12) (oi := _) (v := ?_) (by (simp only [List.getElem?_toArray]; rfl)) (by kernel_rfl) (by kernel_rfl) (by kernel_rfl) (by exact fun _ _ _ h => h) (Or.inl ⟨by rfl, ?_⟩) (by assumption) ?_
              rotate_left
              · intro wS hSw
                go_simp
                all_goals first | with_reducible rfl | rw [if_neg (by omega)]
              simp only [Act.put, List.setIfInBounds_toArray, List.set]
              refine wpAnyH_take (i := 13) (oi := _) (v := ?_) (by (simp only [List.getElem?_toArray]; rfl)) (by kernel_rfl) (by kernel_rfl) (by kernel_rfl) (by exact fun _ _ _ h => h) (Or.inl ⟨by rfl, ?_⟩) (by assumption) ?_
              rotate_left
              · intro wS hSw
                go_simp
                all_goals first | with_reducible rfl | rw [if_neg (by omega)]
              simp only [Act.put, List.setIfInBounds_toArray, List.set]
              refine wpAnyH_take (i := 14) (oi := _) (v := ?_) (by (simp only [List.getElem?_toArray]; rfl)) (by kernel_rfl) (by kernel_rfl) (by kernel_rfl) (by exact fun _ _ _ h => h) (Or.inl ⟨by rfl, ?_⟩) (by assumption) ?_
              rotate_left
              · intro wS hSw
                go_simp
                all_goals first | with_reducible rfl | rw [if_neg (by omega)]
              simp only [Act.put, List.setIfInBounds_toArray, List.set]
              refine wpAnyH_take (i := 15) (oi := _) (v := ?_) (by (simp only [List.getElem?_toArray]; rfl)) (by kernel_rfl) (by kernel_rfl) (by kernel_rfl) (by exact fun _ _ _ h => h) (Or.inl ⟨by rfl, ?_⟩) (by assumption) ?_
              rotate_left
              · intro wS hSw
                go_simp
                all_goals first | with_reducible rfl | rw [if_neg (by omega)]
              simp only [Act.put, List.setIfInBounds_toArray, List.set]
              refine wpAnyH_take (i := 16) (oi := _) (v := ?_) (by (simp only [List.getElem?_toArray]; rfl)) (by kernel_rfl) (by kernel_rfl) (by kernel_rfl) (by exact fun _ _ _ h => h) (Or.inl ⟨by rfl, ?_⟩) (by assumption) ?_
              rotate_left
              · intro wS hSw
                go_simp
                all_goals first | with_reducible rfl | rw [if_neg (by omega)]
              simp only [Act.put, List.setIfInBounds_toArray, List.set]
              refine wpAnyH_take (i := 17) (oi := _) (v := ?_) (by (simp only [List.getElem?_toArray]; rfl)) (by kernel_rfl) (by kernel_rfl) (by kernel_rfl) (by exact fun _ _ _ h => h) (Or.inl ⟨by rfl, ?_⟩) (by assumption) ?_
              rotate_left
              · intro wS hSw
                go_simp
                all_goals first | with_reducible rfl | rw [if_neg (by omega)]
              simp only [Act.put, List.setIfInBounds_toArray, List.set]
              refine wpAnyH_done (by kernel_rfl) ?_ _
              have K9 := Lib.hid (below_next K1.out (below_next WV.out t2.out.2))
              clear t0 t1 t2 cG lG cA lA cX lX hHeld
              go_wp2_with fail
              go_ret
              exact ⟨rfl, K9.out⟩
end Go.Proofs.Ytofedboeggdkaaa.fnAheadAll

/-! FnAheadAll: the law returns true for every input; no condition. -/
namespace Go.Proofs.Ytofedboeggdkaaa.fnAheadAll
open Go.ChangeShapes hiding open_int
open Go.WideShapes Go.ChangeAt Go.RowKit
open Go.ChangeMaps (shut_string)
set_option linter.unusedVariables false

theorem own : ownKnob Try.prog.godebug = none := by kernel_rfl
theorem laidOut : laidOutB Try.prog = true := by kernel_rfl

set_option maxRecDepth 100000 in
theorem lifted (os : Os) (started : os.Started) (H : Type) (enc : TypeId × Value → H) :
    ReturnsInHanded {} Try.checked os 14 .any (Rows.fnAheadAllSpec.pre6 enc Try.prog Try.f14 Rows.fnAheadAllRow.domain false) (Rows.fnAheadAllSpec.post enc Try.prog Try.f14 false true false false) := by
  refine returnsInHanded_of_change (C := Try.checked) own started (by kernel_rfl) Try.func14
    (ChangeSpec.witness6 (enc := enc) (C := Try.checked) false ⟨#[], #[.slice none 0 0], []⟩ 8 (by kernel_rfl) (by kernel_rfl) (by kernel_rfl) (by kernel_rfl)) ?_
  intro W base args ds gs before hval0 hW hcnd _
  have hval : ∀ (j : Nat) t v, Try.f14.params[j]? = some t → args[j]? = some v → Value.okWide Try.prog W .any base t v := hval0
  have hW' := hW
  obtain ⟨p, q, hA0, hV, rfl, hfz, hnd⟩ := hW
  have hA : DataW.TrodAll enc Try.prog W 0 (fun _ => true) true Try.f14.params.toList args.toList ds p := hA0
  rw [Try.params14] at hA hval
  obtain ⟨v0, vs0, d0, ds0, p0, q0, hargs, rfl, rfl, h0, r0⟩ := trodAll_cons hA
  obtain ⟨rfl, rfl, rfl⟩ := trodAll_nil r0
  obtain rfl : args = #[v0] := by cases args; simp_all
  obtain ⟨rfl, rfl⟩ := trodVars_none hV
  have lt0 : ∀ x ∈ p0, x.block < W.heap.size := by obtain ⟨m, hm⟩ := h0; exact DataW.trod_lt m _ _ _ hm
  obtain ⟨z0, o0⟩ := open_bytes (hval 0 39 v0 rfl rfl) h0
  clear hA0 hval0
  refine (walk v0 z0 W o0).mono fun e W' ⟨he, bel⟩ => ?_
  subst he
  exact ⟨_, rfl, _, _, _, [], _, [], hW', trodAll_mk1 (shut_bool Try.underlying4 _), (trodAll_cons_mk (Below.trod laidOut (by kernel_rfl) (of_decide_eq_true (by kernel_rfl)) h0 bel lt0) trodAll_mk0), rfl, bel.frame _, fun h => by cases h⟩

theorem over : Rows.fnAheadAllRow.holds Try.pinned (OpenSpec.ofChange Rows.fnAheadAllSpec) :=
  OpenClaim.holds_of_wide 14 Try.f14 rfl rfl rfl rfl rfl rfl rfl ⟨rfl, rfl, rfl, rfl, rfl⟩ rfl rfl rfl rfl rfl (by kernel_rfl) Try.func14 (by kernel_rfl)
    (of_decide_eq_true (by kernel_rfl)) (by unfold Func.isWrapper; first | (rw [if_pos (by decide +kernel)]; kernel_rfl) | (rw [if_neg (by decide +kernel)]; exact ⟨rfl, rfl⟩))
    (fun os started H enc _ => lifted os started H enc)

theorem proved : Rows.FnAheadAllSaid := over
end Go.Proofs.Ytofedboeggdkaaa.fnAheadAll
