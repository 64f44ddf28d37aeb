/- The walk of FnAheadCodes: it returns true for every code; no condition. | FnAheadCodes: the law returns true for every input; no condition. -/
import Derived.Test.YtofedboeggdkaaaKI
import Derived.Test.YtofedboeggdkaaaKA
import Derived.ProofKit
import Derived.OpenShut
import Derived.ShutString
import Derived.ChangeOld
import Derived.Below
set_option linter.unusedSimpArgs false
set_option linter.unusedVariables false
/-! The walk of FnAheadCodes: it returns true for every code; no condition. -/
namespace Go.Proofs.Ytofedboeggdkaaa.fnAheadCodes
open Go.RowKit Go.Joins
attribute [local go_sem ↓] eql_rq neq_rq

set_option maxRecDepth 100000 in
set_option maxHeartbeats 16000000 in
theorem walk (v0 : Value) (z0 : Bts) (w : World) (h0 : IsBytes w v0 z0) :
    Calls Try.prog 10 #[v0] w fun e w' => e = .returned (.bool true) ∧ Below w.heap.size w w' := by
  obtain ⟨a, n, cap⟩ := z0
  have HZ := Lib.hid h0
  obtain ⟨hv, hlc, hm, -⟩ := h0
  simp only at hv hlc hm
  subst hv
  by_cases hbig : (1048576 : Int) < n
  · go_enter Try.func10, Try.ntmps10
    go_wp2_with fail
    go_ret
    exact ⟨rfl, Below.refl _ _⟩
  · go_enter Try.func10, Try.ntmps10
    go_wp2_with fail
    refine (DrawAheadCodes_c _ _ w HZ.out).mono ?_
    rintro e w1 ⟨z, a0, a1, c0, c1, rfl, h8, h5, r0, r1, k1⟩
    have s0 := r0.sl five_len
    have s1 := r1.sl five_len
    have CI := Lib.hid (fun V (k : Below w1.heap.size w1 V) => AheadCodes_c z a0 a1 c0 c1 V (s0.below k) (s1.below k) (by omega))
    have CS := Lib.hid (fun V (k : Below w1.heap.size w1 V) => sAheadCodes_c z a0 a1 c0 c1 V (s0.below k) (s1.below k) (by omega))
    have CU := Lib.hid (fun V (k : Below w1.heap.size w1 V) => AheadSure_c z a0 a1 c0 c1 V (s0.below k) (s1.below k) (by omega))
    have CO := Lib.hid (fun V (k : Below w1.heap.size w1 V) => AheadOk_c z a0 a1 c0 c1 V (s0.below k) (s1.below k) (by omega))
    have S1 := Lib.hid s1
    have K1 := Lib.hid k1
    have FC := Lib.hid (fun h => codesA_first (z := z) h)
    obtain ⟨n0, hn0⟩ : ∃ n0, n0 = z.dn.length := ⟨_, rfl⟩
    obtain ⟨n1, hn1⟩ : ∃ n1, n1 = z.wt.length := ⟨_, rfl⟩
    have HN1 := Lib.hid hn1.symm
    rw [← hn0] at CI CS CU CO h8 ⊢
    rw [← hn1] at CI CS CU CO S1 h5 ⊢
    obtain ⟨cs, hcs⟩ : ∃ cs, cs = codesA z := ⟨_, rfl⟩
    rw [← hcs] at CI CS FC
    obtain ⟨m, hm1⟩ : ∃ m, m = cs.length := ⟨_, rfl⟩
    have HM := Lib.hid hm1.symm
    obtain ⟨ab, hab⟩ : ∃ ab, ab = aheadB z := ⟨_, rfl⟩
    have HAB := Lib.hid hab
    rw [← hab] at CO
    clear hn0 hn1 hab s0 s1 k1 HZ r0 r1 hcs
    go_wp2_with fail
    obtain ⟨w2, hw2, sw2, aB, k2⟩ := blocks1 w1 (.cells #[.slice a0 n0 c0, .slice a1 n1 c1, .int .i64 z.bk] 30)
    rw [← hw2]
    clear hw2 sw2
    refine (CI.out w2 k2).mono ?_
    unfold IntsOwn
    rw [← hm1]
    clear hm1
    rintro e w3 ⟨ac, cc, rfl, rc, k3⟩
    obtain ⟨A, hA⟩ : ∃ A, A = w1.heap.size := ⟨_, rfl⟩
    have A3 := Lib.hid (carryN k3 aB)
    have W3 := Lib.hid (below_next k2 k3)
    have RC := Lib.hid rc
    rw [← hA] at A3 ⊢
    clear k2 k3 aB rc hA
    have cA := cell_of_block A3.out
    have lA := lt_of_block A3.out
    go_wp2_with fail
    refine (CS.out w3 W3.out).mono ?_
    unfold IntsOwn
    rw [HM.out]
    rintro e w4 ⟨bc, dc, rfl, rb, k4⟩
    have A4 := Lib.hid (carryN k4 A3.out)
    have W4 := Lib.hid (below_next W3.out k4)
    have RC4 := Lib.hid (RC.out.below k4)
    have RB := Lib.hid rb
    clear k4 rb cA lA A3 W3 RC
    have cA := cell_of_block A4.out
    have lA := lt_of_block A4.out
    go_wp2_with fail
    refine (wpInts_c (.slice ac m cc) (.slice bc m dc) cs w4 (RC4.out.slG int_len HM.out) (RB.out.slG int_len HM.out)).mono ?_
    rintro e w5 ⟨rfl, k5⟩
    have A5 := Lib.hid (carryN k5 A4.out)
    have W5 := Lib.hid (below_next W4.out k5)
    have RC5 := Lib.hid (RC4.out.below k5)
    clear k5 cA lA A4 W4 RC4 RB
    have cA := cell_of_block A5.out
    have lA := lt_of_block A5.out
    go_wp2_with fail
    refine (CO.out w5 W5.out).mono ?_
    rintro e w6 ⟨rfl, k6⟩
    have A6 := Lib.hid (carryN k6 A5.out)
    have W6 := Lib.hid (below_next W5.out k6)
    have RC6 := Lib.hid (RC5.out.below k6)
    clear k6 cA lA A5 W5 RC5
    have cA := cell_of_block A6.out
    have lA := lt_of_block A6.out
    by_cases hq : ab = false ∨ n1 = 0
    · cases ab with
      | false =>
        go_wp2_with fail
        refine (CS.out w6 W6.out).mono ?_
        unfold IntsOwn
        rw [HM.out]
        rintro e w7 ⟨bc, dc, rfl, rb, k7⟩
        have W7 := Lib.hid (below_next W6.out k7)
        have RC7 := Lib.hid (RC6.out.below k7)
        have RB := Lib.hid rb
        clear k7 rb cA lA
        go_wp2_with fail
        refine (wpInts_c (.slice ac m cc) (.slice bc m dc) cs w7 (RC7.out.slG int_len HM.out) (RB.out.slG int_len HM.out)).mono ?_
        rintro e w8 ⟨rfl, k8⟩
        clear RB
        go_wp2_with fail
        go_ret
        exact ⟨rfl, below_next K1.out (below_next W7.out k8)⟩
      | true =>
        have h0 : n1 = 0 := by rcases hq with h | h; cases h; exact h
        subst h0
        clear hq
        go_wp2_with fail
        refine (CS.out w6 W6.out).mono ?_
        unfold IntsOwn
        rw [HM.out]
        rintro e w7 ⟨bc, dc, rfl, rb, k7⟩
        have W7 := Lib.hid (below_next W6.out k7)
        have RC7 := Lib.hid (RC6.out.below k7)
        have RB := Lib.hid rb
        clear k7 rb cA lA
        go_wp2_with fail
        refine (wpInts_c (.slice ac m cc) (.slice bc m dc) cs w7 (RC7.out.slG int_len HM.out) (RB.out.slG int_len HM.out)).mono ?_
        rintro e w8 ⟨rfl, k8⟩
        clear RB
        go_wp2_with fail
        go_ret
        exact ⟨rfl, below_next K1.out (below_next W7.out k8)⟩
    · have hab' : ab = true := by cases ab; exact absurd (.inl rfl) hq; rfl
      subst hab'
      have hn0 : ¬ n1 = 0 := fun h => hq (.inr h)
      have hni : ¬ ((n1 : Nat) : Int) = 0 := by omega
      have hnb : (((n1 : Nat) : Int) == 0) = false := by simp; omega
      clear hq
      have HZZ := Lib.hid HAB.out.symm
      have HGZ := Lib.hid (sureA_ok HZZ.out)
      obtain ⟨hcl, hcf⟩ := FC.out HZZ.out (by rw [HN1.out]; omega)
      rw [HM.out, HN1.out] at hcl
      subst hcl
      have HCF := Lib.hid hcf
      obtain ⟨hsl, hlc1, hmx, hrows⟩ := (S1.out.below W6.out).bounds
      unfold maxLen at hmx
      obtain ⟨k0, hk0⟩ : ∃ k0 : Nat, k0 = 0 := ⟨_, rfl⟩
      have hkz : k0 < z.wt.length := by rw [HN1.out]; omega
      obtain ⟨bb, oo, rfl, hl0, hc0⟩ := hrows k0 hkz
      have q0 := hc0 0 (by decide)
      have q1 := hc0 1 (by decide)
      have q2 := hc0 2 (by decide)
      have q3 := hc0 3 (by decide)
      have q4 := hc0 4 (by decide)
      have hgr := all_getG (aheadB_good HZZ.out).2.1 hkz
      have hcf' : cs[0]? = some (doG (sureA z) (z.wt[k0]'hkz)).2 := by rw [hcf]; subst hk0; rfl
      obtain ⟨r, hr⟩ : ∃ r, r = z.wt[k0]'hkz := ⟨_, rfl⟩
      rw [← hr] at q0 q1 q2 q3 q4 hgr hcf'
      rw [hk0, Nat.zero_mul, Nat.add_zero] at q0 q1 q2 q3 q4
      replace q0 : w6.cell? ⟨bb, oo, none⟩ = some (.int .i64 r.c) := q0
      replace q1 : w6.cell? ⟨bb, oo + 1, none⟩ = some (.int .i64 r.n) := q1
      replace q2 : w6.cell? ⟨bb, oo + 2, none⟩ = some (.int .i64 r.o) := q2
      replace q3 : w6.cell? ⟨bb, oo + 3, none⟩ = some (.int .i64 r.x) := q3
      replace q4 : w6.cell? ⟨bb, oo + 4, none⟩ = some (.int .i64 r.y) := q4
      clear hr hc0 hrows hcf hk0 hkz hsl
      obtain ⟨y, hy⟩ : ∃ y, y = sureA z := ⟨_, rfl⟩
      rw [← hy] at CU HGZ hcf'
      clear hy
      have CD := Lib.hid (fun (e0 e1 e2 : Option Addr) (f0 f1 f2 : Nat) V h0 h1 h2 => GameDoF_c y r e0 e1 e2 f0 f1 f2 V h0 h1 h2 (by have := gameB_lens4 HGZ.out; omega))
      rw [gameDo_yes HGZ.out hgr] at CD
      obtain ⟨pd, hpd⟩ : ∃ pd, pd = doG y r := ⟨_, rfl⟩
      rw [← hpd] at CD hcf'
      obtain ⟨y', c2⟩ := pd
      simp only at CD hcf'
      have HC0 := Lib.hid hcf'
      clear hpd hgr hcf'
      have hmi : (0 : Int) < ((m : Nat) : Int) := by omega
      have hmn : 0 < m := by omega
      have hmd : decide (0 < m) = true := by simpa using hmn
      have hmz : ¬ m = 0 := by omega
      go_wp2_with fail
      refine wp_region_held_drew (S := fun w' => ((∀ b o, b < w6.heap.size → (w').cell? ⟨b, o, none⟩ = (w6).cell? ⟨b, o, none⟩) ∧ Below (w6.heap.size) (w6) (w'))) (by kernel_rfl) (KeptB.drew (KeptB.refl _ _)) (fun hHeld => ?_)
      refine introFin2 (X := Xs) 0 #[true, true, true, true, true, true, true, true, true, true, true, true, true] (fun x' T => ((((((((((((T).setIfInBounds 35 (.agg #[.slice a0 n0 c0, .slice (some ⟨bb, oo, none⟩) m c1, .int .i64 z.bk])).setIfInBounds 36 (x'.v0)).setIfInBounds 40 (.agg #[.int .i64 r.c, .int .i64 r.n, .int .i64 r.o, .int .i64 r.x, .int .i64 r.y])).setIfInBounds 41 (.tuple #[.agg #[.slice x'.a0 y'.es.length x'.c0, .slice x'.a1 y'.fl.length x'.c1, .slice x'.a2 y'.la.length x'.c2], .int .i64 c2])).setIfInBounds 34 (.tuple #[.agg #[.slice x'.a0 y'.es.length x'.c0, .slice x'.a1 y'.fl.length x'.c1, .slice x'.a2 y'.la.length x'.c2], .int .i64 c2])).setIfInBounds 42 (.agg #[.slice x'.a0 y'.es.length x'.c0, .slice x'.a1 y'.fl.length x'.c1, .slice x'.a2 y'.la.length x'.c2])).setIfInBounds 43 (.int .i64 c2)).setIfInBounds 5 (.pointer (some ⟨x'.x, 0, none⟩))).setIfInBounds 6 (.int .i64 c2)).setIfInBounds 37 (.pointer (some ⟨A, 1, none⟩))).setIfInBounds 38 (.slice (some ⟨bb, oo, none⟩) m c1)).setIfInBounds 39 (.pointer (some ⟨bb, oo, none⟩))) (fun x' w' => (((∀ b o, b < w6.heap.size → (w').cell? ⟨b, o, none⟩ = (w6).cell? ⟨b, o, none⟩) ∧ Below (w6.heap.size) (w6) (w'))) ∧ w'.heap[x'.x]? = some (.cells #[.slice x'.a0 y'.es.length x'.c0, .slice x'.a1 y'.fl.length x'.c1, .slice x'.a2 y'.la.length x'.c2] 46 (0, 0)) ∧ w6.heap.size ≤ x'.x ∧ Own3 w' 0 x'.a0 x'.c0 x'.a1 x'.c1 x'.a2 x'.c2 y') ?_ (fun hfin => ?_)
      rotate_left
      · obtain ⟨wd, hwd, kwd⟩ : ∃ wd, wd = w6.drew ∧ Below w6.heap.size w6 wd := ⟨_, rfl, Below.drew (Below.refl _ _)⟩
        rw [← hwd] at hHeld ⊢
        clear hwd
        have RK := Lib.hid (KeptB.of kwd)
        clear kwd
        refine wpAnyH_take (i := 0) (oi := _) (v := ?_) (by (simp only [List.getElem?_toArray]; rfl)) (by kernel_rfl) (by kernel_rfl) (by kernel_rfl) (by exact fun _ _ _ h => h) (Or.inl ⟨by rfl, ?_⟩) (by assumption) ?_
        rotate_left
        · intro wS hSw
          go_simp
          all_goals first | with_reducible rfl | rw [if_neg (by omega)]
        simp only [Act.put, List.setIfInBounds_toArray, List.set]
        refine wpAnyH_take (i := 2) (oi := _) (v := ?_) (by (simp only [List.getElem?_toArray]; rfl)) (by kernel_rfl) (by kernel_rfl) (by kernel_rfl) (by exact fun _ _ _ h => h) (Or.inl ⟨by rfl, ?_⟩) (by assumption) ?_
        rotate_left
        · intro wS hSw
          go_simp
          all_goals first | with_reducible rfl | rw [if_neg (by omega)]
        simp only [Act.put, List.setIfInBounds_toArray, List.set]
        refine wpAnyH_take (i := 3) (oi := _) (v := ?_) (by (simp only [List.getElem?_toArray]; rfl)) (by kernel_rfl) (by kernel_rfl) (by kernel_rfl) (by exact fun _ _ _ h => h) (Or.inl ⟨by rfl, ?_⟩) (by assumption) ?_
        rotate_left
        · intro wS hSw
          go_simp
          all_goals first | with_reducible rfl | rw [if_neg (by omega)]
        simp only [Act.put, List.setIfInBounds_toArray, List.set]
        refine wpAnyH_take (i := 4) (oi := _) (v := ?_) (by (simp only [List.getElem?_toArray]; rfl)) (by kernel_rfl) (by kernel_rfl) (by kernel_rfl) (by exact fun _ _ _ h => h) (Or.inl ⟨by rfl, ?_⟩) (by assumption) ?_
        rotate_left
        · intro wS hSw
          go_simp
          all_goals first | with_reducible rfl | rw [if_neg (by omega)]
        simp only [Act.put, List.setIfInBounds_toArray, List.set]
        refine wpAnyH_take (i := 5) (oi := _) (v := ?_) (by (simp only [List.getElem?_toArray]; rfl)) (by kernel_rfl) (by kernel_rfl) (by kernel_rfl) (by exact fun _ _ _ h => h) (Or.inl ⟨by rfl, ?_⟩) (by assumption) ?_
        rotate_left
        · intro wS hSw
          go_simp
          all_goals first | with_reducible rfl | rw [if_neg (by omega)]
        simp only [Act.put, List.setIfInBounds_toArray, List.set]
        refine wpAnyH_ready (rs := [1, 10]) (by kernel_rfl) (by simp) ?_
        refine AllReadyH.cons (o := _) (by (simp only [List.getElem?_toArray]; rfl)) (fun K hK => ?_) ?_
        · skip
          go_simp
          refine (CU.out _ (below_next W6.out RK.out.2)).mono ?_
          rintro e wkGRK ⟨v, rfl, ov, kk⟩
          obtain ⟨e0, f0, e1, f1, e2, f2, rfl, o2⟩ := ov.rows
          clear ov
          have kGRK := Lib.hid (KeptB.next (Nat.le_refl _) RK.out kk)
          clear kk
          refine hK.out _ _ kGRK.out (fun hHeld => ?_)
          clear hK K hHeld
          try simp only [Act.put, List.setIfInBounds_toArray, List.set]
          refine wpAnyH_ready (rs := [6, 10]) (by kernel_rfl) (by simp) ?_
          refine AllReadyH.cons (o := _) (by (simp only [List.getElem?_toArray]; rfl)) (fun K hK => ?_) ?_
          · skip
            go_simp
            refine (CD.out e0 e1 e2 f0 f1 f2 _ (o2.e.sl five_len) (o2.f.sl int_len) (o2.l.sl int_len)).mono ?_
            clear o2
            rintro e wkDkGRK ⟨i0, i1, i2, rfl, o2, kk⟩
            have kDkGRK := Lib.hid (KeptB.next (Nat.le_refl _) kGRK.out kk)
            clear kk
            refine hK.out _ _ kDkGRK.out (fun hHeld => ?_)
            clear hK K hHeld
            try simp only [Act.put, List.setIfInBounds_toArray, List.set]
            refine wpAnyH_take (i := 7) (oi := _) (v := ?_) (by (simp only [List.getElem?_toArray]; rfl)) (by kernel_rfl) (by kernel_rfl) (by kernel_rfl) (by exact fun _ _ _ h => h) (Or.inl ⟨by rfl, ?_⟩) (by assumption) ?_
            rotate_left
            · intro wS hSw
              go_simp
              all_goals first | with_reducible rfl | rw [if_neg (by omega)]
            simp only [Act.put, List.setIfInBounds_toArray, List.set]
            refine wpAnyH_take (i := 8) (oi := _) (v := ?_) (by (simp only [List.getElem?_toArray]; rfl)) (by kernel_rfl) (by kernel_rfl) (by kernel_rfl) (by exact fun _ _ _ h => h) (Or.inl ⟨by rfl, ?_⟩) (by assumption) ?_
            rotate_left
            · intro wS hSw
              go_simp
              all_goals first | with_reducible rfl | rw [if_neg (by omega)]
            simp only [Act.put, List.setIfInBounds_toArray, List.set]
            refine wpAnyH_take (i := 9) (oi := _) (v := ?_) (by (simp only [List.getElem?_toArray]; rfl)) (by kernel_rfl) (by kernel_rfl) (by kernel_rfl) (by exact fun _ _ _ h => h) (Or.inl ⟨by rfl, ?_⟩) (by assumption) ?_
            rotate_left
            · intro wS hSw
              go_simp
              all_goals first | with_reducible rfl | rw [if_neg (by omega)]
            simp only [Act.put, List.setIfInBounds_toArray, List.set]
            refine wpAnyH_ready (rs := [10]) (by kernel_rfl) (by simp) ?_
            refine AllReadyH.cons (o := _) (by (simp only [List.getElem?_toArray]; rfl)) (fun K hK => ?_) AllReadyH.nil
            refine step_alloc (by rfl) (by rfl) (z := .agg #[.slice none 0 0, .slice none 0 0, .slice none 0 0]) (cs := #[.slice none 0 0, .slice none 0 0, .slice none 0 0]) (by kernel_rfl) rfl ?_
            obtain ⟨wAkDkGRK, hw', sw', hv, kw'⟩ := blocks1 wkDkGRK (.cells #[.slice none 0 0, .slice none 0 0, .slice none 0 0] 46)
            rw [← hw']
            clear hw' sw'
            have kAkDkGRK := Lib.hid (KeptB.next (Nat.le_refl _) kDkGRK.out kw')
            have hvx : w6.heap.size ≤ wkDkGRK.heap.size := kDkGRK.out.2.size
            replace o2 := o2.below kw'
            clear kw'
            refine hK.out _ _ kAkDkGRK.out (fun hHeld => ?_)
            clear hK K hHeld
            try simp only [Act.put, List.setIfInBounds_toArray, List.set]
            refine wpAnyH_ready (rs := [11]) (by kernel_rfl) (by simp) ?_
            refine AllReadyH.cons (o := _) (by (simp only [List.getElem?_toArray]; rfl)) (fun K hK => ?_) AllReadyH.nil
            have cv := cell_of_block hv
            have fv := unfrozen_of_block hv
            go_simp
            have kSkAkDkGRK := Lib.hid (KeptB.set (p := ⟨wkDkGRK.heap.size, 2, none⟩) hvx (.slice i2 y'.la.length y'.la.length) (KeptB.set (p := ⟨wkDkGRK.heap.size, 1, none⟩) hvx (.slice i1 y'.fl.length y'.fl.length) (KeptB.set (p := ⟨wkDkGRK.heap.size, 0, none⟩) hvx (.slice i0 y'.es.length y'.es.length) kAkDkGRK.out)))
            replace o2 := o2.set3 hv (.slice i0 y'.es.length y'.es.length) (.slice i1 y'.fl.length y'.fl.length) (.slice i2 y'.la.length y'.la.length)
            replace hv := block_set3 hv (.slice i0 y'.es.length y'.es.length) (.slice i1 y'.fl.length y'.fl.length) (.slice i2 y'.la.length y'.la.length)
            clear cv fv
            refine hK.out _ _ kSkAkDkGRK.out (fun hHeld => ?_)
            clear hK K hHeld
            try simp only [Act.put, List.setIfInBounds_toArray, List.set]
            refine wpAnyH_take (i := 12) (oi := _) (v := ?_) (by (simp only [List.getElem?_toArray]; rfl)) (by kernel_rfl) (by kernel_rfl) (by kernel_rfl) (by exact fun _ _ _ h => h) (Or.inl ⟨by rfl, ?_⟩) (by assumption) ?_
            rotate_left
            · intro wS hSw
              go_simp
              all_goals first | with_reducible rfl | rw [if_neg (by omega)]
            simp only [Act.put, List.setIfInBounds_toArray, List.set]
            refine hfin ⟨.agg #[.slice e0 y.es.length f0, .slice e1 y.fl.length f1, .slice e2 y.la.length f2], undef, undef, i0, i1, i2, y'.es.length, y'.fl.length, y'.la.length, wkDkGRK.heap.size⟩ _ _ _ (by kernel_rfl) ?_ ⟨kSkAkDkGRK.out, hv, hvx, o2.low (Nat.zero_le _)⟩
            simp only [List.setIfInBounds_toArray, List.set]
          refine AllReadyH.cons (o := _) (by (simp only [List.getElem?_toArray]; rfl)) (fun K hK => ?_) ?_
          · skip
            refine step_alloc (by rfl) (by rfl) (z := .agg #[.slice none 0 0, .slice none 0 0, .slice none 0 0]) (cs := #[.slice none 0 0, .slice none 0 0, .slice none 0 0]) (by kernel_rfl) rfl ?_
            obtain ⟨wAkGRK, hw', sw', hv, kw'⟩ := blocks1 wkGRK (.cells #[.slice none 0 0, .slice none 0 0, .slice none 0 0] 46)
            rw [← hw']
            clear hw' sw'
            have kAkGRK := Lib.hid (KeptB.next (Nat.le_refl _) kGRK.out kw')
            have hvx : w6.heap.size ≤ wkGRK.heap.size := kGRK.out.2.size
            replace o2 := o2.below kw'
            clear kw'
            refine hK.out _ _ kAkGRK.out (fun hHeld => ?_)
            clear hK K hHeld
            try simp only [Act.put, List.setIfInBounds_toArray, List.set]
            refine wpAnyH_ready (rs := [6]) (by kernel_rfl) (by simp) ?_
            refine AllReadyH.cons (o := _) (by (simp only [List.getElem?_toArray]; rfl)) (fun K hK => ?_) AllReadyH.nil
            go_simp
            refine (CD.out e0 e1 e2 f0 f1 f2 _ (o2.e.sl five_len) (o2.f.sl int_len) (o2.l.sl int_len)).mono ?_
            clear o2
            rintro e wkDkAkGRK ⟨i0, i1, i2, rfl, o2, kk⟩
            have kDkAkGRK := Lib.hid (KeptB.next (Nat.le_refl _) kAkGRK.out kk)
            replace hv := carryN kk hv
            clear kk
            refine hK.out _ _ kDkAkGRK.out (fun hHeld => ?_)
            clear hK K hHeld
            try simp only [Act.put, List.setIfInBounds_toArray, List.set]
            refine wpAnyH_take (i := 7) (oi := _) (v := ?_) (by (simp only [List.getElem?_toArray]; rfl)) (by kernel_rfl) (by kernel_rfl) (by kernel_rfl) (by exact fun _ _ _ h => h) (Or.inl ⟨by rfl, ?_⟩) (by assumption) ?_
            rotate_left
            · intro wS hSw
              go_simp
              all_goals first | with_reducible rfl | rw [if_neg (by omega)]
            simp only [Act.put, List.setIfInBounds_toArray, List.set]
            refine wpAnyH_take (i := 8) (oi := _) (v := ?_) (by (simp only [List.getElem?_toArray]; rfl)) (by kernel_rfl) (by kernel_rfl) (by kernel_rfl) (by exact fun _ _ _ h => h) (Or.inl ⟨by rfl, ?_⟩) (by assumption) ?_
            rotate_left
            · intro wS hSw
              go_simp
              all_goals first | with_reducible rfl | rw [if_neg (by omega)]
            simp only [Act.put, List.setIfInBounds_toArray, List.set]
            refine wpAnyH_take (i := 9) (oi := _) (v := ?_) (by (simp only [List.getElem?_toArray]; rfl)) (by kernel_rfl) (by kernel_rfl) (by kernel_rfl) (by exact fun _ _ _ h => h) (Or.inl ⟨by rfl, ?_⟩) (by assumption) ?_
            rotate_left
            · intro wS hSw
              go_simp
              all_goals first | with_reducible rfl | rw [if_neg (by omega)]
            simp only [Act.put, List.setIfInBounds_toArray, List.set]
            refine wpAnyH_ready (rs := [11]) (by kernel_rfl) (by simp) ?_
            refine AllReadyH.cons (o := _) (by (simp only [List.getElem?_toArray]; rfl)) (fun K hK => ?_) AllReadyH.nil
            have cv := cell_of_block hv
            have fv := unfrozen_of_block hv
            go_simp
            have kSkDkAkGRK := Lib.hid (KeptB.set (p := ⟨wkGRK.heap.size, 2, none⟩) hvx (.slice i2 y'.la.length y'.la.length) (KeptB.set (p := ⟨wkGRK.heap.size, 1, none⟩) hvx (.slice i1 y'.fl.length y'.fl.length) (KeptB.set (p := ⟨wkGRK.heap.size, 0, none⟩) hvx (.slice i0 y'.es.length y'.es.length) kDkAkGRK.out)))
            replace o2 := o2.set3 hv (.slice i0 y'.es.length y'.es.length) (.slice i1 y'.fl.length y'.fl.length) (.slice i2 y'.la.length y'.la.length)
            replace hv := block_set3 hv (.slice i0 y'.es.length y'.es.length) (.slice i1 y'.fl.length y'.fl.length) (.slice i2 y'.la.length y'.la.length)
            clear cv fv
            refine hK.out _ _ kSkDkAkGRK.out (fun hHeld => ?_)
            clear hK K hHeld
            try simp only [Act.put, List.setIfInBounds_toArray, List.set]
            refine wpAnyH_take (i := 12) (oi := _) (v := ?_) (by (simp only [List.getElem?_toArray]; rfl)) (by kernel_rfl) (by kernel_rfl) (by kernel_rfl) (by exact fun _ _ _ h => h) (Or.inl ⟨by rfl, ?_⟩) (by assumption) ?_
            rotate_left
            · intro wS hSw
              go_simp
              all_goals first | with_reducible rfl | rw [if_neg (by omega)]
            simp only [Act.put, List.setIfInBounds_toArray, List.set]
            refine hfin ⟨.agg #[.slice e0 y.es.length f0, .slice e1 y.fl.length f1, .slice e2 y.la.length f2], undef, undef, i0, i1, i2, y'.es.length, y'.fl.length, y'.la.length, wkGRK.heap.size⟩ _ _ _ (by kernel_rfl) ?_ ⟨kSkDkAkGRK.out, hv, hvx, o2.low (Nat.zero_le _)⟩
            simp only [List.setIfInBounds_toArray, List.set]
          exact AllReadyH.nil
        refine AllReadyH.cons (o := _) (by (simp only [List.getElem?_toArray]; rfl)) (fun K hK => ?_) ?_
        · skip
          refine step_alloc (by rfl) (by rfl) (z := .agg #[.slice none 0 0, .slice none 0 0, .slice none 0 0]) (cs := #[.slice none 0 0, .slice none 0 0, .slice none 0 0]) (by kernel_rfl) rfl ?_
          obtain ⟨wARK, hw', sw', hv, kw'⟩ := blocks1 wd (.cells #[.slice none 0 0, .slice none 0 0, .slice none 0 0] 46)
          rw [← hw']
          clear hw' sw'
          have kARK := Lib.hid (KeptB.next (Nat.le_refl _) RK.out kw')
          have hvx : w6.heap.size ≤ wd.heap.size := RK.out.2.size
          clear kw'
          refine hK.out _ _ kARK.out (fun hHeld => ?_)
          clear hK K hHeld
          try simp only [Act.put, List.setIfInBounds_toArray, List.set]
          refine wpAnyH_ready (rs := [1]) (by kernel_rfl) (by simp) ?_
          refine AllReadyH.cons (o := _) (by (simp only [List.getElem?_toArray]; rfl)) (fun K hK => ?_) AllReadyH.nil
          go_simp
          refine (CU.out _ (below_next W6.out kARK.out.2)).mono ?_
          rintro e wkGkARK ⟨v, rfl, ov, kk⟩
          obtain ⟨e0, f0, e1, f1, e2, f2, rfl, o2⟩ := ov.rows
          clear ov
          have kGkARK := Lib.hid (KeptB.next (Nat.le_refl _) kARK.out kk)
          replace hv := carryN kk hv
          clear kk
          refine hK.out _ _ kGkARK.out (fun hHeld => ?_)
          clear hK K hHeld
          try simp only [Act.put, List.setIfInBounds_toArray, List.set]
          refine wpAnyH_ready (rs := [6]) (by kernel_rfl) (by simp) ?_
          refine AllReadyH.cons (o := _) (by (simp only [List.getElem?_toArray]; rfl)) (fun K hK => ?_) AllReadyH.nil
          go_simp
          refine (CD.out e0 e1 e2 f0 f1 f2 _ (o2.e.sl five_len) (o2.f.sl int_len) (o2.l.sl int_len)).mono ?_
          clear o2
          rintro e wkDkGkARK ⟨i0, i1, i2, rfl, o2, kk⟩
          have kDkGkARK := Lib.hid (KeptB.next (Nat.le_refl _) kGkARK.out kk)
          replace hv := carryN kk hv
          clear kk
          refine hK.out _ _ kDkGkARK.out (fun hHeld => ?_)
          clear hK K hHeld
          try simp only [Act.put, List.setIfInBounds_toArray, List.set]
          refine wpAnyH_take (i := 7) (oi := _) (v := ?_) (by (simp only [List.getElem?_toArray]; rfl)) (by kernel_rfl) (by kernel_rfl) (by kernel_rfl) (by exact fun _ _ _ h => h) (Or.inl ⟨by rfl, ?_⟩) (by assumption) ?_
          rotate_left
          · intro wS hSw
            go_simp
            all_goals first | with_reducible rfl | rw [if_neg (by omega)]
          simp only [Act.put, List.setIfInBounds_toArray, List.set]
          refine wpAnyH_take (i := 8) (oi := _) (v := ?_) (by (simp only [List.getElem?_toArray]; rfl)) (by kernel_rfl) (by kernel_rfl) (by kernel_rfl) (by exact fun _ _ _ h => h) (Or.inl ⟨by rfl, ?_⟩) (by assumption) ?_
          rotate_left
          · intro wS hSw
            go_simp
            all_goals first | with_reducible rfl | rw [if_neg (by omega)]
          simp only [Act.put, List.setIfInBounds_toArray, List.set]
          refine wpAnyH_take (i := 9) (oi := _) (v := ?_) (by (simp only [List.getElem?_toArray]; rfl)) (by kernel_rfl) (by kernel_rfl) (by kernel_rfl) (by exact fun _ _ _ h => h) (Or.inl ⟨by rfl, ?_⟩) (by assumption) ?_
          rotate_left
          · intro wS hSw
            go_simp
            all_goals first | with_reducible rfl | rw [if_neg (by omega)]
          simp only [Act.put, List.setIfInBounds_toArray, List.set]
          refine wpAnyH_ready (rs := [11]) (by kernel_rfl) (by simp) ?_
          refine AllReadyH.cons (o := _) (by (simp only [List.getElem?_toArray]; rfl)) (fun K hK => ?_) AllReadyH.nil
          have cv := cell_of_block hv
          have fv := unfrozen_of_block hv
          go_simp
          have kSkDkGkARK := Lib.hid (KeptB.set (p := ⟨wd.heap.size, 2, none⟩) hvx (.slice i2 y'.la.length y'.la.length) (KeptB.set (p := ⟨wd.heap.size, 1, none⟩) hvx (.slice i1 y'.fl.length y'.fl.length) (KeptB.set (p := ⟨wd.heap.size, 0, none⟩) hvx (.slice i0 y'.es.length y'.es.length) kDkGkARK.out)))
          replace o2 := o2.set3 hv (.slice i0 y'.es.length y'.es.length) (.slice i1 y'.fl.length y'.fl.length) (.slice i2 y'.la.length y'.la.length)
          replace hv := block_set3 hv (.slice i0 y'.es.length y'.es.length) (.slice i1 y'.fl.length y'.fl.length) (.slice i2 y'.la.length y'.la.length)
          clear cv fv
          refine hK.out _ _ kSkDkGkARK.out (fun hHeld => ?_)
          clear hK K hHeld
          try simp only [Act.put, List.setIfInBounds_toArray, List.set]
          refine wpAnyH_take (i := 12) (oi := _) (v := ?_) (by (simp only [List.getElem?_toArray]; rfl)) (by kernel_rfl) (by kernel_rfl) (by kernel_rfl) (by exact fun _ _ _ h => h) (Or.inl ⟨by rfl, ?_⟩) (by assumption) ?_
          rotate_left
          · intro wS hSw
            go_simp
            all_goals first | with_reducible rfl | rw [if_neg (by omega)]
          simp only [Act.put, List.setIfInBounds_toArray, List.set]
          refine hfin ⟨.agg #[.slice e0 y.es.length f0, .slice e1 y.fl.length f1, .slice e2 y.la.length f2], undef, undef, i0, i1, i2, y'.es.length, y'.fl.length, y'.la.length, wd.heap.size⟩ _ _ _ (by kernel_rfl) ?_ ⟨kSkDkGkARK.out, hv, hvx, o2.low (Nat.zero_le _)⟩
          simp only [List.setIfInBounds_toArray, List.set]
        exact AllReadyH.nil
      rintro ⟨_, _, _, g0, g1, g2, l0, l1, l2, P⟩ w9 ⟨k9, VB, hx, o9⟩
      simp only at k9 VB hx o9 ⊢
      simp only [List.setIfInBounds_toArray, List.set]
      refine wpAnyH_done (by kernel_rfl) ?_ _
      have A9 := Lib.hid (carryN k9.2 A6.out)
      have W9 := Lib.hid (below_next W6.out k9.2)
      have RC9 := Lib.hid (RC6.out.below k9.2)
      clear k9 VB hx o9 cA lA A6 W6 RC6 CD q0 q1 q2 q3 q4 hHeld hl0
      have cA := cell_of_block A9.out
      have lA := lt_of_block A9.out
      obtain ⟨g, hgc, -, hgl, hcc, -, -⟩ := RC9.out.intAt (i := 0) (by rw [HM.out]; omega)
      have hc2 : cs[0]'(by rw [HM.out]; omega) = c2 := by
        have h := HC0.out
        rw [List.getElem?_eq_getElem (by rw [HM.out]; omega)] at h
        injection h
      rw [hc2] at hcc
      have hcl := RC9.out.len
      rw [HM.out] at hcl
      have hcm := RC9.out.max
      unfold maxLen at hcm
      subst hgc
      clear hc2
      go_wp2_with fail
      go_ret
      exact ⟨rfl, below_next K1.out W9.out⟩
end Go.Proofs.Ytofedboeggdkaaa.fnAheadCodes

/-! FnAheadCodes: the law returns true for every input; no condition. -/
namespace Go.Proofs.Ytofedboeggdkaaa.fnAheadCodes
open Go.ChangeShapes hiding open_int
open Go.WideShapes Go.ChangeAt Go.RowKit
open Go.ChangeMaps (shut_string)
set_option linter.unusedVariables false

theorem own : ownKnob Try.prog.godebug = none := by kernel_rfl
theorem laidOut : laidOutB Try.prog = true := by kernel_rfl

set_option maxRecDepth 100000 in
theorem lifted (os : Os) (started : os.Started) (H : Type) (enc : TypeId × Value → H) :
    ReturnsInHanded {} Try.checked os 10 .any (Rows.fnAheadCodesSpec.pre6 enc Try.prog Try.f10 Rows.fnAheadCodesRow.domain false) (Rows.fnAheadCodesSpec.post enc Try.prog Try.f10 false true false false) := by
  refine returnsInHanded_of_change (C := Try.checked) own started (by kernel_rfl) Try.func10
    (ChangeSpec.witness6 (enc := enc) (C := Try.checked) false ⟨#[], #[.slice none 0 0], []⟩ 8 (by kernel_rfl) (by kernel_rfl) (by kernel_rfl) (by kernel_rfl)) ?_
  intro W base args ds gs before hval0 hW hcnd _
  have hval : ∀ (j : Nat) t v, Try.f10.params[j]? = some t → args[j]? = some v → Value.okWide Try.prog W .any base t v := hval0
  have hW' := hW
  obtain ⟨p, q, hA0, hV, rfl, hfz, hnd⟩ := hW
  have hA : DataW.TrodAll enc Try.prog W 0 (fun _ => true) true Try.f10.params.toList args.toList ds p := hA0
  rw [Try.params10] at hA hval
  obtain ⟨v0, vs0, d0, ds0, p0, q0, hargs, rfl, rfl, h0, r0⟩ := trodAll_cons hA
  obtain ⟨rfl, rfl, rfl⟩ := trodAll_nil r0
  obtain rfl : args = #[v0] := by cases args; simp_all
  obtain ⟨rfl, rfl⟩ := trodVars_none hV
  have lt0 : ∀ x ∈ p0, x.block < W.heap.size := by obtain ⟨m, hm⟩ := h0; exact DataW.trod_lt m _ _ _ hm
  obtain ⟨z0, o0⟩ := open_bytes (hval 0 39 v0 rfl rfl) h0
  clear hA0 hval0
  refine (walk v0 z0 W o0).mono fun e W' ⟨he, bel⟩ => ?_
  subst he
  exact ⟨_, rfl, _, _, _, [], _, [], hW', trodAll_mk1 (shut_bool Try.underlying4 _), (trodAll_cons_mk (Below.trod laidOut (by kernel_rfl) (of_decide_eq_true (by kernel_rfl)) h0 bel lt0) trodAll_mk0), rfl, bel.frame _, fun h => by cases h⟩

theorem over : Rows.fnAheadCodesRow.holds Try.pinned (OpenSpec.ofChange Rows.fnAheadCodesSpec) :=
  OpenClaim.holds_of_wide 10 Try.f10 rfl rfl rfl rfl rfl rfl rfl ⟨rfl, rfl, rfl, rfl, rfl⟩ rfl rfl rfl rfl rfl (by kernel_rfl) Try.func10 (by kernel_rfl)
    (of_decide_eq_true (by kernel_rfl)) (by unfold Func.isWrapper; first | (rw [if_pos (by decide +kernel)]; kernel_rfl) | (rw [if_neg (by decide +kernel)]; exact ⟨rfl, rfl⟩))
    (fun os started H enc _ => lifted os started H enc)

theorem proved : Rows.FnAheadCodesSaid := over
end Go.Proofs.Ytofedboeggdkaaa.fnAheadCodes
