/- The walk of FnLedgerFar: it returns true for every two codes; condition: the package variables as listed. -/
import Derived.Test.YtbfnilfkhonpaaaDoorLedBent
import Derived.Test.YtbfnilfkhonpaaaDoorDrawFar
import Derived.Test.YtbfnilfkhonpaaaDoorSlCut
import Derived.Test.YtbfnilfkhonpaaaDoorAdd
import Derived.Test.YtbfnilfkhonpaaaDoorAddS
namespace Go.Proofs.YtbfnilfkhonpaaaDoor.fnLedgerFar
open Go.RowKit Go.Joins

set_option maxRecDepth 100000 in
set_option maxHeartbeats 16000000 in
theorem walk (v0 : Value) (z0 : Bts) (v1 : Value) (z1 : Bts) (w : World) (h0 : IsBytes w v0 z0) (h1 : IsBytes w v1 z1) (E : Env w) :
    Calls Tryd.prog 9 #[v0, v1] w fun e w' => e = .returned (.bool true) ∧ Below w.heap.size w w' := by
  obtain ⟨a, n, cap⟩ := z0
  obtain ⟨a1, n1, cap1⟩ := z1
  have HZ := Lib.hid h0
  obtain ⟨hv, hlc, hm, -⟩ := h0
  obtain ⟨hv1, hlc1, hm1, -⟩ := h1
  simp only at hv hlc hm hv1 hlc1 hm1
  subst hv hv1
  have EE := Lib.hid E
  clear E
  by_cases hbig : (1048576 : Int) < n
  · go_enter Tryd.func9, Tryd.ntmps9
    go_wp2_with fail
    go_ret
    exact ⟨rfl, Below.refl _ _⟩
  · by_cases hbig1 : (1048576 : Int) < n1
    · go_enter Tryd.func9, Tryd.ntmps9
      go_wp2_with fail
      go_ret
      exact ⟨rfl, Below.refl _ _⟩
    · go_enter Tryd.func9, Tryd.ntmps9
      go_wp2_with fail
      refine (DrawLedgerFar_c _ _ w HZ.out).mono ?_
      rintro e w1 ⟨zs, b, cb, rfl, h12, hrow, k1⟩
      have CI := Lib.hid (fun (a : Option Addr) (n cap : Nat) (ys : List En) V E h hn => LedgerFar_c a n cap ys V E h hn)
      have CS := Lib.hid (fun V h => l7Far_c b zs.length cb zs V h (by omega))
      have HROW := Lib.hid hrow
      have hfl := far_le zs
      obtain ⟨N, hN⟩ : ∃ N, N = zs.length := ⟨_, rfl⟩
      have HN := Lib.hid hN
      obtain ⟨F, hF⟩ : ∃ F, F = far zs := ⟨_, rfl⟩
      have HF := Lib.hid hF
      rw [← hN] at h12 hfl CS ⊢
      rw [← hF] at hfl CS
      have SL := Lib.hid (HROW.out.slE six_len HN.out.symm)
      clear hN hrow hF
      go_wp2_with fail
      refine (CI.out b N cb zs w1 (EE.out.below k1) SL.out (by omega)).mono ?_
      rintro e w2 ⟨rfl, k2⟩
      rw [← HF.out]
      have K2 := below_next k1 k2
      have S2 := Lib.hid (SL.out.below k2)
      have R2 := Lib.hid (HROW.out.below k2)
      clear k1 k2
      have hw1 : IntKind.i64.wrap ((F : Nat) : Int) = F := IntWalk.i64_in _ ⟨by omega, by omega⟩
      go_wp2_with fail
      refine (sLedgerFar_c b N cb zs w2 S2.out (by omega)).mono ?_
      rintro e w3 ⟨rfl, k3⟩
      rw [← HF.out]
      have K3 := below_next K2 k3
      have S3 := Lib.hid (S2.out.below k3)
      have R3 := Lib.hid (R2.out.below k3)
      clear K2 k3 S2 R2
      by_cases hN0 : N = 0
      · have hF0 : F = 0 := by omega
        subst hN0 hF0
        go_wp2_with fail
        refine (sLedgerFar_c b 0 cb zs w3 S3.out (by omega)).mono ?_
        rintro e w4 ⟨rfl, k4⟩
        rw [← HF.out]
        have K4 := below_next K3 k4
        clear K3 k4
        go_wp2_with fail
        go_ret
        exact ⟨rfl, K4⟩
      · have hNi : ¬ ((N : Nat) : Int) = 0 := by omega
        have hNb : ((N : Int) == 0) = false := by simp; omega
        obtain ⟨k, hk, hkN⟩ : ∃ k : Nat, ((n1 : Nat) : Int).tmod (N : Int) = (k : Int) ∧ k < N := ⟨n1 % N, by rw [Int.tmod_eq_emod_of_nonneg (by omega)]; rfl, Nat.mod_lt _ (by omega)⟩
        have hwk : IntKind.i64.wrap ((k : Nat) : Int) = k := IntWalk.i64_in _ ⟨by omega, by omega⟩
        have HRR := Lib.hid (R3.out.rows six_len)
        go_wp2_with (at_builtin; refine wpList_append_new (w3.heap.size + 1) rfl _ _ rfl eltEntry rfl rfl (HRR.out.below (by repeat' (first | with_reducible exact Below.refl _ _ | with_reducible assumption | with_reducible refine Below.alloc ?_ ?_ _ | with_reducible refine Below.drew ?_ | with_reducible refine Below.setCell ?_ ?_ _ | omega | (simp; omega) | (simp; done)))) HN.out.symm (by simp only [maxLen]; omega) (by omega) (by simp <;> omega) ?_)
        intro aO cO w4 q4
        have K4 := below_next ((Below.refl w3.heap.size w3).alloc (Nat.le_refl _) (.cells #[] 44)) q4.below
        have RO := Lib.hid q4.row
        clear q4
        have hkz : k < zs.length := by rw [← HN.out]; exact hkN
        obtain ⟨g, cur, hg, hgB, q3, q5, q6⟩ := RO.out.own (by have := RO.out.len; omega)
        have cS : w4.cell? ⟨g, k * 6 + 5, none⟩ = some (.int .i64 zs[k].s) := (cell_of_block q3 _).trans ((q6 _ (by omega)).trans (flat_get six_len zs k hkz 5 (by decide)))
        have fS := unfrozen_of_block q3
        have hlen := RO.out.len
        rw [← HN.out] at hlen
        clear q3 q5 q6
        subst hg
        have RN := Lib.hid (RO.out.setOne six_len hkz (j := 5) (by decide) ⟨zs[k].r, Go.bits .xor .i64 zs[k].s 1⟩ _ rfl (fun j' h1 h2 => by
          have : j' = 0 ∨ j' = 1 ∨ j' = 2 ∨ j' = 3 ∨ j' = 4 := by omega
          rcases this with rfl | rfl | rfl | rfl | rfl <;> rfl) rfl)
        have KS := Lib.hid (Below.setCell K4 (p := ⟨g, k * 6 + 5, none⟩) (show w3.heap.size ≤ g by omega) (.int .i64 (Go.bits .xor .i64 zs[k].s 1)))
        have HSK := Lib.hid (show enAt zs k = zs[k] from enAt_eq hkz)
        generalize hze : zs[k] = ze at *
        have HZE := Lib.hid hze
        clear hze
        have hk0 : (0 : Int) ≤ (k : Int) := by omega
        have hkN1 : (k : Int) < (N : Int) := by omega
        clear K4
        have HKF := Lib.hid hfl
        have hF0 : (0 : Int) ≤ (F : Int) := by omega
        have hFc : (F : Int) ≤ (cb : Int) := by have := R3.out.len; have := HN.out; omega
        have hF1 : (0 : Int) ≤ (F : Int) + 1 := by omega
        have hw2 : IntKind.i64.wrap ((F : Int) + 1) = (F : Int) + 1 := IntWalk.i64_in _ ⟨by omega, by omega⟩
        have HT1 := Lib.hid (show far (zs.take F) = F from by rw [far_take (by rw [← HF.out]; exact Nat.le_refl _) (by rw [← HN.out]; exact hfl)]; exact HF.out.symm)
        rcases Nat.lt_trichotomy F k with hc | hc | hc
        · have hcF : (F : Int) < (k : Int) := by omega
          have hcn : ¬ (k : Int) < (F : Int) := by omega
          have HFB := Lib.hid (show far (zs.set k ⟨ze.r, Go.bits .xor .i64 ze.s 1⟩) = F from by rw [far_set_behind (by rw [← HF.out]; exact hc)]; exact HF.out.symm)
          go_wp2_with fail
          obtain ⟨V, hV⟩ : ∃ V, V = w4.setCell ⟨g, k * 6 + 5, none⟩ (.int .i64 (Go.bits .xor .i64 ze.s 1)) := ⟨_, rfl⟩
          have KS' := KS.out
          have RN' := RN.out
          rw [← hV] at KS' RN' ⊢
          have HRN := Lib.hid RN'
          have K5 := below_next K3 KS'
          have S5 := Lib.hid (S3.out.below KS')
          clear hV KS' RN' KS RN cS fS
          refine (CI.out (some ⟨g, 0, none⟩) N cO (zs.set k ⟨ze.r, Go.bits .xor .i64 ze.s 1⟩) V (EE.out.below K5) (HRN.out.slE six_len (by rw [List.length_set]; exact HN.out.symm)) (by omega)).mono ?_
          rintro e w6 ⟨rfl, k6⟩
          rw [HFB.out]
          have K6 := below_next K5 k6
          have S6 := Lib.hid (S5.out.below k6)
          clear K5 k6 S5
          go_wp2_with fail
          refine (CI.out b F cb (zs.take F) w6 (EE.out.below K6) (S6.out.cutTo hfl) (by omega)).mono ?_
          rintro e w7 ⟨rfl, k7⟩
          rw [HT1.out]
          have K7 := below_next K6 k7
          have S7 := Lib.hid (S6.out.below k7)
          clear K6 k7 S6
          by_cases hFN : F = N
          · subst hFN
            go_wp2_with fail
            go_ret
            exact ⟨rfl, K7⟩
          · have hFNi : ¬ (F : Int) = (N : Int) := by omega
            have hFNb : ((F : Int) == (N : Int)) = false := by simp; omega
            have hFc1 : (F : Int) + 1 ≤ (cb : Int) := by have := R3.out.len; have := HN.out; omega
            have HT2 := Lib.hid (show far (zs.take (F + 1)) = F from by rw [far_take (by rw [← HF.out]; omega) (by rw [← HN.out]; omega)]; exact HF.out.symm)
            go_wp2_with fail
            refine (CI.out b (F + 1) cb (zs.take (F + 1)) w7 (EE.out.below K7) (S7.out.cutTo (by omega)) (by omega)).mono ?_
            rintro e w8 ⟨rfl, k8⟩
            rw [HT2.out]
            have K8 := below_next K7 k8
            clear K7 k8
            go_wp2_with fail
            go_ret
            exact ⟨rfl, K8⟩
        · subst hc
          obtain ⟨f, hf⟩ : ∃ f, far (zs.set F ⟨ze.r, Go.bits .xor .i64 ze.s 1⟩) = f := ⟨_, rfl⟩
          have HFB := Lib.hid hf
          clear hf
          go_wp2_with fail
          obtain ⟨V, hV⟩ : ∃ V, V = w4.setCell ⟨g, F * 6 + 5, none⟩ (.int .i64 (Go.bits .xor .i64 ze.s 1)) := ⟨_, rfl⟩
          have KS' := KS.out
          have RN' := RN.out
          rw [← hV] at KS' RN' ⊢
          have HRN := Lib.hid RN'
          have K5 := below_next K3 KS'
          have S5 := Lib.hid (S3.out.below KS')
          clear hV KS' RN' KS RN cS fS
          refine (CI.out (some ⟨g, 0, none⟩) N cO (zs.set F ⟨ze.r, Go.bits .xor .i64 ze.s 1⟩) V (EE.out.below K5) (HRN.out.slE six_len (by rw [List.length_set]; exact HN.out.symm)) (by omega)).mono ?_
          rintro e w6 ⟨rfl, k6⟩
          rw [HFB.out]
          have K6 := below_next K5 k6
          have S6 := Lib.hid (S5.out.below k6)
          clear K5 k6 S5
          go_wp2_with fail
          refine (CI.out b F cb (zs.take F) w6 (EE.out.below K6) (S6.out.cutTo hfl) (by omega)).mono ?_
          rintro e w7 ⟨rfl, k7⟩
          rw [HT1.out]
          have K7 := below_next K6 k7
          have S7 := Lib.hid (S6.out.below k7)
          clear K6 k7 S6
          have hFN : ¬ F = N := by omega
          have hFNi : ¬ (F : Int) = (N : Int) := by omega
          have hFNb : ((F : Int) == (N : Int)) = false := by simp; omega
          have hFc1 : (F : Int) + 1 ≤ (cb : Int) := by have := R3.out.len; have := HN.out; omega
          have HT2 := Lib.hid (show far (zs.take (F + 1)) = F from by rw [far_take (by rw [← HF.out]; omega) (by rw [← HN.out]; omega)]; exact HF.out.symm)
          go_wp2_with fail
          refine (CI.out b (F + 1) cb (zs.take (F + 1)) w7 (EE.out.below K7) (S7.out.cutTo (by omega)) (by omega)).mono ?_
          rintro e w8 ⟨rfl, k8⟩
          rw [HT2.out]
          have K8 := below_next K7 k8
          clear K7 k8
          go_wp2_with fail
          go_ret
          exact ⟨rfl, K8⟩
        · have hcF : (k : Int) < (F : Int) := by omega
          have hcn : ¬ (F : Int) < (k : Int) := by omega
          have HFB := Lib.hid (show far (zs.set k ⟨ze.r, Go.bits .xor .i64 ze.s 1⟩) = k from far_set_ahead (by rw [← HF.out]; exact hc) (by rw [HSK.out]) (by rw [← HSK.out]; exact bent_ne (by rw [← HF.out]; exact hc)))
          go_wp2_with fail
          obtain ⟨V, hV⟩ : ∃ V, V = w4.setCell ⟨g, k * 6 + 5, none⟩ (.int .i64 (Go.bits .xor .i64 ze.s 1)) := ⟨_, rfl⟩
          have KS' := KS.out
          have RN' := RN.out
          rw [← hV] at KS' RN' ⊢
          have HRN := Lib.hid RN'
          have K5 := below_next K3 KS'
          have S5 := Lib.hid (S3.out.below KS')
          clear hV KS' RN' KS RN cS fS
          refine (CI.out (some ⟨g, 0, none⟩) N cO (zs.set k ⟨ze.r, Go.bits .xor .i64 ze.s 1⟩) V (EE.out.below K5) (HRN.out.slE six_len (by rw [List.length_set]; exact HN.out.symm)) (by omega)).mono ?_
          rintro e w6 ⟨rfl, k6⟩
          rw [HFB.out]
          have K6 := below_next K5 k6
          have S6 := Lib.hid (S5.out.below k6)
          clear K5 k6 S5
          go_wp2_with fail
          refine (CI.out b F cb (zs.take F) w6 (EE.out.below K6) (S6.out.cutTo hfl) (by omega)).mono ?_
          rintro e w7 ⟨rfl, k7⟩
          rw [HT1.out]
          have K7 := below_next K6 k7
          have S7 := Lib.hid (S6.out.below k7)
          clear K6 k7 S6
          by_cases hFN : F = N
          · subst hFN
            go_wp2_with fail
            go_ret
            exact ⟨rfl, K7⟩
          · have hFNi : ¬ (F : Int) = (N : Int) := by omega
            have hFNb : ((F : Int) == (N : Int)) = false := by simp; omega
            have hFc1 : (F : Int) + 1 ≤ (cb : Int) := by have := R3.out.len; have := HN.out; omega
            have HT2 := Lib.hid (show far (zs.take (F + 1)) = F from by rw [far_take (by rw [← HF.out]; omega) (by rw [← HN.out]; omega)]; exact HF.out.symm)
            go_wp2_with fail
            refine (CI.out b (F + 1) cb (zs.take (F + 1)) w7 (EE.out.below K7) (S7.out.cutTo (by omega)) (by omega)).mono ?_
            rintro e w8 ⟨rfl, k8⟩
            rw [HT2.out]
            have K8 := below_next K7 k8
            clear K7 k8
            go_wp2_with fail
            go_ret
            exact ⟨rfl, K8⟩
end Go.Proofs.YtbfnilfkhonpaaaDoor.fnLedgerFar
