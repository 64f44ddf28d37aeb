/- Votes compared by eqVote, eqVoteS: two that say the same are found alike; no condition. -/
import Derived.Test.YtgdhieffjflejaaSameM
set_option linter.unusedSimpArgs false
set_option linter.unusedVariables false
namespace Go.Proofs.Ytgdhieffjflejaa
open Go.RowKit Go.Joins

set_option maxRecDepth 100000 in
set_option maxHeartbeats 1000000 in
theorem eqVote_c (F : Int) (a a' : Option Addr) (n c n' c' : Nat) (zs : List Cl) (w : World) (ha : IsSl w (.slice a n c) 7 Cl.cs zs) (hb : IsSl w (.slice a' n' c') 7 Cl.cs zs) :
    Calls Try.prog 58 #[.agg #[.int .i64 F, .slice a n c], .agg #[.int .i64 F, .slice a' n' c']] w (Yes w) := by
  have HA := Lib.hid ha
  have HB := Lib.hid hb
  clear ha hb
  go_enter Try.func58, Try.ntmps58
  go_wp2_with fail
  obtain ⟨W, hW, sW, aW, bW, kW⟩ := blocks2 w (.cells #[.int .i64 F, .slice a n c] 65) (.cells #[.int .i64 F, .slice a' n' c'] 65)
  rw [← hW]
  clear hW
  refine (eqClaimS_c _ _ zs W (HA.out.below kW) (HB.out.below kW)).mono ?_
  rintro e w1 ⟨rfl, k1⟩
  go_wp2_with fail
  go_ret
  exact ⟨rfl, below_next kW k1⟩

set_option maxRecDepth 100000 in
set_option maxHeartbeats 1000000 in
theorem eqVoteS_c (va vb : Value) (xs ys : List Vx) (w : World) (ha : IsVs w va xs) (hb : IsVs w vb ys) (he : xs.map Vx.say = ys.map Vx.say) :
    Calls Try.prog 34 #[va, vb] w (Yes w) := by
  obtain ⟨⟨a, cap, rfl, hlc, hm, hra⟩, hca⟩ := ha
  obtain ⟨⟨b, cap', rfl, hlc', hm', hrb⟩, hcb⟩ := hb
  have HA := Lib.hid hra
  have HB := Lib.hid hrb
  have CA := Lib.hid hca
  have CB := Lib.hid hcb
  have HE := Lib.hid he
  have hne : xs.length = ys.length := by simpa using congrArg List.length he
  clear hra hrb hca hcb he
  unfold maxLen at hm hm'
  generalize hnn : xs.length = n at *
  have hnb : ys.length = n := hne.symm
  rw [hnb] at hlc' ⊢
  clear hne
  go_enter Try.func34, Try.ntmps34
  go_wp2_with fail
  go_loopw [5] (fun i wr => ∃ k : Nat, k ≤ n ∧ i = .int .i64 k ∧ Below w.heap.size w wr) (fun i _ => n - (intOf i).toNat)
  case atStart => exact ⟨0, Nat.zero_le _, rfl, Below.refl _ _⟩
  case round =>
    obtain ⟨k, hk, rfl, hbel⟩ := hrel
    by_cases hlt : k < n
    · have hka : k < xs.length := by omega
      have hkb : k < ys.length := by omega
      have hk1 : (k : Int) < (n : Int) := by omega
      have hk0 : (0 : Int) ≤ (k : Int) := by omega
      obtain ⟨b0, o0, rfl, hl0, hc0⟩ := HA.out k hka
      obtain ⟨b1, o1, rfl, hl1, hc1⟩ := HB.out k hkb
      have c0 : wr.cell? ⟨b0, o0 + k * 2, none⟩ = some (.int .i64 xs[k].f) := (hbel.cell (p := ⟨b0, _, none⟩) hl0).trans (hc0 0 (by decide))
      have c1 : wr.cell? ⟨b0, o0 + k * 2 + 1, none⟩ = some xs[k].sl := (hbel.cell (p := ⟨b0, _, none⟩) hl0).trans (hc0 1 (by decide))
      have d0 : wr.cell? ⟨b1, o1 + k * 2, none⟩ = some (.int .i64 ys[k].f) := (hbel.cell (p := ⟨b1, _, none⟩) hl1).trans (hc1 0 (by decide))
      have d1 : wr.cell? ⟨b1, o1 + k * 2 + 1, none⟩ = some ys[k].sl := (hbel.cell (p := ⟨b1, _, none⟩) hl1).trans (hc1 1 (by decide))
      have SX := Lib.hid ((CA.out xs[k] (List.getElem_mem hka)).below hbel)
      have SY := Lib.hid ((CB.out ys[k] (List.getElem_mem hkb)).below hbel)
      have hs : xs[k].say = ys[k].say := by
        have h1 : (xs.map Vx.say)[k]? = (ys.map Vx.say)[k]? := by rw [HE.out]
        rw [List.getElem?_map, List.getElem?_map, List.getElem?_eq_getElem hka, List.getElem?_eq_getElem hkb] at h1
        simpa using h1
      clear hc0 hc1
      generalize xs[k] = x at c0 c1 SX hs
      generalize ys[k] = y at d0 d1 SY hs
      obtain ⟨F, sx, cx⟩ := x
      obtain ⟨F', sy, cy⟩ := y
      simp only [Vx.say, Prod.mk.injEq] at hs
      obtain ⟨rfl, rfl⟩ := hs
      obtain ⟨ax, kx, hsx, -⟩ := SX.out
      obtain ⟨ay, ky, hsy, -⟩ := SY.out
      simp only at c0 c1 d0 d1 hsx hsy
      subst hsx hsy
      have SX' := Lib.hid (SX.out.below (Below.drew (Below.refl _ _)))
      have SY' := Lib.hid (SY.out.below (Below.drew (Below.refl _ _)))
      go_wp2_with fail
      go_region_with (go_at_call 58; refine (eqVote_c _ _ _ _ _ _ _ _ _ SX'.out SY'.out).mono ?_; rintro e w1 ⟨rfl, k1⟩)
      all_goals
        have hbel1 := below_next hbel (below_next (Below.drew (Below.refl _ _)) k1)
        clear k1 hbel
        go_wp2_with fail
        refine ⟨⟨k + 1, by omega, by go_num, by first | exact hbel1 | exact hbel1.drew⟩, ?_⟩
        simp [intOf]; omega
    · go_wp2_with fail
      go_ret
      exact ⟨rfl, hbel⟩
end Go.Proofs.Ytgdhieffjflejaa
