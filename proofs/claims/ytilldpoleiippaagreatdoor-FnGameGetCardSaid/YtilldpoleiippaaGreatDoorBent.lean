/- Drawn texts: l20Bent, DrawReqPut, DrawReqGet; condition: fewer than 2^40 reads. -/
import Derived.Test.YtilldpoleiippaaGreatDoorOfStr
import Derived.Test.YtilldpoleiippaaGreatDoorMD
set_option linter.unusedSimpArgs false
set_option linter.unusedVariables false
namespace Go.Proofs.YtilldpoleiippaaGreatDoor
open Go.RowKit Go.Joins

/-- Some text, hardly longer; the reader has moved on. -/
def Bent (n : Nat) (w : World) (g P : Nat) (e : Ending) (w' : World) : Prop :=
  ∃ s' : ByteArray, s'.size ≤ n + 1 ∧ e = .returned (.string s') ∧ Rdr w' g (P + 3) ∧ w.grownBy w' (some g)
theorem extract_size_le (s : ByteArray) (a b : Nat) : (s.extract a b).size ≤ s.size := by rw [ByteArray.size_extract]; omega
theorem size_app (a b : ByteArray) : (a ++ b).size = a.size + b.size := by simp

set_option maxRecDepth 100000 in
set_option maxHeartbeats 2000000 in
theorem l20Bent_c (s : ByteArray) (w : World) (g P : Nat) (hr : Rdr w g P) (hP : P ≤ 1099511600000) (hs : s.size ≤ 1099511600000) :
    Calls Tryz.prog 14 #[.pointer (some ⟨g, 0, none⟩), .string s] w (Bent s.size w g P) := by
  have hlt := hr.lt
  have hw1 : IntKind.i64.wrap ((s.size : Int) + 1) = (s.size : Int) + 1 := IntWalk.i64_in _ ⟨by omega, by omega⟩
  go_enter Tryz.func14, Tryz.ntmps14
  go_wp2_with fail
  refine (pick_c _ g P ((s.size : Int) + 1) hr (by omega) (by omega)).mono ?_
  rintro e w1 ⟨v1, rfl, a1, b1, -, r1, k1⟩
  replace b1 := b1 (by omega)
  obtain ⟨k, rfl⟩ := Int.eq_ofNat_of_zero_le a1
  go_wp2_with fail
  refine (pick_c _ g (P + 1) 5 r1 (by omega) (by omega)).mono ?_
  rintro e w2 ⟨v2, rfl, a2, b2, -, r2, k2⟩
  replace b2 := b2 (by omega)
  have KG := grown_trans k1 k2
  have hlt2 := r2.lt
  clear k1 k2 r1 hr
  have hks : k ≤ s.size := by omega
  have hks' : (k : Int) ≤ (s.size : Int) := by omega
  have hk0 : (0 : Int) ≤ (k : Int) := by omega
  have h5 : v2 = 0 ∨ v2 = 1 ∨ v2 = 2 ∨ v2 = 3 ∨ v2 = 4 := by omega
  rcases h5 with rfl | rfl | rfl | rfl | rfl
  · by_cases hlk : k < s.size
    · obtain ⟨x, hx⟩ : ∃ x, s.extract 0 k = x := ⟨_, rfl⟩
      obtain ⟨y, hy⟩ : ∃ y, s.extract (k + 1) s.size = y := ⟨_, rfl⟩
      have xs : x.size = k := by rw [← hx, ByteArray.size_extract]; omega
      have ys : y.size = s.size - (k + 1) := by rw [← hy, ByteArray.size_extract]; omega
      have XS := Lib.hid xs
      have YS := Lib.hid ys
      have hw2 : IntKind.i64.wrap ((k : Int) + 1) = (k : Int) + 1 := IntWalk.i64_in _ ⟨by omega, by omega⟩
      have hk1 : (0 : Int) ≤ (k : Int) + 1 := by omega
      have hk2 : (k : Int) + 1 ≤ (s.size : Int) := by omega
      have hk3 : (k : Int) < (s.size : Int) := by omega
      clear xs ys
      go_wp2_with fail
      refine wp_region_held_drew (S := fun _ => True) (by kernel_rfl) trivial (fun hHeld => ?_)
      refine wpAnyH_take (i := 0) (oi := _) (v := ?_) (by (simp only [List.getElem?_toArray]; rfl)) (by kernel_rfl) (by kernel_rfl) (by kernel_rfl) (by exact fun _ _ _ h => h) (Or.inl ⟨by rfl, ?_⟩) (by assumption) ?_
      rotate_left
      · intro wS hSw
        go_simp
        all_goals first | with_reducible rfl | rw [if_neg (by omega)]
      simp only [Act.put, List.setIfInBounds_toArray, List.set]
      refine wpAnyH_take (i := 1) (oi := _) (v := ?_) (by (simp only [List.getElem?_toArray]; rfl)) (by kernel_rfl) (by kernel_rfl) (by kernel_rfl) (by exact fun _ _ _ h => h) (Or.inl ⟨by rfl, ?_⟩) (by assumption) ?_
      rotate_left
      · intro wS hSw
        go_simp
        all_goals first | with_reducible rfl | rw [if_neg (by omega)]
      simp only [Act.put, List.setIfInBounds_toArray, List.set]
      refine wpAnyH_take (i := 2) (oi := _) (v := ?_) (by (simp only [List.getElem?_toArray]; rfl)) (by kernel_rfl) (by kernel_rfl) (by kernel_rfl) (by exact fun _ _ _ h => h) (Or.inl ⟨by rfl, ?_⟩) (by assumption) ?_
      rotate_left
      · intro wS hSw
        go_simp
        all_goals first | with_reducible rfl | rw [if_neg (by omega)]
      simp only [Act.put, List.setIfInBounds_toArray, List.set]
      refine wpAnyH_take (i := 3) (oi := _) (v := ?_) (by (simp only [List.getElem?_toArray]; rfl)) (by kernel_rfl) (by kernel_rfl) (by kernel_rfl) (by exact fun _ _ _ h => h) (Or.inl ⟨by rfl, ?_⟩) (by assumption) ?_
      rotate_left
      · intro wS hSw
        go_simp
        all_goals first | with_reducible rfl | rw [if_neg (by omega)]
      simp only [Act.put, List.setIfInBounds_toArray, List.set]
      refine wpAnyH_take (i := 7) (oi := _) (v := ?_) (by (simp only [List.getElem?_toArray]; rfl)) (by kernel_rfl) (by kernel_rfl) (by kernel_rfl) (by exact fun _ _ _ h => h) (Or.inl ⟨by rfl, ?_⟩) (by assumption) ?_
      rotate_left
      · intro wS hSw
        go_simp
        all_goals first | with_reducible rfl | rw [if_neg (by omega)]
      simp only [Act.put, List.setIfInBounds_toArray, List.set]
      refine wpAnyH_take (i := 8) (oi := _) (v := ?_) (by (simp only [List.getElem?_toArray]; rfl)) (by kernel_rfl) (by kernel_rfl) (by kernel_rfl) (by exact fun _ _ _ h => h) (Or.inl ⟨by rfl, ?_⟩) (by assumption) ?_
      rotate_left
      · intro wS hSw
        go_simp
        all_goals first | with_reducible rfl | rw [if_neg (by omega)]
      simp only [Act.put, List.setIfInBounds_toArray, List.set]
      refine wpAnyH_take (i := 9) (oi := _) (v := ?_) (by (simp only [List.getElem?_toArray]; rfl)) (by kernel_rfl) (by kernel_rfl) (by kernel_rfl) (by exact fun _ _ _ h => h) (Or.inl ⟨by rfl, ?_⟩) (by assumption) ?_
      rotate_left
      · intro wS hSw
        go_simp
        all_goals first | with_reducible rfl | rw [if_neg (by omega)]
      simp only [Act.put, List.setIfInBounds_toArray, List.set]
      refine wpAnyH_take (i := 10) (oi := _) (v := ?_) (by (simp only [List.getElem?_toArray]; rfl)) (by kernel_rfl) (by kernel_rfl) (by kernel_rfl) (by exact fun _ _ _ h => h) (Or.inl ⟨by rfl, ?_⟩) (by assumption) ?_
      rotate_left
      · intro wS hSw
        go_simp
        all_goals first | with_reducible rfl | rw [if_neg (by omega)]
      simp only [Act.put, List.setIfInBounds_toArray, List.set]
      clear hHeld
      refine wpAnyH_ready (rs := [4]) (by kernel_rfl) (by simp) ?_
      refine AllReadyH.cons (o := _) (by (simp only [List.getElem?_toArray]; rfl)) (fun K hK => ?_) AllReadyH.nil
      go_simp
      obtain ⟨V, hV, sV, aV, kV⟩ := blocks1 w2 (.cells #[.string ⟨#[48]⟩, .string ⟨#[49]⟩, .string ⟨#[32]⟩, .string ⟨#[45]⟩, .string ⟨#[44]⟩, .string ⟨#[47]⟩, .string ⟨#[10]⟩] 9)
      rw [← hV]
      clear hV
      have rV : Rdr V.drew g (P + 1 + 1) := Rdr.below (w := w2) r2 ((Below.drew kV).mono hlt2)
      refine hK.out _ _ trivial (fun hHeld => ?_)
      clear hK K
      try simp only [Act.put, List.setIfInBounds_toArray, List.set]
      clear hHeld
      refine wpAnyH_ready (rs := [5]) (by kernel_rfl) (by simp) ?_
      refine AllReadyH.cons (o := _) (by (simp only [List.getElem?_toArray]; rfl)) (fun K hK => ?_) AllReadyH.nil
      go_simp
      refine (of_c V.drew g (P + 1 + 1) w2.heap.size 7 _ [⟨#[48]⟩, ⟨#[49]⟩, ⟨#[32]⟩, ⟨#[45]⟩, ⟨#[44]⟩, ⟨#[47]⟩, ⟨#[10]⟩] _ rV (by omega) (by omega) aV rfl rfl (by decide) (by decide)).mono ?_
      rintro e w3 ⟨t, ht, rfl, r3, k3⟩
      have hts : t.size = 1 := by
        simp only [List.mem_cons, List.not_mem_nil, or_false] at ht
        rcases ht with rfl | rfl | rfl | rfl | rfl | rfl | rfl <;> rfl
      have TS := Lib.hid hts
      have n1 : ¬ 9223372036854775807 < x.size + t.size := by rw [XS.out, hts]; omega
      have n2 : ¬ 9223372036854775807 < x.size + t.size + y.size := by rw [XS.out, hts, YS.out]; omega
      have K3 := Lib.hid (grown_trans (grown_trans KG (grown_of_below (Below.drew kV) _)) k3)
      clear ht hts k3 aV kV rV KG sV
      refine hK.out _ _ trivial (fun hHeld => ?_)
      clear hK K
      try simp only [Act.put, List.setIfInBounds_toArray, List.set]
      refine wpAnyH_take (i := 6) (oi := _) (v := ?_) (by (simp only [List.getElem?_toArray]; rfl)) (by kernel_rfl) (by kernel_rfl) (by kernel_rfl) (by exact fun _ _ _ h => h) (Or.inl ⟨by rfl, ?_⟩) (by assumption) ?_
      rotate_left
      · intro wS hSw
        go_simp
        all_goals first | with_reducible rfl | rw [if_neg (by omega)]
      simp only [Act.put, List.setIfInBounds_toArray, List.set]
      refine wpAnyH_take (i := 11) (oi := _) (v := ?_) (by (simp only [List.getElem?_toArray]; rfl)) (by kernel_rfl) (by kernel_rfl) (by kernel_rfl) (by exact fun _ _ _ h => h) (Or.inl ⟨by rfl, ?_⟩) (by assumption) ?_
      rotate_left
      · intro wS hSw
        go_simp
        all_goals first | with_reducible rfl | rw [if_neg (by omega)]
      simp only [Act.put, List.setIfInBounds_toArray, List.set]
      refine wpAnyH_take (i := 12) (oi := _) (v := ?_) (by (simp only [List.getElem?_toArray]; rfl)) (by kernel_rfl) (by kernel_rfl) (by kernel_rfl) (by exact fun _ _ _ h => h) (Or.inl ⟨by rfl, ?_⟩) (by assumption) ?_
      rotate_left
      · intro wS hSw
        go_simp
        all_goals first | with_reducible rfl | rw [if_neg (by omega)]
      simp only [Act.put, List.setIfInBounds_toArray, List.set]
      refine wpAnyH_done (by kernel_rfl) ?_ _
      go_wp2_with fail
      go_ret
      exact ⟨_, by rw [size_app, size_app, XS.out, TS.out, YS.out]; omega, rfl, r3, K3.out⟩
    · have hlk' : ¬ (k : Int) < (s.size : Int) := by omega
      go_wp2_with fail
      go_ret
      exact ⟨s, Nat.le_succ _, rfl, r2.mono (by omega), KG⟩
  · go_wp2_with fail
    go_ret
    exact ⟨_, Nat.le_succ_of_le (extract_size_le s _ _), rfl, r2.mono (by omega), KG⟩
  · go_wp2_with fail
    refine (of_c _ g (P + 1 + 1) w2.heap.size 4 _ [⟨#[48]⟩, ⟨#[32]⟩, ⟨#[44]⟩, ⟨#[10]⟩] _ (r2.below (by repeat' (first | with_reducible exact Below.refl _ _ | with_reducible assumption | with_reducible refine Below.alloc ?_ ?_ _ | with_reducible refine Below.drew ?_ | with_reducible refine Below.setCell ?_ ?_ _ | omega | (simp; omega) | (simp; done)))) (by omega) (by omega) (heap_alloc_new w2 _) rfl rfl (by decide) (by decide)).mono ?_
    rintro e w3 ⟨t, ht, rfl, r3, k3⟩
    have hts : t.size = 1 := by
      simp only [List.mem_cons, List.not_mem_nil, or_false] at ht
      rcases ht with rfl | rfl | rfl | rfl <;> rfl
    have TS := Lib.hid hts
    have n1 : ¬ 9223372036854775807 < s.size + t.size := by rw [hts]; omega
    have K3 := Lib.hid (grown_trans (grown_trans KG (grown_of_below ((Below.refl w2.heap.size w2).alloc (Nat.le_refl _) _) _)) k3)
    clear ht hts k3 KG
    go_wp2_with fail
    go_ret
    exact ⟨_, by rw [size_app, TS.out]; exact Nat.le_refl _, rfl, r3, K3.out⟩
  · go_wp2_with fail
    go_ret
    exact ⟨s, Nat.le_succ _, rfl, r2.mono (by omega), KG⟩
  · go_wp2_with fail
    go_ret
    exact ⟨s, Nat.le_succ _, rfl, r2.mono (by omega), KG⟩

/-- Some text, not long. -/
def ATxt (n : Nat) (w : World) (e : Ending) (w' : World) : Prop :=
  ∃ s : ByteArray, s.size ≤ n ∧ e = .returned (.string s) ∧ Below w.heap.size w w'
end Go.Proofs.YtilldpoleiippaaGreatDoor
