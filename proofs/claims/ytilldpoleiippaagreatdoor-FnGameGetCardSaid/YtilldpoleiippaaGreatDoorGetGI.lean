/- The program reads a game (impl.GameGet); condition: a small text, the package variables as listed. -/
import Derived.Test.YtilldpoleiippaaGreatDoorGetGS
import Derived.Test.YtilldpoleiippaaGreatDoorPutGI
import Derived.Test.YtilldpoleiippaaGreatDoorClone
set_option linter.unusedSimpArgs false
set_option linter.unusedVariables false
namespace Go.Proofs.YtilldpoleiippaaGreatDoor
open Go.RowKit Go.Joins

/-- What the program read as a game: rows without room, each in a block of its own. -/
def GameOwnR (s : List UInt8) (w : World) (e : Ending) (w' : World) : Prop :=
  ∃ (g : Gm) (b : Bool) (a0 a1 a2 : Option Addr), IsGame s g b ∧ e = .returned (.tuple #[.agg #[.slice a0 g.es.length g.es.length, .slice a1 g.fl.length g.fl.length, .slice a2 g.la.length g.la.length], .bool b]) ∧
    Row w' w.heap.size 44 a0 g.es.length 5 Rq.cs g.es ∧ Row w' w.heap.size 3 a1 g.fl.length 1 intR g.fl ∧ Row w' w.heap.size 3 a2 g.la.length 1 intR g.la ∧
    (∀ b, rowBlk a0 g.es.length = some b → rowBlk a1 g.fl.length ≠ some b) ∧ (∀ b, rowBlk a0 g.es.length = some b → rowBlk a2 g.la.length ≠ some b) ∧ (∀ b, rowBlk a1 g.fl.length = some b → rowBlk a2 g.la.length ≠ some b) ∧ Below w.heap.size w w'
theorem gameOwn_none {s : List UInt8} {w w' : World} (h : IsGame s ⟨[], [], []⟩ false) (k : Below w.heap.size w w') :
    GameOwnR s w (.returned (.tuple #[.agg #[.slice none 0 0, .slice none 0 0, .slice none 0 0], .bool false])) w' :=
  ⟨⟨[], [], []⟩, false, none, none, none, h, rfl, Row.nil _ _ _ _ _ _, Row.nil _ _ _ _ _ _, Row.nil _ _ _ _ _ _, (fun b hb => by cases hb), (fun b hb => by cases hb), (fun b hb => by cases hb), k⟩
theorem belG {w w1 w2 : World} {g : Nat} (h : Below w.heap.size w w1) (k : w1.grownBy w2 (some g)) (hg : w.heap.size ≤ g) : Below w.heap.size w w2 :=
  h.trans ⟨k.os, k.tape, k.output, k.size, fun b hb => k.block b (Nat.lt_of_lt_of_le hb h.size) (fun e => by injection e with e; omega)⟩
theorem grown_add {w w1 w2 : World} {g HB : Nat} (h : w.grownBy w1 (some g)) (k : Below g w1 w2) (hHB : HB = w.heap.size) (kB : ∀ b, b < HB → b ≠ g → w2.heap[b]? = w1.heap[b]?) : w.grownBy w2 (some g) :=
  ⟨k.os.trans h.os, k.tape.trans h.tape, k.output.trans h.output, Nat.le_trans h.size k.size, fun b hb hn => (kB b (by omega) (fun e => hn (by rw [e]))).trans (h.block b hb hn)⟩
theorem grown_below {w w1 w2 : World} {row : Option Nat} (h : w.grownBy w1 row) (k : Below w1.heap.size w1 w2) : w.grownBy w2 row :=
  ⟨k.os.trans h.os, k.tape.trans h.tape, k.output.trans h.output, Nat.le_trans h.size k.size, fun b hb hn => (k.block b (Nat.lt_of_lt_of_le hb h.size)).trans (h.block b hb hn)⟩
theorem grown_cell {w w1 : World} {g b o : Nat} (h : w.grownBy w1 (some g)) (hb : b < w.heap.size) (hn : b ≠ g) : w1.cell? ⟨b, o, none⟩ = w.cell? ⟨b, o, none⟩ :=
  cellBlk (h.block b hb (fun e => by injection e with e; exact hn e)) o
theorem numsI_len (p : List UInt8) : (numsI p).length ≤ p.length + 1 := by
  have h1 := splitL_len 44 (Lib.trimSuffix p [44])
  have h2 := trim_len p
  have h3 : (numsI p).length = (splitL 44 (Lib.trimSuffix p [44])).length := by
    show (List.map _ _).length = _
    rw [List.length_map]
    rfl
  omega

set_option maxRecDepth 100000 in
set_option maxHeartbeats 1000000 in
theorem GameGet_c (s : ByteArray) (w : World) (hs : s.size ≤ 1100000) (E : EnvA w) :
    Calls Tryz.prog 5 #[.string s] w (GameOwnR s.data.toList w) := by
  have HSL := Lib.hid (show s.data.toList.length = s.size by simp)
  have EE := Lib.hid E
  clear E
  go_enter Tryz.func5, Tryz.ntmps5
  go_wp2_with fail
  obtain ⟨W, hW, sW, aW, kW⟩ := blocks1 w (.cells #[.slice none 0 0, .slice none 0 0, .slice none 0 0] 27)
  rw [← hW]
  clear hW
  refine (split_c 47 s W (by omega) (EE.out.below kW)).mono ?_
  rintro e w1 ⟨a, cap, rfl, hR, k1⟩
  have K1 := below_next kW k1
  have a1 := carryB k1 (by omega) aW
  clear aW k1 kW
  have HLE := Lib.hid (fun p (h : p ∈ splitL 47 s.data.toList) => splitK_leG 47 _ _ p h)
  have HFEW := Lib.hid (isGame_impl_few (s := s.data.toList))
  have HFIVE := Lib.hid (fun k p => isGame_impl_five (s := s.data.toList) (k := k) (p := p))
  have HNO := Lib.hid (isGame_impl_no (s := s.data.toList))
  have hle := splitL_len 47 s.data.toList
  rw [HSL.out] at hle
  have eSG : splitG s.data.toList = splitL 47 s.data.toList := rfl
  rw [eSG] at HFEW HFIVE HNO
  clear eSG
  generalize splitL 47 s.data.toList = ps at *
  have HRW := Lib.hid hR
  have hcp := hR.len
  have hcm := hR.max
  unfold maxLen at hcm
  clear hR
  obtain ⟨n, hn⟩ : ∃ n, n = ps.length := ⟨_, rfl⟩
  rw [← hn] at hle hcp ⊢
  have HNN := Lib.hid hn
  clear hn
  have ca := cell_of_block a1
  have fa := unfrozen_of_block a1
  have la := lt_of_block a1
  by_cases h2 : n < 2
  · have hi : (n : Int) < 2 := by omega
    go_wp2_with fail
    refine bodyPost_ret (v := .tuple #[.agg #[.slice none 0 0, .slice none 0 0, .slice none 0 0], .bool false]) (by simp [results, Tryz.results5, go_sem, ca]) rfl ?_
    exact gameOwn_none (HFEW.out (by rw [← HNN.out]; exact h2)) (by repeat' (first | with_reducible exact Below.refl _ _ | with_reducible assumption | with_reducible refine Below.alloc ?_ ?_ _ | with_reducible refine Below.drew ?_ | with_reducible refine Below.setCell ?_ ?_ _ | omega | (simp; omega) | (simp; done)))
  · have hi : ¬ (n : Int) < 2 := by omega
    have hn2 : 2 ≤ n := by omega
    have hp0 : 0 < ps.length := by rw [← HNN.out]; omega
    have hp1 : 1 < ps.length := by rw [← HNN.out]; omega
    obtain ⟨g0, cur0, rfl, hgB, hgH, -⟩ := HRW.out.own (by omega)
    have lg0 := lt_of_block hgH
    have HR := Lib.hid (HRW.out.rows str_len)
    have HRD := Lib.hid (show readGI ps = ⟨(ps.drop 2).map (fun p => rqOf (numsI p)), numsI ps[0], numsI ps[1]⟩ by
      unfold readGI
      rw [List.getD_eq_getElem?_getD, List.getD_eq_getElem?_getD, List.getElem?_eq_getElem hp0, List.getElem?_eq_getElem hp1]
      rfl)
    have hat := fun k (hk : k < ps.length) => str_atG HR.out k hk
    have HAT : Hid (∀ k (hk : k < ps.length), w1.cell? ⟨g0, k, none⟩ = some (.string ⟨ps[k].toArray⟩)) := fun k hk => by
      obtain ⟨b, o, e, -, hc⟩ := hat k hk
      simp only [Option.some.injEq, Addr.mk.injEq, and_true] at e
      obtain ⟨rfl, rfl⟩ := e
      have := hc w1 (Below.refl _ _)
      rwa [Nat.zero_add] at this
    have d0 := HAT.out 0 hp0
    have d1 := HAT.out 1 hp1
    have q0 := HLE.out ps[0] (List.getElem_mem _)
    have q1 := HLE.out ps[1] (List.getElem_mem _)
    rw [HSL.out] at q0 q1
    clear hat hgH HRW
    obtain ⟨p0, hp0'⟩ : ∃ p0, p0 = ps[0] := ⟨_, rfl⟩
    obtain ⟨p1, hp1'⟩ : ∃ p1, p1 = ps[1] := ⟨_, rfl⟩
    rw [← hp0'] at q0 d0 HRD
    rw [← hp1'] at q1 d1 HRD
    clear hp0' hp1' hp0 hp1
    have CN0 := Lib.hid (fun V E => numbersOf_c p0 V (by omega) E)
    have CN1 := Lib.hid (fun V E => numbersOf_c p1 V (by omega) E)
    have nf0 := numsI_len p0
    have nf1 := numsI_len p1
    generalize hf0 : numsI p0 = f0 at *
    generalize hf1 : numsI p1 = f1 at *
    clear hf0 hf1
    obtain ⟨m0, hm0⟩ : ∃ m, m = f0.length := ⟨_, rfl⟩
    obtain ⟨m1, hm1⟩ : ∃ m, m = f1.length := ⟨_, rfl⟩
    rw [← hm0] at nf0
    rw [← hm1] at nf1
    have hm0s : m0 ≤ 1100001 := by omega
    have hm1s : m1 ≤ 1100001 := by omega
    have HF0 := Lib.hid hm0.symm
    have HF1 := Lib.hid hm1.symm
    have KW := Lib.hid K1
    clear hm0 hm1 nf0 nf1 q0 q1
    have hc1 : (1 : Int) < (n : Int) := by omega
    have hc0 : (0 : Int) < (n : Int) := by omega
    have hc0n : 0 < n := by omega
    have hc1n : 1 < n := by omega
    go_wp2_with fail
    refine wp_region_held_drew (S := fun w' => ((∀ b o, b < w1.heap.size → (w').cell? ⟨b, o, none⟩ = (w1).cell? ⟨b, o, none⟩) ∧ Below (w1.heap.size) (w1) (w'))) (by kernel_rfl) (KeptB.drew (KeptB.refl _ _)) (fun hHeld => ?_)
    refine introFinG (X := Option Addr × Nat × Option Addr × Option Addr × Nat × Option Addr × Nat) 0 #[true, true, true, true, true, true, true, true, true, true, true, true, true] (fun x T => ((((((((((((T).setIfInBounds 15 (.slice (some ⟨g0, 0, none⟩) n cap)).setIfInBounds 16 (.pointer (some ⟨g0, 0, none⟩))).setIfInBounds 17 (.string ⟨p0.toArray⟩)).setIfInBounds 18 (.slice x.1 m0 x.2.1)).setIfInBounds 19 (.slice x.2.2.1 m0 m0)).setIfInBounds 20 (.slice (some ⟨g0, 0, none⟩) n cap)).setIfInBounds 21 (.pointer (some ⟨g0, 1, none⟩))).setIfInBounds 22 (.string ⟨p1.toArray⟩)).setIfInBounds 23 (.slice x.2.2.2.1 m1 x.2.2.2.2.1)).setIfInBounds 24 (.slice x.2.2.2.2.2.1 m1 m1)).setIfInBounds 25 (.agg #[.slice none 0 0, .slice x.2.2.1 m0 m0, .slice x.2.2.2.2.2.1 m1 m1])).setIfInBounds 5 (.pointer (some ⟨x.2.2.2.2.2.2, 0, none⟩))) (fun x w' => (((∀ b o, b < w1.heap.size → (w').cell? ⟨b, o, none⟩ = (w1).cell? ⟨b, o, none⟩) ∧ Below (w1.heap.size) (w1) (w'))) ∧ w'.heap[x.2.2.2.2.2.2]? = some (.cells #[.slice none 0 0, .slice x.2.2.1 m0 m0, .slice x.2.2.2.2.2.1 m1 m1] 27 (0, 0)) ∧ w1.heap.size ≤ x.2.2.2.2.2.2 ∧ Row w' w1.heap.size 3 x.2.2.1 m0 1 intR f0 ∧ Row w' w1.heap.size 3 x.2.2.2.2.2.1 m1 1 intR f1 ∧ (∀ g, rowBlk x.2.2.1 m0 = some g → rowBlk x.2.2.2.2.2.1 m1 ≠ some g) ∧ (∀ g, rowBlk x.2.2.1 m0 = some g → g ≠ x.2.2.2.2.2.2) ∧ (∀ g, rowBlk x.2.2.2.2.2.1 m1 = some g → g ≠ x.2.2.2.2.2.2)) ?_ (fun hfin => ?_)
    rotate_left
    · obtain ⟨wd, hwd, kwd⟩ : ∃ wd, wd = w1.drew ∧ Below w1.heap.size w1 wd := ⟨_, rfl, Below.drew (Below.refl _ _)⟩
      rw [← hwd] at hHeld ⊢
      clear hwd
      have RK := Lib.hid (KeptB.of kwd)
      clear kwd
      refine wpAnyH_take (i := 0) (oi := _) (v := ?_) (by (simp only [List.getElem?_toArray]; rfl)) (by kernel_rfl) (by kernel_rfl) (by kernel_rfl) (by exact fun _ _ _ h => h) (Or.inl ⟨by rfl, ?_⟩) (by assumption) ?_
      rotate_left
      · intro wS hSw
        go_simp
        all_goals first | with_reducible rfl | rw [if_neg (by omega)]
      simp only [Act.put, List.setIfInBounds_toArray, List.set]
      refine wpAnyH_take (i := 1) (oi := _) (v := ?_) (by (simp only [List.getElem?_toArray]; rfl)) (by kernel_rfl) (by kernel_rfl) (by kernel_rfl) (by exact fun _ _ _ h => h) (Or.inl ⟨by rfl, ?_⟩) (by assumption) ?_
      rotate_left
      · intro wS hSw
        go_simp
        all_goals first | with_reducible rfl | rw [if_neg (by omega)]
      simp only [Act.put, List.setIfInBounds_toArray, List.set]
      refine wpAnyH_take (i := 2) (oi := _) (v := ?_) (by (simp only [List.getElem?_toArray]; rfl)) (by kernel_rfl) (by kernel_rfl) (by kernel_rfl) (by exact fun _ _ _ h => h) (Or.inl ⟨by rfl, ?_⟩) (by assumption) ?_
      rotate_left
      · intro wS hSw
        go_simp
        all_goals first | with_reducible rfl | rw [if_neg (by omega)]
      simp only [Act.put, List.setIfInBounds_toArray, List.set]
      refine wpAnyH_take (i := 5) (oi := _) (v := ?_) (by (simp only [List.getElem?_toArray]; rfl)) (by kernel_rfl) (by kernel_rfl) (by kernel_rfl) (by exact fun _ _ _ h => h) (Or.inl ⟨by rfl, ?_⟩) (by assumption) ?_
      rotate_left
      · intro wS hSw
        go_simp
        all_goals first | with_reducible rfl | rw [if_neg (by omega)]
      simp only [Act.put, List.setIfInBounds_toArray, List.set]
      refine wpAnyH_take (i := 6) (oi := _) (v := ?_) (by (simp only [List.getElem?_toArray]; rfl)) (by kernel_rfl) (by kernel_rfl) (by kernel_rfl) (by exact fun _ _ _ h => h) (Or.inl ⟨by rfl, ?_⟩) (by assumption) ?_
      rotate_left
      · intro wS hSw
        go_simp
        all_goals first | with_reducible rfl | rw [if_neg (by omega)]
      simp only [Act.put, List.setIfInBounds_toArray, List.set]
      refine wpAnyH_take (i := 7) (oi := _) (v := ?_) (by (simp only [List.getElem?_toArray]; rfl)) (by kernel_rfl) (by kernel_rfl) (by kernel_rfl) (by exact fun _ _ _ h => h) (Or.inl ⟨by rfl, ?_⟩) (by assumption) ?_
      rotate_left
      · intro wS hSw
        go_simp
        all_goals first | with_reducible rfl | rw [if_neg (by omega)]
      simp only [Act.put, List.setIfInBounds_toArray, List.set]
      refine wpAnyH_ready (rs := [3, 11]) (by kernel_rfl) (by simp) ?_
      refine AllReadyH.cons (o := _) (by (simp only [List.getElem?_toArray]; rfl)) (fun K hK => ?_) ?_
      · skip
        go_simp
        refine (CN0.out wd (EE.out.below (KW.out.trans (RK.out.2.mono KW.out.size)))).mono ?_
        rintro e wC0RK ⟨y0, z0, rfl, rN, kk⟩
        have zs0 := Lib.hid (rN.slN (fun _ => rfl) HF0.out)
        rw [HF0.out]
        clear rN
        have kC0RK := Lib.hid (KeptB.next (Nat.le_refl _) RK.out kk)
        clear kk
        refine hK.out _ _ kC0RK.out (fun hHeld => ?_)
        clear hK K hHeld
        try simp only [Act.put, List.setIfInBounds_toArray, List.set]
        refine wpAnyH_ready (rs := [4, 11]) (by kernel_rfl) (by simp) ?_
        refine AllReadyH.cons (o := _) (by (simp only [List.getElem?_toArray]; rfl)) (fun K hK => ?_) ?_
        · skip
          go_simp
          refine (cloneint_c y0 m0 z0 f0 wC0RK zs0.out (by omega)).mono ?_
          rintro e wC1kC0RK ⟨u0, rfl, rU, kk⟩
          have b0 := Lib.hid (show ∀ g, rowBlk u0 m0 = some g → wC0RK.heap.size ≤ g ∧ g < wC1kC0RK.heap.size from fun g hg => rU.blk hg)
          have r0 := Lib.hid (rU.low (B' := w1.heap.size) kC0RK.out.2.size)
          clear rU zs0
          have kC1kC0RK := Lib.hid (KeptB.next (Nat.le_refl _) kC0RK.out kk)
          clear kk
          refine hK.out _ _ kC1kC0RK.out (fun hHeld => ?_)
          clear hK K hHeld
          try simp only [Act.put, List.setIfInBounds_toArray, List.set]
          refine wpAnyH_ready (rs := [8, 11]) (by kernel_rfl) (by simp) ?_
          refine AllReadyH.cons (o := _) (by (simp only [List.getElem?_toArray]; rfl)) (fun K hK => ?_) ?_
          · skip
            go_simp
            refine (CN1.out wC1kC0RK (EE.out.below (KW.out.trans (kC1kC0RK.out.2.mono KW.out.size)))).mono ?_
            rintro e wC2kC1kC0RK ⟨y1, z1, rfl, rN, kk⟩
            have zs1 := Lib.hid (rN.slN (fun _ => rfl) HF1.out)
            rw [HF1.out]
            clear rN
            have kC2kC1kC0RK := Lib.hid (KeptB.next (Nat.le_refl _) kC1kC0RK.out kk)
            replace r0 := Lib.hid (r0.out.below kk)
            replace b0 := Lib.hid (show ∀ g, rowBlk u0 m0 = some g → 0 ≤ g ∧ g < wC2kC1kC0RK.heap.size from fun g hg => ⟨Nat.zero_le _, Nat.lt_of_lt_of_le (b0.out g hg).2 kk.size⟩)
            clear kk
            refine hK.out _ _ kC2kC1kC0RK.out (fun hHeld => ?_)
            clear hK K hHeld
            try simp only [Act.put, List.setIfInBounds_toArray, List.set]
            refine wpAnyH_ready (rs := [9, 11]) (by kernel_rfl) (by simp) ?_
            refine AllReadyH.cons (o := _) (by (simp only [List.getElem?_toArray]; rfl)) (fun K hK => ?_) ?_
            · skip
              go_simp
              refine (cloneint_c y1 m1 z1 f1 wC2kC1kC0RK zs1.out (by omega)).mono ?_
              rintro e wC3kC2kC1kC0RK ⟨u1, rfl, rU, kk⟩
              have b1 := Lib.hid (show ∀ g, rowBlk u1 m1 = some g → wC2kC1kC0RK.heap.size ≤ g ∧ g < wC3kC2kC1kC0RK.heap.size from fun g hg => rU.blk hg)
              have r1 := Lib.hid (rU.low (B' := w1.heap.size) kC2kC1kC0RK.out.2.size)
              clear rU zs1
              have kC3kC2kC1kC0RK := Lib.hid (KeptB.next (Nat.le_refl _) kC2kC1kC0RK.out kk)
              replace r0 := Lib.hid (r0.out.below kk)
              have n01 := Lib.hid (show ∀ g, rowBlk u0 m0 = some g → rowBlk u1 m1 ≠ some g from fun g hg h => by have := (b0.out g hg).2; have := (b1.out g h).1; omega)
              replace b0 := Lib.hid (show ∀ g, rowBlk u0 m0 = some g → 0 ≤ g ∧ g < wC3kC2kC1kC0RK.heap.size from fun g hg => ⟨Nat.zero_le _, Nat.lt_of_lt_of_le (b0.out g hg).2 kk.size⟩)
              clear kk
              refine hK.out _ _ kC3kC2kC1kC0RK.out (fun hHeld => ?_)
              clear hK K hHeld
              try simp only [Act.put, List.setIfInBounds_toArray, List.set]
              refine wpAnyH_take (i := 10) (oi := _) (v := ?_) (by (simp only [List.getElem?_toArray]; rfl)) (by kernel_rfl) (by kernel_rfl) (by kernel_rfl) (by exact fun _ _ _ h => h) (Or.inl ⟨by rfl, ?_⟩) (by assumption) ?_
              rotate_left
              · intro wS hSw
                go_simp
                all_goals first | with_reducible rfl | rw [if_neg (by omega)]
              simp only [Act.put, List.setIfInBounds_toArray, List.set]
              refine wpAnyH_ready (rs := [11]) (by kernel_rfl) (by simp) ?_
              refine AllReadyH.cons (o := _) (by (simp only [List.getElem?_toArray]; rfl)) (fun K hK => ?_) AllReadyH.nil
              refine stepAllocG (by rfl) (by rfl) (z := .agg #[.slice none 0 0, .slice none 0 0, .slice none 0 0]) (cs := #[.slice none 0 0, .slice none 0 0, .slice none 0 0]) (by kernel_rfl) rfl ?_
              obtain ⟨wAkC3kC2kC1kC0RK, hw', sw', hv, kw'⟩ := blocks1 wC3kC2kC1kC0RK (.cells #[.slice none 0 0, .slice none 0 0, .slice none 0 0] 27)
              rw [← hw']
              clear hw' sw'
              have kAkC3kC2kC1kC0RK := Lib.hid (KeptB.next (Nat.le_refl _) kC3kC2kC1kC0RK.out kw')
              have hvx : w1.heap.size ≤ wC3kC2kC1kC0RK.heap.size := kC3kC2kC1kC0RK.out.2.size
              replace r0 := Lib.hid (r0.out.below kw')
              replace r1 := Lib.hid (r1.out.below kw')
              have n0G := Lib.hid (show ∀ g, rowBlk u0 m0 = some g → g ≠ wC3kC2kC1kC0RK.heap.size from fun g hg => by have := (b0.out g hg).2; omega)
              have n1G := Lib.hid (show ∀ g, rowBlk u1 m1 = some g → g ≠ wC3kC2kC1kC0RK.heap.size from fun g hg => by have := (b1.out g hg).2; omega)
              replace b0 := Lib.hid (show ∀ g, rowBlk u0 m0 = some g → 0 ≤ g ∧ g < wAkC3kC2kC1kC0RK.heap.size from fun g hg => ⟨Nat.zero_le _, Nat.lt_of_lt_of_le (b0.out g hg).2 kw'.size⟩)
              replace b1 := Lib.hid (show ∀ g, rowBlk u1 m1 = some g → 0 ≤ g ∧ g < wAkC3kC2kC1kC0RK.heap.size from fun g hg => ⟨Nat.zero_le _, Nat.lt_of_lt_of_le (b1.out g hg).2 kw'.size⟩)
              clear kw'
              refine hK.out _ _ kAkC3kC2kC1kC0RK.out (fun hHeld => ?_)
              clear hK K hHeld
              try simp only [Act.put, List.setIfInBounds_toArray, List.set]
              refine wpAnyH_ready (rs := [12]) (by kernel_rfl) (by simp) ?_
              refine AllReadyH.cons (o := _) (by (simp only [List.getElem?_toArray]; rfl)) (fun K hK => ?_) AllReadyH.nil
              have cv := cell_of_block hv
              have fv := unfrozen_of_block hv
              have lv := lt_of_block hv
              go_simp
              have kSkAkC3kC2kC1kC0RK := Lib.hid (KeptB.set (p := ⟨wC3kC2kC1kC0RK.heap.size, 2, none⟩) hvx (.slice u1 m1 m1) (KeptB.set (p := ⟨wC3kC2kC1kC0RK.heap.size, 1, none⟩) hvx (.slice u0 m0 m0) (KeptB.set (p := ⟨wC3kC2kC1kC0RK.heap.size, 0, none⟩) hvx (.slice none 0 0) kAkC3kC2kC1kC0RK.out)))
              replace hv := block_set3G hv (.slice none 0 0) (.slice u0 m0 m0) (.slice u1 m1 m1)
              replace r0 := Lib.hid (((r0.out.setNe (p := ⟨wC3kC2kC1kC0RK.heap.size, 0, none⟩) n0G.out (.slice none 0 0)).setNe (p := ⟨wC3kC2kC1kC0RK.heap.size, 1, none⟩) n0G.out (.slice u0 m0 m0)).setNe (p := ⟨wC3kC2kC1kC0RK.heap.size, 2, none⟩) n0G.out (.slice u1 m1 m1))
              replace r1 := Lib.hid (((r1.out.setNe (p := ⟨wC3kC2kC1kC0RK.heap.size, 0, none⟩) n1G.out (.slice none 0 0)).setNe (p := ⟨wC3kC2kC1kC0RK.heap.size, 1, none⟩) n1G.out (.slice u0 m0 m0)).setNe (p := ⟨wC3kC2kC1kC0RK.heap.size, 2, none⟩) n1G.out (.slice u1 m1 m1))
              clear cv fv lv
              refine hK.out _ _ kSkAkC3kC2kC1kC0RK.out (fun hHeld => ?_)
              clear hK K hHeld
              try simp only [Act.put, List.setIfInBounds_toArray, List.set]
              refine hfin ⟨y0, z0, u0, y1, z1, u1, wC3kC2kC1kC0RK.heap.size⟩ _ _ _ (by kernel_rfl) ?_ ⟨kSkAkC3kC2kC1kC0RK.out, hv, hvx, r0.out, r1.out, n01.out, n0G.out, n1G.out⟩
              simp only [List.setIfInBounds_toArray, List.set]
            refine AllReadyH.cons (o := _) (by (simp only [List.getElem?_toArray]; rfl)) (fun K hK => ?_) ?_
            · skip
              refine stepAllocG (by rfl) (by rfl) (z := .agg #[.slice none 0 0, .slice none 0 0, .slice none 0 0]) (cs := #[.slice none 0 0, .slice none 0 0, .slice none 0 0]) (by kernel_rfl) rfl ?_
              obtain ⟨wAkC2kC1kC0RK, hw', sw', hv, kw'⟩ := blocks1 wC2kC1kC0RK (.cells #[.slice none 0 0, .slice none 0 0, .slice none 0 0] 27)
              rw [← hw']
              clear hw' sw'
              have kAkC2kC1kC0RK := Lib.hid (KeptB.next (Nat.le_refl _) kC2kC1kC0RK.out kw')
              have hvx : w1.heap.size ≤ wC2kC1kC0RK.heap.size := kC2kC1kC0RK.out.2.size
              replace r0 := Lib.hid (r0.out.below kw')
              replace zs1 := Lib.hid (zs1.out.below kw')
              have n0G := Lib.hid (show ∀ g, rowBlk u0 m0 = some g → g ≠ wC2kC1kC0RK.heap.size from fun g hg => by have := (b0.out g hg).2; omega)
              replace b0 := Lib.hid (show ∀ g, rowBlk u0 m0 = some g → 0 ≤ g ∧ g < wAkC2kC1kC0RK.heap.size from fun g hg => ⟨Nat.zero_le _, Nat.lt_of_lt_of_le (b0.out g hg).2 kw'.size⟩)
              clear kw'
              refine hK.out _ _ kAkC2kC1kC0RK.out (fun hHeld => ?_)
              clear hK K hHeld
              try simp only [Act.put, List.setIfInBounds_toArray, List.set]
              refine wpAnyH_ready (rs := [9]) (by kernel_rfl) (by simp) ?_
              refine AllReadyH.cons (o := _) (by (simp only [List.getElem?_toArray]; rfl)) (fun K hK => ?_) AllReadyH.nil
              go_simp
              refine (cloneint_c y1 m1 z1 f1 wAkC2kC1kC0RK zs1.out (by omega)).mono ?_
              rintro e wC3kAkC2kC1kC0RK ⟨u1, rfl, rU, kk⟩
              have b1 := Lib.hid (show ∀ g, rowBlk u1 m1 = some g → wAkC2kC1kC0RK.heap.size ≤ g ∧ g < wC3kAkC2kC1kC0RK.heap.size from fun g hg => rU.blk hg)
              have r1 := Lib.hid (rU.low (B' := w1.heap.size) kAkC2kC1kC0RK.out.2.size)
              clear rU zs1
              have kC3kAkC2kC1kC0RK := Lib.hid (KeptB.next (Nat.le_refl _) kAkC2kC1kC0RK.out kk)
              have lv := lt_of_block hv
              replace hv := (kk.block _ lv).trans hv
              have n1G := Lib.hid (show ∀ g, rowBlk u1 m1 = some g → g ≠ wC2kC1kC0RK.heap.size from fun g hg => by have := (b1.out g hg).1; omega)
              clear lv
              replace r0 := Lib.hid (r0.out.below kk)
              have n01 := Lib.hid (show ∀ g, rowBlk u0 m0 = some g → rowBlk u1 m1 ≠ some g from fun g hg h => by have := (b0.out g hg).2; have := (b1.out g h).1; omega)
              replace b0 := Lib.hid (show ∀ g, rowBlk u0 m0 = some g → 0 ≤ g ∧ g < wC3kAkC2kC1kC0RK.heap.size from fun g hg => ⟨Nat.zero_le _, Nat.lt_of_lt_of_le (b0.out g hg).2 kk.size⟩)
              clear kk
              refine hK.out _ _ kC3kAkC2kC1kC0RK.out (fun hHeld => ?_)
              clear hK K hHeld
              try simp only [Act.put, List.setIfInBounds_toArray, List.set]
              refine wpAnyH_take (i := 10) (oi := _) (v := ?_) (by (simp only [List.getElem?_toArray]; rfl)) (by kernel_rfl) (by kernel_rfl) (by kernel_rfl) (by exact fun _ _ _ h => h) (Or.inl ⟨by rfl, ?_⟩) (by assumption) ?_
              rotate_left
              · intro wS hSw
                go_simp
                all_goals first | with_reducible rfl | rw [if_neg (by omega)]
              simp only [Act.put, List.setIfInBounds_toArray, List.set]
              refine wpAnyH_ready (rs := [12]) (by kernel_rfl) (by simp) ?_
              refine AllReadyH.cons (o := _) (by (simp only [List.getElem?_toArray]; rfl)) (fun K hK => ?_) AllReadyH.nil
              have cv := cell_of_block hv
              have fv := unfrozen_of_block hv
              have lv := lt_of_block hv
              go_simp
              have kSkC3kAkC2kC1kC0RK := Lib.hid (KeptB.set (p := ⟨wC2kC1kC0RK.heap.size, 2, none⟩) hvx (.slice u1 m1 m1) (KeptB.set (p := ⟨wC2kC1kC0RK.heap.size, 1, none⟩) hvx (.slice u0 m0 m0) (KeptB.set (p := ⟨wC2kC1kC0RK.heap.size, 0, none⟩) hvx (.slice none 0 0) kC3kAkC2kC1kC0RK.out)))
              replace hv := block_set3G hv (.slice none 0 0) (.slice u0 m0 m0) (.slice u1 m1 m1)
              replace r0 := Lib.hid (((r0.out.setNe (p := ⟨wC2kC1kC0RK.heap.size, 0, none⟩) n0G.out (.slice none 0 0)).setNe (p := ⟨wC2kC1kC0RK.heap.size, 1, none⟩) n0G.out (.slice u0 m0 m0)).setNe (p := ⟨wC2kC1kC0RK.heap.size, 2, none⟩) n0G.out (.slice u1 m1 m1))
              replace r1 := Lib.hid (((r1.out.setNe (p := ⟨wC2kC1kC0RK.heap.size, 0, none⟩) n1G.out (.slice none 0 0)).setNe (p := ⟨wC2kC1kC0RK.heap.size, 1, none⟩) n1G.out (.slice u0 m0 m0)).setNe (p := ⟨wC2kC1kC0RK.heap.size, 2, none⟩) n1G.out (.slice u1 m1 m1))
              clear cv fv lv
              refine hK.out _ _ kSkC3kAkC2kC1kC0RK.out (fun hHeld => ?_)
              clear hK K hHeld
              try simp only [Act.put, List.setIfInBounds_toArray, List.set]
              refine hfin ⟨y0, z0, u0, y1, z1, u1, wC2kC1kC0RK.heap.size⟩ _ _ _ (by kernel_rfl) ?_ ⟨kSkC3kAkC2kC1kC0RK.out, hv, hvx, r0.out, r1.out, n01.out, n0G.out, n1G.out⟩
              simp only [List.setIfInBounds_toArray, List.set]
            exact AllReadyH.nil
          refine AllReadyH.cons (o := _) (by (simp only [List.getElem?_toArray]; rfl)) (fun K hK => ?_) ?_
          · skip
            refine stepAllocG (by rfl) (by rfl) (z := .agg #[.slice none 0 0, .slice none 0 0, .slice none 0 0]) (cs := #[.slice none 0 0, .slice none 0 0, .slice none 0 0]) (by kernel_rfl) rfl ?_
            obtain ⟨wAkC1kC0RK, hw', sw', hv, kw'⟩ := blocks1 wC1kC0RK (.cells #[.slice none 0 0, .slice none 0 0, .slice none 0 0] 27)
            rw [← hw']
            clear hw' sw'
            have kAkC1kC0RK := Lib.hid (KeptB.next (Nat.le_refl _) kC1kC0RK.out kw')
            have hvx : w1.heap.size ≤ wC1kC0RK.heap.size := kC1kC0RK.out.2.size
            replace r0 := Lib.hid (r0.out.below kw')
            have n0G := Lib.hid (show ∀ g, rowBlk u0 m0 = some g → g ≠ wC1kC0RK.heap.size from fun g hg => by have := (b0.out g hg).2; omega)
            replace b0 := Lib.hid (show ∀ g, rowBlk u0 m0 = some g → 0 ≤ g ∧ g < wAkC1kC0RK.heap.size from fun g hg => ⟨Nat.zero_le _, Nat.lt_of_lt_of_le (b0.out g hg).2 kw'.size⟩)
            clear kw'
            refine hK.out _ _ kAkC1kC0RK.out (fun hHeld => ?_)
            clear hK K hHeld
            try simp only [Act.put, List.setIfInBounds_toArray, List.set]
            refine wpAnyH_ready (rs := [8]) (by kernel_rfl) (by simp) ?_
            refine AllReadyH.cons (o := _) (by (simp only [List.getElem?_toArray]; rfl)) (fun K hK => ?_) AllReadyH.nil
            go_simp
            refine (CN1.out wAkC1kC0RK (EE.out.below (KW.out.trans (kAkC1kC0RK.out.2.mono KW.out.size)))).mono ?_
            rintro e wC2kAkC1kC0RK ⟨y1, z1, rfl, rN, kk⟩
            have zs1 := Lib.hid (rN.slN (fun _ => rfl) HF1.out)
            rw [HF1.out]
            clear rN
            have kC2kAkC1kC0RK := Lib.hid (KeptB.next (Nat.le_refl _) kAkC1kC0RK.out kk)
            have lv := lt_of_block hv
            replace hv := (kk.block _ lv).trans hv
            clear lv
            replace r0 := Lib.hid (r0.out.below kk)
            replace b0 := Lib.hid (show ∀ g, rowBlk u0 m0 = some g → 0 ≤ g ∧ g < wC2kAkC1kC0RK.heap.size from fun g hg => ⟨Nat.zero_le _, Nat.lt_of_lt_of_le (b0.out g hg).2 kk.size⟩)
            clear kk
            refine hK.out _ _ kC2kAkC1kC0RK.out (fun hHeld => ?_)
            clear hK K hHeld
            try simp only [Act.put, List.setIfInBounds_toArray, List.set]
            refine wpAnyH_ready (rs := [9]) (by kernel_rfl) (by simp) ?_
            refine AllReadyH.cons (o := _) (by (simp only [List.getElem?_toArray]; rfl)) (fun K hK => ?_) AllReadyH.nil
            go_simp
            refine (cloneint_c y1 m1 z1 f1 wC2kAkC1kC0RK zs1.out (by omega)).mono ?_
            rintro e wC3kC2kAkC1kC0RK ⟨u1, rfl, rU, kk⟩
            have b1 := Lib.hid (show ∀ g, rowBlk u1 m1 = some g → wC2kAkC1kC0RK.heap.size ≤ g ∧ g < wC3kC2kAkC1kC0RK.heap.size from fun g hg => rU.blk hg)
            have r1 := Lib.hid (rU.low (B' := w1.heap.size) kC2kAkC1kC0RK.out.2.size)
            clear rU zs1
            have kC3kC2kAkC1kC0RK := Lib.hid (KeptB.next (Nat.le_refl _) kC2kAkC1kC0RK.out kk)
            have lv := lt_of_block hv
            replace hv := (kk.block _ lv).trans hv
            have n1G := Lib.hid (show ∀ g, rowBlk u1 m1 = some g → g ≠ wC1kC0RK.heap.size from fun g hg => by have := (b1.out g hg).1; omega)
            clear lv
            replace r0 := Lib.hid (r0.out.below kk)
            have n01 := Lib.hid (show ∀ g, rowBlk u0 m0 = some g → rowBlk u1 m1 ≠ some g from fun g hg h => by have := (b0.out g hg).2; have := (b1.out g h).1; omega)
            replace b0 := Lib.hid (show ∀ g, rowBlk u0 m0 = some g → 0 ≤ g ∧ g < wC3kC2kAkC1kC0RK.heap.size from fun g hg => ⟨Nat.zero_le _, Nat.lt_of_lt_of_le (b0.out g hg).2 kk.size⟩)
            clear kk
            refine hK.out _ _ kC3kC2kAkC1kC0RK.out (fun hHeld => ?_)
            clear hK K hHeld
            try simp only [Act.put, List.setIfInBounds_toArray, List.set]
            refine wpAnyH_take (i := 10) (oi := _) (v := ?_) (by (simp only [List.getElem?_toArray]; rfl)) (by kernel_rfl) (by kernel_rfl) (by kernel_rfl) (by exact fun _ _ _ h => h) (Or.inl ⟨by rfl, ?_⟩) (by assumption) ?_
            rotate_left
            · intro wS hSw
              go_simp
              all_goals first | with_reducible rfl | rw [if_neg (by omega)]
            simp only [Act.put, List.setIfInBounds_toArray, List.set]
            refine wpAnyH_ready (rs := [12]) (by kernel_rfl) (by simp) ?_
            refine AllReadyH.cons (o := _) (by (simp only [List.getElem?_toArray]; rfl)) (fun K hK => ?_) AllReadyH.nil
            have cv := cell_of_block hv
            have fv := unfrozen_of_block hv
            have lv := lt_of_block hv
            go_simp
            have kSkC3kC2kAkC1kC0RK := Lib.hid (KeptB.set (p := ⟨wC1kC0RK.heap.size, 2, none⟩) hvx (.slice u1 m1 m1) (KeptB.set (p := ⟨wC1kC0RK.heap.size, 1, none⟩) hvx (.slice u0 m0 m0) (KeptB.set (p := ⟨wC1kC0RK.heap.size, 0, none⟩) hvx (.slice none 0 0) kC3kC2kAkC1kC0RK.out)))
            replace hv := block_set3G hv (.slice none 0 0) (.slice u0 m0 m0) (.slice u1 m1 m1)
            replace r0 := Lib.hid (((r0.out.setNe (p := ⟨wC1kC0RK.heap.size, 0, none⟩) n0G.out (.slice none 0 0)).setNe (p := ⟨wC1kC0RK.heap.size, 1, none⟩) n0G.out (.slice u0 m0 m0)).setNe (p := ⟨wC1kC0RK.heap.size, 2, none⟩) n0G.out (.slice u1 m1 m1))
            replace r1 := Lib.hid (((r1.out.setNe (p := ⟨wC1kC0RK.heap.size, 0, none⟩) n1G.out (.slice none 0 0)).setNe (p := ⟨wC1kC0RK.heap.size, 1, none⟩) n1G.out (.slice u0 m0 m0)).setNe (p := ⟨wC1kC0RK.heap.size, 2, none⟩) n1G.out (.slice u1 m1 m1))
            clear cv fv lv
            refine hK.out _ _ kSkC3kC2kAkC1kC0RK.out (fun hHeld => ?_)
            clear hK K hHeld
            try simp only [Act.put, List.setIfInBounds_toArray, List.set]
            refine hfin ⟨y0, z0, u0, y1, z1, u1, wC1kC0RK.heap.size⟩ _ _ _ (by kernel_rfl) ?_ ⟨kSkC3kC2kAkC1kC0RK.out, hv, hvx, r0.out, r1.out, n01.out, n0G.out, n1G.out⟩
            simp only [List.setIfInBounds_toArray, List.set]
          exact AllReadyH.nil
        refine AllReadyH.cons (o := _) (by (simp only [List.getElem?_toArray]; rfl)) (fun K hK => ?_) ?_
        · skip
          refine stepAllocG (by rfl) (by rfl) (z := .agg #[.slice none 0 0, .slice none 0 0, .slice none 0 0]) (cs := #[.slice none 0 0, .slice none 0 0, .slice none 0 0]) (by kernel_rfl) rfl ?_
          obtain ⟨wAkC0RK, hw', sw', hv, kw'⟩ := blocks1 wC0RK (.cells #[.slice none 0 0, .slice none 0 0, .slice none 0 0] 27)
          rw [← hw']
          clear hw' sw'
          have kAkC0RK := Lib.hid (KeptB.next (Nat.le_refl _) kC0RK.out kw')
          have hvx : w1.heap.size ≤ wC0RK.heap.size := kC0RK.out.2.size
          replace zs0 := Lib.hid (zs0.out.below kw')
          clear kw'
          refine hK.out _ _ kAkC0RK.out (fun hHeld => ?_)
          clear hK K hHeld
          try simp only [Act.put, List.setIfInBounds_toArray, List.set]
          refine wpAnyH_ready (rs := [4]) (by kernel_rfl) (by simp) ?_
          refine AllReadyH.cons (o := _) (by (simp only [List.getElem?_toArray]; rfl)) (fun K hK => ?_) AllReadyH.nil
          go_simp
          refine (cloneint_c y0 m0 z0 f0 wAkC0RK zs0.out (by omega)).mono ?_
          rintro e wC1kAkC0RK ⟨u0, rfl, rU, kk⟩
          have b0 := Lib.hid (show ∀ g, rowBlk u0 m0 = some g → wAkC0RK.heap.size ≤ g ∧ g < wC1kAkC0RK.heap.size from fun g hg => rU.blk hg)
          have r0 := Lib.hid (rU.low (B' := w1.heap.size) kAkC0RK.out.2.size)
          clear rU zs0
          have kC1kAkC0RK := Lib.hid (KeptB.next (Nat.le_refl _) kAkC0RK.out kk)
          have lv := lt_of_block hv
          replace hv := (kk.block _ lv).trans hv
          have n0G := Lib.hid (show ∀ g, rowBlk u0 m0 = some g → g ≠ wC0RK.heap.size from fun g hg => by have := (b0.out g hg).1; omega)
          clear lv
          clear kk
          refine hK.out _ _ kC1kAkC0RK.out (fun hHeld => ?_)
          clear hK K hHeld
          try simp only [Act.put, List.setIfInBounds_toArray, List.set]
          refine wpAnyH_ready (rs := [8]) (by kernel_rfl) (by simp) ?_
          refine AllReadyH.cons (o := _) (by (simp only [List.getElem?_toArray]; rfl)) (fun K hK => ?_) AllReadyH.nil
          go_simp
          refine (CN1.out wC1kAkC0RK (EE.out.below (KW.out.trans (kC1kAkC0RK.out.2.mono KW.out.size)))).mono ?_
          rintro e wC2kC1kAkC0RK ⟨y1, z1, rfl, rN, kk⟩
          have zs1 := Lib.hid (rN.slN (fun _ => rfl) HF1.out)
          rw [HF1.out]
          clear rN
          have kC2kC1kAkC0RK := Lib.hid (KeptB.next (Nat.le_refl _) kC1kAkC0RK.out kk)
          have lv := lt_of_block hv
          replace hv := (kk.block _ lv).trans hv
          clear lv
          replace r0 := Lib.hid (r0.out.below kk)
          replace b0 := Lib.hid (show ∀ g, rowBlk u0 m0 = some g → 0 ≤ g ∧ g < wC2kC1kAkC0RK.heap.size from fun g hg => ⟨Nat.zero_le _, Nat.lt_of_lt_of_le (b0.out g hg).2 kk.size⟩)
          clear kk
          refine hK.out _ _ kC2kC1kAkC0RK.out (fun hHeld => ?_)
          clear hK K hHeld
          try simp only [Act.put, List.setIfInBounds_toArray, List.set]
          refine wpAnyH_ready (rs := [9]) (by kernel_rfl) (by simp) ?_
          refine AllReadyH.cons (o := _) (by (simp only [List.getElem?_toArray]; rfl)) (fun K hK => ?_) AllReadyH.nil
          go_simp
          refine (cloneint_c y1 m1 z1 f1 wC2kC1kAkC0RK zs1.out (by omega)).mono ?_
          rintro e wC3kC2kC1kAkC0RK ⟨u1, rfl, rU, kk⟩
          have b1 := Lib.hid (show ∀ g, rowBlk u1 m1 = some g → wC2kC1kAkC0RK.heap.size ≤ g ∧ g < wC3kC2kC1kAkC0RK.heap.size from fun g hg => rU.blk hg)
          have r1 := Lib.hid (rU.low (B' := w1.heap.size) kC2kC1kAkC0RK.out.2.size)
          clear rU zs1
          have kC3kC2kC1kAkC0RK := Lib.hid (KeptB.next (Nat.le_refl _) kC2kC1kAkC0RK.out kk)
          have lv := lt_of_block hv
          replace hv := (kk.block _ lv).trans hv
          have n1G := Lib.hid (show ∀ g, rowBlk u1 m1 = some g → g ≠ wC0RK.heap.size from fun g hg => by have := (b1.out g hg).1; omega)
          clear lv
          replace r0 := Lib.hid (r0.out.below kk)
          have n01 := Lib.hid (show ∀ g, rowBlk u0 m0 = some g → rowBlk u1 m1 ≠ some g from fun g hg h => by have := (b0.out g hg).2; have := (b1.out g h).1; omega)
          replace b0 := Lib.hid (show ∀ g, rowBlk u0 m0 = some g → 0 ≤ g ∧ g < wC3kC2kC1kAkC0RK.heap.size from fun g hg => ⟨Nat.zero_le _, Nat.lt_of_lt_of_le (b0.out g hg).2 kk.size⟩)
          clear kk
          refine hK.out _ _ kC3kC2kC1kAkC0RK.out (fun hHeld => ?_)
          clear hK K hHeld
          try simp only [Act.put, List.setIfInBounds_toArray, List.set]
          refine wpAnyH_take (i := 10) (oi := _) (v := ?_) (by (simp only [List.getElem?_toArray]; rfl)) (by kernel_rfl) (by kernel_rfl) (by kernel_rfl) (by exact fun _ _ _ h => h) (Or.inl ⟨by rfl, ?_⟩) (by assumption) ?_
          rotate_left
          · intro wS hSw
            go_simp
            all_goals first | with_reducible rfl | rw [if_neg (by omega)]
          simp only [Act.put, List.setIfInBounds_toArray, List.set]
          refine wpAnyH_ready (rs := [12]) (by kernel_rfl) (by simp) ?_
          refine AllReadyH.cons (o := _) (by (simp only [List.getElem?_toArray]; rfl)) (fun K hK => ?_) AllReadyH.nil
          have cv := cell_of_block hv
          have fv := unfrozen_of_block hv
          have lv := lt_of_block hv
          go_simp
          have kSkC3kC2kC1kAkC0RK := Lib.hid (KeptB.set (p := ⟨wC0RK.heap.size, 2, none⟩) hvx (.slice u1 m1 m1) (KeptB.set (p := ⟨wC0RK.heap.size, 1, none⟩) hvx (.slice u0 m0 m0) (KeptB.set (p := ⟨wC0RK.heap.size, 0, none⟩) hvx (.slice none 0 0) kC3kC2kC1kAkC0RK.out)))
          replace hv := block_set3G hv (.slice none 0 0) (.slice u0 m0 m0) (.slice u1 m1 m1)
          replace r0 := Lib.hid (((r0.out.setNe (p := ⟨wC0RK.heap.size, 0, none⟩) n0G.out (.slice none 0 0)).setNe (p := ⟨wC0RK.heap.size, 1, none⟩) n0G.out (.slice u0 m0 m0)).setNe (p := ⟨wC0RK.heap.size, 2, none⟩) n0G.out (.slice u1 m1 m1))
          replace r1 := Lib.hid (((r1.out.setNe (p := ⟨wC0RK.heap.size, 0, none⟩) n1G.out (.slice none 0 0)).setNe (p := ⟨wC0RK.heap.size, 1, none⟩) n1G.out (.slice u0 m0 m0)).setNe (p := ⟨wC0RK.heap.size, 2, none⟩) n1G.out (.slice u1 m1 m1))
          clear cv fv lv
          refine hK.out _ _ kSkC3kC2kC1kAkC0RK.out (fun hHeld => ?_)
          clear hK K hHeld
          try simp only [Act.put, List.setIfInBounds_toArray, List.set]
          refine hfin ⟨y0, z0, u0, y1, z1, u1, wC0RK.heap.size⟩ _ _ _ (by kernel_rfl) ?_ ⟨kSkC3kC2kC1kAkC0RK.out, hv, hvx, r0.out, r1.out, n01.out, n0G.out, n1G.out⟩
          simp only [List.setIfInBounds_toArray, List.set]
        exact AllReadyH.nil
      refine AllReadyH.cons (o := _) (by (simp only [List.getElem?_toArray]; rfl)) (fun K hK => ?_) ?_
      · skip
        refine stepAllocG (by rfl) (by rfl) (z := .agg #[.slice none 0 0, .slice none 0 0, .slice none 0 0]) (cs := #[.slice none 0 0, .slice none 0 0, .slice none 0 0]) (by kernel_rfl) rfl ?_
        obtain ⟨wARK, hw', sw', hv, kw'⟩ := blocks1 wd (.cells #[.slice none 0 0, .slice none 0 0, .slice none 0 0] 27)
        rw [← hw']
        clear hw' sw'
        have kARK := Lib.hid (KeptB.next (Nat.le_refl _) RK.out kw')
        have hvx : w1.heap.size ≤ wd.heap.size := RK.out.2.size
        clear kw'
        refine hK.out _ _ kARK.out (fun hHeld => ?_)
        clear hK K hHeld
        try simp only [Act.put, List.setIfInBounds_toArray, List.set]
        refine wpAnyH_ready (rs := [3]) (by kernel_rfl) (by simp) ?_
        refine AllReadyH.cons (o := _) (by (simp only [List.getElem?_toArray]; rfl)) (fun K hK => ?_) AllReadyH.nil
        go_simp
        refine (CN0.out wARK (EE.out.below (KW.out.trans (kARK.out.2.mono KW.out.size)))).mono ?_
        rintro e wC0kARK ⟨y0, z0, rfl, rN, kk⟩
        have zs0 := Lib.hid (rN.slN (fun _ => rfl) HF0.out)
        rw [HF0.out]
        clear rN
        have kC0kARK := Lib.hid (KeptB.next (Nat.le_refl _) kARK.out kk)
        have lv := lt_of_block hv
        replace hv := (kk.block _ lv).trans hv
        clear lv
        clear kk
        refine hK.out _ _ kC0kARK.out (fun hHeld => ?_)
        clear hK K hHeld
        try simp only [Act.put, List.setIfInBounds_toArray, List.set]
        refine wpAnyH_ready (rs := [4]) (by kernel_rfl) (by simp) ?_
        refine AllReadyH.cons (o := _) (by (simp only [List.getElem?_toArray]; rfl)) (fun K hK => ?_) AllReadyH.nil
        go_simp
        refine (cloneint_c y0 m0 z0 f0 wC0kARK zs0.out (by omega)).mono ?_
        rintro e wC1kC0kARK ⟨u0, rfl, rU, kk⟩
        have b0 := Lib.hid (show ∀ g, rowBlk u0 m0 = some g → wC0kARK.heap.size ≤ g ∧ g < wC1kC0kARK.heap.size from fun g hg => rU.blk hg)
        have r0 := Lib.hid (rU.low (B' := w1.heap.size) kC0kARK.out.2.size)
        clear rU zs0
        have kC1kC0kARK := Lib.hid (KeptB.next (Nat.le_refl _) kC0kARK.out kk)
        have lv := lt_of_block hv
        replace hv := (kk.block _ lv).trans hv
        have n0G := Lib.hid (show ∀ g, rowBlk u0 m0 = some g → g ≠ wd.heap.size from fun g hg => by have := (b0.out g hg).1; omega)
        clear lv
        clear kk
        refine hK.out _ _ kC1kC0kARK.out (fun hHeld => ?_)
        clear hK K hHeld
        try simp only [Act.put, List.setIfInBounds_toArray, List.set]
        refine wpAnyH_ready (rs := [8]) (by kernel_rfl) (by simp) ?_
        refine AllReadyH.cons (o := _) (by (simp only [List.getElem?_toArray]; rfl)) (fun K hK => ?_) AllReadyH.nil
        go_simp
        refine (CN1.out wC1kC0kARK (EE.out.below (KW.out.trans (kC1kC0kARK.out.2.mono KW.out.size)))).mono ?_
        rintro e wC2kC1kC0kARK ⟨y1, z1, rfl, rN, kk⟩
        have zs1 := Lib.hid (rN.slN (fun _ => rfl) HF1.out)
        rw [HF1.out]
        clear rN
        have kC2kC1kC0kARK := Lib.hid (KeptB.next (Nat.le_refl _) kC1kC0kARK.out kk)
        have lv := lt_of_block hv
        replace hv := (kk.block _ lv).trans hv
        clear lv
        replace r0 := Lib.hid (r0.out.below kk)
        replace b0 := Lib.hid (show ∀ g, rowBlk u0 m0 = some g → 0 ≤ g ∧ g < wC2kC1kC0kARK.heap.size from fun g hg => ⟨Nat.zero_le _, Nat.lt_of_lt_of_le (b0.out g hg).2 kk.size⟩)
        clear kk
        refine hK.out _ _ kC2kC1kC0kARK.out (fun hHeld => ?_)
        clear hK K hHeld
        try simp only [Act.put, List.setIfInBounds_toArray, List.set]
        refine wpAnyH_ready (rs := [9]) (by kernel_rfl) (by simp) ?_
        refine AllReadyH.cons (o := _) (by (simp only [List.getElem?_toArray]; rfl)) (fun K hK => ?_) AllReadyH.nil
        go_simp
        refine (cloneint_c y1 m1 z1 f1 wC2kC1kC0kARK zs1.out (by omega)).mono ?_
        rintro e wC3kC2kC1kC0kARK ⟨u1, rfl, rU, kk⟩
        have b1 := Lib.hid (show ∀ g, rowBlk u1 m1 = some g → wC2kC1kC0kARK.heap.size ≤ g ∧ g < wC3kC2kC1kC0kARK.heap.size from fun g hg => rU.blk hg)
        have r1 := Lib.hid (rU.low (B' := w1.heap.size) kC2kC1kC0kARK.out.2.size)
        clear rU zs1
        have kC3kC2kC1kC0kARK := Lib.hid (KeptB.next (Nat.le_refl _) kC2kC1kC0kARK.out kk)
        have lv := lt_of_block hv
        replace hv := (kk.block _ lv).trans hv
        have n1G := Lib.hid (show ∀ g, rowBlk u1 m1 = some g → g ≠ wd.heap.size from fun g hg => by have := (b1.out g hg).1; omega)
        clear lv
        replace r0 := Lib.hid (r0.out.below kk)
        have n01 := Lib.hid (show ∀ g, rowBlk u0 m0 = some g → rowBlk u1 m1 ≠ some g from fun g hg h => by have := (b0.out g hg).2; have := (b1.out g h).1; omega)
        replace b0 := Lib.hid (show ∀ g, rowBlk u0 m0 = some g → 0 ≤ g ∧ g < wC3kC2kC1kC0kARK.heap.size from fun g hg => ⟨Nat.zero_le _, Nat.lt_of_lt_of_le (b0.out g hg).2 kk.size⟩)
        clear kk
        refine hK.out _ _ kC3kC2kC1kC0kARK.out (fun hHeld => ?_)
        clear hK K hHeld
        try simp only [Act.put, List.setIfInBounds_toArray, List.set]
        refine wpAnyH_take (i := 10) (oi := _) (v := ?_) (by (simp only [List.getElem?_toArray]; rfl)) (by kernel_rfl) (by kernel_rfl) (by kernel_rfl) (by exact fun _ _ _ h => h) (Or.inl ⟨by rfl, ?_⟩) (by assumption) ?_
        rotate_left
        · intro wS hSw
          go_simp
          all_goals first | with_reducible rfl | rw [if_neg (by omega)]
        simp only [Act.put, List.setIfInBounds_toArray, List.set]
        refine wpAnyH_ready (rs := [12]) (by kernel_rfl) (by simp) ?_
        refine AllReadyH.cons (o := _) (by (simp only [List.getElem?_toArray]; rfl)) (fun K hK => ?_) AllReadyH.nil
        have cv := cell_of_block hv
        have fv := unfrozen_of_block hv
        have lv := lt_of_block hv
        go_simp
        have kSkC3kC2kC1kC0kARK := Lib.hid (KeptB.set (p := ⟨wd.heap.size, 2, none⟩) hvx (.slice u1 m1 m1) (KeptB.set (p := ⟨wd.heap.size, 1, none⟩) hvx (.slice u0 m0 m0) (KeptB.set (p := ⟨wd.heap.size, 0, none⟩) hvx (.slice none 0 0) kC3kC2kC1kC0kARK.out)))
        replace hv := block_set3G hv (.slice none 0 0) (.slice u0 m0 m0) (.slice u1 m1 m1)
        replace r0 := Lib.hid (((r0.out.setNe (p := ⟨wd.heap.size, 0, none⟩) n0G.out (.slice none 0 0)).setNe (p := ⟨wd.heap.size, 1, none⟩) n0G.out (.slice u0 m0 m0)).setNe (p := ⟨wd.heap.size, 2, none⟩) n0G.out (.slice u1 m1 m1))
        replace r1 := Lib.hid (((r1.out.setNe (p := ⟨wd.heap.size, 0, none⟩) n1G.out (.slice none 0 0)).setNe (p := ⟨wd.heap.size, 1, none⟩) n1G.out (.slice u0 m0 m0)).setNe (p := ⟨wd.heap.size, 2, none⟩) n1G.out (.slice u1 m1 m1))
        clear cv fv lv
        refine hK.out _ _ kSkC3kC2kC1kC0kARK.out (fun hHeld => ?_)
        clear hK K hHeld
        try simp only [Act.put, List.setIfInBounds_toArray, List.set]
        refine hfin ⟨y0, z0, u0, y1, z1, u1, wd.heap.size⟩ _ _ _ (by kernel_rfl) ?_ ⟨kSkC3kC2kC1kC0kARK.out, hv, hvx, r0.out, r1.out, n01.out, n0G.out, n1G.out⟩
        simp only [List.setIfInBounds_toArray, List.set]
      exact AllReadyH.nil
    rintro ⟨y0, z0, x1, y1, z1, x2, G⟩ w2 ⟨kN, bG, gG, r1, r2, n12, n1G, n2G⟩
    simp only at kN bG gG r1 r2 n12 n1G n2G ⊢
    simp only [List.setIfInBounds_toArray, List.set]
    refine wpAnyH_done (by kernel_rfl) ?_ _
    have a2 := carryB kN.2 la a1
    have HAT2 : Hid (∀ k (hk : k < ps.length), w2.cell? ⟨g0, k, none⟩ = some (.string ⟨ps[k].toArray⟩)) := fun k hk => (kN.1 _ _ lg0).trans (HAT.out k hk)
    have K2 := Lib.hid (KW.out.trans (kN.2.mono KW.out.size))
    have lg2 : g0 < w2.heap.size := Nat.lt_of_lt_of_le lg0 kN.2.size
    have hgG0 : g0 ≠ G := by omega
    have hGw : w.heap.size < G := by omega
    have LW := Lib.hid la
    have A2 := Lib.hid a2
    have BG := Lib.hid bG
    have R1 := Lib.hid r1
    have R2 := Lib.hid r2
    have N12 := Lib.hid n12
    have N1G := Lib.hid n1G
    have N2G := Lib.hid n2G
    have lGw := lt_of_block bG
    clear hHeld kN HAT ca fa a1 K1 d0 d1 CN0 CN1 a2 bG r1 r2 n12 n1G n2G
    have hc2 : (2 : Int) ≤ (n : Int) := by omega
    have hc3 : (n : Int) ≤ (cap : Int) := by omega
    go_wp2_with fail
    all_goals obtain ⟨nr, hnr⟩ : ∃ nr, nr = n - 2 := ⟨_, rfl⟩
    all_goals rw [← hnr]
    all_goals have HNR := Lib.hid hnr
    all_goals
      obtain ⟨zs, hzs⟩ : ∃ zs, zs = (ps.drop 2).map (fun p => rqOf (numsI p)) := ⟨_, rfl⟩
      rw [← hzs] at HRD
      have HZS := Lib.hid hzs
      have HZL := Lib.hid (show zs.length = nr by rw [hzs, List.length_map, List.length_drop, ← HNN.out, hnr])
      have hnrs : nr ≤ 1100001 := by omega
      clear hzs hnr
      go_loopw [29] (fun i wr => ∃ (m : Nat) (ae : Option Addr) (ce : Nat), m ≤ nr ∧ i = .int .i64 m ∧ wr.heap[G]? = some (.cells #[.slice ae m ce, .slice x1 m0 m0, .slice x2 m1 m1] 27 (0, 0)) ∧ Row wr w2.heap.size 44 ae ce 5 Rq.cs (zs.take m) ∧ w2.grownBy wr (some G)) (fun i _ => nr - (intOf i).toNat)
      case atStart => exact ⟨0, none, 0, Nat.zero_le _, rfl, BG.out, Row.nil _ _ _ _ _ _, ⟨rfl, rfl, rfl, Nat.le_refl _, fun _ _ _ => rfl⟩⟩
      case round =>
        clear BG
        obtain ⟨m, ae, ce, hm, rfl, hG, hRE, hgr⟩ := hrel
        have RE := Lib.hid hRE
        have HGR := Lib.hid hgr
        have HL := Lib.hid (show (zs.take m).length = m by rw [List.length_take, HZL.out]; omega)
        have lG := lt_of_block hG
        have KR := Lib.hid (belG K2.out hgr (Nat.le_of_lt hGw))
        have hszr := hgr.size
        have aR := A2.out
        replace aR := (hgr.block w.heap.size (by omega) (fun e => by injection e with e; omega)).trans aR
        clear hRE hgr
        by_cases hlt : m < nr
        · first
          | (exfalso; have := HNR.out; omega)
          | skip
            have hkz : m + 2 < ps.length := by have := HNR.out; rw [← HNN.out]; omega
            have hk1 : (m : Int) < (nr : Int) := by omega
            have hk0 : (0 : Int) ≤ (m : Int) := by omega
            have hwk : IntKind.i64.wrap ((m : Int) + 1) = (m : Int) + 1 := IntWalk.i64_in _ ⟨by omega, by omega⟩
            have d2 : wr.cell? ⟨g0, 2 + m, none⟩ = some (.string ⟨ps[m + 2].toArray⟩) := by
              rw [grown_cell HGR.out lg2 hgG0, Nat.add_comm 2 m]
              exact HAT2.out (m + 2) hkz
            have hq := HLE.out ps[m + 2] (List.getElem_mem _)
            rw [HSL.out] at hq
            have HPK := Lib.hid (List.getElem?_eq_getElem hkz)
            have HZK := Lib.hid (show zs.take (m + 1) = zs.take m ++ [rqOf (numsI ps[m + 2])] by
              have hzk : m < zs.length := by rw [HZL.out]; exact hlt
              have hz : zs[m] = rqOf (numsI ps[m + 2]) := by
                simp only [HZS.out, List.getElem_map, List.getElem_drop]
                congr 3
                omega
              rw [List.take_succ_eq_append_getElem hzk, hz])
            generalize ps[m + 2] = q at *
            have CN := Lib.hid (fun V E => numbersOf_c q V (by omega) E)
            clear hq
            have lgr : g0 < wr.heap.size := by omega
            go_wp2_with fail
            refine (CN.out wr (EE.out.below KR.out)).mono ?_
            rintro e w5 ⟨an, cn, rfl, rN, k5⟩
            have HB5 := Lib.hid (grown_below HGR.out k5)
            have hG5b := carryB k5 lG hG
            have RE5 := Lib.hid (RE.out.below k5)
            have hNE := Lib.hid (fun b (hb : rowBlk ae ce = some b) => (RE.out.blk hb).2)
            have K5 := Lib.hid (below_next KR.out k5)
            have aR5 := carryB k5 (by omega) aR
            clear d2 hG RE aR
            by_cases h5 : (numsI q).length = 5
            · obtain ⟨n0, n1, n2, n3, n4, hq5⟩ : ∃ n0 n1 n2 n3 n4, numsI q = [n0, n1, n2, n3, n4] := by
                match numsI q, h5 with
                | [n0, n1, n2, n3, n4], _ => exact ⟨n0, n1, n2, n3, n4, rfl⟩
              rw [hq5] at rN HZK ⊢
              obtain ⟨g5, rfl, hg5, lg5, d0, d1, d2, d3, d4⟩ := ints5_own rN
              have hcn := rN.len
              have e5 : [n0, n1, n2, n3, n4].length = 5 := rfl
              rw [e5] at *
              clear hq5 h5 rN
              have hG5 : G < g5 := Nat.lt_of_lt_of_le lG hg5
              have N5 := Lib.hid (fun g (hb : rowBlk ae ce = some g) => show g ≠ g5 by have := hNE.out g hb; omega)
              have RE := RE5
              have hG := hG5b
              have cG := cell_of_block hG
              have lG5 := lt_of_block hG
              have hGB := lGw
              have hHB : w2.heap.size ≤ w5.heap.size := HB5.out.size
              clear RE5 hG5b k5
              obtain ⟨es, hes⟩ : ∃ es, es = zs.take m := ⟨_, rfl⟩
              rw [← hes] at RE HL HZK
              clear hes
              go_wp2_with fail
              refine wp_region_held_drew (S := fun w' => w'.cell? ⟨g5, 0, none⟩ = some (.int .i64 n0) ∧ w'.cell? ⟨g5, 1, none⟩ = some (.int .i64 n1) ∧ w'.cell? ⟨g5, 2, none⟩ = some (.int .i64 n2) ∧ w'.cell? ⟨g5, 3, none⟩ = some (.int .i64 n3) ∧ w'.cell? ⟨g5, 4, none⟩ = some (.int .i64 n4)) (by kernel_rfl) ⟨d0, d1, d2, d3, d4⟩ (fun hHeld => ?_)
              refine introFinG (X := Option Addr × Nat × Nat) 0 #[true, true, true, true, true, true, true, true, true, true, true, true, true, true, true, true, true, true, true, true, true, true] (fun x T => (((((((((((((((((((((T).setIfInBounds 39 (.pointer (some ⟨G, 0, none⟩))).setIfInBounds 40 (.slice ae m ce)).setIfInBounds 41 (.slice (some ⟨g5, 0, none⟩) 5 cn)).setIfInBounds 42 (.pointer (some ⟨g5, 0, none⟩))).setIfInBounds 43 (.int .i64 n0)).setIfInBounds 44 (.slice (some ⟨g5, 0, none⟩) 5 cn)).setIfInBounds 45 (.pointer (some ⟨g5, 1, none⟩))).setIfInBounds 46 (.int .i64 n1)).setIfInBounds 47 (.slice (some ⟨g5, 0, none⟩) 5 cn)).setIfInBounds 48 (.pointer (some ⟨g5, 2, none⟩))).setIfInBounds 49 (.int .i64 n2)).setIfInBounds 50 (.slice (some ⟨g5, 0, none⟩) 5 cn)).setIfInBounds 51 (.pointer (some ⟨g5, 3, none⟩))).setIfInBounds 52 (.int .i64 n3)).setIfInBounds 53 (.slice (some ⟨g5, 0, none⟩) 5 cn)).setIfInBounds 54 (.pointer (some ⟨g5, 4, none⟩))).setIfInBounds 55 (.int .i64 n4)).setIfInBounds 56 (.agg #[.int .i64 n0, .int .i64 n1, .int .i64 n2, .int .i64 n3, .int .i64 n4])).setIfInBounds 57 (.slice (some ⟨x.2.2, 0, none⟩) 1 1)).setIfInBounds 58 (.slice x.1 (m + 1) x.2.1)).setIfInBounds 59 (.pointer (some ⟨G, 0, none⟩))) (fun x w' => w'.heap[G]? = some (.cells #[.slice x.1 (m + 1) x.2.1, .slice x1 m0 m0, .slice x2 m1 m1] 27 (0, 0)) ∧ Row w' w2.heap.size 44 x.1 x.2.1 5 Rq.cs (es ++ [⟨n0, n1, n2, n3, n4⟩]) ∧ Below G w5 w' ∧ ∀ b, b < w2.heap.size → b ≠ G → w'.heap[b]? = w5.heap[b]?) ?_ (fun hfin => ?_)
              rotate_left
              · obtain ⟨wd, hwd, kwd⟩ : ∃ wd, wd = w5.drew ∧ Below w5.heap.size w5 wd := ⟨_, rfl, Below.drew (Below.refl _ _)⟩
                have hSd : wd.cell? ⟨g5, 0, none⟩ = some (.int .i64 n0) ∧ wd.cell? ⟨g5, 1, none⟩ = some (.int .i64 n1) ∧ wd.cell? ⟨g5, 2, none⟩ = some (.int .i64 n2) ∧ wd.cell? ⟨g5, 3, none⟩ = some (.int .i64 n3) ∧ wd.cell? ⟨g5, 4, none⟩ = some (.int .i64 n4) := ⟨((bcell kwd).1 _ _ lg5).trans d0, ((bcell kwd).1 _ _ lg5).trans d1, ((bcell kwd).1 _ _ lg5).trans d2, ((bcell kwd).1 _ _ lg5).trans d3, ((bcell kwd).1 _ _ lg5).trans d4⟩
                rw [← hwd] at hHeld ⊢
                clear hwd
                have RKd := Lib.hid kwd
                have lGG := lt_of_block hG
                have REd := Lib.hid (RE.out.below kwd)
                have hGd := Lib.hid (carryB kwd lGG hG)
                have HSd := Lib.hid hSd
                have KBd := Lib.hid (show ∀ b, b < w2.heap.size → b ≠ G → wd.heap[b]? = w5.heap[b]? from fun b hb _ => kwd.block b (Nat.lt_of_lt_of_le hb hHB))
                have lgd : g5 < wd.heap.size := Nat.lt_of_lt_of_le lg5 kwd.size
                clear hSd kwd d0 d1 d2 d3 d4
                refine wpAnyH_take (i := 0) (oi := _) (v := ?_) (by (simp only [List.getElem?_toArray]; rfl)) (by kernel_rfl) (by kernel_rfl) (by kernel_rfl) (by exact fun _ _ _ h => h) (Or.inl ⟨by rfl, ?_⟩) (by assumption) ?_
                rotate_left
                · intro wS hSw
                  go_simp
                  all_goals first | with_reducible rfl | rw [if_neg (by omega)]
                simp only [Act.put, List.setIfInBounds_toArray, List.set]
                refine wpAnyH_take (i := 2) (oi := _) (v := ?_) (by (simp only [List.getElem?_toArray]; rfl)) (by kernel_rfl) (by kernel_rfl) (by kernel_rfl) (by exact fun _ _ _ h => h) (Or.inl ⟨by rfl, ?_⟩) (by assumption) ?_
                rotate_left
                · intro wS hSw
                  go_simp
                  all_goals first | with_reducible rfl | rw [if_neg (by omega)]
                simp only [Act.put, List.setIfInBounds_toArray, List.set]
                refine wpAnyH_take (i := 3) (oi := _) (v := ?_) (by (simp only [List.getElem?_toArray]; rfl)) (by kernel_rfl) (by kernel_rfl) (by kernel_rfl) (by exact fun _ _ _ h => h) (Or.inl ⟨by rfl, ?_⟩) (by assumption) ?_
                rotate_left
                · intro wS hSw
                  go_simp
                  all_goals first | with_reducible rfl | rw [if_neg (by omega)]
                simp only [Act.put, List.setIfInBounds_toArray, List.set]
                refine wpAnyH_take (i := 4) (oi := _) (v := ?_) (by (simp only [List.getElem?_toArray]; rfl)) (by kernel_rfl) (by kernel_rfl) (by kernel_rfl) (by exact fun _ _ _ h => h) (Or.inl ⟨by rfl, ?_⟩) (by assumption) ?_
                rotate_left
                · intro wS hSw
                  go_simp
                  all_goals first | with_reducible rfl | rw [if_neg (by omega)]
                simp only [Act.put, List.setIfInBounds_toArray, List.set]
                refine wpAnyH_take (i := 5) (oi := _) (v := ?_) (by (simp only [List.getElem?_toArray]; rfl)) (by kernel_rfl) (by kernel_rfl) (by kernel_rfl) (by exact fun _ _ _ h => h) (Or.inl ⟨by rfl, ?_⟩) (by assumption) ?_
                rotate_left
                · intro wS hSw
                  go_simp
                  all_goals first | with_reducible rfl | rw [if_neg (by omega)]
                simp only [Act.put, List.setIfInBounds_toArray, List.set]
                refine wpAnyH_take (i := 6) (oi := _) (v := ?_) (by (simp only [List.getElem?_toArray]; rfl)) (by kernel_rfl) (by kernel_rfl) (by kernel_rfl) (by exact fun _ _ _ h => h) (Or.inl ⟨by rfl, ?_⟩) (by assumption) ?_
                rotate_left
                · intro wS hSw
                  go_simp
                  all_goals first | with_reducible rfl | rw [if_neg (by omega)]
                simp only [Act.put, List.setIfInBounds_toArray, List.set]
                refine wpAnyH_take (i := 7) (oi := _) (v := ?_) (by (simp only [List.getElem?_toArray]; rfl)) (by kernel_rfl) (by kernel_rfl) (by kernel_rfl) (by exact fun _ _ _ h => h) (Or.inl ⟨by rfl, ?_⟩) (by assumption) ?_
                rotate_left
                · intro wS hSw
                  go_simp
                  all_goals first | with_reducible rfl | rw [if_neg (by omega)]
                simp only [Act.put, List.setIfInBounds_toArray, List.set]
                refine wpAnyH_take (i := 8) (oi := _) (v := ?_) (by (simp only [List.getElem?_toArray]; rfl)) (by kernel_rfl) (by kernel_rfl) (by kernel_rfl) (by exact fun _ _ _ h => h) (Or.inl ⟨by rfl, ?_⟩) (by assumption) ?_
                rotate_left
                · intro wS hSw
                  go_simp
                  all_goals first | with_reducible rfl | rw [if_neg (by omega)]
                simp only [Act.put, List.setIfInBounds_toArray, List.set]
                refine wpAnyH_take (i := 9) (oi := _) (v := ?_) (by (simp only [List.getElem?_toArray]; rfl)) (by kernel_rfl) (by kernel_rfl) (by kernel_rfl) (by exact fun _ _ _ h => h) (Or.inl ⟨by rfl, ?_⟩) (by assumption) ?_
                rotate_left
                · intro wS hSw
                  go_simp
                  all_goals first | with_reducible rfl | rw [if_neg (by omega)]
                simp only [Act.put, List.setIfInBounds_toArray, List.set]
                refine wpAnyH_take (i := 10) (oi := _) (v := ?_) (by (simp only [List.getElem?_toArray]; rfl)) (by kernel_rfl) (by kernel_rfl) (by kernel_rfl) (by exact fun _ _ _ h => h) (Or.inl ⟨by rfl, ?_⟩) (by assumption) ?_
                rotate_left
                · intro wS hSw
                  go_simp
                  all_goals first | with_reducible rfl | rw [if_neg (by omega)]
                simp only [Act.put, List.setIfInBounds_toArray, List.set]
                refine wpAnyH_take (i := 11) (oi := _) (v := ?_) (by (simp only [List.getElem?_toArray]; rfl)) (by kernel_rfl) (by kernel_rfl) (by kernel_rfl) (by exact fun _ _ _ h => h) (Or.inl ⟨by rfl, ?_⟩) (by assumption) ?_
                rotate_left
                · intro wS hSw
                  go_simp
                  all_goals first | with_reducible rfl | rw [if_neg (by omega)]
                simp only [Act.put, List.setIfInBounds_toArray, List.set]
                refine wpAnyH_take (i := 12) (oi := _) (v := ?_) (by (simp only [List.getElem?_toArray]; rfl)) (by kernel_rfl) (by kernel_rfl) (by kernel_rfl) (by exact fun _ _ _ h => h) (Or.inl ⟨by rfl, ?_⟩) (by assumption) ?_
                rotate_left
                · intro wS hSw
                  go_simp
                  all_goals first | with_reducible rfl | rw [if_neg (by omega)]
                simp only [Act.put, List.setIfInBounds_toArray, List.set]
                refine wpAnyH_take (i := 13) (oi := _) (v := ?_) (by (simp only [List.getElem?_toArray]; rfl)) (by kernel_rfl) (by kernel_rfl) (by kernel_rfl) (by exact fun _ _ _ h => h) (Or.inl ⟨by rfl, ?_⟩) (by assumption) ?_
                rotate_left
                · intro wS hSw
                  go_simp
                  all_goals first | with_reducible rfl | rw [if_neg (by omega)]
                simp only [Act.put, List.setIfInBounds_toArray, List.set]
                refine wpAnyH_take (i := 14) (oi := _) (v := ?_) (by (simp only [List.getElem?_toArray]; rfl)) (by kernel_rfl) (by kernel_rfl) (by kernel_rfl) (by exact fun _ _ _ h => h) (Or.inl ⟨by rfl, ?_⟩) (by assumption) ?_
                rotate_left
                · intro wS hSw
                  go_simp
                  all_goals first | with_reducible rfl | rw [if_neg (by omega)]
                simp only [Act.put, List.setIfInBounds_toArray, List.set]
                refine wpAnyH_take (i := 15) (oi := _) (v := ?_) (by (simp only [List.getElem?_toArray]; rfl)) (by kernel_rfl) (by kernel_rfl) (by kernel_rfl) (by exact fun _ _ _ h => h) (Or.inl ⟨by rfl, ?_⟩) (by assumption) ?_
                rotate_left
                · intro wS hSw
                  go_simp
                  all_goals first | with_reducible rfl | rw [if_neg (by omega)]
                simp only [Act.put, List.setIfInBounds_toArray, List.set]
                refine wpAnyH_take (i := 16) (oi := _) (v := ?_) (by (simp only [List.getElem?_toArray]; rfl)) (by kernel_rfl) (by kernel_rfl) (by kernel_rfl) (by exact fun _ _ _ h => h) (Or.inl ⟨by rfl, ?_⟩) (by assumption) ?_
                rotate_left
                · intro wS hSw
                  go_simp
                  all_goals first | with_reducible rfl | rw [if_neg (by omega)]
                simp only [Act.put, List.setIfInBounds_toArray, List.set]
                refine wpAnyH_take (i := 17) (oi := _) (v := ?_) (by (simp only [List.getElem?_toArray]; rfl)) (by kernel_rfl) (by kernel_rfl) (by kernel_rfl) (by exact fun _ _ _ h => h) (Or.inl ⟨by rfl, ?_⟩) (by assumption) ?_
                rotate_left
                · intro wS hSw
                  go_simp
                  all_goals first | with_reducible rfl | rw [if_neg (by omega)]
                simp only [Act.put, List.setIfInBounds_toArray, List.set]
                refine wpAnyH_ready (rs := [1, 18]) (by kernel_rfl) (by simp) ?_
                refine AllReadyH.cons (o := _) (by (simp only [List.getElem?_toArray]; rfl)) (fun K hK => ?_) ?_
                · skip
                  have cG := cell_of_block hGd.out
                  have lG := lt_of_block hGd.out
                  go_simp
                  refine hK.out _ _ HSd.out (fun hHeld => ?_)
                  clear hK K cG lG
                  try simp only [Act.put, List.setIfInBounds_toArray, List.set]
                  refine wpAnyH_ready (rs := [18]) (by kernel_rfl) (by simp) ?_
                  refine AllReadyH.cons (o := _) (by (simp only [List.getElem?_toArray]; rfl)) (fun K hK => ?_) AllReadyH.nil
                  go_simp
                  obtain ⟨wdb, hw', sw', hvdb, kw'⟩ := blocks1 wd (.cells #[.int .i64 n0, .int .i64 n1, .int .i64 n2, .int .i64 n3, .int .i64 n4] 44)
                  rw [← hw']
                  clear hw'
                  have RKdb := Lib.hid (below_next RKd.out kw')
                  have REdb := Lib.hid (REd.out.below kw')
                  have hGdb := Lib.hid (carryB kw' (lt_of_block hGd.out) hGd.out)
                  have HSdb := Lib.hid (show wdb.cell? ⟨g5, 0, none⟩ = some (.int .i64 n0) ∧ wdb.cell? ⟨g5, 1, none⟩ = some (.int .i64 n1) ∧ wdb.cell? ⟨g5, 2, none⟩ = some (.int .i64 n2) ∧ wdb.cell? ⟨g5, 3, none⟩ = some (.int .i64 n3) ∧ wdb.cell? ⟨g5, 4, none⟩ = some (.int .i64 n4) from ⟨((bcell kw').1 _ _ lgd).trans HSd.out.1, ((bcell kw').1 _ _ lgd).trans HSd.out.2.1, ((bcell kw').1 _ _ lgd).trans HSd.out.2.2.1, ((bcell kw').1 _ _ lgd).trans HSd.out.2.2.2.1, ((bcell kw').1 _ _ lgd).trans HSd.out.2.2.2.2⟩)
                  have lgdb : g5 < wdb.heap.size := Nat.lt_of_lt_of_le lgd kw'.size
                  have RVdb := Lib.hid (show RowsAt wdb (some ⟨wd.heap.size, 0, none⟩) 5 Rq.cs [⟨n0, n1, n2, n3, n4⟩] from rows_of_block (R := Rq.cs) (zs := [⟨n0, n1, n2, n3, n4⟩]) (fun _ => rfl) hvdb)
                  have KBdb := Lib.hid (show ∀ b, b < w2.heap.size → b ≠ G → wdb.heap[b]? = w5.heap[b]? from fun b hb hn => (kw'.block b (by have := RKd.out.size; omega)).trans (KBd.out b hb hn))
                  clear kw' sw'
                  refine hK.out _ _ HSdb.out (fun hHeld => ?_)
                  clear hK K
                  try simp only [Act.put, List.setIfInBounds_toArray, List.set]
                  refine wpAnyH_ready (rs := [19]) (by kernel_rfl) (by simp) ?_
                  refine AllReadyH.cons (o := _) (by (simp only [List.getElem?_toArray]; rfl)) (fun K hK => ?_) AllReadyH.nil
                  refine step_append_elt (by rfl) (.tmp 40) (.tmp 57) (by rfl) (m + 1) eltEnt (by rfl) (by rfl) REdb.out RVdb.out HL.out rfl rfl (by simp only [maxLen]; omega) (by omega) (by have := lt_of_block hGdb.out; omega) ?_
                  intro xa xc wdba q6
                  have ge : ∀ b, rowBlk ae ce = some b → w2.heap.size ≤ b := fun b hb => (REdb.out.blk hb).1
                  have hGdba := Lib.hid ((q6.grown.block G (lt_of_block hGdb.out) (fun e => by have := ge _ e.symm; omega)).trans hGdb.out)
                  have b5 := q6.grown.block g5 lgdb (fun e => N5.out _ e.symm rfl)
                  have HSdba := Lib.hid (show wdba.cell? ⟨g5, 0, none⟩ = some (.int .i64 n0) ∧ wdba.cell? ⟨g5, 1, none⟩ = some (.int .i64 n1) ∧ wdba.cell? ⟨g5, 2, none⟩ = some (.int .i64 n2) ∧ wdba.cell? ⟨g5, 3, none⟩ = some (.int .i64 n3) ∧ wdba.cell? ⟨g5, 4, none⟩ = some (.int .i64 n4) from ⟨(cellBlk b5 _).trans HSdb.out.1, (cellBlk b5 _).trans HSdb.out.2.1, (cellBlk b5 _).trans HSdb.out.2.2.1, (cellBlk b5 _).trans HSdb.out.2.2.2.1, (cellBlk b5 _).trans HSdb.out.2.2.2.2⟩)
                  have REdba := Lib.hid q6.row
                  have RKdba := Lib.hid (show Below G w5 wdba from (RKdb.out.mono (Nat.le_of_lt lGG)).trans (q6.below (by have := lt_of_block hGdb.out; omega) (fun b hb => by have := ge b hb; omega)))
                  have KBdba := Lib.hid (show ∀ b, b < w2.heap.size → b ≠ G → wdba.heap[b]? = w5.heap[b]? from fun b hb hn => (q6.grown.block b (by have := RKdb.out.size; omega) (fun e => by have := ge _ e.symm; omega)).trans (KBdb.out b hb hn))
                  clear q6 b5 ge
                  refine hK.out _ _ HSdba.out (fun hHeld => ?_)
                  clear hK K
                  try simp only [Act.put, List.setIfInBounds_toArray, List.set]
                  refine wpAnyH_take (i := 20) (oi := _) (v := ?_) (by (simp only [List.getElem?_toArray]; rfl)) (by kernel_rfl) (by kernel_rfl) (by kernel_rfl) (by exact fun _ _ _ h => h) (Or.inl ⟨by rfl, ?_⟩) (by assumption) ?_
                  rotate_left
                  · intro wS hSw
                    go_simp
                    all_goals first | with_reducible rfl | rw [if_neg (by omega)]
                  simp only [Act.put, List.setIfInBounds_toArray, List.set]
                  refine wpAnyH_ready (rs := [21]) (by kernel_rfl) (by simp) ?_
                  refine AllReadyH.cons (o := _) (by (simp only [List.getElem?_toArray]; rfl)) (fun K hK => ?_) AllReadyH.nil
                  have cG := cell_of_block hGdba.out
                  have fG := unfrozen_of_block hGdba.out
                  have lG := lt_of_block hGdba.out
                  go_simp
                  have hGdbas := Lib.hid (block_setCell (i := 0) hGdba.out (.slice xa (m + 1) xc))
                  have REdbas := Lib.hid (REdba.out.setOther (p := ⟨G, 0, none⟩) hGB (.slice xa (m + 1) xc))
                  have RKdbas := Lib.hid (RKdba.out.setCell (p := ⟨G, 0, none⟩) (Nat.le_refl _) (.slice xa (m + 1) xc))
                  have hne5 : ∀ i, (World.setCell wdba ⟨G, 0, none⟩ (.slice xa (m + 1) xc)).cell? ⟨g5, i, none⟩ = wdba.cell? ⟨g5, i, none⟩ := fun i => World.cell?_setCell_other _ _ _ _ (by intro h; have := congrArg Addr.block h; simp at this; omega)
                  have HSdbas := Lib.hid (show (World.setCell wdba ⟨G, 0, none⟩ (.slice xa (m + 1) xc)).cell? ⟨g5, 0, none⟩ = some (.int .i64 n0) ∧ (World.setCell wdba ⟨G, 0, none⟩ (.slice xa (m + 1) xc)).cell? ⟨g5, 1, none⟩ = some (.int .i64 n1) ∧ (World.setCell wdba ⟨G, 0, none⟩ (.slice xa (m + 1) xc)).cell? ⟨g5, 2, none⟩ = some (.int .i64 n2) ∧ (World.setCell wdba ⟨G, 0, none⟩ (.slice xa (m + 1) xc)).cell? ⟨g5, 3, none⟩ = some (.int .i64 n3) ∧ (World.setCell wdba ⟨G, 0, none⟩ (.slice xa (m + 1) xc)).cell? ⟨g5, 4, none⟩ = some (.int .i64 n4) from ⟨(hne5 _).trans HSdba.out.1, (hne5 _).trans HSdba.out.2.1, (hne5 _).trans HSdba.out.2.2.1, (hne5 _).trans HSdba.out.2.2.2.1, (hne5 _).trans HSdba.out.2.2.2.2⟩)
                  have KBdbas := Lib.hid (show ∀ b, b < w2.heap.size → b ≠ G → (World.setCell wdba ⟨G, 0, none⟩ (.slice xa (m + 1) xc)).heap[b]? = w5.heap[b]? from fun b hb hn => (Below.heap_setCell wdba ⟨G, 0, none⟩ (.slice xa (m + 1) xc) b hn).trans (KBdba.out b hb hn))
                  clear cG fG lG hne5
                  refine hK.out _ _ HSdbas.out (fun hHeld => ?_)
                  clear hK K
                  try simp only [Act.put, List.setIfInBounds_toArray, List.set]
                  refine hfin ⟨xa, xc, wd.heap.size⟩ _ _ _ (by kernel_rfl) ?_ ⟨hGdbas.out, REdbas.out, RKdbas.out, KBdbas.out⟩
                  simp only [List.setIfInBounds_toArray, List.set]
                refine AllReadyH.cons (o := _) (by (simp only [List.getElem?_toArray]; rfl)) (fun K hK => ?_) ?_
                · skip
                  go_simp
                  obtain ⟨wdb, hw', sw', hvdb, kw'⟩ := blocks1 wd (.cells #[.int .i64 n0, .int .i64 n1, .int .i64 n2, .int .i64 n3, .int .i64 n4] 44)
                  rw [← hw']
                  clear hw'
                  have RKdb := Lib.hid (below_next RKd.out kw')
                  have REdb := Lib.hid (REd.out.below kw')
                  have hGdb := Lib.hid (carryB kw' (lt_of_block hGd.out) hGd.out)
                  have HSdb := Lib.hid (show wdb.cell? ⟨g5, 0, none⟩ = some (.int .i64 n0) ∧ wdb.cell? ⟨g5, 1, none⟩ = some (.int .i64 n1) ∧ wdb.cell? ⟨g5, 2, none⟩ = some (.int .i64 n2) ∧ wdb.cell? ⟨g5, 3, none⟩ = some (.int .i64 n3) ∧ wdb.cell? ⟨g5, 4, none⟩ = some (.int .i64 n4) from ⟨((bcell kw').1 _ _ lgd).trans HSd.out.1, ((bcell kw').1 _ _ lgd).trans HSd.out.2.1, ((bcell kw').1 _ _ lgd).trans HSd.out.2.2.1, ((bcell kw').1 _ _ lgd).trans HSd.out.2.2.2.1, ((bcell kw').1 _ _ lgd).trans HSd.out.2.2.2.2⟩)
                  have lgdb : g5 < wdb.heap.size := Nat.lt_of_lt_of_le lgd kw'.size
                  have RVdb := Lib.hid (show RowsAt wdb (some ⟨wd.heap.size, 0, none⟩) 5 Rq.cs [⟨n0, n1, n2, n3, n4⟩] from rows_of_block (R := Rq.cs) (zs := [⟨n0, n1, n2, n3, n4⟩]) (fun _ => rfl) hvdb)
                  have KBdb := Lib.hid (show ∀ b, b < w2.heap.size → b ≠ G → wdb.heap[b]? = w5.heap[b]? from fun b hb hn => (kw'.block b (by have := RKd.out.size; omega)).trans (KBd.out b hb hn))
                  clear kw' sw'
                  refine hK.out _ _ HSdb.out (fun hHeld => ?_)
                  clear hK K
                  try simp only [Act.put, List.setIfInBounds_toArray, List.set]
                  refine wpAnyH_ready (rs := [1]) (by kernel_rfl) (by simp) ?_
                  refine AllReadyH.cons (o := _) (by (simp only [List.getElem?_toArray]; rfl)) (fun K hK => ?_) AllReadyH.nil
                  have cG := cell_of_block hGdb.out
                  have lG := lt_of_block hGdb.out
                  go_simp
                  refine hK.out _ _ HSdb.out (fun hHeld => ?_)
                  clear hK K cG lG
                  try simp only [Act.put, List.setIfInBounds_toArray, List.set]
                  refine wpAnyH_ready (rs := [19]) (by kernel_rfl) (by simp) ?_
                  refine AllReadyH.cons (o := _) (by (simp only [List.getElem?_toArray]; rfl)) (fun K hK => ?_) AllReadyH.nil
                  refine step_append_elt (by rfl) (.tmp 40) (.tmp 57) (by rfl) (m + 1) eltEnt (by rfl) (by rfl) REdb.out RVdb.out HL.out rfl rfl (by simp only [maxLen]; omega) (by omega) (by have := lt_of_block hGdb.out; omega) ?_
                  intro xa xc wdba q6
                  have ge : ∀ b, rowBlk ae ce = some b → w2.heap.size ≤ b := fun b hb => (REdb.out.blk hb).1
                  have hGdba := Lib.hid ((q6.grown.block G (lt_of_block hGdb.out) (fun e => by have := ge _ e.symm; omega)).trans hGdb.out)
                  have b5 := q6.grown.block g5 lgdb (fun e => N5.out _ e.symm rfl)
                  have HSdba := Lib.hid (show wdba.cell? ⟨g5, 0, none⟩ = some (.int .i64 n0) ∧ wdba.cell? ⟨g5, 1, none⟩ = some (.int .i64 n1) ∧ wdba.cell? ⟨g5, 2, none⟩ = some (.int .i64 n2) ∧ wdba.cell? ⟨g5, 3, none⟩ = some (.int .i64 n3) ∧ wdba.cell? ⟨g5, 4, none⟩ = some (.int .i64 n4) from ⟨(cellBlk b5 _).trans HSdb.out.1, (cellBlk b5 _).trans HSdb.out.2.1, (cellBlk b5 _).trans HSdb.out.2.2.1, (cellBlk b5 _).trans HSdb.out.2.2.2.1, (cellBlk b5 _).trans HSdb.out.2.2.2.2⟩)
                  have REdba := Lib.hid q6.row
                  have RKdba := Lib.hid (show Below G w5 wdba from (RKdb.out.mono (Nat.le_of_lt lGG)).trans (q6.below (by have := lt_of_block hGdb.out; omega) (fun b hb => by have := ge b hb; omega)))
                  have KBdba := Lib.hid (show ∀ b, b < w2.heap.size → b ≠ G → wdba.heap[b]? = w5.heap[b]? from fun b hb hn => (q6.grown.block b (by have := RKdb.out.size; omega) (fun e => by have := ge _ e.symm; omega)).trans (KBdb.out b hb hn))
                  clear q6 b5 ge
                  refine hK.out _ _ HSdba.out (fun hHeld => ?_)
                  clear hK K
                  try simp only [Act.put, List.setIfInBounds_toArray, List.set]
                  refine wpAnyH_take (i := 20) (oi := _) (v := ?_) (by (simp only [List.getElem?_toArray]; rfl)) (by kernel_rfl) (by kernel_rfl) (by kernel_rfl) (by exact fun _ _ _ h => h) (Or.inl ⟨by rfl, ?_⟩) (by assumption) ?_
                  rotate_left
                  · intro wS hSw
                    go_simp
                    all_goals first | with_reducible rfl | rw [if_neg (by omega)]
                  simp only [Act.put, List.setIfInBounds_toArray, List.set]
                  refine wpAnyH_ready (rs := [21]) (by kernel_rfl) (by simp) ?_
                  refine AllReadyH.cons (o := _) (by (simp only [List.getElem?_toArray]; rfl)) (fun K hK => ?_) AllReadyH.nil
                  have cG := cell_of_block hGdba.out
                  have fG := unfrozen_of_block hGdba.out
                  have lG := lt_of_block hGdba.out
                  go_simp
                  have hGdbas := Lib.hid (block_setCell (i := 0) hGdba.out (.slice xa (m + 1) xc))
                  have REdbas := Lib.hid (REdba.out.setOther (p := ⟨G, 0, none⟩) hGB (.slice xa (m + 1) xc))
                  have RKdbas := Lib.hid (RKdba.out.setCell (p := ⟨G, 0, none⟩) (Nat.le_refl _) (.slice xa (m + 1) xc))
                  have hne5 : ∀ i, (World.setCell wdba ⟨G, 0, none⟩ (.slice xa (m + 1) xc)).cell? ⟨g5, i, none⟩ = wdba.cell? ⟨g5, i, none⟩ := fun i => World.cell?_setCell_other _ _ _ _ (by intro h; have := congrArg Addr.block h; simp at this; omega)
                  have HSdbas := Lib.hid (show (World.setCell wdba ⟨G, 0, none⟩ (.slice xa (m + 1) xc)).cell? ⟨g5, 0, none⟩ = some (.int .i64 n0) ∧ (World.setCell wdba ⟨G, 0, none⟩ (.slice xa (m + 1) xc)).cell? ⟨g5, 1, none⟩ = some (.int .i64 n1) ∧ (World.setCell wdba ⟨G, 0, none⟩ (.slice xa (m + 1) xc)).cell? ⟨g5, 2, none⟩ = some (.int .i64 n2) ∧ (World.setCell wdba ⟨G, 0, none⟩ (.slice xa (m + 1) xc)).cell? ⟨g5, 3, none⟩ = some (.int .i64 n3) ∧ (World.setCell wdba ⟨G, 0, none⟩ (.slice xa (m + 1) xc)).cell? ⟨g5, 4, none⟩ = some (.int .i64 n4) from ⟨(hne5 _).trans HSdba.out.1, (hne5 _).trans HSdba.out.2.1, (hne5 _).trans HSdba.out.2.2.1, (hne5 _).trans HSdba.out.2.2.2.1, (hne5 _).trans HSdba.out.2.2.2.2⟩)
                  have KBdbas := Lib.hid (show ∀ b, b < w2.heap.size → b ≠ G → (World.setCell wdba ⟨G, 0, none⟩ (.slice xa (m + 1) xc)).heap[b]? = w5.heap[b]? from fun b hb hn => (Below.heap_setCell wdba ⟨G, 0, none⟩ (.slice xa (m + 1) xc) b hn).trans (KBdba.out b hb hn))
                  clear cG fG lG hne5
                  refine hK.out _ _ HSdbas.out (fun hHeld => ?_)
                  clear hK K
                  try simp only [Act.put, List.setIfInBounds_toArray, List.set]
                  refine hfin ⟨xa, xc, wd.heap.size⟩ _ _ _ (by kernel_rfl) ?_ ⟨hGdbas.out, REdbas.out, RKdbas.out, KBdbas.out⟩
                  simp only [List.setIfInBounds_toArray, List.set]
                exact AllReadyH.nil
              rintro ⟨xa, xc, xb⟩ w6 ⟨hGn, REn, kA, kB⟩
              simp only at hGn REn kA kB ⊢
              simp only [List.setIfInBounds_toArray, List.set]
              refine wpAnyH_done (by kernel_rfl) ?_ _
              have HZK2 : zs.take (m + 1) = es ++ [⟨n0, n1, n2, n3, n4⟩] := HZK.out
              have RN := Lib.hid (show Row w6 w2.heap.size 44 xa xc 5 Rq.cs (zs.take (m + 1)) by rw [HZK2]; exact REn)
              have KN := Lib.hid (grown_add HB5.out kA rfl kB)
              have GN := Lib.hid hGn
              clear hHeld hG cG lG5 RE HZK HZK2 REn kA hGn kB
              go_wp2_with fail
              go_roundw
              case rel => exact ⟨m + 1, xa, xc, by omega, by go_num, GN.out, RN.out, KN.out⟩
              case measure => simp [intOf]; omega
            · have HFV := Lib.hid (HFIVE.out (m + 2) q (by omega) HPK.out h5)
              have hcn := rN.len
              clear rN HZK
              generalize (numsI q).length = nq at *
              have hq' : ¬ (nq : Int) = 5 := by omega
              have ca := cell_of_block aR5
              have fa := unfrozen_of_block aR5
              have la := lt_of_block aR5
              have KF := K5.out
              clear k5 hG5b RE5 hNE
              go_wp2_with fail
              refine bodyPost_ret (v := .tuple #[.agg #[.slice none 0 0, .slice none 0 0, .slice none 0 0], .bool false]) (by simp [results, Tryz.results5, go_sem, ca]) rfl ?_
              exact gameOwn_none HFV.out (by repeat' (first | with_reducible exact Below.refl _ _ | with_reducible assumption | with_reducible refine Below.alloc ?_ ?_ _ | with_reducible refine Below.drew ?_ | with_reducible refine Below.setCell ?_ ?_ _ | omega | (simp; omega) | (simp; done)))
        · have hk1 : ¬ (m : Int) < (nr : Int) := by omega
          have hmr : m ≤ 16777216 := by omega
          have etk : zs.take m = zs := List.take_of_length_le (by rw [HZL.out]; omega)
          rw [etk] at RE HL
          obtain ⟨z, hz⟩ : ∃ z, z = readGI ps := ⟨_, rfl⟩
          have hze := hz.trans HRD.out
          have E0 : z.es.length = m := by rw [hze]; exact HL.out
          have E1 : z.fl.length = m0 := by rw [hze]; exact HF0.out
          have E2 : z.la.length = m1 := by rw [hze]; exact HF1.out
          have CE := Lib.hid (cloneEnt_c ae m ce z.es wr (by
            have := RE.out.slN (fun _ => rfl) HL.out
            rw [hze]
            exact this) hmr)
          have RF2 := Lib.hid (show Row wr w1.heap.size 3 x1 m0 1 intR z.fl by
            rw [hze]; exact R1.out.kept HGR.out (fun g hg e => by injection e with e; exact N1G.out g hg e.symm))
          have RG2 := Lib.hid (show Row wr w1.heap.size 3 x2 m1 1 intR z.la by
            rw [hze]; exact R2.out.kept HGR.out (fun g hg e => by injection e with e; exact N2G.out g hg e.symm))
          rw [← hz] at HNO
          have cG := cell_of_block hG
          have fG := unfrozen_of_block hG
          have BF := Lib.hid (fun g (hg : rowBlk x1 m0 = some g) => (R1.out.blk hg).2)
          have BL := Lib.hid (fun g (hg : rowBlk x2 m1 = some g) => (R2.out.blk hg).2)
          have EQ := Lib.hid (And.intro E0 (And.intro E1 E2))
          clear etk RE HL hz hze
          go_wp2_with fail
          refine CE.out.mono ?_
          rintro e w7 ⟨a', rfl, rU, k7⟩
          have bG7 := carryB k7 lG hG
          have aR7 := carryB k7 (by omega) aR
          have K7 := below_next KR.out k7
          have lG7 := lt_of_block bG7
          have bG8 := block_setCell (i := 0) bG7 (.slice a' m m)
          have aR8 := (Below.heap_setCell w7 ⟨G, 0, none⟩ (.slice a' m m) w.heap.size (by show w.heap.size ≠ G; omega)).trans aR7
          have K8 := K7.setCell (p := ⟨G, 0, none⟩) (Nat.le_of_lt hGw) (.slice a' m m)
          have RE8 := Lib.hid (rU.setOther (p := ⟨G, 0, none⟩) lG (.slice a' m m))
          have RF8 := Lib.hid ((RF2.out.below k7).setNe (p := ⟨G, 0, none⟩) N1G.out (.slice a' m m))
          have RG8 := Lib.hid ((RG2.out.below k7).setNe (p := ⟨G, 0, none⟩) N2G.out (.slice a' m m))
          have EF := Lib.hid (show ∀ b, rowBlk a' m = some b → rowBlk x1 m0 ≠ some b from fun b hb h => by have := (rU.blk hb).1; have := BF.out b h; omega)
          have EL := Lib.hid (show ∀ b, rowBlk a' m = some b → rowBlk x2 m1 ≠ some b from fun b hb h => by have := (rU.blk hb).1; have := BL.out b h; omega)
          have c7 := cell_of_block bG7
          have f7 := unfrozen_of_block bG7
          clear cG fG hG lG k7 K7 aR aR7 rU
          have c8 := fun i => cell_of_block bG8 i
          have hsz : z.es.length + z.fl.length + z.la.length ≤ 4194304 := by have := EQ.out; have := HNR.out; omega
          have CO := Lib.hid (fun V h0 h1 h2 => GameOk_c z a' x1 x2 m m0 m1 V h0 h1 h2 hsz)
          have CT := Lib.hid (fun V T h0 h1 h2 => GamePut_c z a' x1 x2 m m0 m1 V T h0 h1 h2 hsz)
          have S0 := Lib.hid (RE8.out.slN (fun _ => rfl) EQ.out.1)
          have S1 := Lib.hid (RF8.out.slN (fun _ => rfl) EQ.out.2.1)
          have S2 := Lib.hid (RG8.out.slN (fun _ => rfl) EQ.out.2.2)
          rw [EQ.out.1, EQ.out.2.1, EQ.out.2.2] at CO CT
          go_wp2_with fail
          generalize (w7.setCell ⟨G, 0, none⟩ (.slice a' m m)) = w8 at *
          clear c7 f7 bG7 lG7
          have lG8 := lt_of_block bG8
          have lR8 := lt_of_block aR8
          refine (CO.out w8 S0.out S1.out S2.out).mono ?_
          rintro e w9 ⟨rfl, k9⟩
          have K9 := below_next K8 k9
          have a9 := carryB k9 lR8 aR8
          have b9 := carryB k9 lG8 bG8
          have ca := cell_of_block a9
          have fa := unfrozen_of_block a9
          have la := lt_of_block a9
          have cb := cell_of_block b9
          have lb := lt_of_block b9
          have KW9 := Lib.hid k9
          clear k9 bG8 aR8 K8 lG8 lR8 c8
          cases hok : gameB z with
          | false =>
            have HF := Lib.hid (HNO.out (fun h => by rw [hok] at h; cases h))
            clear cb lb b9
            go_wp2_with fail
            refine bodyPost_ret (v := .tuple #[.agg #[.slice none 0 0, .slice none 0 0, .slice none 0 0], .bool false]) (by simp [results, Tryz.results5, go_sem, ca]) rfl ?_
            exact gameOwn_none HF.out (by repeat' (first | with_reducible exact Below.refl _ _ | with_reducible assumption | with_reducible refine Below.alloc ?_ ?_ _ | with_reducible refine Below.drew ?_ | with_reducible refine Below.setCell ?_ ?_ _ | omega | (simp; omega) | (simp; done)))
          | true =>
            have HGP := Lib.hid (show gamePut z = gameText z by unfold gamePut; rw [if_pos hok])
            go_wp2_with fail
            refine (CT.out w9 (tab_stays gPow EE.out.pow K9 (Nat.le_refl _)) (S0.out.below KW9.out) (S1.out.below KW9.out) (S2.out.below KW9.out)).mono ?_
            rintro e wA ⟨rfl, kA⟩
            rw [HGP.out]
            have KA := below_next K9 kA
            have aA := carryB kA la a9
            have bA := carryB kA lb b9
            have KWA := Lib.hid (below_next KW9.out kA)
            clear ca fa la cb lb kA a9 b9 K9
            have ca := cell_of_block aA
            have fa := unfrozen_of_block aA
            have la := lt_of_block aA
            have cb := cell_of_block bA
            have lb := lt_of_block bA
            by_cases hp : gameText z = s.data.toList
            · have HY := Lib.hid (isGame_yes hok hp)
              have hbp : (gameText z == s.toList) = true := by rw [ByteArray.toList_eq, hp]; simp
              clear hp HGP
              generalize gameText z = tx at *
              go_wp2_with fail
              refine bodyPost_ret (v := .tuple #[.agg #[.slice a' m m, .slice x1 m0 m0, .slice x2 m1 m1], .bool true]) (by simp [results, Tryz.results5, go_sem, ca]) rfl ?_
              refine ⟨z, true, a', x1, x2, HY.out, by rw [EQ.out.1, EQ.out.2.1, EQ.out.2.2], ?_, ?_, ?_, ?_, ?_, ?_, (by repeat' (first | with_reducible exact Below.refl _ _ | with_reducible assumption | with_reducible refine Below.alloc ?_ ?_ _ | with_reducible refine Below.drew ?_ | with_reducible refine Below.setCell ?_ ?_ _ | omega | (simp; omega) | (simp; done)))⟩
              · rw [EQ.out.1]
                exact ((((RE8.out.below KWA.out).setOther (by show w.heap.size < wr.heap.size; omega) _).setOther (by show w.heap.size < wr.heap.size; omega) _).setOther (by show w.heap.size < wr.heap.size; omega) _).low (by omega)
              · rw [EQ.out.2.1]
                exact ((((RF8.out.below KWA.out).setOther LW.out _).setOther LW.out _).setOther LW.out _).low (Nat.le_of_lt LW.out)
              · rw [EQ.out.2.2]
                exact ((((RG8.out.below KWA.out).setOther LW.out _).setOther LW.out _).setOther LW.out _).low (Nat.le_of_lt LW.out)
              · rw [EQ.out.1, EQ.out.2.1]; exact EF.out
              · rw [EQ.out.1, EQ.out.2.2]; exact EL.out
              · rw [EQ.out.2.1, EQ.out.2.2]; exact N12.out
            · have HF := Lib.hid (HNO.out (fun _ => hp))
              have hbp : (gameText z == s.toList) = false := by rw [ByteArray.toList_eq]; simpa using hp
              clear hp HGP
              generalize gameText z = tx at *
              go_wp2_with fail
              refine bodyPost_ret (v := .tuple #[.agg #[.slice none 0 0, .slice none 0 0, .slice none 0 0], .bool false]) (by simp [results, Tryz.results5, go_sem, ca]) rfl ?_
              exact gameOwn_none HF.out (by repeat' (first | with_reducible exact Below.refl _ _ | with_reducible assumption | with_reducible refine Below.alloc ?_ ?_ _ | with_reducible refine Below.drew ?_ | with_reducible refine Below.setCell ?_ ?_ _ | omega | (simp; omega) | (simp; done)))
end Go.Proofs.YtilldpoleiippaaGreatDoor
