/- The reference reads a game (spec.GameGet); condition: a small text. -/
import Derived.Test.YtilldpoleiippaaGreatDoorNumsG
import Derived.Test.YtilldpoleiippaaGreatDoorPutG
set_option linter.unusedSimpArgs false
set_option linter.unusedVariables false
namespace Go.Proofs.YtilldpoleiippaaGreatDoor
open Go.RowKit Go.Joins

section
variable {α : Type} {w w' : World} {B : Nat} {e : TypeId} {a : Option Addr} {cap k : Nat} {R : α → List Value} {zs : List α}
theorem Row.takeG (h : Row w B e a cap k R zs) (hR : ∀ z, (R z).length = k) (i : Nat) : Row w B e a cap k R (zs.take i) :=
  ⟨Nat.le_trans (by rw [List.length_take]; exact Nat.min_le_right _ _) h.len, h.max, fun hc => by
    obtain ⟨g, cur, h1, h2, h3, h4, h5⟩ := h.own hc
    refine ⟨g, cur, h1, h2, h3, h4, fun j hj => ?_⟩
    have hle : (zs.take i).length * k ≤ zs.length * k := Nat.mul_le_mul_right k (by rw [List.length_take]; exact Nat.min_le_right _ _)
    rw [h5 j (by omega)]
    have e1 : flat R zs = flat R (zs.take i) ++ flat R (zs.drop i) := by rw [← flat_append, List.take_append_drop]
    rw [e1, Array.getElem?_append_left (by rw [flat_size hR]; exact hj)]⟩
theorem Row.slN {n : Nat} (h : Row w B e a cap k R zs) (hR : ∀ z, (R z).length = k) (hn : zs.length = n) : IsSl w (.slice a n cap) k R zs := by
  subst hn
  exact h.sl hR
/-- The cells of a row of five. -/
theorem ints5_own {v : World} {n0 n1 n2 n3 n4 : Int} (h : Row v B 3 a cap 1 intR [n0, n1, n2, n3, n4]) :
    ∃ g, a = some ⟨g, 0, none⟩ ∧ B ≤ g ∧ g < v.heap.size ∧ v.cell? ⟨g, 0, none⟩ = some (.int .i64 n0) ∧ v.cell? ⟨g, 1, none⟩ = some (.int .i64 n1) ∧ v.cell? ⟨g, 2, none⟩ = some (.int .i64 n2) ∧ v.cell? ⟨g, 3, none⟩ = some (.int .i64 n3) ∧ v.cell? ⟨g, 4, none⟩ = some (.int .i64 n4) := by
  have hl := h.len
  obtain ⟨g, cur, rfl, h2, h3, h4, h5⟩ := h.own (by simp at hl; omega)
  refine ⟨g, rfl, h2, lt_of_block h3, ?_, ?_, ?_, ?_, ?_⟩
  all_goals rw [cell_of_block h3]
  · exact (h5 0 (by simp)).trans rfl
  · exact (h5 1 (by simp)).trans rfl
  · exact (h5 2 (by simp)).trans rfl
  · exact (h5 3 (by simp)).trans rfl
  · exact (h5 4 (by simp)).trans rfl
end
theorem cur_nextA {α : Type} {l : List α} {f k : Nat} (hf : f ≤ k) (hk : k < l.length) : (l.take (k + 1)).drop f = (l.take k).drop f ++ [l[k]] := by
  rw [List.take_succ_eq_append_getElem hk, List.drop_append_of_le_length (by rw [List.length_take]; omega)]
theorem stepAllocG {P : Program} {ops : Array Oper} {o : Oper} {ac : Act} {w : World} {K : Act → World → Prop} {Q : Exit → Act → World → Prop} {E : Prop} (hgd : o.guard = none) {t : TypeId} (ho : o.op = .alloc t) {z : Value} {cs : Array Value} (hiz : (P.info? t).map (·.zero) = some (some z)) (hcs : z.cells = cs)
    (h : K (ac.put o.dst (.pointer (some ⟨w.heap.size, 0, none⟩))) (w.alloc (.cells cs t))) :
    if Region.wanted o (yielded ops ac.tmps) = true then Oper.wp P o ac w K Q else E := by
  have hw : Region.wanted o (yielded ops ac.tmps) = true := by simp [Region.wanted, hgd]
  rw [if_pos hw]
  obtain ⟨i, hi, hz⟩ : ∃ i, P.info? t = some i ∧ i.zero = some z := by
    cases hi : P.info? t with
    | none => rw [hi] at hiz; cases hiz
    | some i => rw [hi] at hiz; exact ⟨i, rfl, by simpa using hiz⟩
  unfold Oper.wp
  subst hcs
  simp [execOp, ho, Result.andThen, Instr.alloc, zeroValue, typeInfo, hi, hz]
  exact h
theorem introFinG {X : Type} {P : Program} {md : Region.Mode} {ops : Array Oper} {Q : Exit → Act → World → Prop} {S : World → Prop} {fuel0 : Nat} {listed0 : Array Bool} {T0 : Array Value} {w0 : World} (fuel : Nat) (listed : Array Bool) (F : X → Array Value → Array Value) (C : X → World → Prop)
    (hfin : ∀ x w', C x w' → wpAnyH P md ops Q S fuel listed ⟨F x T0, []⟩ w')
    (h : (∀ x w' l a, l = listed → a = ⟨F x T0, []⟩ → C x w' → wpAnyH P md ops Q S fuel l a w') → wpAnyH P md ops Q S fuel0 listed0 ⟨T0, []⟩ w0) : wpAnyH P md ops Q S fuel0 listed0 ⟨T0, []⟩ w0 :=
  h fun x w' _ _ e1 e2 c => e1 ▸ e2 ▸ hfin x w' c
theorem cellBlk {w w' : World} {b : Nat} (h : w'.heap[b]? = w.heap[b]?) (o : Nat) : w'.cell? ⟨b, o, none⟩ = w.cell? ⟨b, o, none⟩ := by simp [World.cell?, h]
theorem block_set3G {w : World} {g : Nat} {a0 a1 a2 : Value} {t : TypeId} {fr : Nat × Nat} (h : w.heap[g]? = some (.cells #[a0, a1, a2] t fr)) (v0 v1 v2 : Value) :
    (((w.setCell ⟨g, 0, none⟩ v0).setCell ⟨g, 1, none⟩ v1).setCell ⟨g, 2, none⟩ v2).heap[g]? = some (.cells #[v0, v1, v2] t fr) :=
  block_setCell (i := 2) (block_setCell (i := 1) (block_setCell (i := 0) h v0) v1) v2
theorem l2Nums_some (q : List UInt8) : 0 < (numsL q).length ∧ (numsL q).length ≤ 21 := by
  unfold numsL
  rw [List.length_map]
  exact ⟨cutGo_pos 44 q [] 20, cutGo_len 44 q [] 20⟩
theorem l1Cut_6 (s : ByteArray) (w : World) (hs : s.size ≤ 1099511627776) :
    Calls Tryz.prog 19 #[.string s, .int .u8 47, .int .i64 6] w (StrsOwn (cutL 47 6 s.data.toList) w) := l1Cut_c s 47 6 w hs (by decide)

/-- What was read as a game: its rows in blocks of its own. -/
def GameRead (s : List UInt8) (w : World) (e : Ending) (w' : World) : Prop :=
  ∃ (g : Gm) (b : Bool) (a0 a1 a2 : Option Addr) (c0 c1 c2 : Nat), IsGame s g b ∧ e = .returned (.tuple #[.agg #[.slice a0 g.es.length c0, .slice a1 g.fl.length c1, .slice a2 g.la.length c2], .bool b]) ∧
    Row w' w.heap.size 44 a0 c0 5 Rq.cs g.es ∧ Row w' w.heap.size 3 a1 c1 1 intR g.fl ∧ Row w' w.heap.size 3 a2 c2 1 intR g.la ∧ Below w.heap.size w w'
theorem gameRead_none {s : List UInt8} {w w' : World} (h : IsGame s ⟨[], [], []⟩ false) (k : Below w.heap.size w w') :
    GameRead s w (.returned (.tuple #[.agg #[.slice none 0 0, .slice none 0 0, .slice none 0 0], .bool false])) w' :=
  ⟨⟨[], [], []⟩, false, none, none, none, 0, 0, 0, h, rfl, Row.nil _ _ _ _ _ _, Row.nil _ _ _ _ _ _, Row.nil _ _ _ _ _ _, k⟩

set_option maxRecDepth 100000 in
set_option maxHeartbeats 4000000 in
theorem sGameGet_c (s : ByteArray) (w : World) (hs : s.size ≤ 4000000000) :
    Calls Tryz.prog 6 #[.string s] w (GameRead s.data.toList w) := by
  have HSL := Lib.hid (show s.data.toList.length = s.size by simp)
  go_enter Tryz.func6, Tryz.ntmps6
  go_wp2_with fail
  obtain ⟨W, hW, sW, aW, kW⟩ := blocks1 w (.cells #[.slice none 0 0, .slice none 0 0, .slice none 0 0] 27)
  rw [← hW]
  clear hW
  refine (l1Cut_6 s W (by omega)).mono ?_
  rintro e w1 ⟨a, cap, rfl, hR, k1⟩
  have K1 := below_next kW k1
  have a1 := carryB k1 (by omega) aW
  clear aW k1 kW
  have HLE := Lib.hid (fun p (h : p ∈ cutL 47 6 s.data.toList) => cutL_leG h)
  have HFEW := Lib.hid (isGame_spec_few (s := s.data.toList))
  have HFIVE := Lib.hid (fun k p => isGame_spec_five (s := s.data.toList) (k := k) (p := p))
  have HNO := Lib.hid (isGame_spec_no (s := s.data.toList))
  have hle := cutGo_len 47 s.data.toList [] 6
  replace hle : (cutL 47 6 s.data.toList).length ≤ 7 := hle
  generalize cutL 47 6 s.data.toList = ps at *
  have HR := Lib.hid (hR.rows str_len)
  have hcp := hR.len
  clear hR
  obtain ⟨n, hn⟩ : ∃ n, n = ps.length := ⟨_, rfl⟩
  rw [← hn] at hle hcp ⊢
  have HNN := Lib.hid hn
  clear hn
  have ca := cell_of_block a1
  have fa := unfrozen_of_block a1
  have la := lt_of_block a1
  by_cases h2 : n < 2
  · have hi : (n : Int) < 2 := by omega
    go_wp2_with fail
    refine bodyPost_ret (v := .tuple #[.agg #[.slice none 0 0, .slice none 0 0, .slice none 0 0], .bool false]) (by simp [results, Tryz.results6, go_sem, ca]) rfl ?_
    exact gameRead_none (HFEW.out (by rw [← HNN.out]; exact h2)) (by repeat' (first | with_reducible exact Below.refl _ _ | with_reducible assumption | with_reducible refine Below.alloc ?_ ?_ _ | with_reducible refine Below.drew ?_ | with_reducible refine Below.setCell ?_ ?_ _ | omega | (simp; omega) | (simp; done)))
  · have hi : ¬ (n : Int) < 2 := by omega
    have hn2 : 2 ≤ n := by omega
    have hp0 : 0 < ps.length := by rw [← HNN.out]; omega
    have hp1 : 1 < ps.length := by rw [← HNN.out]; omega
    have HRD := Lib.hid (show readG ps = ⟨(ps.map (fun p => rqOf (numsL p))).drop 2, (numsL ps[0]).dropLast, (numsL ps[1]).dropLast⟩ by
      unfold readG
      rw [List.map_drop, List.getD_eq_getElem?_getD, List.getD_eq_getElem?_getD, List.getElem?_eq_getElem hp0, List.getElem?_eq_getElem hp1]
      rfl)
    obtain ⟨b0, o0, rfl, hl0, hc0⟩ := str_atG HR.out 0 hp0
    obtain ⟨b1, o1, e1, hl1, hc1⟩ := str_atG HR.out 1 hp1
    simp only [Option.some.injEq, Addr.mk.injEq, and_true] at e1
    obtain ⟨rfl, rfl⟩ := e1
    have HC1 := Lib.hid hc1
    have d0 := hc0 w1 (Below.refl _ _)
    rw [Nat.add_zero] at d0
    have q0 := HLE.out ps[0] (List.getElem_mem _)
    have q1 := HLE.out ps[1] (List.getElem_mem _)
    rw [HSL.out] at q0 q1
    clear hc0 hc1
    obtain ⟨p0, hp0'⟩ : ∃ p0, p0 = ps[0] := ⟨_, rfl⟩
    obtain ⟨p1, hp1'⟩ : ∃ p1, p1 = ps[1] := ⟨_, rfl⟩
    rw [← hp0'] at q0 d0 HRD
    rw [← hp1'] at q1 HC1 HRD
    clear hp0' hp1' hp0 hp1
    have CN0 := Lib.hid (fun V => l2Nums_c p0 V (by omega))
    have CN1 := Lib.hid (fun V => l2Nums_c p1 V (by omega))
    obtain ⟨nf0, nf1⟩ := l2Nums_some p0
    obtain ⟨ng0, ng1⟩ := l2Nums_some p1
    clear q0 q1
    generalize numsL p0 = f0 at *
    generalize numsL p1 = f1 at *
    go_wp2_with fail
    refine (CN0.out w1).mono ?_
    rintro e w2 ⟨af, cf, rfl, rF, k2⟩
    have hz0 := Lib.hid K1.size
    have la0 := Lib.hid la
    have hbase := Lib.hid K1
    have K2 := below_next K1 k2
    have a2 := carryB k2 la a1
    have d1 := HC1.out w2 k2
    have k2' := Lib.hid k2
    clear k2 ca fa la a1 K1 d0
    go_wp2_with fail
    refine (CN1.out w2).mono ?_
    rintro e w3 ⟨ag, cg, rfl, rG, k3⟩
    have K3 := below_next K2 k3
    have hz1 : w.heap.size ≤ w1.heap.size := hz0.out
    have hz2 : w1.heap.size ≤ w2.heap.size := k2'.out.size
    have K13 := Lib.hid (below_next k2'.out k3)
    have RF := Lib.hid ((rF.takeG (fun _ => rfl) (f0.length - 1)).below k3)
    have RG := Lib.hid ((rG.takeG (fun _ => rfl) (f1.length - 1)).low hz2)
    have LW := Lib.hid (show w.heap.size < w1.heap.size from la0.out)
    rw [← List.dropLast_eq_take] at RF RG
    have hcf := rF.len
    have hcg := rG.len
    have hcfm := rF.max
    have hcgm := rG.max
    unfold maxLen at hcfm hcgm
    have a3 := carryB k3 (lt_of_block a2) a2
    have DF := Lib.hid (List.length_dropLast (xs := f0))
    have DG := Lib.hid (List.length_dropLast (xs := f1))
    clear k2' k3 K2 a2 d1 rF rG
    generalize f0.length = nf at *
    generalize f1.length = ng at *
    obtain ⟨mF, rfl⟩ : ∃ m, nf = m + 1 := ⟨nf - 1, by omega⟩
    obtain ⟨mG, rfl⟩ : ∃ m, ng = m + 1 := ⟨ng - 1, by omega⟩
    have hwF : IntKind.i64.wrap (mF : Int) = (mF : Int) := IntWalk.i64_in _ ⟨by omega, by omega⟩
    have hwG : IntKind.i64.wrap (mG : Int) = (mG : Int) := IntWalk.i64_in _ ⟨by omega, by omega⟩
    have i1 : (0 : Int) ≤ (mF : Int) := by omega
    have i2 : (mF : Int) ≤ (cf : Int) := by omega
    have i3 : (0 : Int) ≤ (mG : Int) := by omega
    have i4 : (mG : Int) ≤ (cg : Int) := by omega
    go_wp2_with fail
    refine wp_region_held_drew (S := fun _ => True) (by kernel_rfl) trivial (fun hHeld => ?_)
    obtain ⟨wd, hwd, kwd⟩ : ∃ wd, wd = w3.drew ∧ Below w3.heap.size w3 wd := ⟨_, rfl, Below.drew (Below.refl _ _)⟩
    rw [← hwd]
    clear hwd
    refine wpAnyH_take (i := 0) (oi := _) (v := ?_) (by (simp only [List.getElem?_toArray]; rfl)) (by kernel_rfl) (by kernel_rfl) (by kernel_rfl) (by exact fun _ _ _ h => h) (Or.inl ⟨by rfl, ?_⟩) (by assumption) ?_
    rotate_left
    · intro wS hSw
      go_simp
      all_goals first | with_reducible rfl | rw [if_neg (by omega)]
    simp only [Act.put, List.setIfInBounds_toArray, List.set]
    refine wpAnyH_take (i := 1) (oi := _) (v := ?_) (by (simp only [List.getElem?_toArray]; rfl)) (by kernel_rfl) (by kernel_rfl) (by kernel_rfl) (by exact fun _ _ _ h => h) (Or.inl ⟨by rfl, ?_⟩) (by assumption) ?_
    rotate_left
    · intro wS hSw
      go_simp
      all_goals first | with_reducible rfl | rw [if_neg (by omega)]
    simp only [Act.put, List.setIfInBounds_toArray, List.set]
    refine wpAnyH_take (i := 2) (oi := _) (v := ?_) (by (simp only [List.getElem?_toArray]; rfl)) (by kernel_rfl) (by kernel_rfl) (by kernel_rfl) (by exact fun _ _ _ h => h) (Or.inl ⟨by rfl, ?_⟩) (by assumption) ?_
    rotate_left
    · intro wS hSw
      go_simp
      all_goals first | with_reducible rfl | rw [if_neg (by omega)]
    simp only [Act.put, List.setIfInBounds_toArray, List.set]
    refine wpAnyH_take (i := 3) (oi := _) (v := ?_) (by (simp only [List.getElem?_toArray]; rfl)) (by kernel_rfl) (by kernel_rfl) (by kernel_rfl) (by exact fun _ _ _ h => h) (Or.inl ⟨by rfl, ?_⟩) (by assumption) ?_
    rotate_left
    · intro wS hSw
      go_simp
      all_goals first | with_reducible rfl | rw [if_neg (by omega)]
    simp only [Act.put, List.setIfInBounds_toArray, List.set]
    refine wpAnyH_take (i := 4) (oi := _) (v := ?_) (by (simp only [List.getElem?_toArray]; rfl)) (by kernel_rfl) (by kernel_rfl) (by kernel_rfl) (by exact fun _ _ _ h => h) (Or.inl ⟨by rfl, ?_⟩) (by assumption) ?_
    rotate_left
    · intro wS hSw
      go_simp
      all_goals first | with_reducible rfl | rw [if_neg (by omega)]
    simp only [Act.put, List.setIfInBounds_toArray, List.set]
    refine wpAnyH_take (i := 5) (oi := _) (v := ?_) (by (simp only [List.getElem?_toArray]; rfl)) (by kernel_rfl) (by kernel_rfl) (by kernel_rfl) (by exact fun _ _ _ h => h) (Or.inl ⟨by rfl, ?_⟩) (by assumption) ?_
    rotate_left
    · intro wS hSw
      go_simp
      all_goals first | with_reducible rfl | rw [if_neg (by omega)]
    simp only [Act.put, List.setIfInBounds_toArray, List.set]
    refine wpAnyH_take (i := 6) (oi := _) (v := ?_) (by (simp only [List.getElem?_toArray]; rfl)) (by kernel_rfl) (by kernel_rfl) (by kernel_rfl) (by exact fun _ _ _ h => h) (Or.inl ⟨by rfl, ?_⟩) (by assumption) ?_
    rotate_left
    · intro wS hSw
      go_simp
      all_goals first | with_reducible rfl | rw [if_neg (by omega)]
    simp only [Act.put, List.setIfInBounds_toArray, List.set]
    refine wpAnyH_take (i := 7) (oi := _) (v := ?_) (by (simp only [List.getElem?_toArray]; rfl)) (by kernel_rfl) (by kernel_rfl) (by kernel_rfl) (by exact fun _ _ _ h => h) (Or.inl ⟨by rfl, ?_⟩) (by assumption) ?_
    rotate_left
    · intro wS hSw
      go_simp
      all_goals first | with_reducible rfl | rw [if_neg (by omega)]
    simp only [Act.put, List.setIfInBounds_toArray, List.set]
    refine wpAnyH_take (i := 8) (oi := _) (v := ?_) (by (simp only [List.getElem?_toArray]; rfl)) (by kernel_rfl) (by kernel_rfl) (by kernel_rfl) (by exact fun _ _ _ h => h) (Or.inl ⟨by rfl, ?_⟩) (by assumption) ?_
    rotate_left
    · intro wS hSw
      go_simp
      all_goals first | with_reducible rfl | rw [if_neg (by omega)]
    simp only [Act.put, List.setIfInBounds_toArray, List.set]
    refine wpAnyH_take (i := 9) (oi := _) (v := ?_) (by (simp only [List.getElem?_toArray]; rfl)) (by kernel_rfl) (by kernel_rfl) (by kernel_rfl) (by exact fun _ _ _ h => h) (Or.inl ⟨by rfl, ?_⟩) (by assumption) ?_
    rotate_left
    · intro wS hSw
      go_simp
      all_goals first | with_reducible rfl | rw [if_neg (by omega)]
    simp only [Act.put, List.setIfInBounds_toArray, List.set]
    refine wpAnyH_take (i := 10) (oi := _) (v := ?_) (by (simp only [List.getElem?_toArray]; rfl)) (by kernel_rfl) (by kernel_rfl) (by kernel_rfl) (by exact fun _ _ _ h => h) (Or.inl ⟨by rfl, ?_⟩) (by assumption) ?_
    rotate_left
    · intro wS hSw
      go_simp
      all_goals first | with_reducible rfl | rw [if_neg (by omega)]
    simp only [Act.put, List.setIfInBounds_toArray, List.set]
    refine wpAnyH_ready (rs := [11]) (by kernel_rfl) (by simp) ?_
    refine AllReadyH.cons (o := _) (by (simp only [List.getElem?_toArray]; rfl)) (fun K hK => ?_) AllReadyH.nil
    refine stepAllocG (by rfl) (by rfl) (z := .agg #[.slice none 0 0, .slice none 0 0, .slice none 0 0]) (cs := #[.slice none 0 0, .slice none 0 0, .slice none 0 0]) (by kernel_rfl) rfl ?_
    obtain ⟨V, hV, sV, aV, kV⟩ := blocks1 wd (.cells #[.slice none 0 0, .slice none 0 0, .slice none 0 0] 27)
    rw [← hV]
    clear hV
    have kV1 := below_next kwd kV
    have hGe : w3.heap.size ≤ wd.heap.size := kwd.size
    refine hK.out _ _ trivial (fun hHeld => ?_)
    clear hK K
    try simp only [Act.put, List.setIfInBounds_toArray, List.set]
    clear hHeld kV kwd sV
    generalize wd.heap.size = G at *
    have cV := cell_of_block aV
    have fV := unfrozen_of_block aV
    have lV := lt_of_block aV
    refine wpAnyH_ready (rs := [12]) (by kernel_rfl) (by simp) ?_
    refine AllReadyH.cons (o := _) (by (simp only [List.getElem?_toArray]; rfl)) (fun K hK => ?_) AllReadyH.nil
    go_simp
    refine hK.out _ _ trivial (fun hHeld => ?_)
    clear hK K
    try simp only [Act.put, List.setIfInBounds_toArray, List.set]
    refine wpAnyH_done (by kernel_rfl) ?_ _
    clear hHeld cV fV
    have bG := block_set3G aV (.slice none 0 0) (.slice af mF cf) (.slice ag mG cg)
    have kG : Below w3.heap.size w3 (((V.setCell ⟨G, 0, none⟩ (.slice none 0 0)).setCell ⟨G, 1, none⟩ (.slice af mF cf)).setCell ⟨G, 2, none⟩ (.slice ag mG cg)) := ((kV1.setCell (p := ⟨G, 0, none⟩) hGe _).setCell (p := ⟨G, 1, none⟩) hGe _).setCell (p := ⟨G, 2, none⟩) hGe _
    generalize (((V.setCell ⟨G, 0, none⟩ (.slice none 0 0)).setCell ⟨G, 1, none⟩ (.slice af mF cf)).setCell ⟨G, 2, none⟩ (.slice ag mG cg)) = w4 at *
    have BG := Lib.hid bG
    have KG := Lib.hid kG
    have A3 := Lib.hid a3
    have K3 := Lib.hid (hbase.out.trans (K13.out.mono hbase.out.size))
    clear bG kG aV kV1 lV hwF hwG i1 i2 i3 i4 a3
    obtain ⟨zs, hzs⟩ : ∃ zs, zs = ps.map (fun p => rqOf (numsL p)) := ⟨_, rfl⟩
    rw [← hzs] at HRD
    have HZS := Lib.hid hzs
    have HZL := Lib.hid (show zs.length = n by rw [hzs, List.length_map, ← HNN.out])
    clear hzs
    have hrw : w.heap.size < w3.heap.size := lt_of_block A3.out
    have hz2 : (zs.take 2).drop 2 = [] := List.drop_eq_nil_of_le (by rw [List.length_take]; exact Nat.min_le_left _ _)
    go_wp2_with fail
    go_loopw [8] (fun i wr => ∃ (k m : Nat) (ae : Option Addr) (ce : Nat), k = m + 2 ∧ k ≤ n ∧ i = .int .i64 k ∧ wr.heap[G]? = some (.cells #[.slice ae m ce, .slice af mF cf, .slice ag mG cg] 27 (0, 0)) ∧ Row wr (G + 1) 44 ae ce 5 Rq.cs ((zs.take k).drop 2) ∧ Below w3.heap.size w3 wr) (fun i _ => n - (intOf i).toNat)
    case atStart => exact ⟨2, 0, none, 0, rfl, hn2, rfl, BG.out, by rw [hz2]; exact Row.nil _ _ _ _ _ _, KG.out⟩
    case round =>
      clear BG KG hz2
      obtain ⟨k, m, ae, ce, hkm, hk, rfl, hG, hRE, hbel⟩ := hrel
      have RE := Lib.hid hRE
      have HBel := Lib.hid hbel
      have HKM := Lib.hid hkm
      have hm1000 : m ≤ 1000 := by omega
      have hk2 : 2 ≤ k := by omega
      have HL := Lib.hid (show ((zs.take k).drop 2).length = m by rw [List.length_drop, List.length_take, HZL.out]; omega)
      have lG := lt_of_block hG
      clear hRE hkm
      by_cases hlt : k < n
      · have hkz : k < ps.length := by rw [← HNN.out]; exact hlt
        have hk1 : (k : Int) < (n : Int) := by omega
        have hk0 : (0 : Int) ≤ (k : Int) := by omega
        have hwk : IntKind.i64.wrap ((k : Int) + 1) = (k : Int) + 1 := IntWalk.i64_in _ ⟨by omega, by omega⟩
        obtain ⟨b2, o2, e2, hl2, hc2⟩ := str_atG HR.out k hkz
        simp only [Option.some.injEq, Addr.mk.injEq, and_true] at e2
        obtain ⟨rfl, rfl⟩ := e2
        have d2 := hc2 wr (K13.out.trans (hbel.mono K13.out.size))
        have hq := HLE.out ps[k] (List.getElem_mem _)
        rw [HSL.out] at hq
        have HPK := Lib.hid (List.getElem?_eq_getElem hkz)
        have HZK := Lib.hid (show (zs.take (k + 1)).drop 2 = (zs.take k).drop 2 ++ [rqOf (numsL ps[k])] by
          have hzk : k < zs.length := by rw [HZL.out]; exact hlt
          have hz : zs[k] = rqOf (numsL ps[k]) := by simp [HZS.out]
          rw [cur_nextA hk2 hzk, hz])
        clear hc2
        generalize ps[k] = q at *
        have CN := Lib.hid (fun V => l2Nums_c q V (by omega))
        clear hq
        go_wp2_with fail
        refine (CN.out wr).mono ?_
        rintro e w5 ⟨an, cn, rfl, rN, k5⟩
        have HB5 := Lib.hid (HBel.out.trans (k5.mono HBel.out.size))
        have aR := carryB HB5.out hrw A3.out
        have hG5b := carryB k5 lG hG
        have RE5 := Lib.hid (RE.out.below k5)
        have hNE := Lib.hid (fun b (hb : rowBlk ae ce = some b) => (RE.out.blk hb).2)
        clear d2 hG RE hbel
        by_cases h5 : (numsL q).length = 5
        · obtain ⟨n0, n1, n2, n3, n4, hq5⟩ : ∃ n0 n1 n2 n3 n4, numsL q = [n0, n1, n2, n3, n4] := by
            match numsL q, h5 with
            | [n0, n1, n2, n3, n4], _ => exact ⟨n0, n1, n2, n3, n4, rfl⟩
          rw [hq5] at rN HZK ⊢
          obtain ⟨g5, rfl, hg5, lg5, d0, d1, d2, d3, d4⟩ := ints5_own rN
          have hcn := rN.len
          have e5 : [n0, n1, n2, n3, n4].length = 5 := rfl
          rw [e5] at *
          clear hq5 h5 rN k5
          have hG5 : G < g5 := Nat.lt_of_lt_of_le lG hg5
          have N5 := Lib.hid (fun g (hb : rowBlk ae ce = some g) => show g ≠ g5 by have := hNE.out g hb; omega)
          have RE := RE5
          have hG := hG5b
          have cG := cell_of_block hG
          have lG5 := lt_of_block hG
          have hGB : G < G + 1 := Nat.lt_succ_self G
          have hHB : G + 1 ≤ w5.heap.size := lG5
          clear RE5 hG5b
          obtain ⟨es, hes⟩ : ∃ es, es = (zs.take k).drop 2 := ⟨_, rfl⟩
          rw [← hes] at RE HL HZK
          clear hes
          go_wp2_with fail
          refine wp_region_held_drew (S := fun w' => w'.cell? ⟨g5, 0, none⟩ = some (.int .i64 n0) ∧ w'.cell? ⟨g5, 1, none⟩ = some (.int .i64 n1) ∧ w'.cell? ⟨g5, 2, none⟩ = some (.int .i64 n2) ∧ w'.cell? ⟨g5, 3, none⟩ = some (.int .i64 n3) ∧ w'.cell? ⟨g5, 4, none⟩ = some (.int .i64 n4)) (by kernel_rfl) ⟨d0, d1, d2, d3, d4⟩ (fun hHeld => ?_)
          refine introFinG (X := Option Addr × Nat × Nat) 0 #[true, true, true, true, true, true, true, true, true, true, true, true, true, true, true, true, true, true, true, true, true, true] (fun x T => (((((((((((((((((((((T).setIfInBounds 50 (.pointer (some ⟨G, 0, none⟩))).setIfInBounds 51 (.slice ae m ce)).setIfInBounds 52 (.slice (some ⟨g5, 0, none⟩) 5 cn)).setIfInBounds 53 (.pointer (some ⟨g5, 0, none⟩))).setIfInBounds 54 (.int .i64 n0)).setIfInBounds 55 (.slice (some ⟨g5, 0, none⟩) 5 cn)).setIfInBounds 56 (.pointer (some ⟨g5, 1, none⟩))).setIfInBounds 57 (.int .i64 n1)).setIfInBounds 58 (.slice (some ⟨g5, 0, none⟩) 5 cn)).setIfInBounds 59 (.pointer (some ⟨g5, 2, none⟩))).setIfInBounds 60 (.int .i64 n2)).setIfInBounds 61 (.slice (some ⟨g5, 0, none⟩) 5 cn)).setIfInBounds 62 (.pointer (some ⟨g5, 3, none⟩))).setIfInBounds 63 (.int .i64 n3)).setIfInBounds 64 (.slice (some ⟨g5, 0, none⟩) 5 cn)).setIfInBounds 65 (.pointer (some ⟨g5, 4, none⟩))).setIfInBounds 66 (.int .i64 n4)).setIfInBounds 67 (.agg #[.int .i64 n0, .int .i64 n1, .int .i64 n2, .int .i64 n3, .int .i64 n4])).setIfInBounds 68 (.slice (some ⟨x.2.2, 0, none⟩) 1 1)).setIfInBounds 69 (.slice x.1 (m + 1) x.2.1)).setIfInBounds 70 (.pointer (some ⟨G, 0, none⟩))) (fun x w' => w'.heap[G]? = some (.cells #[.slice x.1 (m + 1) x.2.1, .slice af mF cf, .slice ag mG cg] 27 (0, 0)) ∧ Row w' (G + 1) 44 x.1 x.2.1 5 Rq.cs (es ++ [⟨n0, n1, n2, n3, n4⟩]) ∧ Below G w5 w' ∧ ∀ b, b < (G + 1) → b ≠ G → w'.heap[b]? = w5.heap[b]?) ?_ (fun hfin => ?_)
          rotate_left
          · obtain ⟨wd, hwd, kwd⟩ : ∃ wd, wd = w5.drew ∧ Below w5.heap.size w5 wd := ⟨_, rfl, Below.drew (Below.refl _ _)⟩
            have hSd : wd.cell? ⟨g5, 0, none⟩ = some (.int .i64 n0) ∧ wd.cell? ⟨g5, 1, none⟩ = some (.int .i64 n1) ∧ wd.cell? ⟨g5, 2, none⟩ = some (.int .i64 n2) ∧ wd.cell? ⟨g5, 3, none⟩ = some (.int .i64 n3) ∧ wd.cell? ⟨g5, 4, none⟩ = some (.int .i64 n4) := ⟨((bcell kwd).1 _ _ lg5).trans d0, ((bcell kwd).1 _ _ lg5).trans d1, ((bcell kwd).1 _ _ lg5).trans d2, ((bcell kwd).1 _ _ lg5).trans d3, ((bcell kwd).1 _ _ lg5).trans d4⟩
            rw [← hwd] at hHeld ⊢
            clear hwd
            have RKd := Lib.hid kwd
            have lGG := lt_of_block hG
            have REd := Lib.hid (RE.out.below kwd)
            have hGd := Lib.hid (carryB kwd lGG hG)
            have HSd := Lib.hid hSd
            have KBd := Lib.hid (show ∀ b, b < (G + 1) → b ≠ G → wd.heap[b]? = w5.heap[b]? from fun b hb _ => kwd.block b (Nat.lt_of_lt_of_le hb hHB))
            have lgd : g5 < wd.heap.size := Nat.lt_of_lt_of_le lg5 kwd.size
            clear hSd kwd d0 d1 d2 d3 d4
            refine wpAnyH_take (i := 0) (oi := _) (v := ?_) (by (simp only [List.getElem?_toArray]; rfl)) (by kernel_rfl) (by kernel_rfl) (by kernel_rfl) (by exact fun _ _ _ h => h) (Or.inl ⟨by rfl, ?_⟩) (by assumption) ?_
            rotate_left
            · intro wS hSw
              go_simp
              all_goals first | with_reducible rfl | rw [if_neg (by omega)]
            simp only [Act.put, List.setIfInBounds_toArray, List.set]
            refine wpAnyH_take (i := 2) (oi := _) (v := ?_) (by (simp only [List.getElem?_toArray]; rfl)) (by kernel_rfl) (by kernel_rfl) (by kernel_rfl) (by exact fun _ _ _ h => h) (Or.inl ⟨by rfl, ?_⟩) (by assumption) ?_
            rotate_left
            · intro wS hSw
              go_simp
              all_goals first | with_reducible rfl | rw [if_neg (by omega)]
            simp only [Act.put, List.setIfInBounds_toArray, List.set]
            refine wpAnyH_take (i := 3) (oi := _) (v := ?_) (by (simp only [List.getElem?_toArray]; rfl)) (by kernel_rfl) (by kernel_rfl) (by kernel_rfl) (by exact fun _ _ _ h => h) (Or.inl ⟨by rfl, ?_⟩) (by assumption) ?_
            rotate_left
            · intro wS hSw
              go_simp
              all_goals first | with_reducible rfl | rw [if_neg (by omega)]
            simp only [Act.put, List.setIfInBounds_toArray, List.set]
            refine wpAnyH_take (i := 4) (oi := _) (v := ?_) (by (simp only [List.getElem?_toArray]; rfl)) (by kernel_rfl) (by kernel_rfl) (by kernel_rfl) (by exact fun _ _ _ h => h) (Or.inl ⟨by rfl, ?_⟩) (by assumption) ?_
            rotate_left
            · intro wS hSw
              go_simp
              all_goals first | with_reducible rfl | rw [if_neg (by omega)]
            simp only [Act.put, List.setIfInBounds_toArray, List.set]
            refine wpAnyH_take (i := 5) (oi := _) (v := ?_) (by (simp only [List.getElem?_toArray]; rfl)) (by kernel_rfl) (by kernel_rfl) (by kernel_rfl) (by exact fun _ _ _ h => h) (Or.inl ⟨by rfl, ?_⟩) (by assumption) ?_
            rotate_left
            · intro wS hSw
              go_simp
              all_goals first | with_reducible rfl | rw [if_neg (by omega)]
            simp only [Act.put, List.setIfInBounds_toArray, List.set]
            refine wpAnyH_take (i := 6) (oi := _) (v := ?_) (by (simp only [List.getElem?_toArray]; rfl)) (by kernel_rfl) (by kernel_rfl) (by kernel_rfl) (by exact fun _ _ _ h => h) (Or.inl ⟨by rfl, ?_⟩) (by assumption) ?_
            rotate_left
            · intro wS hSw
              go_simp
              all_goals first | with_reducible rfl | rw [if_neg (by omega)]
            simp only [Act.put, List.setIfInBounds_toArray, List.set]
            refine wpAnyH_take (i := 7) (oi := _) (v := ?_) (by (simp only [List.getElem?_toArray]; rfl)) (by kernel_rfl) (by kernel_rfl) (by kernel_rfl) (by exact fun _ _ _ h => h) (Or.inl ⟨by rfl, ?_⟩) (by assumption) ?_
            rotate_left
            · intro wS hSw
              go_simp
              all_goals first | with_reducible rfl | rw [if_neg (by omega)]
            simp only [Act.put, List.setIfInBounds_toArray, List.set]
            refine wpAnyH_take (i := 8) (oi := _) (v := ?_) (by (simp only [List.getElem?_toArray]; rfl)) (by kernel_rfl) (by kernel_rfl) (by kernel_rfl) (by exact fun _ _ _ h => h) (Or.inl ⟨by rfl, ?_⟩) (by assumption) ?_
            rotate_left
            · intro wS hSw
              go_simp
              all_goals first | with_reducible rfl | rw [if_neg (by omega)]
            simp only [Act.put, List.setIfInBounds_toArray, List.set]
            refine wpAnyH_take (i := 9) (oi := _) (v := ?_) (by (simp only [List.getElem?_toArray]; rfl)) (by kernel_rfl) (by kernel_rfl) (by kernel_rfl) (by exact fun _ _ _ h => h) (Or.inl ⟨by rfl, ?_⟩) (by assumption) ?_
            rotate_left
            · intro wS hSw
              go_simp
              all_goals first | with_reducible rfl | rw [if_neg (by omega)]
            simp only [Act.put, List.setIfInBounds_toArray, List.set]
            refine wpAnyH_take (i := 10) (oi := _) (v := ?_) (by (simp only [List.getElem?_toArray]; rfl)) (by kernel_rfl) (by kernel_rfl) (by kernel_rfl) (by exact fun _ _ _ h => h) (Or.inl ⟨by rfl, ?_⟩) (by assumption) ?_
            rotate_left
            · intro wS hSw
              go_simp
              all_goals first | with_reducible rfl | rw [if_neg (by omega)]
            simp only [Act.put, List.setIfInBounds_toArray, List.set]
            refine wpAnyH_take (i := 11) (oi := _) (v := ?_) (by (simp only [List.getElem?_toArray]; rfl)) (by kernel_rfl) (by kernel_rfl) (by kernel_rfl) (by exact fun _ _ _ h => h) (Or.inl ⟨by rfl, ?_⟩) (by assumption) ?_
            rotate_left
            · intro wS hSw
              go_simp
              all_goals first | with_reducible rfl | rw [if_neg (by omega)]
            simp only [Act.put, List.setIfInBounds_toArray, List.set]
            refine wpAnyH_take (i := 12) (oi := _) (v := ?_) (by (simp only [List.getElem?_toArray]; rfl)) (by kernel_rfl) (by kernel_rfl) (by kernel_rfl) (by exact fun _ _ _ h => h) (Or.inl ⟨by rfl, ?_⟩) (by assumption) ?_
            rotate_left
            · intro wS hSw
              go_simp
              all_goals first | with_reducible rfl | rw [if_neg (by omega)]
            simp only [Act.put, List.setIfInBounds_toArray, List.set]
            refine wpAnyH_take (i := 13) (oi := _) (v := ?_) (by (simp only [List.getElem?_toArray]; rfl)) (by kernel_rfl) (by kernel_rfl) (by kernel_rfl) (by exact fun _ _ _ h => h) (Or.inl ⟨by rfl, ?_⟩) (by assumption) ?_
            rotate_left
            · intro wS hSw
              go_simp
              all_goals first | with_reducible rfl | rw [if_neg (by omega)]
            simp only [Act.put, List.setIfInBounds_toArray, List.set]
            refine wpAnyH_take (i := 14) (oi := _) (v := ?_) (by (simp only [List.getElem?_toArray]; rfl)) (by kernel_rfl) (by kernel_rfl) (by kernel_rfl) (by exact fun _ _ _ h => h) (Or.inl ⟨by rfl, ?_⟩) (by assumption) ?_
            rotate_left
            · intro wS hSw
              go_simp
              all_goals first | with_reducible rfl | rw [if_neg (by omega)]
            simp only [Act.put, List.setIfInBounds_toArray, List.set]
            refine wpAnyH_take (i := 15) (oi := _) (v := ?_) (by (simp only [List.getElem?_toArray]; rfl)) (by kernel_rfl) (by kernel_rfl) (by kernel_rfl) (by exact fun _ _ _ h => h) (Or.inl ⟨by rfl, ?_⟩) (by assumption) ?_
            rotate_left
            · intro wS hSw
              go_simp
              all_goals first | with_reducible rfl | rw [if_neg (by omega)]
            simp only [Act.put, List.setIfInBounds_toArray, List.set]
            refine wpAnyH_take (i := 16) (oi := _) (v := ?_) (by (simp only [List.getElem?_toArray]; rfl)) (by kernel_rfl) (by kernel_rfl) (by kernel_rfl) (by exact fun _ _ _ h => h) (Or.inl ⟨by rfl, ?_⟩) (by assumption) ?_
            rotate_left
            · intro wS hSw
              go_simp
              all_goals first | with_reducible rfl | rw [if_neg (by omega)]
            simp only [Act.put, List.setIfInBounds_toArray, List.set]
            refine wpAnyH_take (i := 17) (oi := _) (v := ?_) (by (simp only [List.getElem?_toArray]; rfl)) (by kernel_rfl) (by kernel_rfl) (by kernel_rfl) (by exact fun _ _ _ h => h) (Or.inl ⟨by rfl, ?_⟩) (by assumption) ?_
            rotate_left
            · intro wS hSw
              go_simp
              all_goals first | with_reducible rfl | rw [if_neg (by omega)]
            simp only [Act.put, List.setIfInBounds_toArray, List.set]
            refine wpAnyH_ready (rs := [1, 18]) (by kernel_rfl) (by simp) ?_
            refine AllReadyH.cons (o := _) (by (simp only [List.getElem?_toArray]; rfl)) (fun K hK => ?_) ?_
            · skip
              have cG := cell_of_block hGd.out
              have lG := lt_of_block hGd.out
              go_simp
              refine hK.out _ _ HSd.out (fun hHeld => ?_)
              clear hK K cG lG
              try simp only [Act.put, List.setIfInBounds_toArray, List.set]
              refine wpAnyH_ready (rs := [18]) (by kernel_rfl) (by simp) ?_
              refine AllReadyH.cons (o := _) (by (simp only [List.getElem?_toArray]; rfl)) (fun K hK => ?_) AllReadyH.nil
              go_simp
              obtain ⟨wdb, hw', sw', hvdb, kw'⟩ := blocks1 wd (.cells #[.int .i64 n0, .int .i64 n1, .int .i64 n2, .int .i64 n3, .int .i64 n4] 44)
              rw [← hw']
              clear hw'
              have RKdb := Lib.hid (below_next RKd.out kw')
              have REdb := Lib.hid (REd.out.below kw')
              have hGdb := Lib.hid (carryB kw' (lt_of_block hGd.out) hGd.out)
              have HSdb := Lib.hid (show wdb.cell? ⟨g5, 0, none⟩ = some (.int .i64 n0) ∧ wdb.cell? ⟨g5, 1, none⟩ = some (.int .i64 n1) ∧ wdb.cell? ⟨g5, 2, none⟩ = some (.int .i64 n2) ∧ wdb.cell? ⟨g5, 3, none⟩ = some (.int .i64 n3) ∧ wdb.cell? ⟨g5, 4, none⟩ = some (.int .i64 n4) from ⟨((bcell kw').1 _ _ lgd).trans HSd.out.1, ((bcell kw').1 _ _ lgd).trans HSd.out.2.1, ((bcell kw').1 _ _ lgd).trans HSd.out.2.2.1, ((bcell kw').1 _ _ lgd).trans HSd.out.2.2.2.1, ((bcell kw').1 _ _ lgd).trans HSd.out.2.2.2.2⟩)
              have lgdb : g5 < wdb.heap.size := Nat.lt_of_lt_of_le lgd kw'.size
              have RVdb := Lib.hid (show RowsAt wdb (some ⟨wd.heap.size, 0, none⟩) 5 Rq.cs [⟨n0, n1, n2, n3, n4⟩] from rows_of_block (R := Rq.cs) (zs := [⟨n0, n1, n2, n3, n4⟩]) (fun _ => rfl) hvdb)
              have KBdb := Lib.hid (show ∀ b, b < (G + 1) → b ≠ G → wdb.heap[b]? = w5.heap[b]? from fun b hb hn => (kw'.block b (by have := RKd.out.size; omega)).trans (KBd.out b hb hn))
              clear kw' sw'
              refine hK.out _ _ HSdb.out (fun hHeld => ?_)
              clear hK K
              try simp only [Act.put, List.setIfInBounds_toArray, List.set]
              refine wpAnyH_ready (rs := [19]) (by kernel_rfl) (by simp) ?_
              refine AllReadyH.cons (o := _) (by (simp only [List.getElem?_toArray]; rfl)) (fun K hK => ?_) AllReadyH.nil
              refine step_append_elt (by rfl) (.tmp 51) (.tmp 68) (by rfl) (m + 1) eltEnt (by rfl) (by rfl) REdb.out RVdb.out HL.out rfl rfl (by simp only [maxLen]; omega) (by omega) (by have := lt_of_block hGdb.out; omega) ?_
              intro xa xc wdba q6
              have ge : ∀ b, rowBlk ae ce = some b → (G + 1) ≤ b := fun b hb => (REdb.out.blk hb).1
              have hGdba := Lib.hid ((q6.grown.block G (lt_of_block hGdb.out) (fun e => by have := ge _ e.symm; omega)).trans hGdb.out)
              have b5 := q6.grown.block g5 lgdb (fun e => N5.out _ e.symm rfl)
              have HSdba := Lib.hid (show wdba.cell? ⟨g5, 0, none⟩ = some (.int .i64 n0) ∧ wdba.cell? ⟨g5, 1, none⟩ = some (.int .i64 n1) ∧ wdba.cell? ⟨g5, 2, none⟩ = some (.int .i64 n2) ∧ wdba.cell? ⟨g5, 3, none⟩ = some (.int .i64 n3) ∧ wdba.cell? ⟨g5, 4, none⟩ = some (.int .i64 n4) from ⟨(cellBlk b5 _).trans HSdb.out.1, (cellBlk b5 _).trans HSdb.out.2.1, (cellBlk b5 _).trans HSdb.out.2.2.1, (cellBlk b5 _).trans HSdb.out.2.2.2.1, (cellBlk b5 _).trans HSdb.out.2.2.2.2⟩)
              have REdba := Lib.hid q6.row
              have RKdba := Lib.hid (show Below G w5 wdba from (RKdb.out.mono (Nat.le_of_lt lGG)).trans (q6.below (by have := lt_of_block hGdb.out; omega) (fun b hb => by have := ge b hb; omega)))
              have KBdba := Lib.hid (show ∀ b, b < (G + 1) → b ≠ G → wdba.heap[b]? = w5.heap[b]? from fun b hb hn => (q6.grown.block b (by have := RKdb.out.size; omega) (fun e => by have := ge _ e.symm; omega)).trans (KBdb.out b hb hn))
              clear q6 b5 ge
              refine hK.out _ _ HSdba.out (fun hHeld => ?_)
              clear hK K
              try simp only [Act.put, List.setIfInBounds_toArray, List.set]
              refine wpAnyH_take (i := 20) (oi := _) (v := ?_) (by (simp only [List.getElem?_toArray]; rfl)) (by kernel_rfl) (by kernel_rfl) (by kernel_rfl) (by exact fun _ _ _ h => h) (Or.inl ⟨by rfl, ?_⟩) (by assumption) ?_
              rotate_left
              · intro wS hSw
                go_simp
                all_goals first | with_reducible rfl | rw [if_neg (by omega)]
              simp only [Act.put, List.setIfInBounds_toArray, List.set]
              refine wpAnyH_ready (rs := [21]) (by kernel_rfl) (by simp) ?_
              refine AllReadyH.cons (o := _) (by (simp only [List.getElem?_toArray]; rfl)) (fun K hK => ?_) AllReadyH.nil
              have cG := cell_of_block hGdba.out
              have fG := unfrozen_of_block hGdba.out
              have lG := lt_of_block hGdba.out
              go_simp
              have hGdbas := Lib.hid (block_setCell (i := 0) hGdba.out (.slice xa (m + 1) xc))
              have REdbas := Lib.hid (REdba.out.setOther (p := ⟨G, 0, none⟩) hGB (.slice xa (m + 1) xc))
              have RKdbas := Lib.hid (RKdba.out.setCell (p := ⟨G, 0, none⟩) (Nat.le_refl _) (.slice xa (m + 1) xc))
              have hne5 : ∀ i, (World.setCell wdba ⟨G, 0, none⟩ (.slice xa (m + 1) xc)).cell? ⟨g5, i, none⟩ = wdba.cell? ⟨g5, i, none⟩ := fun i => World.cell?_setCell_other _ _ _ _ (by intro h; have := congrArg Addr.block h; simp at this; omega)
              have HSdbas := Lib.hid (show (World.setCell wdba ⟨G, 0, none⟩ (.slice xa (m + 1) xc)).cell? ⟨g5, 0, none⟩ = some (.int .i64 n0) ∧ (World.setCell wdba ⟨G, 0, none⟩ (.slice xa (m + 1) xc)).cell? ⟨g5, 1, none⟩ = some (.int .i64 n1) ∧ (World.setCell wdba ⟨G, 0, none⟩ (.slice xa (m + 1) xc)).cell? ⟨g5, 2, none⟩ = some (.int .i64 n2) ∧ (World.setCell wdba ⟨G, 0, none⟩ (.slice xa (m + 1) xc)).cell? ⟨g5, 3, none⟩ = some (.int .i64 n3) ∧ (World.setCell wdba ⟨G, 0, none⟩ (.slice xa (m + 1) xc)).cell? ⟨g5, 4, none⟩ = some (.int .i64 n4) from ⟨(hne5 _).trans HSdba.out.1, (hne5 _).trans HSdba.out.2.1, (hne5 _).trans HSdba.out.2.2.1, (hne5 _).trans HSdba.out.2.2.2.1, (hne5 _).trans HSdba.out.2.2.2.2⟩)
              have KBdbas := Lib.hid (show ∀ b, b < (G + 1) → b ≠ G → (World.setCell wdba ⟨G, 0, none⟩ (.slice xa (m + 1) xc)).heap[b]? = w5.heap[b]? from fun b hb hn => (Below.heap_setCell wdba ⟨G, 0, none⟩ (.slice xa (m + 1) xc) b hn).trans (KBdba.out b hb hn))
              clear cG fG lG hne5
              refine hK.out _ _ HSdbas.out (fun hHeld => ?_)
              clear hK K
              try simp only [Act.put, List.setIfInBounds_toArray, List.set]
              refine hfin ⟨xa, xc, wd.heap.size⟩ _ _ _ (by kernel_rfl) ?_ ⟨hGdbas.out, REdbas.out, RKdbas.out, KBdbas.out⟩
              simp only [List.setIfInBounds_toArray, List.set]
            refine AllReadyH.cons (o := _) (by (simp only [List.getElem?_toArray]; rfl)) (fun K hK => ?_) ?_
            · skip
              go_simp
              obtain ⟨wdb, hw', sw', hvdb, kw'⟩ := blocks1 wd (.cells #[.int .i64 n0, .int .i64 n1, .int .i64 n2, .int .i64 n3, .int .i64 n4] 44)
              rw [← hw']
              clear hw'
              have RKdb := Lib.hid (below_next RKd.out kw')
              have REdb := Lib.hid (REd.out.below kw')
              have hGdb := Lib.hid (carryB kw' (lt_of_block hGd.out) hGd.out)
              have HSdb := Lib.hid (show wdb.cell? ⟨g5, 0, none⟩ = some (.int .i64 n0) ∧ wdb.cell? ⟨g5, 1, none⟩ = some (.int .i64 n1) ∧ wdb.cell? ⟨g5, 2, none⟩ = some (.int .i64 n2) ∧ wdb.cell? ⟨g5, 3, none⟩ = some (.int .i64 n3) ∧ wdb.cell? ⟨g5, 4, none⟩ = some (.int .i64 n4) from ⟨((bcell kw').1 _ _ lgd).trans HSd.out.1, ((bcell kw').1 _ _ lgd).trans HSd.out.2.1, ((bcell kw').1 _ _ lgd).trans HSd.out.2.2.1, ((bcell kw').1 _ _ lgd).trans HSd.out.2.2.2.1, ((bcell kw').1 _ _ lgd).trans HSd.out.2.2.2.2⟩)
              have lgdb : g5 < wdb.heap.size := Nat.lt_of_lt_of_le lgd kw'.size
              have RVdb := Lib.hid (show RowsAt wdb (some ⟨wd.heap.size, 0, none⟩) 5 Rq.cs [⟨n0, n1, n2, n3, n4⟩] from rows_of_block (R := Rq.cs) (zs := [⟨n0, n1, n2, n3, n4⟩]) (fun _ => rfl) hvdb)
              have KBdb := Lib.hid (show ∀ b, b < (G + 1) → b ≠ G → wdb.heap[b]? = w5.heap[b]? from fun b hb hn => (kw'.block b (by have := RKd.out.size; omega)).trans (KBd.out b hb hn))
              clear kw' sw'
              refine hK.out _ _ HSdb.out (fun hHeld => ?_)
              clear hK K
              try simp only [Act.put, List.setIfInBounds_toArray, List.set]
              refine wpAnyH_ready (rs := [1]) (by kernel_rfl) (by simp) ?_
              refine AllReadyH.cons (o := _) (by (simp only [List.getElem?_toArray]; rfl)) (fun K hK => ?_) AllReadyH.nil
              have cG := cell_of_block hGdb.out
              have lG := lt_of_block hGdb.out
              go_simp
              refine hK.out _ _ HSdb.out (fun hHeld => ?_)
              clear hK K cG lG
              try simp only [Act.put, List.setIfInBounds_toArray, List.set]
              refine wpAnyH_ready (rs := [19]) (by kernel_rfl) (by simp) ?_
              refine AllReadyH.cons (o := _) (by (simp only [List.getElem?_toArray]; rfl)) (fun K hK => ?_) AllReadyH.nil
              refine step_append_elt (by rfl) (.tmp 51) (.tmp 68) (by rfl) (m + 1) eltEnt (by rfl) (by rfl) REdb.out RVdb.out HL.out rfl rfl (by simp only [maxLen]; omega) (by omega) (by have := lt_of_block hGdb.out; omega) ?_
              intro xa xc wdba q6
              have ge : ∀ b, rowBlk ae ce = some b → (G + 1) ≤ b := fun b hb => (REdb.out.blk hb).1
              have hGdba := Lib.hid ((q6.grown.block G (lt_of_block hGdb.out) (fun e => by have := ge _ e.symm; omega)).trans hGdb.out)
              have b5 := q6.grown.block g5 lgdb (fun e => N5.out _ e.symm rfl)
              have HSdba := Lib.hid (show wdba.cell? ⟨g5, 0, none⟩ = some (.int .i64 n0) ∧ wdba.cell? ⟨g5, 1, none⟩ = some (.int .i64 n1) ∧ wdba.cell? ⟨g5, 2, none⟩ = some (.int .i64 n2) ∧ wdba.cell? ⟨g5, 3, none⟩ = some (.int .i64 n3) ∧ wdba.cell? ⟨g5, 4, none⟩ = some (.int .i64 n4) from ⟨(cellBlk b5 _).trans HSdb.out.1, (cellBlk b5 _).trans HSdb.out.2.1, (cellBlk b5 _).trans HSdb.out.2.2.1, (cellBlk b5 _).trans HSdb.out.2.2.2.1, (cellBlk b5 _).trans HSdb.out.2.2.2.2⟩)
              have REdba := Lib.hid q6.row
              have RKdba := Lib.hid (show Below G w5 wdba from (RKdb.out.mono (Nat.le_of_lt lGG)).trans (q6.below (by have := lt_of_block hGdb.out; omega) (fun b hb => by have := ge b hb; omega)))
              have KBdba := Lib.hid (show ∀ b, b < (G + 1) → b ≠ G → wdba.heap[b]? = w5.heap[b]? from fun b hb hn => (q6.grown.block b (by have := RKdb.out.size; omega) (fun e => by have := ge _ e.symm; omega)).trans (KBdb.out b hb hn))
              clear q6 b5 ge
              refine hK.out _ _ HSdba.out (fun hHeld => ?_)
              clear hK K
              try simp only [Act.put, List.setIfInBounds_toArray, List.set]
              refine wpAnyH_take (i := 20) (oi := _) (v := ?_) (by (simp only [List.getElem?_toArray]; rfl)) (by kernel_rfl) (by kernel_rfl) (by kernel_rfl) (by exact fun _ _ _ h => h) (Or.inl ⟨by rfl, ?_⟩) (by assumption) ?_
              rotate_left
              · intro wS hSw
                go_simp
                all_goals first | with_reducible rfl | rw [if_neg (by omega)]
              simp only [Act.put, List.setIfInBounds_toArray, List.set]
              refine wpAnyH_ready (rs := [21]) (by kernel_rfl) (by simp) ?_
              refine AllReadyH.cons (o := _) (by (simp only [List.getElem?_toArray]; rfl)) (fun K hK => ?_) AllReadyH.nil
              have cG := cell_of_block hGdba.out
              have fG := unfrozen_of_block hGdba.out
              have lG := lt_of_block hGdba.out
              go_simp
              have hGdbas := Lib.hid (block_setCell (i := 0) hGdba.out (.slice xa (m + 1) xc))
              have REdbas := Lib.hid (REdba.out.setOther (p := ⟨G, 0, none⟩) hGB (.slice xa (m + 1) xc))
              have RKdbas := Lib.hid (RKdba.out.setCell (p := ⟨G, 0, none⟩) (Nat.le_refl _) (.slice xa (m + 1) xc))
              have hne5 : ∀ i, (World.setCell wdba ⟨G, 0, none⟩ (.slice xa (m + 1) xc)).cell? ⟨g5, i, none⟩ = wdba.cell? ⟨g5, i, none⟩ := fun i => World.cell?_setCell_other _ _ _ _ (by intro h; have := congrArg Addr.block h; simp at this; omega)
              have HSdbas := Lib.hid (show (World.setCell wdba ⟨G, 0, none⟩ (.slice xa (m + 1) xc)).cell? ⟨g5, 0, none⟩ = some (.int .i64 n0) ∧ (World.setCell wdba ⟨G, 0, none⟩ (.slice xa (m + 1) xc)).cell? ⟨g5, 1, none⟩ = some (.int .i64 n1) ∧ (World.setCell wdba ⟨G, 0, none⟩ (.slice xa (m + 1) xc)).cell? ⟨g5, 2, none⟩ = some (.int .i64 n2) ∧ (World.setCell wdba ⟨G, 0, none⟩ (.slice xa (m + 1) xc)).cell? ⟨g5, 3, none⟩ = some (.int .i64 n3) ∧ (World.setCell wdba ⟨G, 0, none⟩ (.slice xa (m + 1) xc)).cell? ⟨g5, 4, none⟩ = some (.int .i64 n4) from ⟨(hne5 _).trans HSdba.out.1, (hne5 _).trans HSdba.out.2.1, (hne5 _).trans HSdba.out.2.2.1, (hne5 _).trans HSdba.out.2.2.2.1, (hne5 _).trans HSdba.out.2.2.2.2⟩)
              have KBdbas := Lib.hid (show ∀ b, b < (G + 1) → b ≠ G → (World.setCell wdba ⟨G, 0, none⟩ (.slice xa (m + 1) xc)).heap[b]? = w5.heap[b]? from fun b hb hn => (Below.heap_setCell wdba ⟨G, 0, none⟩ (.slice xa (m + 1) xc) b hn).trans (KBdba.out b hb hn))
              clear cG fG lG hne5
              refine hK.out _ _ HSdbas.out (fun hHeld => ?_)
              clear hK K
              try simp only [Act.put, List.setIfInBounds_toArray, List.set]
              refine hfin ⟨xa, xc, wd.heap.size⟩ _ _ _ (by kernel_rfl) ?_ ⟨hGdbas.out, REdbas.out, RKdbas.out, KBdbas.out⟩
              simp only [List.setIfInBounds_toArray, List.set]
            exact AllReadyH.nil
          rintro ⟨xa, xc, xb⟩ w6 ⟨hGn, REn, kA, kB⟩
          simp only at hGn REn kA kB ⊢
          simp only [List.setIfInBounds_toArray, List.set]
          refine wpAnyH_done (by kernel_rfl) ?_ _
          have HZK2 : (zs.take (k + 1)).drop 2 = es ++ [⟨n0, n1, n2, n3, n4⟩] := HZK.out
          have RN := Lib.hid (show Row w6 (G + 1) 44 xa xc 5 Rq.cs ((zs.take (k + 1)).drop 2) by rw [HZK2]; exact REn)
          have KN := Lib.hid (HB5.out.trans (kA.mono hGe))
          have GN := Lib.hid hGn
          clear hHeld hG cG lG5 RE HZK HZK2 REn kA hGn kB hGB hHB
          go_wp2_with fail
          go_roundw
          case rel => exact ⟨k + 1, m + 1, xa, xc, by have := HKM.out; omega, by omega, by go_num, GN.out, RN.out, KN.out⟩
          case measure => simp [intOf]; omega
        · have HFV := Lib.hid (HFIVE.out k q hk2 HPK.out h5)
          have hcn := rN.len
          clear rN HZK
          generalize (numsL q).length = nq at *
          have hq' : ¬ (nq : Int) = 5 := by omega
          have ca := cell_of_block aR
          have fa := unfrozen_of_block aR
          have la := lt_of_block aR
          have KF := K3.out.trans (HB5.out.mono K3.out.size)
          clear k5 hG5b RE5 hNE
          go_wp2_with fail
          refine bodyPost_ret (v := .tuple #[.agg #[.slice none 0 0, .slice none 0 0, .slice none 0 0], .bool false]) (by simp [results, Tryz.results6, go_sem, ca]) rfl ?_
          exact gameRead_none HFV.out (by repeat' (first | with_reducible exact Below.refl _ _ | with_reducible assumption | with_reducible refine Below.alloc ?_ ?_ _ | with_reducible refine Below.drew ?_ | with_reducible refine Below.setCell ?_ ?_ _ | omega | (simp; omega) | (simp; done)))
      · have hk1 : ¬ (k : Int) < (n : Int) := by omega
        have etk : (zs.take k).drop 2 = zs.drop 2 := by rw [List.take_of_length_le (by rw [HZL.out]; omega)]
        rw [etk] at RE HL
        obtain ⟨z, hz⟩ : ∃ z, z = readG ps := ⟨_, rfl⟩
        have hze := hz.trans HRD.out
        have E0 : z.es.length = m := by rw [hze]; exact HL.out
        have E1 : z.fl.length = mF := by rw [hze]; exact DF.out
        have E2 : z.la.length = mG := by rw [hze]; exact DG.out
        have RE2 := Lib.hid (show Row wr (G + 1) 44 ae ce 5 Rq.cs z.es by rw [hze]; exact RE.out)
        have RF2 := Lib.hid (show Row wr w1.heap.size 3 af cf 1 intR z.fl by rw [hze]; exact RF.out.below hbel)
        have RG2 := Lib.hid (show Row wr w1.heap.size 3 ag cg 1 intR z.la by rw [hze]; exact RG.out.below hbel)
        rw [← hz] at HNO
        have hsz : z.es.length + z.fl.length + z.la.length ≤ 4194304 := by omega
        have CO := Lib.hid (fun V h0 h1 h2 => l2Ok_c z ae af ag ce cf cg V h0 h1 h2 hsz)
        have CT := Lib.hid (fun V h0 h1 h2 (hg : gameB z = true) => l2Put_c z ae af ag ce cf cg V h0 h1 h2 hg)
        have S0 := Lib.hid (RE2.out.slN (fun _ => rfl) E0)
        have S1 := Lib.hid (RF2.out.slN (fun _ => rfl) E1)
        have S2 := Lib.hid (RG2.out.slN (fun _ => rfl) E2)
        rw [E0, E1, E2] at CO CT
        have EE := Lib.hid (And.intro E0 (And.intro E1 E2))
        have aR := carryB hbel hrw A3.out
        have cG := cell_of_block hG
        have KR := K3.out.trans (hbel.mono K3.out.size)
        have hGw : w.heap.size < G := Nat.lt_of_lt_of_le hrw hGe
        have hRl := lt_of_block aR
        clear etk RE HL hz hze E0 E1 E2 hsz hbel
        go_wp2_with fail
        refine (CO.out wr S0.out S1.out S2.out).mono ?_
        rintro e w5 ⟨rfl, k5⟩
        have K5 := below_next KR k5
        have a5 := carryB k5 hRl aR
        have b5 := carryB k5 lG hG
        have ca := cell_of_block a5
        have fa := unfrozen_of_block a5
        have la := lt_of_block a5
        have cb := cell_of_block b5
        have lb := lt_of_block b5
        have KW5 := Lib.hid k5
        clear cG k5 hG lG KR aR hRl
        cases hok : gameB z with
        | false =>
          have HF := Lib.hid (HNO.out (fun h => by rw [hok] at h; cases h))
          clear cb lb b5
          go_wp2_with fail
          refine bodyPost_ret (v := .tuple #[.agg #[.slice none 0 0, .slice none 0 0, .slice none 0 0], .bool false]) (by simp [results, Tryz.results6, go_sem, ca]) rfl ?_
          exact gameRead_none HF.out (by repeat' (first | with_reducible exact Below.refl _ _ | with_reducible assumption | with_reducible refine Below.alloc ?_ ?_ _ | with_reducible refine Below.drew ?_ | with_reducible refine Below.setCell ?_ ?_ _ | omega | (simp; omega) | (simp; done)))
        | true =>
          go_wp2_with fail
          refine (CT.out w5 (S0.out.below KW5.out) (S1.out.below KW5.out) (S2.out.below KW5.out) hok).mono ?_
          rintro e w6 ⟨rfl, k6⟩
          have K6 := below_next K5 k6
          have a6 := carryB k6 la a5
          have b6 := carryB k6 lb b5
          have KW6 := Lib.hid (below_next KW5.out k6)
          clear ca fa la cb lb k6 a5 b5 K5
          have ca := cell_of_block a6
          have fa := unfrozen_of_block a6
          have la := lt_of_block a6
          have cb := cell_of_block b6
          have lb := lt_of_block b6
          by_cases hp : gameText z = s.data.toList
          · have HY := Lib.hid (isGame_yes hok hp)
            have hbp : (gameText z == s.toList) = true := by rw [ByteArray.toList_eq, hp]; simp
            clear hp
            generalize gameText z = tx at *
            go_wp2_with fail
            refine bodyPost_ret (v := .tuple #[.agg #[.slice ae m ce, .slice af mF cf, .slice ag mG cg], .bool true]) (by simp [results, Tryz.results6, go_sem, ca]) rfl ?_
            refine ⟨z, true, ae, af, ag, ce, cf, cg, HY.out, by rw [EE.out.1, EE.out.2.1, EE.out.2.2], ?_, ?_, ?_, (by repeat' (first | with_reducible exact Below.refl _ _ | with_reducible assumption | with_reducible refine Below.alloc ?_ ?_ _ | with_reducible refine Below.drew ?_ | with_reducible refine Below.setCell ?_ ?_ _ | omega | (simp; omega) | (simp; done)))⟩
            · exact ((((RE2.out.below KW6.out).setOther (by show w.heap.size < G + 1; omega) _).setOther (by show w.heap.size < G + 1; omega) _).setOther (by show w.heap.size < G + 1; omega) _).low (by omega)
            · exact ((((RF2.out.below KW6.out).setOther LW.out _).setOther LW.out _).setOther LW.out _).low (Nat.le_of_lt LW.out)
            · exact ((((RG2.out.below KW6.out).setOther LW.out _).setOther LW.out _).setOther LW.out _).low (Nat.le_of_lt LW.out)
          · have HF := Lib.hid (HNO.out (fun _ => hp))
            have hbp : (gameText z == s.toList) = false := by rw [ByteArray.toList_eq]; simpa using hp
            clear hp
            generalize gameText z = tx at *
            go_wp2_with fail
            refine bodyPost_ret (v := .tuple #[.agg #[.slice none 0 0, .slice none 0 0, .slice none 0 0], .bool false]) (by simp [results, Tryz.results6, go_sem, ca]) rfl ?_
            exact gameRead_none HF.out (by repeat' (first | with_reducible exact Below.refl _ _ | with_reducible assumption | with_reducible refine Below.alloc ?_ ?_ _ | with_reducible refine Below.drew ?_ | with_reducible refine Below.setCell ?_ ?_ _ | omega | (simp; omega) | (simp; done)))
end Go.Proofs.YtilldpoleiippaaGreatDoor
