/- The program's act, joining; condition: small sizes. -/
import Derived.Test.YtofedboeggdkaaaOwnS
import Derived.Test.YtofedboeggdkaaaJoinG
import Derived.StillTailTactics
namespace Go.Proofs.Ytofedboeggdkaaa
open Go.RowKit Go.Joins

set_option maxRecDepth 100000 in
set_option maxHeartbeats 8000000 in
theorem act_there {D B : Nat} (es : List Rq) (fl la : List Int) (n0 n2 P : Nat) (a0 a1 a2 : Option Addr) (c1 c2 : Nat) (c n x y : Int) (w : World) (aP : w.heap[P]? = some (.cells #[.slice a0 n0 n0, .slice a1 16 c1, .slice a2 n2 c2] 46 (0, 0))) (h : Own3 w B a0 n0 a1 c1 a2 c2 ⟨es, fl, la⟩) (hn0 : es.length = n0) (hn1 : fl.length = 16) (hn2 : la.length = n2) (h4 : n0 ≤ 4) (hD : D ≤ B) (hDP : D ≤ P) (hp : Places es) (hf : ∀ n ∈ fl, 0 ≤ n ∧ n ≤ 20)
    (hc : 1 ≤ c ∧ c ≤ 4) (hx : -1 ≤ x ∧ x ≤ 4) (hy : -1 ≤ y ∧ y ≤ 9) (k : Nat) (hfig : figAt es c = some k) :
    Calls Try.prog 83 #[.pointer (some ⟨P, 0, none⟩), .agg #[.int .i64 c, .int .i64 n, .int .i64 1, .int .i64 x, .int .i64 y]] w (ActOut D B P c1 c2 ⟨es, fl, la⟩ 4 w) := by
  have HN0 := Lib.hid hn0
  have HN1 := Lib.hid hn1
  have HN2 := Lib.hid hn2
  have HP := Lib.hid hp
  have HF := Lib.hid hf
  have hlP := lt_of_block aP
  have hDw : D ≤ w.heap.size := by omega
  go_enter Try.func83, Try.ntmps83
  go_upto_region 1 with fail
  obtain ⟨W, hW, sW, qX, kW⟩ := blocks1 w (.cells #[.int .i64 c, .int .i64 n, .int .i64 1, .int .i64 x, .int .i64 y] 34)
  rw [← hW]
  clear hW sW
  have aX := carryN kW aP
  have O := Lib.hid (h.below kW)
  have KD := Lib.hid (kW.mono hDw)
  have hPQ : ¬ (P = w.heap.size) := by omega
  have hQP : ¬ (w.heap.size = P) := by omega
  have ga := cellRe aX
  have gq := cellRe qX
  have cF := quietC (w := W) (fun V hV => figure_c es c a0 a1 a2 n0 16 n2 n0 c1 c2 V ((O.out.e.slG five_len HN0.out).below hV))
  rw [figI_opt, hfig] at cF
  clear aP h hn0 hn1 hn2 hp hf kW hlP
  go_wp2_with fail
  refine wp_region_quiet_below (by kernel_rfl) (by kernel_rfl) ?_
  repeat (go_big_quiet_step (first | with_reducible exact cF _ _))
  refine wpQuiet_nil ?_
  intro _ hw'
  obtain ⟨⟨dq, osq⟩, hw''⟩ := hw'
  subst hw''
  have hkb := below_regrown W dq osq
  replace aX := carryN hkb aX
  replace qX := carryN hkb qX
  replace O := Lib.hid (O.out.below hkb)
  replace KD := Lib.hid (KD.out.trans (hkb.mono (Nat.le_trans hDw KD.out.size)))
  clear hkb
  generalize Sort.grow (redrawn W dq) osq = X at *
  clear ga gq cF
  have cA := cell_of_block aX
  have cQ := cell_of_block qX
  have ho : optI (some k) = (k : Int) := rfl
  rw [ho]
  clear ho
  have hkz : k < es.length := by obtain ⟨hl, -⟩ := figAt_some hfig; exact hl
  have hkn : k < n0 := by rw [← HN0.out]; exact hkz
  have hk0 : (0 : Int) ≤ (k : Int) := by omega
  have hk1 : (k : Int) < (n0 : Int) := by omega
  have hkd : decide ((0 : Int) ≤ (k : Int)) = true := by simp
  have hkm : ¬ (k : Int) < 0 := by omega
  go_wp2_with fail
  go_ret
  exact actOut aX O.out KD.out HN0.out HN1.out HN2.out
set_option maxRecDepth 100000 in
set_option maxHeartbeats 8000000 in
theorem act_off {D B : Nat} (es : List Rq) (fl la : List Int) (n0 n2 P : Nat) (a0 a1 a2 : Option Addr) (c1 c2 : Nat) (c n o x y : Int) (w : World) (aP : w.heap[P]? = some (.cells #[.slice a0 n0 n0, .slice a1 16 c1, .slice a2 n2 c2] 46 (0, 0))) (h : Own3 w B a0 n0 a1 c1 a2 c2 ⟨es, fl, la⟩) (hn0 : es.length = n0) (hn1 : fl.length = 16) (hn2 : la.length = n2) (h4 : n0 ≤ 4) (hD : D ≤ B) (hDP : D ≤ P) (hp : Places es) (hf : ∀ n ∈ fl, 0 ≤ n ∧ n ≤ 20)
    (hc : 1 ≤ c ∧ c ≤ 4) (hx : -1 ≤ x ∧ x ≤ 4) (hy : -1 ≤ y ∧ y ≤ 9) (hfig : figAt es c = none) (ho1 : o ≠ 1) :
    Calls Try.prog 83 #[.pointer (some ⟨P, 0, none⟩), .agg #[.int .i64 c, .int .i64 n, .int .i64 o, .int .i64 x, .int .i64 y]] w (ActOut D B P c1 c2 ⟨es, fl, la⟩ 5 w) := by
  have HN0 := Lib.hid hn0
  have HN1 := Lib.hid hn1
  have HN2 := Lib.hid hn2
  have HP := Lib.hid hp
  have HF := Lib.hid hf
  have hlP := lt_of_block aP
  have hDw : D ≤ w.heap.size := by omega
  go_enter Try.func83, Try.ntmps83
  go_upto_region 1 with fail
  obtain ⟨W, hW, sW, qX, kW⟩ := blocks1 w (.cells #[.int .i64 c, .int .i64 n, .int .i64 o, .int .i64 x, .int .i64 y] 34)
  rw [← hW]
  clear hW sW
  have aX := carryN kW aP
  have O := Lib.hid (h.below kW)
  have KD := Lib.hid (kW.mono hDw)
  have hPQ : ¬ (P = w.heap.size) := by omega
  have hQP : ¬ (w.heap.size = P) := by omega
  have ga := cellRe aX
  have gq := cellRe qX
  have cF := quietC (w := W) (fun V hV => figure_c es c a0 a1 a2 n0 16 n2 n0 c1 c2 V ((O.out.e.slG five_len HN0.out).below hV))
  rw [figI_opt, hfig] at cF
  clear aP h hn0 hn1 hn2 hp hf kW hlP
  go_wp2_with fail
  refine wp_region_quiet_below (by kernel_rfl) (by kernel_rfl) ?_
  repeat (go_big_quiet_step (first | with_reducible exact cF _ _))
  refine wpQuiet_nil ?_
  intro _ hw'
  obtain ⟨⟨dq, osq⟩, hw''⟩ := hw'
  subst hw''
  have hkb := below_regrown W dq osq
  replace aX := carryN hkb aX
  replace qX := carryN hkb qX
  replace O := Lib.hid (O.out.below hkb)
  replace KD := Lib.hid (KD.out.trans (hkb.mono (Nat.le_trans hDw KD.out.size)))
  clear hkb
  generalize Sort.grow (redrawn W dq) osq = X at *
  clear ga gq cF
  have cA := cell_of_block aX
  have cQ := cell_of_block qX
  have hob : (o == 1) = false := by simpa using ho1
  have ho : optI none = -1 := rfl
  rw [ho]
  clear ho
  go_wp2_with fail
  go_ret
  exact actOut aX O.out KD.out HN0.out HN1.out HN2.out
set_option maxRecDepth 100000 in
set_option maxHeartbeats 8000000 in
theorem act_join {D B : Nat} (es : List Rq) (fl la : List Int) (n0 n2 P : Nat) (a0 a1 a2 : Option Addr) (c1 c2 : Nat) (c n x y : Int) (w : World) (aP : w.heap[P]? = some (.cells #[.slice a0 n0 n0, .slice a1 16 c1, .slice a2 n2 c2] 46 (0, 0))) (h : Own3 w B a0 n0 a1 c1 a2 c2 ⟨es, fl, la⟩) (hn0 : es.length = n0) (hn1 : fl.length = 16) (hn2 : la.length = n2) (h4 : n0 ≤ 4) (hD : D ≤ B) (hDP : D ≤ P) (hp : Places es) (hf : ∀ n ∈ fl, 0 ≤ n ∧ n ≤ 20)
    (hc : 1 ≤ c ∧ c ≤ 4) (hx : -1 ≤ x ∧ x ≤ 4) (hy : -1 ≤ y ∧ y ≤ 9) (hfig : figAt es c = none) (hB : B ≤ w.heap.size) :
    Calls Try.prog 83 #[.pointer (some ⟨P, 0, none⟩), .agg #[.int .i64 c, .int .i64 n, .int .i64 1, .int .i64 x, .int .i64 y]] w (ActOut D B P c1 c2 ⟨joinE es c, fl, la⟩ 0 w) := by
  have HN0 := Lib.hid hn0
  have HN1 := Lib.hid hn1
  have HN2 := Lib.hid hn2
  have HP := Lib.hid hp
  have HF := Lib.hid hf
  have hlP := lt_of_block aP
  have hDw : D ≤ w.heap.size := by omega
  go_enter Try.func83, Try.ntmps83
  go_upto_region 1 with fail
  obtain ⟨W, hW, sW, qX, kW⟩ := blocks1 w (.cells #[.int .i64 c, .int .i64 n, .int .i64 1, .int .i64 x, .int .i64 y] 34)
  rw [← hW]
  clear hW sW
  have aX := carryN kW aP
  have O := Lib.hid (h.below kW)
  have KD := Lib.hid (kW.mono hDw)
  have hPQ : ¬ (P = w.heap.size) := by omega
  have hQP : ¬ (w.heap.size = P) := by omega
  have ga := cellRe aX
  have gq := cellRe qX
  have cF := quietC (w := W) (fun V hV => figure_c es c a0 a1 a2 n0 16 n2 n0 c1 c2 V ((O.out.e.slG five_len HN0.out).below hV))
  rw [figI_opt, hfig] at cF
  clear aP h hn0 hn1 hn2 hp hf kW hlP
  go_wp2_with fail
  refine wp_region_quiet_below (by kernel_rfl) (by kernel_rfl) ?_
  repeat (go_big_quiet_step (first | with_reducible exact cF _ _))
  refine wpQuiet_nil ?_
  intro _ hw'
  obtain ⟨⟨dq, osq⟩, hw''⟩ := hw'
  subst hw''
  have hkb := below_regrown W dq osq
  replace aX := carryN hkb aX
  replace qX := carryN hkb qX
  replace O := Lib.hid (O.out.below hkb)
  replace KD := Lib.hid (KD.out.trans (hkb.mono (Nat.le_trans hDw KD.out.size)))
  clear hkb
  generalize Sort.grow (redrawn W dq) osq = X at *
  clear ga gq cF
  have cA := cell_of_block aX
  have cQ := cell_of_block qX
  have ho : optI none = -1 := rfl
  rw [ho]
  clear ho
  have hw1 : IntKind.i64.wrap (c - 1) = c - 1 := IntWalk.i64_in _ ⟨by omega, by omega⟩
  go_wp2_with fail
  go_loopw [6] (fun i wr => ∃ k : Nat, k ≤ n0 ∧ i = .int .i64 k ∧ (∀ j (hj : j < es.length), j < k → es[j].c < c) ∧ X.heap.size ≤ X.heap.size ∧ wr.heap[P]? = some (.cells #[.slice a0 n0 n0, .slice a1 16 c1, .slice a2 n2 c2] 46 (0, 0)) ∧ wr.heap[w.heap.size]? = some (.cells #[.int .i64 c, .int .i64 n, .int .i64 1, .int .i64 x, .int .i64 y] 34 (0, 0)) ∧ Hid (Own3 wr B a0 n0 a1 c1 a2 c2 ⟨es, fl, la⟩) ∧ Hid (Below D w wr)) (fun i _ => n0 - (intOf i).toNat)
  case atStart => exact ⟨0, Nat.zero_le _, rfl, fun j _ hj => absurd hj (Nat.not_lt_zero j), Nat.le_refl _, aX, qX, O, KD⟩
  case round =>
    clear aX qX O KD cA cQ
    obtain ⟨k, hk, rfl, hall, hsz, aX, qX, O, KD⟩ := hrel
    have HL := Lib.hid hall
    clear hall
    by_cases hlt : k < n0
    · have hkz : k < es.length := by rw [HN0.out]; exact hlt
      have hk1 : (k : Int) < (n0 : Int) := by omega
      have hk0 : (0 : Int) ≤ (k : Int) := by omega
      have hkd : decide (k < n0) = true := by simp; omega
      obtain ⟨g9, hg9, hgB, hgl, e0, -, -, -, -, -, -⟩ := O.out.e.entAt (i := k) hkz
      simp only at e0
      have hslot : a0 = some ⟨g9, 0, none⟩ := hg9
      subst hslot
      have x0 := cell_regrown e0
      have ga := cellRe aX
      have gq := cellRe qX
      clear e0
      by_cases he : es[k].c < c
      · have hed : decide (es[k].c < c) = true := by simp; omega
        go_wp2_with fail
        refine wp_region_quiet_below (by kernel_rfl) (by kernel_rfl) ?_
        repeat (go_big_quiet_step (fail))
        refine wpQuiet_nil ?_
        intro _ hw'
        obtain ⟨⟨dq, osq⟩, hw''⟩ := hw'
        subst hw''
        have hkb := below_regrown wr dq osq
        replace aX := carryN hkb aX
        replace qX := carryN hkb qX
        replace O := Lib.hid (O.out.below hkb)
        replace KD := Lib.hid (KD.out.trans (hkb.mono (Nat.le_trans hDw KD.out.size)))
        clear hkb
        generalize Sort.grow (redrawn wr dq) osq = X2 at *
        clear x0 ga gq
        go_wp2_with fail
        refine ⟨⟨k + 1, by omega, by go_num, fun j hj hjk => ?_, ?_, aX, qX, O, KD⟩, by simp [intOf]; omega⟩
        · by_cases hjk' : j = k
          · subst hjk'; exact he
          · exact HL.out j hj (by omega)
        · exact Nat.le_trans hsz (Nat.le_of_eq rfl)
      · have hed : decide (es[k].c < c) = false := by simp; omega
        go_wp2_with fail
        refine wp_region_quiet_below (by kernel_rfl) (by kernel_rfl) ?_
        repeat (go_big_quiet_step (fail))
        refine wpQuiet_nil ?_
        intro _ hw'
        obtain ⟨⟨dq, osq⟩, hw''⟩ := hw'
        subst hw''
        have hkb := below_regrown wr dq osq
        replace aX := carryN hkb aX
        replace qX := carryN hkb qX
        replace O := Lib.hid (O.out.below hkb)
        replace KD := Lib.hid (KD.out.trans (hkb.mono (Nat.le_trans hDw KD.out.size)))
        clear hkb
        generalize Sort.grow (redrawn wr dq) osq = X2 at *
        clear x0 ga gq
        have HJ := Lib.hid (joinE_at (c := c) (Nat.le_of_lt hkz) HL.out (fun _ => by omega))
        have cA := cell_of_block aX
        have cQ := cell_of_block qX
        go_wp2_with fail
        have hcd := cell_of_block (show X2.drew.heap[w.heap.size]? = _ from qX)
        refine wp_region_held_drew (S := fun w' => ∀ i, w'.cell? ⟨w.heap.size, i, none⟩ = (#[.int .i64 c, .int .i64 n, .int .i64 1, .int .i64 x, .int .i64 y] : Array Value)[i]?) (by kernel_rfl) hcd (fun hHeld => ?_)
        have O2 := Lib.hid O.out.drew
        have a2' := Lib.hid (show X2.drew.heap[P]? = _ from aX)
        have q2' := Lib.hid (show X2.drew.heap[w.heap.size]? = _ from qX)
        have K2 := Lib.hid KD.out.drew
        have hlt2 : w.heap.size < X2.drew.heap.size := lt_of_block qX
        clear aX qX O KD cA cQ hcd
        obtain ⟨U, hU⟩ : ∃ U, U = X2.drew := ⟨_, rfl⟩
        rw [← hU] at O2 a2' q2' K2 hlt2 hHeld ⊢
        clear hU
        refine wpAnyH_take (i := 0) (oi := _) (v := ?_) (by (simp only [List.getElem?_toArray]; rfl)) (by kernel_rfl) (by kernel_rfl) (by kernel_rfl) (by exact fun _ _ _ h => h) (Or.inl ⟨by rfl, ?_⟩) (by assumption) ?_
        rotate_left
        · intro wS hSw
          go_simp
          all_goals first | with_reducible rfl | rw [if_neg (by omega)]
        simp only [Act.put, List.setIfInBounds_toArray, List.set]
        refine wpAnyH_take (i := 1) (oi := _) (v := ?_) (by (simp only [List.getElem?_toArray]; rfl)) (by kernel_rfl) (by kernel_rfl) (by kernel_rfl) (by exact fun _ _ _ h => h) (Or.inl ⟨by rfl, ?_⟩) (by assumption) ?_
        rotate_left
        · intro wS hSw
          go_simp
          all_goals first | with_reducible rfl | rw [if_neg (by omega)]
        simp only [Act.put, List.setIfInBounds_toArray, List.set]
        refine wpAnyH_take (i := 2) (oi := _) (v := ?_) (by (simp only [List.getElem?_toArray]; rfl)) (by kernel_rfl) (by kernel_rfl) (by kernel_rfl) (by exact fun _ _ _ h => h) (Or.inl ⟨by rfl, ?_⟩) (by assumption) ?_
        rotate_left
        · intro wS hSw
          go_simp
          all_goals first | with_reducible rfl | rw [if_neg (by omega)]
        simp only [Act.put, List.setIfInBounds_toArray, List.set]
        refine wpAnyH_take (i := 3) (oi := _) (v := ?_) (by (simp only [List.getElem?_toArray]; rfl)) (by kernel_rfl) (by kernel_rfl) (by kernel_rfl) (by exact fun _ _ _ h => h) (Or.inl ⟨by rfl, ?_⟩) (by assumption) ?_
        rotate_left
        · intro wS hSw
          go_simp
          all_goals first | with_reducible rfl | rw [if_neg (by omega)]
        simp only [Act.put, List.setIfInBounds_toArray, List.set]
        refine wpAnyH_take (i := 5) (oi := _) (v := ?_) (by (simp only [List.getElem?_toArray]; rfl)) (by kernel_rfl) (by kernel_rfl) (by kernel_rfl) (by exact fun _ _ _ h => h) (Or.inl ⟨by rfl, ?_⟩) (by assumption) ?_
        rotate_left
        · intro wS hSw
          go_simp
          all_goals first | with_reducible rfl | rw [if_neg (by omega)]
        simp only [Act.put, List.setIfInBounds_toArray, List.set]
        refine wpAnyH_take (i := 6) (oi := _) (v := ?_) (by (simp only [List.getElem?_toArray]; rfl)) (by kernel_rfl) (by kernel_rfl) (by kernel_rfl) (by exact fun _ _ _ h => h) (Or.inl ⟨by rfl, ?_⟩) (by assumption) ?_
        rotate_left
        · intro wS hSw
          go_simp
          all_goals first | with_reducible rfl | rw [if_neg (by omega)]
        simp only [Act.put, List.setIfInBounds_toArray, List.set]
        refine wpAnyH_take (i := 7) (oi := _) (v := ?_) (by (simp only [List.getElem?_toArray]; rfl)) (by kernel_rfl) (by kernel_rfl) (by kernel_rfl) (by exact fun _ _ _ h => h) (Or.inl ⟨by rfl, ?_⟩) (by assumption) ?_
        rotate_left
        · intro wS hSw
          go_simp
          all_goals first | with_reducible rfl | rw [if_neg (by omega)]
        simp only [Act.put, List.setIfInBounds_toArray, List.set]
        refine wpAnyH_take (i := 8) (oi := _) (v := ?_) (by (simp only [List.getElem?_toArray]; rfl)) (by kernel_rfl) (by kernel_rfl) (by kernel_rfl) (by exact fun _ _ _ h => h) (Or.inl ⟨by rfl, ?_⟩) (by assumption) ?_
        rotate_left
        · intro wS hSw
          go_simp
          all_goals first | with_reducible rfl | rw [if_neg (by omega)]
        simp only [Act.put, List.setIfInBounds_toArray, List.set]
        refine wpAnyH_take (i := 9) (oi := _) (v := ?_) (by (simp only [List.getElem?_toArray]; rfl)) (by kernel_rfl) (by kernel_rfl) (by kernel_rfl) (by exact fun _ _ _ h => h) (Or.inl ⟨by rfl, ?_⟩) (by assumption) ?_
        rotate_left
        · intro wS hSw
          go_simp
          all_goals first | with_reducible rfl | rw [if_neg (by omega)]
        simp only [Act.put, List.setIfInBounds_toArray, List.set]
        refine wpAnyH_take (i := 10) (oi := _) (v := ?_) (by (simp only [List.getElem?_toArray]; rfl)) (by kernel_rfl) (by kernel_rfl) (by kernel_rfl) (by exact fun _ _ _ h => h) (Or.inl ⟨by rfl, ?_⟩) (by assumption) ?_
        rotate_left
        · intro wS hSw
          go_simp
          all_goals first | with_reducible rfl | rw [if_neg (by omega)]
        simp only [Act.put, List.setIfInBounds_toArray, List.set]
        refine wpAnyH_take (i := 11) (oi := _) (v := ?_) (by (simp only [List.getElem?_toArray]; rfl)) (by kernel_rfl) (by kernel_rfl) (by kernel_rfl) (by exact fun _ _ _ h => h) (Or.inl ⟨by rfl, ?_⟩) (by assumption) ?_
        rotate_left
        · intro wS hSw
          go_simp
          all_goals first | with_reducible rfl | rw [if_neg (by omega)]
        simp only [Act.put, List.setIfInBounds_toArray, List.set]
        refine wpAnyH_take (i := 12) (oi := _) (v := ?_) (by (simp only [List.getElem?_toArray]; rfl)) (by kernel_rfl) (by kernel_rfl) (by kernel_rfl) (by exact fun _ _ _ h => h) (Or.inl ⟨by rfl, ?_⟩) (by assumption) ?_
        rotate_left
        · intro wS hSw
          go_simp
          all_goals first | with_reducible rfl | rw [if_neg (by omega)]
        simp only [Act.put, List.setIfInBounds_toArray, List.set]
        refine wpAnyH_take (i := 13) (oi := _) (v := ?_) (by (simp only [List.getElem?_toArray]; rfl)) (by kernel_rfl) (by kernel_rfl) (by kernel_rfl) (by exact fun _ _ _ h => h) (Or.inl ⟨by rfl, ?_⟩) (by assumption) ?_
        rotate_left
        · intro wS hSw
          go_simp
          all_goals first | with_reducible rfl | rw [if_neg (by omega)]
        simp only [Act.put, List.setIfInBounds_toArray, List.set]
        refine wpAnyH_take (i := 14) (oi := _) (v := ?_) (by (simp only [List.getElem?_toArray]; rfl)) (by kernel_rfl) (by kernel_rfl) (by kernel_rfl) (by exact fun _ _ _ h => h) (Or.inl ⟨by rfl, ?_⟩) (by assumption) ?_
        rotate_left
        · intro wS hSw
          go_simp
          all_goals first | with_reducible rfl | rw [if_neg (by omega)]
        simp only [Act.put, List.setIfInBounds_toArray, List.set]
        refine wpAnyH_ready (rs := [4, 15]) (by kernel_rfl) (by simp) ?_
        refine AllReadyH.cons (o := _) (by (simp only [List.getElem?_toArray]; rfl)) (fun K hK => ?_) ?_
        · have cA := cell_of_block a2'.out
          go_simp
          refine hK.out _ _ hHeld (fun _ => ?_)
          clear hK K cA
          try simp only [Act.put, List.setIfInBounds_toArray, List.set]
          refine wpAnyH_ready (rs := [15]) (by kernel_rfl) (by simp) ?_
          refine AllReadyH.cons (o := _) (by (simp only [List.getElem?_toArray]; rfl)) (fun K hK => ?_) AllReadyH.nil
          go_simp
          obtain ⟨V, hV, sV, vV, kV⟩ := blocks1 U (.cells #[.int .i64 c, .int .i64 (c - 1), .int .i64 (c - 1), .int .i64 3, .int .i64 0] 92)
          rw [← hV]
          clear hV sV
          have OV := Lib.hid (O2.out.below kV)
          have aV := Lib.hid (carryN kV a2'.out)
          have qV := Lib.hid (carryN kV q2'.out)
          have KV := Lib.hid (K2.out.trans (kV.mono (Nat.le_trans hDw K2.out.size)))
          have hqV := cell_of_block qV.out
          refine hK.out _ _ hqV (fun _ => ?_)
          clear hK K
          try simp only [Act.put, List.setIfInBounds_toArray, List.set]
          refine wpAnyH_ready (rs := [16]) (by kernel_rfl) (by simp) ?_
          refine AllReadyH.cons (o := _) (by (simp only [List.getElem?_toArray]; rfl)) (fun K hK => ?_) AllReadyH.nil
          go_simp
          refine (slInsertEnt_c (n := n0) (i := k) U.heap.size ⟨c, c - 1, c - 1, 3, 0⟩ V OV.out.e HN0.out (by omega) (by omega) vV).mono ?_
          rintro e v1 ⟨b1, d1, rfl, r1, k1⟩
          rw [← HJ.out] at r1
          have O3 := Lib.hid (OV.out.below k1)
          have a3 := Lib.hid (carryN k1 aV.out)
          have q3 := Lib.hid (carryN k1 qV.out)
          have K3 := Lib.hid (KV.out.trans (k1.mono (Nat.le_trans hDw KV.out.size)))
          have hq3 := cell_of_block q3.out
          have HJL := Lib.hid (show (joinE es c).length = n0 + 1 by
            rw [HJ.out]
            simp only [List.length_append, List.length_take, List.length_drop, List.length_cons, List.length_nil, HN0.out]
            omega)
          have R1 := Lib.hid (r1.slG five_len HJL.out)
          clear r1 k1
          refine hK.out _ _ hq3 (fun _ => ?_)
          clear hK K
          try simp only [Act.put, List.setIfInBounds_toArray, List.set]
          refine wpAnyH_ready (rs := [17]) (by kernel_rfl) (by simp) ?_
          refine AllReadyH.cons (o := _) (by (simp only [List.getElem?_toArray]; rfl)) (fun K hK => ?_) AllReadyH.nil
          go_simp
          refine (cloneEnt_c b1 (n0 + 1) d1 (joinE es c) v1 R1.out (by omega)).mono ?_
          intro e v2 hcl
          obtain ⟨b2, rfl, r2, k2⟩ := hcl.row
          have O4 := Lib.hid (O3.out.newE k2 r2 (Nat.le_refl _) (Nat.le_trans hB (by have := lt_of_block q3.out; omega)))
          have a4 := Lib.hid (carryN k2 a3.out)
          have q4 := Lib.hid (carryN k2 q3.out)
          have K4 := Lib.hid (K3.out.trans (k2.mono (Nat.le_trans hDw K3.out.size)))
          have hq4 := cell_of_block q4.out
          clear r2 k2 hcl
          refine hK.out _ _ hq4 (fun _ => ?_)
          clear hK K
          try simp only [Act.put, List.setIfInBounds_toArray, List.set]
          rename_i hHeld2
          refine wpAnyH_take (i := 18) (oi := _) (v := ?_) (by (simp only [List.getElem?_toArray]; rfl)) (by kernel_rfl) (by kernel_rfl) (by kernel_rfl) (by exact fun _ _ _ h => h) (Or.inl ⟨by rfl, ?_⟩) (by assumption) ?_
          rotate_left
          · intro wS hSw
            go_simp
            all_goals first | with_reducible rfl | rw [if_neg (by omega)]
          simp only [Act.put, List.setIfInBounds_toArray, List.set]
          refine wpAnyH_take (i := 19) (oi := _) (v := ?_) (by (simp only [List.getElem?_toArray]; rfl)) (by kernel_rfl) (by kernel_rfl) (by kernel_rfl) (by exact fun _ _ _ h => h) (Or.inl ⟨by rfl, ?_⟩) (by assumption) ?_
          rotate_left
          · intro wS hSw
            go_simp
            all_goals first | with_reducible rfl | rw [if_neg (by omega)]
          simp only [Act.put, List.setIfInBounds_toArray, List.set]
          have cA := cell_of_block a4.out
          have fA := unfrozen_of_block a4.out
          have lA := lt_of_block a4.out
          refine wpAnyH_ready (rs := [20]) (by kernel_rfl) (by simp) ?_
          refine AllReadyH.cons (o := _) (by (simp only [List.getElem?_toArray]; rfl)) (fun K hK => ?_) AllReadyH.nil
          go_simp
          refine hK.out _ _ (fun i => ((World.cell?_setCell_other _ _ _ _ (by first | (simp; done) | (simp; omega))).trans (hq4 i))) (fun _ => ?_)
          clear hK K
          try simp only [Act.put, List.setIfInBounds_toArray, List.set]
          refine wpAnyH_done (by kernel_rfl) ?_ _
          go_wp2_with fail
          go_ret
          refine actOut (n0 := n0 + 1) (a0 := b2) ?_ (O4.out.setType a4.out (by decide) (by decide) 0 (.slice b2 (n0 + 1) (n0 + 1))) (Below.setCell K4.out hDP _) HJL.out HN1.out HN2.out
          have := block_setCell (i := 0) a4.out (.slice b2 (n0 + 1) (n0 + 1))
          simpa only [List.setIfInBounds_toArray, List.set] using this
        refine AllReadyH.cons (o := _) (by (simp only [List.getElem?_toArray]; rfl)) (fun K hK => ?_) AllReadyH.nil
        go_simp
        obtain ⟨V, hV, sV, vV, kV⟩ := blocks1 U (.cells #[.int .i64 c, .int .i64 (c - 1), .int .i64 (c - 1), .int .i64 3, .int .i64 0] 92)
        rw [← hV]
        clear hV sV
        have OV := Lib.hid (O2.out.below kV)
        have aV := Lib.hid (carryN kV a2'.out)
        have qV := Lib.hid (carryN kV q2'.out)
        have KV := Lib.hid (K2.out.trans (kV.mono (Nat.le_trans hDw K2.out.size)))
        have hqV := cell_of_block qV.out
        refine hK.out _ _ hqV (fun _ => ?_)
        clear hK K
        try simp only [Act.put, List.setIfInBounds_toArray, List.set]
        refine wpAnyH_ready (rs := [4]) (by kernel_rfl) (by simp) ?_
        refine AllReadyH.cons (o := _) (by (simp only [List.getElem?_toArray]; rfl)) (fun K hK => ?_) AllReadyH.nil
        have cA := cell_of_block aV.out
        go_simp
        refine hK.out _ _ hqV (fun _ => ?_)
        clear hK K cA
        try simp only [Act.put, List.setIfInBounds_toArray, List.set]
        refine wpAnyH_ready (rs := [16]) (by kernel_rfl) (by simp) ?_
        refine AllReadyH.cons (o := _) (by (simp only [List.getElem?_toArray]; rfl)) (fun K hK => ?_) AllReadyH.nil
        go_simp
        refine (slInsertEnt_c (n := n0) (i := k) U.heap.size ⟨c, c - 1, c - 1, 3, 0⟩ V OV.out.e HN0.out (by omega) (by omega) vV).mono ?_
        rintro e v1 ⟨b1, d1, rfl, r1, k1⟩
        rw [← HJ.out] at r1
        have O3 := Lib.hid (OV.out.below k1)
        have a3 := Lib.hid (carryN k1 aV.out)
        have q3 := Lib.hid (carryN k1 qV.out)
        have K3 := Lib.hid (KV.out.trans (k1.mono (Nat.le_trans hDw KV.out.size)))
        have hq3 := cell_of_block q3.out
        have HJL := Lib.hid (show (joinE es c).length = n0 + 1 by
          rw [HJ.out]
          simp only [List.length_append, List.length_take, List.length_drop, List.length_cons, List.length_nil, HN0.out]
          omega)
        have R1 := Lib.hid (r1.slG five_len HJL.out)
        clear r1 k1
        refine hK.out _ _ hq3 (fun _ => ?_)
        clear hK K
        try simp only [Act.put, List.setIfInBounds_toArray, List.set]
        refine wpAnyH_ready (rs := [17]) (by kernel_rfl) (by simp) ?_
        refine AllReadyH.cons (o := _) (by (simp only [List.getElem?_toArray]; rfl)) (fun K hK => ?_) AllReadyH.nil
        go_simp
        refine (cloneEnt_c b1 (n0 + 1) d1 (joinE es c) v1 R1.out (by omega)).mono ?_
        intro e v2 hcl
        obtain ⟨b2, rfl, r2, k2⟩ := hcl.row
        have O4 := Lib.hid (O3.out.newE k2 r2 (Nat.le_refl _) (Nat.le_trans hB (by have := lt_of_block q3.out; omega)))
        have a4 := Lib.hid (carryN k2 a3.out)
        have q4 := Lib.hid (carryN k2 q3.out)
        have K4 := Lib.hid (K3.out.trans (k2.mono (Nat.le_trans hDw K3.out.size)))
        have hq4 := cell_of_block q4.out
        clear r2 k2 hcl
        refine hK.out _ _ hq4 (fun _ => ?_)
        clear hK K
        try simp only [Act.put, List.setIfInBounds_toArray, List.set]
        rename_i hHeld2
        refine wpAnyH_take (i := 18) (oi := _) (v := ?_) (by (simp only [List.getElem?_toArray]; rfl)) (by kernel_rfl) (by kernel_rfl) (by kernel_rfl) (by exact fun _ _ _ h => h) (Or.inl ⟨by rfl, ?_⟩) (by assumption) ?_
        rotate_left
        · intro wS hSw
          go_simp
          all_goals first | with_reducible rfl | rw [if_neg (by omega)]
        simp only [Act.put, List.setIfInBounds_toArray, List.set]
        refine wpAnyH_take (i := 19) (oi := _) (v := ?_) (by (simp only [List.getElem?_toArray]; rfl)) (by kernel_rfl) (by kernel_rfl) (by kernel_rfl) (by exact fun _ _ _ h => h) (Or.inl ⟨by rfl, ?_⟩) (by assumption) ?_
        rotate_left
        · intro wS hSw
          go_simp
          all_goals first | with_reducible rfl | rw [if_neg (by omega)]
        simp only [Act.put, List.setIfInBounds_toArray, List.set]
        have cA := cell_of_block a4.out
        have fA := unfrozen_of_block a4.out
        have lA := lt_of_block a4.out
        refine wpAnyH_ready (rs := [20]) (by kernel_rfl) (by simp) ?_
        refine AllReadyH.cons (o := _) (by (simp only [List.getElem?_toArray]; rfl)) (fun K hK => ?_) AllReadyH.nil
        go_simp
        refine hK.out _ _ (fun i => ((World.cell?_setCell_other _ _ _ _ (by first | (simp; done) | (simp; omega))).trans (hq4 i))) (fun _ => ?_)
        clear hK K
        try simp only [Act.put, List.setIfInBounds_toArray, List.set]
        refine wpAnyH_done (by kernel_rfl) ?_ _
        go_wp2_with fail
        go_ret
        refine actOut (n0 := n0 + 1) (a0 := b2) ?_ (O4.out.setType a4.out (by decide) (by decide) 0 (.slice b2 (n0 + 1) (n0 + 1))) (Below.setCell K4.out hDP _) HJL.out HN1.out HN2.out
        have := block_setCell (i := 0) a4.out (.slice b2 (n0 + 1) (n0 + 1))
        simpa only [List.setIfInBounds_toArray, List.set] using this
    · have hkk : k = n0 := by omega
      subst hkk
      have hkd : decide (k < k) = false := by simp
      have hk0 : (0 : Int) ≤ (k : Int) := by omega
      have ga := cellRe aX
      have gq := cellRe qX
      go_wp2_with fail
      refine wp_region_quiet_below (by kernel_rfl) (by kernel_rfl) ?_
      repeat (go_big_quiet_step (fail))
      refine wpQuiet_nil ?_
      intro _ hw'
      obtain ⟨⟨dq, osq⟩, hw''⟩ := hw'
      subst hw''
      have hkb := below_regrown wr dq osq
      replace aX := carryN hkb aX
      replace qX := carryN hkb qX
      replace O := Lib.hid (O.out.below hkb)
      replace KD := Lib.hid (KD.out.trans (hkb.mono (Nat.le_trans hDw KD.out.size)))
      clear hkb
      generalize Sort.grow (redrawn wr dq) osq = X2 at *
      clear ga gq
      have HJ := Lib.hid (joinE_at (c := c) (k := k) (by rw [HN0.out]; exact Nat.le_refl _) HL.out (fun h => absurd h (by rw [HN0.out]; exact Nat.lt_irrefl _)))
      have cA := cell_of_block aX
      have cQ := cell_of_block qX
      go_wp2_with fail
      have hcd := cell_of_block (show X2.drew.heap[w.heap.size]? = _ from qX)
      refine wp_region_held_drew (S := fun w' => ∀ i, w'.cell? ⟨w.heap.size, i, none⟩ = (#[.int .i64 c, .int .i64 n, .int .i64 1, .int .i64 x, .int .i64 y] : Array Value)[i]?) (by kernel_rfl) hcd (fun hHeld => ?_)
      have O2 := Lib.hid O.out.drew
      have a2' := Lib.hid (show X2.drew.heap[P]? = _ from aX)
      have q2' := Lib.hid (show X2.drew.heap[w.heap.size]? = _ from qX)
      have K2 := Lib.hid KD.out.drew
      have hlt2 : w.heap.size < X2.drew.heap.size := lt_of_block qX
      clear aX qX O KD cA cQ hcd
      obtain ⟨U, hU⟩ : ∃ U, U = X2.drew := ⟨_, rfl⟩
      rw [← hU] at O2 a2' q2' K2 hlt2 hHeld ⊢
      clear hU
      refine wpAnyH_take (i := 0) (oi := _) (v := ?_) (by (simp only [List.getElem?_toArray]; rfl)) (by kernel_rfl) (by kernel_rfl) (by kernel_rfl) (by exact fun _ _ _ h => h) (Or.inl ⟨by rfl, ?_⟩) (by assumption) ?_
      rotate_left
      · intro wS hSw
        go_simp
        all_goals first | with_reducible rfl | rw [if_neg (by omega)]
      simp only [Act.put, List.setIfInBounds_toArray, List.set]
      refine wpAnyH_take (i := 1) (oi := _) (v := ?_) (by (simp only [List.getElem?_toArray]; rfl)) (by kernel_rfl) (by kernel_rfl) (by kernel_rfl) (by exact fun _ _ _ h => h) (Or.inl ⟨by rfl, ?_⟩) (by assumption) ?_
      rotate_left
      · intro wS hSw
        go_simp
        all_goals first | with_reducible rfl | rw [if_neg (by omega)]
      simp only [Act.put, List.setIfInBounds_toArray, List.set]
      refine wpAnyH_take (i := 2) (oi := _) (v := ?_) (by (simp only [List.getElem?_toArray]; rfl)) (by kernel_rfl) (by kernel_rfl) (by kernel_rfl) (by exact fun _ _ _ h => h) (Or.inl ⟨by rfl, ?_⟩) (by assumption) ?_
      rotate_left
      · intro wS hSw
        go_simp
        all_goals first | with_reducible rfl | rw [if_neg (by omega)]
      simp only [Act.put, List.setIfInBounds_toArray, List.set]
      refine wpAnyH_take (i := 3) (oi := _) (v := ?_) (by (simp only [List.getElem?_toArray]; rfl)) (by kernel_rfl) (by kernel_rfl) (by kernel_rfl) (by exact fun _ _ _ h => h) (Or.inl ⟨by rfl, ?_⟩) (by assumption) ?_
      rotate_left
      · intro wS hSw
        go_simp
        all_goals first | with_reducible rfl | rw [if_neg (by omega)]
      simp only [Act.put, List.setIfInBounds_toArray, List.set]
      refine wpAnyH_take (i := 5) (oi := _) (v := ?_) (by (simp only [List.getElem?_toArray]; rfl)) (by kernel_rfl) (by kernel_rfl) (by kernel_rfl) (by exact fun _ _ _ h => h) (Or.inl ⟨by rfl, ?_⟩) (by assumption) ?_
      rotate_left
      · intro wS hSw
        go_simp
        all_goals first | with_reducible rfl | rw [if_neg (by omega)]
      simp only [Act.put, List.setIfInBounds_toArray, List.set]
      refine wpAnyH_take (i := 6) (oi := _) (v := ?_) (by (simp only [List.getElem?_toArray]; rfl)) (by kernel_rfl) (by kernel_rfl) (by kernel_rfl) (by exact fun _ _ _ h => h) (Or.inl ⟨by rfl, ?_⟩) (by assumption) ?_
      rotate_left
      · intro wS hSw
        go_simp
        all_goals first | with_reducible rfl | rw [if_neg (by omega)]
      simp only [Act.put, List.setIfInBounds_toArray, List.set]
      refine wpAnyH_take (i := 7) (oi := _) (v := ?_) (by (simp only [List.getElem?_toArray]; rfl)) (by kernel_rfl) (by kernel_rfl) (by kernel_rfl) (by exact fun _ _ _ h => h) (Or.inl ⟨by rfl, ?_⟩) (by assumption) ?_
      rotate_left
      · intro wS hSw
        go_simp
        all_goals first | with_reducible rfl | rw [if_neg (by omega)]
      simp only [Act.put, List.setIfInBounds_toArray, List.set]
      refine wpAnyH_take (i := 8) (oi := _) (v := ?_) (by (simp only [List.getElem?_toArray]; rfl)) (by kernel_rfl) (by kernel_rfl) (by kernel_rfl) (by exact fun _ _ _ h => h) (Or.inl ⟨by rfl, ?_⟩) (by assumption) ?_
      rotate_left
      · intro wS hSw
        go_simp
        all_goals first | with_reducible rfl | rw [if_neg (by omega)]
      simp only [Act.put, List.setIfInBounds_toArray, List.set]
      refine wpAnyH_take (i := 9) (oi := _) (v := ?_) (by (simp only [List.getElem?_toArray]; rfl)) (by kernel_rfl) (by kernel_rfl) (by kernel_rfl) (by exact fun _ _ _ h => h) (Or.inl ⟨by rfl, ?_⟩) (by assumption) ?_
      rotate_left
      · intro wS hSw
        go_simp
        all_goals first | with_reducible rfl | rw [if_neg (by omega)]
      simp only [Act.put, List.setIfInBounds_toArray, List.set]
      refine wpAnyH_take (i := 10) (oi := _) (v := ?_) (by (simp only [List.getElem?_toArray]; rfl)) (by kernel_rfl) (by kernel_rfl) (by kernel_rfl) (by exact fun _ _ _ h => h) (Or.inl ⟨by rfl, ?_⟩) (by assumption) ?_
      rotate_left
      · intro wS hSw
        go_simp
        all_goals first | with_reducible rfl | rw [if_neg (by omega)]
      simp only [Act.put, List.setIfInBounds_toArray, List.set]
      refine wpAnyH_take (i := 11) (oi := _) (v := ?_) (by (simp only [List.getElem?_toArray]; rfl)) (by kernel_rfl) (by kernel_rfl) (by kernel_rfl) (by exact fun _ _ _ h => h) (Or.inl ⟨by rfl, ?_⟩) (by assumption) ?_
      rotate_left
      · intro wS hSw
        go_simp
        all_goals first | with_reducible rfl | rw [if_neg (by omega)]
      simp only [Act.put, List.setIfInBounds_toArray, List.set]
      refine wpAnyH_take (i := 12) (oi := _) (v := ?_) (by (simp only [List.getElem?_toArray]; rfl)) (by kernel_rfl) (by kernel_rfl) (by kernel_rfl) (by exact fun _ _ _ h => h) (Or.inl ⟨by rfl, ?_⟩) (by assumption) ?_
      rotate_left
      · intro wS hSw
        go_simp
        all_goals first | with_reducible rfl | rw [if_neg (by omega)]
      simp only [Act.put, List.setIfInBounds_toArray, List.set]
      refine wpAnyH_take (i := 13) (oi := _) (v := ?_) (by (simp only [List.getElem?_toArray]; rfl)) (by kernel_rfl) (by kernel_rfl) (by kernel_rfl) (by exact fun _ _ _ h => h) (Or.inl ⟨by rfl, ?_⟩) (by assumption) ?_
      rotate_left
      · intro wS hSw
        go_simp
        all_goals first | with_reducible rfl | rw [if_neg (by omega)]
      simp only [Act.put, List.setIfInBounds_toArray, List.set]
      refine wpAnyH_take (i := 14) (oi := _) (v := ?_) (by (simp only [List.getElem?_toArray]; rfl)) (by kernel_rfl) (by kernel_rfl) (by kernel_rfl) (by exact fun _ _ _ h => h) (Or.inl ⟨by rfl, ?_⟩) (by assumption) ?_
      rotate_left
      · intro wS hSw
        go_simp
        all_goals first | with_reducible rfl | rw [if_neg (by omega)]
      simp only [Act.put, List.setIfInBounds_toArray, List.set]
      refine wpAnyH_ready (rs := [4, 15]) (by kernel_rfl) (by simp) ?_
      refine AllReadyH.cons (o := _) (by (simp only [List.getElem?_toArray]; rfl)) (fun K hK => ?_) ?_
      · have cA := cell_of_block a2'.out
        go_simp
        refine hK.out _ _ hHeld (fun _ => ?_)
        clear hK K cA
        try simp only [Act.put, List.setIfInBounds_toArray, List.set]
        refine wpAnyH_ready (rs := [15]) (by kernel_rfl) (by simp) ?_
        refine AllReadyH.cons (o := _) (by (simp only [List.getElem?_toArray]; rfl)) (fun K hK => ?_) AllReadyH.nil
        go_simp
        obtain ⟨V, hV, sV, vV, kV⟩ := blocks1 U (.cells #[.int .i64 c, .int .i64 (c - 1), .int .i64 (c - 1), .int .i64 3, .int .i64 0] 92)
        rw [← hV]
        clear hV sV
        have OV := Lib.hid (O2.out.below kV)
        have aV := Lib.hid (carryN kV a2'.out)
        have qV := Lib.hid (carryN kV q2'.out)
        have KV := Lib.hid (K2.out.trans (kV.mono (Nat.le_trans hDw K2.out.size)))
        have hqV := cell_of_block qV.out
        refine hK.out _ _ hqV (fun _ => ?_)
        clear hK K
        try simp only [Act.put, List.setIfInBounds_toArray, List.set]
        refine wpAnyH_ready (rs := [16]) (by kernel_rfl) (by simp) ?_
        refine AllReadyH.cons (o := _) (by (simp only [List.getElem?_toArray]; rfl)) (fun K hK => ?_) AllReadyH.nil
        go_simp
        refine (slInsertEnt_c (n := k) (i := k) U.heap.size ⟨c, c - 1, c - 1, 3, 0⟩ V OV.out.e HN0.out (by omega) (by omega) vV).mono ?_
        rintro e v1 ⟨b1, d1, rfl, r1, k1⟩
        rw [← HJ.out] at r1
        have O3 := Lib.hid (OV.out.below k1)
        have a3 := Lib.hid (carryN k1 aV.out)
        have q3 := Lib.hid (carryN k1 qV.out)
        have K3 := Lib.hid (KV.out.trans (k1.mono (Nat.le_trans hDw KV.out.size)))
        have hq3 := cell_of_block q3.out
        have HJL := Lib.hid (show (joinE es c).length = k + 1 by
          rw [HJ.out]
          simp only [List.length_append, List.length_take, List.length_drop, List.length_cons, List.length_nil, HN0.out]
          omega)
        have R1 := Lib.hid (r1.slG five_len HJL.out)
        clear r1 k1
        refine hK.out _ _ hq3 (fun _ => ?_)
        clear hK K
        try simp only [Act.put, List.setIfInBounds_toArray, List.set]
        refine wpAnyH_ready (rs := [17]) (by kernel_rfl) (by simp) ?_
        refine AllReadyH.cons (o := _) (by (simp only [List.getElem?_toArray]; rfl)) (fun K hK => ?_) AllReadyH.nil
        go_simp
        refine (cloneEnt_c b1 (k + 1) d1 (joinE es c) v1 R1.out (by omega)).mono ?_
        intro e v2 hcl
        obtain ⟨b2, rfl, r2, k2⟩ := hcl.row
        have O4 := Lib.hid (O3.out.newE k2 r2 (Nat.le_refl _) (Nat.le_trans hB (by have := lt_of_block q3.out; omega)))
        have a4 := Lib.hid (carryN k2 a3.out)
        have q4 := Lib.hid (carryN k2 q3.out)
        have K4 := Lib.hid (K3.out.trans (k2.mono (Nat.le_trans hDw K3.out.size)))
        have hq4 := cell_of_block q4.out
        clear r2 k2 hcl
        refine hK.out _ _ hq4 (fun _ => ?_)
        clear hK K
        try simp only [Act.put, List.setIfInBounds_toArray, List.set]
        rename_i hHeld2
        refine wpAnyH_take (i := 18) (oi := _) (v := ?_) (by (simp only [List.getElem?_toArray]; rfl)) (by kernel_rfl) (by kernel_rfl) (by kernel_rfl) (by exact fun _ _ _ h => h) (Or.inl ⟨by rfl, ?_⟩) (by assumption) ?_
        rotate_left
        · intro wS hSw
          go_simp
          all_goals first | with_reducible rfl | rw [if_neg (by omega)]
        simp only [Act.put, List.setIfInBounds_toArray, List.set]
        refine wpAnyH_take (i := 19) (oi := _) (v := ?_) (by (simp only [List.getElem?_toArray]; rfl)) (by kernel_rfl) (by kernel_rfl) (by kernel_rfl) (by exact fun _ _ _ h => h) (Or.inl ⟨by rfl, ?_⟩) (by assumption) ?_
        rotate_left
        · intro wS hSw
          go_simp
          all_goals first | with_reducible rfl | rw [if_neg (by omega)]
        simp only [Act.put, List.setIfInBounds_toArray, List.set]
        have cA := cell_of_block a4.out
        have fA := unfrozen_of_block a4.out
        have lA := lt_of_block a4.out
        refine wpAnyH_ready (rs := [20]) (by kernel_rfl) (by simp) ?_
        refine AllReadyH.cons (o := _) (by (simp only [List.getElem?_toArray]; rfl)) (fun K hK => ?_) AllReadyH.nil
        go_simp
        refine hK.out _ _ (fun i => ((World.cell?_setCell_other _ _ _ _ (by first | (simp; done) | (simp; omega))).trans (hq4 i))) (fun _ => ?_)
        clear hK K
        try simp only [Act.put, List.setIfInBounds_toArray, List.set]
        refine wpAnyH_done (by kernel_rfl) ?_ _
        go_wp2_with fail
        go_ret
        refine actOut (n0 := k + 1) (a0 := b2) ?_ (O4.out.setType a4.out (by decide) (by decide) 0 (.slice b2 (k + 1) (k + 1))) (Below.setCell K4.out hDP _) HJL.out HN1.out HN2.out
        have := block_setCell (i := 0) a4.out (.slice b2 (k + 1) (k + 1))
        simpa only [List.setIfInBounds_toArray, List.set] using this
      refine AllReadyH.cons (o := _) (by (simp only [List.getElem?_toArray]; rfl)) (fun K hK => ?_) AllReadyH.nil
      go_simp
      obtain ⟨V, hV, sV, vV, kV⟩ := blocks1 U (.cells #[.int .i64 c, .int .i64 (c - 1), .int .i64 (c - 1), .int .i64 3, .int .i64 0] 92)
      rw [← hV]
      clear hV sV
      have OV := Lib.hid (O2.out.below kV)
      have aV := Lib.hid (carryN kV a2'.out)
      have qV := Lib.hid (carryN kV q2'.out)
      have KV := Lib.hid (K2.out.trans (kV.mono (Nat.le_trans hDw K2.out.size)))
      have hqV := cell_of_block qV.out
      refine hK.out _ _ hqV (fun _ => ?_)
      clear hK K
      try simp only [Act.put, List.setIfInBounds_toArray, List.set]
      refine wpAnyH_ready (rs := [4]) (by kernel_rfl) (by simp) ?_
      refine AllReadyH.cons (o := _) (by (simp only [List.getElem?_toArray]; rfl)) (fun K hK => ?_) AllReadyH.nil
      have cA := cell_of_block aV.out
      go_simp
      refine hK.out _ _ hqV (fun _ => ?_)
      clear hK K cA
      try simp only [Act.put, List.setIfInBounds_toArray, List.set]
      refine wpAnyH_ready (rs := [16]) (by kernel_rfl) (by simp) ?_
      refine AllReadyH.cons (o := _) (by (simp only [List.getElem?_toArray]; rfl)) (fun K hK => ?_) AllReadyH.nil
      go_simp
      refine (slInsertEnt_c (n := k) (i := k) U.heap.size ⟨c, c - 1, c - 1, 3, 0⟩ V OV.out.e HN0.out (by omega) (by omega) vV).mono ?_
      rintro e v1 ⟨b1, d1, rfl, r1, k1⟩
      rw [← HJ.out] at r1
      have O3 := Lib.hid (OV.out.below k1)
      have a3 := Lib.hid (carryN k1 aV.out)
      have q3 := Lib.hid (carryN k1 qV.out)
      have K3 := Lib.hid (KV.out.trans (k1.mono (Nat.le_trans hDw KV.out.size)))
      have hq3 := cell_of_block q3.out
      have HJL := Lib.hid (show (joinE es c).length = k + 1 by
        rw [HJ.out]
        simp only [List.length_append, List.length_take, List.length_drop, List.length_cons, List.length_nil, HN0.out]
        omega)
      have R1 := Lib.hid (r1.slG five_len HJL.out)
      clear r1 k1
      refine hK.out _ _ hq3 (fun _ => ?_)
      clear hK K
      try simp only [Act.put, List.setIfInBounds_toArray, List.set]
      refine wpAnyH_ready (rs := [17]) (by kernel_rfl) (by simp) ?_
      refine AllReadyH.cons (o := _) (by (simp only [List.getElem?_toArray]; rfl)) (fun K hK => ?_) AllReadyH.nil
      go_simp
      refine (cloneEnt_c b1 (k + 1) d1 (joinE es c) v1 R1.out (by omega)).mono ?_
      intro e v2 hcl
      obtain ⟨b2, rfl, r2, k2⟩ := hcl.row
      have O4 := Lib.hid (O3.out.newE k2 r2 (Nat.le_refl _) (Nat.le_trans hB (by have := lt_of_block q3.out; omega)))
      have a4 := Lib.hid (carryN k2 a3.out)
      have q4 := Lib.hid (carryN k2 q3.out)
      have K4 := Lib.hid (K3.out.trans (k2.mono (Nat.le_trans hDw K3.out.size)))
      have hq4 := cell_of_block q4.out
      clear r2 k2 hcl
      refine hK.out _ _ hq4 (fun _ => ?_)
      clear hK K
      try simp only [Act.put, List.setIfInBounds_toArray, List.set]
      rename_i hHeld2
      refine wpAnyH_take (i := 18) (oi := _) (v := ?_) (by (simp only [List.getElem?_toArray]; rfl)) (by kernel_rfl) (by kernel_rfl) (by kernel_rfl) (by exact fun _ _ _ h => h) (Or.inl ⟨by rfl, ?_⟩) (by assumption) ?_
      rotate_left
      · intro wS hSw
        go_simp
        all_goals first | with_reducible rfl | rw [if_neg (by omega)]
      simp only [Act.put, List.setIfInBounds_toArray, List.set]
      refine wpAnyH_take (i := 19) (oi := _) (v := ?_) (by (simp only [List.getElem?_toArray]; rfl)) (by kernel_rfl) (by kernel_rfl) (by kernel_rfl) (by exact fun _ _ _ h => h) (Or.inl ⟨by rfl, ?_⟩) (by assumption) ?_
      rotate_left
      · intro wS hSw
        go_simp
        all_goals first | with_reducible rfl | rw [if_neg (by omega)]
      simp only [Act.put, List.setIfInBounds_toArray, List.set]
      have cA := cell_of_block a4.out
      have fA := unfrozen_of_block a4.out
      have lA := lt_of_block a4.out
      refine wpAnyH_ready (rs := [20]) (by kernel_rfl) (by simp) ?_
      refine AllReadyH.cons (o := _) (by (simp only [List.getElem?_toArray]; rfl)) (fun K hK => ?_) AllReadyH.nil
      go_simp
      refine hK.out _ _ (fun i => ((World.cell?_setCell_other _ _ _ _ (by first | (simp; done) | (simp; omega))).trans (hq4 i))) (fun _ => ?_)
      clear hK K
      try simp only [Act.put, List.setIfInBounds_toArray, List.set]
      refine wpAnyH_done (by kernel_rfl) ?_ _
      go_wp2_with fail
      go_ret
      refine actOut (n0 := k + 1) (a0 := b2) ?_ (O4.out.setType a4.out (by decide) (by decide) 0 (.slice b2 (k + 1) (k + 1))) (Below.setCell K4.out hDP _) HJL.out HN1.out HN2.out
      have := block_setCell (i := 0) a4.out (.slice b2 (k + 1) (k + 1))
      simpa only [List.setIfInBounds_toArray, List.set] using this
end Go.Proofs.Ytofedboeggdkaaa
