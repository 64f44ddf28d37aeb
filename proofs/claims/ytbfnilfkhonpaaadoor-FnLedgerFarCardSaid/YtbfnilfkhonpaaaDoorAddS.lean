/- Contract of the reference's LedgerAdd; condition: small sizes. -/
import Derived.Test.YtbfnilfkhonpaaaDoorAdd
namespace Go.Proofs.YtbfnilfkhonpaaaDoor
open Go.RowKit Go.Joins

def AddGot (zs : List En) (b : Bool) (w : World) (e : Ending) (w' : World) : Prop :=
  ∃ (a' : Option Addr) (cap' : Nat), e = .returned (.tuple #[.slice a' zs.length cap', .bool b]) ∧ Row w' w.heap.size 44 a' cap' 6 En.cs zs ∧ Below w.heap.size w w'

set_option maxRecDepth 100000 in
set_option maxHeartbeats 8000000 in
theorem sLedgerAdd_c (a : Option Addr) (n cap : Nat) (xs : List En) (r : Rq) (w : World) (h : IsSl w (.slice a n cap) 6 En.cs xs) (hn : n ≤ 1048576) :
    Calls Tryd.prog 36 #[.slice a n cap, .agg #[.int .i64 r.c, .int .i64 r.n, .int .i64 r.o, .int .i64 r.x, .int .i64 r.y]] w (AddGot (addL xs r).1 (addL xs r).2 w) := by
  obtain ⟨hzl, hlc, hm, hr⟩ := h.bounds
  have HH := Lib.hid h
  have HZ := Lib.hid hzl
  have HRR := Lib.hid hr
  have h60 := far_le60 xs
  have hfl := far_le xs
  clear hr h
  unfold maxLen at hm
  by_cases hf : far xs = n
  · have hn60 : n ≤ 60 := by omega
    have HFA := Lib.hid hf
    clear h60 hfl hzl
    have CF := Lib.hid (fun V h => by have := l7Far_c a n cap xs V h (by omega); rw [hf] at this; exact this)
    clear hf
    have HLS := Lib.hid (lastSum_far (HFA.out.trans HZ.out.symm))
    by_cases h6 : n = 60
    · have HP := Lib.hid (addL_no (xs := xs) (r := r) (.inr (.inl (by rw [HZ.out]; omega))))
      have h6' : (60 : Int) ≤ (n : Int) := by omega
      clear h6
      cases hok : okB r.c r.n r.o r.x r.y with
      | true =>
        go_enter Tryd.func36, Tryd.ntmps36
        go_wp2_with (at_builtin; refine wpList_append_new (w.heap.size + 1) rfl _ _ rfl eltEntry rfl rfl (HRR.out.below (by repeat' (first | with_reducible exact Below.refl _ _ | with_reducible assumption | with_reducible refine Below.alloc ?_ ?_ _ | with_reducible refine Below.drew ?_ | with_reducible refine Below.setCell ?_ ?_ _ | omega | (simp; omega) | (simp; done)))) HZ.out (by simp only [maxLen]; omega) (by omega) (by simp <;> omega) ?_)
        intro aO cO w0 q0
        have b0 := q0.below.block w.heap.size (by simp <;> omega)
        have aW := b0.trans (show _ = some (.cells #[.int .i64 r.c, .int .i64 r.n, .int .i64 r.o, .int .i64 r.x, .int .i64 r.y] 42 (0, 0)) from by rw [Below.heap_alloc _ _ _ (by simp)]; exact heap_alloc_new w _)
        have K0 : Below w.heap.size w w0 := below_next (by repeat' (first | with_reducible exact Below.refl _ _ | with_reducible assumption | with_reducible refine Below.alloc ?_ ?_ _ | with_reducible refine Below.drew ?_ | with_reducible refine Below.setCell ?_ ?_ _ | omega | (simp; omega) | (simp; done))) q0.below
        have RO := Lib.hid q0.row
        have lW := lt_of_block aW
        clear b0 q0
        go_wp2_with fail
        refine (CF.out w0 (HH.out.below K0)).mono ?_
        rintro e w1 ⟨rfl, k1⟩
        have K1 := below_next K0 k1
        have a1 := carryB k1 lW aW
        have c1 := cell_of_block a1
        replace RO := Lib.hid (RO.out.below k1)
        clear aW k1 K0 lW
        go_wp2_with fail
        refine (l1Ok_c r.c r.n r.o r.x r.y w1).mono ?_
        rintro e w2 ⟨rfl, k2⟩
        have K2 := below_next K1 k2
        have a2 := carryB k2 (lt_of_block a1) a1
        have c2 := cell_of_block a2
        replace RO := Lib.hid (RO.out.below k2)
        clear k2 K1 c1 a1
        rw [hok]
        go_wp2_with fail
        refine bodyPost_ret (v := .tuple #[.slice aO n cO, .bool false]) (by simp [results, Tryd.results36, go_sem]) rfl ?_
        rw [HP.out]
        have hro := RO.out.low (B' := w.heap.size) (by omega)
        unfold AddGot
        simp only
        rw [HZ.out]
        exact ⟨aO, cO, rfl, hro, K2⟩
      | false =>
        cases hno : noneB r.c r.n r.o r.x r.y with
        | true =>
          go_enter Tryd.func36, Tryd.ntmps36
          go_wp2_with (at_builtin; refine wpList_append_new (w.heap.size + 1) rfl _ _ rfl eltEntry rfl rfl (HRR.out.below (by repeat' (first | with_reducible exact Below.refl _ _ | with_reducible assumption | with_reducible refine Below.alloc ?_ ?_ _ | with_reducible refine Below.drew ?_ | with_reducible refine Below.setCell ?_ ?_ _ | omega | (simp; omega) | (simp; done)))) HZ.out (by simp only [maxLen]; omega) (by omega) (by simp <;> omega) ?_)
          intro aO cO w0 q0
          have b0 := q0.below.block w.heap.size (by simp <;> omega)
          have aW := b0.trans (show _ = some (.cells #[.int .i64 r.c, .int .i64 r.n, .int .i64 r.o, .int .i64 r.x, .int .i64 r.y] 42 (0, 0)) from by rw [Below.heap_alloc _ _ _ (by simp)]; exact heap_alloc_new w _)
          have K0 : Below w.heap.size w w0 := below_next (by repeat' (first | with_reducible exact Below.refl _ _ | with_reducible assumption | with_reducible refine Below.alloc ?_ ?_ _ | with_reducible refine Below.drew ?_ | with_reducible refine Below.setCell ?_ ?_ _ | omega | (simp; omega) | (simp; done))) q0.below
          have RO := Lib.hid q0.row
          have lW := lt_of_block aW
          clear b0 q0
          go_wp2_with fail
          refine (CF.out w0 (HH.out.below K0)).mono ?_
          rintro e w1 ⟨rfl, k1⟩
          have K1 := below_next K0 k1
          have a1 := carryB k1 lW aW
          have c1 := cell_of_block a1
          replace RO := Lib.hid (RO.out.below k1)
          clear aW k1 K0 lW
          go_wp2_with fail
          refine (l1Ok_c r.c r.n r.o r.x r.y w1).mono ?_
          rintro e w2 ⟨rfl, k2⟩
          have K2 := below_next K1 k2
          have a2 := carryB k2 (lt_of_block a1) a1
          have c2 := cell_of_block a2
          replace RO := Lib.hid (RO.out.below k2)
          clear k2 K1 c1 a1
          rw [hok]
          go_wp2_with fail
          refine (l1None_c r.c r.n r.o r.x r.y w2).mono ?_
          rintro e w3 ⟨rfl, k3⟩
          have K3 := below_next K2 k3
          have a3 := carryB k3 (lt_of_block a2) a2
          have c3 := cell_of_block a3
          replace RO := Lib.hid (RO.out.below k3)
          clear k3 K2 c2 a2
          rw [hno]
          go_wp2_with fail
          refine bodyPost_ret (v := .tuple #[.slice aO n cO, .bool false]) (by simp [results, Tryd.results36, go_sem]) rfl ?_
          rw [HP.out]
          have hro := RO.out.low (B' := w.heap.size) (by omega)
          unfold AddGot
          simp only
          rw [HZ.out]
          exact ⟨aO, cO, rfl, hro, K3⟩
        | false =>
          go_enter Tryd.func36, Tryd.ntmps36
          go_wp2_with (at_builtin; refine wpList_append_new (w.heap.size + 1) rfl _ _ rfl eltEntry rfl rfl (HRR.out.below (by repeat' (first | with_reducible exact Below.refl _ _ | with_reducible assumption | with_reducible refine Below.alloc ?_ ?_ _ | with_reducible refine Below.drew ?_ | with_reducible refine Below.setCell ?_ ?_ _ | omega | (simp; omega) | (simp; done)))) HZ.out (by simp only [maxLen]; omega) (by omega) (by simp <;> omega) ?_)
          intro aO cO w0 q0
          have b0 := q0.below.block w.heap.size (by simp <;> omega)
          have aW := b0.trans (show _ = some (.cells #[.int .i64 r.c, .int .i64 r.n, .int .i64 r.o, .int .i64 r.x, .int .i64 r.y] 42 (0, 0)) from by rw [Below.heap_alloc _ _ _ (by simp)]; exact heap_alloc_new w _)
          have K0 : Below w.heap.size w w0 := below_next (by repeat' (first | with_reducible exact Below.refl _ _ | with_reducible assumption | with_reducible refine Below.alloc ?_ ?_ _ | with_reducible refine Below.drew ?_ | with_reducible refine Below.setCell ?_ ?_ _ | omega | (simp; omega) | (simp; done))) q0.below
          have RO := Lib.hid q0.row
          have lW := lt_of_block aW
          clear b0 q0
          go_wp2_with fail
          refine (CF.out w0 (HH.out.below K0)).mono ?_
          rintro e w1 ⟨rfl, k1⟩
          have K1 := below_next K0 k1
          have a1 := carryB k1 lW aW
          have c1 := cell_of_block a1
          replace RO := Lib.hid (RO.out.below k1)
          clear aW k1 K0 lW
          go_wp2_with fail
          refine (l1Ok_c r.c r.n r.o r.x r.y w1).mono ?_
          rintro e w2 ⟨rfl, k2⟩
          have K2 := below_next K1 k2
          have a2 := carryB k2 (lt_of_block a1) a1
          have c2 := cell_of_block a2
          replace RO := Lib.hid (RO.out.below k2)
          clear k2 K1 c1 a1
          rw [hok]
          go_wp2_with fail
          refine (l1None_c r.c r.n r.o r.x r.y w2).mono ?_
          rintro e w3 ⟨rfl, k3⟩
          have K3 := below_next K2 k3
          have a3 := carryB k3 (lt_of_block a2) a2
          have c3 := cell_of_block a3
          replace RO := Lib.hid (RO.out.below k3)
          clear k3 K2 c2 a2
          rw [hno]
          go_wp2_with fail
          refine bodyPost_ret (v := .tuple #[.slice aO n cO, .bool false]) (by simp [results, Tryd.results36, go_sem]) rfl ?_
          rw [HP.out]
          have hro := RO.out.low (B' := w.heap.size) (by omega)
          unfold AddGot
          simp only
          rw [HZ.out]
          exact ⟨aO, cO, rfl, hro, K3⟩
    · have hlt : n < 60 := by omega
      have h6d : (n : Int) < 60 := by omega
      clear h6
      have HPG := Lib.hid (fun (hg : good r = true) => show addL xs r = (xs ++ [⟨r, sumL (lastSum xs) ((n : Int) + 1) r⟩], true) by
        unfold addL
        rw [if_pos ⟨HFA.out.trans HZ.out.symm, by rw [HZ.out]; exact hlt, hg⟩, HZ.out])
      have HGE := Lib.hid (show good r = (noneB r.c r.n r.o r.x r.y || okB r.c r.n r.o r.x r.y) from rfl)
      cases hok : okB r.c r.n r.o r.x r.y with
      | true =>
        have HP := Lib.hid (HPG.out (by rw [HGE.out, hok]; simp))
        go_enter Tryd.func36, Tryd.ntmps36
        go_wp2_with (at_builtin; refine wpList_append_new (w.heap.size + 1) rfl _ _ rfl eltEntry rfl rfl (HRR.out.below (by repeat' (first | with_reducible exact Below.refl _ _ | with_reducible assumption | with_reducible refine Below.alloc ?_ ?_ _ | with_reducible refine Below.drew ?_ | with_reducible refine Below.setCell ?_ ?_ _ | omega | (simp; omega) | (simp; done)))) HZ.out (by simp only [maxLen]; omega) (by omega) (by simp <;> omega) ?_)
        intro aO cO w0 q0
        have b0 := q0.below.block w.heap.size (by simp <;> omega)
        have aW := b0.trans (show _ = some (.cells #[.int .i64 r.c, .int .i64 r.n, .int .i64 r.o, .int .i64 r.x, .int .i64 r.y] 42 (0, 0)) from by rw [Below.heap_alloc _ _ _ (by simp)]; exact heap_alloc_new w _)
        have K0 : Below w.heap.size w w0 := below_next (by repeat' (first | with_reducible exact Below.refl _ _ | with_reducible assumption | with_reducible refine Below.alloc ?_ ?_ _ | with_reducible refine Below.drew ?_ | with_reducible refine Below.setCell ?_ ?_ _ | omega | (simp; omega) | (simp; done))) q0.below
        have RO := Lib.hid q0.row
        have lW := lt_of_block aW
        clear b0 q0
        go_wp2_with fail
        refine (CF.out w0 (HH.out.below K0)).mono ?_
        rintro e w1 ⟨rfl, k1⟩
        have K1 := below_next K0 k1
        have a1 := carryB k1 lW aW
        have c1 := cell_of_block a1
        replace RO := Lib.hid (RO.out.below k1)
        clear aW k1 K0 lW
        go_wp2_with fail
        refine (l1Ok_c r.c r.n r.o r.x r.y w1).mono ?_
        rintro e w2 ⟨rfl, k2⟩
        have K2 := below_next K1 k2
        have a2 := carryB k2 (lt_of_block a1) a1
        have c2 := cell_of_block a2
        replace RO := Lib.hid (RO.out.below k2)
        clear k2 K1 c1 a1
        rw [hok]
        by_cases h0 : (n : Int) ≤ 0
        · have hsum : lastSum xs = 0 := by unfold lastSum prevAt; rw [HZ.out, if_pos (by omega)]
          have HS0 := Lib.hid hsum
          clear hsum
          go_wp2_with fail
          have lW := lt_of_block a2
          have KD := below_next K2 (Below.drew (Below.refl w2.heap.size w2))
          have A2 := Lib.hid (show w2.drew.heap[w.heap.size]? = _ from a2)
          have hcd := cell_of_block (show w2.drew.heap[w.heap.size]? = _ from a2)
          have lD : w.heap.size < w2.drew.heap.size := lW
          have RD := Lib.hid (show Row w2.drew (w.heap.size + 1) 44 aO cO 6 En.cs xs from RO.out.drew)
          have hlsb := HLS.out
          rw [HS0.out] at hlsb
          have hwn : IntKind.i64.wrap (((n : Nat) : Int) + 1) = ((n : Nat) : Int) + 1 := IntWalk.i64_in _ ⟨by omega, by omega⟩
          refine wp_region_held_drew (S := fun w' => ∀ i, w'.cell? ⟨w.heap.size, i, none⟩ = (#[.int .i64 r.c, .int .i64 r.n, .int .i64 r.o, .int .i64 r.x, .int .i64 r.y] : Array Value)[i]?) (by kernel_rfl) hcd (fun hHeld => ?_)
          clear hcd a2 c2
          refine wpAnyH_take (i := 0) (oi := _) (v := ?_) (by (simp only [List.getElem?_toArray]; rfl)) (by kernel_rfl) (by kernel_rfl) (by kernel_rfl) (by exact fun _ _ _ h => h) (Or.inl ⟨by rfl, ?_⟩) (by assumption) ?_
          rotate_left
          · intro wS hSw
            go_simp
            all_goals first | with_reducible rfl | rw [if_neg (by omega)]
          simp only [Act.put, List.setIfInBounds_toArray, List.set]
          refine wpAnyH_take (i := 1) (oi := _) (v := ?_) (by (simp only [List.getElem?_toArray]; rfl)) (by kernel_rfl) (by kernel_rfl) (by kernel_rfl) (by exact fun _ _ _ h => h) (Or.inl ⟨by rfl, ?_⟩) (by assumption) ?_
          rotate_left
          · intro wS hSw
            go_simp
            all_goals first | with_reducible rfl | rw [if_neg (by omega)]
          simp only [Act.put, List.setIfInBounds_toArray, List.set]
          refine wpAnyH_take (i := 2) (oi := _) (v := ?_) (by (simp only [List.getElem?_toArray]; rfl)) (by kernel_rfl) (by kernel_rfl) (by kernel_rfl) (by exact fun _ _ _ h => h) (Or.inl ⟨by rfl, ?_⟩) (by assumption) ?_
          rotate_left
          · intro wS hSw
            go_simp
            all_goals first | with_reducible rfl | rw [if_neg (by omega)]
          simp only [Act.put, List.setIfInBounds_toArray, List.set]
          refine wpAnyH_take (i := 3) (oi := _) (v := ?_) (by (simp only [List.getElem?_toArray]; rfl)) (by kernel_rfl) (by kernel_rfl) (by kernel_rfl) (by exact fun _ _ _ h => h) (Or.inl ⟨by rfl, ?_⟩) (by assumption) ?_
          rotate_left
          · intro wS hSw
            go_simp
            all_goals first | with_reducible rfl | rw [if_neg (by omega)]
          simp only [Act.put, List.setIfInBounds_toArray, List.set]
          refine wpAnyH_take (i := 4) (oi := _) (v := ?_) (by (simp only [List.getElem?_toArray]; rfl)) (by kernel_rfl) (by kernel_rfl) (by kernel_rfl) (by exact fun _ _ _ h => h) (Or.inl ⟨by rfl, ?_⟩) (by assumption) ?_
          rotate_left
          · intro wS hSw
            go_simp
            all_goals first | with_reducible rfl | rw [if_neg (by omega)]
          simp only [Act.put, List.setIfInBounds_toArray, List.set]
          refine wpAnyH_take (i := 5) (oi := _) (v := ?_) (by (simp only [List.getElem?_toArray]; rfl)) (by kernel_rfl) (by kernel_rfl) (by kernel_rfl) (by exact fun _ _ _ h => h) (Or.inl ⟨by rfl, ?_⟩) (by assumption) ?_
          rotate_left
          · intro wS hSw
            go_simp
            all_goals first | with_reducible rfl | rw [if_neg (by omega)]
          simp only [Act.put, List.setIfInBounds_toArray, List.set]
          refine wpAnyH_take (i := 6) (oi := _) (v := ?_) (by (simp only [List.getElem?_toArray]; rfl)) (by kernel_rfl) (by kernel_rfl) (by kernel_rfl) (by exact fun _ _ _ h => h) (Or.inl ⟨by rfl, ?_⟩) (by assumption) ?_
          rotate_left
          · intro wS hSw
            go_simp
            all_goals first | with_reducible rfl | rw [if_neg (by omega)]
          simp only [Act.put, List.setIfInBounds_toArray, List.set]
          refine wpAnyH_ready (rs := [7]) (by kernel_rfl) (by simp) ?_
          refine AllReadyH.cons (o := _) (by (simp only [List.getElem?_toArray]; rfl)) (fun K hK => ?_) AllReadyH.nil
          go_simp
          refine (l7Sum_c 0 (((n : Nat) : Int) + 1) r w2.drew (by omega) (by omega) (by omega) (by omega)).mono ?_
          rintro e w4 ⟨rfl, k4⟩
          have h4 : ∀ i, w4.cell? ⟨w.heap.size, i, none⟩ = (#[.int .i64 r.c, .int .i64 r.n, .int .i64 r.o, .int .i64 r.x, .int .i64 r.y] : Array Value)[i]? := fun i => ((bcell k4).1 _ i lD).trans (hHeld i)
          have A4 := Lib.hid (carryB k4 lD A2.out)
          have K4 := below_next KD k4
          have l4 : w.heap.size < w4.heap.size := Nat.lt_of_lt_of_le lD k4.size
          replace RD := Lib.hid (RD.out.below k4)
          obtain ⟨sm, hsm⟩ : ∃ sm : Int, sm = (sumL 0 (((n : Nat) : Int) + 1) r : Int) := ⟨_, rfl⟩
          have HSM := Lib.hid hsm
          rw [← hsm]
          clear hsm k4 hHeld KD
          refine hK.out _ _ h4 (fun hHeld => ?_)
          clear hK K
          try simp only [Act.put, List.setIfInBounds_toArray, List.set]
          refine wpAnyH_take (i := 8) (oi := _) (v := ?_) (by (simp only [List.getElem?_toArray]; rfl)) (by kernel_rfl) (by kernel_rfl) (by kernel_rfl) (by exact fun _ _ _ h => h) (Or.inl ⟨by rfl, ?_⟩) (by assumption) ?_
          rotate_left
          · intro wS hSw
            go_simp
            all_goals first | with_reducible rfl | rw [if_neg (by omega)]
          simp only [Act.put, List.setIfInBounds_toArray, List.set]
          refine wpAnyH_ready (rs := [9]) (by kernel_rfl) (by simp) ?_
          refine AllReadyH.cons (o := _) (by (simp only [List.getElem?_toArray]; rfl)) (fun K hK => ?_) AllReadyH.nil
          go_simp
          obtain ⟨V, hV, sV, aV, kV⟩ := blocks1 w4 (.cells #[.int .i64 r.c, .int .i64 r.n, .int .i64 r.o, .int .i64 r.x, .int .i64 r.y, .int .i64 sm] 44)
          have hrv : RowsAt V (some ⟨w4.heap.size, 0, none⟩) 6 En.cs [⟨r, sm⟩] := by rw [hV]; exact rowsAt_oneE w4 ⟨r, sm⟩ _
          rw [← hV]
          have h5 : ∀ i, V.cell? ⟨w.heap.size, i, none⟩ = (#[.int .i64 r.c, .int .i64 r.n, .int .i64 r.o, .int .i64 r.x, .int .i64 r.y] : Array Value)[i]? := fun i => ((bcell kV).1 _ i l4).trans (h4 i)
          have A5 := Lib.hid (carryB kV l4 A4.out)
          have KV := below_next K4 kV
          have lV : w.heap.size < V.heap.size := by omega
          replace RD := Lib.hid (RD.out.below kV)
          have HRV := Lib.hid hrv
          clear hV kV aV hrv K4 h4 hHeld
          refine hK.out _ _ h5 (fun hHeld => ?_)
          clear hK K
          try simp only [Act.put, List.setIfInBounds_toArray, List.set]
          refine wpAnyH_ready (rs := [10]) (by kernel_rfl) (by simp) ?_
          refine AllReadyH.cons (o := _) (by (simp only [List.getElem?_toArray]; rfl)) (fun K hK => ?_) AllReadyH.nil
          refine step_append_elt (by rfl) (.tmp 42) (.tmp 51) (by rfl) (n + 1) eltEntry (by rfl) (by rfl) RD.out HRV.out HZ.out rfl rfl (by simp only [maxLen]; omega) (by omega) lV ?_
          intro a5 cap5 w5 q5
          have b5 := q5.grown.block w.heap.size lV (fun e => by have := (RD.out.blk e.symm).1; omega)
          have h6 : ∀ i, w5.cell? ⟨w.heap.size, i, none⟩ = (#[.int .i64 r.c, .int .i64 r.n, .int .i64 r.o, .int .i64 r.x, .int .i64 r.y] : Array Value)[i]? := cell_of_block (b5.trans A5.out)
          have K5 := q5.belowB RD.out KV (by omega) (Nat.le_of_lt lV)
          have hl5 : (xs ++ [(⟨r, sm⟩ : En)]).length = n + 1 := by rw [List.length_append, HZ.out]; rfl
          have HL5 := Lib.hid hl5
          have R5 := Lib.hid (q5.row.low (B' := w.heap.size) (by omega))
          clear b5 q5 hl5 KV hHeld h5
          refine hK.out _ _ h6 (fun hHeld => ?_)
          clear hK K
          try simp only [Act.put, List.setIfInBounds_toArray, List.set]
          refine wpAnyH_take (i := 11) (oi := _) (v := ?_) (by (simp only [List.getElem?_toArray]; rfl)) (by kernel_rfl) (by kernel_rfl) (by kernel_rfl) (by exact fun _ _ _ h => h) (Or.inl ⟨by rfl, ?_⟩) (by assumption) ?_
          rotate_left
          · intro wS hSw
            go_simp
            all_goals first | with_reducible rfl | rw [if_neg (by omega)]
          simp only [Act.put, List.setIfInBounds_toArray, List.set]
          refine wpAnyH_take (i := 12) (oi := _) (v := ?_) (by (simp only [List.getElem?_toArray]; rfl)) (by kernel_rfl) (by kernel_rfl) (by kernel_rfl) (by exact fun _ _ _ h => h) (Or.inl ⟨by rfl, ?_⟩) (by assumption) ?_
          rotate_left
          · intro wS hSw
            go_simp
            all_goals first | with_reducible rfl | rw [if_neg (by omega)]
          simp only [Act.put, List.setIfInBounds_toArray, List.set]
          refine wpAnyH_done (by kernel_rfl) ?_ _
          go_wp2_with fail
          refine bodyPost_ret (v := .tuple #[.slice a5 (n + 1) cap5, .bool true]) (by simp [results, Tryd.results36, go_sem]) rfl ?_
          rw [HP.out, HS0.out, ← HSM.out]
          have hr5 := R5.out
          unfold AddGot
          simp only
          rw [HL5.out]
          exact ⟨a5, cap5, rfl, hr5, K5⟩
        · obtain ⟨m, rfl⟩ : ∃ m, n = m + 1 := ⟨n - 1, by omega⟩
          have hmz : m < xs.length := by rw [HZ.out]; omega
          obtain ⟨b9, o9, rfl, hl9, hc9⟩ := six_at HRR.out m hmz
          obtain ⟨-, -, -, -, -, e5⟩ := hc9 w2 K2
          have hsum : lastSum xs = xs[m].s := by unfold lastSum prevAt; rw [HZ.out, if_neg (by omega), Nat.add_sub_cancel, enAt_eq hmz]
          have HS0 := Lib.hid hsum
          clear hsum hc9
          generalize xs[m].s = ls at *
          go_wp2_with fail
          have lW := lt_of_block a2
          have KD := below_next K2 (Below.drew (Below.refl w2.heap.size w2))
          have A2 := Lib.hid (show w2.drew.heap[w.heap.size]? = _ from a2)
          have hcd := cell_of_block (show w2.drew.heap[w.heap.size]? = _ from a2)
          have lD : w.heap.size < w2.drew.heap.size := lW
          have RD := Lib.hid (show Row w2.drew (w.heap.size + 1) 44 aO cO 6 En.cs xs from RO.out.drew)
          have hlsb := HLS.out
          rw [HS0.out] at hlsb
          have hwn : IntKind.i64.wrap ((((m + 1) : Nat) : Int) + 1) = (((m + 1) : Nat) : Int) + 1 := IntWalk.i64_in _ ⟨by omega, by omega⟩
          have em : ((m + 1 : Nat) : Int) = (m : Int) + 1 := rfl
          rw [em] at hwn
          clear em
          refine wp_region_held_drew (S := fun w' => ∀ i, w'.cell? ⟨w.heap.size, i, none⟩ = (#[.int .i64 r.c, .int .i64 r.n, .int .i64 r.o, .int .i64 r.x, .int .i64 r.y] : Array Value)[i]?) (by kernel_rfl) hcd (fun hHeld => ?_)
          clear hcd a2 c2
          refine wpAnyH_take (i := 0) (oi := _) (v := ?_) (by (simp only [List.getElem?_toArray]; rfl)) (by kernel_rfl) (by kernel_rfl) (by kernel_rfl) (by exact fun _ _ _ h => h) (Or.inl ⟨by rfl, ?_⟩) (by assumption) ?_
          rotate_left
          · intro wS hSw
            go_simp
            all_goals first | with_reducible rfl | rw [if_neg (by omega)]
          simp only [Act.put, List.setIfInBounds_toArray, List.set]
          refine wpAnyH_take (i := 1) (oi := _) (v := ?_) (by (simp only [List.getElem?_toArray]; rfl)) (by kernel_rfl) (by kernel_rfl) (by kernel_rfl) (by exact fun _ _ _ h => h) (Or.inl ⟨by rfl, ?_⟩) (by assumption) ?_
          rotate_left
          · intro wS hSw
            go_simp
            all_goals first | with_reducible rfl | rw [if_neg (by omega)]
          simp only [Act.put, List.setIfInBounds_toArray, List.set]
          refine wpAnyH_take (i := 2) (oi := _) (v := ?_) (by (simp only [List.getElem?_toArray]; rfl)) (by kernel_rfl) (by kernel_rfl) (by kernel_rfl) (by exact fun _ _ _ h => h) (Or.inl ⟨by rfl, ?_⟩) (by assumption) ?_
          rotate_left
          · intro wS hSw
            go_simp
            all_goals first | with_reducible rfl | rw [if_neg (by omega)]
          simp only [Act.put, List.setIfInBounds_toArray, List.set]
          refine wpAnyH_take (i := 3) (oi := _) (v := ?_) (by (simp only [List.getElem?_toArray]; rfl)) (by kernel_rfl) (by kernel_rfl) (by kernel_rfl) (by exact fun _ _ _ h => h) (Or.inl ⟨by rfl, ?_⟩) (by assumption) ?_
          rotate_left
          · intro wS hSw
            go_simp
            all_goals first | with_reducible rfl | rw [if_neg (by omega)]
          simp only [Act.put, List.setIfInBounds_toArray, List.set]
          refine wpAnyH_take (i := 4) (oi := _) (v := ?_) (by (simp only [List.getElem?_toArray]; rfl)) (by kernel_rfl) (by kernel_rfl) (by kernel_rfl) (by exact fun _ _ _ h => h) (Or.inl ⟨by rfl, ?_⟩) (by assumption) ?_
          rotate_left
          · intro wS hSw
            go_simp
            all_goals first | with_reducible rfl | rw [if_neg (by omega)]
          simp only [Act.put, List.setIfInBounds_toArray, List.set]
          refine wpAnyH_take (i := 5) (oi := _) (v := ?_) (by (simp only [List.getElem?_toArray]; rfl)) (by kernel_rfl) (by kernel_rfl) (by kernel_rfl) (by exact fun _ _ _ h => h) (Or.inl ⟨by rfl, ?_⟩) (by assumption) ?_
          rotate_left
          · intro wS hSw
            go_simp
            all_goals first | with_reducible rfl | rw [if_neg (by omega)]
          simp only [Act.put, List.setIfInBounds_toArray, List.set]
          refine wpAnyH_take (i := 6) (oi := _) (v := ?_) (by (simp only [List.getElem?_toArray]; rfl)) (by kernel_rfl) (by kernel_rfl) (by kernel_rfl) (by exact fun _ _ _ h => h) (Or.inl ⟨by rfl, ?_⟩) (by assumption) ?_
          rotate_left
          · intro wS hSw
            go_simp
            all_goals first | with_reducible rfl | rw [if_neg (by omega)]
          simp only [Act.put, List.setIfInBounds_toArray, List.set]
          refine wpAnyH_ready (rs := [7]) (by kernel_rfl) (by simp) ?_
          refine AllReadyH.cons (o := _) (by (simp only [List.getElem?_toArray]; rfl)) (fun K hK => ?_) AllReadyH.nil
          go_simp
          refine (l7Sum_c ls ((((m + 1) : Nat) : Int) + 1) r w2.drew (by omega) (by omega) (by omega) (by omega)).mono ?_
          rintro e w4 ⟨rfl, k4⟩
          have h4 : ∀ i, w4.cell? ⟨w.heap.size, i, none⟩ = (#[.int .i64 r.c, .int .i64 r.n, .int .i64 r.o, .int .i64 r.x, .int .i64 r.y] : Array Value)[i]? := fun i => ((bcell k4).1 _ i lD).trans (hHeld i)
          have A4 := Lib.hid (carryB k4 lD A2.out)
          have K4 := below_next KD k4
          have l4 : w.heap.size < w4.heap.size := Nat.lt_of_lt_of_le lD k4.size
          replace RD := Lib.hid (RD.out.below k4)
          obtain ⟨sm, hsm⟩ : ∃ sm : Int, sm = (sumL ls ((((m + 1) : Nat) : Int) + 1) r : Int) := ⟨_, rfl⟩
          have HSM := Lib.hid hsm
          rw [← hsm]
          clear hsm k4 hHeld KD
          refine hK.out _ _ h4 (fun hHeld => ?_)
          clear hK K
          try simp only [Act.put, List.setIfInBounds_toArray, List.set]
          refine wpAnyH_take (i := 8) (oi := _) (v := ?_) (by (simp only [List.getElem?_toArray]; rfl)) (by kernel_rfl) (by kernel_rfl) (by kernel_rfl) (by exact fun _ _ _ h => h) (Or.inl ⟨by rfl, ?_⟩) (by assumption) ?_
          rotate_left
          · intro wS hSw
            go_simp
            all_goals first | with_reducible rfl | rw [if_neg (by omega)]
          simp only [Act.put, List.setIfInBounds_toArray, List.set]
          refine wpAnyH_ready (rs := [9]) (by kernel_rfl) (by simp) ?_
          refine AllReadyH.cons (o := _) (by (simp only [List.getElem?_toArray]; rfl)) (fun K hK => ?_) AllReadyH.nil
          go_simp
          obtain ⟨V, hV, sV, aV, kV⟩ := blocks1 w4 (.cells #[.int .i64 r.c, .int .i64 r.n, .int .i64 r.o, .int .i64 r.x, .int .i64 r.y, .int .i64 sm] 44)
          have hrv : RowsAt V (some ⟨w4.heap.size, 0, none⟩) 6 En.cs [⟨r, sm⟩] := by rw [hV]; exact rowsAt_oneE w4 ⟨r, sm⟩ _
          rw [← hV]
          have h5 : ∀ i, V.cell? ⟨w.heap.size, i, none⟩ = (#[.int .i64 r.c, .int .i64 r.n, .int .i64 r.o, .int .i64 r.x, .int .i64 r.y] : Array Value)[i]? := fun i => ((bcell kV).1 _ i l4).trans (h4 i)
          have A5 := Lib.hid (carryB kV l4 A4.out)
          have KV := below_next K4 kV
          have lV : w.heap.size < V.heap.size := by omega
          replace RD := Lib.hid (RD.out.below kV)
          have HRV := Lib.hid hrv
          clear hV kV aV hrv K4 h4 hHeld
          refine hK.out _ _ h5 (fun hHeld => ?_)
          clear hK K
          try simp only [Act.put, List.setIfInBounds_toArray, List.set]
          refine wpAnyH_ready (rs := [10]) (by kernel_rfl) (by simp) ?_
          refine AllReadyH.cons (o := _) (by (simp only [List.getElem?_toArray]; rfl)) (fun K hK => ?_) AllReadyH.nil
          refine step_append_elt (by rfl) (.tmp 42) (.tmp 51) (by rfl) ((m + 1) + 1) eltEntry (by rfl) (by rfl) RD.out HRV.out HZ.out rfl rfl (by simp only [maxLen]; omega) (by omega) lV ?_
          intro a5 cap5 w5 q5
          have b5 := q5.grown.block w.heap.size lV (fun e => by have := (RD.out.blk e.symm).1; omega)
          have h6 : ∀ i, w5.cell? ⟨w.heap.size, i, none⟩ = (#[.int .i64 r.c, .int .i64 r.n, .int .i64 r.o, .int .i64 r.x, .int .i64 r.y] : Array Value)[i]? := cell_of_block (b5.trans A5.out)
          have K5 := q5.belowB RD.out KV (by omega) (Nat.le_of_lt lV)
          have hl5 : (xs ++ [(⟨r, sm⟩ : En)]).length = (m + 1) + 1 := by rw [List.length_append, HZ.out]; rfl
          have HL5 := Lib.hid hl5
          have R5 := Lib.hid (q5.row.low (B' := w.heap.size) (by omega))
          clear b5 q5 hl5 KV hHeld h5
          refine hK.out _ _ h6 (fun hHeld => ?_)
          clear hK K
          try simp only [Act.put, List.setIfInBounds_toArray, List.set]
          refine wpAnyH_take (i := 11) (oi := _) (v := ?_) (by (simp only [List.getElem?_toArray]; rfl)) (by kernel_rfl) (by kernel_rfl) (by kernel_rfl) (by exact fun _ _ _ h => h) (Or.inl ⟨by rfl, ?_⟩) (by assumption) ?_
          rotate_left
          · intro wS hSw
            go_simp
            all_goals first | with_reducible rfl | rw [if_neg (by omega)]
          simp only [Act.put, List.setIfInBounds_toArray, List.set]
          refine wpAnyH_take (i := 12) (oi := _) (v := ?_) (by (simp only [List.getElem?_toArray]; rfl)) (by kernel_rfl) (by kernel_rfl) (by kernel_rfl) (by exact fun _ _ _ h => h) (Or.inl ⟨by rfl, ?_⟩) (by assumption) ?_
          rotate_left
          · intro wS hSw
            go_simp
            all_goals first | with_reducible rfl | rw [if_neg (by omega)]
          simp only [Act.put, List.setIfInBounds_toArray, List.set]
          refine wpAnyH_done (by kernel_rfl) ?_ _
          go_wp2_with fail
          refine bodyPost_ret (v := .tuple #[.slice a5 ((m + 1) + 1) cap5, .bool true]) (by simp [results, Tryd.results36, go_sem]) rfl ?_
          rw [HP.out, HS0.out, ← HSM.out]
          have hr5 := R5.out
          unfold AddGot
          simp only
          rw [HL5.out]
          exact ⟨a5, cap5, rfl, hr5, K5⟩
      | false =>
        cases hno : noneB r.c r.n r.o r.x r.y with
        | true =>
          have HP := Lib.hid (HPG.out (by rw [HGE.out, hok, hno]; rfl))
          go_enter Tryd.func36, Tryd.ntmps36
          go_wp2_with (at_builtin; refine wpList_append_new (w.heap.size + 1) rfl _ _ rfl eltEntry rfl rfl (HRR.out.below (by repeat' (first | with_reducible exact Below.refl _ _ | with_reducible assumption | with_reducible refine Below.alloc ?_ ?_ _ | with_reducible refine Below.drew ?_ | with_reducible refine Below.setCell ?_ ?_ _ | omega | (simp; omega) | (simp; done)))) HZ.out (by simp only [maxLen]; omega) (by omega) (by simp <;> omega) ?_)
          intro aO cO w0 q0
          have b0 := q0.below.block w.heap.size (by simp <;> omega)
          have aW := b0.trans (show _ = some (.cells #[.int .i64 r.c, .int .i64 r.n, .int .i64 r.o, .int .i64 r.x, .int .i64 r.y] 42 (0, 0)) from by rw [Below.heap_alloc _ _ _ (by simp)]; exact heap_alloc_new w _)
          have K0 : Below w.heap.size w w0 := below_next (by repeat' (first | with_reducible exact Below.refl _ _ | with_reducible assumption | with_reducible refine Below.alloc ?_ ?_ _ | with_reducible refine Below.drew ?_ | with_reducible refine Below.setCell ?_ ?_ _ | omega | (simp; omega) | (simp; done))) q0.below
          have RO := Lib.hid q0.row
          have lW := lt_of_block aW
          clear b0 q0
          go_wp2_with fail
          refine (CF.out w0 (HH.out.below K0)).mono ?_
          rintro e w1 ⟨rfl, k1⟩
          have K1 := below_next K0 k1
          have a1 := carryB k1 lW aW
          have c1 := cell_of_block a1
          replace RO := Lib.hid (RO.out.below k1)
          clear aW k1 K0 lW
          go_wp2_with fail
          refine (l1Ok_c r.c r.n r.o r.x r.y w1).mono ?_
          rintro e w2 ⟨rfl, k2⟩
          have K2 := below_next K1 k2
          have a2 := carryB k2 (lt_of_block a1) a1
          have c2 := cell_of_block a2
          replace RO := Lib.hid (RO.out.below k2)
          clear k2 K1 c1 a1
          rw [hok]
          go_wp2_with fail
          refine (l1None_c r.c r.n r.o r.x r.y w2).mono ?_
          rintro e w3 ⟨rfl, k3⟩
          have K3 := below_next K2 k3
          have a3 := carryB k3 (lt_of_block a2) a2
          have c3 := cell_of_block a3
          replace RO := Lib.hid (RO.out.below k3)
          clear k3 K2 c2 a2
          rw [hno]
          by_cases h0 : (n : Int) ≤ 0
          · have hsum : lastSum xs = 0 := by unfold lastSum prevAt; rw [HZ.out, if_pos (by omega)]
            have HS0 := Lib.hid hsum
            clear hsum
            go_wp2_with fail
            have lW := lt_of_block a3
            have KD := below_next K3 (Below.drew (Below.refl w3.heap.size w3))
            have A2 := Lib.hid (show w3.drew.heap[w.heap.size]? = _ from a3)
            have hcd := cell_of_block (show w3.drew.heap[w.heap.size]? = _ from a3)
            have lD : w.heap.size < w3.drew.heap.size := lW
            have RD := Lib.hid (show Row w3.drew (w.heap.size + 1) 44 aO cO 6 En.cs xs from RO.out.drew)
            have hlsb := HLS.out
            rw [HS0.out] at hlsb
            have hwn : IntKind.i64.wrap (((n : Nat) : Int) + 1) = ((n : Nat) : Int) + 1 := IntWalk.i64_in _ ⟨by omega, by omega⟩
            refine wp_region_held_drew (S := fun w' => ∀ i, w'.cell? ⟨w.heap.size, i, none⟩ = (#[.int .i64 r.c, .int .i64 r.n, .int .i64 r.o, .int .i64 r.x, .int .i64 r.y] : Array Value)[i]?) (by kernel_rfl) hcd (fun hHeld => ?_)
            clear hcd a3 c3
            refine wpAnyH_take (i := 0) (oi := _) (v := ?_) (by (simp only [List.getElem?_toArray]; rfl)) (by kernel_rfl) (by kernel_rfl) (by kernel_rfl) (by exact fun _ _ _ h => h) (Or.inl ⟨by rfl, ?_⟩) (by assumption) ?_
            rotate_left
            · intro wS hSw
              go_simp
              all_goals first | with_reducible rfl | rw [if_neg (by omega)]
            simp only [Act.put, List.setIfInBounds_toArray, List.set]
            refine wpAnyH_take (i := 1) (oi := _) (v := ?_) (by (simp only [List.getElem?_toArray]; rfl)) (by kernel_rfl) (by kernel_rfl) (by kernel_rfl) (by exact fun _ _ _ h => h) (Or.inl ⟨by rfl, ?_⟩) (by assumption) ?_
            rotate_left
            · intro wS hSw
              go_simp
              all_goals first | with_reducible rfl | rw [if_neg (by omega)]
            simp only [Act.put, List.setIfInBounds_toArray, List.set]
            refine wpAnyH_take (i := 2) (oi := _) (v := ?_) (by (simp only [List.getElem?_toArray]; rfl)) (by kernel_rfl) (by kernel_rfl) (by kernel_rfl) (by exact fun _ _ _ h => h) (Or.inl ⟨by rfl, ?_⟩) (by assumption) ?_
            rotate_left
            · intro wS hSw
              go_simp
              all_goals first | with_reducible rfl | rw [if_neg (by omega)]
            simp only [Act.put, List.setIfInBounds_toArray, List.set]
            refine wpAnyH_take (i := 3) (oi := _) (v := ?_) (by (simp only [List.getElem?_toArray]; rfl)) (by kernel_rfl) (by kernel_rfl) (by kernel_rfl) (by exact fun _ _ _ h => h) (Or.inl ⟨by rfl, ?_⟩) (by assumption) ?_
            rotate_left
            · intro wS hSw
              go_simp
              all_goals first | with_reducible rfl | rw [if_neg (by omega)]
            simp only [Act.put, List.setIfInBounds_toArray, List.set]
            refine wpAnyH_take (i := 4) (oi := _) (v := ?_) (by (simp only [List.getElem?_toArray]; rfl)) (by kernel_rfl) (by kernel_rfl) (by kernel_rfl) (by exact fun _ _ _ h => h) (Or.inl ⟨by rfl, ?_⟩) (by assumption) ?_
            rotate_left
            · intro wS hSw
              go_simp
              all_goals first | with_reducible rfl | rw [if_neg (by omega)]
            simp only [Act.put, List.setIfInBounds_toArray, List.set]
            refine wpAnyH_take (i := 5) (oi := _) (v := ?_) (by (simp only [List.getElem?_toArray]; rfl)) (by kernel_rfl) (by kernel_rfl) (by kernel_rfl) (by exact fun _ _ _ h => h) (Or.inl ⟨by rfl, ?_⟩) (by assumption) ?_
            rotate_left
            · intro wS hSw
              go_simp
              all_goals first | with_reducible rfl | rw [if_neg (by omega)]
            simp only [Act.put, List.setIfInBounds_toArray, List.set]
            refine wpAnyH_take (i := 6) (oi := _) (v := ?_) (by (simp only [List.getElem?_toArray]; rfl)) (by kernel_rfl) (by kernel_rfl) (by kernel_rfl) (by exact fun _ _ _ h => h) (Or.inl ⟨by rfl, ?_⟩) (by assumption) ?_
            rotate_left
            · intro wS hSw
              go_simp
              all_goals first | with_reducible rfl | rw [if_neg (by omega)]
            simp only [Act.put, List.setIfInBounds_toArray, List.set]
            refine wpAnyH_ready (rs := [7]) (by kernel_rfl) (by simp) ?_
            refine AllReadyH.cons (o := _) (by (simp only [List.getElem?_toArray]; rfl)) (fun K hK => ?_) AllReadyH.nil
            go_simp
            refine (l7Sum_c 0 (((n : Nat) : Int) + 1) r w3.drew (by omega) (by omega) (by omega) (by omega)).mono ?_
            rintro e w4 ⟨rfl, k4⟩
            have h4 : ∀ i, w4.cell? ⟨w.heap.size, i, none⟩ = (#[.int .i64 r.c, .int .i64 r.n, .int .i64 r.o, .int .i64 r.x, .int .i64 r.y] : Array Value)[i]? := fun i => ((bcell k4).1 _ i lD).trans (hHeld i)
            have A4 := Lib.hid (carryB k4 lD A2.out)
            have K4 := below_next KD k4
            have l4 : w.heap.size < w4.heap.size := Nat.lt_of_lt_of_le lD k4.size
            replace RD := Lib.hid (RD.out.below k4)
            obtain ⟨sm, hsm⟩ : ∃ sm : Int, sm = (sumL 0 (((n : Nat) : Int) + 1) r : Int) := ⟨_, rfl⟩
            have HSM := Lib.hid hsm
            rw [← hsm]
            clear hsm k4 hHeld KD
            refine hK.out _ _ h4 (fun hHeld => ?_)
            clear hK K
            try simp only [Act.put, List.setIfInBounds_toArray, List.set]
            refine wpAnyH_take (i := 8) (oi := _) (v := ?_) (by (simp only [List.getElem?_toArray]; rfl)) (by kernel_rfl) (by kernel_rfl) (by kernel_rfl) (by exact fun _ _ _ h => h) (Or.inl ⟨by rfl, ?_⟩) (by assumption) ?_
            rotate_left
            · intro wS hSw
              go_simp
              all_goals first | with_reducible rfl | rw [if_neg (by omega)]
            simp only [Act.put, List.setIfInBounds_toArray, List.set]
            refine wpAnyH_ready (rs := [9]) (by kernel_rfl) (by simp) ?_
            refine AllReadyH.cons (o := _) (by (simp only [List.getElem?_toArray]; rfl)) (fun K hK => ?_) AllReadyH.nil
            go_simp
            obtain ⟨V, hV, sV, aV, kV⟩ := blocks1 w4 (.cells #[.int .i64 r.c, .int .i64 r.n, .int .i64 r.o, .int .i64 r.x, .int .i64 r.y, .int .i64 sm] 44)
            have hrv : RowsAt V (some ⟨w4.heap.size, 0, none⟩) 6 En.cs [⟨r, sm⟩] := by rw [hV]; exact rowsAt_oneE w4 ⟨r, sm⟩ _
            rw [← hV]
            have h5 : ∀ i, V.cell? ⟨w.heap.size, i, none⟩ = (#[.int .i64 r.c, .int .i64 r.n, .int .i64 r.o, .int .i64 r.x, .int .i64 r.y] : Array Value)[i]? := fun i => ((bcell kV).1 _ i l4).trans (h4 i)
            have A5 := Lib.hid (carryB kV l4 A4.out)
            have KV := below_next K4 kV
            have lV : w.heap.size < V.heap.size := by omega
            replace RD := Lib.hid (RD.out.below kV)
            have HRV := Lib.hid hrv
            clear hV kV aV hrv K4 h4 hHeld
            refine hK.out _ _ h5 (fun hHeld => ?_)
            clear hK K
            try simp only [Act.put, List.setIfInBounds_toArray, List.set]
            refine wpAnyH_ready (rs := [10]) (by kernel_rfl) (by simp) ?_
            refine AllReadyH.cons (o := _) (by (simp only [List.getElem?_toArray]; rfl)) (fun K hK => ?_) AllReadyH.nil
            refine step_append_elt (by rfl) (.tmp 42) (.tmp 51) (by rfl) (n + 1) eltEntry (by rfl) (by rfl) RD.out HRV.out HZ.out rfl rfl (by simp only [maxLen]; omega) (by omega) lV ?_
            intro a5 cap5 w5 q5
            have b5 := q5.grown.block w.heap.size lV (fun e => by have := (RD.out.blk e.symm).1; omega)
            have h6 : ∀ i, w5.cell? ⟨w.heap.size, i, none⟩ = (#[.int .i64 r.c, .int .i64 r.n, .int .i64 r.o, .int .i64 r.x, .int .i64 r.y] : Array Value)[i]? := cell_of_block (b5.trans A5.out)
            have K5 := q5.belowB RD.out KV (by omega) (Nat.le_of_lt lV)
            have hl5 : (xs ++ [(⟨r, sm⟩ : En)]).length = n + 1 := by rw [List.length_append, HZ.out]; rfl
            have HL5 := Lib.hid hl5
            have R5 := Lib.hid (q5.row.low (B' := w.heap.size) (by omega))
            clear b5 q5 hl5 KV hHeld h5
            refine hK.out _ _ h6 (fun hHeld => ?_)
            clear hK K
            try simp only [Act.put, List.setIfInBounds_toArray, List.set]
            refine wpAnyH_take (i := 11) (oi := _) (v := ?_) (by (simp only [List.getElem?_toArray]; rfl)) (by kernel_rfl) (by kernel_rfl) (by kernel_rfl) (by exact fun _ _ _ h => h) (Or.inl ⟨by rfl, ?_⟩) (by assumption) ?_
            rotate_left
            · intro wS hSw
              go_simp
              all_goals first | with_reducible rfl | rw [if_neg (by omega)]
            simp only [Act.put, List.setIfInBounds_toArray, List.set]
            refine wpAnyH_take (i := 12) (oi := _) (v := ?_) (by (simp only [List.getElem?_toArray]; rfl)) (by kernel_rfl) (by kernel_rfl) (by kernel_rfl) (by exact fun _ _ _ h => h) (Or.inl ⟨by rfl, ?_⟩) (by assumption) ?_
            rotate_left
            · intro wS hSw
              go_simp
              all_goals first | with_reducible rfl | rw [if_neg (by omega)]
            simp only [Act.put, List.setIfInBounds_toArray, List.set]
            refine wpAnyH_done (by kernel_rfl) ?_ _
            go_wp2_with fail
            refine bodyPost_ret (v := .tuple #[.slice a5 (n + 1) cap5, .bool true]) (by simp [results, Tryd.results36, go_sem]) rfl ?_
            rw [HP.out, HS0.out, ← HSM.out]
            have hr5 := R5.out
            unfold AddGot
            simp only
            rw [HL5.out]
            exact ⟨a5, cap5, rfl, hr5, K5⟩
          · obtain ⟨m, rfl⟩ : ∃ m, n = m + 1 := ⟨n - 1, by omega⟩
            have hmz : m < xs.length := by rw [HZ.out]; omega
            obtain ⟨b9, o9, rfl, hl9, hc9⟩ := six_at HRR.out m hmz
            obtain ⟨-, -, -, -, -, e5⟩ := hc9 w3 K3
            have hsum : lastSum xs = xs[m].s := by unfold lastSum prevAt; rw [HZ.out, if_neg (by omega), Nat.add_sub_cancel, enAt_eq hmz]
            have HS0 := Lib.hid hsum
            clear hsum hc9
            generalize xs[m].s = ls at *
            go_wp2_with fail
            have lW := lt_of_block a3
            have KD := below_next K3 (Below.drew (Below.refl w3.heap.size w3))
            have A2 := Lib.hid (show w3.drew.heap[w.heap.size]? = _ from a3)
            have hcd := cell_of_block (show w3.drew.heap[w.heap.size]? = _ from a3)
            have lD : w.heap.size < w3.drew.heap.size := lW
            have RD := Lib.hid (show Row w3.drew (w.heap.size + 1) 44 aO cO 6 En.cs xs from RO.out.drew)
            have hlsb := HLS.out
            rw [HS0.out] at hlsb
            have hwn : IntKind.i64.wrap ((((m + 1) : Nat) : Int) + 1) = (((m + 1) : Nat) : Int) + 1 := IntWalk.i64_in _ ⟨by omega, by omega⟩
            have em : ((m + 1 : Nat) : Int) = (m : Int) + 1 := rfl
            rw [em] at hwn
            clear em
            refine wp_region_held_drew (S := fun w' => ∀ i, w'.cell? ⟨w.heap.size, i, none⟩ = (#[.int .i64 r.c, .int .i64 r.n, .int .i64 r.o, .int .i64 r.x, .int .i64 r.y] : Array Value)[i]?) (by kernel_rfl) hcd (fun hHeld => ?_)
            clear hcd a3 c3
            refine wpAnyH_take (i := 0) (oi := _) (v := ?_) (by (simp only [List.getElem?_toArray]; rfl)) (by kernel_rfl) (by kernel_rfl) (by kernel_rfl) (by exact fun _ _ _ h => h) (Or.inl ⟨by rfl, ?_⟩) (by assumption) ?_
            rotate_left
            · intro wS hSw
              go_simp
              all_goals first | with_reducible rfl | rw [if_neg (by omega)]
            simp only [Act.put, List.setIfInBounds_toArray, List.set]
            refine wpAnyH_take (i := 1) (oi := _) (v := ?_) (by (simp only [List.getElem?_toArray]; rfl)) (by kernel_rfl) (by kernel_rfl) (by kernel_rfl) (by exact fun _ _ _ h => h) (Or.inl ⟨by rfl, ?_⟩) (by assumption) ?_
            rotate_left
            · intro wS hSw
              go_simp
              all_goals first | with_reducible rfl | rw [if_neg (by omega)]
            simp only [Act.put, List.setIfInBounds_toArray, List.set]
            refine wpAnyH_take (i := 2) (oi := _) (v := ?_) (by (simp only [List.getElem?_toArray]; rfl)) (by kernel_rfl) (by kernel_rfl) (by kernel_rfl) (by exact fun _ _ _ h => h) (Or.inl ⟨by rfl, ?_⟩) (by assumption) ?_
            rotate_left
            · intro wS hSw
              go_simp
              all_goals first | with_reducible rfl | rw [if_neg (by omega)]
            simp only [Act.put, List.setIfInBounds_toArray, List.set]
            refine wpAnyH_take (i := 3) (oi := _) (v := ?_) (by (simp only [List.getElem?_toArray]; rfl)) (by kernel_rfl) (by kernel_rfl) (by kernel_rfl) (by exact fun _ _ _ h => h) (Or.inl ⟨by rfl, ?_⟩) (by assumption) ?_
            rotate_left
            · intro wS hSw
              go_simp
              all_goals first | with_reducible rfl | rw [if_neg (by omega)]
            simp only [Act.put, List.setIfInBounds_toArray, List.set]
            refine wpAnyH_take (i := 4) (oi := _) (v := ?_) (by (simp only [List.getElem?_toArray]; rfl)) (by kernel_rfl) (by kernel_rfl) (by kernel_rfl) (by exact fun _ _ _ h => h) (Or.inl ⟨by rfl, ?_⟩) (by assumption) ?_
            rotate_left
            · intro wS hSw
              go_simp
              all_goals first | with_reducible rfl | rw [if_neg (by omega)]
            simp only [Act.put, List.setIfInBounds_toArray, List.set]
            refine wpAnyH_take (i := 5) (oi := _) (v := ?_) (by (simp only [List.getElem?_toArray]; rfl)) (by kernel_rfl) (by kernel_rfl) (by kernel_rfl) (by exact fun _ _ _ h => h) (Or.inl ⟨by rfl, ?_⟩) (by assumption) ?_
            rotate_left
            · intro wS hSw
              go_simp
              all_goals first | with_reducible rfl | rw [if_neg (by omega)]
            simp only [Act.put, List.setIfInBounds_toArray, List.set]
            refine wpAnyH_take (i := 6) (oi := _) (v := ?_) (by (simp only [List.getElem?_toArray]; rfl)) (by kernel_rfl) (by kernel_rfl) (by kernel_rfl) (by exact fun _ _ _ h => h) (Or.inl ⟨by rfl, ?_⟩) (by assumption) ?_
            rotate_left
            · intro wS hSw
              go_simp
              all_goals first | with_reducible rfl | rw [if_neg (by omega)]
            simp only [Act.put, List.setIfInBounds_toArray, List.set]
            refine wpAnyH_ready (rs := [7]) (by kernel_rfl) (by simp) ?_
            refine AllReadyH.cons (o := _) (by (simp only [List.getElem?_toArray]; rfl)) (fun K hK => ?_) AllReadyH.nil
            go_simp
            refine (l7Sum_c ls ((((m + 1) : Nat) : Int) + 1) r w3.drew (by omega) (by omega) (by omega) (by omega)).mono ?_
            rintro e w4 ⟨rfl, k4⟩
            have h4 : ∀ i, w4.cell? ⟨w.heap.size, i, none⟩ = (#[.int .i64 r.c, .int .i64 r.n, .int .i64 r.o, .int .i64 r.x, .int .i64 r.y] : Array Value)[i]? := fun i => ((bcell k4).1 _ i lD).trans (hHeld i)
            have A4 := Lib.hid (carryB k4 lD A2.out)
            have K4 := below_next KD k4
            have l4 : w.heap.size < w4.heap.size := Nat.lt_of_lt_of_le lD k4.size
            replace RD := Lib.hid (RD.out.below k4)
            obtain ⟨sm, hsm⟩ : ∃ sm : Int, sm = (sumL ls ((((m + 1) : Nat) : Int) + 1) r : Int) := ⟨_, rfl⟩
            have HSM := Lib.hid hsm
            rw [← hsm]
            clear hsm k4 hHeld KD
            refine hK.out _ _ h4 (fun hHeld => ?_)
            clear hK K
            try simp only [Act.put, List.setIfInBounds_toArray, List.set]
            refine wpAnyH_take (i := 8) (oi := _) (v := ?_) (by (simp only [List.getElem?_toArray]; rfl)) (by kernel_rfl) (by kernel_rfl) (by kernel_rfl) (by exact fun _ _ _ h => h) (Or.inl ⟨by rfl, ?_⟩) (by assumption) ?_
            rotate_left
            · intro wS hSw
              go_simp
              all_goals first | with_reducible rfl | rw [if_neg (by omega)]
            simp only [Act.put, List.setIfInBounds_toArray, List.set]
            refine wpAnyH_ready (rs := [9]) (by kernel_rfl) (by simp) ?_
            refine AllReadyH.cons (o := _) (by (simp only [List.getElem?_toArray]; rfl)) (fun K hK => ?_) AllReadyH.nil
            go_simp
            obtain ⟨V, hV, sV, aV, kV⟩ := blocks1 w4 (.cells #[.int .i64 r.c, .int .i64 r.n, .int .i64 r.o, .int .i64 r.x, .int .i64 r.y, .int .i64 sm] 44)
            have hrv : RowsAt V (some ⟨w4.heap.size, 0, none⟩) 6 En.cs [⟨r, sm⟩] := by rw [hV]; exact rowsAt_oneE w4 ⟨r, sm⟩ _
            rw [← hV]
            have h5 : ∀ i, V.cell? ⟨w.heap.size, i, none⟩ = (#[.int .i64 r.c, .int .i64 r.n, .int .i64 r.o, .int .i64 r.x, .int .i64 r.y] : Array Value)[i]? := fun i => ((bcell kV).1 _ i l4).trans (h4 i)
            have A5 := Lib.hid (carryB kV l4 A4.out)
            have KV := below_next K4 kV
            have lV : w.heap.size < V.heap.size := by omega
            replace RD := Lib.hid (RD.out.below kV)
            have HRV := Lib.hid hrv
            clear hV kV aV hrv K4 h4 hHeld
            refine hK.out _ _ h5 (fun hHeld => ?_)
            clear hK K
            try simp only [Act.put, List.setIfInBounds_toArray, List.set]
            refine wpAnyH_ready (rs := [10]) (by kernel_rfl) (by simp) ?_
            refine AllReadyH.cons (o := _) (by (simp only [List.getElem?_toArray]; rfl)) (fun K hK => ?_) AllReadyH.nil
            refine step_append_elt (by rfl) (.tmp 42) (.tmp 51) (by rfl) ((m + 1) + 1) eltEntry (by rfl) (by rfl) RD.out HRV.out HZ.out rfl rfl (by simp only [maxLen]; omega) (by omega) lV ?_
            intro a5 cap5 w5 q5
            have b5 := q5.grown.block w.heap.size lV (fun e => by have := (RD.out.blk e.symm).1; omega)
            have h6 : ∀ i, w5.cell? ⟨w.heap.size, i, none⟩ = (#[.int .i64 r.c, .int .i64 r.n, .int .i64 r.o, .int .i64 r.x, .int .i64 r.y] : Array Value)[i]? := cell_of_block (b5.trans A5.out)
            have K5 := q5.belowB RD.out KV (by omega) (Nat.le_of_lt lV)
            have hl5 : (xs ++ [(⟨r, sm⟩ : En)]).length = (m + 1) + 1 := by rw [List.length_append, HZ.out]; rfl
            have HL5 := Lib.hid hl5
            have R5 := Lib.hid (q5.row.low (B' := w.heap.size) (by omega))
            clear b5 q5 hl5 KV hHeld h5
            refine hK.out _ _ h6 (fun hHeld => ?_)
            clear hK K
            try simp only [Act.put, List.setIfInBounds_toArray, List.set]
            refine wpAnyH_take (i := 11) (oi := _) (v := ?_) (by (simp only [List.getElem?_toArray]; rfl)) (by kernel_rfl) (by kernel_rfl) (by kernel_rfl) (by exact fun _ _ _ h => h) (Or.inl ⟨by rfl, ?_⟩) (by assumption) ?_
            rotate_left
            · intro wS hSw
              go_simp
              all_goals first | with_reducible rfl | rw [if_neg (by omega)]
            simp only [Act.put, List.setIfInBounds_toArray, List.set]
            refine wpAnyH_take (i := 12) (oi := _) (v := ?_) (by (simp only [List.getElem?_toArray]; rfl)) (by kernel_rfl) (by kernel_rfl) (by kernel_rfl) (by exact fun _ _ _ h => h) (Or.inl ⟨by rfl, ?_⟩) (by assumption) ?_
            rotate_left
            · intro wS hSw
              go_simp
              all_goals first | with_reducible rfl | rw [if_neg (by omega)]
            simp only [Act.put, List.setIfInBounds_toArray, List.set]
            refine wpAnyH_done (by kernel_rfl) ?_ _
            go_wp2_with fail
            refine bodyPost_ret (v := .tuple #[.slice a5 ((m + 1) + 1) cap5, .bool true]) (by simp [results, Tryd.results36, go_sem]) rfl ?_
            rw [HP.out, HS0.out, ← HSM.out]
            have hr5 := R5.out
            unfold AddGot
            simp only
            rw [HL5.out]
            exact ⟨a5, cap5, rfl, hr5, K5⟩
        | false =>
          have HP := Lib.hid (addL_no (xs := xs) (r := r) (.inr (.inr (by rw [HGE.out, hok, hno]; rfl))))
          go_enter Tryd.func36, Tryd.ntmps36
          go_wp2_with (at_builtin; refine wpList_append_new (w.heap.size + 1) rfl _ _ rfl eltEntry rfl rfl (HRR.out.below (by repeat' (first | with_reducible exact Below.refl _ _ | with_reducible assumption | with_reducible refine Below.alloc ?_ ?_ _ | with_reducible refine Below.drew ?_ | with_reducible refine Below.setCell ?_ ?_ _ | omega | (simp; omega) | (simp; done)))) HZ.out (by simp only [maxLen]; omega) (by omega) (by simp <;> omega) ?_)
          intro aO cO w0 q0
          have b0 := q0.below.block w.heap.size (by simp <;> omega)
          have aW := b0.trans (show _ = some (.cells #[.int .i64 r.c, .int .i64 r.n, .int .i64 r.o, .int .i64 r.x, .int .i64 r.y] 42 (0, 0)) from by rw [Below.heap_alloc _ _ _ (by simp)]; exact heap_alloc_new w _)
          have K0 : Below w.heap.size w w0 := below_next (by repeat' (first | with_reducible exact Below.refl _ _ | with_reducible assumption | with_reducible refine Below.alloc ?_ ?_ _ | with_reducible refine Below.drew ?_ | with_reducible refine Below.setCell ?_ ?_ _ | omega | (simp; omega) | (simp; done))) q0.below
          have RO := Lib.hid q0.row
          have lW := lt_of_block aW
          clear b0 q0
          go_wp2_with fail
          refine (CF.out w0 (HH.out.below K0)).mono ?_
          rintro e w1 ⟨rfl, k1⟩
          have K1 := below_next K0 k1
          have a1 := carryB k1 lW aW
          have c1 := cell_of_block a1
          replace RO := Lib.hid (RO.out.below k1)
          clear aW k1 K0 lW
          go_wp2_with fail
          refine (l1Ok_c r.c r.n r.o r.x r.y w1).mono ?_
          rintro e w2 ⟨rfl, k2⟩
          have K2 := below_next K1 k2
          have a2 := carryB k2 (lt_of_block a1) a1
          have c2 := cell_of_block a2
          replace RO := Lib.hid (RO.out.below k2)
          clear k2 K1 c1 a1
          rw [hok]
          go_wp2_with fail
          refine (l1None_c r.c r.n r.o r.x r.y w2).mono ?_
          rintro e w3 ⟨rfl, k3⟩
          have K3 := below_next K2 k3
          have a3 := carryB k3 (lt_of_block a2) a2
          have c3 := cell_of_block a3
          replace RO := Lib.hid (RO.out.below k3)
          clear k3 K2 c2 a2
          rw [hno]
          go_wp2_with fail
          refine bodyPost_ret (v := .tuple #[.slice aO n cO, .bool false]) (by simp [results, Tryd.results36, go_sem]) rfl ?_
          rw [HP.out]
          have hro := RO.out.low (B' := w.heap.size) (by omega)
          unfold AddGot
          simp only
          rw [HZ.out]
          exact ⟨aO, cO, rfl, hro, K3⟩
  · have HP := Lib.hid (addL_no (xs := xs) (r := r) (.inl (by rw [HZ.out]; exact hf)))
    have hlt : far xs < n := by omega
    have CF := Lib.hid (fun V h => l7Far_c a n cap xs V h (by omega))
    clear hf h60 hzl hfl
    generalize far xs = fa at *
    go_enter Tryd.func36, Tryd.ntmps36
    go_wp2_with (at_builtin; refine wpList_append_new (w.heap.size + 1) rfl _ _ rfl eltEntry rfl rfl (HRR.out.below (by repeat' (first | with_reducible exact Below.refl _ _ | with_reducible assumption | with_reducible refine Below.alloc ?_ ?_ _ | with_reducible refine Below.drew ?_ | with_reducible refine Below.setCell ?_ ?_ _ | omega | (simp; omega) | (simp; done)))) HZ.out (by simp only [maxLen]; omega) (by omega) (by simp <;> omega) ?_)
    intro aO cO w0 q0
    have b0 := q0.below.block w.heap.size (by simp <;> omega)
    have aW := b0.trans (show _ = some (.cells #[.int .i64 r.c, .int .i64 r.n, .int .i64 r.o, .int .i64 r.x, .int .i64 r.y] 42 (0, 0)) from by rw [Below.heap_alloc _ _ _ (by simp)]; exact heap_alloc_new w _)
    have K0 : Below w.heap.size w w0 := below_next (by repeat' (first | with_reducible exact Below.refl _ _ | with_reducible assumption | with_reducible refine Below.alloc ?_ ?_ _ | with_reducible refine Below.drew ?_ | with_reducible refine Below.setCell ?_ ?_ _ | omega | (simp; omega) | (simp; done))) q0.below
    have RO := Lib.hid q0.row
    have lW := lt_of_block aW
    clear b0 q0
    go_wp2_with fail
    refine (CF.out w0 (HH.out.below K0)).mono ?_
    rintro e w1 ⟨rfl, k1⟩
    have K1 := below_next K0 k1
    have a1 := carryB k1 lW aW
    have c1 := cell_of_block a1
    replace RO := Lib.hid (RO.out.below k1)
    clear aW k1 K0 lW
    go_wp2_with fail
    refine bodyPost_ret (v := .tuple #[.slice aO n cO, .bool false]) (by simp [results, Tryd.results36, go_sem]) rfl ?_
    rw [HP.out]
    have hro := RO.out.low (B' := w.heap.size) (by omega)
    unfold AddGot
    simp only
    rw [HZ.out]
    exact ⟨aO, cO, rfl, hro, K1⟩
end Go.Proofs.YtbfnilfkhonpaaaDoor
