/- Contract of the program's LedgerPut; condition: the package variables as listed. -/
import Derived.Test.YtbfnilfkhonpaaaDoorPutL
namespace Go.Proofs.YtbfnilfkhonpaaaDoor
open Go.RowKit Go.Joins

set_option maxRecDepth 100000 in
set_option maxHeartbeats 4000000 in
theorem LedgerPut_c (a : Option Addr) (n cap : Nat) (zs : List En) (w : World) (E : Env w) (h : IsSl w (.slice a n cap) 6 En.cs zs) (hn : n ≤ 16777216) :
    Calls Tryd.prog 22 #[.slice a n cap] w fun e w' => e = .returned (.string ⟨(ledPut zs).toArray⟩) ∧ Below w.heap.size w w' := by
  obtain ⟨hzl, hlc, hm, hr⟩ := h.bounds
  have HH := Lib.hid h
  have EE := Lib.hid E
  have HR := Lib.hid hr
  have HZ := Lib.hid hzl
  clear hr h E hzl
  unfold maxLen at hm
  have HG := Lib.hid (ledger_c a n cap zs w EE.out HH.out hn)
  by_cases hf : far zs = n
  · have HL : Hid (ledPut zs = rowsText zs) := by show ledPut zs = _; unfold ledPut; rw [HZ.out, if_pos hf]
    have h60 := far_le60 zs
    have HB := Lib.hid (fun k (hk : k < zs.length) => s_bounds (hf.trans HZ.out.symm) hk)
    have HT := Lib.hid (rowsText_len (hf.trans HZ.out.symm))
    rw [decide_eq_true hf] at HG
    rw [hf] at h60
    clear hf
    go_enter Tryd.func22, Tryd.ntmps22
    go_wp2_with fail
    refine HG.out.mono ?_
    rintro e w1 ⟨rfl, k1⟩
    have hsz : w.heap.size ≤ w1.heap.size := k1.size
    have hbu := Lib.IsBuilderF.of (Lib.fresh_isBuilder 79 5 w1)
    have kU := k1.alloc k1.size (.cells #[.pointer none, .slice none 0 0] 79)
    have sU : w1.heap.size < (w1.alloc (.cells #[.pointer none, .slice none 0 0] 79)).heap.size := by simp
    go_wp2_with fail
    go_loopw [11] (fun i wr => ∃ k : Nat, k ≤ n ∧ i = .int .i64 k ∧ Lib.IsBuilderF 79 5 w1.heap.size w1.heap.size (Lib.byteCells (rowsText (zs.take k))) wr ∧ Below w.heap.size w wr ∧ w1.heap.size < wr.heap.size) (fun i _ => n - (intOf i).toNat)
    case atStart => exact ⟨0, Nat.zero_le _, rfl, hbu, kU, sU⟩
    case round =>
      obtain ⟨k, hk, rfl, hbu, hbel, hsr⟩ := hrel
      have HBel := Lib.hid hbel
      have HU := Lib.hid hbu
      clear hbu
      by_cases hlt : k < n
      · have hkz : k < zs.length := by rw [HZ.out]; exact hlt
        have hk1 : (k : Int) < (n : Int) := by omega
        have hk0 : (0 : Int) ≤ (k : Int) := by omega
        obtain ⟨b0, o0, rfl, hl0, hc0⟩ := six_at HR.out k hkz
        obtain ⟨c0, c1, c2, c3, c4, c5⟩ := hc0 wr hbel
        have HS := Lib.hid (rowsText_snoc hkz)
        obtain ⟨hs0, hs1⟩ := HB.out k hkz
        have lo := HT.out k (by rw [HZ.out]; exact hk)
        clear hc0
        generalize zs[k] = z at *
        have cC := Lib.hid (fun V E => Itoa_c z.s V (by omega) (by omega) E)
        have cR := Lib.hid (fun V E => ReqPut_c z.r.c z.r.n z.r.o z.r.x z.r.y V E)
        have lc := itoa_len z.s (by omega) (by omega)
        have lr := putLen z.r
        have ez : (⟨z.r.c, z.r.n, z.r.o, z.r.x, z.r.y⟩ : Rq) = z.r := rfl
        rw [ez] at cR
        generalize Lib.itoa z.s = sc at *
        generalize reqPutL z.r = sr at *
        generalize rowsText (zs.take k) = so at *
        clear hs0 hs1 ez
        go_wp2_with fail
        obtain ⟨W, hW, sW, aW, kW⟩ := blocks1 wr (.cells #[.int .i64 z.r.c, .int .i64 z.r.n, .int .i64 z.r.o, .int .i64 z.r.x, .int .i64 z.r.y, .int .i64 z.s] 44)
        rw [← hW]
        clear hW c0 c1 c2 c3 c4 c5
        have hcd := cell_of_block (show W.drew.heap[wr.heap.size]? = _ from aW)
        have hl : wr.heap.size < W.drew.heap.size := by simp; omega
        have KW := below_next HBel.out (below_next kW (Below.drew (Below.refl _ _)))
        have U1 := Lib.hid (builder_below HU.out (below_next kW (Below.drew (Below.refl W.heap.size W))))
        refine wp_region_held_drew (S := fun w' => ∀ i, w'.cell? ⟨wr.heap.size, i, none⟩ = (#[.int .i64 z.r.c, .int .i64 z.r.n, .int .i64 z.r.o, .int .i64 z.r.x, .int .i64 z.r.y, .int .i64 z.s] : Array Value)[i]?) (by kernel_rfl) hcd (fun hHeld => ?_)
        clear kW hcd
        refine wpAnyH_take (i := 0) (oi := _) (v := ?_) (by (simp only [List.getElem?_toArray]; rfl)) (by kernel_rfl) (by kernel_rfl) (by kernel_rfl) (by exact fun _ _ _ h => h) (Or.inl ⟨by rfl, ?_⟩) (by assumption) ?_
        rotate_left
        · intro wS hSw
          go_simp
          all_goals first | with_reducible rfl | rw [if_neg (by omega)]
        simp only [Act.put, List.setIfInBounds_toArray, List.set]
        refine wpAnyH_take (i := 1) (oi := _) (v := ?_) (by (simp only [List.getElem?_toArray]; rfl)) (by kernel_rfl) (by kernel_rfl) (by kernel_rfl) (by exact fun _ _ _ h => h) (Or.inl ⟨by rfl, ?_⟩) (by assumption) ?_
        rotate_left
        · intro wS hSw
          go_simp
          all_goals first | with_reducible rfl | rw [if_neg (by omega)]
        simp only [Act.put, List.setIfInBounds_toArray, List.set]
        refine wpAnyH_take (i := 4) (oi := _) (v := ?_) (by (simp only [List.getElem?_toArray]; rfl)) (by kernel_rfl) (by kernel_rfl) (by kernel_rfl) (by exact fun _ _ _ h => h) (Or.inl ⟨by rfl, ?_⟩) (by assumption) ?_
        rotate_left
        · intro wS hSw
          go_simp
          all_goals first | with_reducible rfl | rw [if_neg (by omega)]
        simp only [Act.put, List.setIfInBounds_toArray, List.set]
        refine wpAnyH_take (i := 5) (oi := _) (v := ?_) (by (simp only [List.getElem?_toArray]; rfl)) (by kernel_rfl) (by kernel_rfl) (by kernel_rfl) (by exact fun _ _ _ h => h) (Or.inl ⟨by rfl, ?_⟩) (by assumption) ?_
        rotate_left
        · intro wS hSw
          go_simp
          all_goals first | with_reducible rfl | rw [if_neg (by omega)]
        simp only [Act.put, List.setIfInBounds_toArray, List.set]
        refine wpAnyH_ready (rs := [2]) (by kernel_rfl) (by simp) ?_
        refine AllReadyH.cons (o := _) (by (simp only [List.getElem?_toArray]; rfl)) (fun K hK => ?_) AllReadyH.nil
        go_simp
        refine (cC.out W.drew (EE.out.below KW)).mono ?_
        rintro e w2 ⟨rfl, k2⟩
        have h2 : ∀ i, w2.cell? ⟨wr.heap.size, i, none⟩ = (#[.int .i64 z.r.c, .int .i64 z.r.n, .int .i64 z.r.o, .int .i64 z.r.x, .int .i64 z.r.y, .int .i64 z.s] : Array Value)[i]? := fun i => ((bcell k2).1 _ i hl).trans (hHeld i)
        have l2 : wr.heap.size < w2.heap.size := Nat.lt_of_lt_of_le hl k2.size
        have K2 := below_next KW k2
        have U2 := Lib.hid (builder_below U1.out k2)
        have a2 := Lib.hid (carryB k2 hl (show W.drew.heap[wr.heap.size]? = _ from aW))
        clear k2 aW
        refine hK.out _ _ h2 (fun hHeld => ?_)
        clear hK K
        try simp only [Act.put, List.setIfInBounds_toArray, List.set]
        refine wpAnyH_take (i := 3) (oi := _) (v := ?_) (by (simp only [List.getElem?_toArray]; rfl)) (by kernel_rfl) (by kernel_rfl) (by kernel_rfl) (by exact fun _ _ _ h => h) (Or.inl ⟨by rfl, ?_⟩) (by assumption) ?_
        rotate_left
        · intro wS hSw
          go_simp
          all_goals first | with_reducible rfl | rw [if_neg (by omega)]
        simp only [Act.put, List.setIfInBounds_toArray, List.set]
        refine wpAnyH_ready (rs := [6]) (by kernel_rfl) (by simp) ?_
        refine AllReadyH.cons (o := _) (by (simp only [List.getElem?_toArray]; rfl)) (fun K hK => ?_) AllReadyH.nil
        go_simp
        refine (cR.out w2 (EE.out.below K2)).mono ?_
        rintro e w3 ⟨rfl, k3⟩
        have h3 : ∀ i, w3.cell? ⟨wr.heap.size, i, none⟩ = (#[.int .i64 z.r.c, .int .i64 z.r.n, .int .i64 z.r.o, .int .i64 z.r.x, .int .i64 z.r.y, .int .i64 z.s] : Array Value)[i]? := fun i => ((bcell k3).1 _ i l2).trans (h2 i)
        have l3 : wr.heap.size < w3.heap.size := Nat.lt_of_lt_of_le l2 k3.size
        have K3 := below_next K2 k3
        have U3 := Lib.hid (builder_below U2.out k3)
        have a3 := Lib.hid (carryB k3 l2 a2.out)
        clear k3 hHeld a2
        refine hK.out _ _ h3 (fun hHeld => ?_)
        clear hK K
        try simp only [Act.put, List.setIfInBounds_toArray, List.set]
        refine wpAnyH_take (i := 7) (oi := _) (v := ?_) (by (simp only [List.getElem?_toArray]; rfl)) (by kernel_rfl) (by kernel_rfl) (by kernel_rfl) (by exact fun _ _ _ h => h) (Or.inl ⟨by rfl, ?_⟩) (by assumption) ?_
        rotate_left
        · intro wS hSw
          go_simp
          all_goals first | with_reducible rfl | rw [if_neg (by omega)]
        simp only [Act.put, List.setIfInBounds_toArray, List.set]
        refine wpAnyH_take (i := 8) (oi := _) (v := ?_) (by (simp only [List.getElem?_toArray]; rfl)) (by kernel_rfl) (by kernel_rfl) (by kernel_rfl) (by exact fun _ _ _ h => h) (Or.inl ⟨by rfl, ?_⟩) (by assumption) ?_
        rotate_left
        · intro wS hSw
          go_simp
          all_goals first | with_reducible rfl | rw [if_neg (by omega)]
        simp only [Act.put, List.setIfInBounds_toArray, List.set]
        refine wpAnyH_ready (rs := [9]) (by kernel_rfl) (by simp) ?_
        refine AllReadyH.cons (o := _) (by (simp only [List.getElem?_toArray]; rfl)) (fun K hK => ?_) AllReadyH.nil
        go_simp
        have et : (⟨sc.toArray⟩ : ByteArray) ++ ⟨#[32]⟩ ++ ⟨sr.toArray⟩ ++ ⟨#[10]⟩ = ⟨(sc ++ [32] ++ sr ++ [10]).toArray⟩ := by
          apply ByteArray.ext
          simp
        rw [et]
        have esz : (⟨(sc ++ [32] ++ sr ++ [10]).toArray⟩ : ByteArray).size = (sc ++ [32] ++ sr ++ [10]).length := rfl
        have hl4 : (Lib.byteCells so).length + (⟨(sc ++ [32] ++ sr ++ [10]).toArray⟩ : ByteArray).size ≤ 140737488355328 := by
          rw [Lib.byteCells_length, esz]
          simp only [List.length_append, List.length_cons, List.length_nil]
          omega
        have hB3 : w1.heap.size ≤ w3.heap.size := by omega
        have hcW := WriteString_c w1.heap.size w1.heap.size (Lib.byteCells so) ⟨(sc ++ [32] ++ sr ++ [10]).toArray⟩ w3 U3.out hl4 hB3
        clear esz hl4 hHeld
        refine hcW.mono ?_
        rintro e w4 ⟨rfl, u4, k4, o4⟩
        have h4 : ∀ i, w4.cell? ⟨wr.heap.size, i, none⟩ = (#[.int .i64 z.r.c, .int .i64 z.r.n, .int .i64 z.r.o, .int .i64 z.r.x, .int .i64 z.r.y, .int .i64 z.s] : Array Value)[i]? := cell_of_block (o4 _ _ a3.out (by simp; omega) (fun c fz e => by injection e with _ e2 _; exact absurd e2 (by decide)))
        have K4 : Below w.heap.size w w4 := K3.trans (k4.mono hsz)
        have u5 : Lib.IsBuilderF 79 5 w1.heap.size w1.heap.size (Lib.byteCells (rowsText (zs.take (k + 1)))) w4 := by
          rw [HS.out]
          have e2 : Lib.byteCells so ++ Lib.strCells ⟨(sc ++ [32] ++ sr ++ [10]).toArray⟩ = Lib.byteCells (so ++ (sc ++ [32] ++ sr ++ [10])) := by
            rw [Lib.strCells_eq]
            simp only [Lib.byteCells_append, List.append_assoc]
          rw [← e2]
          exact u4
        have HU5 := Lib.hid u5
        have l4 : w1.heap.size < w4.heap.size := Nat.lt_of_lt_of_le (by omega) k4.size
        clear u4 u5 k4 o4 et
        refine hK.out _ _ h4 (fun hHeld => ?_)
        clear hK K
        try simp only [Act.put, List.setIfInBounds_toArray, List.set]
        refine wpAnyH_done (by kernel_rfl) ?_ _
        go_wp2_with fail
        go_roundw
        case rel => exact ⟨k + 1, by omega, by go_num, HU5.out, K4, l4⟩
        case measure => simp [intOf]; omega
      · have e : zs.take k = zs := List.take_of_length_le (by rw [HZ.out]; omega)
        rw [e] at HU
        clear e
        have hle : w1.heap.size ≤ wr.heap.size := by omega
        go_wp2_with fail
        refine (BuilderString_c w1.heap.size w1.heap.size (rowsText zs) wr HU.out hle).mono ?_
        rintro e w4 ⟨rfl, k4⟩
        go_wp2_with fail
        go_ret
        exact ⟨ret_str (by rw [HL.out]), hbel.trans (k4.mono hsz)⟩
  · have HL : Hid (ledPut zs = []) := by show ledPut zs = _; unfold ledPut; rw [HZ.out, if_neg hf]
    rw [decide_eq_false hf] at HG
    clear hf
    go_enter Tryd.func22, Tryd.ntmps22
    go_wp2_with fail
    refine HG.out.mono ?_
    rintro e w1 ⟨rfl, k1⟩
    go_wp2_with fail
    go_ret
    exact ⟨ret_str (by rw [HL.out]), k1⟩
end Go.Proofs.YtbfnilfkhonpaaaDoor
