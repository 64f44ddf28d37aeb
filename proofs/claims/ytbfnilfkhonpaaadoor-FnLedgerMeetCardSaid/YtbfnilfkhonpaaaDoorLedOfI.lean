/- Contract of the program's LedgerOf; condition: the package variables as listed. -/
import Derived.Test.YtbfnilfkhonpaaaDoorLedOf
namespace Go.Proofs.YtbfnilfkhonpaaaDoor
open Go.RowKit Go.Joins

/-- Rows in a list of their own, without room. -/
def RowsOwn (zs : List En) (w : World) (e : Ending) (w' : World) : Prop :=
  ∃ (a' : Option Addr), e = .returned (.slice a' zs.length zs.length) ∧ Row w' w.heap.size 44 a' zs.length 6 En.cs zs ∧ Below w.heap.size w w'
theorem ledOf_long {rs : List Rq} (h : 60 < rs.length) : ledOf rs = [] := by unfold ledOf; rw [if_neg (fun q => by omega)]
theorem ledOf_not {rs : List Rq} (h : rs.all good = false) : ledOf rs = [] := by unfold ledOf; rw [if_neg (fun q => by rw [q.2] at h; cases h)]
theorem Row.slE {α : Type} {w : World} {B e cap k n : Nat} {a : Option Addr} {R : α → List Value} {zs : List α} (h : Row w B e a cap k R zs) (hR : ∀ z, (R z).length = k) (hn : zs.length = n) : IsSl w (.slice a n cap) k R zs := hn ▸ h.sl hR
theorem all_take' {rs : List Rq} (k : Nat) (h : rs.all good = true) : (rs.take k).all good = true := by
  rw [List.all_eq_true] at h ⊢
  exact fun z hz => h z (List.mem_of_mem_take hz)

set_option maxRecDepth 100000 in
set_option maxHeartbeats 4000000 in
theorem LedgerOf_c (a : Option Addr) (n cap : Nat) (rs : List Rq) (w : World) (E : Env w) (h : IsSl w (.slice a n cap) 5 Rq.cs rs) (hn : n ≤ 16777216) :
    Calls Tryd.prog 33 #[.slice a n cap] w (RowsOwn (ledOf rs) w) := by
  obtain ⟨hzl, hlc, hm, hr⟩ := h.bounds
  have HH := Lib.hid h
  have EE := Lib.hid E
  have HR := Lib.hid hr
  have HZ := Lib.hid hzl
  have HN := Lib.hid (show RowsOwn [] w (.returned (.slice none 0 0)) w from ⟨none, rfl, Row.nil _ _ _ _ _ _, Below.refl _ _⟩)
  clear hr h E hzl
  unfold maxLen at hm
  by_cases h60 : (60 : Int) < n
  · have HL := Lib.hid (ledOf_long (rs := rs) (by rw [HZ.out]; omega))
    go_enter Tryd.func33, Tryd.ntmps33
    go_wp2_with fail
    go_ret
    rw [HL.out]
    exact HN.out
  · have hc := allOk_c a rs n cap w HH.out HZ.out
    cases hg : rs.all good with
    | false =>
      have HL := Lib.hid (ledOf_not hg)
      rw [hg] at hc
      have HC := Lib.hid hc
      clear hc hg
      go_enter Tryd.func33, Tryd.ntmps33
      go_wp2_with fail
      refine HC.out.mono ?_
      rintro e w1 ⟨rfl, k1⟩
      go_wp2_with fail
      go_ret
      rw [HL.out]
      exact ⟨none, rfl, Row.nil _ _ _ _ _ _, k1⟩
    | true =>
      have HGA := Lib.hid hg
      rw [hg] at hc
      have HC := Lib.hid hc
      clear hc hg
      go_enter Tryd.func33, Tryd.ntmps33
      go_wp2_with fail
      refine HC.out.mono ?_
      rintro e w1 ⟨rfl, k1⟩
      go_wp2_with fail
      go_loopw [3, 16] (fun out i wr => ∃ (k : Nat) (a' : Option Addr) (cap' : Nat), k ≤ n ∧ i = .int .i64 k ∧ out = .slice a' k cap' ∧ Row wr w.heap.size 44 a' cap' 6 En.cs (rowsOf (rs.take k)) ∧ Below w.heap.size w wr) (fun _ i _ => n - (intOf i).toNat)
      case atStart => exact ⟨0, none, 0, Nat.zero_le _, rfl, rfl, Row.nil _ _ _ _ _ _, k1⟩
      case round =>
        obtain ⟨k, a', cap', hk, rfl, rfl, hrow, hbel⟩ := hrel
        have HROW := Lib.hid hrow
        clear hrow
        by_cases hlt : k < n
        · have hkz : k < rs.length := by rw [HZ.out]; exact hlt
          have hk1 : (k : Int) < (n : Int) := by omega
          have hk0 : (0 : Int) ≤ (k : Int) := by omega
          obtain ⟨b0, o0, rfl, hl0, hc0⟩ := five_at HR.out k hkz
          obtain ⟨c0, c1, c2, c3, c4⟩ := hc0 wr hbel
          have hl := lastSum_rowsOf (rs := rs.take k) (by rw [List.length_take]; omega) (all_take' k HGA.out)
          have hlen : (rowsOf (rs.take k)).length = k := by rw [rowsOf_length, List.length_take]; omega
          have HLEN := Lib.hid hlen
          have HLS := Lib.hid hl
          have HSN := Lib.hid (show rowsOf (rs.take (k + 1)) = rowsOf (rs.take k) ++ [⟨rs[k], sumL (lastSum (rowsOf (rs.take k))) ((k : Int) + 1) rs[k]⟩] by
            have el : (rs.take k).length = k := by rw [List.length_take]; omega
            rw [List.take_succ_eq_append_getElem hkz, rowsOf_snoc, el])
          clear hlen hc0 hl
          generalize rs[k] = z at *
          generalize rowsOf (rs.take k) = zs at *
          have hsz : w.heap.size ≤ wr.heap.size := hbel.size
          have HIS := Lib.hid (HROW.out.slE six_len HLEN.out)
          go_wp2_with fail
          obtain ⟨W, hW, sW, aW, kW⟩ := blocks1 wr (.cells #[.int .i64 z.c, .int .i64 z.n, .int .i64 z.o, .int .i64 z.x, .int .i64 z.y] 42)
          rw [← hW]
          clear hW c0 c1 c2 c3 c4
          have hcd := cell_of_block (show W.drew.heap[wr.heap.size]? = _ from aW)
          have hlW : wr.heap.size < W.drew.heap.size := by simp; omega
          have kWd := below_next kW (Below.drew (Below.refl W.heap.size W))
          have KW := below_next hbel kWd
          have aWd := Lib.hid (show W.drew.heap[wr.heap.size]? = _ from aW)
          refine wp_region_held_drew (S := fun w' => ∀ i, w'.cell? ⟨wr.heap.size, i, none⟩ = (#[.int .i64 z.c, .int .i64 z.n, .int .i64 z.o, .int .i64 z.x, .int .i64 z.y] : Array Value)[i]?) (by kernel_rfl) hcd (fun hHeld => ?_)
          have HKD := Lib.hid kWd
          clear aW kW hcd kWd
          refine wpAnyH_take (i := 0) (oi := _) (v := ?_) (by (simp only [List.getElem?_toArray]; rfl)) (by kernel_rfl) (by kernel_rfl) (by kernel_rfl) (by exact fun _ _ _ h => h) (Or.inl ⟨by rfl, ?_⟩) (by assumption) ?_
          rotate_left
          · intro wS hSw
            go_simp
            all_goals first | with_reducible rfl | rw [if_neg (by omega)]
          simp only [Act.put, List.setIfInBounds_toArray, List.set]
          refine wpAnyH_take (i := 1) (oi := _) (v := ?_) (by (simp only [List.getElem?_toArray]; rfl)) (by kernel_rfl) (by kernel_rfl) (by kernel_rfl) (by exact fun _ _ _ h => h) (Or.inl ⟨by rfl, ?_⟩) (by assumption) ?_
          rotate_left
          · intro wS hSw
            go_simp
            all_goals first | with_reducible rfl | rw [if_neg (by omega)]
          simp only [Act.put, List.setIfInBounds_toArray, List.set]
          refine wpAnyH_take (i := 2) (oi := _) (v := ?_) (by (simp only [List.getElem?_toArray]; rfl)) (by kernel_rfl) (by kernel_rfl) (by kernel_rfl) (by exact fun _ _ _ h => h) (Or.inl ⟨by rfl, ?_⟩) (by assumption) ?_
          rotate_left
          · intro wS hSw
            go_simp
            all_goals first | with_reducible rfl | rw [if_neg (by omega)]
          simp only [Act.put, List.setIfInBounds_toArray, List.set]
          refine wpAnyH_take (i := 3) (oi := _) (v := ?_) (by (simp only [List.getElem?_toArray]; rfl)) (by kernel_rfl) (by kernel_rfl) (by kernel_rfl) (by exact fun _ _ _ h => h) (Or.inl ⟨by rfl, ?_⟩) (by assumption) ?_
          rotate_left
          · intro wS hSw
            go_simp
            all_goals first | with_reducible rfl | rw [if_neg (by omega)]
          simp only [Act.put, List.setIfInBounds_toArray, List.set]
          refine wpAnyH_ready (rs := [4]) (by kernel_rfl) (by simp) ?_
          refine AllReadyH.cons (o := _) (by (simp only [List.getElem?_toArray]; rfl)) (fun K hK => ?_) AllReadyH.nil
          go_simp
          refine (link_c a' k cap' zs z W.drew (EE.out.below KW) (HIS.out.below HKD.out) (by omega) HLS.out.1 (by have := HLS.out.2; omega)).mono ?_
          rintro e w2 ⟨rfl, k2⟩
          have h2 : ∀ i, w2.cell? ⟨wr.heap.size, i, none⟩ = (#[.int .i64 z.c, .int .i64 z.n, .int .i64 z.o, .int .i64 z.x, .int .i64 z.y] : Array Value)[i]? := fun i => ((bcell k2).1 _ i hlW).trans (hHeld i)
          have a2 := Lib.hid (carryB k2 hlW aWd.out)
          have K2 := below_next KW k2
          have HROW2 := Lib.hid ((HROW.out.below HKD.out).below k2)
          obtain ⟨sm, hsm⟩ : ∃ sm : Int, sm = (sumL (lastSum zs) ((k : Int) + 1) z : Int) := ⟨_, rfl⟩
          have HSM := Lib.hid hsm
          rw [← hsm]
          have hl2 : wr.heap.size < w2.heap.size := Nat.lt_of_lt_of_le hlW k2.size
          clear hsm k2 hHeld
          refine hK.out _ _ h2 (fun hHeld => ?_)
          clear hK K
          try simp only [Act.put, List.setIfInBounds_toArray, List.set]
          refine wpAnyH_take (i := 5) (oi := _) (v := ?_) (by (simp only [List.getElem?_toArray]; rfl)) (by kernel_rfl) (by kernel_rfl) (by kernel_rfl) (by exact fun _ _ _ h => h) (Or.inl ⟨by rfl, ?_⟩) (by assumption) ?_
          rotate_left
          · intro wS hSw
            go_simp
            all_goals first | with_reducible rfl | rw [if_neg (by omega)]
          simp only [Act.put, List.setIfInBounds_toArray, List.set]
          refine wpAnyH_ready (rs := [6]) (by kernel_rfl) (by simp) ?_
          refine AllReadyH.cons (o := _) (by (simp only [List.getElem?_toArray]; rfl)) (fun K hK => ?_) AllReadyH.nil
          go_simp
          obtain ⟨V, hV, sV, aV, kV⟩ := blocks1 w2 (.cells #[.int .i64 z.c, .int .i64 z.n, .int .i64 z.o, .int .i64 z.x, .int .i64 z.y, .int .i64 sm] 44)
          have hrv : RowsAt V (some ⟨w2.heap.size, 0, none⟩) 6 En.cs [⟨z, sm⟩] := by rw [hV]; exact rowsAt_oneE w2 ⟨z, sm⟩ _
          rw [← hV]
          have h3 : ∀ i, V.cell? ⟨wr.heap.size, i, none⟩ = (#[.int .i64 z.c, .int .i64 z.n, .int .i64 z.o, .int .i64 z.x, .int .i64 z.y] : Array Value)[i]? := fun i => ((bcell kV).1 _ i hl2).trans (h2 i)
          have a3 := Lib.hid (carryB kV hl2 a2.out)
          have KV := below_next K2 kV
          have HROWV := Lib.hid (HROW2.out.below kV)
          have HRV := Lib.hid hrv
          have hszV : w.heap.size ≤ V.heap.size := KV.size
          have hrV : wr.heap.size < V.heap.size := by omega
          have HBL := Lib.hid (fun g (hg : rowBlk a' cap' = some g) => (HROW.out.blk hg))
          clear hV kV aV hrv K2 h2
          refine hK.out _ _ h3 (fun hHeld => ?_)
          clear hK K
          try simp only [Act.put, List.setIfInBounds_toArray, List.set]
          refine wpAnyH_ready (rs := [7]) (by kernel_rfl) (by simp) ?_
          refine AllReadyH.cons (o := _) (by (simp only [List.getElem?_toArray]; rfl)) (fun K hK => ?_) AllReadyH.nil
          refine step_append_elt (by rfl) (.tmp 20) (.tmp 26) (by rfl) (k + 1) eltEntry (by rfl) (by rfl) HROWV.out HRV.out HLEN.out rfl rfl (by simp only [maxLen]; omega) (by omega) hszV ?_
          intro a5 cap5 w5 q5
          have b5 := q5.grown.block wr.heap.size hrV (fun e => by have := (HBL.out _ e.symm).2; omega)
          have h5 : ∀ i, w5.cell? ⟨wr.heap.size, i, none⟩ = (#[.int .i64 z.c, .int .i64 z.n, .int .i64 z.o, .int .i64 z.x, .int .i64 z.y] : Array Value)[i]? := cell_of_block (b5.trans a3.out)
          have K5 := q5.belowB HROWV.out KV (Nat.le_refl _) hszV
          have H5 := Lib.hid (show Row w5 w.heap.size 44 a5 cap5 6 En.cs (rowsOf (rs.take (k + 1))) by rw [HSN.out, ← HSM.out]; exact q5.row)
          clear b5 q5
          refine hK.out _ _ h5 (fun hHeld => ?_)
          clear hK K
          try simp only [Act.put, List.setIfInBounds_toArray, List.set]
          refine wpAnyH_take (i := 8) (oi := _) (v := ?_) (by (simp only [List.getElem?_toArray]; rfl)) (by kernel_rfl) (by kernel_rfl) (by kernel_rfl) (by exact fun _ _ _ h => h) (Or.inl ⟨by rfl, ?_⟩) (by assumption) ?_
          rotate_left
          · intro wS hSw
            go_simp
            all_goals first | with_reducible rfl | rw [if_neg (by omega)]
          simp only [Act.put, List.setIfInBounds_toArray, List.set]
          refine wpAnyH_done (by kernel_rfl) ?_ _
          go_wp2_with fail
          go_roundw
          case rel => exact ⟨k + 1, a5, cap5, by omega, by go_num, rfl, H5.out, K5⟩
          case measure => simp [intOf]; omega
        · have hkn : k = n := by omega
          have e : rs.take k = rs := List.take_of_length_le (by rw [HZ.out]; omega)
          have hled : ledOf rs = rowsOf rs := by
            unfold ledOf
            rw [if_pos ⟨by rw [HZ.out]; omega, HGA.out⟩]
          rw [e] at HROW
          have HE := Lib.hid hled
          have hl : (rowsOf rs).length = k := by rw [rowsOf_length, HZ.out]; omega
          have HL := Lib.hid hl
          have hle := HROW.out.len
          have hmx := HROW.out.max
          rw [hl] at hle
          have HROWC := Lib.hid HROW.out.clip
          clear e hled hl hkn
          go_wp2_with fail
          refine (slClipEntry_c a' k cap' wr hle hmx).mono ?_
          rintro e w3 ⟨rfl, rfl⟩
          go_wp2_with fail
          go_ret
          unfold RowsOwn
          rw [HE.out]
          have hrc := HROWC.out
          rw [HL.out] at hrc ⊢
          exact ⟨a', rfl, hrc, hbel⟩
end Go.Proofs.YtbfnilfkhonpaaaDoor
