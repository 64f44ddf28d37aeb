/- Contracts of LedgerOf, the reference's and the program's; condition: the package variables as listed. -/
import Derived.Test.YtbfnilfkhonpaaaDoorFarI
import Derived.Test.YtbfnilfkhonpaaaDoorCloneE
namespace Go.Proofs.YtbfnilfkhonpaaaDoor
open Go.RowKit Go.Joins

/-- Rows in a list of their own. -/
def RowsGot (zs : List En) (w : World) (e : Ending) (w' : World) : Prop :=
  ∃ (a' : Option Addr) (cap' : Nat), e = .returned (.slice a' zs.length cap') ∧ Row w' w.heap.size 44 a' cap' 6 En.cs zs ∧ Below w.heap.size w w'
theorem rowsOf_length (rs : List Rq) : (rowsOf rs).length = rs.length := ofAux_length rs 0 0
theorem lastSum_rowsOf {rs : List Rq} (h60 : rs.length ≤ 60) (hg : rs.all good = true) : 0 ≤ lastSum (rowsOf rs) ∧ lastSum (rowsOf rs) < 4294967296 := by
  have h := far_rowsOf rs h60 hg
  have hl := rowsOf_length rs
  unfold lastSum
  rw [hl]
  exact prevAt_bounds (fun j hj => (far_is (rowsOf rs)).2.1 j (by omega))
theorem all_take {rs : List Rq} {k : Nat} (h : ∀ j (hj : j < rs.length), j < k → good rs[j] = true) : (rs.take k).all good = true := by
  rw [List.all_eq_true]
  intro z hz
  obtain ⟨j, hj, rfl⟩ := List.getElem_of_mem hz
  have hj2 : j < k ∧ j < rs.length := by simp at hj; omega
  rw [List.getElem_take]
  exact h j hj2.2 hj2.1
theorem ledOf_bad {rs : List Rq} {k : Nat} (hk : k < rs.length) (h : good rs[k] = false ∨ 60 ≤ k) : ledOf rs = [] := by
  unfold ledOf
  rw [if_neg]
  rintro ⟨h1, h2⟩
  rcases h with h | h
  · rw [List.all_eq_true] at h2
    have := h2 _ (List.getElem_mem hk)
    rw [h] at this
    cases this
  · omega
theorem Appended.belowB {α : Type} {w w' : World} {B B0 e cap cap' k : Nat} {a a' : Option Addr} {R : α → List Value} {zs zs0 : List α} (h : Appended w w' B e a a' cap cap' k R zs) (hrow : Row w B e a cap k R zs0) {w0 : World} (hb : Below B0 w0 w) (hB : B0 ≤ B) (hs : B0 ≤ w.heap.size) : Below B0 w0 w' :=
  hb.grown h.grown hs (fun g hg => Nat.le_trans hB (hrow.blk hg).1)

set_option maxRecDepth 100000 in
set_option maxHeartbeats 4000000 in
theorem sLedgerOf_c (a : Option Addr) (n cap : Nat) (rs : List Rq) (w : World) (h : IsSl w (.slice a n cap) 5 Rq.cs rs) (hn : n ≤ 16777216) :
    Calls Tryd.prog 34 #[.slice a n cap] w (RowsGot (ledOf rs) w) := by
  obtain ⟨hzl, hlc, hm, hr⟩ := h.bounds
  have HR := Lib.hid hr
  have HZ := Lib.hid hzl
  clear hr h hzl
  unfold maxLen at hm
  go_enter Tryd.func34, Tryd.ntmps34
  go_wp2_with fail
  obtain ⟨W0, hW0, sW0, aW0, kW0⟩ := blocks1 w (.cells #[] 44)
  rw [← hW0]
  clear hW0 aW0
  go_loopw [3, 4, 5] (fun out s i wr => ∃ (k : Nat) (a' : Option Addr) (cap' : Nat), k ≤ n ∧ i = .int .i64 k ∧ s = .int .i64 (lastSum (rowsOf (rs.take k))) ∧ out = .slice a' k cap' ∧ Row wr w.heap.size 44 a' cap' 6 En.cs (rowsOf (rs.take k)) ∧ k ≤ 60 ∧ (∀ j (hj : j < rs.length), j < k → good rs[j] = true) ∧ Below w.heap.size w wr) (fun _ _ i _ => n - (intOf i).toNat)
  case atStart => exact ⟨0, some ⟨w.heap.size, 0, none⟩, 0, Nat.zero_le _, rfl, rfl, rfl, Row.nil _ _ _ _ _ _, by omega, fun j _ hj => absurd hj (Nat.not_lt_zero j), kW0⟩
  case round =>
    obtain ⟨k, a', cap', hk, rfl, rfl, rfl, hrow, hk60, hall, hbel⟩ := hrel
    have HROW := Lib.hid hrow
    have HA := Lib.hid hall
    clear hrow hall
    by_cases hlt : k < n
    · have hkz : k < rs.length := by rw [HZ.out]; exact hlt
      have hk1 : (k : Int) < (n : Int) := by omega
      have hk0 : (0 : Int) ≤ (k : Int) := by omega
      obtain ⟨b0, o0, rfl, hl0, hc0⟩ := five_at HR.out k hkz
      obtain ⟨c0, c1, c2, c3, c4⟩ := hc0 wr hbel
      have hl := lastSum_rowsOf (rs := rs.take k) (by simp; omega) (all_take HA.out)
      have hlen : (rowsOf (rs.take k)).length = k := by rw [rowsOf_length]; simp; omega
      have HLEN := Lib.hid hlen
      have HBAD := Lib.hid (fun q => ledOf_bad hkz q)
      have HSN := Lib.hid (show rowsOf (rs.take (k + 1)) = rowsOf (rs.take k) ++ [⟨rs[k], sumL (lastSum (rowsOf (rs.take k))) ((k : Int) + 1) rs[k]⟩] by
        have el : (rs.take k).length = k := by rw [List.length_take]; omega
        rw [List.take_succ_eq_append_getElem hkz, rowsOf_snoc, el])
      have HZK := Lib.hid (rfl : rs[k] = rs[k])
      have HGK := Lib.hid (show good rs[k] = (noneB rs[k].c rs[k].n rs[k].o rs[k].x rs[k].y || okB rs[k].c rs[k].n rs[k].o rs[k].x rs[k].y) from rfl)
      have HALL := Lib.hid (fun (hg : good rs[k] = true) (j : Nat) (hj : j < rs.length) (hjk : j < k + 1) => show good rs[j] = true by
        by_cases e : j = k
        · subst e; exact hg
        · exact HA.out j hj (by omega))
      clear hlen hc0 HZK
      generalize hz : rs[k] = z at *
      clear hz
      generalize hls : lastSum (rowsOf (rs.take k)) = ls at *
      clear hls
      generalize rowsOf (rs.take k) = zs at *
      have bad : ∀ (q : good z = false ∨ 60 ≤ k) (V : World), Below w.heap.size w V → RowsGot (ledOf rs) w (.returned (.slice (some ⟨V.heap.size, 0, none⟩) 0 0)) (V.alloc (.cells #[] 44)) := fun q V hV => by
        rw [HBAD.out q]
        exact ⟨_, 0, rfl, Row.nil _ _ _ _ _ _, hV.alloc hV.size _⟩
      have BAD := Lib.hid bad
      clear bad
      go_wp2_with fail
      refine (l1Ok_c z.c z.n z.o z.x z.y wr).mono ?_
      rintro e w1 ⟨rfl, k1⟩
      have e0 := cell_stays k1 c0
      have e1 := cell_stays k1 c1
      have e2 := cell_stays k1 c2
      have e3 := cell_stays k1 c3
      have e4 := cell_stays k1 c4
      clear c0 c1 c2 c3 c4
      cases hok : okB z.c z.n z.o z.x z.y with
      | true =>
        have hno : True := trivial
        by_cases h60 : (k : Int) < 60
        · have hkk : k < 60 := by omega
          go_wp2_with fail
          refine (l7Sum_c ls ((k : Int) + 1) z w1 (by omega) (by omega) (by omega) (by omega)).mono ?_
          rintro e w9 ⟨rfl, k9⟩
          have K9 := below_next k1 k9
          have hb9 := below_next hbel K9
          have d0 := cell_stays k9 e0
          have d1 := cell_stays k9 e1
          have d2 := cell_stays k9 e2
          have d3 := cell_stays k9 e3
          have d4 := cell_stays k9 e4
          have HROW9 := Lib.hid (HROW.out.below K9)
          have hsz9 : w.heap.size ≤ w9.heap.size := hb9.size
          obtain ⟨sm, hsm⟩ : ∃ sm : Int, sm = (sumL ls ((k : Int) + 1) z : Int) := ⟨_, rfl⟩
          have HSM := Lib.hid hsm
          rw [← hsm]
          clear hsm k9 e0 e1 e2 e3 e4
          have P11 := Lib.hid (HROW9.out.alloc (.cells #[.int .i64 z.c, .int .i64 z.n, .int .i64 z.o, .int .i64 z.x, .int .i64 z.y, .int .i64 sm] 44))
          go_wp2_with (at_builtin; refine wpList_append_row rfl _ _ rfl (k + 1) eltEntry rfl rfl P11.out (rowsAt_oneE _ ⟨z, sm⟩ _) HLEN.out rfl rfl (by simp only [maxLen]; omega) (by omega) (by simp <;> omega) ?_)
          intro a5 cap5 w5 q5
          have kA := hb9.alloc hb9.size (.cells #[.int .i64 z.c, .int .i64 z.n, .int .i64 z.o, .int .i64 z.x, .int .i64 z.y, .int .i64 sm] 44)
          have K5 := q5.belowB P11.out kA (Nat.le_refl _) kA.size
          have hz5 : rowsOf (rs.take (k + 1)) = zs ++ [⟨z, sm⟩] := by rw [HSN.out, HSM.out]
          have H5 := Lib.hid (And.intro hz5 q5.row)
          have hls5 : lastSum (rowsOf (rs.take (k + 1))) = sm := by rw [hz5, lastSum_snoc]
          have HL5 := Lib.hid hls5
          clear hz5 q5 kA hls5 P11
          go_wp2_with fail
          go_roundw
          case rel => exact ⟨k + 1, a5, cap5, by omega, by go_num, by rw [HL5.out], rfl, by rw [H5.out.1]; exact H5.out.2, by omega, HALL.out (by rw [HGK.out]; simp [hok, hno]), K5⟩
          case measure => simp [intOf]; omega
        · have h60' : 60 ≤ k := by omega
          go_wp2_with fail
          go_ret
          exact BAD.out (.inr h60') w1 (below_next hbel k1)
      | false =>
        go_wp2_with fail
        refine (l1None_c z.c z.n z.o z.x z.y w1).mono ?_
        rintro e w2 ⟨rfl, k2⟩
        have K2 := below_next k1 k2
        replace e0 := cell_stays k2 e0
        replace e1 := cell_stays k2 e1
        replace e2 := cell_stays k2 e2
        replace e3 := cell_stays k2 e3
        replace e4 := cell_stays k2 e4
        clear k1 k2
        cases hno : noneB z.c z.n z.o z.x z.y with
        | true =>
          by_cases h60 : (k : Int) < 60
          · have hkk : k < 60 := by omega
            go_wp2_with fail
            refine (l7Sum_c ls ((k : Int) + 1) z w2 (by omega) (by omega) (by omega) (by omega)).mono ?_
            rintro e w9 ⟨rfl, k9⟩
            have K9 := below_next K2 k9
            have hb9 := below_next hbel K9
            have d0 := cell_stays k9 e0
            have d1 := cell_stays k9 e1
            have d2 := cell_stays k9 e2
            have d3 := cell_stays k9 e3
            have d4 := cell_stays k9 e4
            have HROW9 := Lib.hid (HROW.out.below K9)
            have hsz9 : w.heap.size ≤ w9.heap.size := hb9.size
            obtain ⟨sm, hsm⟩ : ∃ sm : Int, sm = (sumL ls ((k : Int) + 1) z : Int) := ⟨_, rfl⟩
            have HSM := Lib.hid hsm
            rw [← hsm]
            clear hsm k9 e0 e1 e2 e3 e4
            have P11 := Lib.hid (HROW9.out.alloc (.cells #[.int .i64 z.c, .int .i64 z.n, .int .i64 z.o, .int .i64 z.x, .int .i64 z.y, .int .i64 sm] 44))
            go_wp2_with (at_builtin; refine wpList_append_row rfl _ _ rfl (k + 1) eltEntry rfl rfl P11.out (rowsAt_oneE _ ⟨z, sm⟩ _) HLEN.out rfl rfl (by simp only [maxLen]; omega) (by omega) (by simp <;> omega) ?_)
            intro a5 cap5 w5 q5
            have kA := hb9.alloc hb9.size (.cells #[.int .i64 z.c, .int .i64 z.n, .int .i64 z.o, .int .i64 z.x, .int .i64 z.y, .int .i64 sm] 44)
            have K5 := q5.belowB P11.out kA (Nat.le_refl _) kA.size
            have hz5 : rowsOf (rs.take (k + 1)) = zs ++ [⟨z, sm⟩] := by rw [HSN.out, HSM.out]
            have H5 := Lib.hid (And.intro hz5 q5.row)
            have hls5 : lastSum (rowsOf (rs.take (k + 1))) = sm := by rw [hz5, lastSum_snoc]
            have HL5 := Lib.hid hls5
            clear hz5 q5 kA hls5 P11
            go_wp2_with fail
            go_roundw
            case rel => exact ⟨k + 1, a5, cap5, by omega, by go_num, by rw [HL5.out], rfl, by rw [H5.out.1]; exact H5.out.2, by omega, HALL.out (by rw [HGK.out]; simp [hok, hno]), K5⟩
            case measure => simp [intOf]; omega
          · have h60' : 60 ≤ k := by omega
            go_wp2_with fail
            go_ret
            exact BAD.out (.inr h60') w2 (below_next hbel K2)
        | false =>
          go_wp2_with fail
          go_ret
          exact BAD.out (.inl (by rw [HGK.out, hok, hno]; rfl)) w2 (below_next hbel K2)
    · have hkn : k = n := by omega
      have e : rs.take k = rs := List.take_of_length_le (by rw [HZ.out]; omega)
      have hled : ledOf rs = rowsOf rs := by
        unfold ledOf
        rw [if_pos ⟨by rw [HZ.out]; omega, by have := all_take HA.out; rwa [e] at this⟩]
      rw [e] at HROW
      have HE := Lib.hid hled
      have hl : (rowsOf rs).length = k := by rw [rowsOf_length, HZ.out]; omega
      have HL := Lib.hid hl
      clear e hled hl hkn
      go_wp2_with fail
      go_ret
      unfold RowsGot
      rw [HE.out, HL.out]
      exact ⟨a', cap', rfl, HROW.out, hbel⟩
end Go.Proofs.YtbfnilfkhonpaaaDoor
