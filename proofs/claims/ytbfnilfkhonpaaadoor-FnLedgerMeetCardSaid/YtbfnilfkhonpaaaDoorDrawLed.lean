/- Contract of l20Ledger: some rows, in a list of their own; condition: fewer than 2^40 reads. -/
import Derived.Test.YtbfnilfkhonpaaaDoorDrawReqs
import Derived.Test.YtbfnilfkhonpaaaDoorLedOfI
import Derived.Test.YtbfnilfkhonpaaaDoorRowSet
namespace Go.Proofs.YtbfnilfkhonpaaaDoor
open Go.RowKit Go.Joins

/-- Some rows, at most twelve, in a list of their own; the reader has moved on; nothing else that was there has turned. -/
def LedgerDrawn (w : World) (g P : Nat) (e : Ending) (w' : World) : Prop :=
  ∃ (zs : List En) (a' : Option Addr) (cap' : Nat), e = .returned (.slice a' zs.length cap') ∧ zs.length ≤ 12 ∧ Row w' w.heap.size 44 a' cap' 6 En.cs zs ∧ Rdr w' g (P + 95) ∧ w.grownBy w' (some g)
theorem ledOf_le (rs : List Rq) : (ledOf rs).length ≤ rs.length := by
  unfold ledOf
  split
  · rw [rowsOf_length]; exact Nat.le_refl _
  · exact Nat.zero_le _

set_option maxRecDepth 100000 in
set_option maxHeartbeats 4000000 in
theorem l20Ledger_c (w : World) (g P : Nat) (hr : Rdr w g P) (hP : P ≤ 1099511600000) :
    Calls Tryd.prog 66 #[.pointer (some ⟨g, 0, none⟩)] w (LedgerDrawn w g P) := by
  have hlt := hr.lt
  go_enter Tryd.func66, Tryd.ntmps66
  go_wp2_with fail
  refine (l20Reqs_c w g P 12 hr hP (by omega)).mono ?_
  rintro e w1 ⟨rs, a1, c1, rfl, h12, -, hrow, r1, k1⟩
  have hs1 := k1.size
  have hl1 := r1.lt
  go_wp2_with fail
  refine (sLedgerOf_c a1 _ c1 rs w1 (hrow.sl (fun _ => rfl)) (by omega)).mono ?_
  rintro e w2 ⟨d, cd, rfl, rD, k2⟩
  have K2 := Lib.hid (grown_trans k1 (grown_of_below k2 (some g)))
  have r2 := r1.below (k2.mono (by omega))
  have hle := ledOf_le rs
  generalize ledOf rs = zs at *
  obtain ⟨l, hl⟩ : ∃ l, l = zs.length := ⟨_, rfl⟩
  have HL := Lib.hid hl
  have RD := Lib.hid (rD.low hs1)
  have hs2 := k2.size
  have HB := Lib.hid (show ∀ g', rowBlk d cd = some g' → g < g' from fun g' hg' => by have := (rD.blk hg').1; omega)
  rw [← hl] at hle ⊢
  clear hl hrow k1 k2 rD
  by_cases h0 : l = 0
  · subst h0
    go_wp2_with fail
    go_ret
    exact ⟨zs, d, cd, by simp [← HL.out], by have := HL.out; omega, RD.out, r2.mono (by omega), K2.out⟩
  · have hpos : (0 : Int) < l := by omega
    go_wp2_with fail
    refine (pick_c w2 g _ 4 r2 (by omega) (by omega)).mono ?_
    rintro e w3 ⟨p, rfl, -, -, -, r3, k3⟩
    have K3 := Lib.hid (grown_trans K2.out k3)
    have RD3 := Lib.hid (RD.out.kept k3 (fun g' hg' e => by have := HB.out g' hg'; injection e; omega))
    clear k3 K2 RD
    by_cases hp : p = 0
    · subst hp
      go_wp2_with fail
      refine (pick_c w3 g _ l r3 (by omega) (by omega)).mono ?_
      rintro e w4 ⟨i, rfl, a4, b4, -, r4, k4⟩
      replace b4 := b4 (by omega)
      obtain ⟨k, rfl⟩ := Int.eq_ofNat_of_zero_le a4
      have K4 := Lib.hid (grown_trans K3.out k4)
      have RD4 := Lib.hid (RD3.out.kept k4 (fun g' hg' e => by have := HB.out g' hg'; injection e; omega))
      clear k4 K3 RD3
      go_wp2_with fail
      refine (pick_c w4 g _ 2 r4 (by omega) (by omega)).mono ?_
      rintro e w5 ⟨q, rfl, -, -, -, r5, k5⟩
      have K5 := Lib.hid (grown_trans K4.out k5)
      have RD5 := Lib.hid (RD4.out.kept k5 (fun g' hg' e => by have := HB.out g' hg'; injection e; omega))
      clear k5 K4 RD4
      have hkz : k < zs.length := by rw [← HL.out]; omega
      have hkl : k < l := by omega
      obtain ⟨g', cur, rfl, q2, q3, q4, q5⟩ := RD5.out.own (by have := RD5.out.len; omega)
      have hlt5 := lt_of_block q3
      have hgg : g < g' := HB.out g' (by simp [rowBlk]; have := RD5.out.len; omega)
      have cS : w5.cell? ⟨g', k * 6 + 5, none⟩ = some (.int .i64 zs[k].s) := (cell_of_block q3 _).trans ((q5 _ (by omega)).trans (flat_get six_len zs k hkz 5 (by decide)))
      have fS := unfrozen_of_block q3
      by_cases hq : q = 0
      · subst hq
        have RN := Lib.hid (RD5.out.setOne six_len hkz (j := 5) (by decide) ⟨zs[k].r, wrap64 (zs[k].s + 1)⟩ _ rfl (fun j' h1 h2 => by
          have : j' = 0 ∨ j' = 1 ∨ j' = 2 ∨ j' = 3 ∨ j' = 4 := by omega
          rcases this with rfl | rfl | rfl | rfl | rfl <;> rfl) rfl)
        have KN := Lib.hid (K5.out)
        go_wp2_with fail
        go_ret
        refine ⟨zs.set k ⟨zs[k].r, wrap64 (zs[k].s + 1)⟩, _, cd, by simp [← HL.out], by have := HL.out; simp; omega, RN.out, ?_, ?_⟩
        · exact ((r5.below (Below.setCell (Below.refl _ _) (by simp; omega) _)).mono (by omega))
        · exact ⟨KN.out.os, KN.out.tape, KN.out.output, by simpa [World.setCell] using KN.out.size, fun b hb hne => (Below.heap_setCell _ _ _ _ (by simp; omega)).trans (KN.out.block b hb hne)⟩
      · go_wp2_with fail
        refine (l20AnyReq_c w5 g _ r5 (by omega)).mono ?_
        rintro e w6 ⟨⟨c, n, o, x, y⟩, rfl, r6, k6⟩
        have K6 := Lib.hid (grown_trans K5.out k6)
        have RD6 := Lib.hid (RD5.out.kept k6 (fun g'' hg' e => by have := HB.out g'' hg'; injection e; omega))
        have q6 := carry k6 (by omega) q3
        have hlt6 := lt_of_block q6
        have f6 := unfrozen_of_block q6
        have cc : ∀ j, j < 6 → ∃ u, w6.cell? ⟨g', k * 6 + j, none⟩ = some u := fun j hj => by
          have hsz : k * 6 + j < cur.size := by have := RD5.out.len; omega
          exact ⟨cur[k * 6 + j], (cell_of_block q6 _).trans (by simp [hsz])⟩
        obtain ⟨u0, e0⟩ := cc 0 (by decide)
        obtain ⟨u1, e1⟩ := cc 1 (by decide)
        obtain ⟨u2, e2⟩ := cc 2 (by decide)
        obtain ⟨u3, e3⟩ := cc 3 (by decide)
        obtain ⟨u4, e4⟩ := cc 4 (by decide)
        rw [Nat.add_zero] at e0
        clear k6 K5 cc cS fS q3 q4 q5 q6
        have T1 := RD6.out.setOne six_len hkz (j := 0) (by decide) (⟨⟨c, zs[k].r.n, zs[k].r.o, zs[k].r.x, zs[k].r.y⟩, zs[k].s⟩ : En) _ rfl (fun j' h1 h2 => by
          have : j' = 1 ∨ j' = 2 ∨ j' = 3 ∨ j' = 4 ∨ j' = 5 := by omega
          rcases this with rfl | rfl | rfl | rfl | rfl <;> rfl) rfl
        have T2 := T1.setOne six_len (i := k) (by simpa using hkz) (j := 1) (by decide) (⟨⟨c, n, zs[k].r.o, zs[k].r.x, zs[k].r.y⟩, zs[k].s⟩ : En) _ rfl (fun j' h1 h2 => by
          rw [List.getElem_set_self]
          have : j' = 0 ∨ j' = 2 ∨ j' = 3 ∨ j' = 4 ∨ j' = 5 := by omega
          rcases this with rfl | rfl | rfl | rfl | rfl <;> rfl) rfl
        have T3 := T2.setOne six_len (i := k) (by simpa using hkz) (j := 2) (by decide) (⟨⟨c, n, o, zs[k].r.x, zs[k].r.y⟩, zs[k].s⟩ : En) _ rfl (fun j' h1 h2 => by
          rw [List.getElem_set_self]
          have : j' = 0 ∨ j' = 1 ∨ j' = 3 ∨ j' = 4 ∨ j' = 5 := by omega
          rcases this with rfl | rfl | rfl | rfl | rfl <;> rfl) rfl
        have T4 := T3.setOne six_len (i := k) (by simpa using hkz) (j := 3) (by decide) (⟨⟨c, n, o, x, zs[k].r.y⟩, zs[k].s⟩ : En) _ rfl (fun j' h1 h2 => by
          rw [List.getElem_set_self]
          have : j' = 0 ∨ j' = 1 ∨ j' = 2 ∨ j' = 4 ∨ j' = 5 := by omega
          rcases this with rfl | rfl | rfl | rfl | rfl <;> rfl) rfl
        have T5 := T4.setOne six_len (i := k) (by simpa using hkz) (j := 4) (by decide) (⟨⟨c, n, o, x, y⟩, zs[k].s⟩ : En) _ rfl (fun j' h1 h2 => by
          rw [List.getElem_set_self]
          have : j' = 0 ∨ j' = 1 ∨ j' = 2 ∨ j' = 3 ∨ j' = 5 := by omega
          rcases this with rfl | rfl | rfl | rfl | rfl <;> rfl) rfl
        have HT := Lib.hid T5
        clear T1 T2 T3 T4 T5
        go_wp2_with fail
        go_ret
        exact ⟨_, _, cd, by simp [← HL.out], by have := HL.out; simp; omega, HT.out, (r6.below (Below.setCell (Below.setCell (Below.setCell (Below.setCell (Below.setCell (Below.refl _ _) (by simp; omega) _) (by simp; omega) _) (by simp; omega) _) (by simp; omega) _) (by simp; omega) _)).mono (by omega), (grown_setCell (grown_setCell (grown_setCell (grown_setCell (grown_setCell K6.out (.inr q2) _) (.inr q2) _) (.inr q2) _) (.inr q2) _) (.inr q2) _)⟩
    · go_wp2_with fail
      go_ret
      exact ⟨zs, d, cd, by simp [← HL.out], by have := HL.out; omega, RD3.out, r3.mono (by omega), K3.out⟩
end Go.Proofs.YtbfnilfkhonpaaaDoor
