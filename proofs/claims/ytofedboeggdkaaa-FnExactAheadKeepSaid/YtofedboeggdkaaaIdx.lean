/- slices.Index at asks; the reference's l8At; condition: small sizes. -/
import Derived.Test.YtofedboeggdkaaaPushS
import Derived.Test.YtofedboeggdkaaaMarkA
namespace Go.Proofs.Ytofedboeggdkaaa
open Go.RowKit Go.Joins

attribute [local go_sem ↓] eql_rq neq_rq

/-- The place of an ask; -1, if it is not there. -/
def idxP (zs : List Rq) (r : Rq) : Option Nat := zs.findIdx? (fun e => decide (e = r))
def idxI (zs : List Rq) (r : Rq) : Int := match idxP zs r with | some k => (k : Int) | none => -1
theorem idxI_some {zs : List Rq} {r : Rq} {k : Nat} (hk : k < zs.length) (he : zs[k] = r) (hb : ∀ j (hj : j < zs.length), j < k → zs[j] ≠ r) : idxI zs r = k := by
  have : idxP zs r = some k := by
    unfold idxP
    rw [List.findIdx?_eq_some_iff_getElem]
    exact ⟨hk, by simpa using he, fun j hj => by simpa using hb j (by omega) hj⟩
  unfold idxI
  rw [this]
theorem idxI_none {zs : List Rq} {r : Rq} (hb : ∀ j (hj : j < zs.length), zs[j] ≠ r) : idxI zs r = -1 := by
  have : idxP zs r = none := by
    unfold idxP
    rw [List.findIdx?_eq_none_iff]
    intro x hx
    obtain ⟨j, hj, rfl⟩ := List.getElem_of_mem hx
    simpa using hb j hj
  unfold idxI
  rw [this]
set_option maxRecDepth 100000 in
set_option maxHeartbeats 1000000 in
theorem slIndexReq_c (a : Option Addr) (zs : List Rq) (r : Rq) (n cap : Nat) (w : World) (h : IsSl w (.slice a n cap) 5 Rq.cs zs) :
    Calls Try.prog 74 #[.slice a n cap, .agg #[.int .i64 r.c, .int .i64 r.n, .int .i64 r.o, .int .i64 r.x, .int .i64 r.y]] w fun e w' => e = .returned (.int .i64 (idxI zs r)) ∧ Below w.heap.size w w' := by
  obtain ⟨hnn, hlc, hm, hr⟩ := h.bounds
  have HR := Lib.hid hr
  clear hr h
  unfold maxLen at hm
  go_enter Try.func74, Try.ntmps74
  go_wp2_with fail
  obtain ⟨W, hW, sW, bW, kW⟩ := blocks1 w (.cells #[.int .i64 r.c, .int .i64 r.n, .int .i64 r.o, .int .i64 r.x, .int .i64 r.y] 34)
  rw [← hW]
  clear hW
  have HB := Lib.hid bW
  clear bW
  go_loopw [8] (fun i wr => ∃ k : Nat, k ≤ n ∧ i = .int .i64 k ∧ (∀ j (hj : j < zs.length), j < k → zs[j] ≠ r) ∧ Below W.heap.size W wr) (fun i _ => n - (intOf i).toNat)
  case atStart => exact ⟨0, Nat.zero_le _, rfl, fun j _ hj => absurd hj (Nat.not_lt_zero j), Below.refl _ _⟩
  case round =>
    obtain ⟨k, hk, rfl, hall, hbel⟩ := hrel
    have HA := Lib.hid hall
    clear hall
    by_cases hlt : k < n
    · have hkz : k < zs.length := by omega
      have hk1 : (k : Int) < (n : Int) := by omega
      have hk0 : (0 : Int) ≤ (k : Int) := by omega
      obtain ⟨b0, o0, rfl, hl0, hc0⟩ := five_at HR.out k hkz
      obtain ⟨c0, c1, c2, c3, c4⟩ := hc0 wr (kW.trans (hbel.mono (by omega)))
      have d := cell_of_block (carryN hbel HB.out)
      clear hc0
      have HE := Lib.hid (eqR_iff r zs[k])
      generalize hz : zs[k] = z at *
      have HZ := Lib.hid hz
      clear hz
      cases he : eqR r.c r.n r.o r.x r.y z.c z.n z.o z.x z.y with
      | true =>
        have hek := HE.out.1 he
        subst hek
        clear HE
        go_wp2_with fail
        go_region_with fail
        all_goals go_wp2_with fail
        all_goals go_ret
        all_goals refine ⟨?_, kW.trans (Below.drew (hbel.mono (by omega)))⟩
        all_goals rw [idxI_some hkz HZ.out (fun j hj hjk => HA.out j hj hjk)]
        all_goals rfl
      | false =>
        have hek := Lib.hid (show r ≠ z from fun h => by have := HE.out.2 h; rw [he] at this; cases this)
        clear HE
        go_wp2_with fail
        go_region_with fail
        all_goals go_wp2_with fail
        all_goals refine ⟨⟨k + 1, by omega, by go_num, fun j hj hjk => ?_, Below.drew hbel⟩, by simp [intOf]; omega⟩
        all_goals by_cases hjk' : j = k
        all_goals first
          | (subst hjk'; rw [HZ.out]; exact fun h => hek.out h.symm)
          | exact HA.out j hj (by omega)
    · have hkk : n = k := by omega
      subst hkk
      go_wp2_with fail
      go_ret
      refine ⟨?_, kW.trans (hbel.mono (by omega))⟩
      rw [idxI_none (fun j hj => HA.out j hj (by omega))]
      rfl

set_option maxRecDepth 100000 in
set_option maxHeartbeats 2000000 in
theorem l8At_c (z : Ah) (r : Rq) (a0 a1 : Option Addr) (n0 n1 c0 c1 : Nat) (w : World) (h1 : IsSl w (.slice a1 n1 c1) 5 Rq.cs z.wt) :
    Calls Try.prog 72 #[.agg #[.slice a0 n0 c0, .slice a1 n1 c1, .int .i64 z.bk], .agg #[.int .i64 r.c, .int .i64 r.n, .int .i64 r.o, .int .i64 r.x, .int .i64 r.y]] w fun e w' => e = .returned (.int .i64 (idxI z.wt r)) ∧ Below w.heap.size w w' := by
  obtain ⟨dn, zs, bk⟩ := z
  simp only at h1 ⊢
  obtain ⟨hnn, hlc, hm, hr⟩ := h1.bounds
  have HR := Lib.hid hr
  clear hr h1
  unfold maxLen at hm
  go_enter Try.func72, Try.ntmps72
  go_wp2_with fail
  obtain ⟨W, hW, sW, aW, bW, kW⟩ := blocks2 w (.cells #[.slice a0 n0 c0, .slice a1 n1 c1, .int .i64 bk] 30) (.cells #[.int .i64 r.c, .int .i64 r.n, .int .i64 r.o, .int .i64 r.x, .int .i64 r.y] 34)
  rw [← hW]
  clear hW
  have HA0 := Lib.hid aW
  have HB := Lib.hid bW
  clear bW aW
  go_loopw [5] (fun i wr => ∃ k : Nat, k ≤ n1 ∧ i = .int .i64 k ∧ (∀ j (hj : j < zs.length), j < k → zs[j] ≠ r) ∧ Below W.heap.size W wr) (fun i _ => n1 - (intOf i).toNat)
  case atStart => exact ⟨0, Nat.zero_le _, rfl, fun j _ hj => absurd hj (Nat.not_lt_zero j), Below.refl _ _⟩
  case round =>
    obtain ⟨k, hk, rfl, hall, hbel⟩ := hrel
    have HA := Lib.hid hall
    clear hall
    have dA := cell_of_block (carryN hbel HA0.out)
    by_cases hlt : k < n1
    · have hkz : k < zs.length := by omega
      have hk1 : (k : Int) < (n1 : Int) := by omega
      have hk0 : (0 : Int) ≤ (k : Int) := by omega
      obtain ⟨b0, o0, rfl, hl0, hc0⟩ := five_at HR.out k hkz
      obtain ⟨e0, e1, e2, e3, e4⟩ := hc0 wr (kW.trans (hbel.mono (by omega)))
      have d := cell_of_block (carryN hbel HB.out)
      clear hc0
      have HE := Lib.hid (eqR_iff zs[k] r)
      generalize hz : zs[k] = z at *
      have HZ := Lib.hid hz
      clear hz
      cases he : eqR z.c z.n z.o z.x z.y r.c r.n r.o r.x r.y with
      | true =>
        have hek := HE.out.1 he
        subst hek
        clear HE
        go_wp2_with fail
        go_region_with fail
        all_goals go_wp2_with fail
        all_goals go_ret
        all_goals refine ⟨?_, kW.trans (Below.drew (hbel.mono (by omega)))⟩
        all_goals rw [idxI_some hkz HZ.out (fun j hj hjk => HA.out j hj hjk)]
        all_goals rfl
      | false =>
        have hek := Lib.hid (show z ≠ r from fun h => by have := HE.out.2 h; rw [he] at this; cases this)
        clear HE
        go_wp2_with fail
        go_region_with fail
        all_goals go_wp2_with fail
        all_goals refine ⟨⟨k + 1, by omega, by go_num, fun j hj hjk => ?_, Below.drew hbel⟩, by simp [intOf]; omega⟩
        all_goals by_cases hjk' : j = k
        all_goals first
          | (subst hjk'; rw [HZ.out]; exact hek.out)
          | exact HA.out j hj (by omega)
    · have hkk : n1 = k := by omega
      subst hkk
      go_wp2_with fail
      go_ret
      refine ⟨?_, kW.trans (hbel.mono (by omega))⟩
      rw [idxI_none (fun j hj => HA.out j hj (by omega))]
      rfl
end Go.Proofs.Ytofedboeggdkaaa
