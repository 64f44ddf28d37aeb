/- The place of a client's figure: the program's figure, the reference's l2At; near, l2Near; condition: small sizes. -/
import Derived.Test.YtilldpoleiippaaGreatDoorMarkA
import Derived.Test.YtilldpoleiippaaGreatDoorDoLaw
import Derived.Test.YtilldpoleiippaaGreatDoorGameOkS
set_option linter.unusedSimpArgs false
set_option linter.unusedVariables false
namespace Go.Proofs.YtilldpoleiippaaGreatDoor
open Go.RowKit Go.Joins

/-- The place of a client's figure; -1: there is none. -/
def figI (es : List Rq) (c : Int) : Int := match figAt es c with | some k => (k : Int) | none => -1
theorem figI_some {es : List Rq} {c : Int} {k : Nat} (hk : k < es.length) (he : es[k].c = c) (hb : ∀ j (hj : j < es.length), j < k → es[j].c ≠ c) : figI es c = k := by
  have : figAt es c = some k := by
    unfold figAt
    rw [List.findIdx?_eq_some_iff_getElem]
    exact ⟨hk, by simpa using he, fun j hj => by simpa using hb j (by omega) hj⟩
  unfold figI
  rw [this]
theorem figI_none {es : List Rq} {c : Int} (hb : ∀ j (hj : j < es.length), es[j].c ≠ c) : figI es c = -1 := by
  have : figAt es c = none := by
    unfold figAt
    rw [List.findIdx?_eq_none_iff]
    intro x hx
    obtain ⟨j, hj, rfl⟩ := List.getElem_of_mem hx
    simpa using hb j hj
  unfold figI
  rw [this]


set_option maxRecDepth 100000 in
set_option maxHeartbeats 2000000 in
theorem l2At_c (es : List Rq) (c : Int) (a0 a1 a2 : Option Addr) (n0 n1 n2 c0 c1 c2 : Nat) (w : World) (h0 : IsSl w (.slice a0 n0 c0) 5 Rq.cs es) :
    Calls Tryz.prog 61 #[.agg #[.slice a0 n0 c0, .slice a1 n1 c1, .slice a2 n2 c2], .int .i64 c] w fun e w' => e = .returned (.int .i64 (figI es c)) ∧ Below w.heap.size w w' := by
  obtain ⟨hnn, hlc, hm, hr⟩ := h0.bounds
  have HR := Lib.hid hr
  clear hr h0
  unfold maxLen at hm
  go_enter Tryz.func61, Tryz.ntmps61
  go_wp2_with fail
  obtain ⟨W, hW, sW, aW, kW⟩ := blocks1 w (.cells #[.slice a0 n0 c0, .slice a1 n1 c1, .slice a2 n2 c2] 27)
  rw [← hW]
  clear hW
  have HA0 := Lib.hid aW
  clear aW
  go_loopw [5] (fun i wr => ∃ k : Nat, k ≤ n0 ∧ i = .int .i64 k ∧ (∀ j (hj : j < es.length), j < k → es[j].c ≠ c) ∧ Below W.heap.size W wr) (fun i _ => n0 - (intOf i).toNat)
  case atStart => exact ⟨0, Nat.zero_le _, rfl, fun j _ hj => absurd hj (Nat.not_lt_zero j), Below.refl _ _⟩
  case round =>
    obtain ⟨k, hk, rfl, hall, hbel⟩ := hrel
    have HA := Lib.hid hall
    clear hall
    have dA := cell_of_block (carryN hbel HA0.out)
    by_cases hlt : k < n0
    · have hkz : k < es.length := by omega
      have hk1 : (k : Int) < (n0 : Int) := by omega
      have hk0 : (0 : Int) ≤ (k : Int) := by omega
      obtain ⟨b0, o0, rfl, hl0, hc0⟩ := five_at HR.out k hkz
      obtain ⟨e0, e1, e2, e3, e4⟩ := hc0 wr (kW.trans (hbel.mono (by omega)))
      clear hc0
      generalize hz : es[k] = z at *
      have HZ := Lib.hid hz
      clear hz
      by_cases he : z.c = c
      · go_wp2_with fail
        go_ret
        refine ⟨?_, kW.trans (hbel.mono (by omega))⟩
        rw [figI_some hkz (by rw [HZ.out]; exact he) (fun j hj hjk => HA.out j hj hjk)]
        rfl
      · go_wp2_with fail
        refine ⟨⟨k + 1, by omega, by go_num, fun j hj hjk => ?_, hbel⟩, by simp [intOf]; omega⟩
        by_cases hjk' : j = k
        · subst hjk'; rw [HZ.out]; exact he
        · exact HA.out j hj (by omega)
    · have hkk : n0 = k := by omega
      subst hkk
      go_wp2_with fail
      go_ret
      refine ⟨?_, kW.trans (hbel.mono (by omega))⟩
      rw [figI_none (fun j hj => HA.out j hj (by omega))]
      rfl

set_option maxHeartbeats 1000000 in
theorem l2Near_c (a b : Rq) (w : World) (ha : 0 ≤ a.n ∧ a.n ≤ 3 ∧ 0 ≤ a.o ∧ a.o ≤ 3) (hb : 0 ≤ b.n ∧ b.n ≤ 3 ∧ 0 ≤ b.o ∧ b.o ≤ 3) :
    Calls Tryz.prog 73 #[.agg #[.int .i64 a.c, .int .i64 a.n, .int .i64 a.o, .int .i64 a.x, .int .i64 a.y], .agg #[.int .i64 b.c, .int .i64 b.n, .int .i64 b.o, .int .i64 b.x, .int .i64 b.y]] w fun e w' => e = .returned (.bool (nearB a b)) ∧ Below w.heap.size w w' := by
  have h1 : IntKind.i64.wrap (a.n - b.n) = a.n - b.n := IntWalk.i64_in _ ⟨by omega, by omega⟩
  have h2 : IntKind.i64.wrap (a.o - b.o) = a.o - b.o := IntWalk.i64_in _ ⟨by omega, by omega⟩
  clear ha hb
  unfold nearB
  cases hx : inB (a.n - b.n) (-1) 1 with
  | true =>
    go_enter Tryz.func73, Tryz.ntmps73
    go_wp2_with (go_at_call 43; refine (l1In_c _ _ _ _).mono ?_; rintro e w' ⟨rfl, rfl⟩)
    go_ret
    exact ⟨ret_bool (by simp), (by repeat' (first | with_reducible exact Below.refl _ _ | with_reducible assumption | with_reducible refine Below.alloc ?_ ?_ _ | with_reducible refine Below.drew ?_ | with_reducible refine Below.setCell ?_ ?_ _ | omega | (simp; omega) | (simp; done)))⟩
  | false =>
    go_enter Tryz.func73, Tryz.ntmps73
    go_wp2_with (go_at_call 43; refine (l1In_c _ _ _ _).mono ?_; rintro e w' ⟨rfl, rfl⟩)
    go_ret
    exact ⟨ret_bool (by simp), (by repeat' (first | with_reducible exact Below.refl _ _ | with_reducible assumption | with_reducible refine Below.alloc ?_ ?_ _ | with_reducible refine Below.drew ?_ | with_reducible refine Below.setCell ?_ ?_ _ | omega | (simp; omega) | (simp; done)))⟩

end Go.Proofs.YtilldpoleiippaaGreatDoor
