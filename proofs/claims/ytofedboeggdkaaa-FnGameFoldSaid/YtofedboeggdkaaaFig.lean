/- The place of a client's figure: the program's figure, the reference's l2At; near, l2Near; condition: small sizes. -/
import Derived.Test.YtofedboeggdkaaaMarkA
import Derived.Test.YtofedboeggdkaaaDoLaw
import Derived.Test.YtofedboeggdkaaaGameOkS
namespace Go.Proofs.Ytofedboeggdkaaa
open Go.RowKit Go.Joins

/-- The place of a client's figure; -1: there is none. -/
def figI (es : List Rq) (c : Int) : Int := match figAt es c with | some k => (k : Int) | none => -1
theorem figI_some {es : List Rq} {c : Int} {k : Nat} (hk : k < es.length) (he : es[k].c = c) (hb : ∀ j (hj : j < es.length), j < k → es[j].c ≠ c) : figI es c = k := by
  have : figAt es c = some k := by
    unfold figAt
    rw [List.findIdx?_eq_some_iff_getElem]
    exact ⟨hk, by simpa using he, fun j hj => by simpa using hb j (by omega) hj⟩
  unfold figI
  rw [this]
theorem figI_none {es : List Rq} {c : Int} (hb : ∀ j (hj : j < es.length), es[j].c ≠ c) : figI es c = -1 := by
  have : figAt es c = none := by
    unfold figAt
    rw [List.findIdx?_eq_none_iff]
    intro x hx
    obtain ⟨j, hj, rfl⟩ := List.getElem_of_mem hx
    simpa using hb j hj
  unfold figI
  rw [this]

set_option maxHeartbeats 1000000 in
theorem figFn_c (z : Rq) (b : Nat) (c : Int) (w : World) (hc : w.heap[b]? = some (.cells #[.int .i64 c] 3 (0, 0))) :
    Calls Try.prog 133 #[.agg #[.int .i64 z.c, .int .i64 z.n, .int .i64 z.o, .int .i64 z.x, .int .i64 z.y], .pointer (some ⟨b, 0, none⟩)] w fun e w' => e = .returned (.bool (z.c == c)) ∧ Below w.heap.size w w' := by
  have HC := Lib.hid hc
  have hlt := lt_of_block hc
  have hcw := cell_of_block hc
  clear hc
  go_enter Try.func133, Try.ntmps133
  go_wp2_with fail
  go_ret
  exact ⟨rfl, (by repeat' (first | with_reducible exact Below.refl _ _ | with_reducible assumption | with_reducible refine Below.alloc ?_ ?_ _ | with_reducible refine Below.drew ?_ | with_reducible refine Below.setCell ?_ ?_ _ | omega | (simp; omega) | (simp; done)))⟩

set_option maxRecDepth 100000 in
set_option maxHeartbeats 2000000 in
theorem slIndexFuncEnt_c (a : Option Addr) (zs : List Rq) (c : Int) (b : Nat) (n cap : Nat) (w : World) (h : IsSl w (.slice a n cap) 5 Rq.cs zs) (hb : w.heap[b]? = some (.cells #[.int .i64 c] 3 (0, 0))) :
    Calls Try.prog 132 #[.slice a n cap, .func (.func 133) #[] #[.pointer (some ⟨b, 0, none⟩)]] w fun e w' => e = .returned (.int .i64 (figI zs c)) ∧ Below w.heap.size w w' := by
  obtain ⟨hnn, hlc, hm, hr⟩ := h.bounds
  have HR := Lib.hid hr
  have HB := Lib.hid hb
  clear hr h hb
  unfold maxLen at hm
  go_enter Try.func132, Try.ntmps132
  go_wp2_with fail
  go_loopw [8] (fun i wr => ∃ k : Nat, k ≤ n ∧ i = .int .i64 k ∧ (∀ j (hj : j < zs.length), j < k → zs[j].c ≠ c) ∧ Below w.heap.size w wr) (fun i _ => n - (intOf i).toNat)
  case atStart => exact ⟨0, Nat.zero_le _, rfl, fun j _ hj => absurd hj (Nat.not_lt_zero j), Below.refl _ _⟩
  case round =>
    obtain ⟨k, hk, rfl, hall, hbel⟩ := hrel
    have HA := Lib.hid hall
    clear hall
    by_cases hlt : k < n
    · have hkz : k < zs.length := by omega
      have hk1 : (k : Int) < (n : Int) := by omega
      have hk0 : (0 : Int) ≤ (k : Int) := by omega
      obtain ⟨b0, o0, rfl, hl0, hc0⟩ := five_at HR.out k hkz
      obtain ⟨c0, c1, c2, c3, c4⟩ := hc0 wr hbel
      clear hc0
      generalize hz : zs[k] = z at *
      have HZ := Lib.hid hz
      clear hz
      go_wp2_with fail
      refine (figFn_c z b c wr (carryN hbel HB.out)).mono ?_
      rintro e w1 ⟨rfl, k1⟩
      have hbel1 := below_next hbel k1
      clear c0 c1 c2 c3 c4 k1 hbel
      by_cases he : z.c = c
      · have he' : (z.c == c) = true := by simpa using he
        rw [he']
        go_wp2_with fail
        go_ret
        refine ⟨?_, hbel1⟩
        rw [figI_some hkz (by rw [HZ.out]; exact he) (fun j hj hjk => HA.out j hj hjk)]
        rfl
      · have he' : (z.c == c) = false := by simpa using he
        rw [he']
        go_wp2_with fail
        refine ⟨⟨k + 1, by omega, by go_num, fun j hj hjk => ?_, hbel1⟩, by simp [intOf]; omega⟩
        by_cases hjk' : j = k
        · subst hjk'; rw [HZ.out]; exact he
        · exact HA.out j hj (by omega)
    · have hkk : n = k := by omega
      subst hkk
      go_wp2_with fail
      go_ret
      refine ⟨?_, hbel⟩
      rw [figI_none (fun j hj => HA.out j hj (by omega))]
      rfl

set_option maxHeartbeats 1000000 in
theorem figure_c (es : List Rq) (c : Int) (a0 a1 a2 : Option Addr) (n0 n1 n2 c0 c1 c2 : Nat) (w : World) (h0 : IsSl w (.slice a0 n0 c0) 5 Rq.cs es) :
    Calls Try.prog 114 #[.agg #[.slice a0 n0 c0, .slice a1 n1 c1, .slice a2 n2 c2], .int .i64 c] w fun e w' => e = .returned (.int .i64 (figI es c)) ∧ Below w.heap.size w w' := by
  have H0 := Lib.hid h0
  clear h0
  go_enter Try.func114, Try.ntmps114
  go_wp2_with fail
  obtain ⟨W, hW, sW, aW, bW, kW⟩ := blocks2 w (.cells #[.slice a0 n0 c0, .slice a1 n1 c1, .slice a2 n2 c2] 46) (.cells #[.int .i64 c] 3)
  rw [← hW]
  clear hW
  refine (slIndexFuncEnt_c a0 es c (w.heap.size + 1) n0 c0 W (H0.out.below kW) bW).mono ?_
  rintro e w1 ⟨rfl, k1⟩
  have K1 := below_next kW k1
  go_wp2_with fail
  go_ret
  exact ⟨rfl, K1⟩

set_option maxRecDepth 100000 in
set_option maxHeartbeats 2000000 in
theorem l2At_c (es : List Rq) (c : Int) (a0 a1 a2 : Option Addr) (n0 n1 n2 c0 c1 c2 : Nat) (w : World) (h0 : IsSl w (.slice a0 n0 c0) 5 Rq.cs es) :
    Calls Try.prog 122 #[.agg #[.slice a0 n0 c0, .slice a1 n1 c1, .slice a2 n2 c2], .int .i64 c] w fun e w' => e = .returned (.int .i64 (figI es c)) ∧ Below w.heap.size w w' := by
  obtain ⟨hnn, hlc, hm, hr⟩ := h0.bounds
  have HR := Lib.hid hr
  clear hr h0
  unfold maxLen at hm
  go_enter Try.func122, Try.ntmps122
  go_wp2_with fail
  obtain ⟨W, hW, sW, aW, kW⟩ := blocks1 w (.cells #[.slice a0 n0 c0, .slice a1 n1 c1, .slice a2 n2 c2] 46)
  rw [← hW]
  clear hW
  have HA0 := Lib.hid aW
  clear aW
  go_loopw [5] (fun i wr => ∃ k : Nat, k ≤ n0 ∧ i = .int .i64 k ∧ (∀ j (hj : j < es.length), j < k → es[j].c ≠ c) ∧ Below W.heap.size W wr) (fun i _ => n0 - (intOf i).toNat)
  case atStart => exact ⟨0, Nat.zero_le _, rfl, fun j _ hj => absurd hj (Nat.not_lt_zero j), Below.refl _ _⟩
  case round =>
    obtain ⟨k, hk, rfl, hall, hbel⟩ := hrel
    have HA := Lib.hid hall
    clear hall
    have dA := cell_of_block (carryN hbel HA0.out)
    by_cases hlt : k < n0
    · have hkz : k < es.length := by omega
      have hk1 : (k : Int) < (n0 : Int) := by omega
      have hk0 : (0 : Int) ≤ (k : Int) := by omega
      obtain ⟨b0, o0, rfl, hl0, hc0⟩ := five_at HR.out k hkz
      obtain ⟨e0, e1, e2, e3, e4⟩ := hc0 wr (kW.trans (hbel.mono (by omega)))
      clear hc0
      generalize hz : es[k] = z at *
      have HZ := Lib.hid hz
      clear hz
      by_cases he : z.c = c
      · go_wp2_with fail
        go_ret
        refine ⟨?_, kW.trans (hbel.mono (by omega))⟩
        rw [figI_some hkz (by rw [HZ.out]; exact he) (fun j hj hjk => HA.out j hj hjk)]
        rfl
      · go_wp2_with fail
        refine ⟨⟨k + 1, by omega, by go_num, fun j hj hjk => ?_, hbel⟩, by simp [intOf]; omega⟩
        by_cases hjk' : j = k
        · subst hjk'; rw [HZ.out]; exact he
        · exact HA.out j hj (by omega)
    · have hkk : n0 = k := by omega
      subst hkk
      go_wp2_with fail
      go_ret
      refine ⟨?_, kW.trans (hbel.mono (by omega))⟩
      rw [figI_none (fun j hj => HA.out j hj (by omega))]
      rfl

set_option maxHeartbeats 1000000 in
theorem l2Near_c (a b : Rq) (w : World) (ha : 0 ≤ a.n ∧ a.n ≤ 3 ∧ 0 ≤ a.o ∧ a.o ≤ 3) (hb : 0 ≤ b.n ∧ b.n ≤ 3 ∧ 0 ≤ b.o ∧ b.o ≤ 3) :
    Calls Try.prog 137 #[.agg #[.int .i64 a.c, .int .i64 a.n, .int .i64 a.o, .int .i64 a.x, .int .i64 a.y], .agg #[.int .i64 b.c, .int .i64 b.n, .int .i64 b.o, .int .i64 b.x, .int .i64 b.y]] w fun e w' => e = .returned (.bool (nearB a b)) ∧ Below w.heap.size w w' := by
  have h1 : IntKind.i64.wrap (a.n - b.n) = a.n - b.n := IntWalk.i64_in _ ⟨by omega, by omega⟩
  have h2 : IntKind.i64.wrap (a.o - b.o) = a.o - b.o := IntWalk.i64_in _ ⟨by omega, by omega⟩
  clear ha hb
  unfold nearB
  cases hx : inB (a.n - b.n) (-1) 1 with
  | true =>
    go_enter Try.func137, Try.ntmps137
    go_wp2_with (go_at_call 104; refine (l1In_c _ _ _ _).mono ?_; rintro e w' ⟨rfl, rfl⟩)
    go_ret
    exact ⟨ret_bool (by simp), (by repeat' (first | with_reducible exact Below.refl _ _ | with_reducible assumption | with_reducible refine Below.alloc ?_ ?_ _ | with_reducible refine Below.drew ?_ | with_reducible refine Below.setCell ?_ ?_ _ | omega | (simp; omega) | (simp; done)))⟩
  | false =>
    go_enter Try.func137, Try.ntmps137
    go_wp2_with (go_at_call 104; refine (l1In_c _ _ _ _).mono ?_; rintro e w' ⟨rfl, rfl⟩)
    go_ret
    exact ⟨ret_bool (by simp), (by repeat' (first | with_reducible exact Below.refl _ _ | with_reducible assumption | with_reducible refine Below.alloc ?_ ?_ _ | with_reducible refine Below.drew ?_ | with_reducible refine Below.setCell ?_ ?_ _ | omega | (simp; omega) | (simp; done)))⟩

set_option maxHeartbeats 1000000 in
theorem near_c (a b : Rq) (w : World) (ha : 0 ≤ a.n ∧ a.n ≤ 3 ∧ 0 ≤ a.o ∧ a.o ≤ 3) (hb : 0 ≤ b.n ∧ b.n ≤ 3 ∧ 0 ≤ b.o ∧ b.o ≤ 3) :
    Calls Try.prog 117 #[.agg #[.int .i64 a.c, .int .i64 a.n, .int .i64 a.o, .int .i64 a.x, .int .i64 a.y], .agg #[.int .i64 b.c, .int .i64 b.n, .int .i64 b.o, .int .i64 b.x, .int .i64 b.y], .int .i64 1] w fun e w' => e = .returned (.bool (nearB a b)) ∧ Below w.heap.size w w' := by
  have h1 : IntKind.i64.wrap (a.n - b.n) = a.n - b.n := IntWalk.i64_in _ ⟨by omega, by omega⟩
  have h2 : IntKind.i64.wrap (a.o - b.o) = a.o - b.o := IntWalk.i64_in _ ⟨by omega, by omega⟩
  have h3 : IntKind.i64.wrap (-1) = -1 := by decide
  clear ha hb
  unfold nearB
  cases hx : inB (a.n - b.n) (-1) 1 with
  | true =>
    go_enter Try.func117, Try.ntmps117
    go_wp2_with (go_at_call 81; refine (in_c _ _ _ _).mono ?_; rintro e w' ⟨rfl, rfl⟩)
    go_ret
    exact ⟨ret_bool (by simp), (by repeat' (first | with_reducible exact Below.refl _ _ | with_reducible assumption | with_reducible refine Below.alloc ?_ ?_ _ | with_reducible refine Below.drew ?_ | with_reducible refine Below.setCell ?_ ?_ _ | omega | (simp; omega) | (simp; done)))⟩
  | false =>
    go_enter Try.func117, Try.ntmps117
    go_wp2_with (go_at_call 81; refine (in_c _ _ _ _).mono ?_; rintro e w' ⟨rfl, rfl⟩)
    go_ret
    exact ⟨ret_bool (by simp), (by repeat' (first | with_reducible exact Below.refl _ _ | with_reducible assumption | with_reducible refine Below.alloc ?_ ?_ _ | with_reducible refine Below.drew ?_ | with_reducible refine Below.setCell ?_ ?_ _ | omega | (simp; omega) | (simp; done)))⟩

/-- The square of a figure: where its gold lies. -/
theorem floor_c (e : Rq) (g off : Nat) (a0 a2 : Option Addr) (n0 n1 n2 c0 c1 c2 : Nat) (w : World) (hn : 0 ≤ e.n ∧ e.n ≤ 3) (ho : 0 ≤ e.o ∧ e.o ≤ 3) (h16 : n1 = 16) :
    Calls Try.prog 116 #[.agg #[.slice a0 n0 c0, .slice (some ⟨g, off, none⟩) n1 c1, .slice a2 n2 c2], .agg #[.int .i64 e.c, .int .i64 e.n, .int .i64 e.o, .int .i64 e.x, .int .i64 e.y]] w fun x w' => x = .returned (.pointer (some ⟨g, off + sqOf e, none⟩)) ∧ Below w.heap.size w w' := by
  subst h16
  have h1 : IntKind.i64.wrap (e.o * 4) = e.o * 4 := IntWalk.i64_in _ ⟨by omega, by omega⟩
  have h2 : IntKind.i64.wrap (e.o * 4 + e.n) = e.o * 4 + e.n := IntWalk.i64_in _ ⟨by omega, by omega⟩
  obtain ⟨q, hq, hq2⟩ : ∃ q : Nat, e.o * 4 + e.n = (q : Int) ∧ q < 16 := ⟨(e.o * 4 + e.n).toNat, by omega, by omega⟩
  have hs : sqOf e = q := by unfold sqOf; omega
  have h3 : (0 : Int) ≤ (q : Int) := by omega
  have h4 : (q : Int) < 16 := by omega
  rw [hs]
  rw [hq] at h2
  clear hn ho hs
  go_enter Try.func116, Try.ntmps116
  go_wp2_with fail
  go_ret
  exact ⟨rfl, (by repeat' (first | with_reducible exact Below.refl _ _ | with_reducible assumption | with_reducible refine Below.alloc ?_ ?_ _ | with_reducible refine Below.drew ?_ | with_reducible refine Below.setCell ?_ ?_ _ | omega | (simp; omega) | (simp; done)))⟩
end Go.Proofs.Ytofedboeggdkaaa
