/- Contracts of okOrNull and allOk, with slices.ContainsFunc and IndexFunc at their closure; no condition. -/
import Derived.Test.YtofedboeggdkaaaCopy5
import Derived.Test.YtofedboeggdkaaaEql
namespace Go.Proofs.Ytofedboeggdkaaa
open Go.RowKit Go.Joins

attribute [local go_sem ↓] eql_rq neq_rq

/-- An ask that is ok, or none. -/
def goodB (c n o x y : Int) : Bool := eqR c n o x y 0 0 0 0 0 || okB c n o x y
def good (r : Rq) : Bool := goodB r.c r.n r.o r.x r.y

set_option maxHeartbeats 400000 in
theorem okOrNull_c (c n o x y : Int) (w : World) :
    Calls Try.prog 75 #[.agg #[.int .i64 c, .int .i64 n, .int .i64 o, .int .i64 x, .int .i64 y]] w fun e w' => e = .returned (.bool (goodB c n o x y)) ∧ Below w.heap.size w w' := by
  cases he : eqR c n o x y 0 0 0 0 0 with
  | true =>
    go_enter Try.func75, Try.ntmps75
    go_wp2_with fail
    go_ret
    exact ⟨ret_bool (by simp [goodB, he]), (by repeat' (first | with_reducible exact Below.refl _ _ | with_reducible assumption | with_reducible refine Below.alloc ?_ ?_ _ | with_reducible refine Below.drew ?_ | with_reducible refine Below.setCell ?_ ?_ _ | omega | (simp; omega) | (simp; done)))⟩
  | false =>
    go_enter Try.func75, Try.ntmps75
    go_wp2_with fail
    refine (ReqOk_c c n o x y _).mono ?_
    rintro e w1 ⟨rfl, k1⟩
    go_wp2_with fail
    go_ret
    exact ⟨ret_bool (by simp [goodB, he]), below_next (by repeat' (first | with_reducible exact Below.refl _ _ | with_reducible assumption | with_reducible refine Below.alloc ?_ ?_ _ | with_reducible refine Below.drew ?_ | with_reducible refine Below.setCell ?_ ?_ _ | omega | (simp; omega) | (simp; done))) k1⟩

set_option maxHeartbeats 400000 in
theorem notOk_c (c n o x y : Int) (w : World) :
    Calls Try.prog 111 #[.agg #[.int .i64 c, .int .i64 n, .int .i64 o, .int .i64 x, .int .i64 y]] w fun e w' => e = .returned (.bool (!goodB c n o x y)) ∧ Below w.heap.size w w' := by
  go_enter Try.func111, Try.ntmps111
  go_wp2_with fail
  refine (okOrNull_c c n o x y _).mono ?_
  rintro e w1 ⟨rfl, k1⟩
  go_wp2_with fail
  go_ret
  exact ⟨rfl, below_next (by repeat' (first | with_reducible exact Below.refl _ _ | with_reducible assumption | with_reducible refine Below.alloc ?_ ?_ _ | with_reducible refine Below.drew ?_ | with_reducible refine Below.setCell ?_ ?_ _ | omega | (simp; omega) | (simp; done))) k1⟩

/-- The place of the first that is not good; -1: all are. -/
def IsFirst (zs : List Rq) (w : World) (e : Ending) (w' : World) : Prop :=
  ∃ m : Int, e = .returned (.int .i64 m) ∧ ((zs.all good = true ∧ m < 0) ∨ (zs.all good = false ∧ 0 ≤ m)) ∧ Below w.heap.size w w'

set_option maxRecDepth 100000 in
set_option maxHeartbeats 1000000 in
theorem firstBad_c (a : Option Addr) (zs : List Rq) (n cap : Nat) (w : World) (h : IsSl w (.slice a n cap) 5 Rq.cs zs) (hn : zs.length = n) :
    Calls Try.prog 127 #[.slice a n cap, .func (.func 111) #[] #[]] w (IsFirst zs w) := by
  obtain ⟨a', cap', e, hlc, hm, hr⟩ := h
  simp only [Value.slice.injEq] at e
  obtain ⟨rfl, -, rfl⟩ := e
  have HR := Lib.hid hr
  clear hr
  unfold maxLen at hm
  go_enter Try.func127, Try.ntmps127
  go_wp2_with fail
  generalize hnn : zs.length = n at *
  go_loopw [8] (fun i wr => ∃ k : Nat, k ≤ n ∧ i = .int .i64 k ∧ (∀ j (hj : j < zs.length), j < k → good zs[j] = true) ∧ Below w.heap.size w wr) (fun i _ => n - (intOf i).toNat)
  case atStart => exact ⟨0, Nat.zero_le _, rfl, fun j _ hj => absurd hj (Nat.not_lt_zero j), Below.refl _ _⟩
  case round =>
    obtain ⟨k, hk, rfl, hall, hbel⟩ := hrel
    have HA := Lib.hid hall
    clear hall
    by_cases hlt : k < n
    · have hkz : k < zs.length := by omega
      have hk1 : (k : Int) < (n : Int) := by omega
      have hk0 : (0 : Int) ≤ (k : Int) := by omega
      obtain ⟨b0, o0, rfl, hl0, hc0⟩ := HR.out k hkz
      have c0 : wr.cell? ⟨b0, o0 + k * 5, none⟩ = some (.int .i64 zs[k].c) := (hbel.cell (p := ⟨b0, _, none⟩) hl0).trans (hc0 0 (by decide))
      have c1 : wr.cell? ⟨b0, o0 + k * 5 + 1, none⟩ = some (.int .i64 zs[k].n) := (hbel.cell (p := ⟨b0, _, none⟩) hl0).trans (hc0 1 (by decide))
      have c2 : wr.cell? ⟨b0, o0 + k * 5 + 2, none⟩ = some (.int .i64 zs[k].o) := (hbel.cell (p := ⟨b0, _, none⟩) hl0).trans (hc0 2 (by decide))
      have c3 : wr.cell? ⟨b0, o0 + k * 5 + 3, none⟩ = some (.int .i64 zs[k].x) := (hbel.cell (p := ⟨b0, _, none⟩) hl0).trans (hc0 3 (by decide))
      have c4 : wr.cell? ⟨b0, o0 + k * 5 + 4, none⟩ = some (.int .i64 zs[k].y) := (hbel.cell (p := ⟨b0, _, none⟩) hl0).trans (hc0 4 (by decide))
      clear hc0
      go_wp2_with fail
      refine (notOk_c zs[k].c zs[k].n zs[k].o zs[k].x zs[k].y _).mono ?_
      rintro e w1 ⟨rfl, k1⟩
      have hbel1 := below_next hbel k1
      clear c0 c1 c2 c3 c4 k1 hbel
      cases hg : goodB zs[k].c zs[k].n zs[k].o zs[k].x zs[k].y with
      | true =>
        go_wp2_with fail
        refine ⟨⟨k + 1, by omega, by go_num, fun j hj hjk => ?_, hbel1⟩, ?_⟩
        · by_cases hjk' : j = k
          · subst hjk'; exact hg
          · exact HA.out j hj (by omega)
        · simp [intOf]; omega
      | false =>
        go_wp2_with fail
        go_ret
        refine ⟨k, rfl, .inr ⟨?_, by omega⟩, hbel1⟩
        rw [← Bool.not_eq_true, List.all_eq_true]
        intro h
        have := h zs[k] (List.getElem_mem _)
        rw [show good zs[k] = false from hg] at this
        cases this
    · go_wp2_with fail
      go_ret
      refine ⟨-1, rfl, .inl ⟨?_, by omega⟩, hbel⟩
      rw [List.all_eq_true]
      intro z hz
      obtain ⟨j, hj, rfl⟩ := List.getElem_of_mem hz
      exact HA.out j hj (by omega)

set_option maxHeartbeats 400000 in
theorem allOk_c (a : Option Addr) (zs : List Rq) (n cap : Nat) (w : World) (h : IsSl w (.slice a n cap) 5 Rq.cs zs) (hn : zs.length = n) :
    Calls Try.prog 80 #[.slice a n cap] w fun e w' => e = .returned (.bool (zs.all good)) ∧ Below w.heap.size w w' := by
  have HI := Lib.hid (firstBad_c a zs n cap w h hn)
  clear h
  have HC : Hid (Calls Try.prog 110 #[.slice a n cap, .func (.func 111) #[] #[]] w fun e w' => e = .returned (.bool (!zs.all good)) ∧ Below w.heap.size w w') := by
    show Calls _ _ _ _ _
    go_enter Try.func110, Try.ntmps110
    go_wp2_with fail
    refine HI.out.mono ?_
    rintro e w1 ⟨m, rfl, hm, k1⟩
    rcases hm with ⟨ha, hm⟩ | ⟨ha, hm⟩
    · go_wp2_with fail
      go_ret
      exact ⟨ret_bool (by rw [ha]; simp; omega), k1⟩
    · go_wp2_with fail
      go_ret
      exact ⟨ret_bool (by rw [ha]; simp), k1⟩
  go_enter Try.func80, Try.ntmps80
  go_wp2_with fail
  refine HC.out.mono ?_
  rintro e w1 ⟨rfl, k1⟩
  go_wp2_with fail
  go_ret
  exact ⟨ret_bool (by simp), k1⟩
end Go.Proofs.Ytofedboeggdkaaa
