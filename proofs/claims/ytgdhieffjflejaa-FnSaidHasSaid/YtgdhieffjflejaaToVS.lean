/- Lists of votes copied (toVoteS): the copy says the same; condition: at most 2^20 votes, 2^20 claims each. -/
import Derived.Test.YtgdhieffjflejaaToV
import Derived.Test.YtgdhieffjflejaaSameV
import Derived.Test.YtgdhieffjflejaaArgsA
set_option linter.unusedSimpArgs false
set_option linter.unusedVariables false
namespace Go.Proofs.Ytgdhieffjflejaa
open Go.RowKit Go.Joins

theorem flat_two_set (zs : List Vx) (i : Nat) (h : i < zs.length) (z : Vx) :
    ((flat Vx.cs zs).setIfInBounds (i * 2) (.int .i64 z.f)).setIfInBounds (i * 2 + 1) z.sl = flat Vx.cs (zs.set i z) := by
  unfold flat
  simp only [List.setIfInBounds_toArray]
  congr 1
  induction zs generalizing i with
  | nil => cases h
  | cons y zs ih =>
    cases i with
    | zero => simp [List.flatMap_cons, Vx.cs]
    | succ i =>
      have := ih i (by simpa using h)
      have e : ∀ j, (i + 1) * 2 + j = 2 + (i * 2 + j) := fun j => by omega
      have e0 : (i + 1) * 2 = 2 + i * 2 := by omega
      have ap : ∀ (l : List Value) (m : Nat) (v : Value), (y.cs ++ l).set (2 + m) v = y.cs ++ l.set m v := fun l m v => by
        rw [List.set_append_right _ _ (by rw [two_len]; omega), two_len]
        congr 2
        omega
      simp only [List.flatMap_cons, List.set_cons_succ]
      rw [e 1, e0, ap, ap, this]
def vx0 : Vx := ⟨0, .slice none 0 0, []⟩
theorem made_two (n : Nat) : madeCells #[.int .i64 0, .slice none 0 0] (n * 2) = flat Vx.cs (List.replicate n vx0) := by
  apply Array.ext
  · rw [flat_size two_len]; simp [madeCells]
  · intro i h1 h2
    have hi : i < n * 2 := by simpa [madeCells] using h1
    have g := flat_get two_len (List.replicate n vx0) (i / 2) (by simp; omega) (i % 2) (by omega)
    rw [show i / 2 * 2 + i % 2 = i by omega] at g
    have hm : i % 2 = 0 ∨ i % 2 = 1 := by omega
    rw [Array.getElem?_eq_getElem h2] at g
    apply Option.some.inj
    rw [g]
    simp only [madeCells, Array.getElem_map, Array.getElem_range, List.getElem_replicate]
    rcases hm with h | h <;> (simp [h, Vx.cs, vx0])
theorem infoVote : (Try.prog.info? 65).map (fun i => (i.zero, i.size, i.bytes)) = some (some (.agg #[.int .i64 0, .slice none 0 0]), 2, 32) := by kernel_rfl
theorem make_Vote (w : World) (n : Nat) (h : n ≤ 1048576) : (Instr.makeSlice 32 (.int .i64 (n : Int)) (.int .i64 (n : Int))).run Try.prog w = .ok (.slice (some ⟨w.heap.size, 0, none⟩) n n) (w.alloc (.cells (flat Vx.cs (List.replicate n vx0)) 65)) := by
  obtain ⟨i0, hi, hz0, hz1, hz2⟩ := info_parts infoVote
  have := run_make (P := Try.prog) (w := w) 32 65 i0 _ Try.underlying32 hi hz0 .i64 .i64 (n : Int) (n : Int) (by omega) (by omega) (by rw [hz2]; omega) (by omega)
  rw [hz1] at this
  rw [← made_two]
  simpa [Value.cells] using this

/-- A slice that lies in a block from B on. -/
def SlFrom (B : Nat) (v : Value) : Prop := ∀ a n c, v = .slice a n c → ∀ p, a = some p → B ≤ p.block
theorem SlFrom.nil (B : Nat) (n c : Nat) : SlFrom B (.slice none n c) := by
  intro a n' c' h p hp
  cases h
  cases hp
theorem SlFrom.new {B g n c : Nat} (h : B ≤ g) : SlFrom B (.slice (some ⟨g, 0, none⟩) n c) := by
  intro a n' c' e p hp
  cases e
  cases hp
  exact h
theorem SlFrom.low {B B' : Nat} {v : Value} (h : SlFrom B v) (hB : B' ≤ B) : SlFrom B' v := fun a n c e p hp => Nat.le_trans hB (h a n c e p hp)
theorem IsSl.moved {α : Type} {w w' : World} {v : Value} {k : Nat} {R : α → List Value} {zs : List α} {B : Nat} (h : IsSl w v k R zs) (hn : SlFrom B v) (hs : w.heap.size ≤ w'.heap.size) (hk : ∀ b, b < w.heap.size → B ≤ b → w'.heap[b]? = w.heap[b]?) : IsSl w' v k R zs := by
  obtain ⟨a, cap, rfl, h1, h2, h3⟩ := h
  refine ⟨a, cap, rfl, h1, h2, fun i hi => ?_⟩
  obtain ⟨b, off, rfl, hb, hc⟩ := h3 i hi
  have hne : B ≤ b := hn _ _ _ rfl _ rfl
  exact ⟨b, off, rfl, Nat.lt_of_lt_of_le hb hs, fun j hj => (World.cell?_of_block (w := w) (w' := w') (a := ⟨b, off + i * k + j, none⟩) (hk b hb hne)).trans (hc j hj)⟩
theorem IsSl.setLow {α : Type} {w : World} {v : Value} {k : Nat} {R : α → List Value} {zs : List α} {p : Addr} {B : Nat} (h : IsSl w v k R zs) (hn : SlFrom B v) (hp : p.block < B) (u : Value) : IsSl (w.setCell p u) v k R zs :=
  h.moved hn (by simp) fun b _ hne => Below.heap_setCell w p u b (by omega)

theorem map_set_say {xs ys : List Vx} {k : Nat} (hk : k < xs.length) (hl : ys.length = xs.length) (h : ∀ j, j < k → (ys.map Vx.say)[j]? = (xs.map Vx.say)[j]?) {z : Vx} (hz : z.say = (xs[k]'hk).say) : ∀ j, j < k + 1 → ((ys.set k z).map Vx.say)[j]? = (xs.map Vx.say)[j]? := by
  intro j hj
  by_cases hjk : j = k
  · subst hjk
    rw [List.getElem?_map, List.getElem?_map, List.getElem?_set_self (by omega), List.getElem?_eq_getElem hk, Option.map_some, Option.map_some, hz]
  · rw [List.getElem?_map, List.getElem?_set_ne (by omega), ← List.getElem?_map]
    exact h j (by omega)

/-- What the copy of votes gives. -/
def VotesGot (xs : List Vx) (w : World) (e : Ending) (w' : World) : Prop :=
  ∃ ys : List Vx, e = .returned (.slice (some ⟨w.heap.size, 0, none⟩) xs.length xs.length) ∧ ys.map Vx.say = xs.map Vx.say ∧ IsVs w' (.slice (some ⟨w.heap.size, 0, none⟩) xs.length xs.length) ys ∧ (∀ z ∈ ys, SlFrom (w.heap.size + 1) z.sl) ∧ Below w.heap.size w w'

set_option maxRecDepth 100000 in
set_option maxHeartbeats 2000000 in
theorem toVoteS_c (v : Value) (xs : List Vx) (w : World) (h : IsVs w v xs) (hn : xs.length ≤ 1048576) (hc : ∀ z ∈ xs, z.cl.length ≤ 1048576) :
    Calls Try.prog 28 #[v] w (VotesGot xs w) := by
  obtain ⟨⟨a, cap, rfl, hlc, hm, hr⟩, hcs⟩ := h
  have HR := Lib.hid hr
  have CR := Lib.hid hcs
  have HC := Lib.hid hc
  clear hr hcs hc
  unfold maxLen at hm
  generalize hnn : xs.length = n at *
  have hmk := make_Vote w n hn
  go_enter Try.func28, Try.ntmps28
  go_wp2_with fail
  obtain ⟨W, hW, sW, aW, kW⟩ := blocks1 w (.cells (flat Vx.cs (List.replicate n vx0)) 65)
  rw [← hW]
  clear hW hmk
  go_loopw [4] (fun i wr => ∃ (k : Nat) (ys : List Vx), k ≤ n ∧ i = .int .i64 k ∧ ys.length = xs.length ∧ (∀ j, j < k → (ys.map Vx.say)[j]? = (xs.map Vx.say)[j]?) ∧ wr.heap[w.heap.size]? = some (.cells (flat Vx.cs ys) 65 (0, 0)) ∧ (∀ z ∈ ys, IsSl wr z.sl 7 Cl.cs z.cl ∧ SlFrom (w.heap.size + 1) z.sl) ∧ Below w.heap.size w wr) (fun i _ => n - (intOf i).toNat)
  case atStart => exact ⟨0, List.replicate n vx0, Nat.zero_le _, rfl, by simp [hnn], fun j hj => absurd hj (Nat.not_lt_zero j), aW, fun z hz => by
    obtain rfl := List.eq_of_mem_replicate hz
    exact ⟨⟨none, 0, rfl, Nat.le_refl _, Nat.zero_le _, fun i hi => absurd hi (Nat.not_lt_zero i)⟩, SlFrom.nil _ _ _⟩, kW⟩
  case round =>
    obtain ⟨k, ys, hk, rfl, hl, hal, hB, hys, hbel⟩ := hrel
    have hlB := lt_of_block hB
    have YS := Lib.hid hys
    clear hys
    by_cases hlt : k < n
    · have hkz : k < xs.length := by omega
      obtain ⟨b, off, rfl, hbl, hca⟩ := HR.out k hkz
      have c0 : wr.cell? ⟨b, off + k * 2, none⟩ = some (.int .i64 xs[k].f) := (hbel.cell (p := ⟨b, _, none⟩) hbl).trans (hca 0 (by decide))
      have c1 : wr.cell? ⟨b, off + k * 2 + 1, none⟩ = some xs[k].sl := (hbel.cell (p := ⟨b, _, none⟩) hbl).trans (hca 1 (by decide))
      have SX := Lib.hid ((CR.out xs[k] (List.getElem_mem hkz)).below hbel)
      have NX := Lib.hid (HC.out xs[k] (List.getElem_mem hkz))
      have HNX := Lib.hid (fun (z : Vx) (hz : z.say = xs[k].say) => map_set_say hkz hl hal hz)
      clear hca hal
      generalize xs[k] = x at c0 c1 SX NX HNX
      obtain ⟨F, sx, cx⟩ := x
      obtain ⟨ax, kx, hsx, -⟩ := SX.out
      simp only at c0 c1 hsx
      subst hsx
      have HB := Lib.hid hB
      clear hB
      go_wp2_with fail
      refine (toVote_c F ax cx.length kx cx _ SX.out NX.out).mono ?_
      rintro e w1 ⟨g, hgs, rfl, hg, k1⟩
      have hbel1 := below_next hbel k1
      have hB1 := carryB k1 hlB HB.out
      have hky : k < ys.length := by omega
      have hd : ∀ j, j < 2 → w1.cell? ⟨w.heap.size, k * 2 + j, none⟩ = ys[k].cs[j]? := fun j hj => by
        rw [cell_of_block hB1]
        exact flat_get two_len ys k hky j hj
      have HS := Lib.hid (flat_two_set ys k hky ⟨F, .slice (some ⟨g, 0, none⟩) cx.length cx.length, cx⟩)
      generalize ys[k] = y at hd
      have d0 : w1.cell? ⟨w.heap.size, k * 2, none⟩ = some (.int .i64 y.f) := hd 0 (by decide)
      have d1 : w1.cell? ⟨w.heap.size, k * 2 + 1, none⟩ = some y.sl := hd 1 (by decide)
      have hf := unfrozen_of_block hB1
      have HB' := Lib.hid (block_setCell (i := k * 2 + 1) (block_setCell (i := k * 2) hB1 (.int .i64 F)) (.slice (some ⟨g, 0, none⟩) cx.length cx.length))
      have hle : w.heap.size ≤ w.heap.size := Nat.le_refl _
      have hgw : w.heap.size < g := by omega
      have YS1 := Lib.hid (fun z hz => (⟨(YS.out z hz).1.below k1, (YS.out z hz).2⟩ : IsSl w1 z.sl 7 Cl.cs z.cl ∧ SlFrom (w.heap.size + 1) z.sl))
      have HG := Lib.hid hg
      clear c0 c1 hd hB1 hg k1 YS
      go_wp2_with fail
      go_roundw
      case rel =>
        have h2 := HB'.out
        rw [HS.out] at h2
        refine ⟨k + 1, ys.set k ⟨F, .slice (some ⟨g, 0, none⟩) cx.length cx.length, cx⟩, by omega, by go_num, by simpa using hl, HNX.out _ rfl, h2, fun z hz => ?_, (by repeat' (first | with_reducible exact Below.refl _ _ | with_reducible assumption | with_reducible refine Below.alloc ?_ ?_ _ | with_reducible refine Below.drew ?_ | with_reducible refine Below.setCell ?_ ?_ _ | omega | (simp; omega) | (simp; done)))⟩
        have hz' : IsSl w1 z.sl 7 Cl.cs z.cl ∧ SlFrom (w.heap.size + 1) z.sl := by
          rcases List.mem_or_eq_of_mem_set hz with h | rfl
          · exact YS1.out z h
          · exact ⟨HG.out, SlFrom.new (by omega)⟩
        exact ⟨(hz'.1.setLow (p := ⟨w.heap.size, _, none⟩) hz'.2 (Nat.lt_succ_self _) _).setLow (p := ⟨w.heap.size, _, none⟩) hz'.2 (Nat.lt_succ_self _) _, hz'.2⟩
      case measure => simp [intOf]; omega
    · have e : ys.map Vx.say = xs.map Vx.say := list_ext_upto (by simpa using hl) (fun j hj => hal j (by simp at hj; omega))
      have hyl : ys.length = n := by omega
      go_wp2
      go_ret
      refine ⟨ys, by rw [hnn]; rfl, e, ⟨?_, fun z hz => (YS.out z hz).1⟩, fun z hz => (YS.out z hz).2, hbel⟩
      have h3 := sl_of_block two_len hB hyl hn
      rw [hnn]
      exact h3
end Go.Proofs.Ytgdhieffjflejaa
