/- Lists of letters copied (toMsgS): the copy says the same; condition: at most 2^20 letters, lists of at most 2^20. -/
import Derived.Test.YtgdhieffjflejaaToM
import Derived.Test.YtgdhieffjflejaaHasS
set_option linter.unusedSimpArgs false
set_option linter.unusedVariables false
namespace Go.Proofs.Ytgdhieffjflejaa
open Go.RowKit Go.Joins

theorem flat_eleven_set (zs : List Mg) (i : Nat) (h : i < zs.length) (z : Mg) :
    ((((((((((((flat Mg.cs zs).setIfInBounds (i * 11) (.int .i64 z.k)).setIfInBounds (i * 11 + 1) (.int .i64 z.f)).setIfInBounds (i * 11 + 2) (.int .i64 z.v)).setIfInBounds (i * 11 + 3) (.int .i64 z.s)).setIfInBounds (i * 11 + 4) (.int .i64 z.r.c)).setIfInBounds (i * 11 + 5) (.int .i64 z.r.n)).setIfInBounds (i * 11 + 6) (.int .i64 z.r.o)).setIfInBounds (i * 11 + 7) (.int .i64 z.r.x)).setIfInBounds (i * 11 + 8) (.int .i64 z.r.y)).setIfInBounds (i * 11 + 9) z.vc).setIfInBounds (i * 11 + 10) z.vv) = flat Mg.cs (zs.set i z) := by
  unfold flat
  simp only [List.setIfInBounds_toArray]
  congr 1
  induction zs generalizing i with
  | nil => cases h
  | cons y zs ih =>
    cases i with
    | zero => simp [List.flatMap_cons, Mg.cs]
    | succ i =>
      have := ih i (by simpa using h)
      have e : ∀ j, (i + 1) * 11 + j = 11 + (i * 11 + j) := fun j => by omega
      have e0 : (i + 1) * 11 = 11 + i * 11 := by omega
      have ap : ∀ (l : List Value) (m : Nat) (v : Value), (y.cs ++ l).set (11 + m) v = y.cs ++ l.set m v := fun l m v => by
        rw [List.set_append_right _ _ (by rw [eleven_len]; omega), eleven_len]
        congr 2
        omega
      simp only [List.flatMap_cons, List.set_cons_succ]
      rw [e 1, e 2, e 3, e 4, e 5, e 6, e 7, e 8, e 9, e 10, e0, ap, ap, ap, ap, ap, ap, ap, ap, ap, ap, ap, this]
def mg0 : Mg := ⟨0, 0, 0, 0, ⟨0, 0, 0, 0, 0⟩, .slice none 0 0, .slice none 0 0, [], []⟩
theorem made_eleven (n : Nat) : madeCells #[.int .i64 0, .int .i64 0, .int .i64 0, .int .i64 0, .int .i64 0, .int .i64 0, .int .i64 0, .int .i64 0, .int .i64 0, .slice none 0 0, .slice none 0 0] (n * 11) = flat Mg.cs (List.replicate n mg0) := by
  apply Array.ext
  · rw [flat_size eleven_len]; simp [madeCells]
  · intro i h1 h2
    have hi : i < n * 11 := by simpa [madeCells] using h1
    have g := flat_get eleven_len (List.replicate n mg0) (i / 11) (by simp; omega) (i % 11) (by omega)
    rw [show i / 11 * 11 + i % 11 = i by omega] at g
    have hm : i % 11 = 0 ∨ i % 11 = 1 ∨ i % 11 = 2 ∨ i % 11 = 3 ∨ i % 11 = 4 ∨ i % 11 = 5 ∨ i % 11 = 6 ∨ i % 11 = 7 ∨ i % 11 = 8 ∨ i % 11 = 9 ∨ i % 11 = 10 := by omega
    rw [Array.getElem?_eq_getElem h2] at g
    apply Option.some.inj
    rw [g]
    simp only [madeCells, Array.getElem_map, Array.getElem_range, List.getElem_replicate]
    rcases hm with h | h | h | h | h | h | h | h | h | h | h <;> (simp [h, Mg.cs, mg0])
theorem infoMsg : (Try.prog.info? 34).map (fun i => (i.zero, i.size, i.bytes)) = some (some (.agg #[.int .i64 0, .int .i64 0, .int .i64 0, .int .i64 0, .int .i64 0, .int .i64 0, .int .i64 0, .int .i64 0, .int .i64 0, .slice none 0 0, .slice none 0 0]), 11, 120) := by kernel_rfl
theorem make_Msg (w : World) (n : Nat) (h : n ≤ 1048576) : (Instr.makeSlice 40 (.int .i64 (n : Int)) (.int .i64 (n : Int))).run Try.prog w = .ok (.slice (some ⟨w.heap.size, 0, none⟩) n n) (w.alloc (.cells (flat Mg.cs (List.replicate n mg0)) 34)) := by
  obtain ⟨i0, hi, hz0, hz1, hz2⟩ := info_parts infoMsg
  have := run_make (P := Try.prog) (w := w) 40 34 i0 _ Try.underlying40 hi hz0 .i64 .i64 (n : Int) (n : Int) (by omega) (by omega) (by rw [hz2]; omega) (by omega)
  rw [hz1] at this
  rw [← made_eleven]
  simpa [Value.cells] using this

/-- A letter whose lists lie in blocks from B on. -/
def Mg.from (B : Nat) (m : Mg) : Prop := SlFrom B m.vc ∧ SlFrom B m.vv ∧ ∀ z ∈ m.vs, SlFrom B z.sl
theorem Mg.from_low {B B' : Nat} {m : Mg} (h : m.from B) (hB : B' ≤ B) : m.from B' := ⟨h.1.low hB, h.2.1.low hB, fun z hz => (h.2.2 z hz).low hB⟩
theorem Mg.ok_moved {w w' : World} {m : Mg} {B : Nat} (h : m.ok w) (hn : m.from B) (hs : w.heap.size ≤ w'.heap.size) (hk : ∀ b, b < w.heap.size → B ≤ b → w'.heap[b]? = w.heap[b]?) : m.ok w' :=
  ⟨IsSl.moved h.1 hn.1 hs hk, IsSl.moved h.2.1 hn.2.1 hs hk, fun z hz => IsSl.moved (h.2.2 z hz) (hn.2.2 z hz) hs hk⟩
theorem Mg.ok_setLow {w : World} {m : Mg} {B : Nat} {p : Addr} (h : m.ok w) (hn : m.from B) (hp : p.block < B) (u : Value) : m.ok (w.setCell p u) :=
  Mg.ok_moved h hn (by simp) fun b _ hne => Below.heap_setCell w p u b (by omega)
theorem map_set_sayM {xs ys : List Mg} {k : Nat} (hk : k < xs.length) (hl : ys.length = xs.length) (h : ∀ j, j < k → (ys.map Mg.say)[j]? = (xs.map Mg.say)[j]?) {z : Mg} (hz : z.say = (xs[k]'hk).say) : ∀ j, j < k + 1 → ((ys.set k z).map Mg.say)[j]? = (xs.map Mg.say)[j]? := by
  intro j hj
  by_cases hjk : j = k
  · subst hjk
    rw [List.getElem?_map, List.getElem?_map, List.getElem?_set_self (by omega), List.getElem?_eq_getElem hk, Option.map_some, Option.map_some, hz]
  · rw [List.getElem?_map, List.getElem?_set_ne (by omega), ← List.getElem?_map]
    exact h j (by omega)

/-- A letter that says the same, with these slices. -/
def Mg.at (m : Mg) (g0 g1 : Nat) (ys : List Vx) : Mg := ⟨m.k, m.f, m.v, m.s, m.r, .slice (some ⟨g0, 0, none⟩) m.cl.length m.cl.length, .slice (some ⟨g1, 0, none⟩) m.vs.length m.vs.length, m.cl, ys⟩
theorem Mg.at_say {m : Mg} {g0 g1 : Nat} {ys : List Vx} (h : ys.map Vx.say = m.vs.map Vx.say) : (m.at g0 g1 ys).say = m.say := by simp [Mg.say, Mg.at, h]
theorem say_len {xs ys : List Vx} (h : ys.map Vx.say = xs.map Vx.say) : ys.length = xs.length := by simpa using congrArg List.length h

/-- What the copy of letters gives. -/
def MsgsGot (xs : List Mg) (w : World) (e : Ending) (w' : World) : Prop :=
  ∃ ys : List Mg, e = .returned (.slice (some ⟨w.heap.size, 0, none⟩) xs.length xs.length) ∧ ys.map Mg.say = xs.map Mg.say ∧ IsMs w' (.slice (some ⟨w.heap.size, 0, none⟩) xs.length xs.length) ys ∧ Below w.heap.size w w'

set_option maxRecDepth 100000 in
set_option maxHeartbeats 2000000 in
theorem toMsgS_c (v : Value) (xs : List Mg) (w : World) (h : IsMs w v xs) (hn : xs.length ≤ 1048576) (hc : ∀ m ∈ xs, m.small) :
    Calls Try.prog 14 #[v] w (MsgsGot xs w) := by
  obtain ⟨⟨a, cap, rfl, hlc, hm, hr⟩, hcs⟩ := h
  have HR := Lib.hid hr
  have CR := Lib.hid hcs
  have HC := Lib.hid hc
  clear hr hcs hc
  unfold maxLen at hm
  generalize hnn : xs.length = n at *
  have hmk := make_Msg w n hn
  go_enter Try.func14, Try.ntmps14
  go_wp2_with fail
  obtain ⟨W, hW, sW, aW, kW⟩ := blocks1 w (.cells (flat Mg.cs (List.replicate n mg0)) 34)
  rw [← hW]
  clear hW hmk
  go_loopw [4] (fun i wr => ∃ (k : Nat) (ys : List Mg), k ≤ n ∧ i = .int .i64 k ∧ ys.length = xs.length ∧ (∀ j, j < k → (ys.map Mg.say)[j]? = (xs.map Mg.say)[j]?) ∧ wr.heap[w.heap.size]? = some (.cells (flat Mg.cs ys) 34 (0, 0)) ∧ (∀ z ∈ ys, z.ok wr ∧ z.from (w.heap.size + 1)) ∧ Below w.heap.size w wr) (fun i _ => n - (intOf i).toNat)
  case atStart => exact ⟨0, List.replicate n mg0, Nat.zero_le _, rfl, by simp [hnn], fun j hj => absurd hj (Nat.not_lt_zero j), aW, fun z hz => by
    obtain rfl := List.eq_of_mem_replicate hz
    exact ⟨⟨⟨none, 0, rfl, Nat.le_refl _, Nat.zero_le _, fun i hi => absurd hi (Nat.not_lt_zero i)⟩, ⟨none, 0, rfl, Nat.le_refl _, Nat.zero_le _, fun i hi => absurd hi (Nat.not_lt_zero i)⟩, fun z hz => nomatch hz⟩, SlFrom.nil _ _ _, SlFrom.nil _ _ _, fun z hz => nomatch hz⟩, kW⟩
  case round =>
    obtain ⟨k, ys, hk, rfl, hl, hal, hB, hys, hbel⟩ := hrel
    have hlB := lt_of_block hB
    have YS := Lib.hid hys
    clear hys
    by_cases hlt : k < n
    · have hkz : k < xs.length := by omega
      obtain ⟨b, off, rfl, hbl, hca⟩ := mg_at HR.out k hkz
      obtain ⟨x0, x1, x2, x3, x4, x5, x6, x7, x8, x9, x10⟩ := hca wr hbel
      have SX := (CR.out xs[k] (List.getElem_mem hkz)).below hbel
      have NX := Lib.hid (HC.out xs[k] (List.getElem_mem hkz))
      have HNX := Lib.hid (fun (z : Mg) (hz : z.say = xs[k].say) => map_set_sayM hkz hl hal hz)
      clear hca hal
      generalize xs[k] = x at x0 x1 x2 x3 x4 x5 x6 x7 x8 x9 x10 SX NX HNX
      have HX := Lib.hid (show IsMg wr (.agg x.cs.toArray) x from ⟨rfl, SX⟩)
      obtain ⟨⟨ax, cx, ex, -⟩, ⟨bx, dx, fx, -⟩, -⟩ := SX
      rw [ex] at x9
      rw [fx] at x10
      simp only [Mg.cs, ex, fx] at HX
      clear ex fx
      have HB := Lib.hid hB
      clear hB
      go_wp2_with fail
      refine (toMsg_c _ x _ HX.out NX.out).mono ?_
      rintro e w1 ⟨g0, g1, vs, rfl, i0, i1, hy, hg0, hg1, hf, k1⟩
      have hbel1 := below_next hbel k1
      have hB1 := carryB k1 hlB HB.out
      have hky : k < ys.length := by omega
      have hd : ∀ j, j < 11 → w1.cell? ⟨w.heap.size, k * 11 + j, none⟩ = ys[k].cs[j]? := fun j hj => by
        rw [cell_of_block hB1]
        exact flat_get eleven_len ys k hky j hj
      have HS := Lib.hid (flat_eleven_set ys k hky (x.at g0 g1 vs))
      generalize ys[k] = y at hd
      obtain ⟨yk, yf, yv, ysq, yr, yvc, yvv, ycl, yvs⟩ := y
      have d0 : w1.cell? ⟨w.heap.size, k * 11, none⟩ = some (.int .i64 yk) := hd 0 (by decide)
      have d1 : w1.cell? ⟨w.heap.size, k * 11 + 1, none⟩ = some (.int .i64 yf) := hd 1 (by decide)
      have d2 : w1.cell? ⟨w.heap.size, k * 11 + 2, none⟩ = some (.int .i64 yv) := hd 2 (by decide)
      have d3 : w1.cell? ⟨w.heap.size, k * 11 + 3, none⟩ = some (.int .i64 ysq) := hd 3 (by decide)
      have d4 : w1.cell? ⟨w.heap.size, k * 11 + 4, none⟩ = some (.int .i64 yr.c) := hd 4 (by decide)
      have d5 : w1.cell? ⟨w.heap.size, k * 11 + 5, none⟩ = some (.int .i64 yr.n) := hd 5 (by decide)
      have d6 : w1.cell? ⟨w.heap.size, k * 11 + 6, none⟩ = some (.int .i64 yr.o) := hd 6 (by decide)
      have d7 : w1.cell? ⟨w.heap.size, k * 11 + 7, none⟩ = some (.int .i64 yr.x) := hd 7 (by decide)
      have d8 : w1.cell? ⟨w.heap.size, k * 11 + 8, none⟩ = some (.int .i64 yr.y) := hd 8 (by decide)
      have d9 : w1.cell? ⟨w.heap.size, k * 11 + 9, none⟩ = some (yvc) := hd 9 (by decide)
      have d10 : w1.cell? ⟨w.heap.size, k * 11 + 10, none⟩ = some (yvv) := hd 10 (by decide)
      have hfz := unfrozen_of_block hB1
      have HB' := Lib.hid (block_setCell (i := k * 11 + 10) (block_setCell (i := k * 11 + 9) (block_setCell (i := k * 11 + 8) (block_setCell (i := k * 11 + 7) (block_setCell (i := k * 11 + 6) (block_setCell (i := k * 11 + 5) (block_setCell (i := k * 11 + 4) (block_setCell (i := k * 11 + 3) (block_setCell (i := k * 11 + 2) (block_setCell (i := k * 11 + 1) (block_setCell (i := k * 11) hB1 (.int .i64 x.k)) (.int .i64 x.f)) (.int .i64 x.v)) (.int .i64 x.s)) (.int .i64 x.r.c)) (.int .i64 x.r.n)) (.int .i64 x.r.o)) (.int .i64 x.r.x)) (.int .i64 x.r.y)) (.slice (some ⟨g0, 0, none⟩) x.cl.length x.cl.length)) (.slice (some ⟨g1, 0, none⟩) x.vs.length x.vs.length))
      have hle : w.heap.size ≤ w.heap.size := Nat.le_refl _
      have YS1 := Lib.hid (fun z hz => (⟨(YS.out z hz).1.below k1, (YS.out z hz).2⟩ : z.ok w1 ∧ z.from (w.heap.size + 1)))
      have HG := Lib.hid (show (x.at g0 g1 vs).ok w1 ∧ (x.at g0 g1 vs).from (w.heap.size + 1) from ⟨⟨i0, by simp only [Mg.at]; exact i1⟩, SlFrom.new (by omega), SlFrom.new (by omega), fun z hz => (hf z hz).low hlB⟩)
      have HSY := Lib.hid (Mg.at_say (g0 := g0) (g1 := g1) hy)
      clear hd hB1 i0 i1 hy hf k1 YS x0 x1 x2 x3 x4 x5 x6 x7 x8 x9 x10
      go_wp2_with fail
      go_roundw
      case rel =>
        have h2 := HB'.out
        have h3 := HS.out
        simp only [Mg.at] at h3
        rw [h3] at h2
        refine ⟨k + 1, ys.set k (x.at g0 g1 vs), by omega, by go_num, by simpa using hl, HNX.out _ HSY.out, h2, fun z hz => ?_, (by repeat' (first | with_reducible exact Below.refl _ _ | with_reducible assumption | with_reducible refine Below.alloc ?_ ?_ _ | with_reducible refine Below.drew ?_ | with_reducible refine Below.setCell ?_ ?_ _ | omega | (simp; omega) | (simp; done)))⟩
        have hz' : z.ok w1 ∧ z.from (w.heap.size + 1) := by
          rcases List.mem_or_eq_of_mem_set hz with h | rfl
          · exact YS1.out z h
          · exact HG.out
        refine ⟨?_, hz'.2⟩
        repeat' (refine Mg.ok_setLow (B := w.heap.size + 1) ?_ hz'.2 (Nat.lt_succ_self _) _)
        exact hz'.1
      case measure => simp [intOf]; omega
    · have e : ys.map Mg.say = xs.map Mg.say := list_ext_upto (by simpa using hl) (fun j hj => hal j (by simp at hj; omega))
      have hyl : ys.length = n := by omega
      go_wp2
      go_ret
      refine ⟨ys, by rw [hnn]; rfl, e, ⟨?_, fun z hz => (YS.out z hz).1⟩, hbel⟩
      have h3 := sl_of_block eleven_len hB hyl hn
      rw [hnn]
      exact h3
end Go.Proofs.Ytgdhieffjflejaa
