/- Drawn events (l20Events); condition: fewer than 2^40 reads. | A drawn letter whose claims lie in a row of its own; any drawn letter (l20AnyMsg); condition: fewer than 2^40 reads. | Drawn plays, worlds, letters and one (l20Play, l20World, DrawSaidHas); no condition. | Claims compared by the program: slices.Equal; the votes' test that MsgSame hands on; no condition. | Votes compared by the program: slices.EqualFunc with the test that MsgSame hands on; no condition. | Letters compared by the program (MsgSame); no condition. | Whether a letter was said, by the program (SaidHas: slices.ContainsFunc with a closure); no condition. | The walk of FnSaidHas: it returns true for every code; no condition. | FnSaidHas: the law returns true for every input; no condition. -/
import Derived.Test.YtgdhieffjflejaaZB
import Derived.Test.YtgdhieffjflejaaSameV
import Derived.Test.YtgdhieffjflejaaSameM
import Derived.Test.YtgdhieffjflejaaHasS
import Derived.Test.YtgdhieffjflejaaOpen
import Derived.ProofKit
import Derived.OpenShut
import Derived.ShutString
import Derived.ChangeOld
import Derived.Below
set_option linter.unusedSimpArgs false
set_option linter.unusedVariables false
/-! DrawS -/
namespace Go.Proofs.Ytgdhieffjflejaa
open Go.RowKit Go.Joins

theorem flat_ev {k pt tw : Int} {m : Mg} {a b : Option Addr} {c d : Nat} (h1 : m.vc = .slice a m.cl.length c) (h2 : m.vv = .slice b m.vs.length d) : flat Ev.cs [⟨k, pt, tw, m⟩] = #[.int .i64 k, .int .i64 pt, .int .i64 tw, .int .i64 m.k, .int .i64 m.f, .int .i64 m.v, .int .i64 m.s, .int .i64 m.r.c, .int .i64 m.r.n, .int .i64 m.r.o, .int .i64 m.r.x, .int .i64 m.r.y, .slice a m.cl.length c, .slice b m.vs.length d] := by simp [flat, Ev.cs, h1, h2]
/-- Events; the reader has moved on; nothing else that was there has turned. -/
def EventsDrawn (w : World) (g P : Nat) (e : Ending) (w' : World) : Prop :=
 ∃ (a : Option Addr) (c : Nat) (es : List Ev), e = .returned (.slice a es.length c) ∧ IsEvs w' (.slice a es.length c) es ∧ EvsFit es ∧ Rdr w' g (P + 73000) ∧ w.grownBy w' (some g)

set_option maxRecDepth 100000 in
set_option maxHeartbeats 16000000 in
theorem l20Events_c (bad : Int) (most : Nat) (w : World) (g P : Nat) (hr : Rdr w g P) (hP : P ≤ 1099000000000) (hm : most ≤ 120) :
  Calls Try.prog 75 #[.pointer (some ⟨g, 0, none⟩), .int .i64 bad, .int .i64 most] w (EventsDrawn w g P) := by
 have hlt0 := hr.lt
 go_enter Try.func75, Try.ntmps75
 go_wp2_with fail
 refine (l6New_c bad w).mono ?_
 rintro e w1 ⟨a0, c0, rfl, hrow0, k1_⟩
 go_upto_region 2 with fail
 obtain ⟨V, hV_, sV, v0, k2_⟩ := blocks1 w1 (.cells #[.int .i64 bad, .slice a0 4 c0, .slice none 0 0] 50)
 rw [← hV_]
 clear hV_
 obtain ⟨u0, eu⟩ : ∃ u0, u0 = newWd bad a0 c0 := ⟨_, rfl⟩
 have v : V.heap[w1.heap.size]? = some (.cells #[.int .i64 u0.bad, .slice u0.ra u0.rp.length u0.rc, .slice u0.sa u0.sd.length u0.sc] 50 (0, 0)) := by subst eu; exact v0
 have hw1 : w.heap.size ≤ w1.heap.size := k1_.size
 obtain ⟨X, hXg, hXv, hXl, hXu⟩ : ∃ X : Nat → Prop, X g ∧ X w1.heap.size ∧ (∀ b, X b → b ≤ w1.heap.size) ∧ Rob X u0.ok V :=
  ⟨fun b => b = g ∨ b = w1.heap.size, .inl rfl, .inr rfl, fun b hb => by rcases hb with hb | hb <;> omega, ((eu ▸ newWd_ok bad hrow0 : Rob (Lo w.heap.size) u0.ok w1).box k2_ V.heap.size).weak fun b hb => by
   rcases hb with hb | hb
   ·
    exact .inl (by show b < w.heap.size; omega)
   ·
    exact .inr ⟨by omega, by omega⟩⟩
 have F0 := Lib.hid (show u0.fit 0 0 by subst eu; exact newWd_fit _ _ _)
 have K0 : w.grownBy V (some g) := grown_of_below (below_next k1_ k2_) _
 have r0 := hr.below ((below_next k1_ k2_).mono (by omega))
 have hv1 : w1.heap.size < V.heap.size := by omega
 clear k1_ k2_ hrow0 eu v0 sV hr
 go_upto_region 3 with fail
 obtain ⟨V1, hV_, sV1, n0, k2_⟩ := blocks1 V (.cells #[] 112)
 rw [← hV_]
 clear hV_ n0
 replace v := carryB k2_ (lt_of_block v) v
 have U0 := Lib.hid (hXu.below k2_)
 have K1 := grown_trans K0 (grown_of_below k2_ _)
 replace r0 := r0.below (k2_.mono (by omega))
 have hs0 : w1.heap.size < V1.heap.size := by omega
 clear k2_ K0 hXu sV1
 generalize w1.heap.size = q at *
 go_wp2_with fail
 go_loopw [8, 9] (fun st i wr => ∃ (n : Nat) (u : Wd) (a : Option Addr) (cc : Nat) (es : List Ev), n ≤ most ∧ i = .int .i64 n ∧ st = .slice a es.length cc ∧ es.length ≤ n ∧ u.fit (5 * n) (600 * n) ∧ wr.heap[q]? = some (.cells #[.int .i64 u.bad, .slice u.ra u.rp.length u.rc, .slice u.sa u.sd.length u.sc] 50 (0, 0)) ∧ Rob (OwX X a cc) u.ok wr ∧
   Row wr (q + 1) 112 a cc 14 Ev.cs es ∧ Rob (OwX X a cc) (fun V => ∀ e ∈ es, e.m.ok V) wr ∧ EvsFit es ∧ Rdr wr g (P + 601 * n) ∧ w.grownBy wr (some g) ∧ q < wr.heap.size) (fun _ i _ => most - (intOf i).toNat)
 case atStart => exact ⟨0, u0, some ⟨V.heap.size, 0, none⟩, 0, [], Nat.zero_le _, rfl, rfl, Nat.zero_le _, F0.out, v, U0.out.owX0, Row.nil _ _ _ _ _ _, (fun V hV e he => nomatch he), (fun e he => nomatch he), r0, K1, hs0⟩
 case round =>
  clear v U0 F0 K1 r0 hs0
  obtain ⟨n, u, a, cc, es, hn, rfl, rfl, hel, hfu, v, hu, hrow, heo, hef, hrd, K, hs⟩ := hrel
  have U := Lib.hid hu
  have FU := Lib.hid hfu
  have RW := Lib.hid hrow
  have EO := Lib.hid heo
  have EF := Lib.hid hef
  clear hu hfu hrow heo hef
  by_cases hnm : n < most
  ·
   have hn1 : (n : Int) < (most : Int) := by omega
   have hn0 : (0 : Int) ≤ (n : Int) := by omega
   have hrb : ∀ g', rowBlk a cc = some g' → q + 1 ≤ g' ∧ g' < wr.heap.size := fun g' hg' => RW.out.blk hg'
   have hneq : ¬ (q = g) := by omega
   have cv := cell_of_block v
   have fv := unfrozen_of_block v
   have lv := lt_of_block v
   go_wp2_with fail
   refine (l20Event_c (OwX X a cc) (5 * n) (600 * n) u wr g (P + 601 * n) hrd (by omega) U.out FU.out (.inl hXg) (OwX.lt (fun b hb => Nat.lt_of_le_of_lt (hXl b hb) hs) RW.out)).mono ?_
   rintro e w2 ⟨k, pt, tw, m, a1, b1, c1, d1, rfl, hv1_, hv2_, hmf, hmo, r1, k1⟩
   clear cv fv lv
   have MV := Lib.hid (And.intro hv1_ hv2_)
   have MF := Lib.hid hmf
   have MO := Lib.hid hmo
   clear hv1_ hv2_ hmf hmo hrd
   have hrb2 : ∀ g', rowBlk a cc = some g' → g' < w2.heap.size := fun g' hg' => Nat.lt_of_lt_of_le (hrb g' hg').2 k1.size
   replace v := carry k1 (by omega) v
   replace U := Lib.hid (U.out.next (Agree.grown k1 (.inl hXg)))
   replace EO := Lib.hid (EO.out.next (Agree.grown k1 (.inl hXg)))
   replace RW := Lib.hid (RW.out.kept k1 (fun g' hg' e => by have := (hrb g' hg').1; injection e; omega))
   replace K := grown_trans K k1
   replace hs := Nat.lt_of_lt_of_le hs k1.size
   clear k1
   have cv := cell_of_block v
   have fv := unfrozen_of_block v
   have lv := lt_of_block v
   go_upto_region 7 with fail
   obtain ⟨V2, hV_, sV2, ee, kV⟩ := blocks1 w2 (.cells #[.int .i64 k, .int .i64 pt, .int .i64 tw, .int .i64 m.k, .int .i64 m.f, .int .i64 m.v, .int .i64 m.s, .int .i64 m.r.c, .int .i64 m.r.n, .int .i64 m.r.o, .int .i64 m.r.x, .int .i64 m.r.y, .slice a1 m.cl.length c1, .slice b1 m.vs.length d1] 112)
   rw [← hV_]
   clear hV_ sV2
   clear cv fv lv
   have hgw := r1.lt
   replace r1 := r1.below (kV.mono (by omega))
   have hge : q < w2.heap.size := hs
   have lv_ := lt_of_block v
   replace v := carryB kV lv_ v
   replace U := Lib.hid (U.out.below kV)
   replace EO := Lib.hid (EO.out.below kV)
   replace MO := Lib.hid (MO.out.below kV)
   replace RW := Lib.hid (RW.out.below kV)
   replace K := grown_trans K (grown_of_below kV _)
   replace hs := Nat.lt_of_lt_of_le hs kV.size
   clear kV lv_
   have hnq1 : ¬ (w2.heap.size = q) := by omega
   have hnq2 : ¬ (q = w2.heap.size) := by omega
   generalize w2.heap.size = ge at *
   have cv := cell_of_block v
   have fv := unfrozen_of_block v
   have lv := lt_of_block v
   have cee := cell_of_block ee
   have fee := unfrozen_of_block ee
   have lee := lt_of_block ee
   go_wp2_with fail
   refine (l6Do_c (OwX X a cc) (5 * n) (600 * n) u k pt tw m a1 b1 c1 d1 V2 U.out FU.out MV.out.1 MV.out.2 MO.out.out MF.out (OwX.lt (fun b hb => Nat.lt_of_le_of_lt (hXl b hb) hs) RW.out) (by omega) (by omega)).mono ?_
   rintro e V3 ⟨u2, qe, rfl, hu2, hf2, k1⟩
   clear cv fv lv cee fee lee
   have U2 := Lib.hid hu2
   have F2 := Lib.hid (hf2.more (T' := 5 * (n + 1)) (D' := 600 * (n + 1)) (by omega) (by omega))
   clear hu2 hf2
   have hgw2 := r1.lt
   replace r1 := r1.below (k1.mono (by omega))
   have lv_ := lt_of_block v
   have lee_ := lt_of_block ee
   replace v := carryB k1 lv_ v
   replace ee := carryB k1 lee_ ee
   replace U := Lib.hid (U.out.below k1)
   replace EO := Lib.hid (EO.out.below k1)
   replace MO := Lib.hid (MO.out.below k1)
   replace RW := Lib.hid (RW.out.below k1)
   replace K := grown_trans K (grown_of_below k1 _)
   replace hs := Nat.lt_of_lt_of_le hs k1.size
   clear k1 lv_ lee_
   have cv := cell_of_block v
   have fv := unfrozen_of_block v
   have lv := lt_of_block v
   have cee := cell_of_block ee
   have fee := unfrozen_of_block ee
   have lee := lt_of_block ee
   go_upto_region 8 with fail
   obtain ⟨V4, hV_, sV4, xx, kV⟩ := blocks1 V3 (.cells #[.int .i64 u2.bad, .slice u2.ra u2.rp.length u2.rc, .slice u2.sa u2.sd.length u2.sc] 50)
   rw [← hV_]
   clear hV_ sV4
   clear cv fv lv cee fee lee
   have hgw3 := r1.lt
   replace r1 := r1.below (kV.mono (by omega))
   have hgx : q < V3.heap.size := hs
   have lv_ := lt_of_block v
   have lee_ := lt_of_block ee
   replace v := carryB kV lv_ v
   replace ee := carryB kV lee_ ee
   replace U := Lib.hid (U.out.below kV)
   replace EO := Lib.hid (EO.out.below kV)
   replace MO := Lib.hid (MO.out.below kV)
   replace U2 := Lib.hid (U2.out.below kV)
   replace RW := Lib.hid (RW.out.below kV)
   replace K := grown_trans K (grown_of_below kV _)
   replace hs := Nat.lt_of_lt_of_le hs kV.size
   clear kV lv_ lee_
   have hnx1 : ¬ (V3.heap.size = q) := by omega
   have hnx2 : ¬ (q = V3.heap.size) := by omega
   have hnx3 : ¬ (V3.heap.size = g) := by omega
   have hnx4 : ¬ (ge = g) := by omega
   generalize V3.heap.size = gx at *
   have cv := cell_of_block v
   have fv := unfrozen_of_block v
   have lv := lt_of_block v
   have cee := cell_of_block ee
   have fee := unfrozen_of_block ee
   have lee := lt_of_block ee
   have cxx := cell_of_block xx
   have fxx := unfrozen_of_block xx
   have lxx := lt_of_block xx
   cases qe with
   | true =>
    go_upto_region 10 with fail
    obtain ⟨A1, hV_, sV, xV, oV, kV⟩ := stored3 V4 q _ _ _ (.int .i64 u2.bad) (.slice u2.ra u2.rp.length u2.rc) (.slice u2.sa u2.sd.length u2.sc) v
    rw [← hV_]
    clear hV_
    clear cv fv lv cee fee lee cxx fxx lxx
    replace v := xV
    replace ee := (oV _ hnq1).trans ee
    replace U2 := Lib.hid (U2.out.stored sV oV (.inl hXv))
    replace EO := Lib.hid (EO.out.stored sV oV (.inl hXv))
    replace MO := Lib.hid (MO.out.stored sV oV (.inl hXv))
    replace RW := Lib.hid (RW.out.later sV oV (by omega))
    have hgA := r1.lt
    replace r1 := r1.below (kV.mono (by omega))
    replace K := grown_bel K (kV.mono (by have := hw1; omega))
    replace hs : q < A1.heap.size := by omega
    have hel2 : es.length ≤ 200 := by omega
    clear kV oV sV xV xx hgA
    have cee := cell_of_block ee
    have fee := unfrozen_of_block ee
    have lee := lt_of_block ee
    go_wp2_with (at_builtin; refine wpList_append_rowM rfl _ _ rfl (es.length + 1) elmEv rfl rfl (RW.out.below ((Below.refl A1.heap.size A1).alloc (Nat.le_refl _) _)) (ys := [⟨k, pt, tw, m⟩]) (fun z hz => by rw [List.mem_singleton.1 hz]; exact ev_one (e := ⟨k, pt, tw, m⟩) (w := A1) MO.out.out) (rows_of_block (R := Ev.cs) (zs := [⟨k, pt, tw, m⟩]) ev_len (by rw [flat_ev MV.out.1 MV.out.2]; exact heap_alloc_new A1 _)) rfl rfl rfl (by simp only [maxLen]; omega) (by omega) (by simp; omega) ?_)
    intro a3 c3 B1 q3
    have hrb_ : ∀ g', rowBlk a cc = some g' → q + 1 ≤ g' := fun g' hg' => (hrb g' hg').1
    have kA : Below A1.heap.size A1 (A1.alloc (.cells #[.int .i64 k, .int .i64 pt, .int .i64 tw, .int .i64 m.k, .int .i64 m.f, .int .i64 m.v, .int .i64 m.s, .int .i64 m.r.c, .int .i64 m.r.n, .int .i64 m.r.o, .int .i64 m.r.x, .int .i64 m.r.y, .slice a1 m.cl.length c1, .slice b1 m.vs.length d1] 112)) := (Below.refl A1.heap.size A1).alloc (Nat.le_refl _) _
    have k4 : Below (q + 1) A1 B1 := (kA.mono (by omega)).trans (q3.below (by simp; omega) hrb_)
    clear cee fee lee
    replace v := carryB k4 (by omega) v
    replace r1 := r1.below (k4.mono (by have := hw1; omega))
    replace K := grown_bel K (k4.mono (by have := hw1; omega))
    replace hs := Nat.lt_of_lt_of_le hs k4.size
    have U3 := Lib.hid ((U2.out.below kA).appendedX q3)
    have EO3 := Lib.hid (((EO.out.and MO.out).imp (G := fun V => ∀ e ∈ es ++ [⟨k, pt, tw, m⟩], e.m.ok V) (fun V h e he => (List.mem_append.1 he).elim (h.1 e) (fun h' => by rw [List.mem_singleton.1 h']; exact h.2))).below kA |>.appendedX q3)
    have RW3 := Lib.hid q3.row
    have EF3 := Lib.hid (show EvsFit (es ++ [⟨k, pt, tw, m⟩]) from fun e he => (List.mem_append.1 he).elim (EF.out e) (fun h' => by rw [List.mem_singleton.1 h']; exact MF.out))
    have V_ := Lib.hid v
    have K_ := Lib.hid K
    have RD := Lib.hid (r1.mono (Q := P + 601 * (n + 1)) (by omega))
    clear k4 kA q3 hrb_ U2 EO RW EF MO v ee K r1
    go_wp2_with fail
    go_roundw
    case rel => exact ⟨n + 1, u2, a3, c3, es ++ [⟨k, pt, tw, m⟩], by omega, by go_num, by simp, by simp; omega, F2.out, V_.out, U3.out, RW3.out, EO3.out, EF3.out, RD.out, K_.out, hs⟩
    case measure => simp [intOf]; omega
   | false =>
    go_wp2_with fail
    refine (pick_c _ g (P + 601 * n + 600) 6 r1 (by omega) (by omega)).mono ?_
    rintro e V5 ⟨v5, rfl, -, -, -, r2, k1⟩
    clear cv fv lv cee fee lee cxx fxx lxx
    clear r1
    replace v := carry k1 (by omega) v
    replace ee := carry k1 (by omega) ee
    replace xx := carry k1 (by omega) xx
    replace U := Lib.hid (U.out.next (Agree.grown k1 (.inl hXg)))
    replace EO := Lib.hid (EO.out.next (Agree.grown k1 (.inl hXg)))
    replace MO := Lib.hid (MO.out.next (Agree.grown k1 (.inl hXg)))
    replace U2 := Lib.hid (U2.out.next (Agree.grown k1 (.inl hXg)))
    replace RW := Lib.hid (RW.out.kept k1 (fun g' hg' e => by have := (hrb g' hg').1; injection e; omega))
    replace K := grown_trans K k1
    replace hs := Nat.lt_of_lt_of_le hs k1.size
    clear k1
    have r1 := r2
    clear r2
    obtain ⟨qp, hqp⟩ : ∃ q, decide ((0 : Int) < v5) = q := ⟨_, rfl⟩
    have cv := cell_of_block v
    have fv := unfrozen_of_block v
    have lv := lt_of_block v
    have cee := cell_of_block ee
    have fee := unfrozen_of_block ee
    have lee := lt_of_block ee
    have cxx := cell_of_block xx
    have fxx := unfrozen_of_block xx
    have lxx := lt_of_block xx
    cases qp with
    | true =>
     have FU2 := Lib.hid (FU.out.more (T' := 5 * (n + 1)) (D' := 600 * (n + 1)) (by omega) (by omega))
     clear cv fv lv cee fee lee cxx fxx lxx
     have V_ := Lib.hid v
     have K_ := Lib.hid K
     have RD := Lib.hid (r1.mono (Q := P + 601 * (n + 1)) (by omega))
     clear v ee xx K r1
     go_wp2_with fail
     go_roundw
     case rel => exact ⟨n + 1, u, a, cc, es, by omega, by go_num, rfl, by omega, FU2.out, V_.out, U.out, RW.out, EO.out, EF.out, RD.out, K_.out, hs⟩
     case measure => simp [intOf]; omega
    | false =>
     go_upto_region 10 with fail
     obtain ⟨A1, hV_, sV, xV, oV, kV⟩ := stored3 V5 q _ _ _ (.int .i64 u2.bad) (.slice u2.ra u2.rp.length u2.rc) (.slice u2.sa u2.sd.length u2.sc) v
     rw [← hV_]
     clear hV_
     clear cv fv lv cee fee lee cxx fxx lxx
     replace v := xV
     replace ee := (oV _ hnq1).trans ee
     replace U2 := Lib.hid (U2.out.stored sV oV (.inl hXv))
     replace EO := Lib.hid (EO.out.stored sV oV (.inl hXv))
     replace MO := Lib.hid (MO.out.stored sV oV (.inl hXv))
     replace RW := Lib.hid (RW.out.later sV oV (by omega))
     have hgA := r1.lt
     replace r1 := r1.below (kV.mono (by omega))
     replace K := grown_bel K (kV.mono (by have := hw1; omega))
     replace hs : q < A1.heap.size := by omega
     have hel2 : es.length ≤ 200 := by omega
     clear kV oV sV xV xx hgA
     have cee := cell_of_block ee
     have fee := unfrozen_of_block ee
     have lee := lt_of_block ee
     go_wp2_with (at_builtin; refine wpList_append_rowM rfl _ _ rfl (es.length + 1) elmEv rfl rfl (RW.out.below ((Below.refl A1.heap.size A1).alloc (Nat.le_refl _) _)) (ys := [⟨k, pt, tw, m⟩]) (fun z hz => by rw [List.mem_singleton.1 hz]; exact ev_one (e := ⟨k, pt, tw, m⟩) (w := A1) MO.out.out) (rows_of_block (R := Ev.cs) (zs := [⟨k, pt, tw, m⟩]) ev_len (by rw [flat_ev MV.out.1 MV.out.2]; exact heap_alloc_new A1 _)) rfl rfl rfl (by simp only [maxLen]; omega) (by omega) (by simp; omega) ?_)
     intro a3 c3 B1 q3
     have hrb_ : ∀ g', rowBlk a cc = some g' → q + 1 ≤ g' := fun g' hg' => (hrb g' hg').1
     have kA : Below A1.heap.size A1 (A1.alloc (.cells #[.int .i64 k, .int .i64 pt, .int .i64 tw, .int .i64 m.k, .int .i64 m.f, .int .i64 m.v, .int .i64 m.s, .int .i64 m.r.c, .int .i64 m.r.n, .int .i64 m.r.o, .int .i64 m.r.x, .int .i64 m.r.y, .slice a1 m.cl.length c1, .slice b1 m.vs.length d1] 112)) := (Below.refl A1.heap.size A1).alloc (Nat.le_refl _) _
     have k4 : Below (q + 1) A1 B1 := (kA.mono (by omega)).trans (q3.below (by simp; omega) hrb_)
     clear cee fee lee
     replace v := carryB k4 (by omega) v
     replace r1 := r1.below (k4.mono (by have := hw1; omega))
     replace K := grown_bel K (k4.mono (by have := hw1; omega))
     replace hs := Nat.lt_of_lt_of_le hs k4.size
     have U3 := Lib.hid ((U2.out.below kA).appendedX q3)
     have EO3 := Lib.hid (((EO.out.and MO.out).imp (G := fun V => ∀ e ∈ es ++ [⟨k, pt, tw, m⟩], e.m.ok V) (fun V h e he => (List.mem_append.1 he).elim (h.1 e) (fun h' => by rw [List.mem_singleton.1 h']; exact h.2))).below kA |>.appendedX q3)
     have RW3 := Lib.hid q3.row
     have EF3 := Lib.hid (show EvsFit (es ++ [⟨k, pt, tw, m⟩]) from fun e he => (List.mem_append.1 he).elim (EF.out e) (fun h' => by rw [List.mem_singleton.1 h']; exact MF.out))
     have V_ := Lib.hid v
     have K_ := Lib.hid K
     have RD := Lib.hid (r1.mono (Q := P + 601 * (n + 1)) (by omega))
     clear k4 kA q3 hrb_ U2 EO RW EF MO v ee K r1
     go_wp2_with fail
     go_roundw
     case rel => exact ⟨n + 1, u2, a3, c3, es ++ [⟨k, pt, tw, m⟩], by omega, by go_num, by simp, by simp; omega, F2.out, V_.out, U3.out, RW3.out, EO3.out, EF3.out, RD.out, K_.out, hs⟩
     case measure => simp [intOf]; omega
  ·
   have hn1 : ¬ ((n : Int) < (most : Int)) := by omega
   go_wp2_with fail
   go_ret
   exact ⟨a, cc, es, rfl, ⟨RW.out.sl ev_len, EO.out.out⟩, EF.out, hrd.mono (by omega), K⟩
end Go.Proofs.Ytgdhieffjflejaa

/-! DrawA -/
namespace Go.Proofs.Ytgdhieffjflejaa
open Go.RowKit Go.Joins

/-- As MsgDrawn; its claims lie in a row of their own. -/
def MsgDrawnR (w : World) (g P : Nat) (e : Ending) (w' : World) : Prop :=
 ∃ (m : Mg) (a : Option Addr) (c : Nat) (b : Option Addr) (d : Nat), e = .returned (.agg #[.int .i64 m.k, .int .i64 m.f, .int .i64 m.v, .int .i64 m.s, .int .i64 m.r.c, .int .i64 m.r.n, .int .i64 m.r.o, .int .i64 m.r.x, .int .i64 m.r.y, .slice a m.cl.length c, .slice b m.vs.length d]) ∧ m.vc = .slice a m.cl.length c ∧ m.vv = .slice b m.vs.length d ∧ m.fit ∧ Rob (OwX (Lo w.heap.size) a c) (fun V => IsVs V m.vv m.vs) w' ∧ Row w' w.heap.size 62 a c 7 Cl.cs m.cl ∧ Rdr w' g (P + 130) ∧ w.grownBy w' (some g)

set_option maxRecDepth 100000 in
set_option maxHeartbeats 16000000 in
theorem l20MsgR_c (w : World) (g P : Nat) (hr : Rdr w g P) (hP : P ≤ 1099511000000) :
  Calls Try.prog 63 #[.pointer (some ⟨g, 0, none⟩)] w (MsgDrawnR w g P) := by
 have hlt := hr.lt
 go_enter Try.func63, Try.ntmps63
 go_wp2_with fail
 refine (pick_c _ g P 6 (hr.below (by repeat' (first | with_reducible exact Below.refl _ _ | with_reducible assumption | with_reducible refine Below.alloc ?_ ?_ _ | with_reducible refine Below.drew ?_ | with_reducible refine Below.setCell ?_ ?_ _ | omega | (simp; omega) | (simp; done)))) (by omega) (by omega)).mono ?_
 rintro e w1 ⟨v1, rfl, a1, b1, -, r1, k1⟩
 replace b1 := b1 (by omega)
 go_wp2_with fail
 refine (pick_c _ g (P + 1) 4 r1 (by omega) (by omega)).mono ?_
 rintro e w2 ⟨v2, rfl, a2, b2, -, r2, k2⟩
 go_wp2_with fail
 refine (pick_c _ g (P + 1 + 1) 3 r2 (by omega) (by omega)).mono ?_
 rintro e w3 ⟨v3, rfl, a3, b3, -, r3, k3⟩
 have k := grown_trans (grown_trans k1 k2) k3
 have hsz := k.size
 have hlt3 := r3.lt
 rw [World.size_alloc] at hsz
 have hne : w.heap.size ≠ g := by omega
 have hne3 : w3.heap.size ≠ g := by omega
 have hl4 : w.heap.size < w3.heap.size := by omega
 have hl5 : w.heap.size ≠ w3.heap.size := by omega
 have R := carry k hne (heap_alloc_new w (.cells #[.int .i64 0, .int .i64 0, .int .i64 0, .int .i64 0, .int .i64 0, .int .i64 0, .int .i64 0, .int .i64 0, .int .i64 0, .slice none 0 0, .slice none 0 0] 34))
 have K : w.grownBy w3 (some g) := grown_trans (grown_of_below (by repeat' (first | with_reducible exact Below.refl _ _ | with_reducible assumption | with_reducible refine Below.alloc ?_ ?_ _ | with_reducible refine Below.drew ?_ | with_reducible refine Below.setCell ?_ ?_ _ | omega | (simp; omega) | (simp; done))) _) k
 clear k1 k2 k3 r1 r2 k
 go_upto_region 2 with fail
 obtain ⟨V, hV, sV, x, kV⟩ := blocks1 w3 (.cells #[.int .i64 (1 + v1), .int .i64 v2, .int .i64 v3, .int .i64 0, .int .i64 0, .int .i64 0, .int .i64 0, .int .i64 0, .int .i64 0, .slice none 0 0, .slice none 0 0] 34)
 rw [← hV]
 clear hV
 replace R := carryB kV hl4 R
 replace r3 := r3.below (kV.mono (by omega))
 replace K := grown_trans K (grown_of_below kV _)
 have hV3 : w3.heap.size < V.heap.size := by omega
 clear kV sV hsz a2 b2 a3 b3
 have h6 : v1 = 0 ∨ v1 = 1 ∨ v1 = 2 ∨ v1 = 3 ∨ v1 = 4 ∨ v1 = 5 := by omega
 rcases h6 with rfl | rfl | rfl | rfl | rfl | rfl
 ·
  skip
  have cx := cell_of_block x
  have fx := unfrozen_of_block x
  have lx := lt_of_block x
  go_wp2_with fail
  refine (l20Req_c _ g (P + 1 + 1 + 1) r3 (by omega)).mono ?_
  rintro e w4 ⟨r, rfl, -, -, r4, k4⟩
  clear cx fx lx
  have hs4 := k4.size
  have x4 := carry k4 hne3 x
  have R4 := carry k4 hne R
  have KK : w.grownBy w4 (some g) := grown_trans K k4
  have hlg : g < V.heap.size := by omega
  clear k4 K r3 x R
  have lx_ := lt_of_block x4
  have hc := cell_of_block R4
  have hf := unfrozen_of_block R4
  have hcX := cell_of_block x4
  have hfX := unfrozen_of_block x4
  clear x4 R4
  go_wp2_with fail
  refine bodyPost_ret (v := .agg #[.int .i64 1, .int .i64 0, .int .i64 0, .int .i64 0, .int .i64 r.c, .int .i64 r.n, .int .i64 r.o, .int .i64 r.x, .int .i64 r.y, .slice none 0 0, .slice none 0 0]) (by simp [results, Try.results63, go_sem, hc]) rfl ?_
  exact ⟨plainM 1 0 0 0 r, none, 0, none, 0, rfl, rfl, rfl, plainM_fit _ _ _ _ _, (fun V' _ => (plainM_ok V' _ _ _ _ _).2), Row.nil _ _ _ _ _ _, (r4.below (by repeat' (first | with_reducible exact Below.refl _ _ | with_reducible assumption | with_reducible refine Below.alloc ?_ ?_ _ | with_reducible refine Below.drew ?_ | with_reducible refine Below.setCell ?_ ?_ _ | omega | (simp; omega) | (simp; done)))).mono (by omega), by repeat (first | with_reducible exact KK | with_reducible refine grown_alloc ?_ _ | with_reducible refine grown_setCell ?_ (.inr (by simp; try omega)) _)⟩
 ·
  skip
  have cx := cell_of_block x
  have fx := unfrozen_of_block x
  have lx := lt_of_block x
  go_wp2_with fail
  refine (pick_c _ g (P + 1 + 1 + 1) 3 r3 (by omega) (by omega)).mono ?_
  rintro e w4 ⟨v4, rfl, a4, b4, -, r4, k4⟩
  clear cx fx lx
  replace b4 := b4 (by omega)
  have hs4 := k4.size
  have x4 := carry k4 hne3 x
  have R4 := carry k4 hne R
  have KK : w.grownBy w4 (some g) := grown_trans K k4
  have hlg : g < V.heap.size := by omega
  clear k4 K r3 x R
  have cx4 := cell_of_block x4
  have fx4 := unfrozen_of_block x4
  have lx4 := lt_of_block x4
  go_upto_region 9 with fail
  obtain ⟨V4, hV_, sV4, x5, oV, kV⟩ := stored1 w4 w3.heap.size 3 (.int .i64 (1 + v4)) x4
  rw [← hV_]
  clear hV_
  clear cx4 fx4 lx4
  clear x4
  replace R4 := (oV _ hl5).trans R4
  replace r4 := r4.below (kV.mono (by omega))
  replace KK : w.grownBy V4 (some g) := grown_bel KK (kV.mono (by omega))
  have hs5 : V.heap.size ≤ V4.heap.size := by omega
  clear kV oV sV4 hs4
  have cx5 := cell_of_block x5
  have fx5 := unfrozen_of_block x5
  have lx5 := lt_of_block x5
  go_wp2_with fail
  refine (l20Req_c _ g (P + 1 + 1 + 1 + 1) r4 (by omega)).mono ?_
  rintro e w5 ⟨r, rfl, -, -, r5, k5⟩
  clear cx5 fx5 lx5
  have hs6 := k5.size
  have x4 := carry k5 hne3 x5
  replace R4 := carry k5 hne R4
  replace KK : w.grownBy w5 (some g) := grown_trans KK k5
  clear k5 r4 x5
  have lx_ := lt_of_block x4
  have hc := cell_of_block R4
  have hf := unfrozen_of_block R4
  have hcX := cell_of_block x4
  have hfX := unfrozen_of_block x4
  clear x4 R4
  go_wp2_with fail
  refine bodyPost_ret (v := .agg #[.int .i64 2, .int .i64 v2, .int .i64 v3, .int .i64 (1 + v4), .int .i64 r.c, .int .i64 r.n, .int .i64 r.o, .int .i64 r.x, .int .i64 r.y, .slice none 0 0, .slice none 0 0]) (by simp [results, Try.results63, go_sem, hc]) rfl ?_
  exact ⟨plainM 2 v2 v3 (1 + v4) r, none, 0, none, 0, rfl, rfl, rfl, plainM_fit _ _ _ _ _, (fun V' _ => (plainM_ok V' _ _ _ _ _).2), Row.nil _ _ _ _ _ _, (r5.below (by repeat' (first | with_reducible exact Below.refl _ _ | with_reducible assumption | with_reducible refine Below.alloc ?_ ?_ _ | with_reducible refine Below.drew ?_ | with_reducible refine Below.setCell ?_ ?_ _ | omega | (simp; omega) | (simp; done)))).mono (by omega), by repeat (first | with_reducible exact KK | with_reducible refine grown_alloc ?_ _ | with_reducible refine grown_setCell ?_ (.inr (by simp; try omega)) _)⟩
 ·
  skip
  have cx := cell_of_block x
  have fx := unfrozen_of_block x
  have lx := lt_of_block x
  go_wp2_with fail
  refine (pick_c _ g (P + 1 + 1 + 1) 3 r3 (by omega) (by omega)).mono ?_
  rintro e w4 ⟨v4, rfl, a4, b4, -, r4, k4⟩
  clear cx fx lx
  replace b4 := b4 (by omega)
  have hs4 := k4.size
  have x4 := carry k4 hne3 x
  have R4 := carry k4 hne R
  have KK : w.grownBy w4 (some g) := grown_trans K k4
  have hlg : g < V.heap.size := by omega
  clear k4 K r3 x R
  have cx4 := cell_of_block x4
  have fx4 := unfrozen_of_block x4
  have lx4 := lt_of_block x4
  go_upto_region 9 with fail
  obtain ⟨V4, hV_, sV4, x5, oV, kV⟩ := stored1 w4 w3.heap.size 3 (.int .i64 (1 + v4)) x4
  rw [← hV_]
  clear hV_
  clear cx4 fx4 lx4
  clear x4
  replace R4 := (oV _ hl5).trans R4
  replace r4 := r4.below (kV.mono (by omega))
  replace KK : w.grownBy V4 (some g) := grown_bel KK (kV.mono (by omega))
  have hs5 : V.heap.size ≤ V4.heap.size := by omega
  clear kV oV sV4 hs4
  have cx5 := cell_of_block x5
  have fx5 := unfrozen_of_block x5
  have lx5 := lt_of_block x5
  go_wp2_with fail
  refine (l20Req_c _ g (P + 1 + 1 + 1 + 1) r4 (by omega)).mono ?_
  rintro e w5 ⟨r, rfl, -, -, r5, k5⟩
  clear cx5 fx5 lx5
  have hs6 := k5.size
  have x4 := carry k5 hne3 x5
  replace R4 := carry k5 hne R4
  replace KK : w.grownBy w5 (some g) := grown_trans KK k5
  clear k5 r4 x5
  have lx_ := lt_of_block x4
  have hc := cell_of_block R4
  have hf := unfrozen_of_block R4
  have hcX := cell_of_block x4
  have hfX := unfrozen_of_block x4
  clear x4 R4
  go_wp2_with fail
  refine bodyPost_ret (v := .agg #[.int .i64 3, .int .i64 v2, .int .i64 v3, .int .i64 (1 + v4), .int .i64 r.c, .int .i64 r.n, .int .i64 r.o, .int .i64 r.x, .int .i64 r.y, .slice none 0 0, .slice none 0 0]) (by simp [results, Try.results63, go_sem, hc]) rfl ?_
  exact ⟨plainM 3 v2 v3 (1 + v4) r, none, 0, none, 0, rfl, rfl, rfl, plainM_fit _ _ _ _ _, (fun V' _ => (plainM_ok V' _ _ _ _ _).2), Row.nil _ _ _ _ _ _, (r5.below (by repeat' (first | with_reducible exact Below.refl _ _ | with_reducible assumption | with_reducible refine Below.alloc ?_ ?_ _ | with_reducible refine Below.drew ?_ | with_reducible refine Below.setCell ?_ ?_ _ | omega | (simp; omega) | (simp; done)))).mono (by omega), by repeat (first | with_reducible exact KK | with_reducible refine grown_alloc ?_ _ | with_reducible refine grown_setCell ?_ (.inr (by simp; try omega)) _)⟩
 ·
  skip
  have cx := cell_of_block x
  have fx := unfrozen_of_block x
  have lx := lt_of_block x
  go_wp2_with fail
  refine (pick_c _ g (P + 1 + 1 + 1) 3 r3 (by omega) (by omega)).mono ?_
  rintro e w4 ⟨v4, rfl, a4, b4, -, r4, k4⟩
  clear cx fx lx
  replace b4 := b4 (by omega)
  have hs4 := k4.size
  have x4 := carry k4 hne3 x
  have R4 := carry k4 hne R
  have KK : w.grownBy w4 (some g) := grown_trans K k4
  have hlg : g < V.heap.size := by omega
  clear k4 K r3 x R
  have cx4 := cell_of_block x4
  have fx4 := unfrozen_of_block x4
  have lx4 := lt_of_block x4
  go_upto_region 9 with fail
  obtain ⟨V4, hV_, sV4, x5, oV, kV⟩ := stored1 w4 w3.heap.size 3 (.int .i64 (1 + v4)) x4
  rw [← hV_]
  clear hV_
  clear cx4 fx4 lx4
  clear x4
  replace R4 := (oV _ hl5).trans R4
  replace r4 := r4.below (kV.mono (by omega))
  replace KK : w.grownBy V4 (some g) := grown_bel KK (kV.mono (by omega))
  have hs5 : V.heap.size ≤ V4.heap.size := by omega
  clear kV oV sV4 hs4
  have cx5 := cell_of_block x5
  have fx5 := unfrozen_of_block x5
  have lx5 := lt_of_block x5
  go_wp2_with fail
  refine (l20Req_c _ g (P + 1 + 1 + 1 + 1) r4 (by omega)).mono ?_
  rintro e w5 ⟨r, rfl, -, -, r5, k5⟩
  clear cx5 fx5 lx5
  have hs6 := k5.size
  have x4 := carry k5 hne3 x5
  replace R4 := carry k5 hne R4
  replace KK : w.grownBy w5 (some g) := grown_trans KK k5
  clear k5 r4 x5
  have lx_ := lt_of_block x4
  have hc := cell_of_block R4
  have hf := unfrozen_of_block R4
  have hcX := cell_of_block x4
  have hfX := unfrozen_of_block x4
  clear x4 R4
  go_wp2_with fail
  refine bodyPost_ret (v := .agg #[.int .i64 4, .int .i64 v2, .int .i64 v3, .int .i64 (1 + v4), .int .i64 r.c, .int .i64 r.n, .int .i64 r.o, .int .i64 r.x, .int .i64 r.y, .slice none 0 0, .slice none 0 0]) (by simp [results, Try.results63, go_sem, hc]) rfl ?_
  exact ⟨plainM 4 v2 v3 (1 + v4) r, none, 0, none, 0, rfl, rfl, rfl, plainM_fit _ _ _ _ _, (fun V' _ => (plainM_ok V' _ _ _ _ _).2), Row.nil _ _ _ _ _ _, (r5.below (by repeat' (first | with_reducible exact Below.refl _ _ | with_reducible assumption | with_reducible refine Below.alloc ?_ ?_ _ | with_reducible refine Below.drew ?_ | with_reducible refine Below.setCell ?_ ?_ _ | omega | (simp; omega) | (simp; done)))).mono (by omega), by repeat (first | with_reducible exact KK | with_reducible refine grown_alloc ?_ _ | with_reducible refine grown_setCell ?_ (.inr (by simp; try omega)) _)⟩
 ·
  skip
  have cx := cell_of_block x
  have fx := unfrozen_of_block x
  have lx := lt_of_block x
  go_wp2_with fail
  refine (l20Claims_c _ g (P + 1 + 1 + 1) r3 (by omega)).mono ?_
  rintro e w4 ⟨a, c, cl, rfl, hc3, hc5, hcr, r4, k4⟩
  clear cx fx lx
  have hs4 := k4.size
  have x4 := carry k4 hne3 x
  have R4 := carry k4 hne R
  have KK : w.grownBy w4 (some g) := grown_trans K k4
  have hlg : g < V.heap.size := by omega
  clear k4 K r3 x R
  have lx_ := lt_of_block x4
  have hc := cell_of_block R4
  have hf := unfrozen_of_block R4
  have hcX := cell_of_block x4
  have hfX := unfrozen_of_block x4
  clear x4 R4
  have HR := Lib.hid hcr
  clear hcr
  go_wp2_with fail
  refine bodyPost_ret (v := .agg #[.int .i64 5, .int .i64 v2, .int .i64 v3, .int .i64 0, .int .i64 0, .int .i64 0, .int .i64 0, .int .i64 0, .int .i64 0, .slice a cl.length c, .slice none 0 0]) (by simp [results, Try.results63, go_sem, hc]) rfl ?_
  refine ⟨⟨5, v2, v3, 0, ⟨0, 0, 0, 0, 0⟩, .slice a cl.length c, .slice none 0 0, cl, []⟩, a, c, none, 0, rfl, rfl, rfl, ⟨⟨by show cl.length ≤ 8; omega, hc5⟩, Nat.zero_le _, fun z hz => nomatch hz⟩, (fun V' _ => ⟨isSl_nil _ _ _ _ (Nat.zero_le _) _, fun z hz => nomatch hz⟩), Row.low (B := V.heap.size) ?_ (by omega), (r4.below (by repeat' (first | with_reducible exact Below.refl _ _ | with_reducible assumption | with_reducible refine Below.alloc ?_ ?_ _ | with_reducible refine Below.drew ?_ | with_reducible refine Below.setCell ?_ ?_ _ | omega | (simp; omega) | (simp; done)))).mono (by omega), by repeat (first | with_reducible exact KK | with_reducible refine grown_alloc ?_ _ | with_reducible refine grown_setCell ?_ (.inr (by simp; try omega)) _)⟩
  have h1 := HR.out
  repeat' (first | with_reducible exact h1 | refine Row.setOther ?_ (by simp only; omega) _)
 ·
  skip
  have cx := cell_of_block x
  have fx := unfrozen_of_block x
  have lx := lt_of_block x
  go_wp2_with fail
  refine (l20Votes_c _ g (P + 1 + 1 + 1) r3 (by omega)).mono ?_
  rintro e w4 ⟨a, c, vs, rfl, hc4, hvf, hvr, r4, k4⟩
  clear cx fx lx
  have hs4 := k4.size
  have x4 := carry k4 hne3 x
  have R4 := carry k4 hne R
  have KK : w.grownBy w4 (some g) := grown_trans K k4
  have hlg : g < V.heap.size := by omega
  clear k4 K r3 x R
  have lx_ := lt_of_block x4
  have hc := cell_of_block R4
  have hf := unfrozen_of_block R4
  have hcX := cell_of_block x4
  have hfX := unfrozen_of_block x4
  clear x4 R4
  have H1 := Lib.hid hvr
  clear hvr
  go_wp2_with fail
  refine bodyPost_ret (v := .agg #[.int .i64 6, .int .i64 v2, .int .i64 v3, .int .i64 0, .int .i64 0, .int .i64 0, .int .i64 0, .int .i64 0, .int .i64 0, .slice none 0 0, .slice a vs.length c]) (by simp [results, Try.results63, go_sem, hc]) rfl ?_
  refine ⟨⟨6, v2, v3, 0, ⟨0, 0, 0, 0, 0⟩, .slice none 0 0, .slice a vs.length c, [], vs⟩, none, 0, a, c, rfl, rfl, rfl, ⟨⟨Nat.zero_le _, fun c hc => nomatch hc⟩, hvf⟩, Rob.owX0 (Rob.low (B := V.heap.size) (F := fun V' => IsVs V' (.slice a vs.length c) vs) ?_ (by omega)), Row.nil _ _ _ _ _ _, (r4.below (by repeat' (first | with_reducible exact Below.refl _ _ | with_reducible assumption | with_reducible refine Below.alloc ?_ ?_ _ | with_reducible refine Below.drew ?_ | with_reducible refine Below.setCell ?_ ?_ _ | omega | (simp; omega) | (simp; done)))).mono (by omega), by repeat (first | with_reducible exact KK | with_reducible refine grown_alloc ?_ _ | with_reducible refine grown_setCell ?_ (.inr (by simp; try omega)) _)⟩
  have h1 := H1.out
  repeat' (first | with_reducible exact h1 | refine Rob.set ?_ (by simp only; omega) _)

/-- Any letter; the reader has moved on; nothing else that was there has turned. -/
def AnyMsgDrawn (w : World) (g P : Nat) (e : Ending) (w' : World) : Prop :=
 ∃ (m : Mg) (a : Option Addr) (c : Nat) (b : Option Addr) (d : Nat), e = .returned (.agg #[.int .i64 m.k, .int .i64 m.f, .int .i64 m.v, .int .i64 m.s, .int .i64 m.r.c, .int .i64 m.r.n, .int .i64 m.r.o, .int .i64 m.r.x, .int .i64 m.r.y, .slice a m.cl.length c, .slice b m.vs.length d]) ∧ m.vc = .slice a m.cl.length c ∧ m.vv = .slice b m.vs.length d ∧ Rob (Lo w.heap.size) m.ok w' ∧ Rdr w' g (P + 150) ∧ w.grownBy w' (some g)

set_option maxRecDepth 100000 in
set_option maxHeartbeats 16000000 in
theorem l20AnyMsg_c (w : World) (g P : Nat) (hr : Rdr w g P) (hP : P ≤ 1099510000000) :
  Calls Try.prog 41 #[.pointer (some ⟨g, 0, none⟩)] w (AnyMsgDrawn w g P) := by
 have hlt0 := hr.lt
 go_enter Try.func41, Try.ntmps41
 go_upto_region 1 with fail
 obtain ⟨W, hW_, sW, z, kW⟩ := blocks1 w (.cells #[.int .i64 0, .int .i64 0, .int .i64 0, .int .i64 0, .int .i64 0, .int .i64 0, .int .i64 0, .int .i64 0, .int .i64 0, .slice none 0 0, .slice none 0 0] 34)
 rw [← hW_]
 clear hW_
 have hsW : w.heap.size < W.heap.size := by omega
 have r0 := hr.below (kW.mono (by omega))
 have K : w.grownBy W (some g) := grown_of_below kW _
 clear kW sW hr
 go_wp2_with fail
 refine (l20MsgR_c W g P r0 (by omega)).mono ?_
 rintro e w1 ⟨m, a, c, b, d, rfl, hv1, hv2, hmf, hvs, hrow, r1, k1⟩
 have hrb : ∀ g', rowBlk a c = some g' → W.heap.size ≤ g' ∧ g' < w1.heap.size := fun g' hg' => hrow.blk hg'
 have HV := Lib.hid (show Rob (OwX (Lo W.heap.size) a c) (fun V => IsVs V (.slice b m.vs.length d) m.vs) w1 from hv2 ▸ hvs)
 have RW := Lib.hid hrow
 have hcl8 : m.cl.length ≤ 8 := hmf.1.1
 clear hv1 hv2 hmf hvs hrow r0
 have hne1 : ¬ (w.heap.size = g) := by omega
 replace z := carry k1 hne1 z
 replace K := grown_trans K k1
 have hs1 : W.heap.size ≤ w1.heap.size := k1.size
 clear k1
 go_upto_region 2 with fail
 obtain ⟨V, hV_, sV, x, kV⟩ := blocks1 w1 (.cells #[.int .i64 m.k, .int .i64 m.f, .int .i64 m.v, .int .i64 m.s, .int .i64 m.r.c, .int .i64 m.r.n, .int .i64 m.r.o, .int .i64 m.r.x, .int .i64 m.r.y, .slice a m.cl.length c, .slice b m.vs.length d] 34)
 rw [← hV_]
 clear hV_
 replace z := carryB kV (by omega) z
 replace RW := Lib.hid (RW.out.below kV)
 replace r1 := r1.below (kV.mono (by omega))
 have K1 : w1.grownBy V (some g) := grown_of_below kV _
 have hs2 : w1.heap.size < V.heap.size := by omega
 clear kV sV
 have hneG : ¬ (w1.heap.size = g) := by omega
 have hneG2 : ¬ (g = w1.heap.size) := by omega
 have hneZ : ¬ (w.heap.size = w1.heap.size) := by omega
 have hneZ2 : ¬ (w1.heap.size = w.heap.size) := by omega
 have cx := cell_of_block x
 have fx := unfrozen_of_block x
 have lx := lt_of_block x
 have cz := cell_of_block z
 have fz := unfrozen_of_block z
 have lz := lt_of_block z
 go_wp2_with fail
 refine (pick_c _ g (P + 130) 12 r1 (by omega) (by omega)).mono ?_
 rintro e w2 ⟨v2, rfl, a2, b2, -, r2, k2⟩
 replace b2 := b2 (by omega)
 clear cx fx lx cz fz lz
 have hlo : (OwX (Lo W.heap.size) a c) g := .inl (by show g < W.heap.size; omega)
 replace x := carry k2 hneG x
 replace z := carry k2 hne1 z
 replace RW := Lib.hid (RW.out.kept k2 (fun g' hg' e => by have := (hrb g' hg').1; injection e; omega))
 replace K1 := grown_trans K1 k2
 have hs3 := Nat.lt_of_lt_of_le hs2 k2.size
 clear k2 r1 hs2
 have h5 : v2 = 0 ∨ v2 = 1 ∨ v2 = 2 ∨ v2 = 3 ∨ v2 = 4 ∨ 5 ≤ v2 := by omega
 rcases h5 with rfl | rfl | rfl | rfl | rfl | h5
 ·
  skip
  have cx := cell_of_block x
  have fx := unfrozen_of_block x
  have lx := lt_of_block x
  have cz := cell_of_block z
  have fz := unfrozen_of_block z
  have lz := lt_of_block z
  go_wp2_with fail
  obtain ⟨V2, hV_, sV2, n0, kV⟩ := blocks1 w2 (.cells #[.int .i64 0, .int .i64 7, .int .i64 2] 3)
  rw [← hV_]
  clear hV_ sV2
  clear cx fx lx cz fz lz
  replace x := carryB kV (by omega) x
  replace z := carryB kV (by omega) z
  replace RW := Lib.hid (RW.out.below kV)
  have hgw := r2.lt
  replace r2 := r2.below (kV.mono (by omega))
  replace K1 := grown_trans K1 (grown_of_below kV _)
  replace hs3 := Nat.lt_of_lt_of_le hs3 kV.size
  clear kV
  refine (one_c V2 g (P + 130 + 1) w2.heap.size 3 _ [0, 7, 2] _ r2 (by omega) (by omega) n0 rfl rfl (by decide) (by decide)).mono ?_
  rintro e w3 ⟨v3, -, rfl, r3, k3⟩
  replace x := carry k3 hneG x
  replace z := carry k3 hne1 z
  replace RW := Lib.hid (RW.out.kept k3 (fun g' hg' e => by have := (hrb g' hg').1; injection e; omega))
  replace K1 := grown_trans K1 k3
  have hs4 := Nat.lt_of_lt_of_le hs3 k3.size
  clear k3 r2 hs3 n0 hgw
  have cx := cell_of_block x
  have fx := unfrozen_of_block x
  have lx := lt_of_block x
  have cz := cell_of_block z
  have fz := unfrozen_of_block z
  have lz := lt_of_block z
  go_upto_region 13 with fail
  obtain ⟨V3, hV_, sV, xV, oV, kV⟩ := stored1 w3 w1.heap.size 0 (.int .i64 v3) x
  rw [← hV_]
  clear hV_
  clear cx fx lx cz fz lz
  have x2 : V3.heap[w1.heap.size]? = some (.cells #[.int .i64 v3, .int .i64 m.f, .int .i64 m.v, .int .i64 m.s, .int .i64 m.r.c, .int .i64 m.r.n, .int .i64 m.r.o, .int .i64 m.r.x, .int .i64 m.r.y, .slice a m.cl.length c, .slice b m.vs.length d] 34 (0, 0)) := by simpa using xV
  replace z := (oV _ hneZ).trans z
  replace RW := Lib.hid (RW.out.agree (X := fun b => b = w1.heap.size) ⟨by omega, fun b _ hb => oV b hb⟩ (fun g' hg' e => by have := (hrb g' hg').2; omega))
  replace r3 := r3.below (kV.mono (by omega))
  replace K1 := grown_bel K1 kV
  have KK := grown_trans K K1
  clear kV oV sV x xV
  have x := x2
  clear x2
  have cx := cell_of_block x
  have fx := unfrozen_of_block x
  have lx := lt_of_block x
  have cz := cell_of_block z
  have fz := unfrozen_of_block z
  have lz := lt_of_block z
  go_wp2_with fail
  refine bodyPost_ret (v := .agg #[.int .i64 v3, .int .i64 m.f, .int .i64 m.v, .int .i64 m.s, .int .i64 m.r.c, .int .i64 m.r.n, .int .i64 m.r.o, .int .i64 m.r.x, .int .i64 m.r.y, .slice a m.cl.length c, .slice b m.vs.length d]) (by simp [results, Try.results41, go_sem, cz]) rfl ?_
  refine ⟨⟨v3, m.f, m.v, m.s, m.r, .slice a m.cl.length c, .slice b m.vs.length d, m.cl, m.vs⟩, a, c, b, d, rfl, rfl, rfl, Rob.low (B := W.heap.size) ?_ (by omega), (r3.below (by repeat' (first | with_reducible exact Below.refl _ _ | with_reducible assumption | with_reducible refine Below.alloc ?_ ?_ _ | with_reducible refine Below.drew ?_ | with_reducible refine Below.setCell ?_ ?_ _ | omega | (simp; omega) | (simp; done)))).mono (by omega), by repeat (first | with_reducible exact KK | with_reducible refine grown_alloc ?_ _ | with_reducible refine grown_setCell ?_ (.inr (by simp; try omega)) _)⟩
  have hR : Rob (Lo W.heap.size) (Mg.ok · ⟨v3, m.f, m.v, m.s, m.r, .slice a m.cl.length c, .slice b m.vs.length d, m.cl, m.vs⟩) V3 := (RW.out.rob seven_len).and (HV.out.later2 K1 hlo (fun b hb hy => .inl hy))
  repeat' (first | with_reducible exact hR | refine Rob.set ?_ (by simp only; omega) _)
 ·
  skip
  have cx := cell_of_block x
  have fx := unfrozen_of_block x
  have lx := lt_of_block x
  have cz := cell_of_block z
  have fz := unfrozen_of_block z
  have lz := lt_of_block z
  go_wp2_with fail
  obtain ⟨V2, hV_, sV2, n0, kV⟩ := blocks1 w2 (.cells #[.int .i64 (-1), .int .i64 4] 3)
  rw [← hV_]
  clear hV_ sV2
  clear cx fx lx cz fz lz
  replace x := carryB kV (by omega) x
  replace z := carryB kV (by omega) z
  replace RW := Lib.hid (RW.out.below kV)
  have hgw := r2.lt
  replace r2 := r2.below (kV.mono (by omega))
  replace K1 := grown_trans K1 (grown_of_below kV _)
  replace hs3 := Nat.lt_of_lt_of_le hs3 kV.size
  clear kV
  refine (one_c V2 g (P + 130 + 1) w2.heap.size 2 _ [-1, 4] _ r2 (by omega) (by omega) n0 rfl rfl (by decide) (by decide)).mono ?_
  rintro e w3 ⟨v3, -, rfl, r3, k3⟩
  replace x := carry k3 hneG x
  replace z := carry k3 hne1 z
  replace RW := Lib.hid (RW.out.kept k3 (fun g' hg' e => by have := (hrb g' hg').1; injection e; omega))
  replace K1 := grown_trans K1 k3
  have hs4 := Nat.lt_of_lt_of_le hs3 k3.size
  clear k3 r2 hs3 n0 hgw
  have cx := cell_of_block x
  have fx := unfrozen_of_block x
  have lx := lt_of_block x
  have cz := cell_of_block z
  have fz := unfrozen_of_block z
  have lz := lt_of_block z
  go_upto_region 13 with fail
  obtain ⟨V3, hV_, sV, xV, oV, kV⟩ := stored1 w3 w1.heap.size 1 (.int .i64 v3) x
  rw [← hV_]
  clear hV_
  clear cx fx lx cz fz lz
  have x2 : V3.heap[w1.heap.size]? = some (.cells #[.int .i64 m.k, .int .i64 v3, .int .i64 m.v, .int .i64 m.s, .int .i64 m.r.c, .int .i64 m.r.n, .int .i64 m.r.o, .int .i64 m.r.x, .int .i64 m.r.y, .slice a m.cl.length c, .slice b m.vs.length d] 34 (0, 0)) := by simpa using xV
  replace z := (oV _ hneZ).trans z
  replace RW := Lib.hid (RW.out.agree (X := fun b => b = w1.heap.size) ⟨by omega, fun b _ hb => oV b hb⟩ (fun g' hg' e => by have := (hrb g' hg').2; omega))
  replace r3 := r3.below (kV.mono (by omega))
  replace K1 := grown_bel K1 kV
  have KK := grown_trans K K1
  clear kV oV sV x xV
  have x := x2
  clear x2
  have cx := cell_of_block x
  have fx := unfrozen_of_block x
  have lx := lt_of_block x
  have cz := cell_of_block z
  have fz := unfrozen_of_block z
  have lz := lt_of_block z
  go_wp2_with fail
  refine bodyPost_ret (v := .agg #[.int .i64 m.k, .int .i64 v3, .int .i64 m.v, .int .i64 m.s, .int .i64 m.r.c, .int .i64 m.r.n, .int .i64 m.r.o, .int .i64 m.r.x, .int .i64 m.r.y, .slice a m.cl.length c, .slice b m.vs.length d]) (by simp [results, Try.results41, go_sem, cz]) rfl ?_
  refine ⟨⟨m.k, v3, m.v, m.s, m.r, .slice a m.cl.length c, .slice b m.vs.length d, m.cl, m.vs⟩, a, c, b, d, rfl, rfl, rfl, Rob.low (B := W.heap.size) ?_ (by omega), (r3.below (by repeat' (first | with_reducible exact Below.refl _ _ | with_reducible assumption | with_reducible refine Below.alloc ?_ ?_ _ | with_reducible refine Below.drew ?_ | with_reducible refine Below.setCell ?_ ?_ _ | omega | (simp; omega) | (simp; done)))).mono (by omega), by repeat (first | with_reducible exact KK | with_reducible refine grown_alloc ?_ _ | with_reducible refine grown_setCell ?_ (.inr (by simp; try omega)) _)⟩
  have hR : Rob (Lo W.heap.size) (Mg.ok · ⟨m.k, v3, m.v, m.s, m.r, .slice a m.cl.length c, .slice b m.vs.length d, m.cl, m.vs⟩) V3 := (RW.out.rob seven_len).and (HV.out.later2 K1 hlo (fun b hb hy => .inl hy))
  repeat' (first | with_reducible exact hR | refine Rob.set ?_ (by simp only; omega) _)
 ·
  skip
  have cx := cell_of_block x
  have fx := unfrozen_of_block x
  have lx := lt_of_block x
  have cz := cell_of_block z
  have fz := unfrozen_of_block z
  have lz := lt_of_block z
  go_wp2_with fail
  obtain ⟨V2, hV_, sV2, n0, kV⟩ := blocks1 w2 (.cells #[.int .i64 (-1), .int .i64 7] 3)
  rw [← hV_]
  clear hV_ sV2
  clear cx fx lx cz fz lz
  replace x := carryB kV (by omega) x
  replace z := carryB kV (by omega) z
  replace RW := Lib.hid (RW.out.below kV)
  have hgw := r2.lt
  replace r2 := r2.below (kV.mono (by omega))
  replace K1 := grown_trans K1 (grown_of_below kV _)
  replace hs3 := Nat.lt_of_lt_of_le hs3 kV.size
  clear kV
  refine (one_c V2 g (P + 130 + 1) w2.heap.size 2 _ [-1, 7] _ r2 (by omega) (by omega) n0 rfl rfl (by decide) (by decide)).mono ?_
  rintro e w3 ⟨v3, -, rfl, r3, k3⟩
  replace x := carry k3 hneG x
  replace z := carry k3 hne1 z
  replace RW := Lib.hid (RW.out.kept k3 (fun g' hg' e => by have := (hrb g' hg').1; injection e; omega))
  replace K1 := grown_trans K1 k3
  have hs4 := Nat.lt_of_lt_of_le hs3 k3.size
  clear k3 r2 hs3 n0 hgw
  have cx := cell_of_block x
  have fx := unfrozen_of_block x
  have lx := lt_of_block x
  have cz := cell_of_block z
  have fz := unfrozen_of_block z
  have lz := lt_of_block z
  go_upto_region 13 with fail
  obtain ⟨V3, hV_, sV, xV, oV, kV⟩ := stored1 w3 w1.heap.size 2 (.int .i64 v3) x
  rw [← hV_]
  clear hV_
  clear cx fx lx cz fz lz
  have x2 : V3.heap[w1.heap.size]? = some (.cells #[.int .i64 m.k, .int .i64 m.f, .int .i64 v3, .int .i64 m.s, .int .i64 m.r.c, .int .i64 m.r.n, .int .i64 m.r.o, .int .i64 m.r.x, .int .i64 m.r.y, .slice a m.cl.length c, .slice b m.vs.length d] 34 (0, 0)) := by simpa using xV
  replace z := (oV _ hneZ).trans z
  replace RW := Lib.hid (RW.out.agree (X := fun b => b = w1.heap.size) ⟨by omega, fun b _ hb => oV b hb⟩ (fun g' hg' e => by have := (hrb g' hg').2; omega))
  replace r3 := r3.below (kV.mono (by omega))
  replace K1 := grown_bel K1 kV
  have KK := grown_trans K K1
  clear kV oV sV x xV
  have x := x2
  clear x2
  have cx := cell_of_block x
  have fx := unfrozen_of_block x
  have lx := lt_of_block x
  have cz := cell_of_block z
  have fz := unfrozen_of_block z
  have lz := lt_of_block z
  go_wp2_with fail
  refine bodyPost_ret (v := .agg #[.int .i64 m.k, .int .i64 m.f, .int .i64 v3, .int .i64 m.s, .int .i64 m.r.c, .int .i64 m.r.n, .int .i64 m.r.o, .int .i64 m.r.x, .int .i64 m.r.y, .slice a m.cl.length c, .slice b m.vs.length d]) (by simp [results, Try.results41, go_sem, cz]) rfl ?_
  refine ⟨⟨m.k, m.f, v3, m.s, m.r, .slice a m.cl.length c, .slice b m.vs.length d, m.cl, m.vs⟩, a, c, b, d, rfl, rfl, rfl, Rob.low (B := W.heap.size) ?_ (by omega), (r3.below (by repeat' (first | with_reducible exact Below.refl _ _ | with_reducible assumption | with_reducible refine Below.alloc ?_ ?_ _ | with_reducible refine Below.drew ?_ | with_reducible refine Below.setCell ?_ ?_ _ | omega | (simp; omega) | (simp; done)))).mono (by omega), by repeat (first | with_reducible exact KK | with_reducible refine grown_alloc ?_ _ | with_reducible refine grown_setCell ?_ (.inr (by simp; try omega)) _)⟩
  have hR : Rob (Lo W.heap.size) (Mg.ok · ⟨m.k, m.f, v3, m.s, m.r, .slice a m.cl.length c, .slice b m.vs.length d, m.cl, m.vs⟩) V3 := (RW.out.rob seven_len).and (HV.out.later2 K1 hlo (fun b hb hy => .inl hy))
  repeat' (first | with_reducible exact hR | refine Rob.set ?_ (by simp only; omega) _)
 ·
  skip
  have cx := cell_of_block x
  have fx := unfrozen_of_block x
  have lx := lt_of_block x
  have cz := cell_of_block z
  have fz := unfrozen_of_block z
  have lz := lt_of_block z
  go_wp2_with fail
  obtain ⟨V2, hV_, sV2, n0, kV⟩ := blocks1 w2 (.cells #[.int .i64 0, .int .i64 6, .int .i64 1] 3)
  rw [← hV_]
  clear hV_ sV2
  clear cx fx lx cz fz lz
  replace x := carryB kV (by omega) x
  replace z := carryB kV (by omega) z
  replace RW := Lib.hid (RW.out.below kV)
  have hgw := r2.lt
  replace r2 := r2.below (kV.mono (by omega))
  replace K1 := grown_trans K1 (grown_of_below kV _)
  replace hs3 := Nat.lt_of_lt_of_le hs3 kV.size
  clear kV
  refine (one_c V2 g (P + 130 + 1) w2.heap.size 3 _ [0, 6, 1] _ r2 (by omega) (by omega) n0 rfl rfl (by decide) (by decide)).mono ?_
  rintro e w3 ⟨v3, -, rfl, r3, k3⟩
  replace x := carry k3 hneG x
  replace z := carry k3 hne1 z
  replace RW := Lib.hid (RW.out.kept k3 (fun g' hg' e => by have := (hrb g' hg').1; injection e; omega))
  replace K1 := grown_trans K1 k3
  have hs4 := Nat.lt_of_lt_of_le hs3 k3.size
  clear k3 r2 hs3 n0 hgw
  have cx := cell_of_block x
  have fx := unfrozen_of_block x
  have lx := lt_of_block x
  have cz := cell_of_block z
  have fz := unfrozen_of_block z
  have lz := lt_of_block z
  go_upto_region 13 with fail
  obtain ⟨V3, hV_, sV, xV, oV, kV⟩ := stored1 w3 w1.heap.size 3 (.int .i64 v3) x
  rw [← hV_]
  clear hV_
  clear cx fx lx cz fz lz
  have x2 : V3.heap[w1.heap.size]? = some (.cells #[.int .i64 m.k, .int .i64 m.f, .int .i64 m.v, .int .i64 v3, .int .i64 m.r.c, .int .i64 m.r.n, .int .i64 m.r.o, .int .i64 m.r.x, .int .i64 m.r.y, .slice a m.cl.length c, .slice b m.vs.length d] 34 (0, 0)) := by simpa using xV
  replace z := (oV _ hneZ).trans z
  replace RW := Lib.hid (RW.out.agree (X := fun b => b = w1.heap.size) ⟨by omega, fun b _ hb => oV b hb⟩ (fun g' hg' e => by have := (hrb g' hg').2; omega))
  replace r3 := r3.below (kV.mono (by omega))
  replace K1 := grown_bel K1 kV
  have KK := grown_trans K K1
  clear kV oV sV x xV
  have x := x2
  clear x2
  have cx := cell_of_block x
  have fx := unfrozen_of_block x
  have lx := lt_of_block x
  have cz := cell_of_block z
  have fz := unfrozen_of_block z
  have lz := lt_of_block z
  go_wp2_with fail
  refine bodyPost_ret (v := .agg #[.int .i64 m.k, .int .i64 m.f, .int .i64 m.v, .int .i64 v3, .int .i64 m.r.c, .int .i64 m.r.n, .int .i64 m.r.o, .int .i64 m.r.x, .int .i64 m.r.y, .slice a m.cl.length c, .slice b m.vs.length d]) (by simp [results, Try.results41, go_sem, cz]) rfl ?_
  refine ⟨⟨m.k, m.f, m.v, v3, m.r, .slice a m.cl.length c, .slice b m.vs.length d, m.cl, m.vs⟩, a, c, b, d, rfl, rfl, rfl, Rob.low (B := W.heap.size) ?_ (by omega), (r3.below (by repeat' (first | with_reducible exact Below.refl _ _ | with_reducible assumption | with_reducible refine Below.alloc ?_ ?_ _ | with_reducible refine Below.drew ?_ | with_reducible refine Below.setCell ?_ ?_ _ | omega | (simp; omega) | (simp; done)))).mono (by omega), by repeat (first | with_reducible exact KK | with_reducible refine grown_alloc ?_ _ | with_reducible refine grown_setCell ?_ (.inr (by simp; try omega)) _)⟩
  have hR : Rob (Lo W.heap.size) (Mg.ok · ⟨m.k, m.f, m.v, v3, m.r, .slice a m.cl.length c, .slice b m.vs.length d, m.cl, m.vs⟩) V3 := (RW.out.rob seven_len).and (HV.out.later2 K1 hlo (fun b hb hy => .inl hy))
  repeat' (first | with_reducible exact hR | refine Rob.set ?_ (by simp only; omega) _)
 ·
  skip
  go_upto_region 12 with fail
  have x0 := Lib.hid x
  replace x := Lib.hid x
  have RF := Lib.hid (show RdGr w2 g (P + 130 + 1) w2 from ⟨r2, grown_refl w2 (some g)⟩)
  clear r2
  have KZ := Lib.hid K
  have cx0 := cell_of_block x0.out
  refine wp_region_L (fun w' => ∀ o, w'.cell? ⟨w1.heap.size, o, none⟩ = w2.cell? ⟨w1.heap.size, o, none⟩) [7] (by kernel_rfl) ?_
  obtain ⟨w2_0, hw_, kw_⟩ : ∃ wd, wd = w2.drew ∧ Below w2.heap.size w2 wd := ⟨_, rfl, Below.drew (Below.refl _ _)⟩
  rw [← hw_]
  clear hw_
  replace x := Lib.hid (carryB kw_ (lt_of_block x.out) x.out)
  have hS := fun o => (cell_of_block x.out o).trans (cell_of_block x0.out o).symm
  replace z := carryB kw_ (lt_of_block z) z
  replace RF := Lib.hid (RF.out.below kw_)
  replace RW := Lib.hid (RW.out.below kw_)
  clear kw_
  refine wpAnyL_take (i := 0) (oi := _) (v := ?_) (by (simp only [List.getElem?_toArray]; rfl)) (by kernel_rfl) (by kernel_rfl) (by kernel_rfl) (by kernel_rfl) (by exact fun _ _ _ h => h) (Or.inl ⟨by rfl, ?_⟩) (by assumption) ?_
  rotate_left
  ·
   intro wS hSw
   go_simp
   all_goals first | with_reducible rfl | rw [if_neg (by omega)]
  simp only [Act.put, List.setIfInBounds_toArray, List.set]
  refine wpAnyL_take (i := 1) (oi := _) (v := ?_) (by (simp only [List.getElem?_toArray]; rfl)) (by kernel_rfl) (by kernel_rfl) (by kernel_rfl) (by kernel_rfl) (by exact fun _ _ _ h => h) (Or.inl ⟨by rfl, ?_⟩) (by assumption) ?_
  rotate_left
  ·
   intro wS hSw
   go_simp
   all_goals first | with_reducible rfl | rw [if_neg (by omega)]
  simp only [Act.put, List.setIfInBounds_toArray, List.set]
  refine wpAnyL_take (i := 2) (oi := _) (v := ?_) (by (simp only [List.getElem?_toArray]; rfl)) (by kernel_rfl) (by kernel_rfl) (by kernel_rfl) (by kernel_rfl) (by exact fun _ _ _ h => h) (Or.inl ⟨by rfl, ?_⟩) (by assumption) ?_
  rotate_left
  ·
   intro wS hSw
   go_simp
   all_goals first | with_reducible rfl | rw [if_neg (by omega)]
  simp only [Act.put, List.setIfInBounds_toArray, List.set]
  refine wpAnyL_ready (rs := [3]) (by kernel_rfl) (by simp) ?_
  refine AllReadyL.cons (o := _) (by (simp only [List.getElem?_toArray]; rfl)) (fun K hK => ?_) AllReadyL.nil
  go_simp
  refine (l20Claim_c w2_0 g (P + 130 + 1) RF.out.1 (by omega)).mono ?_
  rintro e w2_1 ⟨cl9, rfl, -, r6_, k6_⟩
  replace RF := Lib.hid (show RdGr w2 g (P + 130 + 1 + 8) w2_1 from ⟨r6_, grown_trans RF.out.2 k6_⟩)
  replace RW := Lib.hid (RW.out.kept k6_ (fun g' hg' e => by have := (hrb g' hg').1; injection e; omega))
  replace x := Lib.hid (carry k6_ hneG x.out)
  replace z := carry k6_ hne1 z
  have hS := fun o => (cell_of_block x.out o).trans (cell_of_block x0.out o).symm
  clear r6_ k6_
  refine hK.out _ _ (fun _ => hS) ?_
  clear hK K
  try simp only [Act.put, List.setIfInBounds_toArray, List.set]
  refine wpAnyL_ready (rs := [4]) (by kernel_rfl) (by simp) ?_
  refine AllReadyL.cons (o := _) (by (simp only [List.getElem?_toArray]; rfl)) (fun K hK => ?_) AllReadyL.nil
  go_simp
  obtain ⟨w2_2, hw_, sw_, hv_, kw_⟩ := blocks1 w2_1 (.cells #[.int .i64 cl9.s, .int .i64 cl9.v, .int .i64 cl9.r.c, .int .i64 cl9.r.n, .int .i64 cl9.r.o, .int .i64 cl9.r.x, .int .i64 cl9.r.y] 62)
  rw [← hw_]
  clear hw_ sw_
  replace x := Lib.hid (carryB kw_ (lt_of_block x.out) x.out)
  have hS := fun o => (cell_of_block x.out o).trans (cell_of_block x0.out o).symm
  replace z := carryB kw_ (lt_of_block z) z
  replace RF := Lib.hid (RF.out.below kw_)
  replace RW := Lib.hid (RW.out.below kw_)
  clear kw_
  have RV := Lib.hid (show RowsAt w2_2 (some ⟨w2_1.heap.size, 0, none⟩) 7 Cl.cs [cl9] from rows_of_block (R := Cl.cs) (zs := [cl9]) (fun _ => rfl) hv_)
  clear hv_
  refine hK.out _ _ (fun _ => hS) ?_
  clear hK K
  try simp only [Act.put, List.setIfInBounds_toArray, List.set]
  refine wpAnyL_ready (rs := [5]) (by kernel_rfl) (by simp) ?_
  refine AllReadyL.cons (o := _) (by (simp only [List.getElem?_toArray]; rfl)) (fun K hK => ?_) AllReadyL.nil
  have hlQ_ := lt_of_block x.out
  refine step_append_elm (by rfl) (.tmp 35) (.tmp 38) (by rfl) (m.cl.length + 1) elmCl (by rfl) (by rfl) RW.out (fun z _ => cl_one z) RV.out (by rfl) (by rfl) (by rfl) (by simp only [maxLen]; omega) (by omega) (Nat.le_trans hs1 (Nat.le_of_lt (lt_of_block x.out))) ?_
  intro a3 c3 w2_3 q_
  have hbq_ : Below W.heap.size w2_2 w2_3 := q_.below (Nat.le_trans hs1 (Nat.le_of_lt (lt_of_block x.out))) (fun g' hg' => (hrb g' hg').1)
  replace x := Lib.hid ((q_.grown.block _ (lt_of_block x.out) (fun e => by have := (hrb _ e.symm).2; omega)).trans x.out)
  replace z := carryB hbq_ (by omega) z
  have AF := Lib.hid q_.grown
  have HB := Lib.hid hbq_
  have RT := Lib.hid q_.row
  have RF2 := Lib.hid (RF.out.1.below (hbq_.mono (by omega)))
  have QB := Lib.hid q_.blk
  have HLQ := Lib.hid hlQ_
  clear hbq_ hlQ_
  have hS := fun o => (cell_of_block x.out o).trans (cell_of_block x0.out o).symm
  have KQ9 := Lib.hid (grown_trans KZ.out (grown_trans K1 RF.out.2))
  have KW9 := Lib.hid (grown_bel KQ9.out (HB.out.mono (by omega)))
  have AG := Lib.hid (show Agree (OwX (Lo W.heap.size) a c) w1 w2_3 from ⟨Nat.le_trans (grown_trans K1 RF.out.2).size AF.out.size, fun b hb hx => (AF.out.block b (Nat.lt_of_lt_of_le hb (grown_trans K1 RF.out.2).size) (fun e => hx (.inr e.symm))).trans ((grown_trans K1 RF.out.2).block b hb (fun e => hx (by injection e with e; rw [e]; exact hlo)))⟩)
  have HB3 : ∀ g', rowBlk a3 c3 = some g' → g' ≠ w1.heap.size := fun g' hg' => by
   rcases QB.out with e | e
   ·
    have := (hrb g' (e ▸ hg')).2
    omega
   ·
    rw [hg'] at e
    injection e with e
    have := HLQ.out
    omega
  clear q_ AF HB QB KQ9 HLQ
  refine hK.out _ _ (fun _ => hS) ?_
  clear hK K
  try simp only [Act.put, List.setIfInBounds_toArray, List.set]
  refine wpAnyL_take (i := 6) (oi := _) (v := ?_) (by (simp only [List.getElem?_toArray]; rfl)) (by kernel_rfl) (by kernel_rfl) (by kernel_rfl) (by kernel_rfl) (by exact fun _ _ _ h => h) (Or.inl ⟨by rfl, ?_⟩) (by assumption) ?_
  rotate_left
  ·
   intro wS hSw
   go_simp
   all_goals first | with_reducible rfl | rw [if_neg (by omega)]
  simp only [Act.put, List.setIfInBounds_toArray, List.set]
  refine wpAnyL_ready (rs := [7]) (by kernel_rfl) (by simp) ?_
  refine AllReadyL.cons (o := _) (by (simp only [List.getElem?_toArray]; rfl)) (fun K hK => ?_) AllReadyL.nil
  have xq_ := x.out
  have cq_ := cell_of_block xq_
  have fq_ := unfrozen_of_block xq_
  have lq_ := lt_of_block xq_
  go_simp
  obtain ⟨V9, hV_, sV, xV, oV, kV⟩ := stored1 w2_3 w1.heap.size 9 (.slice a3 (m.cl.length + 1) c3) xq_
  rw [← hV_]
  clear hV_
  have x2 : V9.heap[w1.heap.size]? = some (.cells #[.int .i64 m.k, .int .i64 m.f, .int .i64 m.v, .int .i64 m.s, .int .i64 m.r.c, .int .i64 m.r.n, .int .i64 m.r.o, .int .i64 m.r.x, .int .i64 m.r.y, .slice a3 (m.cl.length + 1) c3, .slice b m.vs.length d] 34 (0, 0)) := by simpa using xV
  have zV := (oV _ hneZ).trans z
  have RF9 := RF2.out.below (kV.mono (by omega))
  have KK : w.grownBy V9 (some g) := grown_bel KW9.out (kV.mono (by omega))
  have HVV := Lib.hid (Rob.unowX (HV.out.next (show Agree (OwX (Lo W.heap.size) a c) w1 V9 from ⟨by have := AG.out.1; omega, fun b hb hx => (oV b (by omega)).trans (AG.out.2 b hb hx)⟩)))
  have RT9 := Lib.hid (RT.out.agree (X := fun b => b = w1.heap.size) ⟨by omega, fun b _ hb => oV b hb⟩ (fun g' hg' e => HB3 g' hg' e))
  clear AG HB3 RT KW9 RF2
  clear kV xV cq_ fq_ lq_ xq_ hS
  refine hK.out _ _ (fun h => absurd h (by decide)) ?_
  clear hK K
  try simp only [Act.put, List.setIfInBounds_toArray, List.set]
  refine wpAnyL_done (by kernel_rfl) ?_ _
  clear x z x0 cx0
  have x := x2
  have z := zV
  clear x2 zV oV sV
  have cx := cell_of_block x
  have fx := unfrozen_of_block x
  have lx := lt_of_block x
  have cz := cell_of_block z
  have fz := unfrozen_of_block z
  have lz := lt_of_block z
  go_wp2_with fail
  refine bodyPost_ret (v := .agg #[.int .i64 m.k, .int .i64 m.f, .int .i64 m.v, .int .i64 m.s, .int .i64 m.r.c, .int .i64 m.r.n, .int .i64 m.r.o, .int .i64 m.r.x, .int .i64 m.r.y, .slice a3 (m.cl.length + 1) c3, .slice b m.vs.length d]) (by simp [results, Try.results41, go_sem, cz]) rfl ?_
  refine ⟨⟨m.k, m.f, m.v, m.s, m.r, .slice a3 (m.cl ++ [cl9]).length c3, .slice b m.vs.length d, m.cl ++ [cl9], m.vs⟩, a3, c3, b, d, by simp, rfl, rfl, Rob.low (B := W.heap.size) ?_ (by omega), (RF9.below (by repeat' (first | with_reducible exact Below.refl _ _ | with_reducible assumption | with_reducible refine Below.alloc ?_ ?_ _ | with_reducible refine Below.drew ?_ | with_reducible refine Below.setCell ?_ ?_ _ | omega | (simp; omega) | (simp; done)))).mono (by omega), by repeat (first | with_reducible exact KK | with_reducible refine grown_alloc ?_ _ | with_reducible refine grown_setCell ?_ (.inr (by simp; try omega)) _)⟩
  have hR : Rob (Lo W.heap.size) (Mg.ok · ⟨m.k, m.f, m.v, m.s, m.r, .slice a3 (m.cl ++ [cl9]).length c3, .slice b m.vs.length d, m.cl ++ [cl9], m.vs⟩) V9 := (RT9.out.rob seven_len).and HVV.out
  repeat' (first | with_reducible exact hR | refine Rob.set ?_ (by simp only; omega) _)
 ·
  have n0 : (v2 == 0) = false := by simp; omega
  have n1 : (v2 == 1) = false := by simp; omega
  have n2 : (v2 == 2) = false := by simp; omega
  have n3 : (v2 == 3) = false := by simp; omega
  have n4 : (v2 == 4) = false := by simp; omega
  have KK := grown_trans K K1
  have cx := cell_of_block x
  have fx := unfrozen_of_block x
  have lx := lt_of_block x
  have cz := cell_of_block z
  have fz := unfrozen_of_block z
  have lz := lt_of_block z
  go_wp2_with fail
  refine bodyPost_ret (v := .agg #[.int .i64 m.k, .int .i64 m.f, .int .i64 m.v, .int .i64 m.s, .int .i64 m.r.c, .int .i64 m.r.n, .int .i64 m.r.o, .int .i64 m.r.x, .int .i64 m.r.y, .slice a m.cl.length c, .slice b m.vs.length d]) (by simp [results, Try.results41, go_sem, cz]) rfl ?_
  refine ⟨⟨m.k, m.f, m.v, m.s, m.r, .slice a m.cl.length c, .slice b m.vs.length d, m.cl, m.vs⟩, a, c, b, d, rfl, rfl, rfl, Rob.low (B := W.heap.size) ?_ (by omega), (r2.below (by repeat' (first | with_reducible exact Below.refl _ _ | with_reducible assumption | with_reducible refine Below.alloc ?_ ?_ _ | with_reducible refine Below.drew ?_ | with_reducible refine Below.setCell ?_ ?_ _ | omega | (simp; omega) | (simp; done)))).mono (by omega), by repeat (first | with_reducible exact KK | with_reducible refine grown_alloc ?_ _ | with_reducible refine grown_setCell ?_ (.inr (by simp; try omega)) _)⟩
  have hR : Rob (Lo W.heap.size) (Mg.ok · ⟨m.k, m.f, m.v, m.s, m.r, .slice a m.cl.length c, .slice b m.vs.length d, m.cl, m.vs⟩) w2 := (RW.out.rob seven_len).and (HV.out.later2 K1 hlo (fun b hb hy => .inl hy))
  repeat' (first | with_reducible exact hR | refine Rob.set ?_ (by simp only; omega) _)
end Go.Proofs.Ytgdhieffjflejaa

/-! DrawW -/
namespace Go.Proofs.Ytgdhieffjflejaa
open Go.RowKit Go.Joins

/-- Who is bad, and events; the reader has moved on; nothing else that was there has turned. -/
def PlayDrawn (w : World) (g P : Nat) (e : Ending) (w' : World) : Prop :=
 ∃ (bad : Int) (a : Option Addr) (c : Nat) (es : List Ev), e = .returned (.tuple #[.int .i64 bad, .slice a es.length c]) ∧ inB bad 0 3 = true ∧ IsEvs w' (.slice a es.length c) es ∧ EvsFit es ∧ Rdr w' g (P + 73010) ∧ w.grownBy w' (some g)

set_option maxRecDepth 100000 in
set_option maxHeartbeats 4000000 in
theorem l20Play_c (w : World) (g P : Nat) (hr : Rdr w g P) (hP : P ≤ 1000000000000) :
  Calls Try.prog 60 #[.pointer (some ⟨g, 0, none⟩)] w (PlayDrawn w g P) := by
 have hlt0 := hr.lt
 go_enter Try.func60, Try.ntmps60
 go_wp2_with fail
 refine (pick_c _ g P 4 hr (by omega) (by omega)).mono ?_
 rintro e w1 ⟨v1, rfl, a1, b1, -, r1, k1⟩
 replace b1 := b1 (by omega)
 go_wp2_with fail
 obtain ⟨V2, hV_, sV2, n0, kV⟩ := blocks1 w1 (.cells #[.int .i64 0, .int .i64 20, .int .i64 60, .int .i64 120] 3)
 rw [← hV_]
 clear hV_ sV2
 have hgw := r1.lt
 replace r1 := r1.below (kV.mono (by omega))
 have K := grown_trans k1 (grown_of_below kV _)
 clear kV k1
 refine (one_c V2 g (P + 1) w1.heap.size 4 _ [0, 20, 60, 120] _ r1 (by omega) (by omega) n0 rfl rfl (by decide) (by decide)).mono ?_
 rintro e w2 ⟨v3, hv3, rfl, r3, k3⟩
 replace K := grown_trans K k3
 obtain ⟨most, rfl, hm⟩ : ∃ n : Nat, v3 = (n : Int) ∧ n ≤ 120 := by
  simp only [List.mem_cons, List.not_mem_nil, or_false] at hv3
  rcases hv3 with rfl | rfl | rfl | rfl
  ·
   exact ⟨0, rfl, by decide⟩
  ·
   exact ⟨20, rfl, by decide⟩
  ·
   exact ⟨60, rfl, by decide⟩
  ·
   exact ⟨120, rfl, by decide⟩
 clear hv3 k3 n0 r1 hgw
 go_wp2_with fail
 refine (l20Events_c v1 most w2 g (P + 1 + 1) r3 (by omega) hm).mono ?_
 rintro e w3 ⟨a, c, es, rfl, hes, hef, r4, k4⟩
 replace K := grown_trans K k4
 have HES := Lib.hid hes
 have HEF := Lib.hid hef
 clear hes hef k4
 go_wp2_with fail
 refine bodyPost_ret (v := .tuple #[.int .i64 v1, .slice a es.length c]) (by simp [results, Try.results60, go_sem]) rfl ?_
 exact ⟨v1, a, c, es, rfl, by simp [inB]; omega, HES.out, HEF.out, r4.mono (by omega), K⟩

/-- A world of which what was said is known; the reader has moved on; nothing else that was there has turned. -/
def WorldDrawn (w : World) (g P : Nat) (e : Ending) (w' : World) : Prop :=
 ∃ (bad : Int) (ar : Option Addr) (nr cr : Nat) (a : Option Addr) (c : Nat) (sd : List Mg), e = .returned (.agg #[.int .i64 bad, .slice ar nr cr, .slice a sd.length c]) ∧ Rob (Lo w.heap.size) (fun V => IsMs V (.slice a sd.length c) sd) w' ∧ sd.length ≤ 100 ∧ Rdr w' g (P + 73010) ∧ w.grownBy w' (some g)

set_option maxRecDepth 100000 in
set_option maxHeartbeats 4000000 in
theorem l20World_c (w : World) (g P : Nat) (hr : Rdr w g P) (hP : P ≤ 1000000000000) :
  Calls Try.prog 39 #[.pointer (some ⟨g, 0, none⟩)] w (WorldDrawn w g P) := by
 have hlt0 := hr.lt
 go_enter Try.func39, Try.ntmps39
 go_upto_region 1 with fail
 obtain ⟨W, hW_, sW, z, kW⟩ := blocks1 w (.cells #[.int .i64 0, .slice none 0 0, .slice none 0 0] 50)
 rw [← hW_]
 clear hW_
 have hsW : w.heap.size < W.heap.size := by omega
 have hne : ¬ (w.heap.size = g) := by omega
 go_wp2_with fail
 refine (l20Play_c W g P (hr.below (kW.mono (by omega))) hP).mono ?_
 rintro e w1 ⟨bad, a0, c0, es, rfl, hb, hes, hef, r1, k1⟩
 replace z := carry k1 hne z
 have K : w.grownBy w1 (some g) := grown_trans (grown_of_below kW _) k1
 have hs1 : W.heap.size ≤ w1.heap.size := k1.size
 have HES := Lib.hid hes
 have HEF := Lib.hid hef
 clear kW k1 sW hes hef hr
 go_wp2_with fail
 refine (WorldPlay_c bad _ es w1 hb HES.out HEF.out).mono ?_
 rintro e w2 ⟨u, rfl, hu, hfu, k2⟩
 have U := Lib.hid hu
 have FU := Lib.hid hfu
 have hgw := r1.lt
 replace r1 := r1.below (k2.mono (by omega))
 replace z := carryB k2 (lt_of_block z) z
 replace K := grown_trans K (grown_of_below k2 _)
 have hs2 : W.heap.size ≤ w2.heap.size := Nat.le_trans hs1 k2.size
 clear k2 hu hfu hgw
 go_wp2_with fail
 refine (l6Copy_c 450 54000 u w2 U.out FU.out (by omega) (by omega)).mono ?_
 rintro e w3 ⟨bad', ar, nr, cr, a, c, sd, rfl, hsd, -, hsl, k3⟩
 have SD := Lib.hid hsd
 have hgw := r1.lt
 replace r1 := r1.below (k3.mono (by omega))
 replace z := carryB k3 (lt_of_block z) z
 replace K := grown_trans K (grown_of_below k3 _)
 clear k3 hsd hgw
 have KK := K
 have cz := cell_of_block z
 have fz := unfrozen_of_block z
 have lz := lt_of_block z
 go_wp2_with fail
 refine bodyPost_ret (v := .agg #[.int .i64 bad', .slice ar nr cr, .slice a sd.length c]) (by simp [results, Try.results39, go_sem, cz]) rfl ?_
 refine ⟨bad', ar, nr, cr, a, c, sd, rfl, Rob.low (B := w2.heap.size) ?_ (by omega), hsl, (r1.below (by repeat' (first | with_reducible exact Below.refl _ _ | with_reducible assumption | with_reducible refine Below.alloc ?_ ?_ _ | with_reducible refine Below.drew ?_ | with_reducible refine Below.setCell ?_ ?_ _ | omega | (simp; omega) | (simp; done)))).mono (by omega), by repeat (first | with_reducible exact KK | with_reducible refine grown_alloc ?_ _ | with_reducible refine grown_setCell ?_ (.inr (by simp; try omega)) _)⟩
 have h1 : Rob (Lo w2.heap.size) (fun V => IsMs V (.slice a sd.length c) sd) w3 := SD.out
 repeat' (first | with_reducible exact h1 | refine Rob.set ?_ (by simp only; omega) _)

/-- Letters, at most a hundred, and one. -/
def HasDrawn (w : World) (e : Ending) (w' : World) : Prop :=
 ∃ (a : Option Addr) (c : Nat) (sd : List Mg) (m : Mg) (am bm : Option Addr) (cm dm : Nat), e = .returned (.tuple #[.slice a sd.length c, .agg #[.int .i64 m.k, .int .i64 m.f, .int .i64 m.v, .int .i64 m.s, .int .i64 m.r.c, .int .i64 m.r.n, .int .i64 m.r.o, .int .i64 m.r.x, .int .i64 m.r.y, .slice am m.cl.length cm, .slice bm m.vs.length dm]]) ∧ IsMs w' (.slice a sd.length c) sd ∧ sd.length ≤ 100 ∧ m.vc = .slice am m.cl.length cm ∧ m.vv = .slice bm m.vs.length dm ∧ m.ok w' ∧ Below w.heap.size w w'

set_option maxRecDepth 100000 in
set_option maxHeartbeats 16000000 in
theorem DrawSaidHas_c (v : Value) (z : Bts) (w : World) (hz : IsBytes w v z) :
  Calls Try.prog 17 #[v] w (HasDrawn w) := by
 have HZ := Lib.hid hz
 obtain ⟨rfl, -⟩ := hz
 go_enter Try.func17, Try.ntmps17
 go_upto_region 1 with fail
 obtain ⟨W, hW_, sW, y, kW⟩ := blocks1 w (.cells #[.int .i64 0, .int .i64 0, .int .i64 0, .int .i64 0, .int .i64 0, .int .i64 0, .int .i64 0, .int .i64 0, .int .i64 0, .slice none 0 0, .slice none 0 0] 34)
 rw [← hW_]
 clear hW_
 have hsW : w.heap.size < W.heap.size := by omega
 go_wp2_with fail
 refine (l20Open_c _ z W (HZ.out.below kW)).mono ?_
 rintro e w1 ⟨g, rfl, hg, r1, k1⟩
 replace y := carryB k1 (lt_of_block y) y
 have K1 := below_next kW k1
 have hgw : w.heap.size ≤ g := by omega
 have hg1 := r1.lt
 clear kW k1 sW
 have hneY : ¬ (w.heap.size = g) := by omega
 go_wp2_with fail
 refine (l20World_c w1 g 0 r1 (by omega)).mono ?_
 rintro e w2 ⟨bad, ar, nr, cr, a, c, sd, rfl, hsd, hsl, r2, k2⟩
 have SD := Lib.hid hsd
 have K2 := bel_grown K1 k2 hgw
 replace y := carry k2 hneY y
 have hs2 : w1.heap.size ≤ w2.heap.size := k2.size
 have hlo : Lo w1.heap.size g := hg1
 clear k2 hsd r1 K1
 have hfd : ∀ V : World, (Instr.field 50 (.agg #[.int .i64 bad, .slice ar nr cr, .slice a sd.length c]) 2).run Try.prog V = .ok (.slice a sd.length c) V := fun _ => by kernel_rfl
 obtain ⟨q1, hq1⟩ : ∃ q, decide (0 < sd.length) = q := ⟨_, rfl⟩
 cases q1 with
 | false =>
  have hq : ¬ (0 < sd.length) := of_decide_eq_false hq1
  go_wp2_with fail
  refine (l20AnyMsg_c _ g (0 + 73010) r2 (by omega)).mono ?_
  rintro e w9 ⟨m, am, cm, bm, dm, rfl, hv1, hv2, hmo, r9, k9⟩
  have SD9 := Lib.hid (SD.out.next (Agree.grown k9 hlo))
  have K9 := bel_grown K2 k9 hgw
  replace y := carry k9 hneY y
  have MO := Lib.hid hmo
  have MV := Lib.hid (And.intro hv1 hv2)
  have hs9 : w2.heap.size ≤ w9.heap.size := k9.size
  clear k9 hmo hv1 hv2 r9 SD
  have cy := cell_of_block y
  have fy := unfrozen_of_block y
  have ly := lt_of_block y
  go_wp2_with fail
  refine bodyPost_ret (v := .tuple #[.slice a sd.length c, .agg #[.int .i64 m.k, .int .i64 m.f, .int .i64 m.v, .int .i64 m.s, .int .i64 m.r.c, .int .i64 m.r.n, .int .i64 m.r.o, .int .i64 m.r.x, .int .i64 m.r.y, .slice am m.cl.length cm, .slice bm m.vs.length dm]]) (by simp [results, Try.results17, go_sem, cy]) rfl ?_
  refine ⟨a, c, sd, m, am, bm, cm, dm, rfl, Rob.out (X := Lo w1.heap.size) (F := fun V => IsMs V (.slice a sd.length c) sd) ?_, hsl, MV.out.1, MV.out.2, Rob.out (X := Lo w2.heap.size) (F := fun V => Mg.ok V m) ?_, (by repeat' (first | with_reducible exact Below.refl _ _ | with_reducible assumption | with_reducible refine Below.alloc ?_ ?_ _ | with_reducible refine Below.drew ?_ | with_reducible refine Below.setCell ?_ ?_ _ | omega | (simp; omega) | (simp; done)))⟩
  ·
   have h1 : Rob (Lo w1.heap.size) (fun V => IsMs V (.slice a sd.length c) sd) w9 := SD9.out
   repeat' (first | with_reducible exact h1 | refine Rob.set ?_ (by simp only; omega) _)
  ·
   have h1 : Rob (Lo w2.heap.size) (fun V => Mg.ok V m) w9 := MO.out
   repeat' (first | with_reducible exact h1 | refine Rob.set ?_ (by simp only; omega) _)
 | true =>
  have hq : 0 < sd.length := of_decide_eq_true hq1
  go_wp2_with fail
  refine (pick_c _ g (0 + 73010) 2 r2 (by omega) (by omega)).mono ?_
  rintro e w3 ⟨v3, rfl, -, -, -, r3, k3⟩
  replace SD := Lib.hid (SD.out.next (Agree.grown k3 hlo))
  have K3 := bel_grown K2 k3 hgw
  replace y := carry k3 hneY y
  have hs3 : w1.heap.size ≤ w3.heap.size := Nat.le_trans hs2 k3.size
  clear k3 r2 K2 hs2
  obtain ⟨q2, hq2⟩ : ∃ q, (v3 == 0) = q := ⟨_, rfl⟩
  cases q2 with
  | false =>
   go_wp2_with fail
   refine (l20AnyMsg_c _ g (0 + 73010 + 1) r3 (by omega)).mono ?_
   rintro e w9 ⟨m, am, cm, bm, dm, rfl, hv1, hv2, hmo, r9, k9⟩
   have SD9 := Lib.hid (SD.out.next (Agree.grown k9 hlo))
   have K9 := bel_grown K3 k9 hgw
   replace y := carry k9 hneY y
   have MO := Lib.hid hmo
   have MV := Lib.hid (And.intro hv1 hv2)
   have hs9 : w3.heap.size ≤ w9.heap.size := k9.size
   clear k9 hmo hv1 hv2 r9 SD
   have cy := cell_of_block y
   have fy := unfrozen_of_block y
   have ly := lt_of_block y
   go_wp2_with fail
   refine bodyPost_ret (v := .tuple #[.slice a sd.length c, .agg #[.int .i64 m.k, .int .i64 m.f, .int .i64 m.v, .int .i64 m.s, .int .i64 m.r.c, .int .i64 m.r.n, .int .i64 m.r.o, .int .i64 m.r.x, .int .i64 m.r.y, .slice am m.cl.length cm, .slice bm m.vs.length dm]]) (by simp [results, Try.results17, go_sem, cy]) rfl ?_
   refine ⟨a, c, sd, m, am, bm, cm, dm, rfl, Rob.out (X := Lo w1.heap.size) (F := fun V => IsMs V (.slice a sd.length c) sd) ?_, hsl, MV.out.1, MV.out.2, Rob.out (X := Lo w3.heap.size) (F := fun V => Mg.ok V m) ?_, (by repeat' (first | with_reducible exact Below.refl _ _ | with_reducible assumption | with_reducible refine Below.alloc ?_ ?_ _ | with_reducible refine Below.drew ?_ | with_reducible refine Below.setCell ?_ ?_ _ | omega | (simp; omega) | (simp; done)))⟩
   ·
    have h1 : Rob (Lo w1.heap.size) (fun V => IsMs V (.slice a sd.length c) sd) w9 := SD9.out
    repeat' (first | with_reducible exact h1 | refine Rob.set ?_ (by simp only; omega) _)
   ·
    have h1 : Rob (Lo w3.heap.size) (fun V => Mg.ok V m) w9 := MO.out
    repeat' (first | with_reducible exact h1 | refine Rob.set ?_ (by simp only; omega) _)
  | true =>
   go_upto_region 4 with fail
   obtain ⟨oldr, tr, hrb⟩ := r3.block
   have hsE := SD.out.out.1.bounds.2.2.2
   obtain ⟨-, hlc, hmx, -⟩ := SD.out.out.1.bounds
   unfold maxLen at hmx
   obtain ⟨b1, o1, es, hb1l, -⟩ := mg_at hsE 0 hq
   subst es
   have hb1 : ¬ (b1 = g) := Rob.apart (R := Mg.cs) (by decide) eleven_len (SD.out.imp (G := fun V => RowsAt V (some ⟨b1, o1, none⟩) 11 Mg.cs sd) (fun V h => h.1.bounds.2.2.2)) hlo hrb hq
   have MA := Lib.hid (mg_at hsE)
   clear hsE hrb
   have hBW := Nat.le_refl w3.heap.size
   have KD := Lib.hid (Below.refl w3.heap.size w3)
   have RF := Lib.hid (show RdGr w3 g (0 + 73010 + 1) w3 from ⟨r3, grown_refl w3 (some g)⟩)
   have hgw3 : g < w3.heap.size := r3.lt
   have hyw3 := lt_of_block y
   clear r3
   refine wp_region_L (fun w' => (∀ b o, b < w3.heap.size → b ≠ g → w'.cell? ⟨b, o, none⟩ = w3.cell? ⟨b, o, none⟩) ∧ w3.heap.size ≤ w'.heap.size) [9] (by kernel_rfl) ?_
   obtain ⟨w3_0, hw_, kw_⟩ : ∃ wd, wd = w3.drew ∧ Below w3.heap.size w3 wd := ⟨_, rfl, Below.drew (Below.refl _ _)⟩
   rw [← hw_]
   clear hw_
   have hS := KE.next hBW (KE.refl w3.heap.size (g) w3) kw_
   replace KD := Lib.hid (below_next KD.out kw_)
   replace RF := Lib.hid (RF.out.below kw_)
   clear kw_
   refine wpAnyL_take (i := 0) (oi := _) (v := ?_) (by (simp only [List.getElem?_toArray]; rfl)) (by kernel_rfl) (by kernel_rfl) (by kernel_rfl) (by kernel_rfl) (by exact fun _ _ _ h => h) (Or.inl ⟨by rfl, ?_⟩) (by assumption) ?_
   rotate_left
   ·
    intro wS hSw
    go_simp
    all_goals first | with_reducible rfl | rw [if_neg (by omega)]
   simp only [Act.put, List.setIfInBounds_toArray, List.set]
   refine wpAnyL_take (i := 1) (oi := _) (v := ?_) (by (simp only [List.getElem?_toArray]; rfl)) (by kernel_rfl) (by kernel_rfl) (by kernel_rfl) (by kernel_rfl) (by exact fun _ _ _ h => h) (Or.inl ⟨by rfl, ?_⟩) (by assumption) ?_
   rotate_left
   ·
    intro wS hSw
    go_simp
    all_goals first | with_reducible rfl | rw [if_neg (by omega)]
   simp only [Act.put, List.setIfInBounds_toArray, List.set]
   refine wpAnyL_take (i := 2) (oi := _) (v := ?_) (by (simp only [List.getElem?_toArray]; rfl)) (by kernel_rfl) (by kernel_rfl) (by kernel_rfl) (by kernel_rfl) (by exact fun _ _ _ h => h) (Or.inl ⟨by rfl, ?_⟩) (by assumption) ?_
   rotate_left
   ·
    intro wS hSw
    go_simp
    all_goals first | with_reducible rfl | rw [if_neg (by omega)]
   simp only [Act.put, List.setIfInBounds_toArray, List.set]
   refine wpAnyL_take (i := 3) (oi := _) (v := ?_) (by (simp only [List.getElem?_toArray]; rfl)) (by kernel_rfl) (by kernel_rfl) (by kernel_rfl) (by kernel_rfl) (by exact fun _ _ _ h => h) (Or.inl ⟨by rfl, ?_⟩) (by assumption) ?_
   rotate_left
   ·
    intro wS hSw
    go_simp
    all_goals first | with_reducible rfl | rw [if_neg (by omega)]
   simp only [Act.put, List.setIfInBounds_toArray, List.set]
   refine wpAnyL_take (i := 4) (oi := _) (v := ?_) (by (simp only [List.getElem?_toArray]; rfl)) (by kernel_rfl) (by kernel_rfl) (by kernel_rfl) (by kernel_rfl) (by exact fun _ _ _ h => h) (Or.inl ⟨by rfl, ?_⟩) (by assumption) ?_
   rotate_left
   ·
    intro wS hSw
    go_simp
    all_goals first | with_reducible rfl | rw [if_neg (by omega)]
   simp only [Act.put, List.setIfInBounds_toArray, List.set]
   refine wpAnyL_ready (rs := [5]) (by kernel_rfl) (by simp) ?_
   refine AllReadyL.cons (o := _) (by (simp only [List.getElem?_toArray]; rfl)) (fun K hK => ?_) AllReadyL.nil
   go_simp
   refine (pick_c w3_0 g (0 + 73010 + 1) (sd.length : Int) RF.out.1 (by omega) (by omega)).mono ?_
   rintro e w3_1 ⟨v6, rfl, a6, b6, -, r6_, k6_⟩
   replace b6 := b6 (by omega)
   replace RF := Lib.hid (show RdGr w3 g (0 + 73010 + 1 + 1) w3_1 from ⟨r6_, grown_trans RF.out.2 k6_⟩)
   replace hS := KE.grown hS hBW k6_
   replace KD := Lib.hid (Below.refl w3_1.heap.size w3_1)
   clear r6_ k6_
   obtain ⟨j, rfl⟩ := Int.eq_ofNat_of_zero_le a6
   have hjl : j < sd.length := by omega
   have hj0 : (0 : Int) ≤ (j : Int) := by omega
   have hji : (j : Int) < (sd.length : Int) := by omega
   obtain ⟨b1', o1', e', hl', hd⟩ := MA.out j hjl
   simp only [Option.some.injEq, Addr.mk.injEq, and_true] at e'
   obtain ⟨rfl, rfl⟩ := e'
   obtain ⟨d0, d1, d2, d3, d4, d5, d6, d7, d8, d9, d10⟩ := hd w3 (Below.refl _ _)
   obtain ⟨ax, qx, bx, dx, ex, fx⟩ := Mg.ok.slices (SD.out.out.2 sd[j] (List.getElem_mem hjl))
   have MO := Lib.hid (SD.out.imp (G := sd[j].ok) (fun V h => h.2 sd[j] (List.getElem_mem hjl)))
   clear hd
   generalize sd[j] = m at *
   rw [ex] at d9
   rw [fx] at d10
   have EX := Lib.hid (And.intro ex fx)
   clear ex fx
   refine hK.out _ _ (fun _ => hS) ?_
   clear hK K
   try simp only [Act.put, List.setIfInBounds_toArray, List.set]
   refine wpAnyL_take (i := 6) (oi := _) (v := ?_) (by (simp only [List.getElem?_toArray]; rfl)) (by kernel_rfl) (by kernel_rfl) (by kernel_rfl) (by kernel_rfl) (by exact fun _ _ _ h => h) (Or.inl ⟨by rfl, ?_⟩) (by assumption) ?_
   rotate_left
   ·
    intro wS hSw
    go_simp
    all_goals first | with_reducible rfl | rw [if_neg (by omega)]
   simp only [Act.put, List.setIfInBounds_toArray, List.set]
   refine wpAnyL_take (i := 7) (oi := _) (v := ?_) (by (simp only [List.getElem?_toArray]; rfl)) (by kernel_rfl) (by kernel_rfl) (by kernel_rfl) (by kernel_rfl) (by exact fun _ _ _ h => h) (Or.inl ⟨by rfl, ?_⟩) (by assumption) ?_
   rotate_left
   ·
    intro wS hSw
    go_simp
    all_goals first | with_reducible rfl | rw [if_neg (by omega)]
   simp only [Act.put, List.setIfInBounds_toArray, List.set]
   refine wpAnyL_take (i := 8) (oi := _) (v := ?_) (by (simp only [List.getElem?_toArray]; rfl)) (by kernel_rfl) (by kernel_rfl) (by kernel_rfl) (by kernel_rfl) (by exact fun _ _ _ h => h) (Or.inl ⟨by rfl, ?_⟩) (by assumption) ?_
   rotate_left
   ·
    intro wS hSw
    go_simp
    all_goals first | with_reducible rfl | rw [if_neg (by omega)]
   simp only [Act.put, List.setIfInBounds_toArray, List.set]
   refine wpAnyL_ready (rs := [9]) (by kernel_rfl) (by simp) ?_
   refine AllReadyL.cons (o := _) (by (simp only [List.getElem?_toArray]; rfl)) (fun K hK => ?_) AllReadyL.nil
   have yq_ := carry RF.out.2 hneY y
   have cq_ := cell_of_block yq_
   have fq_ := unfrozen_of_block yq_
   have lq_ := lt_of_block yq_
   have cy_ := cell_of_block y
   go_simp
   obtain ⟨Q1, hV_, sV_, y9, oV_, kV_⟩ := stored11 w3_1 w.heap.size _ _ _ _ _ _ _ _ _ _ _ (.int .i64 m.k) (.int .i64 m.f) (.int .i64 m.v) (.int .i64 m.s) (.int .i64 m.r.c) (.int .i64 m.r.n) (.int .i64 m.r.o) (.int .i64 m.r.x) (.int .i64 m.r.y) (.slice ax m.cl.length qx) (.slice bx m.vs.length dx) yq_
   rw [← hV_]
   clear hV_
   have SD9 := Lib.hid ((SD.out.next (Agree.grown RF.out.2 hlo)).stored sV_ oV_ (by show w.heap.size < w1.heap.size; omega))
   have MO9 := Lib.hid ((MO.out.next (Agree.grown RF.out.2 hlo)).stored sV_ oV_ (by show w.heap.size < w1.heap.size; omega))
   have K9 := Lib.hid ((bel_grown K3 RF.out.2 hgw).trans (kV_.mono (by omega)))
   clear yq_ cq_ fq_ lq_ cy_ kV_ oV_ sV_ hS
   refine hK.out _ _ (fun h => absurd h (by decide)) ?_
   clear hK K
   try simp only [Act.put, List.setIfInBounds_toArray, List.set]
   refine wpAnyL_done (by kernel_rfl) ?_ _
   clear d0 d1 d2 d3 d4 d5 d6 d7 d8 d9 d10 SD MO y
   have cy9 := cell_of_block y9
   have fy9 := unfrozen_of_block y9
   have ly9 := lt_of_block y9
   go_wp2_with fail
   refine bodyPost_ret (v := .tuple #[.slice (some ⟨b1, o1, none⟩) sd.length c, .agg #[.int .i64 m.k, .int .i64 m.f, .int .i64 m.v, .int .i64 m.s, .int .i64 m.r.c, .int .i64 m.r.n, .int .i64 m.r.o, .int .i64 m.r.x, .int .i64 m.r.y, .slice ax m.cl.length qx, .slice bx m.vs.length dx]]) (by simp [results, Try.results17, go_sem, cy9]) rfl ?_
   exact ⟨some ⟨b1, o1, none⟩, c, sd, m, ax, bx, qx, dx, rfl, SD9.out.out, hsl, EX.out.1, EX.out.2, MO9.out.out, K9.out⟩
end Go.Proofs.Ytgdhieffjflejaa

/-! EqualS -/
namespace Go.Proofs.Ytgdhieffjflejaa
open Go.RowKit Go.Joins
attribute [local go_sem ↓] neq_cl

set_option maxRecDepth 100000 in
set_option maxHeartbeats 1000000 in
theorem slEqualCl_c (va vb : Value) (xs ys : List Cl) (w : World) (ha : IsSl w va 7 Cl.cs xs) (hb : IsSl w vb 7 Cl.cs ys) :
  Calls Try.prog 29 #[va, vb] w fun e w' => e = .returned (.bool (decide (xs = ys))) ∧ Below w.heap.size w w' := by
 obtain ⟨a, cap, rfl, hlc, hm, hra⟩ := ha
 obtain ⟨b, cap', rfl, hlc', hm', hrb⟩ := hb
 have HA := Lib.hid hra
 have HB := Lib.hid hrb
 clear hra hrb
 unfold maxLen at hm hm'
 by_cases hne : xs.length = ys.length
 ·
  generalize hnn : xs.length = n at *
  have hnb : ys.length = n := hne.symm
  rw [hnb] at hlc' ⊢
  clear hne
  go_enter Try.func29, Try.ntmps29
  go_wp2_with fail
  go_loopw [13] (fun i wr => ∃ k : Nat, k ≤ n ∧ i = .int .i64 k ∧ (∀ j, j < k → xs[j]? = ys[j]?) ∧ Below w.heap.size w wr) (fun i _ => n - (intOf i).toNat)
  case atStart => exact ⟨0, Nat.zero_le _, rfl, fun j hj => absurd hj (Nat.not_lt_zero j), Below.refl _ _⟩
  case round =>
   obtain ⟨k, hk, rfl, hal, hbel⟩ := hrel
   have AL := Lib.hid hal
   clear hal
   by_cases hlt : k < n
   ·
    have hka : k < xs.length := by omega
    have hkb : k < ys.length := by omega
    have hk1 : (k : Int) < (n : Int) := by omega
    have hk0 : (0 : Int) ≤ (k : Int) := by omega
    obtain ⟨b0, o0, rfl, hl0, hc0⟩ := HA.out k hka
    obtain ⟨b1, o1, rfl, hl1, hc1⟩ := HB.out k hkb
    have c0 : wr.cell? ⟨b0, o0 + k * 7, none⟩ = some (.int .i64 xs[k].s) := (hbel.cell (p := ⟨b0, _, none⟩) hl0).trans (hc0 0 (by decide))
    have c1 : wr.cell? ⟨b0, o0 + k * 7 + 1, none⟩ = some (.int .i64 xs[k].v) := (hbel.cell (p := ⟨b0, _, none⟩) hl0).trans (hc0 1 (by decide))
    have c2 : wr.cell? ⟨b0, o0 + k * 7 + 2, none⟩ = some (.int .i64 xs[k].r.c) := (hbel.cell (p := ⟨b0, _, none⟩) hl0).trans (hc0 2 (by decide))
    have c3 : wr.cell? ⟨b0, o0 + k * 7 + 3, none⟩ = some (.int .i64 xs[k].r.n) := (hbel.cell (p := ⟨b0, _, none⟩) hl0).trans (hc0 3 (by decide))
    have c4 : wr.cell? ⟨b0, o0 + k * 7 + 4, none⟩ = some (.int .i64 xs[k].r.o) := (hbel.cell (p := ⟨b0, _, none⟩) hl0).trans (hc0 4 (by decide))
    have c5 : wr.cell? ⟨b0, o0 + k * 7 + 5, none⟩ = some (.int .i64 xs[k].r.x) := (hbel.cell (p := ⟨b0, _, none⟩) hl0).trans (hc0 5 (by decide))
    have c6 : wr.cell? ⟨b0, o0 + k * 7 + 6, none⟩ = some (.int .i64 xs[k].r.y) := (hbel.cell (p := ⟨b0, _, none⟩) hl0).trans (hc0 6 (by decide))
    have d0 : wr.cell? ⟨b1, o1 + k * 7, none⟩ = some (.int .i64 ys[k].s) := (hbel.cell (p := ⟨b1, _, none⟩) hl1).trans (hc1 0 (by decide))
    have d1 : wr.cell? ⟨b1, o1 + k * 7 + 1, none⟩ = some (.int .i64 ys[k].v) := (hbel.cell (p := ⟨b1, _, none⟩) hl1).trans (hc1 1 (by decide))
    have d2 : wr.cell? ⟨b1, o1 + k * 7 + 2, none⟩ = some (.int .i64 ys[k].r.c) := (hbel.cell (p := ⟨b1, _, none⟩) hl1).trans (hc1 2 (by decide))
    have d3 : wr.cell? ⟨b1, o1 + k * 7 + 3, none⟩ = some (.int .i64 ys[k].r.n) := (hbel.cell (p := ⟨b1, _, none⟩) hl1).trans (hc1 3 (by decide))
    have d4 : wr.cell? ⟨b1, o1 + k * 7 + 4, none⟩ = some (.int .i64 ys[k].r.o) := (hbel.cell (p := ⟨b1, _, none⟩) hl1).trans (hc1 4 (by decide))
    have d5 : wr.cell? ⟨b1, o1 + k * 7 + 5, none⟩ = some (.int .i64 ys[k].r.x) := (hbel.cell (p := ⟨b1, _, none⟩) hl1).trans (hc1 5 (by decide))
    have d6 : wr.cell? ⟨b1, o1 + k * 7 + 6, none⟩ = some (.int .i64 ys[k].r.y) := (hbel.cell (p := ⟨b1, _, none⟩) hl1).trans (hc1 6 (by decide))
    clear hc0 hc1
    by_cases he : xs[k] = ys[k]
    ·
     have HX := Lib.hid (show ∀ j, j < k + 1 → xs[j]? = ys[j]? from fun j hj => by
      by_cases hjk : j < k
      ·
       exact AL.out j hjk
      ·
       obtain rfl : j = k := by omega
       rw [List.getElem?_eq_getElem hka, List.getElem?_eq_getElem hkb, he])
     have HE := (eqC_iff xs[k] ys[k]).2 he
     clear he
     generalize xs[k] = x at *
     generalize ys[k] = y at *
     go_wp2_with fail
     go_region_with fail
     all_goals
      go_wp2_with fail
      refine ⟨⟨k + 1, by omega, by go_num, HX.out, by first | exact hbel | exact hbel.drew⟩, ?_⟩
      simp [intOf]; omega
    ·
     have HX := Lib.hid (show decide (xs = ys) = false from decide_eq_false fun hab => he (by subst hab; rfl))
     have HE : eqC xs[k].s xs[k].v xs[k].r.c xs[k].r.n xs[k].r.o xs[k].r.x xs[k].r.y ys[k].s ys[k].v ys[k].r.c ys[k].r.n ys[k].r.o ys[k].r.x ys[k].r.y = false := by
      rw [← Bool.not_eq_true, eqC_iff]
      exact he
     clear he
     generalize xs[k] = x at *
     generalize ys[k] = y at *
     go_wp2_with fail
     go_region_with fail
     all_goals
      go_wp2_with fail
      go_ret
      exact ⟨ret_bool HX.out.symm, by first | exact hbel | exact hbel.drew⟩
   ·
    have HX := Lib.hid (show decide (xs = ys) = true from decide_eq_true (list_ext_upto (by omega) (fun j hj => AL.out j (by omega))))
    go_wp2_with fail
    go_ret
    exact ⟨ret_bool HX.out.symm, hbel⟩
 ·
  have hni : ¬ (xs.length : Int) = (ys.length : Int) := by omega
  have hnb : ((xs.length : Int) == (ys.length : Int)) = false := by simp; omega
  have HX := Lib.hid (show decide (xs = ys) = false from decide_eq_false fun h => hne (by rw [h]))
  go_enter Try.func29, Try.ntmps29
  go_wp2_with fail
  go_ret
  exact ⟨ret_bool HX.out.symm, Below.refl _ _⟩

set_option maxRecDepth 100000 in
set_option maxHeartbeats 1000000 in
theorem voteFn_c (F F' : Int) (a a' : Option Addr) (n c n' c' : Nat) (xs ys : List Cl) (w : World) (ha : IsSl w (.slice a n c) 7 Cl.cs xs) (hb : IsSl w (.slice a' n' c') 7 Cl.cs ys) :
  Calls Try.prog 31 #[.agg #[.int .i64 F, .slice a n c], .agg #[.int .i64 F', .slice a' n' c']] w fun e w' => e = .returned (.bool (decide ((F, xs) = (F', ys)))) ∧ Below w.heap.size w w' := by
 have HA := Lib.hid ha
 have HB := Lib.hid hb
 clear ha hb
 by_cases hF : F = F'
 ·
  subst hF
  go_enter Try.func31, Try.ntmps31
  go_wp2_with fail
  obtain ⟨W, hW, sW, aW, bW, kW⟩ := blocks2 w (.cells #[.int .i64 F, .slice a n c] 65) (.cells #[.int .i64 F, .slice a' n' c'] 65)
  rw [← hW]
  clear hW
  refine (slEqualCl_c _ _ xs ys W (HA.out.below kW) (HB.out.below kW)).mono ?_
  rintro e w1 ⟨rfl, k1⟩
  go_wp2_with fail
  go_ret
  exact ⟨ret_bool (by simp), below_next kW k1⟩
 ·
  have e1 : (F == F') = false := by simpa using hF
  have HX := Lib.hid (show decide ((F, xs) = (F', ys)) = false from decide_eq_false (by simp [hF]))
  go_enter Try.func31, Try.ntmps31
  go_wp2_with fail
  go_ret
  exact ⟨ret_bool HX.out.symm, (by repeat' (first | with_reducible exact Below.refl _ _ | with_reducible assumption | with_reducible refine Below.alloc ?_ ?_ _ | with_reducible refine Below.drew ?_ | with_reducible refine Below.setCell ?_ ?_ _ | omega | (simp; omega) | (simp; done)))⟩
end Go.Proofs.Ytgdhieffjflejaa

/-! EqualV -/
namespace Go.Proofs.Ytgdhieffjflejaa
open Go.RowKit Go.Joins

set_option maxRecDepth 100000 in
set_option maxHeartbeats 1000000 in
theorem slEqualFunc_c (va vb : Value) (xs ys : List Vx) (w : World) (ha : IsVs w va xs) (hb : IsVs w vb ys) :
  Calls Try.prog 30 #[va, vb, .func (.func 31) #[] #[]] w fun e w' => e = .returned (.bool (decide (xs.map Vx.say = ys.map Vx.say))) ∧ Below w.heap.size w w' := by
 obtain ⟨⟨a, cap, rfl, hlc, hm, hra⟩, hca⟩ := ha
 obtain ⟨⟨b, cap', rfl, hlc', hm', hrb⟩, hcb⟩ := hb
 have HA := Lib.hid hra
 have HB := Lib.hid hrb
 have CA := Lib.hid hca
 have CB := Lib.hid hcb
 clear hra hrb hca hcb
 unfold maxLen at hm hm'
 by_cases hne : xs.length = ys.length
 ·
  generalize hnn : xs.length = n at *
  have hnb : ys.length = n := hne.symm
  rw [hnb] at hlc' ⊢
  clear hne
  go_enter Try.func30, Try.ntmps30
  go_wp2_with fail
  go_loopw [17] (fun i wr => ∃ k : Nat, k ≤ n ∧ i = .int .i64 k ∧ (∀ j, j < k → (xs.map Vx.say)[j]? = (ys.map Vx.say)[j]?) ∧ Below w.heap.size w wr) (fun i _ => n - (intOf i).toNat)
  case atStart => exact ⟨0, Nat.zero_le _, rfl, fun j hj => absurd hj (Nat.not_lt_zero j), Below.refl _ _⟩
  case round =>
   obtain ⟨k, hk, rfl, hal, hbel⟩ := hrel
   have AL := Lib.hid hal
   clear hal
   by_cases hlt : k < n
   ·
    have hka : k < xs.length := by omega
    have hkb : k < ys.length := by omega
    have hk1 : (k : Int) < (n : Int) := by omega
    have hk0 : (0 : Int) ≤ (k : Int) := by omega
    obtain ⟨b0, o0, rfl, hl0, hc0⟩ := HA.out k hka
    obtain ⟨b1, o1, rfl, hl1, hc1⟩ := HB.out k hkb
    have c0 : wr.cell? ⟨b0, o0 + k * 2, none⟩ = some (.int .i64 xs[k].f) := (hbel.cell (p := ⟨b0, _, none⟩) hl0).trans (hc0 0 (by decide))
    have c1 : wr.cell? ⟨b0, o0 + k * 2 + 1, none⟩ = some xs[k].sl := (hbel.cell (p := ⟨b0, _, none⟩) hl0).trans (hc0 1 (by decide))
    have d0 : wr.cell? ⟨b1, o1 + k * 2, none⟩ = some (.int .i64 ys[k].f) := (hbel.cell (p := ⟨b1, _, none⟩) hl1).trans (hc1 0 (by decide))
    have d1 : wr.cell? ⟨b1, o1 + k * 2 + 1, none⟩ = some ys[k].sl := (hbel.cell (p := ⟨b1, _, none⟩) hl1).trans (hc1 1 (by decide))
    have SX := Lib.hid ((CA.out xs[k] (List.getElem_mem hka)).below hbel)
    have SY := Lib.hid ((CB.out ys[k] (List.getElem_mem hkb)).below hbel)
    have HXY := Lib.hid (show xs[k].say = ys[k].say → ∀ j, j < k + 1 → (xs.map Vx.say)[j]? = (ys.map Vx.say)[j]? from fun he j hj => by
     by_cases hjk : j < k
     ·
      exact AL.out j hjk
     ·
      obtain rfl : j = k := by omega
      rw [List.getElem?_map, List.getElem?_map, List.getElem?_eq_getElem hka, List.getElem?_eq_getElem hkb, Option.map_some, Option.map_some, he])
    have HNO := Lib.hid (show xs[k].say ≠ ys[k].say → decide (xs.map Vx.say = ys.map Vx.say) = false from fun he => decide_eq_false fun hab => he (by
     have h1 : (xs.map Vx.say)[k]? = (ys.map Vx.say)[k]? := by rw [hab]
     rw [List.getElem?_map, List.getElem?_map, List.getElem?_eq_getElem hka, List.getElem?_eq_getElem hkb] at h1
     simpa using h1))
    clear hc0 hc1
    generalize xs[k] = x at c0 c1 SX HXY HNO
    generalize ys[k] = y at d0 d1 SY HXY HNO
    obtain ⟨F, sx, cx⟩ := x
    obtain ⟨F', sy, cy⟩ := y
    obtain ⟨ax, kx, hsx, -⟩ := SX.out
    obtain ⟨ay, ky, hsy, -⟩ := SY.out
    simp only at c0 c1 d0 d1 hsx hsy
    subst hsx hsy
    have HD : decide ((F, cx) = (F', cy)) = decide (Vx.say ⟨F, .slice ax cx.length kx, cx⟩ = Vx.say ⟨F', .slice ay cy.length ky, cy⟩) := rfl
    have hlr0 : b0 < wr.heap.size := Nat.lt_of_lt_of_le hl0 hbel.size
    have hlr1 : b1 < wr.heap.size := Nat.lt_of_lt_of_le hl1 hbel.size
    have gg0 : (wr.alloc (.cells #[.int .i64 F, .slice ax cx.length kx] 65)).cell? ⟨b1, o1 + k * 2, none⟩ = some (.int .i64 F') := ((Below.alloc (Below.refl wr.heap.size wr) (Nat.le_refl _) _).cell (p := ⟨b1, _, none⟩) hlr1).trans d0
    have gg1 : (wr.alloc (.cells #[.int .i64 F, .slice ax cx.length kx] 65)).cell? ⟨b1, o1 + k * 2 + 1, none⟩ = some (.slice ay cy.length ky) := ((Below.alloc (Below.refl wr.heap.size wr) (Nat.le_refl _) _).cell (p := ⟨b1, _, none⟩) hlr1).trans d1
    go_wp2_with fail
    obtain ⟨W, hW, sW, aW, bW, kW⟩ := blocks2 wr (.cells #[.int .i64 F, .slice ax cx.length kx] 65) (.cells #[.int .i64 F', .slice ay cy.length ky] 65)
    rw [← hW]
    clear hW
    refine (voteFn_c F F' ax ay _ kx _ ky cx cy W (SX.out.below kW) (SY.out.below kW)).mono ?_
    rintro e w1 ⟨rfl, k1⟩
    have hbel1 := below_next hbel (below_next kW k1)
    rw [HD]
    clear c0 c1 d0 d1 gg0 gg1 kW k1 aW bW sW HD hbel
    by_cases hS : Vx.say ⟨F, .slice ax cx.length kx, cx⟩ = Vx.say ⟨F', .slice ay cy.length ky, cy⟩
    ·
     have HX := Lib.hid (HXY.out hS)
     rw [decide_eq_true hS]
     clear hS HXY HNO
     go_wp2_with fail
     refine ⟨⟨k + 1, by omega, by go_num, HX.out, hbel1⟩, ?_⟩
     simp [intOf]; omega
    ·
     have HX := Lib.hid (HNO.out hS)
     rw [decide_eq_false hS]
     clear hS HXY HNO
     go_wp2_with fail
     go_ret
     exact ⟨ret_bool HX.out.symm, hbel1⟩
   ·
    have HX := Lib.hid (show decide (xs.map Vx.say = ys.map Vx.say) = true from decide_eq_true (list_ext_upto (by simp; omega) (fun j hj => AL.out j (by simp at hj; omega))))
    go_wp2_with fail
    go_ret
    exact ⟨ret_bool HX.out.symm, hbel⟩
 ·
  have hni : ¬ (xs.length : Int) = (ys.length : Int) := by omega
  have hnb : ((xs.length : Int) == (ys.length : Int)) = false := by simp; omega
  have HX := Lib.hid (show decide (xs.map Vx.say = ys.map Vx.say) = false from decide_eq_false fun h => hne (by have := congrArg List.length h; simpa using this))
  go_enter Try.func30, Try.ntmps30
  go_wp2_with fail
  go_ret
  exact ⟨ret_bool HX.out.symm, Below.refl _ _⟩
end Go.Proofs.Ytgdhieffjflejaa

/-! MsgSame -/
namespace Go.Proofs.Ytgdhieffjflejaa
open Go.RowKit Go.Joins
attribute [local go_sem ↓] eql_rq

set_option maxRecDepth 100000 in
set_option maxHeartbeats 1000000 in
theorem MsgSame_c (va vb : Value) (m m' : Mg) (w : World) (ha : IsMg w va m) (hb : IsMg w vb m') :
  Calls Try.prog 10 #[va, vb] w fun e w' => e = .returned (.bool (decide (m.say = m'.say))) ∧ Below w.heap.size w w' := by
 obtain ⟨k, f, v, s, r, vc, vv, cl, vs⟩ := m
 obtain ⟨k', f', v', s', r', vc', vv', cl', vs'⟩ := m'
 obtain ⟨rfl, hc, hv⟩ := ha
 obtain ⟨rfl, hc', hv'⟩ := hb
 simp only at hc hc' hv hv'
 have SC := Lib.hid hc
 have SV := Lib.hid hv
 have SC' := Lib.hid hc'
 have SV' := Lib.hid hv'
 obtain ⟨ac, cc, rfl, -⟩ := hc
 obtain ⟨⟨av, cv, rfl, -⟩, -⟩ := hv
 obtain ⟨ac', cc', rfl, -⟩ := hc'
 obtain ⟨⟨av', cv', rfl, -⟩, -⟩ := hv'
 simp only [Mg.cs]
 by_cases hk : k = k'
 rotate_left
 ·
  have HX := Lib.hid (show decide (Mg.say ⟨k, f, v, s, r, .slice ac cl.length cc, .slice av vs.length cv, cl, vs⟩ = Mg.say ⟨k', f', v', s', r', .slice ac' cl'.length cc', .slice av' vs'.length cv', cl', vs'⟩) = false from decide_eq_false (by simp [Mg.say, hk]))
  have e1 : (k == k') = false := by simpa using hk
  go_enter Try.func10, Try.ntmps10
  go_wp2_with fail
  go_ret
  exact ⟨ret_bool HX.out.symm, (by repeat' (first | with_reducible exact Below.refl _ _ | with_reducible assumption | with_reducible refine Below.alloc ?_ ?_ _ | with_reducible refine Below.drew ?_ | with_reducible refine Below.setCell ?_ ?_ _ | omega | (simp; omega) | (simp; done)))⟩
 subst hk
 by_cases hf : f = f'
 rotate_left
 ·
  have HX := Lib.hid (show decide (Mg.say ⟨k, f, v, s, r, .slice ac cl.length cc, .slice av vs.length cv, cl, vs⟩ = Mg.say ⟨k, f', v', s', r', .slice ac' cl'.length cc', .slice av' vs'.length cv', cl', vs'⟩) = false from decide_eq_false (by simp [Mg.say, hf]))
  have e1 : (f == f') = false := by simpa using hf
  go_enter Try.func10, Try.ntmps10
  go_wp2_with fail
  go_ret
  exact ⟨ret_bool HX.out.symm, (by repeat' (first | with_reducible exact Below.refl _ _ | with_reducible assumption | with_reducible refine Below.alloc ?_ ?_ _ | with_reducible refine Below.drew ?_ | with_reducible refine Below.setCell ?_ ?_ _ | omega | (simp; omega) | (simp; done)))⟩
 subst hf
 by_cases hv : v = v'
 rotate_left
 ·
  have HX := Lib.hid (show decide (Mg.say ⟨k, f, v, s, r, .slice ac cl.length cc, .slice av vs.length cv, cl, vs⟩ = Mg.say ⟨k, f, v', s', r', .slice ac' cl'.length cc', .slice av' vs'.length cv', cl', vs'⟩) = false from decide_eq_false (by simp [Mg.say, hv]))
  have e1 : (v == v') = false := by simpa using hv
  go_enter Try.func10, Try.ntmps10
  go_wp2_with fail
  go_ret
  exact ⟨ret_bool HX.out.symm, (by repeat' (first | with_reducible exact Below.refl _ _ | with_reducible assumption | with_reducible refine Below.alloc ?_ ?_ _ | with_reducible refine Below.drew ?_ | with_reducible refine Below.setCell ?_ ?_ _ | omega | (simp; omega) | (simp; done)))⟩
 subst hv
 by_cases hs : s = s'
 rotate_left
 ·
  have HX := Lib.hid (show decide (Mg.say ⟨k, f, v, s, r, .slice ac cl.length cc, .slice av vs.length cv, cl, vs⟩ = Mg.say ⟨k, f, v, s', r', .slice ac' cl'.length cc', .slice av' vs'.length cv', cl', vs'⟩) = false from decide_eq_false (by simp [Mg.say, hs]))
  have e1 : (s == s') = false := by simpa using hs
  go_enter Try.func10, Try.ntmps10
  go_wp2_with fail
  go_ret
  exact ⟨ret_bool HX.out.symm, (by repeat' (first | with_reducible exact Below.refl _ _ | with_reducible assumption | with_reducible refine Below.alloc ?_ ?_ _ | with_reducible refine Below.drew ?_ | with_reducible refine Below.setCell ?_ ?_ _ | omega | (simp; omega) | (simp; done)))⟩
 subst hs
 by_cases hr : r = r'
 rotate_left
 ·
  have HX := Lib.hid (show decide (Mg.say ⟨k, f, v, s, r, .slice ac cl.length cc, .slice av vs.length cv, cl, vs⟩ = Mg.say ⟨k, f, v, s, r', .slice ac' cl'.length cc', .slice av' vs'.length cv', cl', vs'⟩) = false from decide_eq_false (by simp [Mg.say, hr]))
  have e1 := eqR_ne hr
  go_enter Try.func10, Try.ntmps10
  go_wp2_with fail
  go_ret
  exact ⟨ret_bool HX.out.symm, (by repeat' (first | with_reducible exact Below.refl _ _ | with_reducible assumption | with_reducible refine Below.alloc ?_ ?_ _ | with_reducible refine Below.drew ?_ | with_reducible refine Below.setCell ?_ ?_ _ | omega | (simp; omega) | (simp; done)))⟩
 subst hr
 have e1 := eqR_refl r.c r.n r.o r.x r.y
 go_enter Try.func10, Try.ntmps10
 go_wp2_with fail
 obtain ⟨W, hW, sW, aW, bW, kW⟩ := blocks2 w (.cells #[.int .i64 k, .int .i64 f, .int .i64 v, .int .i64 s, .int .i64 r.c, .int .i64 r.n, .int .i64 r.o, .int .i64 r.x, .int .i64 r.y, .slice ac cl.length cc, .slice av vs.length cv] 34) (.cells #[.int .i64 k, .int .i64 f, .int .i64 v, .int .i64 s, .int .i64 r.c, .int .i64 r.n, .int .i64 r.o, .int .i64 r.x, .int .i64 r.y, .slice ac' cl'.length cc', .slice av' vs'.length cv'] 34)
 rw [← hW]
 clear hW
 refine (slEqualCl_c _ _ cl cl' W (SC.out.below kW) (SC'.out.below kW)).mono ?_
 rintro e w1 ⟨rfl, k1⟩
 have K1 := below_next kW k1
 have a1 := carryB k1 (by omega) aW
 have b1 := carryB k1 (by omega) bW
 clear k1 kW aW bW
 have ca := cell_of_block a1
 have cb := cell_of_block b1
 have la := lt_of_block a1
 have lb := lt_of_block b1
 by_cases hcl : cl = cl'
 rotate_left
 ·
  have HX := Lib.hid (show decide (Mg.say ⟨k, f, v, s, r, .slice ac cl.length cc, .slice av vs.length cv, cl, vs⟩ = Mg.say ⟨k, f, v, s, r, .slice ac' cl'.length cc', .slice av' vs'.length cv', cl', vs'⟩) = false from decide_eq_false (by simp [Mg.say, hcl]))
  rw [show decide (cl = cl') = false from decide_eq_false hcl]
  go_wp2_with fail
  go_ret
  exact ⟨ret_bool HX.out.symm, K1⟩
 rw [show decide (cl = cl') = true from decide_eq_true hcl]
 go_wp2_with fail
 refine (slEqualFunc_c _ _ vs vs' w1 (SV.out.below K1) (SV'.out.below K1)).mono ?_
 rintro e w2 ⟨rfl, k2⟩
 go_wp2_with fail
 go_ret
 exact ⟨ret_bool (by simp [Mg.say, hcl]), below_next K1 k2⟩

end Go.Proofs.Ytgdhieffjflejaa

/-! HasI -/
namespace Go.Proofs.Ytgdhieffjflejaa
open Go.RowKit Go.Joins

set_option maxRecDepth 100000 in
set_option maxHeartbeats 1000000 in
theorem saidFn_c (va : Value) (x m : Mg) (B : Nat) (w : World) (ha : IsMg w va x) (am bm : Option Addr) (cm dm : Nat) (hb : w.heap[B]? = some (.cells #[.int .i64 m.k, .int .i64 m.f, .int .i64 m.v, .int .i64 m.s, .int .i64 m.r.c, .int .i64 m.r.n, .int .i64 m.r.o, .int .i64 m.r.x, .int .i64 m.r.y, .slice am m.cl.length cm, .slice bm m.vs.length dm] 34 (0, 0)))
  (hm : IsMg w (.agg #[.int .i64 m.k, .int .i64 m.f, .int .i64 m.v, .int .i64 m.s, .int .i64 m.r.c, .int .i64 m.r.n, .int .i64 m.r.o, .int .i64 m.r.x, .int .i64 m.r.y, .slice am m.cl.length cm, .slice bm m.vs.length dm]) m) :
  Calls Try.prog 37 #[va, .pointer (some ⟨B, 0, none⟩)] w fun e w' => e = .returned (.bool (decide (x.say = m.say))) ∧ Below w.heap.size w w' := by
 have HX := Lib.hid ha
 have HM := Lib.hid hm
 obtain ⟨rfl, ⟨ax, cx, ex, -⟩, ⟨bx, dx, fx, -⟩, -⟩ := ha
 simp only [Mg.cs, ex, fx] at HX ⊢
 clear ex fx hm
 have hlB := lt_of_block hb
 have h0 := carryB ((Below.refl w.heap.size w).alloc (Nat.le_refl _) (.cells #[.int .i64 x.k, .int .i64 x.f, .int .i64 x.v, .int .i64 x.s, .int .i64 x.r.c, .int .i64 x.r.n, .int .i64 x.r.o, .int .i64 x.r.x, .int .i64 x.r.y, .slice ax x.cl.length cx, .slice bx x.vs.length dx] 34)) hlB hb
 have cB := cell_of_block h0
 go_enter Try.func37, Try.ntmps37
 go_wp2_with fail
 obtain ⟨W, hW, sW, aW, kW⟩ := blocks1 w (.cells #[.int .i64 x.k, .int .i64 x.f, .int .i64 x.v, .int .i64 x.s, .int .i64 x.r.c, .int .i64 x.r.n, .int .i64 x.r.o, .int .i64 x.r.x, .int .i64 x.r.y, .slice ax x.cl.length cx, .slice bx x.vs.length dx] 34)
 rw [← hW]
 clear hW
 refine (MsgSame_c _ _ x m W (HX.out.below kW) (HM.out.below kW)).mono ?_
 rintro e w1 ⟨rfl, k1⟩
 go_wp2_with fail
 go_ret
 exact ⟨rfl, below_next kW k1⟩

set_option maxRecDepth 100000 in
set_option maxHeartbeats 2000000 in
theorem slIndexFunc_c (va : Value) (ms : List Mg) (m : Mg) (B : Nat) (w : World) (ha : IsMs w va ms) (am bm : Option Addr) (cm dm : Nat) (hb : w.heap[B]? = some (.cells #[.int .i64 m.k, .int .i64 m.f, .int .i64 m.v, .int .i64 m.s, .int .i64 m.r.c, .int .i64 m.r.n, .int .i64 m.r.o, .int .i64 m.r.x, .int .i64 m.r.y, .slice am m.cl.length cm, .slice bm m.vs.length dm] 34 (0, 0)))
  (hm : IsMg w (.agg #[.int .i64 m.k, .int .i64 m.f, .int .i64 m.v, .int .i64 m.s, .int .i64 m.r.c, .int .i64 m.r.n, .int .i64 m.r.o, .int .i64 m.r.x, .int .i64 m.r.y, .slice am m.cl.length cm, .slice bm m.vs.length dm]) m) :
  Calls Try.prog 59 #[va, .func (.func 37) #[] #[.pointer (some ⟨B, 0, none⟩)]] w fun e w' => ∃ i : Int, e = .returned (.int .i64 i) ∧ decide (0 ≤ i) = hasM ms m ∧ Below w.heap.size w w' := by
 have HM := Lib.hid hm
 have HB := Lib.hid hb
 clear hm hb
 obtain ⟨⟨a, cap, rfl, hlc, hm, hra⟩, hca⟩ := ha
 have HA := Lib.hid hra
 have CA := Lib.hid hca
 clear hra hca
 unfold maxLen at hm
 generalize hnn : ms.length = n at *
 go_enter Try.func59, Try.ntmps59
 go_wp2_with fail
 go_loopw [8] (fun i wr => ∃ k : Nat, k ≤ n ∧ i = .int .i64 k ∧ (∀ j (hj : j < ms.length), j < k → ms[j].say ≠ m.say) ∧ Below w.heap.size w wr) (fun i _ => n - (intOf i).toNat)
 case atStart => exact ⟨0, Nat.zero_le _, rfl, fun j _ hj => absurd hj (Nat.not_lt_zero j), Below.refl _ _⟩
 case round =>
  obtain ⟨k, hk, rfl, hal, hbel⟩ := hrel
  have AL := Lib.hid hal
  clear hal
  by_cases hlt : k < n
  ·
   have hka : k < ms.length := by omega
   have hk1 : (k : Int) < (n : Int) := by omega
   have hk0 : (0 : Int) ≤ (k : Int) := by omega
   obtain ⟨b0, o0, rfl, hl0, hc0⟩ := mg_at HA.out k hka
   obtain ⟨x0, x1, x2, x3, x4, x5, x6, x7, x8, x9, x10⟩ := hc0 wr hbel
   have SX := (CA.out ms[k] (List.getElem_mem hka)).below hbel
   have HY := Lib.hid (show ms[k].say = m.say → hasM ms m = true from hasM_yes k hka)
   have HN := Lib.hid (show ms[k].say ≠ m.say → ∀ j (hj : j < ms.length), j < k + 1 → ms[j].say ≠ m.say from fun h j hj hjk => by
    by_cases hj' : j < k
    ·
     exact AL.out j hj hj'
    ·
     obtain rfl : j = k := by omega
     exact h)
   clear hc0
   generalize ms[k] = x at *
   have HX := Lib.hid (show IsMg wr (.agg x.cs.toArray) x from ⟨rfl, SX⟩)
   obtain ⟨⟨ax, cx, ex, -⟩, ⟨bx, dx, fx, -⟩, -⟩ := SX
   rw [ex] at x9
   rw [fx] at x10
   simp only [Mg.cs, ex, fx] at HX
   clear ex fx
   have hBr := carryB hbel (lt_of_block HB.out) HB.out
   go_wp2_with fail
   refine (saidFn_c _ x m B wr HX.out am bm cm dm hBr (HM.out.below hbel)).mono ?_
   rintro e w1 ⟨rfl, k1⟩
   have hbel1 := below_next hbel k1
   clear x0 x1 x2 x3 x4 x5 x6 x7 x8 x9 x10 k1 hBr hbel
   by_cases hS : x.say = m.say
   ·
    have HZ := Lib.hid (HY.out hS)
    rw [decide_eq_true hS]
    clear hS HY HN
    go_wp2_with fail
    go_ret
    exact ⟨k, rfl, by rw [HZ.out]; simp, hbel1⟩
   ·
    have HZ := Lib.hid (HN.out hS)
    rw [decide_eq_false hS]
    clear hS HY HN
    go_wp2_with fail
    refine ⟨⟨k + 1, by omega, by go_num, HZ.out, hbel1⟩, ?_⟩
    simp [intOf]; omega
  ·
   have HX := Lib.hid (hasM_no (ms := ms) (m := m) fun j hj => AL.out j hj (by omega))
   go_wp2_with fail
   go_ret
   exact ⟨-1, rfl, by rw [HX.out]; simp, hbel⟩

set_option maxRecDepth 100000 in
set_option maxHeartbeats 1000000 in
theorem slContainsFunc_c (va : Value) (ms : List Mg) (m : Mg) (B : Nat) (w : World) (ha : IsMs w va ms) (am bm : Option Addr) (cm dm : Nat) (hb : w.heap[B]? = some (.cells #[.int .i64 m.k, .int .i64 m.f, .int .i64 m.v, .int .i64 m.s, .int .i64 m.r.c, .int .i64 m.r.n, .int .i64 m.r.o, .int .i64 m.r.x, .int .i64 m.r.y, .slice am m.cl.length cm, .slice bm m.vs.length dm] 34 (0, 0)))
  (hm : IsMg w (.agg #[.int .i64 m.k, .int .i64 m.f, .int .i64 m.v, .int .i64 m.s, .int .i64 m.r.c, .int .i64 m.r.n, .int .i64 m.r.o, .int .i64 m.r.x, .int .i64 m.r.y, .slice am m.cl.length cm, .slice bm m.vs.length dm]) m) :
  Calls Try.prog 36 #[va, .func (.func 37) #[] #[.pointer (some ⟨B, 0, none⟩)]] w fun e w' => e = .returned (.bool (hasM ms m)) ∧ Below w.heap.size w w' := by
 have HM := Lib.hid hm
 have HB := Lib.hid hb
 have HA := Lib.hid ha
 clear hm hb
 obtain ⟨⟨a, cap, rfl, -⟩, -⟩ := ha
 go_enter Try.func36, Try.ntmps36
 go_wp2_with fail
 refine (slIndexFunc_c _ ms m B _ HA.out am bm cm dm HB.out HM.out).mono ?_
 rintro e w1 ⟨i, rfl, hi, k1⟩
 have HI := Lib.hid hi
 clear hi
 go_wp2_with fail
 go_ret
 exact ⟨ret_bool (by rw [← HI.out]), k1⟩

set_option maxRecDepth 100000 in
set_option maxHeartbeats 1000000 in
theorem SaidHas_c (va vb : Value) (ms : List Mg) (m : Mg) (w : World) (ha : IsMs w va ms) (hb : IsMg w vb m) :
  Calls Try.prog 15 #[va, vb] w fun e w' => e = .returned (.bool (hasM ms m)) ∧ Below w.heap.size w w' := by
 have HA := Lib.hid ha
 have HM := Lib.hid hb
 obtain ⟨⟨a, cap, rfl, -⟩, -⟩ := ha
 obtain ⟨rfl, ⟨am, cm, em, -⟩, ⟨bm, dm, fm, -⟩, -⟩ := hb
 simp only [Mg.cs, em, fm] at HM ⊢
 clear em fm
 go_enter Try.func15, Try.ntmps15
 go_wp2_with fail
 obtain ⟨W, hW, sW, aW, kW⟩ := blocks1 w (.cells #[.int .i64 m.k, .int .i64 m.f, .int .i64 m.v, .int .i64 m.s, .int .i64 m.r.c, .int .i64 m.r.n, .int .i64 m.r.o, .int .i64 m.r.x, .int .i64 m.r.y, .slice am m.cl.length cm, .slice bm m.vs.length dm] 34)
 rw [← hW]
 clear hW
 refine (slContainsFunc_c _ ms m w.heap.size W (HA.out.below kW) am bm cm dm aW (HM.out.below kW)).mono ?_
 rintro e w1 ⟨rfl, k1⟩
 go_wp2_with fail
 go_ret
 exact ⟨rfl, below_next kW k1⟩
end Go.Proofs.Ytgdhieffjflejaa

/-! FnSaidHasW -/
namespace Go.Proofs.Ytgdhieffjflejaa.fnSaidHas
open Go.RowKit Go.Joins

/-- As step_append_elm, for an operation that is guarded and wanted. -/
theorem step_append_elmG {α : Type} {w : World} {B : Nat} {e k cap : Nat} {a : Option Addr} {R : α → List Value} {zs : List α} {P : Program} {ops : Array Oper} {o : Oper} {ac : Act} {K : Act → World → Prop} {Q : Exit → Act → World → Prop} {E : Prop} (hw : Region.wanted o (yielded ops ac.tmps) = true) (s x : Operand) {t : TypeId}
  (ho : o.op = .call { callee := .builtin .append, args := #[s, x], argTypes := #[t, t] }) {bytes n m : Nat} (N : Nat) (el : Elm P t e k bytes R) {ys : List α} {ay : Option Addr} {cy : Nat} (hs : ac.eval s = .slice a n cap) (hx : ac.eval x = .slice ay m cy)
  (hrow : Row w B e a cap k R zs) (h1' : ∀ z ∈ ys, ∀ u ∈ R z, u.oneCell' = true) (hys : RowsAt w ay k R ys) (hn : zs.length = n) (hm : ys.length = m) (hN : n + m = N) (h63 : N ≤ maxLen) (hbytes : N * bytes ≤ 140737488355328) (hB : B ≤ w.heap.size)
  (h : ∀ a' cap' w', Appended w w' B e a a' cap cap' k R (zs ++ ys) → K (ac.put o.dst (.slice a' N cap')) w') :
  if Region.wanted o (yielded ops ac.tmps) = true then Oper.wp P o ac w K Q else E := by
 rw [if_pos hw]
 obtain ⟨a', cap', w', hrun, q⟩ := run_append_elm (ty := o.type) (cy := cy) el hrow h1' hys hn hm hN h63 hbytes hB
 unfold Oper.wp
 simp [execOp, ho, resolve, invoke, builtin, hs, hx, hrun, Result.andThen]
 exact h a' cap' w' q
theorem has_mid (xs ys : List Mg) (m : Mg) : hasM (xs ++ [m] ++ ys) m = true := by
 unfold hasM
 simp
theorem Mg.ok.below2 {w w' : World} {m : Mg} (h : m.ok w) (b : Below w.heap.size w w') : m.ok w' := Mg.ok.below h b
theorem has_nil (m : Mg) : hasM [] m = false := rfl
theorem any_succ (sd : List Mg) (m : Mg) (j : Nat) (h : j < sd.length) : hasM (sd.take (j + 1)) m = (hasM (sd.take j) m || decide (sd[j].say = m.say)) := by
 unfold hasM
 rw [List.take_succ_eq_append_getElem h, List.any_append]
 simp
theorem ok_takes {w : World} {sd : List Mg} (h : ∀ m ∈ sd, m.ok w) (k : Nat) : ∀ m ∈ sd.take k, m.ok w := fun m hm => h m (List.mem_of_mem_take hm)
theorem ok_drops {w : World} {sd : List Mg} (h : ∀ m ∈ sd, m.ok w) (k : Nat) : ∀ m ∈ sd.drop k, m.ok w := fun m hm => h m (List.mem_of_mem_drop hm)

set_option maxRecDepth 100000 in
set_option maxHeartbeats 16000000 in
theorem walk (v0 : Value) (z0 : Bts) (v1 : Value) (z1 : Bts) (w : World) (h0 : IsBytes w v0 z0) (h1 : IsBytes w v1 z1) :
  Calls Try.prog 5 #[v0, v1] w fun e w' => e = .returned (.bool true) ∧ Below w.heap.size w w' := by
 obtain ⟨a0, n0, c0⟩ := z0
 obtain ⟨a1, n1, c1⟩ := z1
 have HZ := Lib.hid h0
 obtain ⟨hv0, hlc0, hm0, -⟩ := h0
 obtain ⟨hv1, hlc1, hm1, -⟩ := h1
 simp only at hv0 hlc0 hm0 hv1 hlc1 hm1
 subst hv0 hv1
 unfold maxLen at hm0 hm1
 obtain ⟨q1, hq1⟩ : ∃ q, decide ((1048576 : Int) < (n0 : Int)) = q := ⟨_, rfl⟩
 obtain ⟨q2, hq2⟩ : ∃ q, decide ((1048576 : Int) < (n1 : Int)) = q := ⟨_, rfl⟩
 go_enter Try.func5, Try.ntmps5
 cases q1 with
 | true =>
  go_wp2_with fail
  go_ret
  exact ⟨rfl, Below.refl _ _⟩
 | false =>
  cases q2 with
  | true =>
   go_wp2_with fail
   go_ret
   exact ⟨rfl, Below.refl _ _⟩
  | false =>
   have hn1 : ¬ ((1048576 : Int) < (n1 : Int)) := of_decide_eq_false hq2
   go_wp2_with fail
   refine (DrawSaidHas_c _ _ w HZ.out).mono ?_
   rintro e w1 ⟨a, c, sd, m, am, bm, cm, dm, rfl, hsd, hsl, hv1, hv2, hmo, k1⟩
   have SD := Lib.hid hsd
   have MV := Lib.hid (And.intro hv1 hv2)
   have MO := Lib.hid hmo
   obtain ⟨-, hlc, hmx, hrt⟩ := hsd.1.bounds
   unfold maxLen at hmx
   have HT := Lib.hid hrt
   clear hsd hv1 hv2 hmo hrt HZ hq1 hq2
   go_upto_region 4 with fail
   obtain ⟨W, hW_, sW, x, kW⟩ := blocks1 w1 (.cells #[.int .i64 m.k, .int .i64 m.f, .int .i64 m.v, .int .i64 m.s, .int .i64 m.r.c, .int .i64 m.r.n, .int .i64 m.r.o, .int .i64 m.r.x, .int .i64 m.r.y, .slice am m.cl.length cm, .slice bm m.vs.length dm] 34)
   rw [← hW_]
   clear hW_
   have hsW : w1.heap.size < W.heap.size := by omega
   replace SD := Lib.hid (SD.out.below kW)
   replace MO := Lib.hid (Mg.ok.below MO.out kW)
   replace HT := Lib.hid (HT.out.below kW)
   have K := below_next k1 kW
   have hw1 : w.heap.size ≤ w1.heap.size := k1.size
   clear k1 kW sW
   generalize w1.heap.size = g at *
   obtain ⟨hb, HB⟩ : ∃ b, hasM sd m = b := ⟨_, rfl⟩
   have cx := cell_of_block x
   have fx := unfrozen_of_block x
   have lx := lt_of_block x
   go_wp2_with fail
   refine (SaidHas_c _ _ sd m W SD.out (isMg_sl MV.out.1 MV.out.2 MO.out)).mono ?_
   rintro e w2 ⟨rfl, k2⟩
   rw [HB]
   clear cx fx lx
   have lx_ := lt_of_block x
   replace x := carryB k2 lx_ x
   replace SD := Lib.hid (SD.out.below k2)
   replace MO := Lib.hid (Mg.ok.below MO.out k2)
   replace HT := Lib.hid (HT.out.below k2)
   replace K := below_next K k2
   replace hsW := Nat.lt_of_lt_of_le hsW k2.size
   clear k2 lx_
   have cx := cell_of_block x
   have fx := unfrozen_of_block x
   have lx := lt_of_block x
   go_wp2_with fail
   refine (sSaidHas_c _ _ sd m w2 SD.out (isMg_sl MV.out.1 MV.out.2 MO.out)).mono ?_
   rintro e w3 ⟨rfl, k2⟩
   rw [HB]
   have HBH := Lib.hid HB
   clear cx fx lx
   clear HB
   have lx_ := lt_of_block x
   replace x := carryB k2 lx_ x
   replace SD := Lib.hid (SD.out.below k2)
   replace MO := Lib.hid (Mg.ok.below MO.out k2)
   replace HT := Lib.hid (HT.out.below k2)
   replace K := below_next K k2
   replace hsW := Nat.lt_of_lt_of_le hsW k2.size
   clear k2 lx_
   have hbb : (hb != hb) = false := by simp
   have hkt : (n1 : Int).tmod ((sd.length : Int) + 1) = ((n1 % (sd.length + 1) : Nat) : Int) := by
    rw [Int.tmod_eq_emod_of_nonneg (by omega)]
    rw [show ((sd.length : Int) + 1) = ((sd.length + 1 : Nat) : Int) by omega, ← Int.natCast_emod]
   have hkl : n1 % (sd.length + 1) ≤ sd.length := by have := Nat.mod_lt n1 (show 0 < sd.length + 1 by omega); omega
   obtain ⟨k, hk⟩ : ∃ k, n1 % (sd.length + 1) = k := ⟨_, rfl⟩
   rw [hk] at hkt hkl
   have hs1 : (1 : Int) ≤ (sd.length : Int) + 1 := by omega
   clear hk
   go_upto_region 8 with fail
   clear hkt hs1 hbb hn1
   have hk0 : (0 : Int) ≤ (k : Int) := by omega
   have hkc : (k : Int) ≤ (c : Int) := by omega
   have hks : (k : Int) ≤ (sd.length : Int) := by omega
   have hkc2 : k ≤ c := by omega
   have hlt : (sd.take k).length = k := by rw [List.length_take]; omega
   go_cut [9] (fun s9 wx => ∃ (a2 : Option Addr) (c2 : Nat), s9 = .slice a2 (k + 1) c2 ∧ Row wx w3.heap.size 34 a2 c2 11 Mg.cs (sd.take k ++ [m]) ∧ Below w3.heap.size w3 wx)
   case first =>
    have hBW := Nat.le_refl w3.heap.size
    have cx := cell_of_block x
    have fx := unfrozen_of_block x
    have lx := lt_of_block x
    refine wp_region_L (fun w' => ((∀ b o, b < w3.heap.size → (w').cell? ⟨b, o, none⟩ = (w3).cell? ⟨b, o, none⟩) ∧ Below (w3.heap.size) (w3) (w'))) [] (by kernel_rfl) ?_
    obtain ⟨w3_0, hw_, kw_⟩ : ∃ wd, wd = w3.drew ∧ Below w3.heap.size w3 wd := ⟨_, rfl, Below.drew (Below.refl _ _)⟩
    rw [← hw_]
    clear hw_
    have hS := KeptB.of (kw_.mono hBW)
    replace HT := Lib.hid (HT.out.below kw_)
    clear kw_
    refine wpAnyL_take (i := 1) (oi := _) (v := ?_) (by (simp only [List.getElem?_toArray]; rfl)) (by kernel_rfl) (by kernel_rfl) (by kernel_rfl) (by kernel_rfl) (by exact fun _ _ _ h => h) (Or.inl ⟨by rfl, ?_⟩) (by assumption) ?_
    rotate_left
    ·
     intro wS hSw
     go_simp
     all_goals first | with_reducible rfl | rw [if_neg (by omega)]
    simp only [Act.put, List.setIfInBounds_toArray, List.set]
    refine wpAnyL_take (i := 2) (oi := _) (v := ?_) (by (simp only [List.getElem?_toArray]; rfl)) (by kernel_rfl) (by kernel_rfl) (by kernel_rfl) (by kernel_rfl) (by exact fun _ _ _ h => h) (Or.inl ⟨by rfl, ?_⟩) (by assumption) ?_
    rotate_left
    ·
     intro wS hSw
     go_simp
     all_goals first | with_reducible rfl | rw [if_neg (by omega)]
    simp only [Act.put, List.setIfInBounds_toArray, List.set]
    refine wpAnyL_take (i := 3) (oi := _) (v := ?_) (by (simp only [List.getElem?_toArray]; rfl)) (by kernel_rfl) (by kernel_rfl) (by kernel_rfl) (by kernel_rfl) (by exact fun _ _ _ h => h) (Or.inl ⟨by rfl, ?_⟩) (by assumption) ?_
    rotate_left
    ·
     intro wS hSw
     go_simp
     all_goals first | with_reducible rfl | rw [if_neg (by omega)]
    simp only [Act.put, List.setIfInBounds_toArray, List.set]
    refine wpAnyL_take (i := 5) (oi := _) (v := ?_) (by (simp only [List.getElem?_toArray]; rfl)) (by kernel_rfl) (by kernel_rfl) (by kernel_rfl) (by kernel_rfl) (by exact fun _ _ _ h => h) (Or.inl ⟨by rfl, ?_⟩) (by assumption) ?_
    rotate_left
    ·
     intro wS hSw
     go_simp
     all_goals first | with_reducible rfl | rw [if_neg (by omega)]
    simp only [Act.put, List.setIfInBounds_toArray, List.set]
    refine wpAnyL_ready (rs := [0, 6]) (by kernel_rfl) (by simp) ?_
    refine AllReadyL.cons (o := _) (by (simp only [List.getElem?_toArray]; rfl)) (fun K hK => ?_) ?_
    ·
     skip
     refine step_build0M (by rfl) (by rfl) elmMg ?_
     obtain ⟨w3_1, hw_, kw_⟩ : ∃ V, V = w3_0.alloc (.cells #[] 34) ∧ Below w3_0.heap.size w3_0 V := ⟨_, rfl, (Below.refl _ _).alloc (Nat.le_refl _) _⟩
     rw [← hw_]
     clear hw_
     have hRK : Below w3.heap.size w3 w3_1 := hS.2.trans (kw_.mono (Nat.le_trans hBW hS.2.size))
     clear hS
     have hS := KeptB.of hRK
     clear hRK
     replace HT := Lib.hid (HT.out.below kw_)
     clear kw_
     refine hK.out _ _ (fun _ => hS) ?_
     clear hK K
     try simp only [Act.put, List.setIfInBounds_toArray, List.set]
     refine wpAnyL_ready (rs := [4, 6]) (by kernel_rfl) (by simp) ?_
     refine AllReadyL.cons (o := _) (by (simp only [List.getElem?_toArray]; rfl)) (fun K hK => ?_) ?_
     ·
      skip
      refine step_append_newM w3_1.heap.size (by rfl) (.tmp 39) (.tmp 42) (by rfl) elmMg (by rfl) (by rfl) (fun z hz => mg_one (w := w3) (SD.out.2 z (List.mem_of_mem_take hz))) ((HT.out.takeW k)) hlt (by simp only [maxLen]; omega) (by omega) (Nat.le_refl _) ?_
      intro a2 c2 w3_2 q_
      have hq_ : w3.heap.size ≤ w3_1.heap.size := Nat.le_trans hBW hS.2.size
      have kw_ := q_.below
      have hRK : Below w3.heap.size w3 w3_2 := hS.2.trans (kw_.mono (Nat.le_trans hBW hS.2.size))
      clear hS
      have hS := KeptB.of hRK
      clear hRK
      replace HT := Lib.hid (HT.out.below kw_)
      clear kw_
      have RT := Lib.hid (q_.row.low hq_)
      clear q_ hq_
      refine hK.out _ _ (fun _ => hS) ?_
      clear hK K
      try simp only [Act.put, List.setIfInBounds_toArray, List.set]
      refine wpAnyL_ready (rs := [6]) (by kernel_rfl) (by simp) ?_
      refine AllReadyL.cons (o := _) (by (simp only [List.getElem?_toArray]; rfl)) (fun K hK => ?_) AllReadyL.nil
      go_simp
      obtain ⟨w3_3, hw_, sw_, hv_, kw_⟩ := blocks1 w3_2 (.cells #[.int .i64 m.k, .int .i64 m.f, .int .i64 m.v, .int .i64 m.s, .int .i64 m.r.c, .int .i64 m.r.n, .int .i64 m.r.o, .int .i64 m.r.x, .int .i64 m.r.y, .slice am m.cl.length cm, .slice bm m.vs.length dm] 34)
      rw [← hw_]
      clear hw_ sw_
      have hRK : Below w3.heap.size w3 w3_3 := hS.2.trans (kw_.mono (Nat.le_trans hBW hS.2.size))
      clear hS
      have hS := KeptB.of hRK
      clear hRK
      replace HT := Lib.hid (HT.out.below kw_)
      replace RT := Lib.hid (RT.out.below kw_)
      clear kw_
      have RV := Lib.hid (show RowsAt w3_3 (some ⟨w3_2.heap.size, 0, none⟩) 11 Mg.cs [m] from rows_of_block (R := Mg.cs) (zs := [m]) eleven_len (by rw [flat_m MV.out.1 MV.out.2]; exact hv_))
      clear hv_
      refine hK.out _ _ (fun _ => hS) ?_
      clear hK K
      try simp only [Act.put, List.setIfInBounds_toArray, List.set]
      refine wpAnyL_ready (rs := [7]) (by kernel_rfl) (by simp) ?_
      refine AllReadyL.cons (o := _) (by (simp only [List.getElem?_toArray]; rfl)) (fun K hK => ?_) AllReadyL.nil
      refine step_append_elm (by rfl) (.tmp 43) (.tmp 45) (by rfl) (k + 1) elmMg (by rfl) (by rfl) RT.out (fun z hz => by rw [List.mem_singleton.1 hz]; exact mg_one (Mg.ok.below MO.out hS.2)) RV.out hlt (by rfl) (by rfl) (by simp only [maxLen]; omega) (by omega) (Nat.le_trans hBW hS.2.size) ?_
      intro a3 c3 w3_4 q_
      have hrb_ : ∀ g, rowBlk _ _ = some g → w3.heap.size ≤ g := fun g hg => (RT.out.blk hg).1
      have hRK : Below w3.heap.size w3 w3_4 := hS.2.trans (q_.below (B' := w3.heap.size) (Nat.le_trans hBW hS.2.size) hrb_)
      clear hS
      have hS := KeptB.of hRK
      clear hRK
      have RT2 := Lib.hid (q_.row)
      have KQ9 := Lib.hid hS.2
      clear q_ hrb_
      refine hK.out _ _ (fun _ => hS) ?_
      clear hK K
      try simp only [Act.put, List.setIfInBounds_toArray, List.set]
      refine wpAnyL_take (i := 8) (oi := _) (v := ?_) (by (simp only [List.getElem?_toArray]; rfl)) (by kernel_rfl) (by kernel_rfl) (by kernel_rfl) (by kernel_rfl) (by exact fun _ _ _ h => h) (Or.inl ⟨by rfl, ?_⟩) (by assumption) ?_
      rotate_left
      ·
       intro wS hSw
       go_simp
       all_goals first | with_reducible rfl | rw [if_neg (by omega)]
      simp only [Act.put, List.setIfInBounds_toArray, List.set]
      refine wpAnyL_done (by kernel_rfl) ?_ _
      clear hS
      clear cx fx lx
      go_wp2_with fail
      go_meet
      exact ⟨a3, c3, rfl, RT2.out, KQ9.out⟩
     refine AllReadyL.cons (o := _) (by (simp only [List.getElem?_toArray]; rfl)) (fun K hK => ?_) ?_
     ·
      skip
      go_simp
      obtain ⟨w3_2, hw_, sw_, hv_, kw_⟩ := blocks1 w3_1 (.cells #[.int .i64 m.k, .int .i64 m.f, .int .i64 m.v, .int .i64 m.s, .int .i64 m.r.c, .int .i64 m.r.n, .int .i64 m.r.o, .int .i64 m.r.x, .int .i64 m.r.y, .slice am m.cl.length cm, .slice bm m.vs.length dm] 34)
      rw [← hw_]
      clear hw_ sw_
      have hRK : Below w3.heap.size w3 w3_2 := hS.2.trans (kw_.mono (Nat.le_trans hBW hS.2.size))
      clear hS
      have hS := KeptB.of hRK
      clear hRK
      replace HT := Lib.hid (HT.out.below kw_)
      clear kw_
      have RV := Lib.hid (show RowsAt w3_2 (some ⟨w3_1.heap.size, 0, none⟩) 11 Mg.cs [m] from rows_of_block (R := Mg.cs) (zs := [m]) eleven_len (by rw [flat_m MV.out.1 MV.out.2]; exact hv_))
      clear hv_
      refine hK.out _ _ (fun _ => hS) ?_
      clear hK K
      try simp only [Act.put, List.setIfInBounds_toArray, List.set]
      refine wpAnyL_ready (rs := [4]) (by kernel_rfl) (by simp) ?_
      refine AllReadyL.cons (o := _) (by (simp only [List.getElem?_toArray]; rfl)) (fun K hK => ?_) AllReadyL.nil
      refine step_append_newM w3_2.heap.size (by rfl) (.tmp 39) (.tmp 42) (by rfl) elmMg (by rfl) (by rfl) (fun z hz => mg_one (w := w3) (SD.out.2 z (List.mem_of_mem_take hz))) ((HT.out.takeW k)) hlt (by simp only [maxLen]; omega) (by omega) (Nat.le_refl _) ?_
      intro a2 c2 w3_3 q_
      have hq_ : w3.heap.size ≤ w3_2.heap.size := Nat.le_trans hBW hS.2.size
      have kw_ := q_.below
      have hRK : Below w3.heap.size w3 w3_3 := hS.2.trans (kw_.mono (Nat.le_trans hBW hS.2.size))
      clear hS
      have hS := KeptB.of hRK
      clear hRK
      replace HT := Lib.hid (HT.out.below kw_)
      replace RV := Lib.hid (RV.out.below kw_)
      clear kw_
      have RT := Lib.hid (q_.row.low hq_)
      clear q_ hq_
      refine hK.out _ _ (fun _ => hS) ?_
      clear hK K
      try simp only [Act.put, List.setIfInBounds_toArray, List.set]
      refine wpAnyL_ready (rs := [7]) (by kernel_rfl) (by simp) ?_
      refine AllReadyL.cons (o := _) (by (simp only [List.getElem?_toArray]; rfl)) (fun K hK => ?_) AllReadyL.nil
      refine step_append_elm (by rfl) (.tmp 43) (.tmp 45) (by rfl) (k + 1) elmMg (by rfl) (by rfl) RT.out (fun z hz => by rw [List.mem_singleton.1 hz]; exact mg_one (Mg.ok.below MO.out hS.2)) RV.out hlt (by rfl) (by rfl) (by simp only [maxLen]; omega) (by omega) (Nat.le_trans hBW hS.2.size) ?_
      intro a3 c3 w3_4 q_
      have hrb_ : ∀ g, rowBlk _ _ = some g → w3.heap.size ≤ g := fun g hg => (RT.out.blk hg).1
      have hRK : Below w3.heap.size w3 w3_4 := hS.2.trans (q_.below (B' := w3.heap.size) (Nat.le_trans hBW hS.2.size) hrb_)
      clear hS
      have hS := KeptB.of hRK
      clear hRK
      have RT2 := Lib.hid (q_.row)
      have KQ9 := Lib.hid hS.2
      clear q_ hrb_
      refine hK.out _ _ (fun _ => hS) ?_
      clear hK K
      try simp only [Act.put, List.setIfInBounds_toArray, List.set]
      refine wpAnyL_take (i := 8) (oi := _) (v := ?_) (by (simp only [List.getElem?_toArray]; rfl)) (by kernel_rfl) (by kernel_rfl) (by kernel_rfl) (by kernel_rfl) (by exact fun _ _ _ h => h) (Or.inl ⟨by rfl, ?_⟩) (by assumption) ?_
      rotate_left
      ·
       intro wS hSw
       go_simp
       all_goals first | with_reducible rfl | rw [if_neg (by omega)]
      simp only [Act.put, List.setIfInBounds_toArray, List.set]
      refine wpAnyL_done (by kernel_rfl) ?_ _
      clear hS
      clear cx fx lx
      go_wp2_with fail
      go_meet
      exact ⟨a3, c3, rfl, RT2.out, KQ9.out⟩
     exact AllReadyL.nil
    refine AllReadyL.cons (o := _) (by (simp only [List.getElem?_toArray]; rfl)) (fun K hK => ?_) ?_
    ·
     skip
     go_simp
     obtain ⟨w3_1, hw_, sw_, hv_, kw_⟩ := blocks1 w3_0 (.cells #[.int .i64 m.k, .int .i64 m.f, .int .i64 m.v, .int .i64 m.s, .int .i64 m.r.c, .int .i64 m.r.n, .int .i64 m.r.o, .int .i64 m.r.x, .int .i64 m.r.y, .slice am m.cl.length cm, .slice bm m.vs.length dm] 34)
     rw [← hw_]
     clear hw_ sw_
     have hRK : Below w3.heap.size w3 w3_1 := hS.2.trans (kw_.mono (Nat.le_trans hBW hS.2.size))
     clear hS
     have hS := KeptB.of hRK
     clear hRK
     replace HT := Lib.hid (HT.out.below kw_)
     clear kw_
     have RV := Lib.hid (show RowsAt w3_1 (some ⟨w3_0.heap.size, 0, none⟩) 11 Mg.cs [m] from rows_of_block (R := Mg.cs) (zs := [m]) eleven_len (by rw [flat_m MV.out.1 MV.out.2]; exact hv_))
     clear hv_
     refine hK.out _ _ (fun _ => hS) ?_
     clear hK K
     try simp only [Act.put, List.setIfInBounds_toArray, List.set]
     refine wpAnyL_ready (rs := [0]) (by kernel_rfl) (by simp) ?_
     refine AllReadyL.cons (o := _) (by (simp only [List.getElem?_toArray]; rfl)) (fun K hK => ?_) AllReadyL.nil
     refine step_build0M (by rfl) (by rfl) elmMg ?_
     obtain ⟨w3_2, hw_, kw_⟩ : ∃ V, V = w3_1.alloc (.cells #[] 34) ∧ Below w3_1.heap.size w3_1 V := ⟨_, rfl, (Below.refl _ _).alloc (Nat.le_refl _) _⟩
     rw [← hw_]
     clear hw_
     have hRK : Below w3.heap.size w3 w3_2 := hS.2.trans (kw_.mono (Nat.le_trans hBW hS.2.size))
     clear hS
     have hS := KeptB.of hRK
     clear hRK
     replace HT := Lib.hid (HT.out.below kw_)
     replace RV := Lib.hid (RV.out.below kw_)
     clear kw_
     refine hK.out _ _ (fun _ => hS) ?_
     clear hK K
     try simp only [Act.put, List.setIfInBounds_toArray, List.set]
     refine wpAnyL_ready (rs := [4]) (by kernel_rfl) (by simp) ?_
     refine AllReadyL.cons (o := _) (by (simp only [List.getElem?_toArray]; rfl)) (fun K hK => ?_) AllReadyL.nil
     refine step_append_newM w3_2.heap.size (by rfl) (.tmp 39) (.tmp 42) (by rfl) elmMg (by rfl) (by rfl) (fun z hz => mg_one (w := w3) (SD.out.2 z (List.mem_of_mem_take hz))) ((HT.out.takeW k)) hlt (by simp only [maxLen]; omega) (by omega) (Nat.le_refl _) ?_
     intro a2 c2 w3_3 q_
     have hq_ : w3.heap.size ≤ w3_2.heap.size := Nat.le_trans hBW hS.2.size
     have kw_ := q_.below
     have hRK : Below w3.heap.size w3 w3_3 := hS.2.trans (kw_.mono (Nat.le_trans hBW hS.2.size))
     clear hS
     have hS := KeptB.of hRK
     clear hRK
     replace HT := Lib.hid (HT.out.below kw_)
     replace RV := Lib.hid (RV.out.below kw_)
     clear kw_
     have RT := Lib.hid (q_.row.low hq_)
     clear q_ hq_
     refine hK.out _ _ (fun _ => hS) ?_
     clear hK K
     try simp only [Act.put, List.setIfInBounds_toArray, List.set]
     refine wpAnyL_ready (rs := [7]) (by kernel_rfl) (by simp) ?_
     refine AllReadyL.cons (o := _) (by (simp only [List.getElem?_toArray]; rfl)) (fun K hK => ?_) AllReadyL.nil
     refine step_append_elm (by rfl) (.tmp 43) (.tmp 45) (by rfl) (k + 1) elmMg (by rfl) (by rfl) RT.out (fun z hz => by rw [List.mem_singleton.1 hz]; exact mg_one (Mg.ok.below MO.out hS.2)) RV.out hlt (by rfl) (by rfl) (by simp only [maxLen]; omega) (by omega) (Nat.le_trans hBW hS.2.size) ?_
     intro a3 c3 w3_4 q_
     have hrb_ : ∀ g, rowBlk _ _ = some g → w3.heap.size ≤ g := fun g hg => (RT.out.blk hg).1
     have hRK : Below w3.heap.size w3 w3_4 := hS.2.trans (q_.below (B' := w3.heap.size) (Nat.le_trans hBW hS.2.size) hrb_)
     clear hS
     have hS := KeptB.of hRK
     clear hRK
     have RT2 := Lib.hid (q_.row)
     have KQ9 := Lib.hid hS.2
     clear q_ hrb_
     refine hK.out _ _ (fun _ => hS) ?_
     clear hK K
     try simp only [Act.put, List.setIfInBounds_toArray, List.set]
     refine wpAnyL_take (i := 8) (oi := _) (v := ?_) (by (simp only [List.getElem?_toArray]; rfl)) (by kernel_rfl) (by kernel_rfl) (by kernel_rfl) (by kernel_rfl) (by exact fun _ _ _ h => h) (Or.inl ⟨by rfl, ?_⟩) (by assumption) ?_
     rotate_left
     ·
      intro wS hSw
      go_simp
      all_goals first | with_reducible rfl | rw [if_neg (by omega)]
     simp only [Act.put, List.setIfInBounds_toArray, List.set]
     refine wpAnyL_done (by kernel_rfl) ?_ _
     clear hS
     clear cx fx lx
     go_wp2_with fail
     go_meet
     exact ⟨a3, c3, rfl, RT2.out, KQ9.out⟩
    exact AllReadyL.nil
   case rest =>
    obtain ⟨a2, c2, rfl, hrow, k2⟩ := hcut
    have RT0 := Lib.hid hrow
    have KW0 := Lib.hid k2
    have k2_ := k2
    have lx_ := lt_of_block x
    replace x := carryB k2 lx_ x
    clear k2 lx_
    have hs0 : w3.heap.size ≤ wc.heap.size := k2_.size
    clear hrow k2_
    go_wp2_with fail
    go_loopw [10, 11] (fun st i wr => ∃ (j : Nat) (p : Bool), j ≤ sd.length ∧ i = .int .i64 j ∧ st = .bool p ∧ hasM (sd.take j) m = p ∧ wr.heap[g]? = some (.cells #[.int .i64 m.k, .int .i64 m.f, .int .i64 m.v, .int .i64 m.s, .int .i64 m.r.c, .int .i64 m.r.n, .int .i64 m.r.o, .int .i64 m.r.x, .int .i64 m.r.y, .slice am m.cl.length cm, .slice bm m.vs.length dm] 34 (0, 0)) ∧ Row wr w3.heap.size 34 a2 c2 11 Mg.cs (sd.take k ++ [m]) ∧ w3.heap.size ≤ wr.heap.size ∧ Below w3.heap.size w3 wr) (fun _ i _ => sd.length - (intOf i).toNat)
    case atStart => exact ⟨0, false, Nat.zero_le _, rfl, rfl, rfl, x, RT0.out, hs0, KW0.out⟩
    case round =>
     clear x RT0 hs0 KW0
     obtain ⟨j, p, hj, rfl, rfl, hp, x, hrow, hs, K3⟩ := hrel
     have RT := Lib.hid hrow
     have HP := Lib.hid hp
     clear hrow hp
     by_cases hlt2 : j < sd.length
     ·
      have hj1 : (j : Int) < (sd.length : Int) := by omega
      have hj0 : (0 : Int) ≤ (j : Int) := by omega
      have HS2 := Lib.hid (any_succ sd m j hlt2)
      cases p with
      | true =>
       have HP2 := Lib.hid (show hasM (sd.take (j + 1)) m = true by rw [HS2.out, HP.out]; rfl)
       clear HS2 HP
       have ex := cellRe x
       have cx := cell_of_block x
       have fx := unfrozen_of_block x
       have lx := lt_of_block x
       go_upto_region 13 with fail
       clear cx fx lx
       refine wp_region_quiet_below (by kernel_rfl) (by kernel_rfl) ?_
       repeat (go_big_quiet_step (fail))
       refine wpQuiet_nil ?_
       intro _ hw'
       obtain ⟨⟨dq, osq⟩, hw''⟩ := hw'
       subst hw''
       have kq := below_regrown wr dq osq
       clear ex
       generalize Sort.grow (redrawn wr dq) osq = U at *
       have lx_ := lt_of_block x
       replace x := carryB kq lx_ x
       replace RT := Lib.hid (RT.out.below kq)
       replace K3 := K3.trans (kq.mono hs)
       replace hs := Nat.le_trans hs kq.size
       clear kq lx_
       have cx := cell_of_block x
       have fx := unfrozen_of_block x
       have lx := lt_of_block x
       go_wp2_with fail
       clear cx fx lx
       go_roundw
       case rel => exact ⟨j + 1, true, by omega, by go_num, rfl, HP2.out, x, RT.out, hs, K3⟩
       case measure => simp [intOf]; omega
      | false =>
       obtain ⟨b1, o1, ea, hl1, hd0⟩ := mg_at HT.out j hlt2
       obtain ⟨d0, d1, d2, d3, d4, d5, d6, d7, d8, d9, d10⟩ := hd0 wr K3
       have SV := Lib.hid (Mg.ok.below (SD.out.2 sd[j] (List.getElem_mem hlt2)) K3)
       clear hd0
       generalize sd[j] = v at *
       obtain ⟨pq, hpq⟩ : ∃ q, decide (v.say = m.say) = q := ⟨_, rfl⟩
       have HP2 := Lib.hid (show hasM (sd.take (j + 1)) m = pq by rw [HS2.out, HP.out, ← hpq]; rfl)
       obtain ⟨ax, qx, bx, dx, ex_, fx⟩ := Mg.ok.slices SV.out
       rw [ex_] at d9
       rw [fx] at d10
       have cM := quietC (w := wr) (fun U hU => MsgSame_c (.agg #[.int .i64 v.k, .int .i64 v.f, .int .i64 v.v, .int .i64 v.s, .int .i64 v.r.c, .int .i64 v.r.n, .int .i64 v.r.o, .int .i64 v.r.x, .int .i64 v.r.y, .slice ax v.cl.length qx, .slice bx v.vs.length dx]) (.agg #[.int .i64 m.k, .int .i64 m.f, .int .i64 m.v, .int .i64 m.s, .int .i64 m.r.c, .int .i64 m.r.n, .int .i64 m.r.o, .int .i64 m.r.x, .int .i64 m.r.y, .slice am m.cl.length cm, .slice bm m.vs.length dm]) v m U (isMg_sl ex_ fx (Mg.ok.below SV.out hU)) (isMg_sl MV.out.1 MV.out.2 (Mg.ok.below (Mg.ok.below MO.out K3) hU)))
       rw [hpq] at cM
       clear HS2 HP hpq ex_ fx SV
       subst ea
       have ex := cellRe x
       have e0 := cell_regrown d0
       have e1 := cell_regrown d1
       have e2 := cell_regrown d2
       have e3 := cell_regrown d3
       have e4 := cell_regrown d4
       have e5 := cell_regrown d5
       have e6 := cell_regrown d6
       have e7 := cell_regrown d7
       have e8 := cell_regrown d8
       have e9 := cell_regrown d9
       have e10 := cell_regrown d10
       clear d0 d1 d2 d3 d4 d5 d6 d7 d8 d9 d10
       go_upto_region 13 with fail
       refine wp_region_quiet_below (by kernel_rfl) (by kernel_rfl) ?_
       repeat (go_big_quiet_step (with_reducible exact cM _ _))
       refine wpQuiet_nil ?_
       intro _ hw'
       obtain ⟨⟨dq, osq⟩, hw''⟩ := hw'
       subst hw''
       have kq := below_regrown wr dq osq
       clear ex cM e0 e1 e2 e3 e4 e5 e6 e7 e8 e9 e10
       generalize Sort.grow (redrawn wr dq) osq = U at *
       have lx_ := lt_of_block x
       replace x := carryB kq lx_ x
       replace RT := Lib.hid (RT.out.below kq)
       replace K3 := K3.trans (kq.mono hs)
       replace hs := Nat.le_trans hs kq.size
       clear kq lx_
       have cx := cell_of_block x
       have fx := unfrozen_of_block x
       have lx := lt_of_block x
       go_wp2_with fail
       clear cx fx lx
       go_roundw
       case rel => exact ⟨j + 1, pq, by omega, by go_num, rfl, HP2.out, x, RT.out, hs, K3⟩
       case measure => simp [intOf]; omega
     ·
      have hjf : ¬ ((j : Int) < (sd.length : Int)) := by omega
      have hjl : j = sd.length := by omega
      have hpb : p = hb := by
       rw [← HP.out, ← HBH.out, hjl, List.take_length]
      subst hpb
      clear hjl HP
      have hpp : (p == p) = true := by simp
      have hww : w.heap.size ≤ w3.heap.size := K.size
      have K3W := Lib.hid K3
      have hBW := hs
      have hl3 : (sd.take k ++ [m]).length = k + 1 := by rw [List.length_append, hlt]; rfl
      have hl4 : (sd.take k ++ [m] ++ sd.drop k).length = sd.length + 1 := by rw [List.length_append, hl3, List.length_drop]; omega
      have cx := cell_of_block x
      have fx := unfrozen_of_block x
      have lx := lt_of_block x
      go_upto_region 14 with fail
      cases a with
      | none =>
       have hz := HT.out.none_nil
       have hz0 : sd.length = 0 := by rw [hz]; rfl
       have HZ0 := Lib.hid hz0
       clear hz hz0
       refine wp_region_L (fun w' => ((∀ b o, b < w3.heap.size → (w').cell? ⟨b, o, none⟩ = (wr).cell? ⟨b, o, none⟩) ∧ Below (w3.heap.size) (wr) (w'))) [] (by kernel_rfl) ?_
       obtain ⟨wr_0, hw_, kw_⟩ : ∃ wd, wd = wr.drew ∧ Below wr.heap.size wr wd := ⟨_, rfl, Below.drew (Below.refl _ _)⟩
       rw [← hw_]
       clear hw_
       have hS := KeptB.of (kw_.mono hBW)
       replace RT := Lib.hid (RT.out.below kw_)
       clear kw_
       refine wpAnyL_take (i := 0) (oi := _) (v := ?_) (by (simp only [List.getElem?_toArray]; rfl)) (by kernel_rfl) (by kernel_rfl) (by kernel_rfl) (by kernel_rfl) (by exact fun _ _ _ h => h) (Or.inl ⟨by rfl, ?_⟩) (by assumption) ?_
       rotate_left
       ·
        intro wS hSw
        go_simp
        all_goals first | with_reducible rfl | rw [if_neg (by omega)]
       simp only [Act.put, List.setIfInBounds_toArray, List.set]
       refine wpAnyL_take (i := 1) (oi := _) (v := ?_) (by (simp only [List.getElem?_toArray]; rfl)) (by kernel_rfl) (by kernel_rfl) (by kernel_rfl) (by kernel_rfl) (by exact fun _ _ _ h => h) (Or.inl ⟨by rfl, ?_⟩) (by assumption) ?_
       rotate_left
       ·
        intro wS hSw
        go_simp
        all_goals first | with_reducible rfl | rw [if_neg (by omega)]
       simp only [Act.put, List.setIfInBounds_toArray, List.set]
       refine wpAnyL_take (i := 2) (oi := _) (v := ?_) (by (simp only [List.getElem?_toArray]; rfl)) (by kernel_rfl) (by kernel_rfl) (by kernel_rfl) (by kernel_rfl) (by exact fun _ _ _ h => h) (Or.inl ⟨by rfl, ?_⟩) (by assumption) ?_
       rotate_left
       ·
        intro wS hSw
        go_simp
        all_goals first | with_reducible rfl | rw [if_neg (by omega)]
       simp only [Act.put, List.setIfInBounds_toArray, List.set]
       refine wpAnyL_take (i := 3) (oi := _) (v := ?_) (by (simp only [List.getElem?_toArray]; rfl)) (by kernel_rfl) (by kernel_rfl) (by kernel_rfl) (by kernel_rfl) (by exact fun _ _ _ h => h) (Or.inl ⟨by rfl, ?_⟩) (by assumption) ?_
       rotate_left
       ·
        intro wS hSw
        go_simp
        all_goals first | with_reducible rfl | rw [if_neg (by omega)]
       simp only [Act.put, List.setIfInBounds_toArray, List.set]
       refine wpAnyL_take (i := 4) (oi := _) (v := ?_) (by (simp only [List.getElem?_toArray]; rfl)) (by kernel_rfl) (by kernel_rfl) (by kernel_rfl) (by kernel_rfl) (by exact fun _ _ _ h => h) (Or.inl ⟨by rfl, ?_⟩) (by assumption) ?_
       rotate_left
       ·
        intro wS hSw
        go_simp
        all_goals first | with_reducible rfl | rw [if_neg (by omega)]
       simp only [Act.put, List.setIfInBounds_toArray, List.set]
       refine wpAnyL_take (i := 5) (oi := _) (v := ?_) (by (simp only [List.getElem?_toArray]; rfl)) (by kernel_rfl) (by kernel_rfl) (by kernel_rfl) (by kernel_rfl) (by exact fun _ _ _ h => h) (Or.inl ⟨by rfl, ?_⟩) (by assumption) ?_
       rotate_left
       ·
        intro wS hSw
        go_simp
        all_goals first | with_reducible rfl | rw [if_neg (by omega)]
       simp only [Act.put, List.setIfInBounds_toArray, List.set]
       refine wpAnyL_take (i := 6) (oi := _) (v := ?_) (by (simp only [List.getElem?_toArray]; rfl)) (by kernel_rfl) (by kernel_rfl) (by kernel_rfl) (by kernel_rfl) (by exact fun _ _ _ h => h) (Or.inl ⟨by rfl, ?_⟩) (by assumption) ?_
       rotate_left
       ·
        intro wS hSw
        go_simp
        all_goals first | with_reducible rfl | rw [if_neg (by omega)]
       simp only [Act.put, List.setIfInBounds_toArray, List.set]
       refine wpAnyL_take (i := 7) (oi := _) (v := ?_) (by (simp only [List.getElem?_toArray]; rfl)) (by kernel_rfl) (by kernel_rfl) (by kernel_rfl) (by kernel_rfl) (by exact fun _ _ _ h => h) (Or.inl ⟨by rfl, ?_⟩) (by assumption) ?_
       rotate_left
       ·
        intro wS hSw
        go_simp
        all_goals first | with_reducible rfl | rw [if_neg (by omega)]
       simp only [Act.put, List.setIfInBounds_toArray, List.set]
       refine wpAnyL_take (i := 9) (oi := _) (v := ?_) (by (simp only [List.getElem?_toArray]; rfl)) (by kernel_rfl) (by kernel_rfl) (by kernel_rfl) (by kernel_rfl) (by exact fun _ _ _ h => h) (Or.inl ⟨by rfl, ?_⟩) (by assumption) ?_
       rotate_left
       ·
        intro wS hSw
        go_simp
        all_goals first | with_reducible rfl | rw [if_neg (by omega)]
       simp only [Act.put, List.setIfInBounds_toArray, List.set]
       refine wpAnyL_ready (rs := [8]) (by kernel_rfl) (by simp) ?_
       refine AllReadyL.cons (o := _) (by (simp only [List.getElem?_toArray]; rfl)) (fun K hK => ?_) AllReadyL.nil
       refine step_append_elmG (by rfl) (.tmp 66) (.tmp 69) (by rfl) (sd.length + 1) elmMg (by rfl) (by rfl) RT.out (ys := sd.drop k) (fun z hz => mg_one (w := w3) (ok_drops SD.out.2 k z hz)) (by first | exact RowsAt.nilW (by rw [List.length_drop]; have := HZ0.out; omega) | exact (HTX.out _ (K3W.out.trans hS.2)).tailW k c (fun h => by omega) | exact (HTX.out _ (K3W.out.trans hS.2)).dropW k) hl3 (by first | exact List.length_drop | (rw [List.length_drop]; omega)) (by omega) (by simp only [maxLen]; omega) (by omega) (Nat.le_trans hBW hS.2.size) ?_
       intro a3 c3 wr_1 q_
       have hrb_ : ∀ g', rowBlk _ _ = some g' → w3.heap.size ≤ g' := fun g' hg' => (RT.out.blk hg').1
       have hRK : Below w3.heap.size wr wr_1 := hS.2.trans (q_.below (Nat.le_trans hBW hS.2.size) hrb_)
       clear hS
       have hS := KeptB.of hRK
       clear hRK
       have RT2 := Lib.hid q_.row
       clear q_ hrb_
       refine hK.out _ _ (fun _ => hS) ?_
       clear hK K
       try simp only [Act.put, List.setIfInBounds_toArray, List.set]
       refine wpAnyL_ready (rs := [10]) (by kernel_rfl) (by simp) ?_
       refine AllReadyL.cons (o := _) (by (simp only [List.getElem?_toArray]; rfl)) (fun K hK => ?_) AllReadyL.nil
       go_simp
       have ISA := Lib.hid (show IsMs wr_1 (.slice a3 (sd.length + 1) c3) (sd.take k ++ [m] ++ sd.drop k) from ⟨by
        have h := RT2.out.sl eleven_len
        rw [hl4] at h
        exact h, fun z hz => by
         have hb := K3W.out.trans hS.2
         rcases List.mem_append.1 hz with h | h
         ·
          rcases List.mem_append.1 h with h | h
          ·
           exact Mg.ok.below2 (ok_takes SD.out.2 k z h) hb
          ·
           rw [List.mem_singleton.1 h]; exact Mg.ok.below2 MO.out hb
         ·
          exact Mg.ok.below2 (ok_drops SD.out.2 k z h) hb⟩)
       refine (SaidHas_c _ _ (sd.take k ++ [m] ++ sd.drop k) m wr_1 ISA.out (isMg_sl MV.out.1 MV.out.2 (Mg.ok.below2 MO.out (K3W.out.trans hS.2)))).mono ?_
       rintro e wr_2 ⟨rfl, kw_⟩
       rw [has_mid]
       clear ISA
       have hRK : Below w3.heap.size wr wr_2 := hS.2.trans (kw_.mono (Nat.le_trans hBW hS.2.size))
       clear hS
       have hS := KeptB.of hRK
       clear hRK
       replace RT2 := Lib.hid (RT2.out.below kw_)
       clear kw_
       refine hK.out _ _ (fun _ => hS) ?_
       clear hK K
       try simp only [Act.put, List.setIfInBounds_toArray, List.set]
       refine wpAnyL_take (i := 11) (oi := _) (v := ?_) (by (simp only [List.getElem?_toArray]; rfl)) (by kernel_rfl) (by kernel_rfl) (by kernel_rfl) (by kernel_rfl) (by exact fun _ _ _ h => h) (Or.inl ⟨by rfl, ?_⟩) (by assumption) ?_
       rotate_left
       ·
        intro wS hSw
        go_simp
        all_goals first | with_reducible rfl | rw [if_neg (by omega)]
       simp only [Act.put, List.setIfInBounds_toArray, List.set]
       refine wpAnyL_take (i := 12) (oi := _) (v := ?_) (by (simp only [List.getElem?_toArray]; rfl)) (by kernel_rfl) (by kernel_rfl) (by kernel_rfl) (by kernel_rfl) (by exact fun _ _ _ h => h) (Or.inl ⟨by rfl, ?_⟩) (by assumption) ?_
       rotate_left
       ·
        intro wS hSw
        go_simp
        all_goals first | with_reducible rfl | rw [if_neg (by omega)]
       simp only [Act.put, List.setIfInBounds_toArray, List.set]
       refine wpAnyL_take (i := 13) (oi := _) (v := ?_) (by (simp only [List.getElem?_toArray]; rfl)) (by kernel_rfl) (by kernel_rfl) (by kernel_rfl) (by kernel_rfl) (by exact fun _ _ _ h => h) (Or.inl ⟨by rfl, ?_⟩) (by assumption) ?_
       rotate_left
       ·
        intro wS hSw
        go_simp
        all_goals first | with_reducible rfl | rw [if_neg (by omega)]
       simp only [Act.put, List.setIfInBounds_toArray, List.set]
       refine wpAnyL_ready (rs := [14]) (by kernel_rfl) (by simp) ?_
       refine AllReadyL.cons (o := _) (by (simp only [List.getElem?_toArray]; rfl)) (fun K hK => ?_) AllReadyL.nil
       go_simp
       refine (SaidHas_c _ _ [] m wr_2 (isMs_nil wr_2 none 0 (Nat.zero_le _)) (isMg_sl MV.out.1 MV.out.2 (Mg.ok.below2 MO.out (K3W.out.trans hS.2)))).mono ?_
       rintro e wr_3 ⟨rfl, kw_⟩
       rw [has_nil]
       have hRK : Below w3.heap.size wr wr_3 := hS.2.trans (kw_.mono (Nat.le_trans hBW hS.2.size))
       clear hS
       have hS := KeptB.of hRK
       clear hRK
       clear kw_
       refine hK.out _ _ (fun _ => hS) ?_
       clear hK K
       try simp only [Act.put, List.setIfInBounds_toArray, List.set]
       refine wpAnyL_take (i := 15) (oi := _) (v := ?_) (by (simp only [List.getElem?_toArray]; rfl)) (by kernel_rfl) (by kernel_rfl) (by kernel_rfl) (by kernel_rfl) (by exact fun _ _ _ h => h) (Or.inl ⟨by rfl, ?_⟩) (by assumption) ?_
       rotate_left
       ·
        intro wS hSw
        go_simp
        all_goals first | with_reducible rfl | rw [if_neg (by omega)]
       simp only [Act.put, List.setIfInBounds_toArray, List.set]
       refine wpAnyL_take (i := 16) (oi := _) (v := ?_) (by (simp only [List.getElem?_toArray]; rfl)) (by kernel_rfl) (by kernel_rfl) (by kernel_rfl) (by kernel_rfl) (by exact fun _ _ _ h => h) (Or.inl ⟨by rfl, ?_⟩) (by assumption) ?_
       rotate_left
       ·
        intro wS hSw
        go_simp
        all_goals first | with_reducible rfl | rw [if_neg (by omega)]
       simp only [Act.put, List.setIfInBounds_toArray, List.set]
       refine wpAnyL_take (i := 17) (oi := _) (v := ?_) (by (simp only [List.getElem?_toArray]; rfl)) (by kernel_rfl) (by kernel_rfl) (by kernel_rfl) (by kernel_rfl) (by exact fun _ _ _ h => h) (Or.inl ⟨by rfl, ?_⟩) (by assumption) ?_
       rotate_left
       ·
        intro wS hSw
        go_simp
        all_goals first | with_reducible rfl | rw [if_neg (by omega)]
       simp only [Act.put, List.setIfInBounds_toArray, List.set]
       refine wpAnyL_done (by kernel_rfl) ?_ _
       have KF := Lib.hid (K.trans ((K3W.out.trans hS.2).mono hww))
       clear hS
       clear cx fx lx
       go_wp2_with fail
       all_goals
        go_ret
        exact ⟨rfl, KF.out⟩
      | some ad =>
       by_cases hz0 : sd.length = 0
       ·
        have HZ0 := Lib.hid hz0
        clear hz0
        refine wp_region_L (fun w' => ((∀ b o, b < w3.heap.size → (w').cell? ⟨b, o, none⟩ = (wr).cell? ⟨b, o, none⟩) ∧ Below (w3.heap.size) (wr) (w'))) [] (by kernel_rfl) ?_
        obtain ⟨wr_0, hw_, kw_⟩ : ∃ wd, wd = wr.drew ∧ Below wr.heap.size wr wd := ⟨_, rfl, Below.drew (Below.refl _ _)⟩
        rw [← hw_]
        clear hw_
        have hS := KeptB.of (kw_.mono hBW)
        replace RT := Lib.hid (RT.out.below kw_)
        clear kw_
        refine wpAnyL_take (i := 0) (oi := _) (v := ?_) (by (simp only [List.getElem?_toArray]; rfl)) (by kernel_rfl) (by kernel_rfl) (by kernel_rfl) (by kernel_rfl) (by exact fun _ _ _ h => h) (Or.inl ⟨by rfl, ?_⟩) (by assumption) ?_
        rotate_left
        ·
         intro wS hSw
         go_simp
         all_goals first | with_reducible rfl | rw [if_neg (by omega)]
        simp only [Act.put, List.setIfInBounds_toArray, List.set]
        refine wpAnyL_take (i := 1) (oi := _) (v := ?_) (by (simp only [List.getElem?_toArray]; rfl)) (by kernel_rfl) (by kernel_rfl) (by kernel_rfl) (by kernel_rfl) (by exact fun _ _ _ h => h) (Or.inl ⟨by rfl, ?_⟩) (by assumption) ?_
        rotate_left
        ·
         intro wS hSw
         go_simp
         all_goals first | with_reducible rfl | rw [if_neg (by omega)]
        simp only [Act.put, List.setIfInBounds_toArray, List.set]
        refine wpAnyL_take (i := 2) (oi := _) (v := ?_) (by (simp only [List.getElem?_toArray]; rfl)) (by kernel_rfl) (by kernel_rfl) (by kernel_rfl) (by kernel_rfl) (by exact fun _ _ _ h => h) (Or.inl ⟨by rfl, ?_⟩) (by assumption) ?_
        rotate_left
        ·
         intro wS hSw
         go_simp
         all_goals first | with_reducible rfl | rw [if_neg (by omega)]
        simp only [Act.put, List.setIfInBounds_toArray, List.set]
        refine wpAnyL_take (i := 3) (oi := _) (v := ?_) (by (simp only [List.getElem?_toArray]; rfl)) (by kernel_rfl) (by kernel_rfl) (by kernel_rfl) (by kernel_rfl) (by exact fun _ _ _ h => h) (Or.inl ⟨by rfl, ?_⟩) (by assumption) ?_
        rotate_left
        ·
         intro wS hSw
         go_simp
         all_goals first | with_reducible rfl | rw [if_neg (by omega)]
        simp only [Act.put, List.setIfInBounds_toArray, List.set]
        refine wpAnyL_take (i := 4) (oi := _) (v := ?_) (by (simp only [List.getElem?_toArray]; rfl)) (by kernel_rfl) (by kernel_rfl) (by kernel_rfl) (by kernel_rfl) (by exact fun _ _ _ h => h) (Or.inl ⟨by rfl, ?_⟩) (by assumption) ?_
        rotate_left
        ·
         intro wS hSw
         go_simp
         all_goals first | with_reducible rfl | rw [if_neg (by omega)]
        simp only [Act.put, List.setIfInBounds_toArray, List.set]
        refine wpAnyL_take (i := 5) (oi := _) (v := ?_) (by (simp only [List.getElem?_toArray]; rfl)) (by kernel_rfl) (by kernel_rfl) (by kernel_rfl) (by kernel_rfl) (by exact fun _ _ _ h => h) (Or.inl ⟨by rfl, ?_⟩) (by assumption) ?_
        rotate_left
        ·
         intro wS hSw
         go_simp
         all_goals first | with_reducible rfl | rw [if_neg (by omega)]
        simp only [Act.put, List.setIfInBounds_toArray, List.set]
        refine wpAnyL_take (i := 6) (oi := _) (v := ?_) (by (simp only [List.getElem?_toArray]; rfl)) (by kernel_rfl) (by kernel_rfl) (by kernel_rfl) (by kernel_rfl) (by exact fun _ _ _ h => h) (Or.inl ⟨by rfl, ?_⟩) (by assumption) ?_
        rotate_left
        ·
         intro wS hSw
         go_simp
         all_goals first | with_reducible rfl | rw [if_neg (by omega)]
        simp only [Act.put, List.setIfInBounds_toArray, List.set]
        refine wpAnyL_take (i := 7) (oi := _) (v := ?_) (by (simp only [List.getElem?_toArray]; rfl)) (by kernel_rfl) (by kernel_rfl) (by kernel_rfl) (by kernel_rfl) (by exact fun _ _ _ h => h) (Or.inl ⟨by rfl, ?_⟩) (by assumption) ?_
        rotate_left
        ·
         intro wS hSw
         go_simp
         all_goals first | with_reducible rfl | rw [if_neg (by omega)]
        simp only [Act.put, List.setIfInBounds_toArray, List.set]
        refine wpAnyL_take (i := 9) (oi := _) (v := ?_) (by (simp only [List.getElem?_toArray]; rfl)) (by kernel_rfl) (by kernel_rfl) (by kernel_rfl) (by kernel_rfl) (by exact fun _ _ _ h => h) (Or.inl ⟨by rfl, ?_⟩) (by assumption) ?_
        rotate_left
        ·
         intro wS hSw
         go_simp
         all_goals first | with_reducible rfl | rw [if_neg (by omega)]
        simp only [Act.put, List.setIfInBounds_toArray, List.set]
        refine wpAnyL_ready (rs := [8]) (by kernel_rfl) (by simp) ?_
        refine AllReadyL.cons (o := _) (by (simp only [List.getElem?_toArray]; rfl)) (fun K hK => ?_) AllReadyL.nil
        refine step_append_elmG (by rfl) (.tmp 66) (.tmp 69) (by rfl) (sd.length + 1) elmMg (by rfl) (by rfl) RT.out (ys := sd.drop k) (fun z hz => mg_one (w := w3) (ok_drops SD.out.2 k z hz)) (by first | exact RowsAt.nilW (by rw [List.length_drop]; have := HZ0.out; omega) | exact (HTX.out _ (K3W.out.trans hS.2)).tailW k c (fun h => by omega) | exact (HTX.out _ (K3W.out.trans hS.2)).dropW k) hl3 (by first | exact List.length_drop | (rw [List.length_drop]; omega)) (by omega) (by simp only [maxLen]; omega) (by omega) (Nat.le_trans hBW hS.2.size) ?_
        intro a3 c3 wr_1 q_
        have hrb_ : ∀ g', rowBlk _ _ = some g' → w3.heap.size ≤ g' := fun g' hg' => (RT.out.blk hg').1
        have hRK : Below w3.heap.size wr wr_1 := hS.2.trans (q_.below (Nat.le_trans hBW hS.2.size) hrb_)
        clear hS
        have hS := KeptB.of hRK
        clear hRK
        have RT2 := Lib.hid q_.row
        clear q_ hrb_
        refine hK.out _ _ (fun _ => hS) ?_
        clear hK K
        try simp only [Act.put, List.setIfInBounds_toArray, List.set]
        refine wpAnyL_ready (rs := [10]) (by kernel_rfl) (by simp) ?_
        refine AllReadyL.cons (o := _) (by (simp only [List.getElem?_toArray]; rfl)) (fun K hK => ?_) AllReadyL.nil
        go_simp
        have ISA := Lib.hid (show IsMs wr_1 (.slice a3 (sd.length + 1) c3) (sd.take k ++ [m] ++ sd.drop k) from ⟨by
         have h := RT2.out.sl eleven_len
         rw [hl4] at h
         exact h, fun z hz => by
          have hb := K3W.out.trans hS.2
          rcases List.mem_append.1 hz with h | h
          ·
           rcases List.mem_append.1 h with h | h
           ·
            exact Mg.ok.below2 (ok_takes SD.out.2 k z h) hb
           ·
            rw [List.mem_singleton.1 h]; exact Mg.ok.below2 MO.out hb
          ·
           exact Mg.ok.below2 (ok_drops SD.out.2 k z h) hb⟩)
        refine (SaidHas_c _ _ (sd.take k ++ [m] ++ sd.drop k) m wr_1 ISA.out (isMg_sl MV.out.1 MV.out.2 (Mg.ok.below2 MO.out (K3W.out.trans hS.2)))).mono ?_
        rintro e wr_2 ⟨rfl, kw_⟩
        rw [has_mid]
        clear ISA
        have hRK : Below w3.heap.size wr wr_2 := hS.2.trans (kw_.mono (Nat.le_trans hBW hS.2.size))
        clear hS
        have hS := KeptB.of hRK
        clear hRK
        replace RT2 := Lib.hid (RT2.out.below kw_)
        clear kw_
        refine hK.out _ _ (fun _ => hS) ?_
        clear hK K
        try simp only [Act.put, List.setIfInBounds_toArray, List.set]
        refine wpAnyL_take (i := 11) (oi := _) (v := ?_) (by (simp only [List.getElem?_toArray]; rfl)) (by kernel_rfl) (by kernel_rfl) (by kernel_rfl) (by kernel_rfl) (by exact fun _ _ _ h => h) (Or.inl ⟨by rfl, ?_⟩) (by assumption) ?_
        rotate_left
        ·
         intro wS hSw
         go_simp
         all_goals first | with_reducible rfl | rw [if_neg (by omega)]
        simp only [Act.put, List.setIfInBounds_toArray, List.set]
        refine wpAnyL_take (i := 12) (oi := _) (v := ?_) (by (simp only [List.getElem?_toArray]; rfl)) (by kernel_rfl) (by kernel_rfl) (by kernel_rfl) (by kernel_rfl) (by exact fun _ _ _ h => h) (Or.inl ⟨by rfl, ?_⟩) (by assumption) ?_
        rotate_left
        ·
         intro wS hSw
         go_simp
         all_goals first | with_reducible rfl | rw [if_neg (by omega)]
        simp only [Act.put, List.setIfInBounds_toArray, List.set]
        refine wpAnyL_take (i := 13) (oi := _) (v := ?_) (by (simp only [List.getElem?_toArray]; rfl)) (by kernel_rfl) (by kernel_rfl) (by kernel_rfl) (by kernel_rfl) (by exact fun _ _ _ h => h) (Or.inl ⟨by rfl, ?_⟩) (by assumption) ?_
        rotate_left
        ·
         intro wS hSw
         go_simp
         all_goals first | with_reducible rfl | rw [if_neg (by omega)]
        simp only [Act.put, List.setIfInBounds_toArray, List.set]
        refine wpAnyL_ready (rs := [14]) (by kernel_rfl) (by simp) ?_
        refine AllReadyL.cons (o := _) (by (simp only [List.getElem?_toArray]; rfl)) (fun K hK => ?_) AllReadyL.nil
        go_simp
        refine (SaidHas_c _ _ [] m wr_2 (isMs_nil wr_2 none 0 (Nat.zero_le _)) (isMg_sl MV.out.1 MV.out.2 (Mg.ok.below2 MO.out (K3W.out.trans hS.2)))).mono ?_
        rintro e wr_3 ⟨rfl, kw_⟩
        rw [has_nil]
        have hRK : Below w3.heap.size wr wr_3 := hS.2.trans (kw_.mono (Nat.le_trans hBW hS.2.size))
        clear hS
        have hS := KeptB.of hRK
        clear hRK
        clear kw_
        refine hK.out _ _ (fun _ => hS) ?_
        clear hK K
        try simp only [Act.put, List.setIfInBounds_toArray, List.set]
        refine wpAnyL_take (i := 15) (oi := _) (v := ?_) (by (simp only [List.getElem?_toArray]; rfl)) (by kernel_rfl) (by kernel_rfl) (by kernel_rfl) (by kernel_rfl) (by exact fun _ _ _ h => h) (Or.inl ⟨by rfl, ?_⟩) (by assumption) ?_
        rotate_left
        ·
         intro wS hSw
         go_simp
         all_goals first | with_reducible rfl | rw [if_neg (by omega)]
        simp only [Act.put, List.setIfInBounds_toArray, List.set]
        refine wpAnyL_take (i := 16) (oi := _) (v := ?_) (by (simp only [List.getElem?_toArray]; rfl)) (by kernel_rfl) (by kernel_rfl) (by kernel_rfl) (by kernel_rfl) (by exact fun _ _ _ h => h) (Or.inl ⟨by rfl, ?_⟩) (by assumption) ?_
        rotate_left
        ·
         intro wS hSw
         go_simp
         all_goals first | with_reducible rfl | rw [if_neg (by omega)]
        simp only [Act.put, List.setIfInBounds_toArray, List.set]
        refine wpAnyL_take (i := 17) (oi := _) (v := ?_) (by (simp only [List.getElem?_toArray]; rfl)) (by kernel_rfl) (by kernel_rfl) (by kernel_rfl) (by kernel_rfl) (by exact fun _ _ _ h => h) (Or.inl ⟨by rfl, ?_⟩) (by assumption) ?_
        rotate_left
        ·
         intro wS hSw
         go_simp
         all_goals first | with_reducible rfl | rw [if_neg (by omega)]
        simp only [Act.put, List.setIfInBounds_toArray, List.set]
        refine wpAnyL_done (by kernel_rfl) ?_ _
        have KF := Lib.hid (K.trans ((K3W.out.trans hS.2).mono hww))
        clear hS
        clear cx fx lx
        go_wp2_with fail
        all_goals
         go_ret
         exact ⟨rfl, KF.out⟩
       ·
        obtain ⟨b0, o0, ea, -, -⟩ := HT.out 0 (by omega)
        have HTX := Lib.hid (fun (Q : World) (hQ : Below w3.heap.size w3 Q) => (RowsAt.below HT.out hQ))
        rw [Option.some.inj ea] at HTX ⊢
        clear ea
        refine wp_region_L (fun w' => ((∀ b o, b < w3.heap.size → (w').cell? ⟨b, o, none⟩ = (wr).cell? ⟨b, o, none⟩) ∧ Below (w3.heap.size) (wr) (w'))) [] (by kernel_rfl) ?_
        obtain ⟨wr_0, hw_, kw_⟩ : ∃ wd, wd = wr.drew ∧ Below wr.heap.size wr wd := ⟨_, rfl, Below.drew (Below.refl _ _)⟩
        rw [← hw_]
        clear hw_
        have hS := KeptB.of (kw_.mono hBW)
        replace RT := Lib.hid (RT.out.below kw_)
        clear kw_
        refine wpAnyL_take (i := 0) (oi := _) (v := ?_) (by (simp only [List.getElem?_toArray]; rfl)) (by kernel_rfl) (by kernel_rfl) (by kernel_rfl) (by kernel_rfl) (by exact fun _ _ _ h => h) (Or.inl ⟨by rfl, ?_⟩) (by assumption) ?_
        rotate_left
        ·
         intro wS hSw
         go_simp
         all_goals first | with_reducible rfl | rw [if_neg (by omega)]
        simp only [Act.put, List.setIfInBounds_toArray, List.set]
        refine wpAnyL_take (i := 1) (oi := _) (v := ?_) (by (simp only [List.getElem?_toArray]; rfl)) (by kernel_rfl) (by kernel_rfl) (by kernel_rfl) (by kernel_rfl) (by exact fun _ _ _ h => h) (Or.inl ⟨by rfl, ?_⟩) (by assumption) ?_
        rotate_left
        ·
         intro wS hSw
         go_simp
         all_goals first | with_reducible rfl | rw [if_neg (by omega)]
        simp only [Act.put, List.setIfInBounds_toArray, List.set]
        refine wpAnyL_take (i := 2) (oi := _) (v := ?_) (by (simp only [List.getElem?_toArray]; rfl)) (by kernel_rfl) (by kernel_rfl) (by kernel_rfl) (by kernel_rfl) (by exact fun _ _ _ h => h) (Or.inl ⟨by rfl, ?_⟩) (by assumption) ?_
        rotate_left
        ·
         intro wS hSw
         go_simp
         all_goals first | with_reducible rfl | rw [if_neg (by omega)]
        simp only [Act.put, List.setIfInBounds_toArray, List.set]
        refine wpAnyL_take (i := 3) (oi := _) (v := ?_) (by (simp only [List.getElem?_toArray]; rfl)) (by kernel_rfl) (by kernel_rfl) (by kernel_rfl) (by kernel_rfl) (by exact fun _ _ _ h => h) (Or.inl ⟨by rfl, ?_⟩) (by assumption) ?_
        rotate_left
        ·
         intro wS hSw
         go_simp
         all_goals first | with_reducible rfl | rw [if_neg (by omega)]
        simp only [Act.put, List.setIfInBounds_toArray, List.set]
        refine wpAnyL_take (i := 4) (oi := _) (v := ?_) (by (simp only [List.getElem?_toArray]; rfl)) (by kernel_rfl) (by kernel_rfl) (by kernel_rfl) (by kernel_rfl) (by exact fun _ _ _ h => h) (Or.inl ⟨by rfl, ?_⟩) (by assumption) ?_
        rotate_left
        ·
         intro wS hSw
         go_simp
         all_goals first | with_reducible rfl | rw [if_neg (by omega)]
        simp only [Act.put, List.setIfInBounds_toArray, List.set]
        refine wpAnyL_take (i := 5) (oi := _) (v := ?_) (by (simp only [List.getElem?_toArray]; rfl)) (by kernel_rfl) (by kernel_rfl) (by kernel_rfl) (by kernel_rfl) (by exact fun _ _ _ h => h) (Or.inl ⟨by rfl, ?_⟩) (by assumption) ?_
        rotate_left
        ·
         intro wS hSw
         go_simp
         all_goals first | with_reducible rfl | rw [if_neg (by omega)]
        simp only [Act.put, List.setIfInBounds_toArray, List.set]
        refine wpAnyL_take (i := 6) (oi := _) (v := ?_) (by (simp only [List.getElem?_toArray]; rfl)) (by kernel_rfl) (by kernel_rfl) (by kernel_rfl) (by kernel_rfl) (by exact fun _ _ _ h => h) (Or.inl ⟨by rfl, ?_⟩) (by assumption) ?_
        rotate_left
        ·
         intro wS hSw
         go_simp
         all_goals first | with_reducible rfl | rw [if_neg (by omega)]
        simp only [Act.put, List.setIfInBounds_toArray, List.set]
        refine wpAnyL_take (i := 7) (oi := _) (v := ?_) (by (simp only [List.getElem?_toArray]; rfl)) (by kernel_rfl) (by kernel_rfl) (by kernel_rfl) (by kernel_rfl) (by exact fun _ _ _ h => h) (Or.inl ⟨by rfl, ?_⟩) (by assumption) ?_
        rotate_left
        ·
         intro wS hSw
         go_simp
         all_goals first | with_reducible rfl | rw [if_neg (by omega)]
        simp only [Act.put, List.setIfInBounds_toArray, List.set]
        refine wpAnyL_take (i := 9) (oi := _) (v := ?_) (by (simp only [List.getElem?_toArray]; rfl)) (by kernel_rfl) (by kernel_rfl) (by kernel_rfl) (by kernel_rfl) (by exact fun _ _ _ h => h) (Or.inl ⟨by rfl, ?_⟩) (by assumption) ?_
        rotate_left
        ·
         intro wS hSw
         go_simp
         all_goals first | with_reducible rfl | rw [if_neg (by omega)]
        simp only [Act.put, List.setIfInBounds_toArray, List.set]
        refine wpAnyL_ready (rs := [8]) (by kernel_rfl) (by simp) ?_
        refine AllReadyL.cons (o := _) (by (simp only [List.getElem?_toArray]; rfl)) (fun K hK => ?_) AllReadyL.nil
        refine step_append_elmG (by rfl) (.tmp 66) (.tmp 69) (by rfl) (sd.length + 1) elmMg (by rfl) (by rfl) RT.out (ys := sd.drop k) (fun z hz => mg_one (w := w3) (ok_drops SD.out.2 k z hz)) (by first | exact RowsAt.nilW (by rw [List.length_drop]; have := HZ0.out; omega) | exact (HTX.out _ (K3W.out.trans hS.2)).tailW k c (fun h => by omega) | exact (HTX.out _ (K3W.out.trans hS.2)).dropW k) hl3 (by first | exact List.length_drop | (rw [List.length_drop]; omega)) (by omega) (by simp only [maxLen]; omega) (by omega) (Nat.le_trans hBW hS.2.size) ?_
        intro a3 c3 wr_1 q_
        have hrb_ : ∀ g', rowBlk _ _ = some g' → w3.heap.size ≤ g' := fun g' hg' => (RT.out.blk hg').1
        have hRK : Below w3.heap.size wr wr_1 := hS.2.trans (q_.below (Nat.le_trans hBW hS.2.size) hrb_)
        clear hS
        have hS := KeptB.of hRK
        clear hRK
        have RT2 := Lib.hid q_.row
        clear q_ hrb_
        refine hK.out _ _ (fun _ => hS) ?_
        clear hK K
        try simp only [Act.put, List.setIfInBounds_toArray, List.set]
        refine wpAnyL_ready (rs := [10]) (by kernel_rfl) (by simp) ?_
        refine AllReadyL.cons (o := _) (by (simp only [List.getElem?_toArray]; rfl)) (fun K hK => ?_) AllReadyL.nil
        go_simp
        have ISA := Lib.hid (show IsMs wr_1 (.slice a3 (sd.length + 1) c3) (sd.take k ++ [m] ++ sd.drop k) from ⟨by
         have h := RT2.out.sl eleven_len
         rw [hl4] at h
         exact h, fun z hz => by
          have hb := K3W.out.trans hS.2
          rcases List.mem_append.1 hz with h | h
          ·
           rcases List.mem_append.1 h with h | h
           ·
            exact Mg.ok.below2 (ok_takes SD.out.2 k z h) hb
           ·
            rw [List.mem_singleton.1 h]; exact Mg.ok.below2 MO.out hb
          ·
           exact Mg.ok.below2 (ok_drops SD.out.2 k z h) hb⟩)
        refine (SaidHas_c _ _ (sd.take k ++ [m] ++ sd.drop k) m wr_1 ISA.out (isMg_sl MV.out.1 MV.out.2 (Mg.ok.below2 MO.out (K3W.out.trans hS.2)))).mono ?_
        rintro e wr_2 ⟨rfl, kw_⟩
        rw [has_mid]
        clear ISA
        have hRK : Below w3.heap.size wr wr_2 := hS.2.trans (kw_.mono (Nat.le_trans hBW hS.2.size))
        clear hS
        have hS := KeptB.of hRK
        clear hRK
        replace RT2 := Lib.hid (RT2.out.below kw_)
        clear kw_
        refine hK.out _ _ (fun _ => hS) ?_
        clear hK K
        try simp only [Act.put, List.setIfInBounds_toArray, List.set]
        refine wpAnyL_take (i := 11) (oi := _) (v := ?_) (by (simp only [List.getElem?_toArray]; rfl)) (by kernel_rfl) (by kernel_rfl) (by kernel_rfl) (by kernel_rfl) (by exact fun _ _ _ h => h) (Or.inl ⟨by rfl, ?_⟩) (by assumption) ?_
        rotate_left
        ·
         intro wS hSw
         go_simp
         all_goals first | with_reducible rfl | rw [if_neg (by omega)]
        simp only [Act.put, List.setIfInBounds_toArray, List.set]
        refine wpAnyL_take (i := 12) (oi := _) (v := ?_) (by (simp only [List.getElem?_toArray]; rfl)) (by kernel_rfl) (by kernel_rfl) (by kernel_rfl) (by kernel_rfl) (by exact fun _ _ _ h => h) (Or.inl ⟨by rfl, ?_⟩) (by assumption) ?_
        rotate_left
        ·
         intro wS hSw
         go_simp
         all_goals first | with_reducible rfl | rw [if_neg (by omega)]
        simp only [Act.put, List.setIfInBounds_toArray, List.set]
        refine wpAnyL_take (i := 13) (oi := _) (v := ?_) (by (simp only [List.getElem?_toArray]; rfl)) (by kernel_rfl) (by kernel_rfl) (by kernel_rfl) (by kernel_rfl) (by exact fun _ _ _ h => h) (Or.inl ⟨by rfl, ?_⟩) (by assumption) ?_
        rotate_left
        ·
         intro wS hSw
         go_simp
         all_goals first | with_reducible rfl | rw [if_neg (by omega)]
        simp only [Act.put, List.setIfInBounds_toArray, List.set]
        refine wpAnyL_ready (rs := [14]) (by kernel_rfl) (by simp) ?_
        refine AllReadyL.cons (o := _) (by (simp only [List.getElem?_toArray]; rfl)) (fun K hK => ?_) AllReadyL.nil
        go_simp
        refine (SaidHas_c _ _ [] m wr_2 (isMs_nil wr_2 none 0 (Nat.zero_le _)) (isMg_sl MV.out.1 MV.out.2 (Mg.ok.below2 MO.out (K3W.out.trans hS.2)))).mono ?_
        rintro e wr_3 ⟨rfl, kw_⟩
        rw [has_nil]
        have hRK : Below w3.heap.size wr wr_3 := hS.2.trans (kw_.mono (Nat.le_trans hBW hS.2.size))
        clear hS
        have hS := KeptB.of hRK
        clear hRK
        clear kw_
        refine hK.out _ _ (fun _ => hS) ?_
        clear hK K
        try simp only [Act.put, List.setIfInBounds_toArray, List.set]
        refine wpAnyL_take (i := 15) (oi := _) (v := ?_) (by (simp only [List.getElem?_toArray]; rfl)) (by kernel_rfl) (by kernel_rfl) (by kernel_rfl) (by kernel_rfl) (by exact fun _ _ _ h => h) (Or.inl ⟨by rfl, ?_⟩) (by assumption) ?_
        rotate_left
        ·
         intro wS hSw
         go_simp
         all_goals first | with_reducible rfl | rw [if_neg (by omega)]
        simp only [Act.put, List.setIfInBounds_toArray, List.set]
        refine wpAnyL_take (i := 16) (oi := _) (v := ?_) (by (simp only [List.getElem?_toArray]; rfl)) (by kernel_rfl) (by kernel_rfl) (by kernel_rfl) (by kernel_rfl) (by exact fun _ _ _ h => h) (Or.inl ⟨by rfl, ?_⟩) (by assumption) ?_
        rotate_left
        ·
         intro wS hSw
         go_simp
         all_goals first | with_reducible rfl | rw [if_neg (by omega)]
        simp only [Act.put, List.setIfInBounds_toArray, List.set]
        refine wpAnyL_take (i := 17) (oi := _) (v := ?_) (by (simp only [List.getElem?_toArray]; rfl)) (by kernel_rfl) (by kernel_rfl) (by kernel_rfl) (by kernel_rfl) (by exact fun _ _ _ h => h) (Or.inl ⟨by rfl, ?_⟩) (by assumption) ?_
        rotate_left
        ·
         intro wS hSw
         go_simp
         all_goals first | with_reducible rfl | rw [if_neg (by omega)]
        simp only [Act.put, List.setIfInBounds_toArray, List.set]
        refine wpAnyL_done (by kernel_rfl) ?_ _
        have KF := Lib.hid (K.trans ((K3W.out.trans hS.2).mono hww))
        clear hS
        clear cx fx lx
        go_wp2_with fail
        all_goals
         go_ret
         exact ⟨rfl, KF.out⟩
end Go.Proofs.Ytgdhieffjflejaa.fnSaidHas

/-! FnSaidHas -/
namespace Go.Proofs.Ytgdhieffjflejaa.fnSaidHas
open Go.ChangeShapes hiding open_int
open Go.WideShapes Go.ChangeAt Go.RowKit
open Go.ChangeMaps (shut_string)

theorem own : ownKnob Try.prog.godebug = none := by kernel_rfl
theorem laidOut : laidOutB Try.prog = true := by kernel_rfl

set_option maxRecDepth 100000 in
theorem lifted (os : Os) (started : os.Started) (H : Type) (enc : TypeId × Value → H) :
  ReturnsInHanded {} Try.checked os 5 .any (Rows.fnSaidHasSpec.pre6 enc Try.prog Try.f5 Rows.fnSaidHasRow.domain false) (Rows.fnSaidHasSpec.post enc Try.prog Try.f5 false true false false) := by
 refine returnsInHanded_of_change (C := Try.checked) own started (by kernel_rfl) Try.func5
  (ChangeSpec.witness6 (enc := enc) (C := Try.checked) false ⟨#[], #[.slice none 0 0, .slice none 0 0], []⟩ 8 (by kernel_rfl) (by kernel_rfl) (by kernel_rfl) (by kernel_rfl)) ?_
 intro W base args ds gs before hval0 hW hcnd _
 have hval : ∀ (j : Nat) t v, Try.f5.params[j]? = some t → args[j]? = some v → Value.okWide Try.prog W .any base t v := hval0
 have hW' := hW
 obtain ⟨p, q, hA0, hV, rfl, hfz, hnd⟩ := hW
 have hA : DataW.TrodAll enc Try.prog W 0 (fun _ => true) true Try.f5.params.toList args.toList ds p := hA0
 rw [Try.params5] at hA hval
 obtain ⟨v0, vs0, d0, ds0, p0, q0, hargs, rfl, rfl, h0, r0⟩ := trodAll_cons hA
 obtain ⟨v1, vs1, d1, ds1, p1, q1, rfl, rfl, rfl, h1, r1⟩ := trodAll_cons r0
 obtain ⟨rfl, rfl, rfl⟩ := trodAll_nil r1
 obtain rfl : args = #[v0, v1] := by cases args; simp_all
 obtain ⟨rfl, rfl⟩ := trodVars_none hV
 have lt0 : ∀ x ∈ p0, x.block < W.heap.size := by obtain ⟨m, hm⟩ := h0; exact DataW.trod_lt m _ _ _ hm
 obtain ⟨z0, o0⟩ := open_bytes (hval 0 44 v0 rfl rfl) h0
 have lt1 : ∀ x ∈ p1, x.block < W.heap.size := by obtain ⟨m, hm⟩ := h1; exact DataW.trod_lt m _ _ _ hm
 obtain ⟨z1, o1⟩ := open_bytes (hval 1 44 v1 rfl rfl) h1
 clear hA0 hval0
 refine (walk v0 z0 v1 z1 W o0 o1).mono fun e W' ⟨he, bel⟩ => ?_
 subst he
 exact ⟨_, rfl, _, _, _, [], _, [], hW', trodAll_mk1 (shut_bool Try.underlying4 _), (trodAll_cons_mk (Below.trod laidOut (by kernel_rfl) (of_decide_eq_true (by kernel_rfl)) h0 bel lt0) (trodAll_cons_mk (Below.trod laidOut (by kernel_rfl) (of_decide_eq_true (by kernel_rfl)) h1 bel lt1) trodAll_mk0)), rfl, bel.frame _, fun h => by cases h⟩

theorem over : Rows.fnSaidHasRow.holds Try.pinned (OpenSpec.ofChange Rows.fnSaidHasSpec) :=
 OpenClaim.holds_of_wide 5 Try.f5 rfl rfl rfl rfl rfl rfl rfl ⟨rfl, rfl, rfl, rfl, rfl⟩ rfl rfl rfl rfl rfl (by kernel_rfl) Try.func5 (by kernel_rfl)
  (of_decide_eq_true (by kernel_rfl)) (by unfold Func.isWrapper; first | (rw [if_pos (by decide +kernel)]; kernel_rfl) | (rw [if_neg (by decide +kernel)]; exact ⟨rfl, rfl⟩))
  (fun os started H enc _ => lifted os started H enc)

theorem proved : Rows.FnSaidHasSaid := over
end Go.Proofs.Ytgdhieffjflejaa.fnSaidHas
