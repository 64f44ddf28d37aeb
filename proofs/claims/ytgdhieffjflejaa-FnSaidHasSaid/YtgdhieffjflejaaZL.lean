/- What is said in a world (l6Say): a world that fits; condition: small sizes. | A keeper of a world turned, and what it says (l6Set): a world that fits; condition: small sizes. -/
import Derived.Test.YtgdhieffjflejaaWd
import Derived.Test.YtgdhieffjflejaaAux6
set_option linter.unusedSimpArgs false
set_option linter.unusedVariables false
/-! L6A -/
namespace Go.Proofs.Ytgdhieffjflejaa
open Go.RowKit Go.Joins

/-- A world that fits, and a Bool. -/
def WorldSays (X : Nat → Prop) (T D : Nat) (w : World) (e : Ending) (w' : World) : Prop :=
 ∃ (u : Wd) (b : Bool), e = .returned (.tuple #[.agg #[.int .i64 u.bad, .slice u.ra u.rp.length u.rc, .slice u.sa u.sd.length u.sc], .bool b]) ∧ Rob X u.ok w' ∧ u.fit T D ∧ Below w.heap.size w w'

set_option maxRecDepth 100000 in
set_option maxHeartbeats 16000000 in
theorem l6Say_c (X : Nat → Prop) (T D : Nat) (u : Wd) (vb : Value) (ls : List Mg) (w : World) (h : Rob X u.ok w) (hf : u.fit T D) (hl : IsMs w vb ls) (hlf : MsFit ls) (hll : ls.length ≤ 1000) (hX : ∀ b, X b → b < w.heap.size) :
  Calls Try.prog 84 #[.agg #[.int .i64 u.bad, .slice u.ra u.rp.length u.rc, .slice u.sa u.sd.length u.sc], vb] w (WorldSays X T D w) := by
 have HO := Lib.hid h
 have HF := Lib.hid hf
 have hl2 := hl
 obtain ⟨⟨la, lc, rfl, -⟩, -⟩ := hl2
 obtain ⟨-, hlc, hmx, hrt⟩ := hl.1.bounds
 have HT := Lib.hid hrt
 have HLO := Lib.hid hl.2
 have HLF := Lib.hid hlf
 have hsl : u.sd.length ≤ 100 := hf.sd
 have HSD := Lib.hid h.out.2.2.1.bounds.2.2.2
 unfold maxLen at hmx
 clear h hf hl hrt hlf
 go_enter Try.func84, Try.ntmps84
 go_upto_region 1 with fail
 obtain ⟨W, hW_, sW, x, z, kW⟩ := blocks2 w (.cells #[.int .i64 u.bad, .slice u.ra u.rp.length u.rc, .slice u.sa u.sd.length u.sc] 50) (.cells #[.int .i64 0, .slice none 0 0, .slice none 0 0] 50)
 rw [← hW_]
 clear hW_
 have hsW : w.heap.size + 2 ≤ W.heap.size := by omega
 obtain ⟨X1, hlt, hin, hsub, hbx⟩ : ∃ X1 : Nat → Prop, (∀ b, X1 b → b < W.heap.size) ∧ (∀ b, w.heap.size ≤ b → b < W.heap.size → X1 b) ∧ (∀ b, X b → X1 b) ∧ ∀ (F : World → Prop) (V : World), Below w.heap.size w V → Rob X F w → Rob X1 F V :=
  ⟨Bx X w.heap.size W.heap.size, Bx.lt hX (by omega), fun b h1 h2 => .inr ⟨h1, h2⟩, fun b hb => .inl hb, fun F V hV hF => hF.box hV _⟩
 clear sW
 have cx := cell_of_block x
 have fx := unfrozen_of_block x
 have lx := lt_of_block x
 have cz := cell_of_block z
 have fz := unfrozen_of_block z
 have lz := lt_of_block z
 have K := kW
 go_wp2_with (at_builtin; refine wpList_append_newM W.heap.size rfl _ _ rfl elmMg rfl rfl (fun z hz => mg_one ((hbx _ _ K HO.out).out.2.2.2 z hz)) (HSD.out.below (K.trans ((Below.refl W.heap.size W).alloc (Nat.le_refl _) _ |>.mono (by omega)))) (by rfl) (by simp only [maxLen]; omega) (by omega) (by simp) ?_)
 intro a0 c0 V q0
 have kA : Below W.heap.size W V := ((Below.refl W.heap.size W).alloc (Nat.le_refl _) _).trans (q0.below.mono (by simp))
 clear cx fx lx cz fz lz
 have lz_ := lt_of_block z
 replace x := carryB kA (lt_of_block x) x
 replace z := carryB kA lz_ z
 have RW0 := Lib.hid q0.row
 have SO0 := Lib.hid (Rob.newrowX (((hbx _ _ K HO.out).imp (G := fun V => ∀ m ∈ u.sd, m.ok V) (fun V h => h.2.2.2)).below ((Below.refl W.heap.size W).alloc (Nat.le_refl _) (.cells #[] 34))) q0)
 have K0 := K.trans (kA.mono (by omega))
 have hs0 : W.heap.size ≤ V.heap.size := kA.size
 clear kA q0 K lz_ kW
 go_wp2_with fail
 go_loopw [6, 7] (fun st i wr => ∃ (k : Nat) (a : Option Addr) (cc : Nat) (sd : List Mg), k ≤ ls.length ∧ i = .int .i64 k ∧ st = .slice a sd.length cc ∧ wr.heap[w.heap.size]? = some (.cells #[.int .i64 u.bad, .slice u.ra u.rp.length u.rc, .slice u.sa u.sd.length u.sc] 50 (0, 0)) ∧ wr.heap[w.heap.size + 1]? = some (.cells #[.int .i64 0, .slice none 0 0, .slice none 0 0] 50 (0, 0)) ∧
   Row wr W.heap.size 34 a cc 11 Mg.cs sd ∧ Rob (OwX X1 a cc) (fun V => ∀ m ∈ sd, m.ok V) wr ∧ MsFit sd ∧ sd.length ≤ 100 + k ∧ W.heap.size ≤ wr.heap.size ∧ Below w.heap.size w wr) (fun _ i _ => ls.length - (intOf i).toNat)
 case atStart => exact ⟨0, a0, c0, u.sd, Nat.zero_le _, rfl, rfl, x, z, RW0.out, SO0.out, HF.out.ms, by omega, hs0, K0⟩
 case round =>
  clear x z RW0 SO0 hs0 K0
  obtain ⟨k, a, cc, sd, hk, rfl, rfl, x, z, hrow, hso, hmf, hsdl, hs, K⟩ := hrel
  have RW := Lib.hid hrow
  have SO := Lib.hid hso
  have MF := Lib.hid hmf
  clear hrow hso hmf
  by_cases hlt2 : k < ls.length
  ·
   have hk1 : (k : Int) < (ls.length : Int) := by omega
   have hk0 : (0 : Int) ≤ (k : Int) := by omega
   obtain ⟨b1, o1, ea, hl1, hd0⟩ := mg_at HT.out k hlt2
   obtain ⟨d0, d1, d2, d3, d4, d5, d6, d7, d8, d9, d10⟩ := hd0 wr K
   have LO := Lib.hid (fun (V : World) (k' : Below w.heap.size w V) => (HLO.out ls[k] (List.getElem_mem hlt2)).below k')
   have UF := Lib.hid (HLF.out ls[k] (List.getElem_mem hlt2))
   have HD0 := Lib.hid hd0
   clear hd0
   generalize ls[k] = m at *
   obtain ⟨⟨ax, qx, ex, -⟩, ⟨bx, dx, fx, -⟩, -⟩ := LO.out wr K
   rw [ex] at d9
   rw [fx] at d10
   have EX := Lib.hid (And.intro ex fx)
   clear ex fx
   subst ea
   have cx := cell_of_block x
   have fx := unfrozen_of_block x
   have lx := lt_of_block x
   have cz := cell_of_block z
   have fz := unfrozen_of_block z
   have lz := lt_of_block z
   go_wp2_with fail
   refine (l3Has_c _ _ sd m wr ⟨RW.out.sl eleven_len, SO.out.out⟩ (isMg_sl EX.out.1 EX.out.2 (LO.out wr K))).mono ?_
   rintro e w1 ⟨rfl, k1_⟩
   clear cx fx lx cz fz lz
   clear d0 d1 d2 d3 d4 d5 d6 d7 d8 d9 d10
   have lx_ := lt_of_block x
   have lz_ := lt_of_block z
   replace x := carryB k1_ lx_ x
   replace z := carryB k1_ lz_ z
   replace RW := Lib.hid (RW.out.below k1_)
   replace SO := Lib.hid (SO.out.below k1_)
   replace K := below_next K k1_
   replace hs := Nat.le_trans hs k1_.size
   clear k1_ lx_ lz_
   generalize hasM sd m = b
   cases b with
   | true =>
    have cx := cell_of_block x
    have fx := unfrozen_of_block x
    have lx := lt_of_block x
    have cz := cell_of_block z
    have fz := unfrozen_of_block z
    have lz := lt_of_block z
    go_wp2_with fail
    clear cx fx lx cz fz lz
    go_roundw
    case rel => exact ⟨k + 1, a, cc, sd, by omega, by go_num, rfl, x, z, RW.out, SO.out, MF.out, by omega, hs, K⟩
    case measure => simp [intOf]; omega
   | false =>
    obtain ⟨d0, d1, d2, d3, d4, d5, d6, d7, d8, d9, d10⟩ := HD0.out w1 K
    rw [EX.out.1] at d9
    rw [EX.out.2] at d10
    have cx := cell_of_block x
    have fx := unfrozen_of_block x
    have lx := lt_of_block x
    have cz := cell_of_block z
    have fz := unfrozen_of_block z
    have lz := lt_of_block z
    go_wp2_with fail
    refine (l3Copy_c _ m w1 (isMg_sl EX.out.1 EX.out.2 (LO.out w1 K)) UF.out).mono ?_
    rintro e w2 ⟨n1, n2, n3, n4, ys, rfl, hN, hsy, k1_⟩
    clear cx fx lx cz fz lz
    clear d0 d1 d2 d3 d4 d5 d6 d7 d8 d9 d10
    have NL := Lib.hid (hN.owX (X := X1) (a := a) (cap := cc) (fun b hb => Nat.lt_of_lt_of_le (hlt b hb) hs) (fun g hg => (RW.out.blk hg).2))
    have FN := Lib.hid (fit_wth (a := n1) (c := n2) (b := n3) (d := n4) UF.out hsy)
    clear hN hsy
    have lx_ := lt_of_block x
    have lz_ := lt_of_block z
    replace x := carryB k1_ lx_ x
    replace z := carryB k1_ lz_ z
    replace RW := Lib.hid (RW.out.below k1_)
    replace SO := Lib.hid (SO.out.below k1_)
    replace K := below_next K k1_
    replace hs := Nat.le_trans hs k1_.size
    clear k1_ lx_ lz_
    have hsd2 : sd.length ≤ 1100 := by omega
    have cx := cell_of_block x
    have fx := unfrozen_of_block x
    have lx := lt_of_block x
    have cz := cell_of_block z
    have fz := unfrozen_of_block z
    have lz := lt_of_block z
    go_wp2_with (at_builtin; refine wpList_append_rowM rfl _ _ rfl (sd.length + 1) elmMg rfl rfl (RW.out.below ((Below.refl w2.heap.size w2).alloc (Nat.le_refl _) _)) (ys := [m.wth n1 n2 n3 n4 ys]) (fun z hz => List.mem_singleton.1 hz ▸ mg_one NL.out.out) (rows_of_block (R := Mg.cs) (zs := [m.wth n1 n2 n3 n4 ys]) (fun _ => rfl) (heap_alloc_new w2 _)) rfl rfl rfl (by simp only [maxLen]; omega) (by omega) (by simp; omega) ?_)
    intro a2 c2 V4 q2
    have hrb_ : ∀ g, rowBlk a cc = some g → W.heap.size ≤ g := fun g hg => (RW.out.blk hg).1
    have kA : Below w2.heap.size w2 (w2.alloc (.cells #[.int .i64 m.k, .int .i64 m.f, .int .i64 m.v, .int .i64 m.s, .int .i64 m.r.c, .int .i64 m.r.n, .int .i64 m.r.o, .int .i64 m.r.x, .int .i64 m.r.y, .slice n1 m.cl.length n2, .slice n3 m.vs.length n4] 34)) := (Below.refl w2.heap.size w2).alloc (Nat.le_refl _) _
    have k4 : Below W.heap.size w2 V4 := (kA.mono hs).trans (q2.below (by simp; omega) hrb_)
    clear cx fx lx cz fz lz
    replace x := carryB k4 (by omega) x
    replace z := carryB k4 (by omega) z
    have SO2 := Lib.hid (((SO.out.and NL.out).imp (G := fun V => ∀ m' ∈ sd ++ [m.wth n1 n2 n3 n4 ys], m'.ok V) (fun V h m' hm => (List.mem_append.1 hm).elim (h.1 m') (fun h' => List.mem_singleton.1 h' ▸ h.2))).below kA |>.appendedX q2)
    have RW2 := Lib.hid q2.row
    have MF2 := Lib.hid (fit_snoc MF.out FN.out)
    replace K := K.trans (k4.mono (by omega))
    replace hs := Nat.le_trans hs k4.size
    have X_ := Lib.hid x
    have Z_ := Lib.hid z
    have K_ := Lib.hid K
    clear k4 kA q2 hrb_ SO RW MF NL FN x z K
    go_wp2_with fail
    go_roundw
    case rel => exact ⟨k + 1, a2, c2, sd ++ [m.wth n1 n2 n3 n4 ys], by omega, by go_num, by simp, X_.out, Z_.out, RW2.out, SO2.out, MF2.out, by simp; omega, hs, K_.out⟩
    case measure => simp [intOf]; omega
  ·
   have hkf : ¬ ((k : Int) < (ls.length : Int)) := by omega
   obtain ⟨p, hp⟩ : ∃ q, decide ((100 : Int) < (sd.length : Int)) = q := ⟨_, rfl⟩
   have cx := cell_of_block x
   have fx := unfrozen_of_block x
   have lx := lt_of_block x
   have cz := cell_of_block z
   have fz := unfrozen_of_block z
   have lz := lt_of_block z
   cases p with
   | true =>
    go_wp2_with fail
    refine bodyPost_ret (v := .tuple #[.agg #[.int .i64 u.bad, .slice u.ra u.rp.length u.rc, .slice u.sa u.sd.length u.sc], .bool false]) (by simp [results, Try.results84, go_sem, cz]) rfl ?_
    exact ⟨u, false, rfl, HO.out.below (by repeat' (first | with_reducible exact Below.refl _ _ | with_reducible assumption | with_reducible refine Below.alloc ?_ ?_ _ | with_reducible refine Below.drew ?_ | with_reducible refine Below.setCell ?_ ?_ _ | omega | (simp; omega) | (simp; done))), HF.out, (by repeat' (first | with_reducible exact Below.refl _ _ | with_reducible assumption | with_reducible refine Below.alloc ?_ ?_ _ | with_reducible refine Below.drew ?_ | with_reducible refine Below.setCell ?_ ?_ _ | omega | (simp; omega) | (simp; done)))⟩
   | false =>
    have hsd100 : sd.length ≤ 100 := by have := of_decide_eq_false hp; omega
    go_wp2_with fail
    refine bodyPost_ret (v := .tuple #[.agg #[.int .i64 u.bad, .slice u.ra u.rp.length u.rc, .slice a sd.length cc], .bool true]) (by simp [results, Try.results84, go_sem, cz]) rfl ?_
    refine ⟨⟨u.bad, u.ra, u.rc, u.rp, a, cc, sd⟩, true, rfl, fun V' hV' => ⟨((HO.out.below (by repeat' (first | with_reducible exact Below.refl _ _ | with_reducible assumption | with_reducible refine Below.alloc ?_ ?_ _ | with_reducible refine Below.drew ?_ | with_reducible refine Below.setCell ?_ ?_ _ | omega | (simp; omega) | (simp; done)))) V' hV').1, ((HO.out.below (by repeat' (first | with_reducible exact Below.refl _ _ | with_reducible assumption | with_reducible refine Below.alloc ?_ ?_ _ | with_reducible refine Below.drew ?_ | with_reducible refine Below.setCell ?_ ?_ _ | omega | (simp; omega) | (simp; done)))) V' hV').2.1, ?_, ?_⟩, ⟨HF.out.four, HF.out.rp, hsd100, MF.out⟩, (by repeat' (first | with_reducible exact Below.refl _ _ | with_reducible assumption | with_reducible refine Below.alloc ?_ ?_ _ | with_reducible refine Below.drew ?_ | with_reducible refine Below.setCell ?_ ?_ _ | omega | (simp; omega) | (simp; done)))⟩
    ·
     refine Rob.ofLo (B := W.heap.size) (F := fun V' => IsSl V' (.slice a sd.length cc) 11 Mg.cs sd) ?_ (fun b hb => hlt b (hsub b hb)) V' hV'
     have h1 : Rob (Lo W.heap.size) (fun V' => IsSl V' (.slice a sd.length cc) 11 Mg.cs sd) wr := RW.out.rob eleven_len
     repeat' (first | with_reducible exact h1 | refine Rob.set ?_ (by simp only; omega) _)
    ·
     refine Rob.weak (X := OwX X1 a cc) (F := fun V' => ∀ m ∈ sd, m.ok V') ?_ (fun b hb => .inl (hsub b hb)) V' hV'
     have hR := SO.out
     repeat' (first | with_reducible exact hR | refine Rob.setX ?_ (.inl (hin _ (by simp only; omega) (by simp only; omega))) _)
end Go.Proofs.Ytgdhieffjflejaa

/-! L6B -/
namespace Go.Proofs.Ytgdhieffjflejaa
open Go.RowKit Go.Joins

theorem Row.setRkW {w : World} {B : Nat} {e : TypeId} {cap : Nat} {zs : List Rk} {i g : Nat} (h : Row w B e (some ⟨g, 0, none⟩) cap 7 Rk.cs zs) (hi : i < zs.length) (me : Int) (rv : Int) (rl : Bool) (rx : Int) (ta : Option Addr) (tc : Nat) (tk : List Cl) (ha : Option Addr) (hc : Nat) (hd : List Mg) (da : Option Addr) (dc : Nat) (dn : List Cl) :
  ∃ W, W = (((((((w.setCell ⟨g, i * 7, none⟩ (.int .i64 me)).setCell ⟨g, i * 7 + 1, none⟩ (.int .i64 rv)).setCell ⟨g, i * 7 + 2, none⟩ (.bool rl)).setCell ⟨g, i * 7 + 3, none⟩ (.int .i64 rx)).setCell ⟨g, i * 7 + 4, none⟩ (.slice ta tk.length tc)).setCell ⟨g, i * 7 + 5, none⟩ (.slice ha hd.length hc)).setCell ⟨g, i * 7 + 6, none⟩ (.slice da dn.length dc)) ∧
   W.heap.size = w.heap.size ∧ (∀ b, b ≠ g → W.heap[b]? = w.heap[b]?) ∧ Below g w W ∧ Row W B e (some ⟨g, 0, none⟩) cap 7 Rk.cs (zs.set i ⟨me, rv, rl, rx, ta, tc, tk, ha, hc, hd, da, dc, dn⟩) := by
 have hr := h.setRk hi ⟨me, rv, rl, rx, ta, tc, tk, ha, hc, hd, da, dc, dn⟩ rfl
 rw [Nat.add_zero] at hr
 refine ⟨_, rfl, by simp [World.setCell], fun b hb => ?_, ?_, hr⟩
 ·
  repeat rw [Below.heap_setCell _ _ _ b (by simpa using hb)]
 ·
  repeat' (first | with_reducible exact Below.refl _ _ | with_reducible refine Below.setCell ?_ ?_ _ | exact Nat.le_refl _)

set_option maxRecDepth 100000 in
set_option maxHeartbeats 16000000 in
theorem l6Set_c (X : Nat → Prop) (T D : Nat) (u : Wd) (r : Rk) (vb : Value) (ls : List Mg) (w : World) (h : Rob X u.ok w) (hf : u.fit T D) (hr : Rob X r.ok w) (hrf : r.fit T D) (hl : IsMs w vb ls) (hlf : MsFit ls) (hll : ls.length ≤ 1000) (hX : ∀ b, X b → b < w.heap.size) :
  Calls Try.prog 86 #[.agg #[.int .i64 u.bad, .slice u.ra u.rp.length u.rc, .slice u.sa u.sd.length u.sc], .agg #[.int .i64 r.me, .int .i64 r.view, .bool r.live, .int .i64 r.nx, .slice r.ta r.tk.length r.tc, .slice r.ha r.hd.length r.hc, .slice r.da r.dn.length r.dc], vb] w (WorldSays X T D w) := by
 have HO := Lib.hid h
 have HF := Lib.hid hf
 have HR := Lib.hid hr
 have HRF := Lib.hid hrf
 have HL := Lib.hid hl
 have HLF := Lib.hid hlf
 obtain ⟨⟨la, lc, rfl, -⟩, -⟩ := hl
 have HRP := Lib.hid h.out.1.bounds.2.2.2
 have h4 := hf.four
 have H4 := Lib.hid h4
 obtain ⟨me, rv, rl, rx, ta, tc, tk, ha, hc, hd, da, dc, dn⟩ := r
 obtain ⟨jm, rfl⟩ : ∃ j : Nat, me = (j : Int) := ⟨me.toNat, (Int.toNat_of_nonneg hrf.me0).symm⟩
 have hj4 : jm < 4 := by have h3 : ((jm : Nat) : Int) ≤ 3 := hrf.me3; omega
 have hj0 : (0 : Int) ≤ (jm : Int) := by omega
 clear h hf hr hrf hlf h4
 simp only
 go_enter Try.func86, Try.ntmps86
 go_upto_region 1 with fail
 obtain ⟨W, hW_, sW, x, y, z, kW⟩ := blocks3 w (.cells #[.int .i64 u.bad, .slice u.ra u.rp.length u.rc, .slice u.sa u.sd.length u.sc] 50) (.cells #[.int .i64 (jm : Int), .int .i64 rv, .bool rl, .int .i64 rx, .slice ta tk.length tc, .slice ha hd.length hc, .slice da dn.length dc] 78) (.cells #[.int .i64 0, .slice none 0 0, .slice none 0 0] 50)
 rw [← hW_]
 clear hW_
 have hsW : w.heap.size + 3 ≤ W.heap.size := by omega
 obtain ⟨X1, hlt, hin, hsub, hbx⟩ : ∃ X1 : Nat → Prop, (∀ b, X1 b → b < W.heap.size) ∧ (∀ b, w.heap.size ≤ b → b < W.heap.size → X1 b) ∧ (∀ b, X b → X1 b) ∧ ∀ (F : World → Prop) (V : World), Below w.heap.size w V → Rob X F w → Rob X1 F V :=
  ⟨Bx X w.heap.size W.heap.size, Bx.lt hX (by omega), fun b h1 h2 => .inr ⟨h1, h2⟩, fun b hb => .inl hb, fun F V hV hF => hF.box hV _⟩
 clear sW
 have K := kW
 have hs := Nat.le_refl W.heap.size
 clear kW
 have cx := cell_of_block x
 have fx := unfrozen_of_block x
 have lx := lt_of_block x
 have cy := cell_of_block y
 have fy := unfrozen_of_block y
 have ly := lt_of_block y
 have cz := cell_of_block z
 have fz := unfrozen_of_block z
 have lz := lt_of_block z
 go_wp2_with fail
 refine (l6Say_c X1 T D u _ ls W (hbx _ _ K HO.out) HF.out (HL.out.below K) HLF.out hll hlt).mono ?_
 rintro e V ⟨u2, b, rfl, hu2, hf2, k1_⟩
 clear cx fx lx cy fy ly cz fz lz
 have U2 := Lib.hid hu2
 have F2 := Lib.hid hf2
 clear hu2 hf2
 have lx_ := lt_of_block x
 have ly_ := lt_of_block y
 have lz_ := lt_of_block z
 replace x := carryB k1_ lx_ x
 replace y := carryB k1_ ly_ y
 replace z := carryB k1_ lz_ z
 replace K := below_next K k1_
 replace hs := Nat.le_trans hs k1_.size
 clear k1_ lx_ ly_ lz_
 have cx := cell_of_block x
 have fx := unfrozen_of_block x
 have lx := lt_of_block x
 have cy := cell_of_block y
 have fy := unfrozen_of_block y
 have ly := lt_of_block y
 have cz := cell_of_block z
 have fz := unfrozen_of_block z
 have lz := lt_of_block z
 go_upto_region 2 with fail
 obtain ⟨V1, hV_, sV1, p, k1_⟩ := blocks1 V (.cells #[.int .i64 u2.bad, .slice u2.ra u2.rp.length u2.rc, .slice u2.sa u2.sd.length u2.sc] 50)
 rw [← hV_]
 clear hV_
 clear cx fx lx cy fy ly cz fz lz
 have hpg : V.heap.size < V1.heap.size := by omega
 have hpW : W.heap.size ≤ V.heap.size := hs
 replace U2 := Lib.hid (U2.out.box k1_ V1.heap.size)
 have lx_ := lt_of_block x
 have ly_ := lt_of_block y
 have lz_ := lt_of_block z
 replace x := carryB k1_ lx_ x
 replace y := carryB k1_ ly_ y
 replace z := carryB k1_ lz_ z
 replace K := below_next K k1_
 replace hs := Nat.le_trans hs k1_.size
 clear k1_ lx_ ly_ lz_
 clear sV1
 generalize V.heap.size = g at *
 have cx := cell_of_block x
 have fx := unfrozen_of_block x
 have lx := lt_of_block x
 have cy := cell_of_block y
 have fy := unfrozen_of_block y
 have ly := lt_of_block y
 have cz := cell_of_block z
 have fz := unfrozen_of_block z
 have lz := lt_of_block z
 have cp := cell_of_block p
 have fp := unfrozen_of_block p
 have lp := lt_of_block p
 cases b with
 | false =>
  go_wp2_with fail
  refine bodyPost_ret (v := .tuple #[.agg #[.int .i64 u.bad, .slice u.ra u.rp.length u.rc, .slice u.sa u.sd.length u.sc], .bool false]) (by simp [results, Try.results86, go_sem, cz]) rfl ?_
  exact ⟨u, false, rfl, HO.out.below (by repeat' (first | with_reducible exact Below.refl _ _ | with_reducible assumption | with_reducible refine Below.alloc ?_ ?_ _ | with_reducible refine Below.drew ?_ | with_reducible refine Below.setCell ?_ ?_ _ | omega | (simp; omega) | (simp; done))), HF.out, (by repeat' (first | with_reducible exact Below.refl _ _ | with_reducible assumption | with_reducible refine Below.alloc ?_ ?_ _ | with_reducible refine Below.drew ?_ | with_reducible refine Below.setCell ?_ ?_ _ | omega | (simp; omega) | (simp; done)))⟩
 | true =>
  go_wp2_with (at_builtin; refine wpList_append_newM V1.heap.size rfl _ _ rfl elmRk rfl rfl (fun z _ => rk_one z) (HRP.out.below (K.trans ((Below.refl V1.heap.size V1).alloc (Nat.le_refl _) _ |>.mono (by omega)))) (by rfl) (by simp only [maxLen]; have := H4.out; omega) (by have := H4.out; omega) (by simp) ?_)
  intro a0 c0 V2 q0
  have kA : Below V1.heap.size V1 V2 := ((Below.refl V1.heap.size V1).alloc (Nat.le_refl _) _).trans (q0.below.mono (by simp))
  have RW := Lib.hid q0.row
  clear q0
  clear cx fx lx cy fy ly cz fz lz cp fp lp
  have lz_ := lt_of_block z
  have ly_ := lt_of_block y
  have lp_ := lt_of_block p
  replace x := carryB kA (lt_of_block x) x
  replace y := carryB kA ly_ y
  replace z := carryB kA lz_ z
  replace p := carryB kA lp_ p
  have AG := Lib.hid (Agree.below (X := Bx X1 g V1.heap.size) kA)
  replace K := K.trans (kA.mono (by omega))
  replace hs := Nat.le_trans hs kA.size
  have hg2 : g < V2.heap.size := Nat.lt_of_lt_of_le hpg kA.size
  clear kA lz_ ly_ lp_
  have hn1 : ¬ (g = w.heap.size) := by omega
  have hn2 : ¬ (w.heap.size = g) := by omega
  have hn3 : ¬ (g = w.heap.size + 1) := by omega
  have hn4 : ¬ (w.heap.size + 1 = g) := by omega
  have hn5 : ¬ (g = w.heap.size + 1 + 1) := by omega
  have hn6 : ¬ (w.heap.size + 1 + 1 = g) := by omega
  have cx := cell_of_block x
  have fx := unfrozen_of_block x
  have lx := lt_of_block x
  have cy := cell_of_block y
  have fy := unfrozen_of_block y
  have ly := lt_of_block y
  have cz := cell_of_block z
  have fz := unfrozen_of_block z
  have lz := lt_of_block z
  have cp := cell_of_block p
  have fp := unfrozen_of_block p
  have lp := lt_of_block p
  go_upto_region 5 with fail
  obtain ⟨V3, hV_, sV, pV, oV, kV⟩ := stored1 V2 g 1 (.slice a0 u.rp.length c0) p
  rw [← hV_]
  clear hV_
  clear cx fx lx cy fy ly cz fz lz cp fp lp
  replace x := (oV _ hn2).trans x
  replace y := (oV _ hn4).trans y
  replace z := (oV _ hn6).trans z
  replace RW := Lib.hid (RW.out.later sV oV (by omega))
  replace AG := Lib.hid (AG.out.trans (agree_set sV oV (.inr ⟨Nat.le_refl _, hpg⟩)))
  have p3 : V3.heap[g]? = some (.cells #[.int .i64 u2.bad, .slice a0 u.rp.length c0, .slice u2.sa u2.sd.length u2.sc] 50 (0, 0)) := by simpa using pV
  replace K := K.trans (kV.mono (by omega))
  replace hs : W.heap.size ≤ V3.heap.size := by omega
  replace hg2 : g < V3.heap.size := by omega
  clear p pV oV kV sV
  obtain ⟨g0, cur, rfl, hB0, hblk, hsz, -⟩ := RW.out.own (by have := RW.out.len; have := H4.out; omega)
  have hl0 : u.rp.length ≤ c0 := RW.out.len
  have hcs : 28 ≤ cur.size := by have := H4.out; omega
  have hg0 : g < g0 := Nat.lt_of_lt_of_le hpg hB0
  have hj4' : (jm : Int) < (u.rp.length : Int) := by have := H4.out; omega
  have ec : ∀ i, i < 28 → V3.cell? ⟨g0, i, none⟩ = some (cur.getD i undef) := fun i hi => by
   rw [cell_of_block hblk i, Array.getElem?_eq_getElem (by omega)]
   simp [Array.getD, show i < cur.size by omega]
  have e0 := ec (jm * 7 + 0) (by omega)
  have e1 := ec (jm * 7 + 1) (by omega)
  have e2 := ec (jm * 7 + 2) (by omega)
  have e3 := ec (jm * 7 + 3) (by omega)
  have e4 := ec (jm * 7 + 4) (by omega)
  have e5 := ec (jm * 7 + 5) (by omega)
  have e6 := ec (jm * 7 + 6) (by omega)
  rw [Nat.add_zero] at e0
  have ef := unfrozen_of_block hblk
  clear ec hsz hcs
  have cx := cell_of_block x
  have fx := unfrozen_of_block x
  have lx := lt_of_block x
  have cy := cell_of_block y
  have fy := unfrozen_of_block y
  have ly := lt_of_block y
  have cz := cell_of_block z
  have fz := unfrozen_of_block z
  have lz := lt_of_block z
  have cp3 := cell_of_block p3
  have fp3 := unfrozen_of_block p3
  have lp3 := lt_of_block p3
  go_upto_region 6 with fail
  obtain ⟨V4, hV_, sV, oV, kV, hrow⟩ := RW.out.setRkW (i := jm) (by have := H4.out; omega) jm rv rl rx ta tc tk ha hc hd da dc dn
  rw [← hV_]
  clear hV_
  clear cx fx lx cy fy ly cz fz lz cp3 fp3 lp3
  clear e0 e1 e2 e3 e4 e5 e6 ef hblk
  have RW4 := Lib.hid hrow
  replace x := (oV _ (by omega)).trans x
  replace y := (oV _ (by omega)).trans y
  replace z := (oV _ (by omega)).trans z
  replace p3 := (oV _ (by omega)).trans p3
  have hgW4 : W.heap.size ≤ g0 := by omega
  replace U2 := Lib.hid ((U2.out.next (show Agree (Bx X1 g V1.heap.size) V1 V4 from ⟨by have := AG.out.1; omega, fun b hb hx => (oV b (by omega)).trans (AG.out.2 b hb hx)⟩)).weak (X' := X1) (fun b hb => .inl hb))
  replace K := K.trans (kV.mono (by omega))
  replace hs : W.heap.size ≤ V4.heap.size := by omega
  have hs1 : W.heap.size ≤ V1.heap.size := by omega
  clear AG RW kV oV sV
  have cz := cell_of_block z
  have fz := unfrozen_of_block z
  have lz := lt_of_block z
  have cp3 := cell_of_block p3
  have fp3 := unfrozen_of_block p3
  have lp3 := lt_of_block p3
  go_wp2_with fail
  refine bodyPost_ret (v := .tuple #[.agg #[.int .i64 u2.bad, .slice (some ⟨g0, 0, none⟩) u.rp.length c0, .slice u2.sa u2.sd.length u2.sc], .bool true]) (by simp [results, Try.results86, go_sem, cz]) rfl ?_
  refine ⟨⟨u2.bad, some ⟨g0, 0, none⟩, c0, u.rp.set jm (⟨(jm : Int), rv, rl, rx, ta, tc, tk, ha, hc, hd, da, dc, dn⟩ : Rk), u2.sa, u2.sc, u2.sd⟩, true, by simp, fun V' hV' => ⟨?_, ?_, ?_⟩, ⟨by simpa using H4.out, fun r' hr' => (List.mem_or_eq_of_mem_set hr').elim (HF.out.rp r') (fun e => e ▸ HRF.out), F2.out.sd, F2.out.ms⟩, (by repeat' (first | with_reducible exact Below.refl _ _ | with_reducible assumption | with_reducible refine Below.alloc ?_ ?_ _ | with_reducible refine Below.drew ?_ | with_reducible refine Below.setCell ?_ ?_ _ | omega | (simp; omega) | (simp; done)))⟩
  ·
   refine Rob.ofLo (B := V1.heap.size) (F := fun V' => IsSl V' (.slice (some ⟨g0, 0, none⟩) (u.rp.set jm (⟨(jm : Int), rv, rl, rx, ta, tc, tk, ha, hc, hd, da, dc, dn⟩ : Rk)).length c0) 7 Rk.cs (u.rp.set jm (⟨(jm : Int), rv, rl, rx, ta, tc, tk, ha, hc, hd, da, dc, dn⟩ : Rk))) ?_ (fun b hb => Nat.lt_of_lt_of_le (hlt b (hsub b hb)) hs1) V' hV'
   have h1 : Rob (Lo V1.heap.size) (fun V' => IsSl V' (.slice (some ⟨g0, 0, none⟩) (u.rp.set jm (⟨(jm : Int), rv, rl, rx, ta, tc, tk, ha, hc, hd, da, dc, dn⟩ : Rk)).length c0) 7 Rk.cs (u.rp.set jm (⟨(jm : Int), rv, rl, rx, ta, tc, tk, ha, hc, hd, da, dc, dn⟩ : Rk))) V4 := RW4.out.rob rk_len
   repeat' (first | with_reducible exact h1 | refine Rob.set ?_ (by simp only; omega) _)
  ·
   intro r' hr'
   rcases List.mem_or_eq_of_mem_set hr' with h' | h'
   ·
    exact ((HO.out.below (by repeat' (first | with_reducible exact Below.refl _ _ | with_reducible assumption | with_reducible refine Below.alloc ?_ ?_ _ | with_reducible refine Below.drew ?_ | with_reducible refine Below.setCell ?_ ?_ _ | omega | (simp; omega) | (simp; done)))) V' hV').2.1 r' h'
   ·
    rw [h']
    exact (HR.out.below (by repeat' (first | with_reducible exact Below.refl _ _ | with_reducible assumption | with_reducible refine Below.alloc ?_ ?_ _ | with_reducible refine Below.drew ?_ | with_reducible refine Below.setCell ?_ ?_ _ | omega | (simp; omega) | (simp; done)))) V' hV'
  ·
   refine (Rob.weak (X := X1) (F := u2.ok) ?_ (fun b hb => hsub b hb) V' hV').2.2
   have hR := U2.out
   repeat' (first | with_reducible exact hR | refine Rob.setX ?_ (hin _ (by simp only; omega) (by simp only; omega)) _)
end Go.Proofs.Ytgdhieffjflejaa
