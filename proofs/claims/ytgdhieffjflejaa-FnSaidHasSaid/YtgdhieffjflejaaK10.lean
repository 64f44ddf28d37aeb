/- What a keeper takes for votes (l5Votes); condition: small sizes. -/
import Derived.Test.YtgdhieffjflejaaK9
set_option linter.unusedSimpArgs false
set_option linter.unusedVariables false
namespace Go.Proofs.Ytgdhieffjflejaa
open Go.RowKit Go.Joins

theorem BlkIs.lt {g : Nat} {cs : Array Value} {t : TypeId} {w : World} (h : BlkIs g cs t w) : g < w.heap.size := lt_of_block h
theorem stored2 (w : World) (g : Nat) (o0 o1 v0 v1 : Value) {t : TypeId} (h : w.heap[g]? = some (.cells #[o0, o1] t (0, 0))) :
    ∃ W, W = (w.setCell ⟨g, 0, none⟩ v0).setCell ⟨g, 1, none⟩ v1 ∧ W.heap.size = w.heap.size ∧ W.heap[g]? = some (.cells #[v0, v1] t (0, 0)) ∧ (∀ b, b ≠ g → W.heap[b]? = w.heap[b]?) ∧ Below g w W := by
  obtain ⟨W0, h0, s0, a0, n0, k0⟩ := stored1 w g 0 v0 h
  obtain ⟨W1, h1, s1, a1, n1, k1⟩ := stored1 W0 g 1 v1 a0
  exact ⟨W1, by rw [h1, h0], by omega, by simpa using a1, fun b hb => (n1 b hb).trans (n0 b hb), k0.trans k1⟩
/-- At most three votes, in rows of their own. -/
def VotesOf (w : World) (e : Ending) (w' : World) : Prop :=
  ∃ (a : Option Addr) (c : Nat) (vs : List Vx), e = .returned (.slice a vs.length c) ∧ vs.length ≤ 3 ∧ VsFit vs ∧ Rob (Lo w.heap.size) (fun V => IsVs V (.slice a vs.length c) vs) w' ∧ Below w.heap.size w w'

set_option maxRecDepth 100000 in
set_option maxHeartbeats 16000000 in
theorem l5Votes_c (T D : Nat) (r : Rk) (view : Int) (va : Value) (ms : List Mg) (w : World) (h : r.ok w) (hf : r.fit T D) (hm : IsMs w va ms) (hmf : MsFit ms) :
    Calls Try.prog 107 #[.agg #[.int .i64 r.me, .int .i64 r.view, .bool r.live, .int .i64 r.nx, .slice r.ta r.tk.length r.tc, .slice r.ha r.hd.length r.hc, .slice r.da r.dn.length r.dc], .int .i64 view, va] w (VotesOf w) := by
  have HF := Lib.hid hf
  have HM := Lib.hid hm
  have HMF := Lib.hid hmf
  obtain ⟨⟨as_, cs_, rfl, -⟩, -⟩ := hm
  obtain ⟨-, hlc, hmx, hrt⟩ := h.2.1.1.bounds
  have HT := Lib.hid hrt
  have HC := Lib.hid h.2.1.2
  have hn120 : r.hd.length ≤ 120 := hf.hd
  unfold maxLen at hmx
  clear h hf hrt hmf
  go_enter Try.func107, Try.ntmps107
  go_upto_region 1 with fail
  obtain ⟨W, hW_, sW, x, kW⟩ := blocks1 w (.cells #[.int .i64 r.me, .int .i64 r.view, .bool r.live, .int .i64 r.nx, .slice r.ta r.tk.length r.tc, .slice r.ha r.hd.length r.hc, .slice r.da r.dn.length r.dc] 78)
  rw [← hW_]
  clear hW_
  have hsW : w.heap.size + 1 ≤ W.heap.size := by omega
  go_upto_region 2 with fail
  obtain ⟨V, hV_, sV, nV, kV⟩ := blocks1 W (.cells #[] 65)
  rw [← hV_]
  clear hV_ sV nV sW
  replace x := carryB kV (lt_of_block x) x
  have K := below_next kW kV
  have hs : W.heap.size ≤ V.heap.size := kV.size
  clear kW kV
  go_wp2_with fail
  go_loopw [7, 8] (fun st i wr => ∃ (j : Nat) (a : Option Addr) (cc : Nat) (vs : List Vx), j ≤ 4 ∧ i = .int .i64 j ∧ st = .slice a vs.length cc ∧ vs.length ≤ 3 ∧ VsFit vs ∧ Row wr W.heap.size 65 a cc 2 Vx.cs vs ∧ Rob (Ow W.heap.size a cc) (fun V => ∀ z ∈ vs, IsSl V z.sl 7 Cl.cs z.cl) wr ∧ wr.heap[w.heap.size]? = some (.cells #[.int .i64 r.me, .int .i64 r.view, .bool r.live, .int .i64 r.nx, .slice r.ta r.tk.length r.tc, .slice r.ha r.hd.length r.hc, .slice r.da r.dn.length r.dc] 78 (0, 0)) ∧ W.heap.size ≤ wr.heap.size ∧ Below w.heap.size w wr) (fun _ i _ => 4 - (intOf i).toNat)
  case atStart => exact ⟨0, some ⟨w.heap.size + 1, 0, none⟩, 0, [], by omega, rfl, rfl, Nat.zero_le _, ⟨Nat.zero_le _, fun z hz => nomatch hz⟩, Row.nil _ _ _ _ _ _, (fun V hV z hz => nomatch hz), x, hs, K⟩
  case round =>
    clear x K hs
    obtain ⟨j, a, cc, vs, hj, rfl, rfl, hv3, hvf, hRow, hCL, x, hs, K⟩ := hrel
    by_cases hj4 : j < 4
    · have hj1 : (j : Int) < 4 := by omega
      have hj0 : (0 : Int) ≤ (j : Int) := by omega
      go_wp2_with fail
      go_loopw [7, 9, 10] (fun st f i wr => ∃ (m : Nat) (g : Bool) (a : Option Addr) (cc : Nat) (vs : List Vx), m ≤ r.hd.length ∧ i = .int .i64 m ∧ f = .bool g ∧ st = .slice a vs.length cc ∧ vs.length ≤ 3 ∧ VsFit vs ∧ Row wr W.heap.size 65 a cc 2 Vx.cs vs ∧ Rob (Ow W.heap.size a cc) (fun V => ∀ z ∈ vs, IsSl V z.sl 7 Cl.cs z.cl) wr ∧ wr.heap[w.heap.size]? = some (.cells #[.int .i64 r.me, .int .i64 r.view, .bool r.live, .int .i64 r.nx, .slice r.ta r.tk.length r.tc, .slice r.ha r.hd.length r.hc, .slice r.da r.dn.length r.dc] 78 (0, 0)) ∧ W.heap.size ≤ wr.heap.size ∧ Below w.heap.size w wr) (fun _ _ i _ => r.hd.length - (intOf i).toNat)
      case atStart => exact ⟨0, false, a, cc, vs, Nat.zero_le _, rfl, rfl, rfl, hv3, hvf, hRow, hCL, x, hs, K⟩
      case round =>
        clear x K hs hRow hCL hvf hv3
        obtain ⟨m, g, a, cc, vs, hm', rfl, rfl, rfl, hv3, hvf, hRow, hCL, x, hs, K⟩ := hrel
        have RW := Lib.hid hRow
        have CLS := Lib.hid hCL
        have VF := Lib.hid hvf
        clear hRow hCL hvf
        by_cases hmq : m < r.hd.length
        · have hm1 : (m : Int) < (r.hd.length : Int) := by omega
          have hm0 : (0 : Int) ≤ (m : Int) := by omega
          cases g with
          | true =>
            have cx := cell_of_block x
            have fx := unfrozen_of_block x
            have lx := lt_of_block x
            go_wp2_with fail
            clear cx fx lx
            go_roundw
            case rel => exact ⟨j + 1, a, cc, vs, by omega, by go_num, rfl, hv3, VF.out, RW.out, CLS.out, x, hs, K⟩
            case measure => simp [intOf]; omega
          | false =>
            by_cases h3 : vs.length < 3
            · have h31 : (vs.length : Int) < 3 := by omega
              obtain ⟨b1, o1, ea, hl1, hd0⟩ := mg_at HT.out m hmq
              obtain ⟨d0, d1, d2, d3, d4, d5, d6, d7, d8, d9, d10⟩ := hd0 wr K
              have SX := (HC.out r.hd[m] (List.getElem_mem hmq)).below K
              have UF := Lib.hid (HF.out.ms r.hd[m] (List.getElem_mem hmq))
              clear hd0
              generalize r.hd[m] = u at *
              obtain ⟨⟨ax, qx, ex, hxl, hxm, hxr⟩, ⟨bx, dx, fx, -⟩, -⟩ := SX
              rw [ex] at d9
              rw [fx] at d10
              have XR := Lib.hid hxr
              have hx8 : u.cl.length ≤ 8 := UF.out.1.1
              clear ex fx hxr hxm
              have EA := Lib.hid ea
              rw [ea] at x
              clear ea
              have cx := cell_of_block x
              have fx := unfrozen_of_block x
              have lx := lt_of_block x
              go_upto_region 10 with fail
              obtain ⟨U, hV, sV, v, kV⟩ := blocks1 wr (.cells #[.int .i64 u.k, .int .i64 u.f, .int .i64 u.v, .int .i64 u.s, .int .i64 u.r.c, .int .i64 u.r.n, .int .i64 u.r.o, .int .i64 u.r.x, .int .i64 u.r.y, .slice ax u.cl.length qx, .slice bx u.vs.length dx] 34)
              rw [← hV]
              clear hV d0 d1 d2 d3 d4 d5 d6 d7 d8 d9 d10
              clear cx fx lx
              rw [← EA.out] at x
              clear EA hl1
              replace x := carryB kV (lt_of_block x) x
              replace RW := Lib.hid (RW.out.below kV)
              replace CLS := Lib.hid (CLS.out.below kV)
              replace XR := Lib.hid (XR.out.below kV)
              replace K := below_next K kV
              replace hs := Nat.le_trans hs kV.size
              clear kV sV
              have hBW := Nat.le_refl U.heap.size
              have cv := cell_of_block v
              have fv := unfrozen_of_block v
              have lv := lt_of_block v
              refine wp_region_L (fun w' => ((∀ b o, b < U.heap.size → (w').cell? ⟨b, o, none⟩ = (U).cell? ⟨b, o, none⟩) ∧ Below (U.heap.size) (U) (w'))) [] (by kernel_rfl) ?_
              obtain ⟨U_0, hw_, kw_⟩ : ∃ wd, wd = U.drew ∧ Below U.heap.size U wd := ⟨_, rfl, Below.drew (Below.refl _ _)⟩
              rw [← hw_]
              clear hw_
              have hS := KeptB.of (kw_.mono hBW)
              clear kw_
              refine wpAnyL_take (i := 0) (oi := _) (v := ?_) (by (simp only [List.getElem?_toArray]; rfl)) (by kernel_rfl) (by kernel_rfl) (by kernel_rfl) (by kernel_rfl) (by exact fun _ _ _ h => h) (Or.inl ⟨by rfl, ?_⟩) (by assumption) ?_
              rotate_left
              · intro wS hSw
                go_simp
                all_goals first | with_reducible rfl | rw [if_neg (by omega)]
              simp only [Act.put, List.setIfInBounds_toArray, List.set]
              refine wpAnyL_take (i := 1) (oi := _) (v := ?_) (by (simp only [List.getElem?_toArray]; rfl)) (by kernel_rfl) (by kernel_rfl) (by kernel_rfl) (by kernel_rfl) (by exact fun _ _ _ h => h) (Or.inl ⟨by rfl, ?_⟩) (by assumption) ?_
              rotate_left
              · intro wS hSw
                go_simp
                all_goals first | with_reducible rfl | rw [if_neg (by omega)]
              simp only [Act.put, List.setIfInBounds_toArray, List.set]
              refine wpAnyL_take (i := 3) (oi := _) (v := ?_) (by (simp only [List.getElem?_toArray]; rfl)) (by kernel_rfl) (by kernel_rfl) (by kernel_rfl) (by kernel_rfl) (by exact fun _ _ _ h => h) (Or.inl ⟨by rfl, ?_⟩) (by assumption) ?_
              rotate_left
              · intro wS hSw
                go_simp
                all_goals first | with_reducible rfl | rw [if_neg (by omega)]
              simp only [Act.put, List.setIfInBounds_toArray, List.set]
              refine wpAnyL_take (i := 4) (oi := _) (v := ?_) (by (simp only [List.getElem?_toArray]; rfl)) (by kernel_rfl) (by kernel_rfl) (by kernel_rfl) (by kernel_rfl) (by exact fun _ _ _ h => h) (Or.inl ⟨by rfl, ?_⟩) (by assumption) ?_
              rotate_left
              · intro wS hSw
                go_simp
                all_goals first | with_reducible rfl | rw [if_neg (by omega)]
              simp only [Act.put, List.setIfInBounds_toArray, List.set]
              refine wpAnyL_ready (rs := [2, 7]) (by kernel_rfl) (by simp) ?_
              refine AllReadyL.cons (o := _) (by (simp only [List.getElem?_toArray]; rfl)) (fun K hK => ?_) ?_
              · skip
                refine step_build0M (by rfl) (by rfl) elmCl ?_
                obtain ⟨U_1, hw_, kw_⟩ : ∃ V, V = U_0.alloc (.cells #[] 62) ∧ Below U_0.heap.size U_0 V := ⟨_, rfl, (Below.refl _ _).alloc (Nat.le_refl _) _⟩
                rw [← hw_]
                clear hw_
                have hRK : Below U.heap.size U U_1 := hS.2.trans (kw_.mono (Nat.le_trans hBW hS.2.size))
                clear hS
                have hS := KeptB.of hRK
                clear hRK
                clear kw_
                refine hK.out _ _ (fun _ => hS) ?_
                clear hK K
                try simp only [Act.put, List.setIfInBounds_toArray, List.set]
                refine wpAnyL_ready (rs := [5, 7]) (by kernel_rfl) (by simp) ?_
                refine AllReadyL.cons (o := _) (by (simp only [List.getElem?_toArray]; rfl)) (fun K hK => ?_) ?_
                · skip
                  have hqa_ : U.heap.size ≤ U_1.heap.size := Nat.le_trans hBW hS.2.size
                  refine step_append_newM U_1.heap.size (by rfl) (.tmp 41) (.tmp 43) (by rfl) elmCl (by rfl) (by rfl) (fun z _ => cl_one z) ((XR.out.below (hS.2.mono (Nat.le_refl _)))) rfl (by simp only [maxLen]; omega) (by omega) (Nat.le_refl _) ?_
                  intro a2 c2 U_2 q_
                  have hq_ : U.heap.size ≤ U_1.heap.size := Nat.le_trans hBW hS.2.size
                  have kw_ := q_.below
                  have hRK : Below U.heap.size U U_2 := hS.2.trans (kw_.mono (Nat.le_trans hBW hS.2.size))
                  clear hS
                  have hS := KeptB.of hRK
                  clear hRK
                  clear kw_
                  have NX := Lib.hid (q_.row.rob seven_len)
                  clear q_ hq_
                  refine hK.out _ _ (fun _ => hS) ?_
                  clear hK K
                  try simp only [Act.put, List.setIfInBounds_toArray, List.set]
                  refine wpAnyL_take (i := 6) (oi := _) (v := ?_) (by (simp only [List.getElem?_toArray]; rfl)) (by kernel_rfl) (by kernel_rfl) (by kernel_rfl) (by kernel_rfl) (by exact fun _ _ _ h => h) (Or.inl ⟨by rfl, ?_⟩) (by assumption) ?_
                  rotate_left
                  · intro wS hSw
                    go_simp
                    all_goals first | with_reducible rfl | rw [if_neg (by omega)]
                  simp only [Act.put, List.setIfInBounds_toArray, List.set]
                  refine wpAnyL_ready (rs := [7]) (by kernel_rfl) (by simp) ?_
                  refine AllReadyL.cons (o := _) (by (simp only [List.getElem?_toArray]; rfl)) (fun K hK => ?_) AllReadyL.nil
                  go_simp
                  obtain ⟨U_3, hw_, sw_, hv_, kw_⟩ := blocks1 U_2 (.cells #[.int .i64 0, .slice none 0 0] 65)
                  rw [← hw_]
                  clear hw_
                  have hgl_ : U_2.heap.size < U_3.heap.size := by omega
                  have hg0_ : U.heap.size ≤ U_2.heap.size := Nat.le_trans hBW hS.2.size
                  have hgX := Lib.hid (show BlkIs U_2.heap.size #[.int .i64 0, .slice none 0 0] 65 U_3 from hv_)
                  clear hv_ sw_
                  replace NX := Lib.hid (NX.out.box kw_ U_3.heap.size)
                  have hRK : Below U.heap.size U U_3 := hS.2.trans (kw_.mono (Nat.le_trans hBW hS.2.size))
                  clear hS
                  have hS := KeptB.of hRK
                  clear hRK
                  clear kw_
                  refine hK.out _ _ (fun _ => hS) ?_
                  clear hK K
                  try simp only [Act.put, List.setIfInBounds_toArray, List.set]
                  refine wpAnyL_ready (rs := [8]) (by kernel_rfl) (by simp) ?_
                  refine AllReadyL.cons (o := _) (by (simp only [List.getElem?_toArray]; rfl)) (fun K hK => ?_) AllReadyL.nil
                  have zq_ := hgX.out
                  unfold BlkIs at zq_
                  have cq_ := cell_of_block zq_
                  have fq_ := unfrozen_of_block zq_
                  have lq_ := lt_of_block zq_
                  go_simp
                  obtain ⟨Q1, hV_, sV_, x9, oV_, kV_⟩ := stored2 U_3 (U_2.heap.size) _ _ (.int .i64 u.f) (.slice a2 u.cl.length c2) zq_
                  rw [← hV_]
                  clear hV_
                  replace NX := Lib.hid (Rob.weak (X' := Lo U.heap.size) (NX.out.stored sV_ oV_ (by first | exact .inr ⟨hg0_, hgl_⟩ | exact .inr ⟨Nat.le_refl _, hgl_⟩ | exact hgq_)) (by first | exact fun b hb => .inl hb | exact fun b hb => .inl (.inl hb) | exact fun b hb => Nat.lt_of_lt_of_le hb hqa_ | exact fun b hb => .inl (Nat.lt_of_lt_of_le hb hqa_)))
                  have KQ := Lib.hid (hS.2.trans (kV_.mono hg0_))
                  replace hS := KeptB.of KQ.out
                  clear zq_ cq_ fq_ lq_ kV_ oV_ sV_ hgX
                  refine hK.out _ _ (fun _ => hS) ?_
                  clear hK K
                  try simp only [Act.put, List.setIfInBounds_toArray, List.set]
                  refine wpAnyL_done (by kernel_rfl) ?_ _
                  clear hS hgl_ hg0_
                  clear cv fv lv
                  have lv_ := lt_of_block v
                  have hrU : ∀ g, rowBlk a cc = some g → g < U.heap.size := fun g hg => (RW.out.blk hg).2
                  have hs0 := hs
                  replace x := carryB KQ.out (lt_of_block x) x
                  replace v := carryB KQ.out lv_ v
                  replace RW := Lib.hid (RW.out.below KQ.out)
                  replace CLS := Lib.hid (CLS.out.below KQ.out)
                  replace K := below_next K KQ.out
                  replace hs := Nat.le_trans hs KQ.out.size
                  clear KQ lv_ XR
                  obtain ⟨p1, PP1⟩ : ∃ q, (u.k == 5) = q := ⟨_, rfl⟩
                  obtain ⟨p2, PP2⟩ : ∃ q, (u.v == view) = q := ⟨_, rfl⟩
                  obtain ⟨p3, PP3⟩ : ∃ q, (u.f == (j : Int)) = q := ⟨_, rfl⟩
                  have cv := cell_of_block v
                  have fv := unfrozen_of_block v
                  have lv := lt_of_block v
                  have cx9 := cell_of_block x9
                  have fx9 := unfrozen_of_block x9
                  have lx9 := lt_of_block x9
                  cases p1 with
                  | false =>
                    have X_ := Lib.hid x
                    have K_ := Lib.hid K
                    clear x K
                    go_wp2_with fail
                    go_roundw
                    case rel => exact ⟨m + 1, false, a, cc, vs, by omega, by go_num, rfl, rfl, hv3, VF.out, RW.out, CLS.out, X_.out, hs, K_.out⟩
                    case measure => simp [intOf]; omega
                  | true =>
                    cases p2 with
                    | false =>
                      have X_ := Lib.hid x
                      have K_ := Lib.hid K
                      clear x K
                      go_wp2_with fail
                      go_roundw
                      case rel => exact ⟨m + 1, false, a, cc, vs, by omega, by go_num, rfl, rfl, hv3, VF.out, RW.out, CLS.out, X_.out, hs, K_.out⟩
                      case measure => simp [intOf]; omega
                    | true =>
                      cases p3 with
                      | false =>
                        have X_ := Lib.hid x
                        have K_ := Lib.hid K
                        clear x K
                        go_wp2_with fail
                        go_roundw
                        case rel => exact ⟨m + 1, false, a, cc, vs, by omega, by go_num, rfl, rfl, hv3, VF.out, RW.out, CLS.out, X_.out, hs, K_.out⟩
                        case measure => simp [intOf]; omega
                      | true =>
                        go_wp2_with fail
                        refine (l4Turn_w _ ms view u.f a2 u.cl.length c2 u.cl Q1 (HM.out.below K) HMF.out NX.out.out).mono ?_
                        rintro e U2 ⟨bt, rfl, k2_⟩
                        clear cv fv lv cx9 fx9 lx9
                        have lv_ := lt_of_block v
                        have l9_ := lt_of_block x9
                        replace x := carryB k2_ (lt_of_block x) x
                        replace v := carryB k2_ lv_ v
                        replace x9 := carryB k2_ l9_ x9
                        replace RW := Lib.hid (RW.out.below k2_)
                        replace CLS := Lib.hid (CLS.out.below k2_)
                        replace NX := Lib.hid (NX.out.below k2_)
                        replace K := below_next K k2_
                        replace hs := Nat.le_trans hs k2_.size
                        clear k2_ lv_ l9_
                        cases bt with
                        | false =>
                          have X_ := Lib.hid x
                          have K_ := Lib.hid K
                          clear x K
                          go_wp2_with fail
                          go_roundw
                          case rel => exact ⟨m + 1, false, a, cc, vs, by omega, by go_num, rfl, rfl, hv3, VF.out, RW.out, CLS.out, X_.out, hs, K_.out⟩
                          case measure => simp [intOf]; omega
                        | true =>
                          have cx9 := cell_of_block x9
                          have fx9 := unfrozen_of_block x9
                          have lx9 := lt_of_block x9
                          have hvl2 : vs.length ≤ 2 := by omega
                          go_wp2_with (at_builtin; refine wpList_append_rowM rfl _ _ rfl (vs.length + 1) elmVx rfl rfl (RW.out.below ((Below.refl U2.heap.size U2).alloc (Nat.le_refl _) _)) (ys := [⟨u.f, .slice a2 u.cl.length c2, u.cl⟩]) (fun z hz => by rw [List.mem_singleton.1 hz]; exact vx_one (w := U2) NX.out.out) (rows_of_block (R := Vx.cs) (zs := [⟨u.f, .slice a2 u.cl.length c2, u.cl⟩]) two_len (heap_alloc_new U2 _)) rfl rfl rfl (by simp only [maxLen]; omega) (by omega) (by simp; omega) ?_)
                          intro a3 c3 U3 q3
                          have hrb_ : ∀ g, rowBlk a cc = some g → W.heap.size ≤ g := fun g hg => (RW.out.blk hg).1
                          have kA : Below U2.heap.size U2 (U2.alloc (.cells #[.int .i64 u.f, .slice a2 u.cl.length c2] 65)) := (Below.refl U2.heap.size U2).alloc (Nat.le_refl _) _
                          have k3_ : Below W.heap.size U2 U3 := (kA.mono hs).trans (q3.below (by simp; omega) hrb_)
                          replace x := carryB k3_ (by omega) x
                          replace K := K.trans (k3_.mono (by omega))
                          replace hs := Nat.le_trans hs k3_.size
                          have NX2 : Rob (Ow W.heap.size a cc) (fun V => IsSl V (.slice a2 u.cl.length c2) 7 Cl.cs u.cl) U2 := NX.out.weak fun b hb => by
                            rcases hb with hb | hb
                            · exact Nat.lt_of_lt_of_le hb hs0
                            · exact hrU b hb
                          have CL2 := Lib.hid (((CLS.out.and NX2).imp (G := fun V => ∀ z ∈ vs ++ [⟨u.f, .slice a2 u.cl.length c2, u.cl⟩], IsSl V z.sl 7 Cl.cs z.cl) (fun V h z hz => (List.mem_append.1 hz).elim (h.1 z) (fun hz' => by rw [List.mem_singleton.1 hz']; exact h.2))).below kA |>.appended q3)
                          have RW2 := Lib.hid q3.row
                          have VF2 := Lib.hid (show VsFit (vs ++ [⟨u.f, .slice a2 u.cl.length c2, u.cl⟩]) from ⟨by simp; omega, fun z hz => (List.mem_append.1 hz).elim (VF.out.2 z) (fun hz' => by rw [List.mem_singleton.1 hz']; exact UF.out.1)⟩)
                          clear cx9 fx9 lx9
                          have X_ := Lib.hid x
                          have K_ := Lib.hid K
                          clear k3_ kA q3 hrb_ NX2 NX CLS RW VF x K v x9 PP1 PP2 PP3
                          go_wp2_with fail
                          go_roundw
                          case rel => exact ⟨m + 1, true, a3, c3, vs ++ [⟨u.f, .slice a2 u.cl.length c2, u.cl⟩], by omega, by go_num, rfl, by first | rfl | simp, by simp; omega, VF2.out, RW2.out, CL2.out, X_.out, hs, K_.out⟩
                          case measure => simp [intOf]; omega
                refine AllReadyL.cons (o := _) (by (simp only [List.getElem?_toArray]; rfl)) (fun K hK => ?_) ?_
                · skip
                  go_simp
                  obtain ⟨U_2, hw_, sw_, hv_, kw_⟩ := blocks1 U_1 (.cells #[.int .i64 0, .slice none 0 0] 65)
                  rw [← hw_]
                  clear hw_
                  have hgl_ : U_1.heap.size < U_2.heap.size := by omega
                  have hg0_ : U.heap.size ≤ U_1.heap.size := Nat.le_trans hBW hS.2.size
                  have hgX := Lib.hid (show BlkIs U_1.heap.size #[.int .i64 0, .slice none 0 0] 65 U_2 from hv_)
                  clear hv_ sw_
                  have hRK : Below U.heap.size U U_2 := hS.2.trans (kw_.mono (Nat.le_trans hBW hS.2.size))
                  clear hS
                  have hS := KeptB.of hRK
                  clear hRK
                  clear kw_
                  refine hK.out _ _ (fun _ => hS) ?_
                  clear hK K
                  try simp only [Act.put, List.setIfInBounds_toArray, List.set]
                  refine wpAnyL_ready (rs := [5]) (by kernel_rfl) (by simp) ?_
                  refine AllReadyL.cons (o := _) (by (simp only [List.getElem?_toArray]; rfl)) (fun K hK => ?_) AllReadyL.nil
                  have hgq_ := hgX.out.lt
                  have hqa_ : U.heap.size ≤ U_2.heap.size := Nat.le_trans hBW hS.2.size
                  refine step_append_newM U_2.heap.size (by rfl) (.tmp 41) (.tmp 43) (by rfl) elmCl (by rfl) (by rfl) (fun z _ => cl_one z) ((XR.out.below (hS.2.mono (Nat.le_refl _)))) rfl (by simp only [maxLen]; omega) (by omega) (Nat.le_refl _) ?_
                  intro a2 c2 U_3 q_
                  have hq_ : U.heap.size ≤ U_2.heap.size := Nat.le_trans hBW hS.2.size
                  have kw_ := q_.below
                  have hRK : Below U.heap.size U U_3 := hS.2.trans (kw_.mono (Nat.le_trans hBW hS.2.size))
                  clear hS
                  have hS := KeptB.of hRK
                  clear hRK
                  replace hgX := Lib.hid (hgX.out.below kw_)
                  clear kw_
                  have NX := Lib.hid (q_.row.rob seven_len)
                  clear q_ hq_
                  refine hK.out _ _ (fun _ => hS) ?_
                  clear hK K
                  try simp only [Act.put, List.setIfInBounds_toArray, List.set]
                  refine wpAnyL_take (i := 6) (oi := _) (v := ?_) (by (simp only [List.getElem?_toArray]; rfl)) (by kernel_rfl) (by kernel_rfl) (by kernel_rfl) (by kernel_rfl) (by exact fun _ _ _ h => h) (Or.inl ⟨by rfl, ?_⟩) (by assumption) ?_
                  rotate_left
                  · intro wS hSw
                    go_simp
                    all_goals first | with_reducible rfl | rw [if_neg (by omega)]
                  simp only [Act.put, List.setIfInBounds_toArray, List.set]
                  refine wpAnyL_ready (rs := [8]) (by kernel_rfl) (by simp) ?_
                  refine AllReadyL.cons (o := _) (by (simp only [List.getElem?_toArray]; rfl)) (fun K hK => ?_) AllReadyL.nil
                  have zq_ := hgX.out
                  unfold BlkIs at zq_
                  have cq_ := cell_of_block zq_
                  have fq_ := unfrozen_of_block zq_
                  have lq_ := lt_of_block zq_
                  go_simp
                  obtain ⟨Q1, hV_, sV_, x9, oV_, kV_⟩ := stored2 U_3 (U_1.heap.size) _ _ (.int .i64 u.f) (.slice a2 u.cl.length c2) zq_
                  rw [← hV_]
                  clear hV_
                  replace NX := Lib.hid (Rob.weak (X' := Lo U.heap.size) (NX.out.stored sV_ oV_ (by first | exact .inr ⟨hg0_, hgl_⟩ | exact .inr ⟨Nat.le_refl _, hgl_⟩ | exact hgq_)) (by first | exact fun b hb => .inl hb | exact fun b hb => .inl (.inl hb) | exact fun b hb => Nat.lt_of_lt_of_le hb hqa_ | exact fun b hb => .inl (Nat.lt_of_lt_of_le hb hqa_)))
                  have KQ := Lib.hid (hS.2.trans (kV_.mono hg0_))
                  replace hS := KeptB.of KQ.out
                  clear zq_ cq_ fq_ lq_ kV_ oV_ sV_ hgX
                  refine hK.out _ _ (fun _ => hS) ?_
                  clear hK K
                  try simp only [Act.put, List.setIfInBounds_toArray, List.set]
                  refine wpAnyL_done (by kernel_rfl) ?_ _
                  clear hS hgl_ hg0_
                  clear cv fv lv
                  have lv_ := lt_of_block v
                  have hrU : ∀ g, rowBlk a cc = some g → g < U.heap.size := fun g hg => (RW.out.blk hg).2
                  have hs0 := hs
                  replace x := carryB KQ.out (lt_of_block x) x
                  replace v := carryB KQ.out lv_ v
                  replace RW := Lib.hid (RW.out.below KQ.out)
                  replace CLS := Lib.hid (CLS.out.below KQ.out)
                  replace K := below_next K KQ.out
                  replace hs := Nat.le_trans hs KQ.out.size
                  clear KQ lv_ XR
                  obtain ⟨p1, PP1⟩ : ∃ q, (u.k == 5) = q := ⟨_, rfl⟩
                  obtain ⟨p2, PP2⟩ : ∃ q, (u.v == view) = q := ⟨_, rfl⟩
                  obtain ⟨p3, PP3⟩ : ∃ q, (u.f == (j : Int)) = q := ⟨_, rfl⟩
                  have cv := cell_of_block v
                  have fv := unfrozen_of_block v
                  have lv := lt_of_block v
                  have cx9 := cell_of_block x9
                  have fx9 := unfrozen_of_block x9
                  have lx9 := lt_of_block x9
                  cases p1 with
                  | false =>
                    have X_ := Lib.hid x
                    have K_ := Lib.hid K
                    clear x K
                    go_wp2_with fail
                    go_roundw
                    case rel => exact ⟨m + 1, false, a, cc, vs, by omega, by go_num, rfl, rfl, hv3, VF.out, RW.out, CLS.out, X_.out, hs, K_.out⟩
                    case measure => simp [intOf]; omega
                  | true =>
                    cases p2 with
                    | false =>
                      have X_ := Lib.hid x
                      have K_ := Lib.hid K
                      clear x K
                      go_wp2_with fail
                      go_roundw
                      case rel => exact ⟨m + 1, false, a, cc, vs, by omega, by go_num, rfl, rfl, hv3, VF.out, RW.out, CLS.out, X_.out, hs, K_.out⟩
                      case measure => simp [intOf]; omega
                    | true =>
                      cases p3 with
                      | false =>
                        have X_ := Lib.hid x
                        have K_ := Lib.hid K
                        clear x K
                        go_wp2_with fail
                        go_roundw
                        case rel => exact ⟨m + 1, false, a, cc, vs, by omega, by go_num, rfl, rfl, hv3, VF.out, RW.out, CLS.out, X_.out, hs, K_.out⟩
                        case measure => simp [intOf]; omega
                      | true =>
                        go_wp2_with fail
                        refine (l4Turn_w _ ms view u.f a2 u.cl.length c2 u.cl Q1 (HM.out.below K) HMF.out NX.out.out).mono ?_
                        rintro e U2 ⟨bt, rfl, k2_⟩
                        clear cv fv lv cx9 fx9 lx9
                        have lv_ := lt_of_block v
                        have l9_ := lt_of_block x9
                        replace x := carryB k2_ (lt_of_block x) x
                        replace v := carryB k2_ lv_ v
                        replace x9 := carryB k2_ l9_ x9
                        replace RW := Lib.hid (RW.out.below k2_)
                        replace CLS := Lib.hid (CLS.out.below k2_)
                        replace NX := Lib.hid (NX.out.below k2_)
                        replace K := below_next K k2_
                        replace hs := Nat.le_trans hs k2_.size
                        clear k2_ lv_ l9_
                        cases bt with
                        | false =>
                          have X_ := Lib.hid x
                          have K_ := Lib.hid K
                          clear x K
                          go_wp2_with fail
                          go_roundw
                          case rel => exact ⟨m + 1, false, a, cc, vs, by omega, by go_num, rfl, rfl, hv3, VF.out, RW.out, CLS.out, X_.out, hs, K_.out⟩
                          case measure => simp [intOf]; omega
                        | true =>
                          have cx9 := cell_of_block x9
                          have fx9 := unfrozen_of_block x9
                          have lx9 := lt_of_block x9
                          have hvl2 : vs.length ≤ 2 := by omega
                          go_wp2_with (at_builtin; refine wpList_append_rowM rfl _ _ rfl (vs.length + 1) elmVx rfl rfl (RW.out.below ((Below.refl U2.heap.size U2).alloc (Nat.le_refl _) _)) (ys := [⟨u.f, .slice a2 u.cl.length c2, u.cl⟩]) (fun z hz => by rw [List.mem_singleton.1 hz]; exact vx_one (w := U2) NX.out.out) (rows_of_block (R := Vx.cs) (zs := [⟨u.f, .slice a2 u.cl.length c2, u.cl⟩]) two_len (heap_alloc_new U2 _)) rfl rfl rfl (by simp only [maxLen]; omega) (by omega) (by simp; omega) ?_)
                          intro a3 c3 U3 q3
                          have hrb_ : ∀ g, rowBlk a cc = some g → W.heap.size ≤ g := fun g hg => (RW.out.blk hg).1
                          have kA : Below U2.heap.size U2 (U2.alloc (.cells #[.int .i64 u.f, .slice a2 u.cl.length c2] 65)) := (Below.refl U2.heap.size U2).alloc (Nat.le_refl _) _
                          have k3_ : Below W.heap.size U2 U3 := (kA.mono hs).trans (q3.below (by simp; omega) hrb_)
                          replace x := carryB k3_ (by omega) x
                          replace K := K.trans (k3_.mono (by omega))
                          replace hs := Nat.le_trans hs k3_.size
                          have NX2 : Rob (Ow W.heap.size a cc) (fun V => IsSl V (.slice a2 u.cl.length c2) 7 Cl.cs u.cl) U2 := NX.out.weak fun b hb => by
                            rcases hb with hb | hb
                            · exact Nat.lt_of_lt_of_le hb hs0
                            · exact hrU b hb
                          have CL2 := Lib.hid (((CLS.out.and NX2).imp (G := fun V => ∀ z ∈ vs ++ [⟨u.f, .slice a2 u.cl.length c2, u.cl⟩], IsSl V z.sl 7 Cl.cs z.cl) (fun V h z hz => (List.mem_append.1 hz).elim (h.1 z) (fun hz' => by rw [List.mem_singleton.1 hz']; exact h.2))).below kA |>.appended q3)
                          have RW2 := Lib.hid q3.row
                          have VF2 := Lib.hid (show VsFit (vs ++ [⟨u.f, .slice a2 u.cl.length c2, u.cl⟩]) from ⟨by simp; omega, fun z hz => (List.mem_append.1 hz).elim (VF.out.2 z) (fun hz' => by rw [List.mem_singleton.1 hz']; exact UF.out.1)⟩)
                          clear cx9 fx9 lx9
                          have X_ := Lib.hid x
                          have K_ := Lib.hid K
                          clear k3_ kA q3 hrb_ NX2 NX CLS RW VF x K v x9 PP1 PP2 PP3
                          go_wp2_with fail
                          go_roundw
                          case rel => exact ⟨m + 1, true, a3, c3, vs ++ [⟨u.f, .slice a2 u.cl.length c2, u.cl⟩], by omega, by go_num, rfl, by first | rfl | simp, by simp; omega, VF2.out, RW2.out, CL2.out, X_.out, hs, K_.out⟩
                          case measure => simp [intOf]; omega
                exact AllReadyL.nil
              refine AllReadyL.cons (o := _) (by (simp only [List.getElem?_toArray]; rfl)) (fun K hK => ?_) ?_
              · skip
                go_simp
                obtain ⟨U_1, hw_, sw_, hv_, kw_⟩ := blocks1 U_0 (.cells #[.int .i64 0, .slice none 0 0] 65)
                rw [← hw_]
                clear hw_
                have hgl_ : U_0.heap.size < U_1.heap.size := by omega
                have hg0_ : U.heap.size ≤ U_0.heap.size := Nat.le_trans hBW hS.2.size
                have hgX := Lib.hid (show BlkIs U_0.heap.size #[.int .i64 0, .slice none 0 0] 65 U_1 from hv_)
                clear hv_ sw_
                have hRK : Below U.heap.size U U_1 := hS.2.trans (kw_.mono (Nat.le_trans hBW hS.2.size))
                clear hS
                have hS := KeptB.of hRK
                clear hRK
                clear kw_
                refine hK.out _ _ (fun _ => hS) ?_
                clear hK K
                try simp only [Act.put, List.setIfInBounds_toArray, List.set]
                refine wpAnyL_ready (rs := [2]) (by kernel_rfl) (by simp) ?_
                refine AllReadyL.cons (o := _) (by (simp only [List.getElem?_toArray]; rfl)) (fun K hK => ?_) AllReadyL.nil
                refine step_build0M (by rfl) (by rfl) elmCl ?_
                obtain ⟨U_2, hw_, kw_⟩ : ∃ V, V = U_1.alloc (.cells #[] 62) ∧ Below U_1.heap.size U_1 V := ⟨_, rfl, (Below.refl _ _).alloc (Nat.le_refl _) _⟩
                rw [← hw_]
                clear hw_
                have hRK : Below U.heap.size U U_2 := hS.2.trans (kw_.mono (Nat.le_trans hBW hS.2.size))
                clear hS
                have hS := KeptB.of hRK
                clear hRK
                replace hgX := Lib.hid (hgX.out.below kw_)
                clear kw_
                refine hK.out _ _ (fun _ => hS) ?_
                clear hK K
                try simp only [Act.put, List.setIfInBounds_toArray, List.set]
                refine wpAnyL_ready (rs := [5]) (by kernel_rfl) (by simp) ?_
                refine AllReadyL.cons (o := _) (by (simp only [List.getElem?_toArray]; rfl)) (fun K hK => ?_) AllReadyL.nil
                have hgq_ := hgX.out.lt
                have hqa_ : U.heap.size ≤ U_2.heap.size := Nat.le_trans hBW hS.2.size
                refine step_append_newM U_2.heap.size (by rfl) (.tmp 41) (.tmp 43) (by rfl) elmCl (by rfl) (by rfl) (fun z _ => cl_one z) ((XR.out.below (hS.2.mono (Nat.le_refl _)))) rfl (by simp only [maxLen]; omega) (by omega) (Nat.le_refl _) ?_
                intro a2 c2 U_3 q_
                have hq_ : U.heap.size ≤ U_2.heap.size := Nat.le_trans hBW hS.2.size
                have kw_ := q_.below
                have hRK : Below U.heap.size U U_3 := hS.2.trans (kw_.mono (Nat.le_trans hBW hS.2.size))
                clear hS
                have hS := KeptB.of hRK
                clear hRK
                replace hgX := Lib.hid (hgX.out.below kw_)
                clear kw_
                have NX := Lib.hid (q_.row.rob seven_len)
                clear q_ hq_
                refine hK.out _ _ (fun _ => hS) ?_
                clear hK K
                try simp only [Act.put, List.setIfInBounds_toArray, List.set]
                refine wpAnyL_take (i := 6) (oi := _) (v := ?_) (by (simp only [List.getElem?_toArray]; rfl)) (by kernel_rfl) (by kernel_rfl) (by kernel_rfl) (by kernel_rfl) (by exact fun _ _ _ h => h) (Or.inl ⟨by rfl, ?_⟩) (by assumption) ?_
                rotate_left
                · intro wS hSw
                  go_simp
                  all_goals first | with_reducible rfl | rw [if_neg (by omega)]
                simp only [Act.put, List.setIfInBounds_toArray, List.set]
                refine wpAnyL_ready (rs := [8]) (by kernel_rfl) (by simp) ?_
                refine AllReadyL.cons (o := _) (by (simp only [List.getElem?_toArray]; rfl)) (fun K hK => ?_) AllReadyL.nil
                have zq_ := hgX.out
                unfold BlkIs at zq_
                have cq_ := cell_of_block zq_
                have fq_ := unfrozen_of_block zq_
                have lq_ := lt_of_block zq_
                go_simp
                obtain ⟨Q1, hV_, sV_, x9, oV_, kV_⟩ := stored2 U_3 (U_0.heap.size) _ _ (.int .i64 u.f) (.slice a2 u.cl.length c2) zq_
                rw [← hV_]
                clear hV_
                replace NX := Lib.hid (Rob.weak (X' := Lo U.heap.size) (NX.out.stored sV_ oV_ (by first | exact .inr ⟨hg0_, hgl_⟩ | exact .inr ⟨Nat.le_refl _, hgl_⟩ | exact hgq_)) (by first | exact fun b hb => .inl hb | exact fun b hb => .inl (.inl hb) | exact fun b hb => Nat.lt_of_lt_of_le hb hqa_ | exact fun b hb => .inl (Nat.lt_of_lt_of_le hb hqa_)))
                have KQ := Lib.hid (hS.2.trans (kV_.mono hg0_))
                replace hS := KeptB.of KQ.out
                clear zq_ cq_ fq_ lq_ kV_ oV_ sV_ hgX
                refine hK.out _ _ (fun _ => hS) ?_
                clear hK K
                try simp only [Act.put, List.setIfInBounds_toArray, List.set]
                refine wpAnyL_done (by kernel_rfl) ?_ _
                clear hS hgl_ hg0_
                clear cv fv lv
                have lv_ := lt_of_block v
                have hrU : ∀ g, rowBlk a cc = some g → g < U.heap.size := fun g hg => (RW.out.blk hg).2
                have hs0 := hs
                replace x := carryB KQ.out (lt_of_block x) x
                replace v := carryB KQ.out lv_ v
                replace RW := Lib.hid (RW.out.below KQ.out)
                replace CLS := Lib.hid (CLS.out.below KQ.out)
                replace K := below_next K KQ.out
                replace hs := Nat.le_trans hs KQ.out.size
                clear KQ lv_ XR
                obtain ⟨p1, PP1⟩ : ∃ q, (u.k == 5) = q := ⟨_, rfl⟩
                obtain ⟨p2, PP2⟩ : ∃ q, (u.v == view) = q := ⟨_, rfl⟩
                obtain ⟨p3, PP3⟩ : ∃ q, (u.f == (j : Int)) = q := ⟨_, rfl⟩
                have cv := cell_of_block v
                have fv := unfrozen_of_block v
                have lv := lt_of_block v
                have cx9 := cell_of_block x9
                have fx9 := unfrozen_of_block x9
                have lx9 := lt_of_block x9
                cases p1 with
                | false =>
                  have X_ := Lib.hid x
                  have K_ := Lib.hid K
                  clear x K
                  go_wp2_with fail
                  go_roundw
                  case rel => exact ⟨m + 1, false, a, cc, vs, by omega, by go_num, rfl, rfl, hv3, VF.out, RW.out, CLS.out, X_.out, hs, K_.out⟩
                  case measure => simp [intOf]; omega
                | true =>
                  cases p2 with
                  | false =>
                    have X_ := Lib.hid x
                    have K_ := Lib.hid K
                    clear x K
                    go_wp2_with fail
                    go_roundw
                    case rel => exact ⟨m + 1, false, a, cc, vs, by omega, by go_num, rfl, rfl, hv3, VF.out, RW.out, CLS.out, X_.out, hs, K_.out⟩
                    case measure => simp [intOf]; omega
                  | true =>
                    cases p3 with
                    | false =>
                      have X_ := Lib.hid x
                      have K_ := Lib.hid K
                      clear x K
                      go_wp2_with fail
                      go_roundw
                      case rel => exact ⟨m + 1, false, a, cc, vs, by omega, by go_num, rfl, rfl, hv3, VF.out, RW.out, CLS.out, X_.out, hs, K_.out⟩
                      case measure => simp [intOf]; omega
                    | true =>
                      go_wp2_with fail
                      refine (l4Turn_w _ ms view u.f a2 u.cl.length c2 u.cl Q1 (HM.out.below K) HMF.out NX.out.out).mono ?_
                      rintro e U2 ⟨bt, rfl, k2_⟩
                      clear cv fv lv cx9 fx9 lx9
                      have lv_ := lt_of_block v
                      have l9_ := lt_of_block x9
                      replace x := carryB k2_ (lt_of_block x) x
                      replace v := carryB k2_ lv_ v
                      replace x9 := carryB k2_ l9_ x9
                      replace RW := Lib.hid (RW.out.below k2_)
                      replace CLS := Lib.hid (CLS.out.below k2_)
                      replace NX := Lib.hid (NX.out.below k2_)
                      replace K := below_next K k2_
                      replace hs := Nat.le_trans hs k2_.size
                      clear k2_ lv_ l9_
                      cases bt with
                      | false =>
                        have X_ := Lib.hid x
                        have K_ := Lib.hid K
                        clear x K
                        go_wp2_with fail
                        go_roundw
                        case rel => exact ⟨m + 1, false, a, cc, vs, by omega, by go_num, rfl, rfl, hv3, VF.out, RW.out, CLS.out, X_.out, hs, K_.out⟩
                        case measure => simp [intOf]; omega
                      | true =>
                        have cx9 := cell_of_block x9
                        have fx9 := unfrozen_of_block x9
                        have lx9 := lt_of_block x9
                        have hvl2 : vs.length ≤ 2 := by omega
                        go_wp2_with (at_builtin; refine wpList_append_rowM rfl _ _ rfl (vs.length + 1) elmVx rfl rfl (RW.out.below ((Below.refl U2.heap.size U2).alloc (Nat.le_refl _) _)) (ys := [⟨u.f, .slice a2 u.cl.length c2, u.cl⟩]) (fun z hz => by rw [List.mem_singleton.1 hz]; exact vx_one (w := U2) NX.out.out) (rows_of_block (R := Vx.cs) (zs := [⟨u.f, .slice a2 u.cl.length c2, u.cl⟩]) two_len (heap_alloc_new U2 _)) rfl rfl rfl (by simp only [maxLen]; omega) (by omega) (by simp; omega) ?_)
                        intro a3 c3 U3 q3
                        have hrb_ : ∀ g, rowBlk a cc = some g → W.heap.size ≤ g := fun g hg => (RW.out.blk hg).1
                        have kA : Below U2.heap.size U2 (U2.alloc (.cells #[.int .i64 u.f, .slice a2 u.cl.length c2] 65)) := (Below.refl U2.heap.size U2).alloc (Nat.le_refl _) _
                        have k3_ : Below W.heap.size U2 U3 := (kA.mono hs).trans (q3.below (by simp; omega) hrb_)
                        replace x := carryB k3_ (by omega) x
                        replace K := K.trans (k3_.mono (by omega))
                        replace hs := Nat.le_trans hs k3_.size
                        have NX2 : Rob (Ow W.heap.size a cc) (fun V => IsSl V (.slice a2 u.cl.length c2) 7 Cl.cs u.cl) U2 := NX.out.weak fun b hb => by
                          rcases hb with hb | hb
                          · exact Nat.lt_of_lt_of_le hb hs0
                          · exact hrU b hb
                        have CL2 := Lib.hid (((CLS.out.and NX2).imp (G := fun V => ∀ z ∈ vs ++ [⟨u.f, .slice a2 u.cl.length c2, u.cl⟩], IsSl V z.sl 7 Cl.cs z.cl) (fun V h z hz => (List.mem_append.1 hz).elim (h.1 z) (fun hz' => by rw [List.mem_singleton.1 hz']; exact h.2))).below kA |>.appended q3)
                        have RW2 := Lib.hid q3.row
                        have VF2 := Lib.hid (show VsFit (vs ++ [⟨u.f, .slice a2 u.cl.length c2, u.cl⟩]) from ⟨by simp; omega, fun z hz => (List.mem_append.1 hz).elim (VF.out.2 z) (fun hz' => by rw [List.mem_singleton.1 hz']; exact UF.out.1)⟩)
                        clear cx9 fx9 lx9
                        have X_ := Lib.hid x
                        have K_ := Lib.hid K
                        clear k3_ kA q3 hrb_ NX2 NX CLS RW VF x K v x9 PP1 PP2 PP3
                        go_wp2_with fail
                        go_roundw
                        case rel => exact ⟨m + 1, true, a3, c3, vs ++ [⟨u.f, .slice a2 u.cl.length c2, u.cl⟩], by omega, by go_num, rfl, by first | rfl | simp, by simp; omega, VF2.out, RW2.out, CL2.out, X_.out, hs, K_.out⟩
                        case measure => simp [intOf]; omega
              exact AllReadyL.nil
            · -- CUT x2
              have h32 : ¬ ((vs.length : Int) < 3) := by omega
              have cx := cell_of_block x
              have fx := unfrozen_of_block x
              have lx := lt_of_block x
              go_wp2_with fail
              clear cx fx lx
              go_roundw
              case rel => exact ⟨j + 1, a, cc, vs, by omega, by go_num, rfl, hv3, VF.out, RW.out, CLS.out, x, hs, K⟩
              case measure => simp [intOf]; omega
        · -- CUT x3
          have hmf1 : ¬ ((m : Int) < (r.hd.length : Int)) := by omega
          cases g
          all_goals
            have cx := cell_of_block x
            have fx := unfrozen_of_block x
            have lx := lt_of_block x
            go_wp2_with fail
            clear cx fx lx
            go_roundw
            case rel => exact ⟨j + 1, a, cc, vs, by omega, by go_num, rfl, hv3, VF.out, RW.out, CLS.out, x, hs, K⟩
            case measure => simp [intOf]; omega
    · have hjf : ¬ ((j : Int) < 4) := by omega
      go_wp2_with fail
      go_ret
      exact ⟨a, cc, vs, rfl, hv3, hvf, ((hRow.rob two_len).low (by omega)).and (hCL.weak (fun b hb => .inl (Nat.lt_of_lt_of_le hb (by omega)))), K⟩
end Go.Proofs.Ytgdhieffjflejaa
