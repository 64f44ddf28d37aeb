/- Contract of the program's GamePut; condition: strconv's table of tens as listed. -/
import Derived.Test.YtilldpoleiippaaGreatDoorPutG
set_option linter.unusedSimpArgs false
set_option linter.unusedVariables false
namespace Go.Proofs.YtilldpoleiippaaGreatDoor
open Go.RowKit Go.Joins

theorem trim_five (e : Rq) : Lib.trimSuffix (commasL (fiveOf e)) [44] = betweenL (fiveOf e) := by
  have h := commasL_between e.c [e.n, e.o, e.x, e.y]
  show Lib.trimSuffix (commasL (e.c :: [e.n, e.o, e.x, e.y])) [44] = betweenL (e.c :: [e.n, e.o, e.x, e.y])
  rw [h, trim_snoc]

theorem between_len (e : Rq) (hb : ∀ n ∈ fiveOf e, 0 ≤ n ∧ n ≤ 20) : (betweenL (fiveOf e)).length ≤ 110 := by
  have h1 := commasL_between e.c [e.n, e.o, e.x, e.y]
  have h2 := commas_len (small_nums hb (by decide))
  have h3 : (fiveOf e).length = 5 := rfl
  have h4 : commasL (fiveOf e) = betweenL (fiveOf e) ++ [44] := h1
  rw [h4, h3, List.length_append] at h2
  simp only [List.length_cons, List.length_nil] at h2
  omega
theorem trim_c (e : Rq) (w : World) (hb : ∀ n ∈ fiveOf e, 0 ≤ n ∧ n ≤ 20) :
    Calls Tryz.prog 25 #[.string ⟨(commasL (fiveOf e)).toArray⟩, .string ⟨#[44]⟩] w fun x w' => x = .returned (.string ⟨(betweenL (fiveOf e)).toArray⟩) ∧ w = w' := by
  have h2 := commas_len (small_nums hb (by decide))
  have h3 : (fiveOf e).length = 5 := rfl
  refine (Tryz.strings_TrimSuffix ⟨(commasL (fiveOf e)).toArray⟩ ⟨#[44]⟩ w (by rw [bytes_len]; omega)).mono ?_
  rintro x w' ⟨rfl, rfl⟩
  refine ⟨?_, rfl⟩
  simp only [List.toList_toArray]
  rw [show ([44] : List UInt8) = [44] from rfl, trim_five]

set_option maxRecDepth 100000 in
set_option maxHeartbeats 4000000 in
theorem GamePut_c (z : Gm) (a0 a1 a2 : Option Addr) (c0 c1 c2 : Nat) (w : World) (T : Lib.TabIs Tryz.prog w "internal/strconv.uint64pow10" .u64 Lib.pow10Tab) (h0 : IsSl w (.slice a0 z.es.length c0) 5 Rq.cs z.es) (h1 : IsSl w (.slice a1 z.fl.length c1) 1 intR z.fl) (h2 : IsSl w (.slice a2 z.la.length c2) 1 intR z.la) (hs : z.es.length + z.fl.length + z.la.length ≤ 4194304) :
    Calls Tryz.prog 8 #[.agg #[.slice a0 z.es.length c0, .slice a1 z.fl.length c1, .slice a2 z.la.length c2]] w fun e w' => e = .returned (.string ⟨(gamePut z).toArray⟩) ∧ Below w.heap.size w w' := by
  have H0 := Lib.hid h0
  have H1 := Lib.hid h1
  have H2 := Lib.hid h2
  have TT := Lib.hid T
  clear T
  have CO := Lib.hid (fun V h0 h1 h2 => GameOk_c z a0 a1 a2 c0 c1 c2 V h0 h1 h2 hs)
  cases hg : gameB z with
  | false =>
    have HP : Hid (gamePut z = []) := by show _ = _; unfold gamePut; rw [if_neg (by rw [hg]; simp)]
    rw [hg] at CO
    clear hg h0 h1 h2
    go_enter Tryz.func8, Tryz.ntmps8
    go_wp2_with fail
    obtain ⟨W, hW, sW, aW, kW⟩ := blocks1 w (.cells #[.slice a0 z.es.length c0, .slice a1 z.fl.length c1, .slice a2 z.la.length c2] 27)
    rw [← hW]
    clear hW
    refine (CO.out W (H0.out.below kW) (H1.out.below kW) (H2.out.below kW)).mono ?_
    rintro e w1 ⟨rfl, k1⟩
    go_wp2_with fail
    go_ret
    exact ⟨ret_str (by rw [HP.out]), below_next kW k1⟩
  | true =>
    have HP : Hid (gamePut z = gameText z) := by show _ = _; unfold gamePut; rw [if_pos hg]
    rw [hg] at CO
    obtain ⟨n1, n2, n3⟩ := game_nums hg
    obtain ⟨l1, l2⟩ := game_lens hg
    have l0 := game_ents hg
    have S1 := small_nums n1 (by decide)
    have S2 := small_nums n2 (by decide)
    obtain ⟨es, fl, la⟩ := z
    simp only at h0 h1 h2 n1 n2 n3 l0 l1 l2 S1 S2 H0 H1 H2 CO ⊢
    have HGT : Hid (gameText ⟨es, fl, la⟩ = commasL fl ++ [47] ++ commasL la ++ es.flatMap entText) := rfl
    obtain ⟨-, hlc0, hm0, hr0⟩ := h0.bounds
    have R0 := Lib.hid hr0
    have B3 := Lib.hid n3
    have T3 := Lib.hid (ents_len n3)
    have TF := commas_len S1
    have TL := commas_len S2
    have CF := Lib.hid (fun V T h => commas_c a1 fl.length c1 fl V T h S1 (by omega))
    have CL := Lib.hid (fun V T h => commas_c a2 la.length c2 la V T h S2 (by omega))
    rw [l1] at TF CF H1 CO
    rw [l2] at TL CL H2 CO
    clear hr0 S1 S2 n1 n2 n3 h0 h1 h2 hg hm0 hlc0 hs
    rw [l1, l2]
    clear l1 l2
    obtain ⟨m, hm⟩ : ∃ m, m = es.length := ⟨_, rfl⟩
    rw [← hm] at l0 H0 CO ⊢
    have LE := Lib.hid hm
    clear hm
    go_enter Tryz.func8, Tryz.ntmps8
    go_wp2_with fail
    obtain ⟨W, hW, sW, aW, kW⟩ := blocks1 w (.cells #[.slice a0 m c0, .slice a1 16 c1, .slice a2 4 c2] 27)
    rw [← hW]
    clear hW
    refine (CO.out W (H0.out.below kW) (H1.out.below kW) (H2.out.below kW)).mono ?_
    rintro e w1 ⟨rfl, k1⟩
    have K1 := below_next kW k1
    have b1 := carryB k1 (lt_of_block aW) aW
    clear kW k1 aW sW CO
    have e0 := fun d os => cellRe b1 d os 0
    have e1 := fun d os => cellRe b1 d os 1
    have e2 := fun d os => cellRe b1 d os 2
    have TK := Lib.hid (fun U (k : Below w1.heap.size w1 U) => tab_stays gPow TT.out (below_next K1 k) (Nat.le_refl _))
    have qF := quietC (w := w1) (fun U k => CF.out U (TK.out U k) (H1.out.below (below_next K1 k)))
    have qL := quietC (w := w1) (fun U k => CL.out U (TK.out U k) (H2.out.below (below_next K1 k)))
    generalize commasL fl = sf at *
    generalize commasL la = sl at *
    have n1 : ¬ 9223372036854775807 < sf.length + 1 := by omega
    have n2 : ¬ 9223372036854775807 < sf.length + 1 + sl.length := by omega
    go_wp2_with fail
    refine wp_region_quiet_below (by kernel_rfl) (by kernel_rfl) ?_
    repeat (go_big_quiet_step (first | with_reducible exact qF _ _ | with_reducible exact qL _ _))
    refine wpQuiet_nil ?_
    intro _ hw'
    obtain ⟨⟨dq, osq⟩, hw''⟩ := hw'
    subst hw''
    have KQ := below_next K1 (below_regrown w1 dq osq)
    have b2 := carryB (below_regrown w1 dq osq) (lt_of_block b1) b1
    generalize Sort.grow (redrawn w1 dq) osq = w2 at *
    have et : (⟨sf.toArray⟩ : ByteArray) ++ ⟨#[47]⟩ ++ ⟨sl.toArray⟩ = ⟨(sf ++ [47] ++ sl).toArray⟩ := by
      apply ByteArray.ext
      simp
    rw [et]
    have hsb : (sf ++ [47] ++ sl).length ≤ 16 * 22 + 1 + 4 * 22 := by
      simp only [List.length_append, List.length_cons, List.length_nil]
      omega
    generalize sf ++ [47] ++ sl = sb at *
    clear e0 e1 e2 qF qL n1 n2 et TF TL CF CL TK b1 K1
    have cb := cell_of_block b2
    have lb := lt_of_block b2
    have HQ := Lib.hid KQ
    clear KQ b2
    go_wp2_with fail
    go_loopw [3, 20] (fun s i wr => ∃ k : Nat, k ≤ m ∧ i = .int .i64 k ∧ s = .string ⟨(sb ++ (es.take k).flatMap entText).toArray⟩ ∧ Below w.heap.size w wr) (fun _ i _ => m - (intOf i).toNat)
    case atStart => exact ⟨0, Nat.zero_le _, rfl, by simp, HQ.out⟩
    case round =>
      clear cb lb HQ
      obtain ⟨k, hk, rfl, rfl, hbel⟩ := hrel
      have HBel := Lib.hid hbel
      by_cases hlt : k < m
      · have hkz : k < es.length := by rw [← LE.out]; exact hlt
        have hq1 : (k : Int) < (m : Int) := by omega
        have hq0 : (0 : Int) ≤ (k : Int) := by omega
        obtain ⟨b0, o0, rfl, hl0, hc0⟩ := five_at R0.out k hkz
        obtain ⟨d0, d1, d2, d3, d4⟩ := hc0 _ hbel
        have HS := Lib.hid (ents_take hkz)
        have hbe := B3.out es[k] (List.getElem_mem _)
        have lo := T3.out k (by rw [← LE.out]; exact hk)
        clear hc0 hbel
        generalize es[k] = z at *
        have hso : (sb ++ (es.take k).flatMap entText).length ≤ 16 * 22 + 1 + 4 * 22 + k * 110 := by
          rw [List.length_append]
          omega
        have HS2 := Lib.hid (show sb ++ (es.take (k + 1)).flatMap entText = (sb ++ (es.take k).flatMap entText) ++ ([47] ++ betweenL (fiveOf z)) by rw [HS.out, List.append_assoc]; rfl)
        clear HS lo
        generalize sb ++ (es.take k).flatMap entText = so at *
        have HBE := Lib.hid hbe
        clear hbe
        go_wp2_with fail
        obtain ⟨V, hV, sV, aV, bV, kV⟩ := blocks2 wr (.cells #[.int .i64 z.c, .int .i64 z.n, .int .i64 z.o, .int .i64 z.x, .int .i64 z.y] 44) (.cells #[.int .i64 z.c, .int .i64 z.n, .int .i64 z.o, .int .i64 z.x, .int .i64 z.y] 3)
        rw [← hV]
        clear hV
        have K3 := below_next HBel.out kV
        have hI : IsSl V (.slice (some ⟨wr.heap.size + 1, 0, none⟩) 5 5) 1 intR (fiveOf z) := ⟨_, 5, rfl, Nat.le_refl _, by simp only [maxLen]; decide, rows_of_block (R := intR) (zs := fiveOf z) (fun _ => rfl) bV⟩
        have hcC := commas_c (some ⟨wr.heap.size + 1, 0, none⟩) 5 5 (fiveOf z) V (tab_stays gPow TT.out K3 (Nat.le_refl _)) hI (small_nums HBE.out (by decide)) (by decide)
        refine hcC.mono ?_
        rintro e w4 ⟨rfl, k4⟩
        have K4 := below_next K3 k4
        have CT := Lib.hid (fun U => trim_c z U HBE.out)
        have hbl := between_len z HBE.out
        clear k4 K3 hI hcC kV aV bV sV d0 d1 d2 d3 d4
        generalize commasL (fiveOf z) = cm at *
        generalize betweenL (fiveOf z) = bt at *
        go_wp2_with fail
        refine (CT.out w4).mono ?_
        rintro e _ ⟨rfl, rfl⟩
        have n1 : ¬ 9223372036854775807 < 1 + bt.length := by omega
        have n2 : ¬ 9223372036854775807 < so.length + (1 + bt.length) := by omega
        go_wp2_with fail
        go_roundw
        case rel =>
          refine ⟨k + 1, by omega, by go_num, ?_, K4⟩
          rw [HS2.out]
          first
            | rfl
            | (congr 1; done)
            | (congr 1; apply ByteArray.ext; simp)
        case measure => simp [intOf]; omega
      · have e : es.take k = es := List.take_of_length_le (by rw [← LE.out]; omega)
        rw [e]
        clear e
        have hq1 : ¬ (k : Int) < (m : Int) := by omega
        have HF := Lib.hid HGT.out
        clear HGT
        generalize es.flatMap entText = se at *
        go_wp2_with fail
        go_ret
        exact ⟨ret_str (by rw [HP.out, HF.out]), hbel⟩
end Go.Proofs.YtilldpoleiippaaGreatDoor
