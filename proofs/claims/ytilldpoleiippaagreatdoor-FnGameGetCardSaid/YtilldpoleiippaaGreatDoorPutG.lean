/- Contracts of GamePut, the program's and the reference's, at games that are ok; condition: strconv's table of tens as listed. -/
import Derived.Test.YtilldpoleiippaaGreatDoorMA
import Derived.Test.YtilldpoleiippaaGreatDoorMD
import Derived.Test.YtilldpoleiippaaGreatDoorBuild
import Derived.Test.YtilldpoleiippaaGreatDoorGameOkS
import Derived.BigQuiet
set_option linter.unusedSimpArgs false
set_option linter.unusedVariables false
namespace Go.Proofs.YtilldpoleiippaaGreatDoor
open Go.RowKit Go.Joins

theorem commasL_take {zs : List Int} {k : Nat} (h : k < zs.length) : commasL (zs.take (k + 1)) = commasL (zs.take k) ++ (Lib.itoa zs[k] ++ [44]) := by
  unfold commasL
  rw [List.take_succ_eq_append_getElem h, List.flatMap_append]
  simp only [List.flatMap_cons, List.flatMap_nil, List.append_nil]
theorem commasL_len {zs : List Int} (hb : ∀ x ∈ zs, -99 ≤ x ∧ x ≤ 99) : ∀ k, k ≤ zs.length → (commasL (zs.take k)).length ≤ k * 22
  | 0, _ => by simp [commasL]
  | k + 1, hk => by
    have ih := commasL_len hb k (by omega)
    have hx := hb zs[k] (List.getElem_mem _)
    have h1 := itoa_len zs[k] (by omega) (by omega)
    rw [commasL_take (show k < zs.length by omega)]
    simp only [List.length_append, List.length_cons, List.length_nil]
    omega
theorem commas_len {zs : List Int} (hb : ∀ x ∈ zs, -99 ≤ x ∧ x ≤ 99) : (commasL zs).length ≤ zs.length * 22 := by
  have := commasL_len hb zs.length (Nat.le_refl _)
  rwa [List.take_length] at this

set_option maxRecDepth 100000 in
set_option maxHeartbeats 1000000 in
theorem commas_c (a : Option Addr) (n cap : Nat) (zs : List Int) (w : World) (T : Lib.TabIs Tryz.prog w "internal/strconv.uint64pow10" .u64 Lib.pow10Tab) (h : IsSl w (.slice a n cap) 1 intR zs) (hb : ∀ x ∈ zs, -99 ≤ x ∧ x ≤ 99) (hn : n ≤ 100) :
    Calls Tryz.prog 24 #[.slice a n cap] w fun e w' => e = .returned (.string ⟨(commasL zs).toArray⟩) ∧ Below w.heap.size w w' := by
  obtain ⟨hzl, hlc, hm, hr⟩ := h.bounds
  have HR := Lib.hid hr
  have HZ := Lib.hid hzl
  have TT := Lib.hid T
  have HB := Lib.hid hb
  have HT := Lib.hid (commasL_len hb)
  clear hr h hzl T hb hlc hm
  have hbu := Lib.IsBuilderF.of (Lib.fresh_isBuilder 68 5 w)
  have kU := (Below.refl w.heap.size w).alloc (Nat.le_refl _) (.cells #[.pointer none, .slice none 0 0] 68)
  have sU : w.heap.size < (w.alloc (.cells #[.pointer none, .slice none 0 0] 68)).heap.size := by simp
  go_enter Tryz.func24, Tryz.ntmps24
  go_wp2_with fail
  go_loopw [8] (fun i wr => ∃ k : Nat, k ≤ n ∧ i = .int .i64 k ∧ Lib.IsBuilderF 68 5 w.heap.size w.heap.size (Lib.byteCells (commasL (zs.take k))) wr ∧ Below w.heap.size w wr ∧ w.heap.size < wr.heap.size) (fun i _ => n - (intOf i).toNat)
  case atStart => exact ⟨0, Nat.zero_le _, rfl, hbu, kU, sU⟩
  case round =>
    obtain ⟨k, hk, rfl, hbu, hbel, hsr⟩ := hrel
    have HBel := Lib.hid hbel
    have HU := Lib.hid hbu
    clear hbu
    by_cases hlt : k < n
    · have hkz : k < zs.length := by rw [HZ.out]; exact hlt
      have hk1 : (k : Int) < (n : Int) := by omega
      have hk0 : (0 : Int) ≤ (k : Int) := by omega
      obtain ⟨b0, o0, rfl, hl0, hc0⟩ := one_at HR.out k hkz
      have c0 := hc0 wr hbel
      have HS := Lib.hid (commasL_take hkz)
      obtain ⟨hs0, hs1⟩ := HB.out zs[k] (List.getElem_mem _)
      have lo := HT.out k (by rw [HZ.out]; exact hk)
      clear hc0
      generalize zs[k] = z at *
      have cC := Lib.hid (fun V T => Itoa_p z V (by omega) (by omega) T)
      have lc := itoa_len z (by omega) (by omega)
      generalize Lib.itoa z = sc at *
      generalize commasL (zs.take k) = so at *
      clear hs0 hs1 hbel
      have n1 : ¬ 9223372036854775807 < sc.length + 1 := by omega
      go_wp2_with fail
      refine (cC.out wr (tab_stays gPow TT.out HBel.out (Nat.le_refl _))).mono ?_
      rintro e w2 ⟨rfl, k2⟩
      have K2 := below_next HBel.out k2
      have U2 := Lib.hid (builder_below HU.out k2)
      have l2 : w.heap.size < w2.heap.size := Nat.lt_of_lt_of_le hsr k2.size
      clear k2 c0
      go_wp2_with fail
      have et : (⟨sc.toArray⟩ : ByteArray) ++ ⟨#[44]⟩ = ⟨(sc ++ [44]).toArray⟩ := by
        apply ByteArray.ext
        simp
      rw [et]
      have hl4 : (Lib.byteCells so).length + (⟨(sc ++ [44]).toArray⟩ : ByteArray).size ≤ 140737488355328 := by
        rw [Lib.byteCells_length, bytes_len]
        simp only [List.length_append, List.length_cons, List.length_nil]
        omega
      have hB2 : w.heap.size ≤ w2.heap.size := by omega
      have hcW := WriteString_c w.heap.size w.heap.size (Lib.byteCells so) ⟨(sc ++ [44]).toArray⟩ w2 U2.out hl4 hB2
      clear hl4
      refine hcW.mono ?_
      rintro e w4 ⟨rfl, u4, k4, -⟩
      have K4 : Below w.heap.size w w4 := K2.trans k4
      have u5 : Lib.IsBuilderF 68 5 w.heap.size w.heap.size (Lib.byteCells (commasL (zs.take (k + 1)))) w4 := by
        rw [HS.out]
        have e2 : Lib.byteCells so ++ Lib.strCells ⟨(sc ++ [44]).toArray⟩ = Lib.byteCells (so ++ (sc ++ [44])) := by
          rw [Lib.strCells_eq]
          simp only [Lib.byteCells_append, List.append_assoc]
        rw [← e2]
        exact u4
      have HU5 := Lib.hid u5
      have l4 : w.heap.size < w4.heap.size := Nat.lt_of_lt_of_le l2 k4.size
      clear u4 u5 k4 et
      go_wp2_with fail
      go_roundw
      case rel => exact ⟨k + 1, by omega, by go_num, HU5.out, K4, l4⟩
      case measure => simp [intOf]; omega
    · have e : zs.take k = zs := List.take_of_length_le (by rw [HZ.out]; omega)
      rw [e] at HU
      clear e
      go_wp2_with fail
      refine (BuilderString_c w.heap.size w.heap.size (commasL zs) wr HU.out (Nat.le_of_lt hsr)).mono ?_
      rintro e w4 ⟨rfl, k4⟩
      go_wp2_with fail
      go_ret
      exact ⟨rfl, hbel.trans k4⟩

/-! The reference's way. -/
theorem entText_eq (e : Rq) : entText e = [47] ++ Lib.itoa e.c ++ [44] ++ Lib.itoa e.n ++ [44] ++ Lib.itoa e.o ++ [44] ++ Lib.itoa e.x ++ [44] ++ Lib.itoa e.y := by
  simp [entText, fiveOf, betweenL, glue]
theorem ents_take {es : List Rq} {k : Nat} (h : k < es.length) : (es.take (k + 1)).flatMap entText = (es.take k).flatMap entText ++ entText es[k] := by
  rw [List.take_succ_eq_append_getElem h, List.flatMap_append]
  simp only [List.flatMap_cons, List.flatMap_nil, List.append_nil]
theorem ents_len {es : List Rq} (hb : ∀ e ∈ es, ∀ n ∈ fiveOf e, 0 ≤ n ∧ n ≤ 20) : ∀ k, k ≤ es.length → ((es.take k).flatMap entText).length ≤ k * 110
  | 0, _ => by simp
  | k + 1, hk => by
    have ih := ents_len hb k (by omega)
    have he := hb es[k] (List.getElem_mem _)
    have b0 := he es[k].c (by simp [fiveOf])
    have b1 := he es[k].n (by simp [fiveOf])
    have b2 := he es[k].o (by simp [fiveOf])
    have b3 := he es[k].x (by simp [fiveOf])
    have b4 := he es[k].y (by simp [fiveOf])
    have h0 := itoa_len es[k].c (by omega) (by omega)
    have h1 := itoa_len es[k].n (by omega) (by omega)
    have h2 := itoa_len es[k].o (by omega) (by omega)
    have h3 := itoa_len es[k].x (by omega) (by omega)
    have h4 := itoa_len es[k].y (by omega) (by omega)
    rw [ents_take (show k < es.length by omega), List.length_append, entText_eq]
    simp only [List.length_append, List.length_cons, List.length_nil]
    omega
theorem small_nums {zs : List Int} {m : Int} (h : ∀ n ∈ zs, 0 ≤ n ∧ n ≤ m) (hm : m ≤ 99) : ∀ x ∈ zs, -99 ≤ x ∧ x ≤ 99 := fun x hx => by have := h x hx; omega

set_option maxRecDepth 100000 in
set_option maxHeartbeats 4000000 in
theorem l2Put_c (z : Gm) (a0 a1 a2 : Option Addr) (c0 c1 c2 : Nat) (w : World) (h0 : IsSl w (.slice a0 z.es.length c0) 5 Rq.cs z.es) (h1 : IsSl w (.slice a1 z.fl.length c1) 1 intR z.fl) (h2 : IsSl w (.slice a2 z.la.length c2) 1 intR z.la) (hg : gameB z = true) :
    Calls Tryz.prog 22 #[.agg #[.slice a0 z.es.length c0, .slice a1 z.fl.length c1, .slice a2 z.la.length c2]] w fun e w' => e = .returned (.string ⟨(gameText z).toArray⟩) ∧ Below w.heap.size w w' := by
  obtain ⟨n1, n2, n3⟩ := game_nums hg
  obtain ⟨l1, l2⟩ := game_lens hg
  have l0 := game_ents hg
  have S1 := small_nums n1 (by decide)
  have S2 := small_nums n2 (by decide)
  obtain ⟨es, fl, la⟩ := z
  simp only at h0 h1 h2 n1 n2 n3 l0 l1 l2 S1 S2 ⊢
  have HGT : Hid (gameText ⟨es, fl, la⟩ = commasL fl ++ [47] ++ commasL la ++ es.flatMap entText) := rfl
  obtain ⟨-, hlc0, hm0, hr0⟩ := h0.bounds
  obtain ⟨-, hlc1, hm1, hr1⟩ := h1.bounds
  obtain ⟨-, hlc2, hm2, hr2⟩ := h2.bounds
  have R0 := Lib.hid hr0
  have R1 := Lib.hid hr1
  have R2 := Lib.hid hr2
  have B1 := Lib.hid S1
  have B2 := Lib.hid S2
  have B3 := Lib.hid n3
  have T1 := Lib.hid (commasL_len S1)
  have T2 := Lib.hid (commasL_len S2)
  have T3 := Lib.hid (ents_len n3)
  have TF := commas_len S1
  have TL := commas_len S2
  have LF := Lib.hid l1
  have LL := Lib.hid l2
  rw [l1] at TF
  rw [l2] at TL
  clear hr0 hr1 hr2 S1 S2 n1 n2 n3 h0 h1 h2 hg hm0 hm1 hm2 hlc0 hlc1 hlc2
  rw [l1, l2]
  clear l1 l2
  obtain ⟨m, hm⟩ : ∃ m, m = es.length := ⟨_, rfl⟩
  rw [← hm] at l0 ⊢
  have LE := Lib.hid hm
  clear hm
  go_enter Tryz.func22, Tryz.ntmps22
  go_wp2_with fail
  obtain ⟨W, hW, sW, aW, kW⟩ := blocks1 w (.cells #[.slice a0 m c0, .slice a1 16 c1, .slice a2 4 c2] 27)
  rw [← hW]
  clear hW
  have lW := lt_of_block aW
  have AW := Lib.hid aW
  have KW := Lib.hid kW
  clear aW kW sW
  go_loopw [3, 4] (fun s i wr => ∃ k : Nat, k ≤ 16 ∧ i = .int .i64 k ∧ s = .string ⟨(commasL (fl.take k)).toArray⟩ ∧ Below W.heap.size W wr) (fun _ i _ => 16 - (intOf i).toNat)
  case atStart => exact ⟨0, Nat.zero_le _, rfl, rfl, Below.refl _ _⟩
  case round =>
    obtain ⟨k, hk, rfl, rfl, hbel⟩ := hrel
    have HBel := Lib.hid hbel
    have aR := carryB hbel lW AW.out
    have cR := cell_of_block aR
    have lR := lt_of_block aR
    by_cases hlt : k < 16
    · have hkz : k < fl.length := by rw [LF.out]; exact hlt
      have hk1 : (k : Int) < 16 := by omega
      have hk0 : (0 : Int) ≤ (k : Int) := by omega
      obtain ⟨b0, o0, rfl, hl0, hc0⟩ := one_at R1.out k hkz
      have d0 := hc0 wr (KW.out.trans (hbel.mono KW.out.size))
      have HS := Lib.hid (commasL_take hkz)
      obtain ⟨hs0, hs1⟩ := B1.out fl[k] (List.getElem_mem _)
      have lo := T1.out k (by rw [LF.out]; exact hk)
      clear hc0 hbel
      generalize fl[k] = x at *
      have cC := Lib.hid (fun V => l1Dec_c x V (by omega) (by omega))
      have lc := itoa_len x (by omega) (by omega)
      generalize Lib.itoa x = sc at *
      generalize commasL (fl.take k) = so at *
      have n1 : ¬ 9223372036854775807 < so.length + sc.length := by omega
      have n2 : ¬ 9223372036854775807 < so.length + sc.length + 1 := by omega
      clear hs0 hs1
      go_wp2_with fail
      refine (cC.out wr).mono ?_
      rintro e w2 ⟨rfl, k2⟩
      have K2 := below_next HBel.out k2
      clear cR d0 k2
      go_wp2_with fail
      go_roundw
      case rel =>
        refine ⟨k + 1, by omega, by go_num, ?_, K2⟩
        rw [HS.out]
        congr 1
        apply ByteArray.ext
        simp
      case measure => simp [intOf]; omega
    · have hk1 : ¬ (k : Int) < 16 := by omega
      have e : fl.take k = fl := List.take_of_length_le (by rw [LF.out]; omega)
      rw [e]
      clear e hbel aR
      generalize commasL fl = sf at *
      have n1 : ¬ 9223372036854775807 < sf.length + 1 := by omega
      go_wp2_with fail
      have et : (⟨sf.toArray⟩ : ByteArray) ++ ⟨#[47]⟩ = ⟨(sf ++ [47]).toArray⟩ := by
        apply ByteArray.ext
        simp
      rw [et]
      clear et n1 cR
      have HB0 := Lib.hid HBel.out
      go_loopw [3, 5] (fun s i wr => ∃ k : Nat, k ≤ 4 ∧ i = .int .i64 k ∧ s = .string ⟨(sf ++ [47] ++ commasL (la.take k)).toArray⟩ ∧ Below W.heap.size W wr) (fun _ i _ => 4 - (intOf i).toNat)
      case atStart => exact ⟨0, Nat.zero_le _, rfl, by simp [commasL], HB0.out⟩
      case round =>
        clear HBel HB0 lR
        obtain ⟨k2, hk, rfl, rfl, hbel⟩ := hrel
        have HBel := Lib.hid hbel
        have aR := carryB hbel lW AW.out
        have cR := cell_of_block aR
        have lR := lt_of_block aR
        by_cases hlt2 : k2 < 4
        · have hkz : k2 < la.length := by rw [LL.out]; exact hlt2
          have hk1 : (k2 : Int) < 4 := by omega
          have hk0 : (0 : Int) ≤ (k2 : Int) := by omega
          obtain ⟨b0, o0, rfl, hl0, hc0⟩ := one_at R2.out k2 hkz
          have d0 := hc0 _ (KW.out.trans (hbel.mono KW.out.size))
          have HS := Lib.hid (commasL_take hkz)
          obtain ⟨hs0, hs1⟩ := B2.out la[k2] (List.getElem_mem _)
          have lo := T2.out k2 (by rw [LL.out]; exact hk)
          clear hc0 hbel
          generalize la[k2] = x at *
          have cC := Lib.hid (fun V => l1Dec_c x V (by omega) (by omega))
          have lc := itoa_len x (by omega) (by omega)
          generalize Lib.itoa x = sc at *
          have hso : (sf ++ [47] ++ commasL (la.take k2)).length ≤ 16 * 22 + 1 + k2 * 22 := by
            simp only [List.length_append, List.length_cons, List.length_nil]
            omega
          have HS2 := Lib.hid (show sf ++ [47] ++ commasL (la.take (k2 + 1)) = (sf ++ [47] ++ commasL (la.take k2)) ++ (sc ++ [44]) by rw [HS.out]; simp)
          clear HS
          generalize sf ++ [47] ++ commasL (la.take k2) = so at *
          have n1 : ¬ 9223372036854775807 < so.length + sc.length := by omega
          have n2 : ¬ 9223372036854775807 < so.length + sc.length + 1 := by omega
          clear hs0 hs1 lo
          go_wp2_with fail
          refine (cC.out _).mono ?_
          rintro e w2 ⟨rfl, kk⟩
          have K2 := below_next HBel.out kk
          clear cR d0 kk
          go_wp2_with fail
          go_roundw
          case rel =>
            refine ⟨k2 + 1, by omega, by go_num, ?_, K2⟩
            rw [HS2.out]
            congr 1
            apply ByteArray.ext
            simp
          case measure => simp [intOf]; omega
        · have hk2 : ¬ (k2 : Int) < 4 := by omega
          have e : la.take k2 = la := List.take_of_length_le (by rw [LL.out]; omega)
          rw [e]
          have hsb : (sf ++ [47] ++ commasL la).length ≤ 16 * 22 + 1 + 4 * 22 := by
            simp only [List.length_append, List.length_cons, List.length_nil]
            omega
          clear e hbel aR
          generalize sf ++ [47] ++ commasL la = sb at *
          clear TF TL R1 R2 B1 B2 T1 T2
          go_wp2_with fail
          have HB0 := Lib.hid HBel.out
          go_loopw [3, 6] (fun s i wr => ∃ k : Nat, k ≤ m ∧ i = .int .i64 k ∧ s = .string ⟨(sb ++ (es.take k).flatMap entText).toArray⟩ ∧ Below W.heap.size W wr) (fun _ i _ => m - (intOf i).toNat)
          case atStart => exact ⟨0, Nat.zero_le _, rfl, by simp, HB0.out⟩
          case round =>
            clear HBel HB0 lR cR
            obtain ⟨k3, hk, rfl, rfl, hbel⟩ := hrel
            have HBel := Lib.hid hbel
            have aR := carryB hbel lW AW.out
            have cR := cell_of_block aR
            have lR := lt_of_block aR
            by_cases hlt3 : k3 < m
            · have hkz : k3 < es.length := by rw [← LE.out]; exact hlt3
              have hq1 : (k3 : Int) < (m : Int) := by omega
              have hq0 : (0 : Int) ≤ (k3 : Int) := by omega
              obtain ⟨b0, o0, rfl, hl0, hc0⟩ := five_at R0.out k3 hkz
              obtain ⟨d0, d1, d2, d3, d4⟩ := hc0 _ (KW.out.trans (hbel.mono KW.out.size))
              have HS := Lib.hid (ents_take hkz)
              have hbe := B3.out es[k3] (List.getElem_mem _)
              have lo := T3.out k3 (by rw [← LE.out]; exact hk)
              clear hc0 hbel
              generalize es[k3] = z at *
              have b0 := hbe z.c (by simp [fiveOf])
              have b1 := hbe z.n (by simp [fiveOf])
              have b2 := hbe z.o (by simp [fiveOf])
              have b3 := hbe z.x (by simp [fiveOf])
              have b4 := hbe z.y (by simp [fiveOf])
              rw [entText_eq] at HS
              clear hbe
              have hso : (sb ++ (es.take k3).flatMap entText).length ≤ 16 * 22 + 1 + 4 * 22 + k3 * 110 := by
                rw [List.length_append]
                omega
              have HS2 := Lib.hid (show sb ++ (es.take (k3 + 1)).flatMap entText = (sb ++ (es.take k3).flatMap entText) ++ ([47] ++ Lib.itoa z.c ++ [44] ++ Lib.itoa z.n ++ [44] ++ Lib.itoa z.o ++ [44] ++ Lib.itoa z.x ++ [44] ++ Lib.itoa z.y) by rw [HS.out]; simp only [List.append_assoc])
              clear HS
              generalize sb ++ (es.take k3).flatMap entText = so at *
              have cA := Lib.hid (fun V => l1Dec_c z.c V (by omega) (by omega))
              have cB := Lib.hid (fun V => l1Dec_c z.n V (by omega) (by omega))
              have cC := Lib.hid (fun V => l1Dec_c z.o V (by omega) (by omega))
              have cD := Lib.hid (fun V => l1Dec_c z.x V (by omega) (by omega))
              have cE := Lib.hid (fun V => l1Dec_c z.y V (by omega) (by omega))
              have la := itoa_len z.c (by omega) (by omega)
              have lb := itoa_len z.n (by omega) (by omega)
              have lc := itoa_len z.o (by omega) (by omega)
              have ld := itoa_len z.x (by omega) (by omega)
              have le := itoa_len z.y (by omega) (by omega)
              generalize Lib.itoa z.c = sA at *
              generalize Lib.itoa z.n = sB at *
              generalize Lib.itoa z.o = sC at *
              generalize Lib.itoa z.x = sD at *
              generalize Lib.itoa z.y = sE at *
              have n0 : ¬ 9223372036854775807 < so.length + 1 := by omega
              have n1 : ¬ 9223372036854775807 < so.length + 1 + sA.length := by omega
              have n2 : ¬ 9223372036854775807 < so.length + 1 + sA.length + 1 := by omega
              have n3 : ¬ 9223372036854775807 < so.length + 1 + sA.length + 1 + sB.length := by omega
              have n4 : ¬ 9223372036854775807 < so.length + 1 + sA.length + 1 + sB.length + 1 := by omega
              have n5 : ¬ 9223372036854775807 < so.length + 1 + sA.length + 1 + sB.length + 1 + sC.length := by omega
              have n6 : ¬ 9223372036854775807 < so.length + 1 + sA.length + 1 + sB.length + 1 + sC.length + 1 := by omega
              have n7 : ¬ 9223372036854775807 < so.length + 1 + sA.length + 1 + sB.length + 1 + sC.length + 1 + sD.length := by omega
              have n8 : ¬ 9223372036854775807 < so.length + 1 + sA.length + 1 + sB.length + 1 + sC.length + 1 + sD.length + 1 := by omega
              have n9 : ¬ 9223372036854775807 < so.length + 1 + sA.length + 1 + sB.length + 1 + sC.length + 1 + sD.length + 1 + sE.length := by omega
              clear b0 b1 b2 b3 b4 lo hso la lb lc ld le
              go_wp2_with fail
              obtain ⟨V, hV, sV, aV, kV⟩ := blocks1 wr (.cells #[.int .i64 z.c, .int .i64 z.n, .int .i64 z.o, .int .i64 z.x, .int .i64 z.y] 44)
              rw [← hV]
              clear hV
              have K3 := below_next HBel.out kV
              have qA := quietC (w := V) (fun U _ => cA.out U)
              have qB := quietC (w := V) (fun U _ => cB.out U)
              have qC := quietC (w := V) (fun U _ => cC.out U)
              have qD := quietC (w := V) (fun U _ => cD.out U)
              have qE := quietC (w := V) (fun U _ => cE.out U)
              have e0 := fun d os => cellRe aV d os 0
              have e1 := fun d os => cellRe aV d os 1
              have e2 := fun d os => cellRe aV d os 2
              have e3 := fun d os => cellRe aV d os 3
              have e4 := fun d os => cellRe aV d os 4
              clear cR aR lR d0 d1 d2 d3 d4 kV sV
              refine wp_region_quiet_below (by kernel_rfl) (by kernel_rfl) ?_
              repeat (go_big_quiet_step (first | with_reducible exact qA _ _ | with_reducible exact qB _ _ | with_reducible exact qC _ _ | with_reducible exact qD _ _ | with_reducible exact qE _ _))
              refine wpQuiet_nil ?_
              intro _ hw'
              obtain ⟨⟨dq, osq⟩, hw''⟩ := hw'
              subst hw''
              have KQ := below_next K3 (below_regrown V dq osq)
              go_wp2_with fail
              go_roundw
              case rel =>
                refine ⟨k3 + 1, by omega, by go_num, ?_, KQ⟩
                rw [HS2.out]
                congr 1
                apply ByteArray.ext
                simp
              case measure => simp [intOf]; omega
            · have e : es.take k3 = es := List.take_of_length_le (by rw [← LE.out]; omega)
              rw [e]
              clear e
              have hq1 : ¬ (k3 : Int) < (m : Int) := by omega
              have KF := KW.out.trans (hbel.mono KW.out.size)
              have HF := Lib.hid HGT.out
              clear HGT
              generalize es.flatMap entText = se at *
              go_wp2_with fail
              go_ret
              exact ⟨ret_str (by rw [HF.out]), KF⟩

set_option maxHeartbeats 1000000 in
theorem sGamePut_c (z : Gm) (a0 a1 a2 : Option Addr) (c0 c1 c2 : Nat) (w : World) (h0 : IsSl w (.slice a0 z.es.length c0) 5 Rq.cs z.es) (h1 : IsSl w (.slice a1 z.fl.length c1) 1 intR z.fl) (h2 : IsSl w (.slice a2 z.la.length c2) 1 intR z.la) (hs : z.es.length + z.fl.length + z.la.length ≤ 4194304) :
    Calls Tryz.prog 11 #[.agg #[.slice a0 z.es.length c0, .slice a1 z.fl.length c1, .slice a2 z.la.length c2]] w fun e w' => e = .returned (.string ⟨(gamePut z).toArray⟩) ∧ Below w.heap.size w w' := by
  have H0 := Lib.hid h0
  have H1 := Lib.hid h1
  have H2 := Lib.hid h2
  clear h0 h1 h2
  cases hg : gameB z with
  | true =>
    have HP : Hid (gamePut z = gameText z) := by show _ = _; unfold gamePut; rw [if_pos hg]
    have CO := Lib.hid (fun V h0 h1 h2 => l2Ok_c z a0 a1 a2 c0 c1 c2 V h0 h1 h2 hs)
    rw [hg] at CO
    have CT := Lib.hid (fun V h0 h1 h2 => l2Put_c z a0 a1 a2 c0 c1 c2 V h0 h1 h2 hg)
    clear hg
    generalize gameText z = tx at *
    generalize z.es.length = n0 at *
    generalize z.fl.length = n1 at *
    generalize z.la.length = n2 at *
    go_enter Tryz.func11, Tryz.ntmps11
    go_wp2_with fail
    obtain ⟨W, hW, sW, aW, kW⟩ := blocks1 w (.cells #[.slice a0 n0 c0, .slice a1 n1 c1, .slice a2 n2 c2] 27)
    rw [← hW]
    clear hW
    refine (CO.out W (H0.out.below kW) (H1.out.below kW) (H2.out.below kW)).mono ?_
    rintro e w1 ⟨rfl, k1⟩
    have K1 := below_next kW k1
    have a1 := carryB k1 (lt_of_block aW) aW
    have ca := cell_of_block a1
    have la := lt_of_block a1
    clear kW k1 aW sW
    go_wp2_with fail
    refine (CT.out w1 (H0.out.below K1) (H1.out.below K1) (H2.out.below K1)).mono ?_
    rintro e w2 ⟨rfl, k2⟩
    go_wp2_with fail
    go_ret
    exact ⟨ret_str (by rw [HP.out]), below_next K1 k2⟩
  | false =>
    have HP : Hid (gamePut z = []) := by show _ = _; unfold gamePut; rw [if_neg (by rw [hg]; simp)]
    have CO := Lib.hid (fun V h0 h1 h2 => l2Ok_c z a0 a1 a2 c0 c1 c2 V h0 h1 h2 hs)
    rw [hg] at CO
    clear hg
    go_enter Tryz.func11, Tryz.ntmps11
    go_wp2_with fail
    obtain ⟨W, hW, sW, aW, kW⟩ := blocks1 w (.cells #[.slice a0 z.es.length c0, .slice a1 z.fl.length c1, .slice a2 z.la.length c2] 27)
    rw [← hW]
    clear hW
    refine (CO.out W (H0.out.below kW) (H1.out.below kW) (H2.out.below kW)).mono ?_
    rintro e w1 ⟨rfl, k1⟩
    go_wp2_with fail
    go_ret
    exact ⟨ret_str (by rw [HP.out]), below_next kW k1⟩
end Go.Proofs.YtilldpoleiippaaGreatDoor
