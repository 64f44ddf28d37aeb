/- The walk of FnLedgerOf: it returns true for every code; condition: the package variables as listed. -/
import Derived.Test.YtbfnilfkhonpaaaDoorWpRows
import Derived.Test.YtbfnilfkhonpaaaDoorDrawFold
import Derived.Test.YtbfnilfkhonpaaaDoorLedOfI
import Derived.Test.YtbfnilfkhonpaaaDoorAdd
namespace Go.Proofs.YtbfnilfkhonpaaaDoor
open Go.RowKit Go.Joins

theorem ledOf_either (rs : List Rq) (h60 : rs.length ≤ 60) : (rs.all good = true ∧ ledOf rs = rowsOf rs) ∨ (0 < rs.length ∧ ledOf rs = []) := by
  by_cases hg : rs.all good = true
  · exact .inl ⟨hg, by unfold ledOf; rw [if_pos ⟨h60, hg⟩]⟩
  · refine .inr ⟨?_, by unfold ledOf; rw [if_neg (fun q => hg q.2)]⟩
    cases rs with
    | nil => exact absurd rfl hg
    | cons r rs => simp
theorem addL_rowsOf {rs : List Rq} {k : Nat} (h60 : rs.length ≤ 60) (hg : rs.all good = true) (hk : k < rs.length) : addL (rowsOf (rs.take k)) rs[k] = (rowsOf (rs.take (k + 1)), true) := by
  have el : (rs.take k).length = k := by rw [List.length_take]; omega
  have hlen : (rowsOf (rs.take k)).length = k := by rw [rowsOf_length, el]
  have hf := far_rowsOf (rs.take k) (by omega) (all_take' k hg)
  have hgk : good rs[k] = true := List.all_eq_true.1 hg _ (List.getElem_mem _)
  unfold addL
  rw [if_pos ⟨by rw [hf, el, hlen], by omega, hgk⟩, hlen, List.take_succ_eq_append_getElem hk, rowsOf_snoc, el]

set_option maxHeartbeats 400000 in
theorem DrawLedgerOf_c (v : Value) (z : Bts) (w : World) (hz : IsBytes w v z) :
    Calls Tryd.prog 32 #[v] w (AsksOwn 41 w) := by
  have HZ := Lib.hid hz
  clear hz
  go_enter Tryd.func32, Tryd.ntmps32
  go_wp2_with fail
  refine (DrawGameFold_c v z _ HZ.out).mono ?_
  rintro e w1 ⟨rs, a', cap', rfl, hl, hs, k⟩
  go_wp2_with fail
  go_ret
  exact ⟨rs, a', cap', rfl, hl, hs, k⟩
end Go.Proofs.YtbfnilfkhonpaaaDoor
namespace Go.Proofs.YtbfnilfkhonpaaaDoor.fnLedgerOf
open Go.RowKit Go.Joins

set_option maxRecDepth 100000 in
set_option maxHeartbeats 8000000 in
theorem walk (v : Value) (z : Bts) (w : World) (hz : IsBytes w v z) (E : Env w) :
    Calls Tryd.prog 10 #[v] w fun e w' => e = .returned (.bool true) ∧ Below w.heap.size w w' := by
  obtain ⟨a, n, cap⟩ := z
  have HZ := Lib.hid hz
  obtain ⟨hv, hlc, hm, -⟩ := hz
  simp only at hv hlc hm
  subst hv
  have EE := Lib.hid E
  clear E
  by_cases hbig : (1048576 : Int) < n
  · go_enter Tryd.func10, Tryd.ntmps10
    go_wp2_with fail
    go_ret
    exact ⟨rfl, Below.refl _ _⟩
  · go_enter Tryd.func10, Tryd.ntmps10
    go_wp2_with fail
    refine (DrawLedgerOf_c _ _ w HZ.out).mono ?_
    rintro e w1 ⟨rs, b, cb, rfl, h41, hsl, k1⟩
    have HSL := Lib.hid hsl
    obtain ⟨-, -, -, hr⟩ := hsl.bounds
    have HR := Lib.hid hr
    have CI := Lib.hid (fun V E h => LedgerOf_c b rs.length cb rs V E h (by omega))
    have CS := Lib.hid (fun V h => sLedgerOf_c b rs.length cb rs V h (by omega))
    have E1 := Lib.hid (EE.out.below k1)
    have HE := Lib.hid (ledOf_either rs (by omega))
    have HLO := Lib.hid (rowsOf_length rs)
    have HFA := Lib.hid (far_rowsOf rs (by omega))
    clear hr hsl
    obtain ⟨N, hN⟩ : ∃ N, N = rs.length := ⟨_, rfl⟩
    have HN := Lib.hid hN
    rw [← hN] at h41 CI CS HSL HFA HLO HE ⊢
    obtain ⟨zs, hzs⟩ : ∃ zs, zs = ledOf rs := ⟨_, rfl⟩
    have HZS := Lib.hid hzs
    rw [← hzs] at CI CS HE
    obtain ⟨l, hl⟩ : ∃ l, l = zs.length := ⟨_, rfl⟩
    have HL := Lib.hid hl
    clear hN hzs hl
    go_wp2_with fail
    refine (CI.out w1 E1.out HSL.out).mono ?_
    rintro e w2 ⟨c, rfl, rC, k2⟩
    rw [← HL.out] at rC ⊢
    have RC := Lib.hid rC
    have K2 := below_next k1 k2
    have S2 := Lib.hid (HSL.out.below k2)
    clear k1 k2 rC
    go_wp2_with fail
    refine (CS.out w2 S2.out).mono ?_
    rintro e w3 ⟨d, cd, rfl, rD, k3⟩
    rw [← HL.out]
    have SD := Lib.hid (rD.slE six_len HL.out.symm)
    have RC3 := Lib.hid (RC.out.below k3)
    have S3 := Lib.hid (S2.out.below k3)
    have K3 := below_next K2 k3
    clear k3 rD RC S2 K2
    go_wp2_with fail
    refine (wpRows_c _ _ zs w3 (RC3.out.slE six_len HL.out.symm) SD.out).mono ?_
    rintro e w4 ⟨rfl, k4⟩
    have RC4 := Lib.hid (RC3.out.below k4)
    have S4 := Lib.hid (S3.out.below k4)
    have K4 := below_next K3 k4
    clear k4 K3 RC3 S3 SD
    have hE := HE.out
    rcases hE with ⟨hg, hzr⟩ | ⟨hpos, hnil⟩
    · have hlN : l = N := by rw [HL.out, hzr, HLO.out]
      subst hlN
      have HGG := Lib.hid hg
      have HZR := Lib.hid hzr
      have HFZ := Lib.hid (show far zs = l by rw [hzr]; exact HFA.out hg)
      obtain ⟨-, -, -, hr4⟩ := S4.out.bounds
      have HR4 := Lib.hid hr4
      have E4 := Lib.hid (EE.out.below K4)
      clear hg hzr hr4 HE HLO HFA CI CS HR HZ
      go_wp2_with fail
      go_loopw [5, 6] (fun x i wr => ∃ (k : Nat) (a' : Option Addr) (ca : Nat), k ≤ l ∧ i = .int .i64 k ∧ x = .slice a' k ca ∧ IsSl wr (.slice a' k ca) 6 En.cs (rowsOf (rs.take k)) ∧ Below w.heap.size w wr ∧ Below w4.heap.size w4 wr) (fun _ i _ => l - (intOf i).toNat)
      case atStart => exact ⟨0, _, 0, Nat.zero_le _, rfl, rfl, Row.slE (Row.nil _ 0 44 _ _ _) six_len rfl, K4.trans ((Below.refl _ _).alloc K4.size _), (Below.refl _ _).alloc (Nat.le_refl _) _⟩
      case round =>
        obtain ⟨k, a', ca, hk, rfl, rfl, hsx, hbel, hb4⟩ := hrel
        have HX := Lib.hid hsx
        clear hsx
        by_cases hlt : k < l
        · have hkz : k < rs.length := by rw [← HN.out]; exact hlt
          have hk1 : (k : Int) < (l : Int) := by omega
          have hk0 : (0 : Int) ≤ (k : Int) := by omega
          obtain ⟨b0, o0, rfl, hl0, hc0⟩ := five_at HR4.out k hkz
          obtain ⟨c0, c1, c2, c3, c4⟩ := hc0 wr hb4
          have hlen : (rowsOf (rs.take (k + 1))).length = k + 1 := by rw [rowsOf_length, List.length_take]; omega
          have hAD := LedgerAdd_c a' k ca (rowsOf (rs.take k)) rs[k] wr (E4.out.below hb4) HX.out (by omega)
          rw [addL_rowsOf (by rw [← HN.out]; omega) HGG.out hkz] at hAD
          have HAD := Lib.hid hAD
          have HLEN := Lib.hid hlen
          clear hAD hc0 hlen
          generalize rs[k] = r at *
          obtain ⟨rc, rn, ro, rx, ry⟩ := r
          simp only at c0 c1 c2 c3 c4
          go_wp2_with fail
          refine HAD.out.mono ?_
          rintro e w5 ⟨a5, rfl, r5, k5⟩
          have IS5 := Lib.hid (r5.slE six_len HLEN.out)
          rw [HLEN.out] at IS5 ⊢
          have B5 := below_next hbel k5
          have C5 := below_next hb4 k5
          clear r5 k5 c0 c1 c2 c3 c4 hb4 hbel
          go_wp2_with fail
          go_roundw
          case rel => exact ⟨k + 1, a5, k + 1, by omega, by go_num, rfl, IS5.out, B5, C5⟩
          case measure => simp [intOf]; omega
        · obtain rfl : k = l := by omega
          have hx : rowsOf (rs.take k) = zs := by rw [List.take_of_length_le (by have := HN.out; omega)]; exact HZR.out.symm
          have HX' := Lib.hid (show IsSl wr (.slice a' k ca) 6 En.cs zs from hx ▸ HX.out)
          have RW := Lib.hid (RC4.out.below hb4)
          clear HX hx
          go_wp2_with fail
          refine (LedgerFar_c c k k zs wr (E4.out.below hb4) (RW.out.slE six_len HL.out.symm) (by omega)).mono ?_
          rintro e w5 ⟨rfl, k5⟩
          rw [HFZ.out]
          go_wp2_with fail
          refine (wpRows_c _ _ zs w5 (HX'.out.below k5) ((RW.out.below k5).slE six_len HL.out.symm)).mono ?_
          rintro e w6 ⟨rfl, k6⟩
          have B6 := below_next (below_next hbel k5) k6
          go_wp2_with fail
          go_ret
          exact ⟨rfl, B6⟩
    · have hl0 : l = 0 := by rw [HL.out, hnil]; rfl
      subst hl0
      have hne : ¬ (0 : Int) = N := by omega
      have HP := Lib.hid hpos
      go_wp2_with fail
      refine (CS.out w4 S4.out).mono ?_
      rintro e w5 ⟨d, cd, rfl, rD, k5⟩
      rw [← HL.out]
      have SD := Lib.hid (rD.slE six_len HL.out.symm)
      have RC5 := Lib.hid (RC4.out.below k5)
      have K5 := below_next K4 k5
      clear k5 rD RC4 K4
      go_wp2_with fail
      refine (wpRows_c _ _ zs w5 (RC5.out.slE six_len HL.out.symm) SD.out).mono ?_
      rintro e w6 ⟨rfl, k6⟩
      have K6 := below_next K5 k6
      clear k6 K5
      go_wp2_with fail
      go_ret
      exact ⟨rfl, K6⟩
end Go.Proofs.YtbfnilfkhonpaaaDoor.fnLedgerOf
