/- The walk of FnExactWorldNew; no condition. | FnExactWorldNew: the law returns true for every input; no condition. -/
import Derived.Test.YtgdhieffjflejaaWorldMark
import Derived.Test.YtgdhieffjflejaaOpen
import Derived.ProofKit
import Derived.OpenShut
import Derived.ShutString
import Derived.ChangeOld
import Derived.Below
set_option linter.unusedSimpArgs false
set_option linter.unusedVariables false
/-! The walk of FnExactWorldNew; no condition. -/
namespace Go.Proofs.Ytgdhieffjflejaa
open Go.RowKit Go.Joins

theorem grown_transW {a b c : World} {row : Option Nat} (h : a.grownBy b row) (k : b.grownBy c row) : a.grownBy c row :=
  ⟨k.os.trans h.os, k.tape.trans h.tape, k.output.trans h.output, Nat.le_trans h.size k.size, fun i hi hne => (k.block i (Nat.lt_of_lt_of_le hi h.size) hne).trans (h.block i hi hne)⟩
theorem grown_of_belowW {a w : World} (h : Below a.heap.size a w) (row : Option Nat) : a.grownBy w row := ⟨h.os, h.tape, h.output, h.size, fun i hi _ => h.block i hi⟩

set_option maxRecDepth 100000 in
set_option maxHeartbeats 1000000 in
theorem markWorld_c {B n : Nat} (bad : Int) {a : Option Addr} {zs : List Rp} (w : World) (h : Row w B 78 a n 7 Rp.cs zs) (hl : zs.length = n) (hn : n ≤ 4) :
    Calls Try.prog 21 #[.agg #[.int .i64 bad, .slice a n n, .slice none 0 0], .int .i64 1] w fun e w' => e = .returned (.int .i64 (1 + ((n * 4 : Nat) : Int))) ∧ AllMarked w' a n ∧ w.grownBy w' (rowBlk a n) := by
  have H := Lib.hid h
  have HB := Lib.hid (fun g (hg : rowBlk a n = some g) => (h.blk hg).2)
  clear h
  have HL := Lib.hid hl
  clear hl
  go_enter Try.func21, Try.ntmps21
  go_wp2_with fail
  obtain ⟨W, hW, sW, aW, kW⟩ := blocks1 w (.cells #[.int .i64 bad, .slice a n n, .slice none 0 0] 50)
  rw [← hW]
  clear hW
  refine (markReps_r W (H.out.below kW) HL.out hn).mono ?_
  rintro e w2 ⟨rfl, hm, g2, s2⟩
  have HM := Lib.hid hm
  have a2 := (g2.block w.heap.size (lt_of_block aW) (fun e => by have := (by first | exact HB.out _ e | exact HB.out _ e.symm); omega)).trans aW
  have GG := Lib.hid (grown_transW (grown_of_belowW kW (rowBlk a n)) g2)
  clear hm kW aW g2
  have c2 := cell_of_block a2
  have l2 := lt_of_block a2
  go_wp2_with fail
  refine (markMsgS_nil _ _).mono ?_
  rintro e w3 ⟨rfl, rfl⟩
  go_wp2_with fail
  go_ret
  exact ⟨rfl, HM.out, GG.out⟩
set_option maxRecDepth 100000 in
set_option maxHeartbeats 1000000 in
theorem heldWorld_c {B n : Nat} (bad : Int) {a : Option Addr} {zs : List Rp} {w0 : World} (w : World) (h : Row w0 B 78 a n 7 Rp.cs zs) (hl : zs.length = n) (hn : n ≤ 4) (hm : AllMarked w a n) :
    Calls Try.prog 22 #[.agg #[.int .i64 bad, .slice a n n, .slice none 0 0], .int .i64 1] w fun e w' => e = .returned (.int .i64 (1 + ((n * 4 : Nat) : Int))) ∧ Below w.heap.size w w' := by
  have H := Lib.hid h
  have HM := Lib.hid hm
  have HL := Lib.hid hl
  clear h hm hl
  go_enter Try.func22, Try.ntmps22
  go_wp2_with fail
  obtain ⟨W, hW, sW, aW, kW⟩ := blocks1 w (.cells #[.int .i64 bad, .slice a n n, .slice none 0 0] 50)
  rw [← hW]
  clear hW
  have CH := heldReps_r W H.out HL.out hn (HM.out.below kW)
  obtain ⟨r, hr⟩ : ∃ r, r = 1 + ((n * 4 : Nat) : Int) := ⟨_, rfl⟩
  have HR := Lib.hid hr
  have hr0 : ¬ r < 0 := by omega
  rw [← hr] at CH
  clear hr
  refine CH.mono ?_
  rintro e w2 ⟨rfl, rfl⟩
  clear CH
  have c2 := cell_of_block aW
  have l2 := lt_of_block aW
  go_wp2_with fail
  refine (heldMsgS_nil _ _).mono ?_
  rintro e w3 ⟨rfl, rfl⟩
  go_wp2_with fail
  go_ret
  have e1 := HR.out
  clear HR
  subst e1
  exact ⟨rfl, kW⟩

set_option maxRecDepth 100000 in
set_option maxHeartbeats 1000000 in
theorem fnExactWorldNew.walk (v0 : Value) (n : Int) (w : World) (h0 : v0 = .int .i64 n) :
    Calls Try.prog 6 #[v0] w fun e w' => e = .returned (.bool true) ∧ Below w.heap.size w w' := by
  subst h0
  have CS := fun w => sWorldNew_c n w
  have CI := fun w => WorldNew_c n w
  unfold WorldGot at CS
  unfold WorldOwn at CI
  have hzl := worldReps_len n
  have hN : worldN n ≤ 4 := by unfold worldN; split <;> omega
  generalize worldBad n = bd at CS CI
  generalize worldReps n = zs at CS CI hzl
  generalize worldN n = N at CS CI hzl hN
  replace CS := Lib.hid CS
  replace CI := Lib.hid CI
  have HZ := Lib.hid hzl
  clear hzl
  go_enter Try.func6, Try.ntmps6
  go_wp2_with fail
  refine (CS.out _).mono ?_
  rintro e w1 ⟨aS, cS, rfl, rS, k1⟩
  go_wp2_with fail
  obtain ⟨X, hX, sX, aX, kX⟩ := blocks1 w1 (.cells #[.int .i64 bd, .slice aS N cS, .slice none 0 0] 50)
  rw [← hX]
  clear hX
  have K1 := below_next k1 kX
  have BS := Lib.hid (fun g (hg : rowBlk aS cS = some g) => (rS.blk hg).2)
  have hwX : w.heap.size ≤ X.heap.size := K1.size
  have RS1 := rS.below kX
  have lX := lt_of_block aX
  refine (CI.out _).mono ?_
  rintro e w2 ⟨aI, rfl, rI, k2⟩
  have BI := Lib.hid (fun g (hg : rowBlk aI N = some g) => rI.blk hg)
  have K2 := below_next K1 k2
  have aX2 := carryB k2 lX aX
  have RS2 := RS1.below k2
  have h2 := k2.size
  clear k1 kX K1 k2 aX RS1 rS
  have cX2 := cell_of_block aX2
  have lX2 := lt_of_block aX2
  go_wp2_with fail
  obtain ⟨Y, hY, sY, aY, kY⟩ := blocks1 w2 (.cells #[.int .i64 bd, .slice aI N N, .slice none 0 0] 50)
  rw [← hY]
  clear hY
  have K3 := below_next K2 kY
  have aX3 := carryB kY lX2 aX2
  have RS3 := RS2.below kY
  have RI3 := rI.below kY
  have lY := lt_of_block aY
  clear cX2 K2 aX2 lX2 RS2 rI kY
  have SI3 := Lib.hid (show IsSl Y (.slice aI N N) 7 Rp.cs zs from HZ.out ▸ RI3.sl seven_len)
  have SS3 := Lib.hid (show IsSl Y (.slice aS N cS) 7 Rp.cs zs from HZ.out ▸ RS3.sl seven_len)
  refine (eqWorld_c bd aI aS N N cS zs Y SI3.out SS3.out).mono ?_
  rintro e w3 ⟨rfl, k3⟩
  have K4 := below_next K3 k3
  have aX4 := carryB k3 (lt_of_block aX3) aX3
  have aY4 := carryB k3 lY aY
  have RS4 := RS3.below k3
  have RI4 := Lib.hid (RI3.below k3)
  have h3 := k3.size
  clear k3 K3 aX3 aY RS3 RI3 SI3 SS3
  have cY4 := cell_of_block aY4
  have lY4 := lt_of_block aY4
  have lX4 := lt_of_block aX4
  go_wp2_with fail
  refine (markWorld_c bd w3 RI4.out HZ.out hN).mono ?_
  rintro e w4 ⟨rfl, hm, g4⟩
  have HM := Lib.hid hm
  have aX5 := (g4.block _ lX4 (fun e => by have := (by first | exact BI.out _ e | exact BI.out _ e.symm); omega)).trans aX4
  have aY5 := (g4.block _ lY4 (fun e => by have := (by first | exact BI.out _ e | exact BI.out _ e.symm); omega)).trans aY4
  have RS5 := Lib.hid (RS4.kept g4 (fun g hg e => by have := (by first | exact BI.out _ e | exact BI.out _ e.symm); have := BS.out g hg; omega))
  have K5 := K4.grown g4 K4.size (fun g hg => by have := (BI.out g hg).1; have := K4.size; omega)
  clear hm K4 g4 aX4 aY4 RS4 cY4 lY4 lX4
  have cY5 := cell_of_block aY5
  have lY5 := lt_of_block aY5
  obtain ⟨r, hr⟩ : ∃ r, r = 1 + ((N * 4 : Nat) : Int) := ⟨_, rfl⟩
  have HR := Lib.hid hr
  have hr0 : ¬ r < 0 := by omega
  rw [← hr]
  clear hr
  go_wp2_with fail
  refine (heldWorld_c bd w4 RI4.out HZ.out hN HM.out).mono ?_
  rintro e w5 ⟨rfl, k5⟩
  rw [← HR.out]
  have K6 := below_next K5 k5
  have aX6 := carryB k5 (lt_of_block aX5) aX5
  have aY6 := carryB k5 lY5 aY5
  have RS6 := RS5.out.below k5
  have HM6 := HM.out.below k5
  clear k5 K5 cY5 aX5 aY5 lY5
  go_wp2_with fail
  refine (CI.out _).mono ?_
  rintro e w6 ⟨aN, rfl, rN, k6⟩
  have K7 := below_next K6 k6
  have aX7 := carryB k6 (lt_of_block aX6) aX6
  have aY7 := carryB k6 (lt_of_block aY6) aY6
  have RS7 := RS6.below k6
  have HM7 := HM6.below k6
  clear k6 K6 aX6 aY6 RS6 HM6
  have cX7 := cell_of_block aX7
  have lX7 := lt_of_block aX7
  go_wp2_with fail
  obtain ⟨Z, hZ, sZ, aZ, kZ⟩ := blocks1 w6 (.cells #[.int .i64 bd, .slice aN N N, .slice none 0 0] 50)
  rw [← hZ]
  clear hZ
  have K8 := below_next K7 kZ
  have aY8 := carryB kZ (lt_of_block aY7) aY7
  have SN := Lib.hid (show IsSl Z (.slice aN N N) 7 Rp.cs zs from HZ.out ▸ (rN.below kZ).sl seven_len)
  have SS8 := Lib.hid (show IsSl Z (.slice aS N cS) 7 Rp.cs zs from HZ.out ▸ (RS7.below kZ).sl seven_len)
  have HM8 := HM7.below kZ
  clear cX7 K7 kZ aY7 HM7 RS7 rN
  refine (eqWorld_c bd aN aS N N cS zs Z SN.out SS8.out).mono ?_
  rintro e w7 ⟨rfl, k7⟩
  have K9 := below_next K8 k7
  have aY9 := carryB k7 (lt_of_block aY8) aY8
  have HM9 := Lib.hid (HM8.below k7)
  clear k7 K8 aY8 HM8
  have cY9 := cell_of_block aY9
  have lY9 := lt_of_block aY9
  go_wp2_with fail
  refine (heldWorld_c bd w7 RI4.out HZ.out hN HM9.out).mono ?_
  rintro e w8 ⟨rfl, k8⟩
  rw [← HR.out]
  go_wp2_with fail
  go_ret
  exact ⟨rfl, below_next K9 k8⟩
end Go.Proofs.Ytgdhieffjflejaa

/-! FnExactWorldNew: the law returns true for every input; no condition. -/
namespace Go.Proofs.Ytgdhieffjflejaa.fnExactWorldNew
open Go.ChangeShapes hiding open_int
open Go.WideShapes Go.ChangeAt Go.RowKit
open Go.ChangeMaps (shut_string)
set_option linter.unusedVariables false

theorem own : ownKnob Try.prog.godebug = none := by kernel_rfl
theorem laidOut : laidOutB Try.prog = true := by kernel_rfl

set_option maxRecDepth 100000 in
theorem lifted (os : Os) (started : os.Started) (H : Type) (enc : TypeId × Value → H) :
    ReturnsInHanded {} Try.checked os 6 .any (Rows.fnExactWorldNewSpec.pre6 enc Try.prog Try.f6 Rows.fnExactWorldNewRow.domain false) (Rows.fnExactWorldNewSpec.post enc Try.prog Try.f6 false true false false) := by
  refine returnsInHanded_of_change (C := Try.checked) own started (by kernel_rfl) Try.func6
    (ChangeSpec.witness6 (enc := enc) (C := Try.checked) false ⟨#[], #[.int .i64 0], []⟩ 8 (by kernel_rfl) (by kernel_rfl) (by kernel_rfl) (by kernel_rfl)) ?_
  intro W base args ds gs before hval0 hW hcnd _
  have hval : ∀ (j : Nat) t v, Try.f6.params[j]? = some t → args[j]? = some v → Value.okWide Try.prog W .any base t v := hval0
  have hW' := hW
  obtain ⟨p, q, hA0, hV, rfl, hfz, hnd⟩ := hW
  have hA : DataW.TrodAll enc Try.prog W 0 (fun _ => true) true Try.f6.params.toList args.toList ds p := hA0
  rw [Try.params6] at hA hval
  obtain ⟨v0, vs0, d0, ds0, p0, q0, hargs, rfl, rfl, h0, r0⟩ := trodAll_cons hA
  obtain ⟨rfl, rfl, rfl⟩ := trodAll_nil r0
  obtain rfl : args = #[v0] := by cases args; simp_all
  obtain ⟨rfl, rfl⟩ := trodVars_none hV
  have lt0 : ∀ x ∈ p0, x.block < W.heap.size := by obtain ⟨m, hm⟩ := h0; exact DataW.trod_lt m _ _ _ hm
  obtain ⟨z0, o0⟩ := open_int (hval 0 3 v0 rfl rfl) h0
  clear hA0 hval0
  refine (walk v0 z0 W o0).mono fun e W' ⟨he, bel⟩ => ?_
  subst he
  exact ⟨_, rfl, _, _, _, [], _, [], hW', trodAll_mk1 (shut_bool Try.underlying4 _), (trodAll_cons_mk (Below.trod laidOut (by kernel_rfl) (of_decide_eq_true (by kernel_rfl)) h0 bel lt0) trodAll_mk0), rfl, bel.frame _, fun h => by cases h⟩

theorem over : Rows.fnExactWorldNewRow.holds Try.pinned (OpenSpec.ofChange Rows.fnExactWorldNewSpec) :=
  OpenClaim.holds_of_wide 6 Try.f6 rfl rfl rfl rfl rfl rfl rfl ⟨rfl, rfl, rfl, rfl, rfl⟩ rfl rfl rfl rfl rfl (by kernel_rfl) Try.func6 (by kernel_rfl)
    (of_decide_eq_true (by kernel_rfl)) (by unfold Func.isWrapper; first | (rw [if_pos (by decide +kernel)]; kernel_rfl) | (rw [if_neg (by decide +kernel)]; exact ⟨rfl, rfl⟩))
    (fun os started H enc _ => lifted os started H enc)

theorem proved : Rows.FnExactWorldNewSaid := over
end Go.Proofs.Ytgdhieffjflejaa.fnExactWorldNew
