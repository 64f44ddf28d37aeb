/- The walk of FnExactLedgerOf; condition: the package variables as listed. -/
import Derived.Test.YtbfnilfkhonpaaaDoorLedOfI
import Derived.Test.YtbfnilfkhonpaaaDoorFnExactLedgerFarW
import Derived.Test.YtbfnilfkhonpaaaDoorMark6
namespace Go.Proofs.YtbfnilfkhonpaaaDoor
open Go.RowKit Go.Joins

theorem Row.ofBlock {α : Type} {w : World} {B g e k n : Nat} {R : α → List Value} {zs : List α} (hR : ∀ z, (R z).length = k) (h : w.heap[g]? = some (.cells (flat R zs) e (0, 0))) (hB : B ≤ g) (hz : zs.length = n) (hn : n ≤ 1048576) : Row w B e (some ⟨g, 0, none⟩) n k R zs := by
  subst hz
  exact ⟨Nat.le_refl _, by simp only [maxLen]; omega, fun _ => ⟨g, _, rfl, hB, h, Nat.le_of_eq (flat_size hR zs).symm, fun _ _ => rfl⟩⟩
theorem blk_some {g : Nat} {n b : Nat} (h : rowBlk (some ⟨g, 0, none⟩) n = some b) : b = g := by
  unfold rowBlk at h
  split at h
  · cases h
  · simpa using h.symm
theorem ledOf_len (rs : List Rq) : (ledOf rs).length ≤ 60 := by
  unfold ledOf
  split
  · rename_i h; rw [rowsOf_length]; exact h.1
  · simp
theorem leftNeg {l : Int} {n : Nat} (h : l - n < 0) : leftOf l n = -1 := by unfold leftOf; rw [if_pos h]
theorem leftPos {l : Int} {n : Nat} (h : 0 ≤ l - n) : leftOf l n = l - n := by unfold leftOf; rw [if_neg (by omega)]
/-- Numbered cells of a row, as they stand. -/
def Numbered (w : World) (a : Option Addr) (n k : Nat) (m : Int) : Prop := ∀ g, rowBlk a n = some g → g < w.heap.size ∧ ∀ j, j < n * k → w.cell? ⟨g, j, none⟩ = some (.int .i64 (m + j))
theorem Numbered.below {w w' : World} {a : Option Addr} {n k : Nat} {m : Int} (h : Numbered w a n k m) (b : Below w.heap.size w w') : Numbered w' a n k m := fun g hg =>
  ⟨Nat.lt_of_lt_of_le (h g hg).1 b.size, fun j hj => (b.cell (p := ⟨g, j, none⟩) (h g hg).1).trans ((h g hg).2 j hj)⟩

set_option maxRecDepth 100000 in
set_option maxHeartbeats 8000000 in
theorem fnExactLedgerOf.walk (v0 : Value) (rs : List Rq) (w : World) (h0 : IsSl w v0 5 Rq.cs rs) (E : Env w) :
    Calls Tryd.prog 13 #[v0] w fun e w' => e = .returned (.bool true) ∧ Below w.heap.size w w' := by
  obtain ⟨a, cap, rfl, hlc, hm, hr⟩ := h0
  have H0 := Lib.hid (show IsSl w (.slice a rs.length cap) 5 Rq.cs rs from ⟨a, cap, rfl, hlc, hm, hr⟩)
  have EE := Lib.hid E
  clear hr E
  have CS := fun a n cap w h hn => sLedgerOf_c a n cap rs w h hn
  have CI := fun a n cap w E h hn => LedgerOf_c a n cap rs w E h hn
  have hy := ledOf_len rs
  generalize ledOf rs = zs at CS CI hy
  replace CS := Lib.hid CS
  replace CI := Lib.hid CI
  generalize hrn : rs.length = n at *
  have HZ := Lib.hid hrn
  clear hrn
  have sz1 := szReqS_c a n cap 1048576 w hlc hm (by decide) (by decide)
  by_cases hs : (1048576 : Int) - n < 0
  · rw [leftNeg hs] at sz1
    go_enter Tryd.func13, Tryd.ntmps13
    go_wp2_with fail
    refine sz1.mono ?_
    rintro e w1 ⟨rfl, rfl⟩
    go_wp2_with fail
    go_ret
    exact ⟨rfl, Below.refl _ _⟩
  · have hn : n ≤ 1048576 := by omega
    rw [leftPos (by omega)] at sz1
    obtain ⟨l, hl⟩ : ∃ l, zs.length = l := ⟨_, rfl⟩
    have HL := Lib.hid hl
    rw [hl] at hy
    clear hl
    go_enter Tryd.func13, Tryd.ntmps13
    go_wp2_with fail
    refine sz1.mono ?_
    rintro e w1 ⟨rfl, rfl⟩
    clear sz1
    go_wp2_with fail
    refine (toReqS_c _ rs w H0.out (by rw [HZ.out]; exact hn)).mono ?_
    rintro e w2 ⟨rfl, b2, k2⟩
    rw [HZ.out]
    have i2 := Lib.hid (sl_block five_len b2 HZ.out hn)
    clear b2
    go_wp2_with fail
    refine (CS.out _ n n w2 i2.out (by omega)).mono ?_
    rintro e w3 ⟨aQ, cQ, rfl, rQ, k3⟩
    have K3 := below_next k2 k3
    have RQ := Lib.hid (rQ.low k2.size)
    rw [HL.out]
    clear k2 k3 i2 rQ
    go_wp2_with fail
    refine (toReqS_c _ rs w3 (H0.out.below K3) (by rw [HZ.out]; exact hn)).mono ?_
    rintro e w4 ⟨rfl, b4, k4⟩
    rw [HZ.out]
    have K4 := below_next K3 k4
    have z3 := K3.size
    have RX := Lib.hid (Row.ofBlock (B := w3.heap.size) five_len b4 (Nat.le_refl _) HZ.out hn)
    have QB := Lib.hid (fun g (hg : rowBlk aQ cQ = some g) => RQ.out.blk hg)
    replace RQ := Lib.hid (RQ.out.below k4)
    have x4 := lt_of_block b4
    clear b4 k4 K3
    go_wp2_with fail
    refine (CI.out _ n n w4 (EE.out.below K4) (RX.out.slE five_len HZ.out) (by omega)).mono ?_
    rintro e w5 ⟨aP, rfl, rP, k5⟩
    rw [HL.out] at rP ⊢
    have K5 := below_next K4 k5
    have RP := Lib.hid rP
    have z5 := k5.size
    replace RX := Lib.hid (RX.out.below k5)
    replace RQ := Lib.hid (RQ.out.below k5)
    have PB := Lib.hid (fun g (hg : rowBlk aP l = some g) => (RP.out.blk hg).1)
    clear k5 K4 rP
    go_wp2_with fail
    refine (eqEntryS_c _ _ zs w5 (RP.out.slE six_len HL.out) (RQ.out.slE six_len HL.out)).mono ?_
    rintro e w6 ⟨rfl, k6⟩
    have K6 := below_next K5 k6
    replace RX := Lib.hid (RX.out.below k6)
    replace RQ := Lib.hid (RQ.out.below k6)
    replace RP := Lib.hid (RP.out.below k6)
    clear k6 K5
    go_wp2_with fail
    refine (toReqS_c _ rs w6 (H0.out.below K6) (by rw [HZ.out]; exact hn)).mono ?_
    rintro e w7 ⟨rfl, b7, k7⟩
    rw [HZ.out]
    have K7 := below_next K6 k7
    have i7 := Lib.hid (sl_block five_len b7 HZ.out hn)
    replace RX := Lib.hid (RX.out.below k7)
    replace RQ := Lib.hid (RQ.out.below k7)
    replace RP := Lib.hid (RP.out.below k7)
    clear k7 K6 b7
    go_wp2_with fail
    refine (eqReqS_c _ _ rs w7 (RX.out.slE five_len HZ.out) i7.out).mono ?_
    rintro e w8 ⟨rfl, k8⟩
    have K8 := below_next K7 k8
    replace RX := Lib.hid (RX.out.below k8)
    replace RQ := Lib.hid (RQ.out.below k8)
    replace RP := Lib.hid (RP.out.below k8)
    clear k8 K7 i7
    go_wp2_with fail
    refine (markReqs_r 1 w8 RX.out HZ.out (by omega) (by omega) (by omega)).mono ?_
    rintro e w9 ⟨rfl, mX⟩
    have K9 : Below w.heap.size w w9 := K8.grown mX.grown K8.size (fun g hg => by have := blk_some hg; omega)
    replace RQ := Lib.hid (RQ.out.kept mX.grown (fun g hg e => by have := (QB.out g hg).2; have := blk_some e; omega))
    replace RP := Lib.hid (RP.out.kept mX.grown (fun g hg e => by have := PB.out g hg; have := blk_some e; omega))
    clear mX K8 RX
    have hng : ¬ (1 + ((n * 5 : Nat) : Int)) < 0 := by omega
    go_wp2_with fail
    refine (eqEntryS_c _ _ zs w9 (RP.out.slE six_len HL.out) (RQ.out.slE six_len HL.out)).mono ?_
    rintro e w10 ⟨rfl, k10⟩
    have K10 := below_next K9 k10
    replace RQ := Lib.hid (RQ.out.below k10)
    replace RP := Lib.hid (RP.out.below k10)
    clear k10 K9 hng
    go_wp2_with fail
    refine (markEntrys_r 1 w10 RP.out HL.out (by omega) (by omega) (by omega)).mono ?_
    rintro e w11 ⟨rfl, mP⟩
    have K11 : Below w.heap.size w w11 := K10.grown mP.grown K10.size (fun g hg => by have := PB.out g hg; omega)
    replace RQ := Lib.hid (RQ.out.kept mP.grown (fun g hg e => by have := (QB.out g hg).2; have := PB.out _ e; omega))
    have NP := Lib.hid (show Numbered w11 aP l 6 1 from fun g hg => ⟨by have := (RP.out.blk hg).2; have := mP.size; omega, fun j hj => mP.cells g hg j hj⟩)
    clear mP K10
    have hny : ¬ (1 + ((l * 6 : Nat) : Int)) < 0 := by omega
    go_wp2_with fail
    refine (heldEntrys_r 1 w11 RP.out HL.out (fun g hg j hj => (NP.out g hg).2 j hj) (by omega) (by omega) (by omega)).mono ?_
    rintro e w12 ⟨rfl, rfl⟩
    go_wp2_with fail
    refine (toReqS_c _ rs w11 (H0.out.below K11) (by rw [HZ.out]; exact hn)).mono ?_
    rintro e w13 ⟨rfl, b13, k13⟩
    rw [HZ.out]
    have K13 := below_next K11 k13
    have i13 := Lib.hid (sl_block five_len b13 HZ.out hn)
    replace RQ := Lib.hid (RQ.out.below k13)
    replace NP := Lib.hid (NP.out.below k13)
    clear k13 K11 b13
    go_wp2_with fail
    refine (CI.out _ n n w13 (EE.out.below K13) i13.out (by omega)).mono ?_
    rintro e w14 ⟨aN, rfl, rN, k14⟩
    rw [HL.out] at rN ⊢
    have K14 := below_next K13 k14
    have RN := Lib.hid rN
    replace RQ := Lib.hid (RQ.out.below k14)
    replace NP := Lib.hid (NP.out.below k14)
    clear k14 K13 rN i13
    go_wp2_with fail
    refine (eqEntryS_c _ _ zs w14 (RN.out.slE six_len HL.out) (RQ.out.slE six_len HL.out)).mono ?_
    rintro e w15 ⟨rfl, k15⟩
    have K15 := below_next K14 k15
    replace NP := Lib.hid (NP.out.below k15)
    clear k15 K14
    go_wp2_with fail
    refine (heldEntrys_r 1 w15 RP.out HL.out (fun g hg j hj => (NP.out g hg).2 j hj) (by omega) (by omega) (by omega)).mono ?_
    rintro e w16 ⟨rfl, rfl⟩
    go_wp2_with fail
    go_ret
    exact ⟨rfl, K15⟩
end Go.Proofs.YtbfnilfkhonpaaaDoor
