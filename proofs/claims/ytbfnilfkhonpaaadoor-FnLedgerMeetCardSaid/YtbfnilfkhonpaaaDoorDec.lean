/- Contracts of l1Dec (decimals), l1Words, l1None, l1Put and the reference's ReqPut; condition: 64-bit numbers. -/
import Derived.Test.YtbfnilfkhonpaaaDoorReq
import Derived.Test.YtbfnilfkhonpaaaDoorEql
import Derived.Test.YtbfnilfkhonpaaaDoorBlocks
import Derived.Lib.ItoaNum
import Derived.Lib.ItoaLen
import Derived.Laws.BytesArg
namespace Go.Proofs.YtbfnilfkhonpaaaDoor
open Go.RowKit Go.Joins

theorem str_append (l m : List UInt8) : (⟨l.toArray⟩ : ByteArray) ++ ⟨m.toArray⟩ = ⟨(l ++ m).toArray⟩ := by
  apply ByteArray.ext
  simp
theorem ret_str {a b : ByteArray} (h : a = b) : Ending.returned (.string a) = .returned (.string b) := by rw [h]
theorem dec_snoc (u : Nat) (h : 10 ≤ u) : (⟨(Lib.decDigits (u / 10)).toArray⟩ : ByteArray) ++ ⟨#[48 + UInt8.ofNat (u % 10)]⟩ = ⟨(Lib.decDigits u).toArray⟩ := by
  have h1 : Lib.decDigits u = Lib.decDigits (u / 10) ++ [UInt8.ofNat (48 + u % 10)] := by rw [Lib.decDigits, dif_neg (by omega)]
  rw [h1, ← str_append]
  congr 3
  simp

theorem conv1 (b : Nat) (x : Int) (W : World) (h : W.cell? ⟨b, 0, none⟩ = some (.int .u8 x)) : (convert 28 9 (.slice (some ⟨b, 0, none⟩) 1 1)).run Tryd.prog W = .ok (.string ⟨#[UInt8.ofNat x.toNat]⟩) W := by
  have hc : ∀ i, i < 1 → W.cell? ⟨b, 0 + i, none⟩ = some (.int .u8 (([x] : List Int).getD i 0)) := by
    intro i hi
    obtain rfl : i = 0 := by omega
    exact h
  exact run_convert_bytes_arg (P := Tryd.prog) W 28 5 Tryd.underlying28 Tryd.underlying5 b 0 1 1 [x] rfl hc 9 Tryd.underlying9

set_option maxRecDepth 100000 in
set_option maxHeartbeats 400000 in
theorem decDigit (u : Nat) (w : World) (h10 : u < 10) :
    Calls Tryd.prog 64 #[.int .i64 u] w fun e w' => e = .returned (.string ⟨(Lib.decDigits u).toArray⟩) ∧ Below w.heap.size w w' := by
  have hconv := conv1 w.heap.size (48 + u)
  go_enter Tryd.func64, Tryd.ntmps64
  go_wp2_with fail
  go_ret
  refine ⟨?_, (by repeat' (first | with_reducible exact Below.refl _ _ | with_reducible assumption | with_reducible refine Below.alloc ?_ ?_ _ | with_reducible refine Below.drew ?_ | with_reducible refine Below.setCell ?_ ?_ _ | omega | (simp; omega) | (simp; done)))⟩
  have h1 : Lib.decDigits u = [UInt8.ofNat (48 + u)] := by rw [Lib.decDigits, dif_pos h10]
  rw [h1]
  rfl

set_option maxRecDepth 100000 in
set_option maxHeartbeats 400000 in
theorem decStep (u : Nat) (w : World) (h10 : 10 ≤ u) (hb : u ≤ 9223372036854775807) (hd : ∀ W : World, Calls Tryd.prog 64 #[.int .i64 ((u : Int) / 10)] W fun e w' => e = .returned (.string ⟨(Lib.decDigits (u / 10)).toArray⟩) ∧ Below W.heap.size W w') :
    Calls Tryd.prog 64 #[.int .i64 u] w fun e w' => e = .returned (.string ⟨(Lib.decDigits u).toArray⟩) ∧ Below w.heap.size w w' := by
  have HD := Lib.hid hd
  have D1 : (u : Int).tdiv 10 = (u : Int) / 10 := Int.tdiv_eq_ediv_of_nonneg (by omega)
  have M1 : (u : Int).tmod 10 = (u : Int) % 10 := Int.tmod_eq_emod_of_nonneg (by omega)
  have W1 : IntKind.i64.wrap ((u : Int) / 10) = (u : Int) / 10 := IntWalk.i64_in _ ⟨by omega, by omega⟩
  have W2 : IntKind.i64.wrap (48 + (u : Int) % 10) = 48 + (u : Int) % 10 := IntWalk.i64_in _ ⟨by omega, by omega⟩
  have W3 : IntKind.u8.wrap (48 + (u : Int) % 10) = 48 + (u : Int) % 10 := IntWalk.u8_in _ ⟨by omega, by omega⟩
  have hconv := fun b W => conv1 b (48 + (u : Int) % 10) W
  have hlen : (Lib.decDigits (u / 10)).length ≤ 20 := by rw [Lib.decDigits_length]; exact Lib.nDigits_le20 _ (by omega)
  clear hd hb
  go_enter Tryd.func64, Tryd.ntmps64
  go_wp2_with fail
  go_region_with ((go_at_call 64; refine (HD.out _).mono ?_; rintro e w1 ⟨rfl, k1⟩; have q1 := bcell k1))
  all_goals
    go_wp2_with fail
    go_ret
    refine ⟨ret_str (dec_snoc u h10), ?_⟩
    have z1 : w.heap.size ≤ w1.heap.size := by have z := k1.size; simp at z; omega
  all_goals first
    | (with_reducible refine below_next ?_ k1; exact (by repeat' (first | with_reducible exact Below.refl _ _ | with_reducible assumption | with_reducible refine Below.alloc ?_ ?_ _ | with_reducible refine Below.drew ?_ | with_reducible refine Below.setCell ?_ ?_ _ | omega | (simp; omega) | (simp; done))))
    | (with_reducible refine Below.alloc (below_next ?_ k1) ?_ _ <;> exact (by repeat' (first | with_reducible exact Below.refl _ _ | with_reducible assumption | with_reducible refine Below.alloc ?_ ?_ _ | with_reducible refine Below.drew ?_ | with_reducible refine Below.setCell ?_ ?_ _ | omega | (simp; omega) | (simp; done))))

theorem decPos (k : Nat) : ∀ (u : Nat) (w : World), u ≤ k → u ≤ 9223372036854775807 →
    Calls Tryd.prog 64 #[.int .i64 u] w fun e w' => e = .returned (.string ⟨(Lib.decDigits u).toArray⟩) ∧ Below w.heap.size w w' := by
  induction k with
  | zero => exact fun u w hu _ => decDigit u w (by omega)
  | succ k ih =>
    intro u w hu hb
    by_cases h10 : u < 10
    · exact decDigit u w h10
    · exact decStep u w (by omega) hb fun W => ih (u / 10) W (by omega) (by omega)
end Go.Proofs.YtbfnilfkhonpaaaDoor
