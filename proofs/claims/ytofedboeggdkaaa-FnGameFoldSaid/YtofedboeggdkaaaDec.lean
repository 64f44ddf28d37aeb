/- Contracts of l1Dec (decimals), l1Words, l1None, l1Put and the reference's ReqPut; condition: 64-bit numbers. -/
import Derived.Test.YtofedboeggdkaaaReq
import Derived.Test.YtofedboeggdkaaaEql
import Derived.Test.YtofedboeggdkaaaBlocks
import Derived.Lib.ItoaNum
import Derived.Lib.ItoaLen
import Derived.Laws.BytesArg
namespace Go.Proofs.Ytofedboeggdkaaa
open Go.RowKit Go.Joins

theorem str_append (l m : List UInt8) : (⟨l.toArray⟩ : ByteArray) ++ ⟨m.toArray⟩ = ⟨(l ++ m).toArray⟩ := by
  apply ByteArray.ext
  simp
theorem ret_str {a b : ByteArray} (h : a = b) : Ending.returned (.string a) = .returned (.string b) := by rw [h]
theorem dec_snoc (u : Nat) (h : 10 ≤ u) : (⟨(Lib.decDigits (u / 10)).toArray⟩ : ByteArray) ++ ⟨#[48 + UInt8.ofNat (u % 10)]⟩ = ⟨(Lib.decDigits u).toArray⟩ := by
  have h1 : Lib.decDigits u = Lib.decDigits (u / 10) ++ [UInt8.ofNat (48 + u % 10)] := by rw [Lib.decDigits, dif_neg (by omega)]
  rw [h1, ← str_append]
  congr 3
  simp

theorem conv1 (b : Nat) (x : Int) (W : World) (h : W.cell? ⟨b, 0, none⟩ = some (.int .u8 x)) : (convert 39 9 (.slice (some ⟨b, 0, none⟩) 1 1)).run Try.prog W = .ok (.string ⟨#[UInt8.ofNat x.toNat]⟩) W := by
  have hc : ∀ i, i < 1 → W.cell? ⟨b, 0 + i, none⟩ = some (.int .u8 (([x] : List Int).getD i 0)) := by
    intro i hi
    obtain rfl : i = 0 := by omega
    exact h
  exact run_convert_bytes_arg (P := Try.prog) W 39 5 Try.underlying39 Try.underlying5 b 0 1 1 [x] rfl hc 9 Try.underlying9

end Go.Proofs.Ytofedboeggdkaaa
