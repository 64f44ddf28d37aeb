/- Contracts of Crc and of its reference: both give crcOf; condition: the text is shorter than 2^62 bytes. -/
import Derived.Test.YtbfnilfkhonpaaaDoorBase
import Derived.Test.YtbfnilfkhonpaaaDoorCrcLaw
import Derived.LoopTactic
namespace Go.Proofs.YtbfnilfkhonpaaaDoor
open Go.RowKit

theorem take_snoc (s : ByteArray) (k : Nat) (h : k < s.size) : s.data.toList.take (k + 1) = s.data.toList.take k ++ [s[k]] := by
  rw [List.take_succ_eq_append_getElem (by simpa using h)]; rfl

set_option maxHeartbeats 1000000 in
theorem l7Crc_c (s : ByteArray) (w : World) (hs : s.size ≤ 4611686018427387904) :
    Calls Tryd.prog 92 #[.string s] w fun e w' => e = .returned (.int .i64 (crcOf s.data.toList)) ∧ w = w' := by
  go_enter Tryd.func92, Tryd.ntmps92
  go_wp2
  go_loop [3, 4] (fun c i => ∃ k : Nat, k ≤ s.size ∧ i = .int .i64 k ∧ c = .int .i64 (crcFold (s.data.toList.take k) 4294967295)) (fun _ i => s.size - (intOf i).toNat)
  case atStart => exact ⟨0, Nat.zero_le _, rfl, rfl⟩
  case round =>
    obtain ⟨k, hk, rfl, rfl⟩ := hrel
    have hc := crcFold_lt (s.data.toList.take k) (c := 4294967295) (by decide)
    by_cases hlt : k < s.size
    · have hts := take_snoc s k hlt
      have hsn := crcFold_snoc (s.data.toList.take k) s[k] 4294967295
      rw [← hts] at hsn
      have hb := s[k].toNat_lt
      have HX := i64_xor_nat (crcFold (s.data.toList.take k) 4294967295) s[k].toNat (by omega) (by omega)
      have hd := byte_lt s[k] hc
      generalize crcFold (s.data.toList.take k) 4294967295 ^^^ s[k].toNat = d at *
      have HS := Lib.hid hsn
      clear hsn hts
      go_wp2
      go_loop [3, 5] (fun c j => ∃ m : Nat, m ≤ 8 ∧ j = .int .i64 m ∧ c = .int .i64 (crcRun m d)) (fun _ j => 8 - (intOf j).toNat)
      case atStart => exact ⟨0, Nat.zero_le _, rfl, rfl⟩
      case round =>
        obtain ⟨m, hm, rfl, rfl⟩ := hrel
        by_cases hlm : m < 8
        · have hsucc := crcStep_two (crcRun m d)
          have hm32 := crcRun_lt (n := m) hd
          have hnext : crcRun (m + 1) d = crcStep (crcRun m d) := rfl
          rcases hsucc with ⟨hodd, hv⟩ | ⟨hodd, hv⟩
          all_goals
            rw [hv] at hnext
            have HN := Lib.hid hnext
            clear hnext hv
            generalize crcRun m d = c at *
          · have hp : ((c : Int) % 2 == 1) = true := by simp; omega
            have HY : bits .xor .i64 ((c : Int) / 2) 3988292384 = ((c / 2 ^^^ 3988292384 : Nat) : Int) := i64_xor_nat (c / 2) 3988292384 (by omega) (by omega)
            go_wp2
            go_round
            case rel => exact ⟨m + 1, by omega, by go_num, by rw [HN.out]⟩
            case measure => simp [intOf]; omega
          · have hp : ((c : Int) % 2 == 1) = false := by simp; omega
            go_wp2
            go_round
            case rel => exact ⟨m + 1, by omega, by go_num, by rw [HN.out]; go_num⟩
            case measure => simp [intOf]; omega
        · obtain rfl : m = 8 := by omega
          go_wp2
          go_round
          case rel => exact ⟨k + 1, by omega, by go_num, by rw [HS.out]⟩
          case measure => simp [intOf]; omega
    · obtain rfl : k = s.size := by omega
      have hts : s.data.toList.take s.size = s.data.toList := List.take_of_length_le (by simp)
      rw [hts] at hc ⊢
      have HX : bits .xor .i64 (crcFold s.data.toList 4294967295 : Int) 4294967295 = ((crcFold s.data.toList 4294967295 ^^^ 4294967295 : Nat) : Int) := i64_xor_nat (crcFold s.data.toList 4294967295) 4294967295 (by omega) (by omega)
      have HC : Hid (crcOf s.data.toList = crcFold s.data.toList 4294967295 ^^^ 4294967295) := rfl
      go_wp2
      go_ret
      exact ⟨ret_int (by rw [HC.out]), rfl⟩
set_option maxHeartbeats 1000000 in
theorem Crc_c (s : ByteArray) (w : World) (hs : s.size ≤ 4611686018427387904) :
    Calls Tryd.prog 88 #[.string s] w fun e w' => e = .returned (.int .i64 (crcOf s.data.toList)) ∧ w = w' := by
  go_enter Tryd.func88, Tryd.ntmps88
  go_wp2
  go_loop [3, 4] (fun c i => ∃ k : Nat, k ≤ s.size ∧ i = .int .i64 k ∧ c = .int .u32 (crcFold (s.data.toList.take k) 4294967295)) (fun _ i => s.size - (intOf i).toNat)
  case atStart => exact ⟨0, Nat.zero_le _, rfl, rfl⟩
  case round =>
    obtain ⟨k, hk, rfl, rfl⟩ := hrel
    have hc := crcFold_lt (s.data.toList.take k) (c := 4294967295) (by decide)
    by_cases hlt : k < s.size
    · have hts := take_snoc s k hlt
      have hsn := crcFold_snoc (s.data.toList.take k) s[k] 4294967295
      rw [← hts] at hsn
      have hb := s[k].toNat_lt
      have HX := u32_xor_nat (crcFold (s.data.toList.take k) 4294967295) s[k].toNat (by omega) (by omega)
      have hd := byte_lt s[k] hc
      generalize crcFold (s.data.toList.take k) 4294967295 ^^^ s[k].toNat = d at *
      have HS := Lib.hid hsn
      clear hsn hts
      go_wp2
      go_loop [3, 18] (fun c j => ∃ m : Nat, m ≤ 8 ∧ j = .int .i64 m ∧ c = .int .u32 (crcRun m d)) (fun _ j => 8 - (intOf j).toNat)
      case atStart => exact ⟨0, Nat.zero_le _, rfl, rfl⟩
      case round =>
        obtain ⟨m, hm, rfl, rfl⟩ := hrel
        by_cases hlm : m < 8
        · have hsucc := crcStep_two (crcRun m d)
          have hm32 := crcRun_lt (n := m) hd
          have hnext : crcRun (m + 1) d = crcStep (crcRun m d) := rfl
          rcases hsucc with ⟨hodd, hv⟩ | ⟨hodd, hv⟩
          all_goals
            rw [hv] at hnext
            have HN := Lib.hid hnext
            clear hnext hv
            generalize crcRun m d = c at *
          · have HA : bits .and .u32 (c : Int) 1 = 1 := by
              have := u32_and_nat c 1 (by omega) (by omega)
              rw [nat_mask1, hodd] at this
              exact this
            have HY : bits .xor .u32 ((c : Int) / 2) 3988292384 = ((c / 2 ^^^ 3988292384 : Nat) : Int) := u32_xor_nat (c / 2) 3988292384 (by omega) (by omega)
            go_wp2
            go_round
            case rel => exact ⟨m + 1, by omega, by go_num, by rw [HN.out]⟩
            case measure => simp [intOf]; omega
          · have HA : bits .and .u32 (c : Int) 1 = 0 := by
              have := u32_and_nat c 1 (by omega) (by omega)
              rw [nat_mask1, hodd] at this
              exact this
            go_wp2
            go_round
            case rel => exact ⟨m + 1, by omega, by go_num, by rw [HN.out]; go_num⟩
            case measure => simp [intOf]; omega
        · obtain rfl : m = 8 := by omega
          go_wp2
          go_round
          case rel => exact ⟨k + 1, by omega, by go_num, by rw [HS.out]⟩
          case measure => simp [intOf]; omega
    · obtain rfl : k = s.size := by omega
      have hts : s.data.toList.take s.size = s.data.toList := List.take_of_length_le (by simp)
      rw [hts] at hc ⊢
      have HX : bits .xor .u32 IntKind.u32.max (crcFold s.data.toList 4294967295 : Int) = ((4294967295 ^^^ crcFold s.data.toList 4294967295 : Nat) : Int) := by
        rw [show IntKind.u32.max = 4294967295 from by decide]
        exact u32_xor_nat 4294967295 (crcFold s.data.toList 4294967295) (by omega) (by omega)
      have HC : Hid (crcOf s.data.toList = 4294967295 ^^^ crcFold s.data.toList 4294967295) := Nat.xor_comm _ _
      have hlast : crcOf s.data.toList < 4294967296 := crcOf_lt s.data.toList
      rw [← HC.out] at HX
      go_wp2
      go_ret
      exact ⟨ret_int (IntWalk.wrap64_in _ ⟨by omega, by omega⟩), rfl⟩

end Go.Proofs.YtbfnilfkhonpaaaDoor
