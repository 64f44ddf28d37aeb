/- Contract of DrawCrc; the walk of FnCrc; no condition. -/
import Derived.Test.YtoiacbdnbbnebaaOfStr
import Derived.Test.YtoiacbdnbbnebaaPutReq
import Derived.Test.YtoiacbdnbbnebaaCrc
namespace Go.Proofs.Ytoiacbdnbbnebaa
open Go.RowKit Go.Joins

theorem words_len (k : Nat) : (words.getD k []).length ≤ 4 := by
  rcases k with _ | _ | _ | _ | _ | _ | k
  all_goals simp [words]
theorem reqPutL_len (r : Rq) : (reqPutL r).length ≤ 100 := by
  unfold reqPutL
  split
  · decide
  · split
    · rename_i h
      have h' := okB_op h
      have l1 := itoa_len r.c (by omega) (by omega)
      have l2 := itoa_len r.n (by omega) (by omega)
      have l3 := itoa_len r.x (by omega) (by omega)
      have l4 := itoa_len r.y (by omega) (by omega)
      have l5 := words_len r.o.toNat
      simp only [putL, List.length_append, List.length_cons, List.length_nil]
      omega
    · decide

/-- Some text of at most a hundred bytes. -/
def ADraw (w : World) (e : Ending) (w' : World) : Prop :=
  ∃ s : ByteArray, s.size ≤ 100 ∧ e = .returned (.string s) ∧ Below w.heap.size w w'

set_option maxHeartbeats 1000000 in
theorem DrawCrc_c (v : Value) (z : Bts) (w : World) (hz : IsBytes w v z) :
    Calls Try.prog 26 #[v] w (ADraw w) := by
  have HZ := Lib.hid hz
  clear hz
  go_enter Try.func26, Try.ntmps26
  go_wp2_with fail
  refine (l20Open_c v z _ HZ.out).mono ?_
  rintro e w1 ⟨g, rfl, hg, r1, k1⟩
  have hl1 := r1.lt
  go_wp2_with fail
  refine (l20Req_c _ g 0 r1 (by omega)).mono ?_
  rintro e w2 ⟨r, rfl, -, -, r2, k2⟩
  have K2 : Below w.heap.size w w2 := bel_grown k1 k2 hg
  clear k2 r1
  go_wp2_with fail
  refine (sReqPut_c r.c r.n r.o r.x r.y _).mono ?_
  rintro e w3 ⟨rfl, k3⟩
  have hl2 := r2.lt
  have hl3 : g < w3.heap.size := Nat.lt_of_lt_of_le hl2 k3.size
  have K3 := below_next K2 k3
  have hlen : (reqPutL ⟨r.c, r.n, r.o, r.x, r.y⟩).length ≤ 100 := reqPutL_len _
  generalize reqPutL ⟨r.c, r.n, r.o, r.x, r.y⟩ = sr at *
  have r3 := r2.below (k3.mono hl2)
  clear k3 r2
  go_wp2_with fail
  refine (of_c _ g (0 + 5) w3.heap.size 4 _ [⟨#[]⟩, ⟨#[49, 50, 51, 52, 53, 54, 55, 56, 57]⟩, ⟨#[97]⟩, ⟨sr.toArray⟩] _ (r3.below (by repeat' (first | with_reducible exact Below.refl _ _ | with_reducible assumption | with_reducible refine Below.alloc ?_ ?_ _ | with_reducible refine Below.drew ?_ | with_reducible refine Below.setCell ?_ ?_ _ | omega | (simp; omega) | (simp; done)))) (by omega) (by omega) (heap_alloc_new w3 _) rfl rfl (by decide) (by decide)).mono ?_
  rintro e w4 ⟨s, hs, rfl, r4, k4⟩
  have K4 : Below w.heap.size w w4 := bel_grown (Below.alloc K3 (Nat.le_trans hg (Nat.le_of_lt hl3)) _) k4 hg
  have HS := Lib.hid hs
  clear hs k4 r4
  go_wp2_with fail
  go_ret
  refine ⟨s, ?_, rfl, K4⟩
  have h := HS.out
  simp only [List.mem_cons, List.not_mem_nil, or_false] at h
  rcases h with rfl | rfl | rfl | rfl
  · decide
  · decide
  · decide
  · show sr.toArray.size ≤ 100
    simpa using hlen

theorem bytes_block {W : World} {B : Nat} {s : ByteArray} {cap : Nat} {e : TypeId} (hB : W.heap[B]? = some (.cells (bytesRow s cap) e ((bytesRow s cap).size, (bytesRow s cap).size + 1))) :
    (∀ j (hj : j < s.size), W.cell? ⟨B, j, none⟩ = some (.int .u8 (s.data[j].toNat : Int))) ∧ ∀ j, j < s.size → W.frozen? ⟨B, j, none⟩ = false := by
  refine ⟨fun j hj => ?_, fun j hj => ?_⟩
  · rw [cell_of_block hB]
    exact bytesRow_at s cap j hj
  · have h : s.size ≤ (bytesRow s cap).size := by unfold bytesRow; simp
    simp [World.frozen?, hB]
    omega

theorem crcOf_set (l : List UInt8) (k : Nat) (h : k < l.length) (b' : UInt8) (hne : l[k] ≠ b') : crcOf (l.set k b') ≠ crcOf l := by
  have e1 : l = l.take k ++ l[k] :: l.drop (k + 1) := by
    rw [← List.drop_eq_getElem_cons h, List.take_append_drop]
  have e2 : l.set k b' = l.take k ++ b' :: l.drop (k + 1) := List.set_eq_take_append_cons_drop.trans (if_pos h)
  intro hh
  rw [e2] at hh
  have e3 := congrArg crcOf e1
  exact crcOf_flip _ _ hne (e3.symm.trans hh.symm)

/-- A byte with one bit turned is another byte. -/
theorem flipB (b : UInt8) (m : Nat) (hm : m < 8) : ∃ b' : UInt8, bits .xor .u8 (b.toNat : Int) (IntKind.u8.wrap (2 ^ m)) = (b'.toNat : Int) ∧ b ≠ b' := by
  have h2 : (2 : Nat) ^ m < 256 := Nat.lt_of_le_of_lt (Nat.pow_le_pow_right (by decide) (show m ≤ 7 by omega)) (by decide)
  have h0 : 0 < (2 : Nat) ^ m := Nat.pow_pos (by decide)
  have hb := b.toNat_lt
  have e : IntKind.u8.wrap ((2 : Int) ^ m) = ((2 ^ m : Nat) : Int) := by
    have c : ((2 : Int) ^ m) = ((2 ^ m : Nat) : Int) := by simp
    rw [c]
    generalize (2 : Nat) ^ m = p at *
    exact IntWalk.u8_in _ ⟨by omega, by omega⟩
  have hx : b.toNat ^^^ 2 ^ m < 2 ^ 8 := Nat.xor_lt_two_pow (by omega) (by omega)
  have hy : (UInt8.ofNat (b.toNat ^^^ 2 ^ m)).toNat = b.toNat ^^^ 2 ^ m := by rw [UInt8.toNat_ofNat']; exact Nat.mod_eq_of_lt hx
  refine ⟨UInt8.ofNat (b.toNat ^^^ 2 ^ m), ?_, fun h => ?_⟩
  · rw [e, u8_xor_nat _ _ (by omega) h2, hy]
  · have h' := congrArg UInt8.toNat h
    rw [hy] at h'
    have z : b.toNat ^^^ 0 = b.toNat ^^^ 2 ^ m := by rw [Nat.xor_zero]; exact h'
    have := xor_cancel_left z
    omega

theorem crc_check : crcOf (⟨#[49, 50, 51, 52, 53, 54, 55, 56, 57]⟩ : ByteArray).data.toList = 3421780262 := by decide +kernel
theorem crc_empty : crcOf (⟨#[]⟩ : ByteArray).data.toList = 0 := by decide +kernel

set_option maxHeartbeats 1000000 in
set_option maxRecDepth 100000 in
theorem fnCrc.walk (v0 : Value) (z0 : Bts) (v1 : Value) (z1 : Bts) (w : World) (h0 : IsBytes w v0 z0) (h1 : IsBytes w v1 z1) :
    Calls Try.prog 10 #[v0, v1] w fun e w' => e = .returned (.bool true) ∧ Below w.heap.size w w' := by
  obtain ⟨a0, l0, c0⟩ := z0
  obtain ⟨rfl, hlc0, hm0, _⟩ := id h0
  obtain ⟨a1, l1, c1⟩ := z1
  obtain ⟨rfl, hlc1, hm1, _⟩ := id h1
  simp only at hlc0 hm0 hlc1 hm1
  unfold maxLen at hm0 hm1
  have H0 := Lib.hid h0
  clear h0 h1
  by_cases hl0 : l0 ≤ 1048576
  · by_cases hl1 : l1 ≤ 1048576
    · go_enter Try.func10, Try.ntmps10
      go_wp2_with fail
      refine (DrawCrc_c _ _ _ H0.out).mono ?_
      rintro e w1 ⟨s, hs, rfl, k1⟩
      go_wp2_with fail
      refine (Crc_c s _ (by omega)).mono ?_
      rintro e w' ⟨rfl, rfl⟩
      go_wp2_with fail
      refine (sCrc_c s _ (by omega)).mono ?_
      rintro e w' ⟨rfl, rfl⟩
      go_wp2_with fail
      refine (Crc_c _ _ (by decide)).mono ?_
      rintro e w' ⟨rfl, rfl⟩
      rw [crc_check]
      by_cases hz : s.size = 0
      · obtain rfl : s = ⟨#[]⟩ := by apply ByteArray.ext; apply Array.eq_empty_of_size_eq_zero; exact hz
        go_wp2_with fail
        refine (sCrc_c _ _ (by decide)).mono ?_
        rintro e w' ⟨rfl, rfl⟩
        go_wp2_with fail
        refine (Crc_c _ _ (by decide)).mono ?_
        rintro e w' ⟨rfl, rfl⟩
        rw [crc_check, crc_empty]
        go_wp2_with fail
        go_ret
        exact ⟨rfl, k1⟩
      · have hm8 : l1 % 8 < 8 := by omega
        have hk : l1 % s.size < s.size := Nat.mod_lt _ (by omega)
        have T1 : (l1 : Int).tmod (s.size : Int) = ((l1 % s.size : Nat) : Int) := by rw [Int.tmod_eq_emod_of_nonneg (by omega)]; try rfl
        have T2 : (l1 : Int).tmod 8 = ((l1 % 8 : Nat) : Int) := by rw [Int.tmod_eq_emod_of_nonneg (by omega)]; try rfl
        generalize l1 % s.size = k at *
        generalize l1 % 8 = m at *
        go_wp2_with fail
        rw [run_bytes_of_string w1 _ _ 5 s Try.underlying9 Try.underlying27 Try.underlying5]
        generalize grownCap w1 s.size 0 5 = cap
        obtain ⟨W, hW, sW, aW, kW⟩ := blocks1 w1.drew (.cells (bytesRow s cap) 5 ((bytesRow s cap).size, (bytesRow s cap).size + 1))
        rw [← hW]
        clear hW
        obtain ⟨hcell, hfro⟩ := bytes_block (show W.heap[w1.heap.size]? = _ from aW)
        replace kW : Below w1.heap.size w1 W := ⟨kW.os, kW.tape, kW.output, kW.size, kW.block⟩
        have K := below_next k1 kW
        clear aW kW
        have hck := hcell k hk
        have hfk := hfro k hk
        have hk0 : (0 : Int) ≤ (k : Int) := by omega
        have hk1 : (k : Int) < (s.size : Int) := by omega
        have hx := s.data[k].toNat_lt
        have HC := Lib.hid hcell
        clear hcell hfro
        generalize hxe : s.data[k].toNat = x at *
        go_wp2_with fail
        go_region_with fail
        obtain ⟨b', hb', hne⟩ := flipB s.data[k] m hm8
        rw [hxe] at hb'
        rw [hb']
        have HN := Lib.hid hne
        clear hne hb' hck hfk hxe
        obtain ⟨W2, hW2⟩ : ∃ W2, W2 = (W.setCell ⟨w1.heap.size, k, none⟩ (Value.int IntKind.u8 (b'.toNat : Int))).drew := ⟨_, rfl⟩
        rw [← hW2]
        have hsz : w.heap.size ≤ w1.heap.size := k1.size
        have K2 : Below w.heap.size w W2 := by rw [hW2]; exact Below.drew (Below.setCell K hsz _)
        have hconv := run_convert_bytes_back (P := Try.prog) W2 27 9 5 ⟨w1.heap.size, 0, none⟩ cap (s.data.toList.set k b') Try.underlying27 Try.underlying5 Try.underlying9 (fun j hj => by
          rw [List.length_set] at hj
          have hj' : j < s.size := by simpa using hj
          have h := HC.out j hj'
          have hadd : (⟨w1.heap.size, 0, none⟩ : Addr).add j = ⟨w1.heap.size, j, none⟩ := by unfold Addr.add; split <;> simp_all
          rw [hadd, hW2]
          show (W.setCell _ _).cell? _ = _
          by_cases hjk : k = j
          · subst hjk
            rw [World.cell?_setCell_same' _ _ _ (by rw [h]; rfl)]
            simp
          · rw [World.cell?_setCell_other (h := by simp), h]
            simp [hjk])
        have hll : (s.data.toList.set k b').length = s.size := by simp
        rw [hll] at hconv
        clear hW2 HC
        go_wp2_with fail
        refine (Crc_c _ _ (by show (s.data.toList.set k b').toArray.size ≤ _; simp; omega)).mono ?_
        rintro e w' ⟨rfl, rfl⟩
        go_wp2_with fail
        go_ret
        refine ⟨ret_bool ?_, K2⟩
        have hd := crcOf_set s.data.toList k (by simp; exact hk) b' (by simpa using HN.out)
        rw [bne_iff_ne]
        intro hh
        exact hd (by exact_mod_cast hh)
    · go_enter Try.func10, Try.ntmps10
      go_wp2_with fail
      go_ret
      exact ⟨rfl, Below.refl _ _⟩
  · go_enter Try.func10, Try.ntmps10
    go_wp2_with fail
    go_ret
    exact ⟨rfl, Below.refl _ _⟩
end Go.Proofs.Ytoiacbdnbbnebaa
