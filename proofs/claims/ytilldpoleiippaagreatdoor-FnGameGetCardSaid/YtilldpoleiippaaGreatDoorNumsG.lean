/- Numbers between commas, read the reference's way (l2Nums) and the program's (numbersOf); condition: small texts, the package variables as listed. -/
import Derived.Test.YtilldpoleiippaaGreatDoorMA
import Derived.Test.YtilldpoleiippaaGreatDoorMD
set_option linter.unusedSimpArgs false
set_option linter.unusedVariables false
namespace Go.Proofs.YtilldpoleiippaaGreatDoor
open Go.RowKit Go.Joins

/-- Numbers in a list of their own. -/
def IntsOwn (zs : List Int) (w : World) (e : Ending) (w' : World) : Prop :=
  ∃ (a : Option Addr) (cap : Nat), e = .returned (.slice a zs.length cap) ∧ Row w' w.heap.size 3 a cap 1 intR zs ∧ Below w.heap.size w w'
theorem cutGo_leG (b : UInt8) : ∀ (s cur : List UInt8) (m : Nat), ∀ p ∈ cutGo b s cur m, p.length ≤ cur.length + s.length
  | [], cur, m, p, hp => by
    simp only [cutGo, List.mem_singleton] at hp
    subst hp
    simp
  | x :: rest, cur, 0, p, hp => by
    rw [cutGo_zero, List.mem_singleton] at hp
    subst hp
    simp
  | x :: rest, cur, m + 1, p, hp => by
    rw [cutGo] at hp
    split at hp
    · rcases List.mem_cons.1 hp with rfl | h
      · omega
      · have := cutGo_leG b rest [] m p h
        simp only [List.length_nil, List.length_cons] at this ⊢
        omega
    · have := cutGo_leG b rest (cur ++ [x]) (m + 1) p hp
      simp only [List.length_append, List.length_cons, List.length_nil] at this ⊢
      omega
theorem cutL_leG {b : UInt8} {m : Nat} {s p : List UInt8} (h : p ∈ cutL b m s) : p.length ≤ s.length := by
  have := cutGo_leG b s [] m p h
  simpa using this
theorem cutGo_len (b : UInt8) : ∀ (s cur : List UInt8) (m : Nat), (cutGo b s cur m).length ≤ m + 1
  | [], cur, m => by simp [cutGo]
  | x :: rest, cur, 0 => by rw [cutGo_zero]; simp
  | x :: rest, cur, m + 1 => by
    rw [cutGo]
    split
    · have := cutGo_len b rest [] m
      simp only [List.length_cons]
      omega
    · exact cutGo_len b rest (cur ++ [x]) (m + 1)
theorem cutGo_pos (b : UInt8) : ∀ (s cur : List UInt8) (m : Nat), 0 < (cutGo b s cur m).length
  | [], cur, m => by simp [cutGo]
  | x :: rest, cur, 0 => by rw [cutGo_zero]; simp
  | x :: rest, cur, m + 1 => by
    rw [cutGo]
    split
    · simp
    · exact cutGo_pos b rest (cur ++ [x]) (m + 1)
theorem splitK_leG (b : UInt8) : ∀ (k : Nat) (s p : List UInt8), p ∈ Lib.splitK [b] 0 k s → p.length ≤ s.length
  | 0, s, p, h => by
    rw [Lib.splitK, List.mem_singleton] at h
    subst h
    exact Nat.le_refl _
  | k + 1, s, p, h => by
    rw [Lib.splitK] at h
    split at h
    · rw [List.mem_singleton] at h
      subst h
      exact Nat.le_refl _
    · rcases List.mem_cons.1 h with rfl | h
      · rw [List.length_take]; exact Nat.min_le_right _ _
      · have := splitK_leG b k _ p h
        rw [List.length_drop] at this
        omega
theorem splitK_len (sep : List UInt8) (v : Nat) : ∀ (k : Nat) (s : List UInt8), (Lib.splitK sep v k s).length ≤ k + 1
  | 0, _ => by simp [Lib.splitK]
  | k + 1, s => by
    rw [Lib.splitK]
    split
    · simp
    · have := splitK_len sep v k (s.drop ((Lib.index s sep).toNat + sep.length))
      simp only [List.length_cons]
      omega
theorem splitL_len (b : UInt8) (s : List UInt8) : (splitL b s).length ≤ s.length + 1 := by
  have h := splitK_len [b] 0 (Lib.count s [b]) s
  have h2 : Lib.count s [b] ≤ s.length := by rw [Lib.count_one]; exact List.count_le_length
  unfold splitL
  omega
theorem trim_len (s : List UInt8) : (Lib.trimSuffix s [44]).length ≤ s.length := by
  unfold Lib.trimSuffix
  split
  · rw [List.length_take]; exact Nat.min_le_right _ _
  · exact Nat.le_refl _
theorem str_atG {w : World} {a : Option Addr} {zs : List (List UInt8)} (h : RowsAt w a 1 strR zs) (k : Nat) (hk : k < zs.length) :
    ∃ b off, a = some ⟨b, off, none⟩ ∧ b < w.heap.size ∧ ∀ wr, Below w.heap.size w wr → wr.cell? ⟨b, off + k, none⟩ = some (.string ⟨zs[k].toArray⟩) := by
  obtain ⟨b, off, rfl, hb, hc⟩ := h k hk
  refine ⟨b, off, rfl, hb, fun wr hbel => ?_⟩
  have h := (hbel.cell (p := ⟨b, _, none⟩) hb).trans (hc 0 (by decide))
  rwa [Nat.mul_one, Nat.add_zero] at h
theorem l1Num_q (p : List UInt8) (w : World) (hs : p.length ≤ 1099511627776) :
    Calls Tryz.prog 41 #[.string ⟨p.toArray⟩] w fun e w' => e = .returned (.int .i64 (numL p)) ∧ w = w' := by
  have := l1Num_c ⟨p.toArray⟩ w (by simpa [ByteArray.size] using hs)
  simpa using this
theorem l1Cut_c20 (p : List UInt8) (w : World) (hs : p.length ≤ 1099511627776) :
    Calls Tryz.prog 19 #[.string ⟨p.toArray⟩, .int .u8 44, .int .i64 20] w (StrsOwn (cutL 44 20 p) w) := by
  have := l1Cut_c ⟨p.toArray⟩ 44 20 w (by rw [bytes_len]; exact hs) (by decide)
  simpa using this
theorem rowsAt_int (w : World) (v : Int) (t : TypeId) : RowsAt (w.alloc (.cells #[.int .i64 v] t)) (some ⟨w.heap.size, 0, none⟩) 1 intR [v] :=
  rows_of_block (R := intR) (zs := [v]) (t := t) (fr := (0, 0)) (fun _ => rfl) (heap_alloc_new w (.cells #[.int .i64 v] t))
theorem map_take_snoc {α β : Type} (f : α → β) {l : List α} {k : Nat} (h : k < l.length) : (l.map f).take (k + 1) = (l.map f).take k ++ [f l[k]] := by
  rw [List.take_succ_eq_append_getElem (by rw [List.length_map]; exact h), List.getElem_map]

set_option maxRecDepth 100000 in
set_option maxHeartbeats 4000000 in
theorem l2Nums_c (p : List UInt8) (w : World) (hs : p.length ≤ 4000000000) :
    Calls Tryz.prog 20 #[.string ⟨p.toArray⟩] w (IntsOwn (numsL p) w) := by
  go_enter Tryz.func20, Tryz.ntmps20
  go_wp2_with fail
  refine (l1Cut_c20 p w (by omega)).mono ?_
  rintro e w1 ⟨a, cap, rfl, hR, k1⟩
  have HN : Hid (numsL p = (cutL 44 20 p).map numL) := rfl
  have hle := cutGo_len 44 p [] 20
  have HLE := Lib.hid (fun q (h : q ∈ cutL 44 20 p) => cutL_leG h)
  replace hle : (cutL 44 20 p).length ≤ 21 := hle
  generalize cutL 44 20 p = ps at *
  have HR := Lib.hid (hR.rows str_len)
  have K1 := Lib.hid k1
  have hs1 := k1.size
  have hcp := hR.len
  have hcm := hR.max
  unfold maxLen at hcm
  obtain ⟨n, hn⟩ : ∃ n, n = ps.length := ⟨_, rfl⟩
  rw [← hn] at hle hcp ⊢
  have HNN := Lib.hid hn
  clear hR k1 hn
  go_wp2_with fail
  obtain ⟨W, hW, sW, -, kW⟩ := blocks1 w1 (.cells #[] 3)
  rw [← hW]
  clear hW
  have SW := Lib.hid sW
  have KW := Lib.hid kW
  clear sW kW
  go_loopw [4, 5] (fun out i wr => ∃ (k : Nat) (ao : Option Addr) (co : Nat), k ≤ n ∧ i = .int .i64 k ∧ out = .slice ao k co ∧ Row wr W.heap.size 3 ao co 1 intR ((ps.map numL).take k) ∧ Below W.heap.size W wr) (fun _ i _ => n - (intOf i).toNat)
  case atStart => exact ⟨0, some ⟨w1.heap.size, 0, none⟩, 0, Nat.zero_le _, rfl, rfl, Row.nil _ _ _ _ _ _, Below.refl _ _⟩
  case round =>
    obtain ⟨k, ao, co, hk, rfl, rfl, hR, hbel⟩ := hrel
    have RR := Lib.hid hR
    have KR := Lib.hid hbel
    have hlen := RR.out.len
    have hcm2 := RR.out.max
    unfold maxLen at hcm2
    have htk : ((ps.map numL).take k).length = k := by rw [List.length_take, List.length_map, ← HNN.out]; omega
    rw [htk] at hlen
    have HTK := Lib.hid htk
    clear hR hbel htk
    by_cases hlt : k < n
    · have hkz : k < ps.length := by rw [← HNN.out]; exact hlt
      have hk1 : (k : Int) < (n : Int) := by omega
      have hk0 : (0 : Int) ≤ (k : Int) := by omega
      have hwk : IntKind.i64.wrap ((k : Int) + 1) = (k : Int) + 1 := IntWalk.i64_in _ ⟨by omega, by omega⟩
      obtain ⟨b0, o0, rfl, hl0, hc0⟩ := str_atG HR.out k hkz
      have d0 := hc0 wr (KW.out.trans (KR.out.mono KW.out.size))
      have HS := Lib.hid (map_take_snoc numL hkz)
      have hq := HLE.out ps[k] (List.getElem_mem _)
      clear hc0
      generalize ps[k] = q at *
      have CN := Lib.hid (fun V => l1Num_q q V (by omega))
      generalize numL q = v at *
      clear hq
      go_wp2_with fail
      refine (CN.out wr).mono ?_
      rintro e _ ⟨rfl, rfl⟩
      have P11 := Lib.hid (RR.out.alloc (.cells #[.int .i64 v] 3))
      have RA := Lib.hid (rowsAt_int wr v 3)
      clear d0
      go_wp2_with (at_builtin; refine wpList_append_row rfl _ _ rfl (k + 1) eltInt rfl rfl P11.out RA.out HTK.out rfl rfl (by simp only [maxLen]; omega) (by omega) (by have := KR.out.size; simp <;> omega) ?_)
      intro a5 c5 w5 q5
      have R5 := Lib.hid q5.row
      have K5 := Lib.hid ((KR.out.alloc KR.out.size (.cells #[.int .i64 v] 3)).grown q5.grown (by have := KR.out.size; simp <;> omega) (fun g hg => (RR.out.blk hg).1))
      clear q5 RA P11
      go_wp2_with fail
      go_roundw
      case rel => exact ⟨k + 1, a5, c5, by omega, by go_num, rfl, by rw [HS.out]; exact R5.out, K5.out⟩
      case measure => simp [intOf]; omega
    · have hk1 : ¬ (k : Int) < (n : Int) := by omega
      have e : (ps.map numL).take k = ps.map numL := List.take_of_length_le (by rw [List.length_map, ← HNN.out]; omega)
      have hkn : k = (ps.map numL).length := by rw [List.length_map, ← HNN.out]; omega
      have R9 := Lib.hid (show Row wr W.heap.size 3 ao co 1 intR (ps.map numL) by have := RR.out; rwa [e] at this)
      have HK := Lib.hid hkn
      clear e hkn RR HTK
      go_wp2_with fail
      go_ret
      rw [HN.out]
      exact ⟨ao, co, by rw [HK.out]; rfl, R9.out.low (by have := SW.out; omega), K1.out.trans ((below_next KW.out KR.out).mono hs1)⟩

theorem trim_p (p : List UInt8) (w : World) (hs : p.length ≤ 4000000000) :
    Calls Tryz.prog 25 #[.string ⟨p.toArray⟩, .string ⟨#[44]⟩] w fun x w' => x = .returned (.string ⟨(Lib.trimSuffix p [44]).toArray⟩) ∧ w = w' := by
  refine (Tryz.strings_TrimSuffix ⟨p.toArray⟩ ⟨#[44]⟩ w (by rw [bytes_len]; omega)).mono ?_
  rintro x w' ⟨rfl, rfl⟩
  exact ⟨rfl, rfl⟩
theorem split_p (b : UInt8) (p : List UInt8) (w : World) (hs : p.length ≤ 4000000000) (E : EnvA w) :
    Calls Tryz.prog 15 #[.string ⟨p.toArray⟩, .string ⟨#[b]⟩] w (StrsOwn (splitL b p) w) := split_c b ⟨p.toArray⟩ w (by rw [bytes_len]; exact hs) E

set_option maxRecDepth 100000 in
set_option maxHeartbeats 4000000 in
theorem numbersOf_c (p : List UInt8) (w : World) (hs : p.length ≤ 4000000000) (E : EnvA w) :
    Calls Tryz.prog 17 #[.string ⟨p.toArray⟩] w (IntsOwn (numsI p) w) := by
  have EE := Lib.hid E
  have htl := trim_len p
  have HT := Lib.hid (fun V => trim_p p V hs)
  have HS := Lib.hid (fun V E => split_p 44 (Lib.trimSuffix p [44]) V (by omega) E)
  have HN : Hid (numsI p = (splitL 44 (Lib.trimSuffix p [44])).map (fun q => Lib.atoiOr q (-1099511627776))) := rfl
  have hle := splitL_len 44 (Lib.trimSuffix p [44])
  have HLE := Lib.hid (fun q (h : q ∈ splitL 44 (Lib.trimSuffix p [44])) => splitK_leG 44 _ _ q h)
  clear E
  generalize hpt : Lib.trimSuffix p [44] = pt at *
  clear hpt
  generalize splitL 44 pt = ps at *
  go_enter Tryz.func17, Tryz.ntmps17
  go_wp2_with fail
  refine (HT.out w).mono ?_
  rintro e _ ⟨rfl, rfl⟩
  go_wp2_with fail
  refine (HS.out w EE.out).mono ?_
  rintro e w1 ⟨a, cap, rfl, hR, k1⟩
  have HR := Lib.hid (hR.rows str_len)
  have K1 := Lib.hid k1
  have hs1 := k1.size
  have hcp := hR.len
  have hcm := hR.max
  unfold maxLen at hcm
  obtain ⟨n, hn⟩ : ∃ n, n = ps.length := ⟨_, rfl⟩
  rw [← hn] at hle hcp ⊢
  have HNN := Lib.hid hn
  clear hR k1 hn
  go_wp2_with fail
  go_loopw [3, 10] (fun out i wr => ∃ (k : Nat) (ao : Option Addr) (co : Nat), k ≤ n ∧ i = .int .i64 k ∧ out = .slice ao k co ∧ Row wr w1.heap.size 3 ao co 1 intR ((ps.map (fun q => Lib.atoiOr q (-1099511627776))).take k) ∧ Below w1.heap.size w1 wr) (fun _ i _ => n - (intOf i).toNat)
  case atStart => exact ⟨0, none, 0, Nat.zero_le _, rfl, rfl, Row.nil _ _ _ _ _ _, Below.refl _ _⟩
  case round =>
    obtain ⟨k, ao, co, hk, rfl, rfl, hR, hbel⟩ := hrel
    have RR := Lib.hid hR
    have KR := Lib.hid hbel
    have hlen := RR.out.len
    have hcm2 := RR.out.max
    unfold maxLen at hcm2
    have htk : ((ps.map (fun q => Lib.atoiOr q (-1099511627776))).take k).length = k := by rw [List.length_take, List.length_map, ← HNN.out]; omega
    rw [htk] at hlen
    have HTK := Lib.hid htk
    clear hR hbel htk
    by_cases hlt : k < n
    · have hkz : k < ps.length := by rw [← HNN.out]; exact hlt
      have hk1 : (k : Int) < (n : Int) := by omega
      have hk0 : (0 : Int) ≤ (k : Int) := by omega
      have hwk : IntKind.i64.wrap ((k : Int) + 1) = (k : Int) + 1 := IntWalk.i64_in _ ⟨by omega, by omega⟩
      obtain ⟨b0, o0, rfl, hl0, hc0⟩ := str_atG HR.out k hkz
      have d0 := hc0 wr KR.out
      have HSN := Lib.hid (map_take_snoc (fun q => Lib.atoiOr q (-1099511627776)) hkz)
      have hq := HLE.out ps[k] (List.getElem_mem _)
      clear hc0
      generalize ps[k] = q at *
      have CN := Lib.hid (fun V E => atoi_c q V (by omega) E)
      generalize Lib.atoiOr q (-1099511627776) = v at *
      clear hq
      go_wp2_with fail
      refine (CN.out wr (EE.out.below (K1.out.trans (KR.out.mono hs1)))).mono ?_
      rintro e w2 ⟨rfl, k2⟩
      have RR2 := Lib.hid (RR.out.below k2)
      have KR2 := Lib.hid (below_next KR.out k2)
      have P11 := Lib.hid (RR2.out.alloc (.cells #[.int .i64 v] 3))
      have RA := Lib.hid (rowsAt_int w2 v 3)
      clear d0 k2
      go_wp2_with (at_builtin; refine wpList_append_row rfl _ _ rfl (k + 1) eltInt rfl rfl P11.out RA.out HTK.out rfl rfl (by simp only [maxLen]; omega) (by omega) (by have := KR2.out.size; simp <;> omega) ?_)
      intro a5 c5 w5 q5
      have R5 := Lib.hid q5.row
      have K5 := Lib.hid ((KR2.out.alloc KR2.out.size (.cells #[.int .i64 v] 3)).grown q5.grown (by have := KR2.out.size; simp <;> omega) (fun g hg => (RR2.out.blk hg).1))
      clear q5 RA P11
      go_wp2_with fail
      go_roundw
      case rel => exact ⟨k + 1, a5, c5, by omega, by go_num, rfl, by rw [HSN.out]; exact R5.out, K5.out⟩
      case measure => simp [intOf]; omega
    · have hk1 : ¬ (k : Int) < (n : Int) := by omega
      have e : (ps.map (fun q => Lib.atoiOr q (-1099511627776))).take k = ps.map (fun q => Lib.atoiOr q (-1099511627776)) := List.take_of_length_le (by rw [List.length_map, ← HNN.out]; omega)
      have hkn : k = (ps.map (fun q => Lib.atoiOr q (-1099511627776))).length := by rw [List.length_map, ← HNN.out]; omega
      have R9 := Lib.hid (show Row wr w1.heap.size 3 ao co 1 intR (ps.map (fun q => Lib.atoiOr q (-1099511627776))) by have := RR.out; rwa [e] at this)
      have HK := Lib.hid hkn
      clear e hkn RR HTK
      go_wp2_with fail
      go_ret
      rw [HN.out]
      exact ⟨ao, co, by rw [HK.out]; rfl, R9.out.low hs1, K1.out.trans (KR.out.mono hs1)⟩
end Go.Proofs.YtilldpoleiippaaGreatDoor
