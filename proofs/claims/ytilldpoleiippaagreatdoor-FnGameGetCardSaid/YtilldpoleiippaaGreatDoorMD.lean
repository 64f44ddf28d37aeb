/- The reference's way of cutting a text (l1Cut); condition: a small text. | The reference's way of reading a number (l1Num); no condition but a small text. | What the walks ask of strconv's table of tens; condition: what the row lists. | What the reading walks ask of package variables; the contracts of strconv.Itoa, atoi and strings.Split over them; condition: the package variables as listed. | The wrap of a law whose row lists variables, the world's shape handed on; what the reading texts ask of package variables; condition: what the row lists. -/
import Derived.Test.YtilldpoleiippaaGreatDoorMA
import Derived.LaidMore
import Derived.Stop.LaidErr
import Derived.Lib.LaidTab
import Derived.Lib.SmallJoins
import Derived.MakeChecks
import Derived.Shelf.Strconv.Itoa3
import Derived.Test.YtilldpoleiippaaGreatDoorShelf
import Derived.Lib.AtoiErrMem
import Derived.Handed
set_option linter.unusedSimpArgs false
set_option linter.unusedVariables false
/-! The reference's way of cutting a text (l1Cut); condition: a small text. -/
namespace Go.Proofs.YtilldpoleiippaaGreatDoor
open Go.RowKit Go.Joins

/-- Texts in a list of their own. -/
def StrsOwn (ps : List (List UInt8)) (w : World) (e : Ending) (w' : World) : Prop :=
  ∃ (a : Option Addr) (cap : Nat), e = .returned (.slice a ps.length cap) ∧ Row w' w.heap.size 9 a cap 1 strR ps ∧ Below w.heap.size w w'
theorem extract_cut (s : ByteArray) (f k : Nat) : s.extract f k = ⟨((s.data.toList.take k).drop f).toArray⟩ := by
  apply ByteArray.ext
  rw [ByteArray.data_extract]
  apply Array.toList_inj.1
  rw [Array.toList_extract, List.extract_eq_drop_take', List.drop_take]
theorem cur_next {l : List UInt8} {f k : Nat} (hf : f ≤ k) (hk : k < l.length) : (l.take (k + 1)).drop f = (l.take k).drop f ++ [l[k]] := by
  rw [List.take_succ_eq_append_getElem hk, List.drop_append_of_le_length (by rw [List.length_take]; omega)]

set_option maxRecDepth 100000 in
set_option maxHeartbeats 4000000 in
theorem l1Cut_c (s : ByteArray) (b : UInt8) (m : Nat) (w : World) (hs : s.size ≤ 1099511627776) (hm : m ≤ 1000000) :
    Calls Tryz.prog 19 #[.string s, .int .u8 b.toNat, .int .i64 m] w (StrsOwn (cutL b m s.data.toList) w) := by
  have hsl : s.data.toList.length = s.size := by simp
  have HSL := Lib.hid hsl
  clear hsl
  go_enter Tryz.func19, Tryz.ntmps19
  go_wp2_with fail
  obtain ⟨W, hW, sW, -, kW⟩ := blocks1 w (.cells #[] 9)
  rw [← hW]
  clear hW
  have KW := Lib.hid kW
  have SW := Lib.hid sW
  clear kW sW
  go_loopw [7, 8, 9] (fun out from_ i wr => ∃ (ps : List (List UInt8)) (ao : Option Addr) (co k f : Nat), k ≤ s.size ∧ f ≤ k ∧ i = .int .i64 k ∧ from_ = .int .i64 f ∧ out = .slice ao ps.length co ∧ ps.length ≤ m ∧ Row wr W.heap.size 9 ao co 1 strR ps ∧
      cutL b m s.data.toList = ps ++ cutGo b (s.data.toList.drop k) ((s.data.toList.take k).drop f) (m - ps.length) ∧ Below W.heap.size W wr) (fun _ _ i _ => s.size - (intOf i).toNat)
  case atStart => exact ⟨[], some ⟨w.heap.size, 0, none⟩, 0, 0, 0, Nat.zero_le _, Nat.le_refl _, rfl, rfl, rfl, Nat.zero_le _, Row.nil _ _ _ _ _ _, by simp [cutL], Below.refl _ _⟩
  case round =>
    obtain ⟨ps, ao, co, k, f, hk, hf, rfl, rfl, rfl, hpm, hR, hC, hbel⟩ := hrel
    have RR := Lib.hid hR
    have HC := Lib.hid hC
    have KR := Lib.hid hbel
    clear hR hC hbel
    obtain ⟨q, hq⟩ : ∃ q, q = ps.length := ⟨_, rfl⟩
    have HQ := Lib.hid hq.symm
    have hlen := RR.out.len
    have hcm := RR.out.max
    unfold maxLen at hcm
    rw [← hq] at hpm hlen ⊢
    clear hq
    have hwk : IntKind.i64.wrap ((k : Int) + 1) = (k : Int) + 1 := IntWalk.i64_in _ ⟨by omega, by omega⟩
    obtain ⟨cur, hcur⟩ : ∃ cur, cur = (s.data.toList.take k).drop f := ⟨_, rfl⟩
    have HCU := Lib.hid hcur
    have hex : s.extract f k = ⟨cur.toArray⟩ := by rw [hcur]; exact extract_cut s f k
    clear hcur
    have hexe : s.extract f s.size = ⟨(s.data.toList.drop f).toArray⟩ := by rw [extract_cut, List.take_of_length_le (by rw [HSL.out]; exact Nat.le_refl _)]
    obtain ⟨tl, htl⟩ : ∃ tl, tl = s.data.toList.drop f := ⟨_, rfl⟩
    have HTL := Lib.hid htl
    rw [← htl] at hexe
    clear htl
    have hf0 : (0 : Int) ≤ (f : Int) := by omega
    have hfk : (f : Int) ≤ (k : Int) := by omega
    have hks : (k : Int) ≤ (s.size : Int) := by omega
    have hfs : (f : Int) ≤ (s.size : Int) := by omega
    by_cases hgo : k < s.size ∧ q < m
    · obtain ⟨hlt, hqm⟩ := hgo
      have hkl : k < s.data.toList.length := by rw [HSL.out]; exact hlt
      have hget : s.data.toList[k] = s[k] := by simp [ByteArray.getElem_eq_getElem_data]
      have hdr : s.data.toList.drop k = s[k] :: s.data.toList.drop (k + 1) := by rw [List.drop_eq_getElem_cons hkl, hget]
      have hcn := cur_next hf hkl
      rw [hget] at hcn
      have hmq : m - q = (m - (q + 1)) + 1 := by omega
      have hC := HC.out
      rw [hdr, HQ.out, hmq, cutGo, ← HCU.out] at hC
      rw [← HCU.out] at hcn
      have HCN := Lib.hid hcn
      clear hdr hcn hmq hget
      by_cases hb : s[k] = b
      · have hbn : s[k].toNat = b.toNat := by rw [hb]
        rw [if_pos hb] at hC
        have HC2 := Lib.hid hC
        clear hb hC hexe hfs
        have P11 := Lib.hid (RR.out.alloc (.cells #[.string ⟨cur.toArray⟩] 9))
        have hRA := rowsAt_str wr cur 9
        have RA := Lib.hid hRA
        clear hRA
        go_wp2_with (at_builtin; refine wpList_append_row rfl _ _ rfl (q + 1) eltStr rfl rfl P11.out RA.out HQ.out rfl rfl (by simp only [maxLen]; omega) (by omega) (by have := KR.out.size; simp <;> omega) ?_)
        intro a5 c5 w5 q5
        have R5 := Lib.hid q5.row
        have K5 := Lib.hid ((KR.out.alloc KR.out.size (.cells #[.string ⟨cur.toArray⟩] 9)).grown q5.grown (by have := KR.out.size; simp <;> omega) (fun g hg => (RR.out.blk hg).1))
        clear q5 RA P11
        go_wp2_with fail
        go_roundw
        case rel =>
          refine ⟨ps ++ [cur], a5, c5, k + 1, k + 1, by omega, Nat.le_refl _, ?_, ?_, ?_, ?_, R5.out, ?_, K5.out⟩
          · go_num
          · go_num
          · rw [List.length_append, HQ.out]; rfl
          · rw [List.length_append, HQ.out]; exact hqm
          · rw [HC2.out, List.length_append, HQ.out]
            have e : (s.data.toList.take (k + 1)).drop (k + 1) = [] := List.drop_eq_nil_of_le (by rw [List.length_take]; omega)
            rw [e]
            simp
        case measure => simp [intOf]; omega
      · have hbn : ¬ s[k].toNat = b.toNat := fun h => hb (UInt8.toNat_inj.1 h)
        have hbb : (((s[k].toNat : Nat) : Int) == ((b.toNat : Nat) : Int)) = false := by simp; omega
        rw [if_neg hb] at hC
        have HC2 := Lib.hid hC
        clear hb hC hexe hfs
        go_wp2_with fail
        go_roundw
        case rel =>
          refine ⟨ps, ao, co, k + 1, f, by omega, by omega, ?_, rfl, ?_, ?_, RR.out, ?_, KR.out⟩
          · go_num
          · rw [HQ.out]
          · rw [HQ.out]; exact hpm
          · rw [HC2.out, HQ.out, HCN.out]
            have hmq : m - q = (m - (q + 1)) + 1 := by omega
            rw [hmq]
        case measure => simp [intOf]; omega
    · have HFIN := Lib.hid (show cutL b m s.data.toList = ps ++ [tl] from by
        rw [HC.out, HTL.out, HQ.out]
        congr 1
        by_cases hkk : k = s.size
        · subst hkk
          rw [List.drop_eq_nil_of_le (by rw [HSL.out]; exact Nat.le_refl _), List.take_of_length_le (by rw [HSL.out]; exact Nat.le_refl _)]
          cases hmm : m - q <;> rfl
        · have hq0 : m - q = 0 := by omega
          rw [hq0, cutGo_zero]
          congr 1
          conv => rhs; rw [← List.take_append_drop k s.data.toList]
          rw [List.drop_append_of_le_length (by rw [List.length_take, HSL.out]; omega)])
      have P11 := Lib.hid (RR.out.alloc (.cells #[.string ⟨tl.toArray⟩] 9))
      have hRA := rowsAt_str wr tl 9
      have RA := Lib.hid hRA
      clear hRA hex
      have hfin : ∀ (K : Prop), K → K := fun _ h => h
      by_cases hlt : k < s.size
      · have hqm : ¬ q < m := fun h => hgo ⟨hlt, h⟩
        clear hgo
        go_wp2_with (at_builtin; refine wpList_append_row rfl _ _ rfl (q + 1) eltStr rfl rfl P11.out RA.out HQ.out rfl rfl (by simp only [maxLen]; omega) (by omega) (by have := KR.out.size; simp <;> omega) ?_)
        intro a5 c5 w5 q5
        have R5 := Lib.hid q5.row
        have K5 := Lib.hid ((KR.out.alloc KR.out.size (.cells #[.string ⟨tl.toArray⟩] 9)).grown q5.grown (by have := KR.out.size; simp <;> omega) (fun g hg => (RR.out.blk hg).1))
        clear q5 RA P11
        go_wp2_with fail
        go_ret
        rw [HFIN.out]
        exact ⟨a5, c5, by rw [List.length_append, HQ.out]; rfl, R5.out.low (by have := SW.out; omega), below_next KW.out K5.out⟩
      · clear hgo
        go_wp2_with (at_builtin; refine wpList_append_row rfl _ _ rfl (q + 1) eltStr rfl rfl P11.out RA.out HQ.out rfl rfl (by simp only [maxLen]; omega) (by omega) (by have := KR.out.size; simp <;> omega) ?_)
        intro a5 c5 w5 q5
        have R5 := Lib.hid q5.row
        have K5 := Lib.hid ((KR.out.alloc KR.out.size (.cells #[.string ⟨tl.toArray⟩] 9)).grown q5.grown (by have := KR.out.size; simp <;> omega) (fun g hg => (RR.out.blk hg).1))
        clear q5 RA P11
        go_wp2_with fail
        go_ret
        rw [HFIN.out]
        exact ⟨a5, c5, by rw [List.length_append, HQ.out]; rfl, R5.out.low (by have := SW.out; omega), below_next KW.out K5.out⟩
end Go.Proofs.YtilldpoleiippaaGreatDoor

/-! The reference's way of reading a number (l1Num); no condition but a small text. -/
namespace Go.Proofs.YtilldpoleiippaaGreatDoor
open Go.RowKit Go.Joins

theorem numGo_step {l : List UInt8} {k : Nat} {acc : Int} {c : UInt8} (h : l[k]? = some c) : numGo (l.drop k) k acc = if c.toNat < 48 ∨ 57 < c.toNat ∨ 2 ≤ k then none else numGo (l.drop (k + 1)) (k + 1) (acc * 10 + ((c.toNat : Int) - 48)) := by
  obtain ⟨hk, hc⟩ := List.getElem?_eq_some_iff.1 h
  rw [List.drop_eq_getElem_cons hk, numGo, hc]
theorem u8_in {x : Int} (h0 : 0 ≤ x) (h1 : x ≤ 255) : IntKind.u8.wrap x = x := by
  unfold IntKind.wrap
  simp [IntKind.signed, IntKind.bits, IntKind.max, IntKind.min]
  omega
theorem numPos_none {l : List UInt8} (h : numGo l 0 0 = none) : numPos l = -999 := by unfold numPos; rw [h]
theorem numPos_some {l : List UInt8} {n : Int} (h : numGo l 0 0 = some n) : numPos l = if l.length = 0 ∨ (1 < l.length ∧ l.head? = some 48) then -999 else n := by unfold numPos; rw [h]

set_option maxRecDepth 100000 in
set_option maxHeartbeats 8000000 in
/-- A text that is no number below nought. -/
theorem l1Num_pos (s : ByteArray) (w : World) (hs : s.size ≤ 1099511627776) (three : (¬ 1 < s.size) ∨ (∃ h : 1 < s.size, ¬ (s[0]'(by omega)).toNat = 45) ∨ (∃ h : 1 < s.size, (s[0]'(by omega)).toNat = 45 ∧ (s[1]'h).toNat = 48)) :
    Calls Tryz.prog 41 #[.string s] w fun e w' => e = .returned (.int .i64 (numPos s.data.toList)) ∧ w = w' := by
  have hsl : s.data.toList.length = s.size := by simp
  have HSL := Lib.hid hsl
  have hget : ∀ k (h : k < s.size), s.data.toList[k]? = some s[k] := fun k h => by rw [List.getElem?_eq_getElem (by rw [hsl]; exact h)]; simp [ByteArray.getElem_eq_getElem_data]
  have HGET := Lib.hid hget
  clear hsl hget
  obtain ⟨l, hl⟩ : ∃ l, l = s.data.toList := ⟨_, rfl⟩
  have HL := Lib.hid hl
  rw [← hl] at HSL HGET ⊢
  clear hl
  have HN := Lib.hid (numPos_none (l := l))
  have HP := Lib.hid (fun n => numPos_some (l := l) (n := n))
  obtain ⟨res, hres⟩ : ∃ res, res = numPos l := ⟨_, rfl⟩
  rw [← hres] at HN HP ⊢
  clear hres
  have h2 : ∀ k, s.size = k → ((1 : Int) < (s.size : Int) ↔ 1 < k) := fun k hk => by omega
  rcases three with h1 | ⟨h1, h45⟩ | ⟨h1, h45, h48⟩
  all_goals
    go_enter Tryz.func41, Tryz.ntmps41
    go_wp2_with fail
    go_loop [4, 5] (fun n i => ∃ (k : Nat) (acc : Int), k ≤ s.size ∧ k ≤ 2 ∧ i = .int .i64 k ∧ n = .int .i64 acc ∧ 0 ≤ acc ∧ (k ≤ 0 → acc ≤ 0) ∧ (k ≤ 1 → acc ≤ 9) ∧ acc ≤ 99 ∧ numGo l 0 0 = numGo (l.drop k) k acc) (fun _ i => s.size - (intOf i).toNat)
    case atStart => exact ⟨0, 0, Nat.zero_le _, Nat.zero_le _, rfl, rfl, Int.le_refl _, fun _ => Int.le_refl _, fun _ => by decide, by decide, rfl⟩
    case round =>
      obtain ⟨k, acc, hk, hk2, rfl, rfl, ha0, ha1, ha2, ha3, hgo⟩ := hrel
      by_cases hlt : k < s.size
      · have hkl : k < l.length := by rw [HSL.out]; exact hlt
        have hst := numGo_step (acc := acc) (HGET.out k hlt)
        rw [← hgo] at hst
        have hkk0 : (0 : Int) ≤ (k : Int) := by omega
        have hki : (k : Int) < (s.size : Int) := by omega
        have hb := s[k].toNat_lt
        obtain ⟨c, hc⟩ : ∃ c, c = s[k].toNat := ⟨_, rfl⟩
        rw [← hc] at hst hb
        have hce : s[k].toNat = c := hc.symm
        clear hc
        by_cases hbad : c < 48 ∨ 57 < c ∨ 2 ≤ k
        · rw [if_pos hbad] at hst
          have HR := Lib.hid (HN.out hst)
          clear hst hgo
          by_cases c1 : c < 48
          · go_wp2_with fail
            all_goals go_ret
            all_goals exact ⟨ret_int (by rw [HR.out]), rfl⟩
          · by_cases c2 : 57 < c
            · go_wp2_with fail
              all_goals go_ret
              all_goals exact ⟨ret_int (by rw [HR.out]), rfl⟩
            · have hk3 : (2 : Int) ≤ (k : Int) := by omega
              go_wp2_with fail
              all_goals go_ret
              all_goals exact ⟨ret_int (by rw [HR.out]), rfl⟩
        · rw [if_neg hbad] at hst
          have hk3 : ¬ (2 : Int) ≤ (k : Int) := by omega
          have c1 : ¬ c < 48 := by omega
          have c2 : ¬ 57 < c := by omega
          have hm9 : acc ≤ 9 := ha2 (by omega)
          have hw1 : IntKind.u8.wrap ((c : Int) - 48) = (c : Int) - 48 := u8_in (by omega) (by omega)
          have hw2 : IntKind.i64.wrap (acc * 10) = acc * 10 := IntWalk.i64_in _ ⟨by omega, by omega⟩
          have hw3 : IntKind.i64.wrap (acc * 10 + ((c : Int) - 48)) = acc * 10 + ((c : Int) - 48) := IntWalk.i64_in _ ⟨by omega, by omega⟩
          have hw4 : IntKind.i64.wrap ((c : Int) - 48) = (c : Int) - 48 := IntWalk.i64_in _ ⟨by omega, by omega⟩
          have HST := Lib.hid hst
          clear hst hgo hbad
          go_wp2_with fail
          go_round
          case rel =>
            refine ⟨k + 1, acc * 10 + ((c : Int) - 48), by omega, by omega, ?_, ?_, by omega, fun h => by omega, fun h => ?_, by omega, HST.out⟩
            · go_num
            · first | rfl | go_num
            · have := ha1 (by omega)
              omega
          case measure => simp [intOf]; omega
      · have hkk : k = s.size := by omega
        have hd : numGo (l.drop k) k acc = some acc := by rw [List.drop_eq_nil_of_le (by rw [HSL.out]; omega)]; rfl
        have hR := HP.out acc (hgo.trans hd)
        clear hgo hd
        have hk3 : s.size = 0 ∨ s.size = 1 ∨ s.size = 2 := by omega
        rcases hk3 with h0 | h0 | h0
        · have HR := Lib.hid (show res = -999 by rw [hR, if_pos (.inl (HSL.out.trans h0))])
          clear hR
          have h00 : (s.size : Int) = 0 := by omega
          go_wp2_with fail
          all_goals go_ret
          all_goals exact ⟨ret_int (by rw [HR.out]), rfl⟩
        · have HR := Lib.hid (show res = acc by rw [hR, if_neg (by rw [HSL.out]; omega)])
          clear hR
          have h00 : ¬ (s.size : Int) = 0 := by omega
          have h01 : ¬ (1 : Int) < (s.size : Int) := by omega
          go_wp2_with fail
          all_goals go_ret
          all_goals exact ⟨ret_int (by rw [HR.out]), rfl⟩
        · have h0s : 0 < s.size := by omega
          have h00 : ¬ (s.size : Int) = 0 := by omega
          have h01 : (1 : Int) < (s.size : Int) := by omega
          have hh : l.head? = some s[0] := by rw [List.head?_eq_getElem?]; exact HGET.out 0 h0s
          by_cases hc0 : s[0].toNat = 48
          · have HR := Lib.hid (show res = -999 by first | (exfalso; omega) | rw [hR, if_pos (.inr ⟨by rw [HSL.out]; omega, by rw [hh, show s[0] = (48 : UInt8) from UInt8.toNat_inj.1 hc0]⟩)])
            clear hR hh
            go_wp2_with fail
            all_goals go_ret
            all_goals first | (exfalso; omega) | exact ⟨ret_int (by rw [HR.out]), rfl⟩
          · have HR := Lib.hid (show res = acc by
              rw [hR, if_neg]
              rintro (q | ⟨-, q⟩)
              · rw [HSL.out] at q; omega
              · rw [hh] at q
                injection q with q
                exact hc0 (by rw [q]; rfl))
            clear hR hh
            go_wp2_with fail
            all_goals go_ret
            all_goals exact ⟨ret_int (by rw [HR.out]), rfl⟩

theorem numGo_bound : ∀ (l : List UInt8) (i : Nat) (acc n : Int), numGo l i acc = some n → 0 ≤ acc → (i ≤ 0 → acc ≤ 0) → (i ≤ 1 → acc ≤ 9) → acc ≤ 99 → 0 ≤ n ∧ n ≤ 99
  | [], i, acc, n, h, h0, _, _, h3 => by simp only [numGo, Option.some.injEq] at h; omega
  | c :: r, i, acc, n, h, h0, h1, h2, h3 => by
    rw [numGo] at h
    split at h
    · cases h
    · rename_i hc
      have hb := c.toNat_lt
      exact numGo_bound r (i + 1) _ n h (by omega) (fun q => by omega) (fun q => by have := h1 (by omega); omega) (by have := h2 (by omega); omega)
theorem numPos_bound (l : List UInt8) : -999 ≤ numPos l ∧ numPos l ≤ 99 := by
  unfold numPos
  cases h : numGo l 0 0 with
  | none => simp
  | some n =>
    have := numGo_bound l 0 0 n h (Int.le_refl _) (fun _ => Int.le_refl _) (fun _ => by decide) (by decide)
    simp only
    split <;> omega
theorem numL_bound : ∀ l : List UInt8, -999 ≤ numL l ∧ numL l ≤ 999
  | [] => by rw [numL]; have := numPos_bound []; omega
  | [c] => by rw [numL]; have := numPos_bound [c]; omega
  | c :: d :: r => by
    have ih := numL_bound (d :: r)
    have hp := numPos_bound (c :: d :: r)
    rw [numL]
    split
    · split <;> omega
    · omega

set_option maxRecDepth 100000 in
set_option maxHeartbeats 4000000 in
theorem l1Num_n : ∀ (N : Nat) (s : ByteArray) (w : World), s.size ≤ N → s.size ≤ 1099511627776 →
    Calls Tryz.prog 41 #[.string s] w fun e w' => e = .returned (.int .i64 (numL s.data.toList)) ∧ w = w'
  | 0, s, w, h0, hs => by
    have hl : s.data.toList = [] := List.eq_nil_of_length_eq_zero (by rw [show s.data.toList.length = s.size by simp]; omega)
    have := l1Num_pos s w hs (.inl (by omega))
    rw [hl] at this ⊢
    exact this
  | N + 1, s, w, hN, hs => by
    have HSL := Lib.hid (show s.data.toList.length = s.size by simp)
    have hget : ∀ k (h : k < s.size), s.data.toList[k]? = some s[k] := fun k h => by rw [List.getElem?_eq_getElem (by rw [HSL.out]; exact h)]; simp [ByteArray.getElem_eq_getElem_data]
    by_cases h1 : 1 < s.size
    · have g0 := hget 0 (by omega)
      have g1 := hget 1 h1
      have hex := extract_cut s 1 s.size
      rw [List.take_of_length_le (by rw [HSL.out]; exact Nat.le_refl _)] at hex
      have hpos := l1Num_pos s w hs
      cases hl : s.data.toList with
      | nil => have hsl := HSL.out; rw [hl] at hsl; simp at hsl; omega
      | cons c r0 =>
        cases r0 with
        | nil => have hsl := HSL.out; rw [hl] at hsl; simp at hsl; omega
        | cons d r =>
          rw [hl] at g0 g1 hex hpos
          simp only [List.getElem?_cons_zero, List.getElem?_cons_succ, Option.some.injEq] at g0 g1
          simp only [List.drop_succ_cons, List.drop_zero] at hex
          rw [numL, g0, g1]
          by_cases h45 : s[0] = 45
          · have h45n : s[0].toNat = 45 := by rw [h45]; rfl
            by_cases h48 : s[1] = 48
            · have h48n : s[1].toNat = 48 := by rw [h48]; rfl
              rw [if_neg (fun q => q.2 h48), ← g0, ← g1]
              exact hpos (.inr (.inr ⟨h1, h45n, h48n⟩))
            · have h48n : ¬ s[1].toNat = 48 := fun q => h48 (UInt8.toNat_inj.1 q)
              rw [if_pos ⟨h45, h48⟩, ← g1]
              have hts : (⟨(d :: r).toArray⟩ : ByteArray).size = s.size - 1 := by
                have := congrArg List.length hl
                rw [HSL.out, List.length_cons, List.length_cons] at this
                show (d :: r).toArray.size = _
                simp only [List.size_toArray, List.length_cons]
                omega
              have IH := Lib.hid (l1Num_n N ⟨(d :: r).toArray⟩ w (by rw [hts]; omega) (by rw [hts]; omega))
              have hb := numL_bound (d :: r)
              simp only [List.toList_toArray] at IH
              clear hpos g0 g1 hget HSL hl hts h45 h48
              generalize numL (d :: r) = z at *
              have hi : (1 : Int) < (s.size : Int) := by omega
              by_cases hz : z < 0
              · rw [if_pos hz]
                go_enter Tryz.func41, Tryz.ntmps41
                go_wp2_with fail
                refine IH.out.mono ?_
                rintro e w1 ⟨rfl, rfl⟩
                go_wp2_with fail
                go_ret
                exact ⟨rfl, rfl⟩
              · rw [if_neg hz]
                have hw : IntKind.i64.wrap (-z) = -z := IntWalk.i64_in _ ⟨by omega, by omega⟩
                go_enter Tryz.func41, Tryz.ntmps41
                go_wp2_with fail
                refine IH.out.mono ?_
                rintro e w1 ⟨rfl, rfl⟩
                go_wp2_with fail
                go_ret
                exact ⟨rfl, rfl⟩
          · have h45n : ¬ s[0].toNat = 45 := fun q => h45 (UInt8.toNat_inj.1 q)
            rw [if_neg (fun q => h45 q.1), ← g0, ← g1]
            exact hpos (.inr (.inl ⟨h1, h45n⟩))
    · have hp := l1Num_pos s w hs (.inl h1)
      cases hl : s.data.toList with
      | nil => rw [hl] at hp; exact hp
      | cons c r0 =>
        cases r0 with
        | nil => rw [hl] at hp; exact hp
        | cons d r => have hsl := HSL.out; rw [hl] at hsl; simp at hsl; omega
theorem l1Num_c (s : ByteArray) (w : World) (hs : s.size ≤ 1099511627776) :
    Calls Tryz.prog 41 #[.string s] w fun e w' => e = .returned (.int .i64 (numL s.data.toList)) ∧ w = w' := l1Num_n s.size s w (Nat.le_refl _) hs
end Go.Proofs.YtilldpoleiippaaGreatDoor

/-! What the walks ask of strconv's table of tens; condition: what the row lists. -/
namespace Go.Proofs.YtilldpoleiippaaGreatDoor
open Go.ChangeShapes Go.WideShapes Go.RowKit Go.Joins

theorem gPow : Tryz.prog.globalNamed "internal/strconv.uint64pow10" = some 5 := by kernel_rfl
theorem cell_stays {w w' : World} {b o : Nat} {v : Value} (k : Below w.heap.size w w') (h : w.cell? ⟨b, o, none⟩ = some v) : w'.cell? ⟨b, o, none⟩ = some v :=
  (k.cell (p := ⟨b, o, none⟩) (World.block_lt_of_cell? w _ h)).trans h
theorem pow_of_laid {W : World} {rest : List (String × DataW Unit)} (h : laidMet Tryz.prog (("internal/strconv.uint64pow10", Rows.laid_internal_strconv_uint64pow10) :: rest) W) :
    Lib.TabIs Tryz.prog W "internal/strconv.uint64pow10" .u64 Lib.pow10Tab :=
  Lib.tabIs_of_head (t := 125) (e := 106) (n := 20) gPow (by kernel_rfl) Tryz.underlying125 Tryz.underlying106 (by kernel_rfl) (by kernel_rfl) h
theorem below_grow (w : World) (k : Nat) (os : Array Obj) : Below w.heap.size w (Sort.grow (w.drewN k) os) :=
  ⟨rfl, rfl, rfl, by simp [Sort.grow], fun i hi => by simp [Sort.grow, Array.getElem?_append, hi]⟩
end Go.Proofs.YtilldpoleiippaaGreatDoor

/-! What the reading walks ask of package variables; the contracts of strconv.Itoa, atoi and strings.Split over them; condition: the package variables as listed. -/
namespace Go.Proofs.YtilldpoleiippaaGreatDoor
open Go.RowKit Go.Joins

/-- What atoi and Split ask. -/
structure EnvA (w : World) : Prop where
  pow : Lib.TabIs Tryz.prog w "internal/strconv.uint64pow10" .u64 Lib.pow10Tab
  syn : ∃ tp p, w.cell? ⟨3, 0, none⟩ = some (.iface tp p)
  ran : ∃ tp p, w.cell? ⟨4, 0, none⟩ = some (.iface tp p)
  len : ∃ m, w.cell? ⟨0, 0, none⟩ = some (.int .i64 m)
theorem EnvA.below {w w' : World} (h : EnvA w) (k : Below w.heap.size w w') : EnvA w' := by
  obtain ⟨h1, ⟨ts, ps, h2⟩, ⟨tr, pr, h3⟩, ⟨m, h4⟩⟩ := h
  exact ⟨tab_stays gPow h1 k (Nat.le_refl _), ⟨ts, ps, cell_stays k h2⟩, ⟨tr, pr, cell_stays k h3⟩, ⟨m, cell_stays k h4⟩⟩

theorem Itoa_p (n : Int) (w : World) (h0 : -4611686018427387904 ≤ n) (h1 : n ≤ 4611686018427387904) (T : Lib.TabIs Tryz.prog w "internal/strconv.uint64pow10" .u64 Lib.pow10Tab) :
    Calls Tryz.prog 46 #[.int .i64 n] w fun e w' => e = .returned (.string ⟨(Lib.itoa n).toArray⟩) ∧ Below w.heap.size w w' := by
  refine (Tryz.strconv_Itoa n (by omega) (by omega) w T).mono ?_
  rintro e w' ⟨he, k, os, rfl⟩
  exact ⟨he, below_grow w k os⟩
theorem bytes_len (p : List UInt8) : (⟨p.toArray⟩ : ByteArray).size = p.length := by simp [ByteArray.size]

set_option maxRecDepth 100000 in
set_option maxHeartbeats 2000000 in
theorem atoi_c (p : List UInt8) (w : World) (hs : p.length ≤ 1099511627776) (E : EnvA w) :
    Calls Tryz.prog 38 #[.string ⟨p.toArray⟩] w fun e w' => e = .returned (.int .i64 (Lib.atoiOr p (-1099511627776))) ∧ Below w.heap.size w w' := by
  cases h : Lib.atoiAll p
  · rename_i v
    have HV : Hid (Lib.atoiOr p (-1099511627776) = v) := by show _ = _; unfold Lib.atoiOr; rw [h]
    have HA := Lib.hid (fun V => Tryz.strconv_Atoi_ok ⟨p.toArray⟩ (by rw [bytes_len]; omega) v (by simpa using h) V)
    clear h
    go_enter Tryz.func38, Tryz.ntmps38
    go_wp2_with fail
    refine (HA.out _).mono ?_
    rintro e w1 ⟨rfl, hW⟩
    have kW : Below w.heap.size w w1 := by
      rcases hW with rfl | ⟨t, rfl⟩
      · exact Below.refl _ _
      · exact below_bytesWorld _ _ _ _ (Nat.le_refl _)
    clear hW
    go_wp2_with fail
    go_ret
    exact ⟨ret_int HV.out.symm, kW⟩
  · have HV : Hid (Lib.atoiOr p (-1099511627776) = -1099511627776) := by show _ = _; unfold Lib.atoiOr; rw [h]
    obtain ⟨tp, pp, hc⟩ := E.syn
    have HA := Lib.hid (Any.strconv_Atoi_syntax Tryz.laysC172 ⟨p.toArray⟩ (by rw [bytes_len]; omega) (by simpa using h) (.iface tp pp) w hc (.inr ⟨_, _, rfl⟩))
    clear h hc
    go_enter Tryz.func38, Tryz.ntmps38
    go_wp2_with fail
    refine (HA.out).mono ?_
    rintro e w1 ⟨N, rfl, -, -, kW⟩
    go_wp2_with fail
    go_ret
    exact ⟨ret_int HV.out.symm, kW⟩
  · have HV : Hid (Lib.atoiOr p (-1099511627776) = -1099511627776) := by show _ = _; unfold Lib.atoiOr; rw [h]
    obtain ⟨tp, pp, hc⟩ := E.ran
    have HA := Lib.hid (Tryz.strconv_Atoi_range ⟨p.toArray⟩ (by rw [bytes_len]; omega) (by simpa using h) (.iface tp pp) w hc (.inr ⟨_, _, rfl⟩))
    clear h hc
    go_enter Tryz.func38, Tryz.ntmps38
    go_wp2_with fail
    refine (HA.out).mono ?_
    rintro e w1 ⟨N, rfl, -, -, kW⟩
    go_wp2_with fail
    go_ret
    exact ⟨ret_int HV.out.symm, kW⟩

/-- All pieces of a text between a byte. -/
def splitL (b : UInt8) (s : List UInt8) : List (List UInt8) := Lib.splitK [b] 0 (Lib.count s [b]) s
theorem flat_str (ps : List (List UInt8)) : flat strR ps = (ps.map (fun p => Value.string ⟨p.toArray⟩)).toArray := by
  unfold flat
  congr 1
  induction ps with
  | nil => rfl
  | cons p ps ih => rw [List.flatMap_cons, ih]; rfl
theorem split_c (b : UInt8) (s : ByteArray) (w : World) (hs : s.size ≤ 4000000000) (E : EnvA w) :
    Calls Tryz.prog 15 #[.string s, .string ⟨#[b]⟩] w (StrsOwn (splitL b s.data.toList) w) := by
  obtain ⟨m, hm⟩ := E.len
  refine (Any.strings_Split { Tryz.laysM146 with } Tryz.laysM146.i9 s ⟨#[b]⟩ m w (by omega) hm (Nat.le_refl 1)).mono ?_
  rintro e w' ⟨rfl, rfl⟩
  have hd := Lib.splitB_data ⟨#[b]⟩ 0 (Lib.countB s ⟨#[b]⟩) s
  have hl := Lib.splitB_all ⟨#[b]⟩ (Nat.le_refl 1) 0 _ s rfl
  have hle := Lib.countB_le ⟨#[b]⟩ (Nat.le_refl 1) s.size s (Nat.le_refl _)
  have hd2 : (Lib.splitB ⟨#[b]⟩ 0 (Lib.countB s ⟨#[b]⟩) s).map (·.data.toList) = splitL b s.data.toList := hd
  generalize Lib.splitB ⟨#[b]⟩ 0 (Lib.countB s ⟨#[b]⟩) s = bs at *
  generalize Lib.countB s ⟨#[b]⟩ = n at *
  rw [← hd2]
  have hf : (bs.map Value.string).toArray = flat strR (bs.map (·.data.toList)) := by
    rw [flat_str, List.map_map]
    rfl
  have hlen : (bs.map (·.data.toList)).length = n + 1 := by rw [List.length_map, hl]
  refine ⟨some ⟨w.heap.size, 0, none⟩, n + 1, by rw [hlen], ?_, (Below.refl _ _).alloc (Nat.le_refl _) _⟩
  rw [hf]
  exact ⟨by rw [hlen]; exact Nat.le_refl _, by simp only [maxLen]; omega, fun _ => ⟨_, _, rfl, Nat.le_refl _, heap_alloc_new _ _, by rw [flat_size str_len, hlen]; exact Nat.le_refl _, fun _ _ => rfl⟩⟩
end Go.Proofs.YtilldpoleiippaaGreatDoor

/-! The wrap of a law whose row lists variables, the world's shape handed on; what the reading texts ask of package variables; condition: what the row lists. -/
namespace Go.Proofs.YtilldpoleiippaaGreatDoor
open Go.ChangeShapes Go.WideShapes Go.RowKit Go.Joins

theorem returnsInHanded_shaped {H : Type} {enc : TypeId × Value → H} {a : Assume} {C : Checked} {os : Os} {f : FuncId} {fn : Func} {s : ChangeSpec} {conds : List PathCond} {apart fresh handsOn again : Bool} {X : World → Array Value → Prop}
    (hX : ∀ (w w' : World) (args : Array Value), w.heap = w'.heap → X w args → X w' args)
    (own : ownKnob C.prog.godebug = none) (started : os.Started) (noInit : C.prog.inits.idxOf? f = none) (hfn : C.prog.funcs[f]? = some fn)
    (witness : ∃ (w : World) (tape : Tape) (i : Input), w.os = os ∧ (w.forCall tape i).Shaped C.prog ∧ i.vars = [] ∧ Input.okWide C.prog (w.forCall tape i) .any w.heap.size f i ∧
      ((s.pre enc C.prog fn conds apart (w.forCall tape i).memory i.args ∧ X (w.forCall tape i).memory i.args) ∧ sizedMet enc C.prog fn (OpenSpec.ofChange s) apart (w.forCall tape i).memory i.args) ∧ a.holds C.prog (lone (Frame.enter C.prog f i.args .normal) [] (w.forCall tape i)))
    (contract : ∀ (W : World) (base : Nat) (args : Array Value) (ds gs : List (DataW H)) (before : List MemPlace),
      (∀ (j : Nat) t v, fn.params[j]? = some t → args[j]? = some v → Value.okWide C.prog W .any base t v) →
      DataW.Whole enc C.prog fn.params.toList s.vars apart W args.toList ds gs before →
      X W args → W.ShapedOpen C.prog →
      Calls C.prog f args W fun e W' => ∃ v, e = .returned v ∧ s.post enc C.prog fn apart fresh handsOn again W args v W') :
    ReturnsInHanded a C os f .any (fun w args => (s.pre enc C.prog fn conds apart w args ∧ X w args) ∧ sizedMet enc C.prog fn (OpenSpec.ofChange s) apart w args) (s.post enc C.prog fn apart fresh handsOn again) := by
  refine returnsInHanded_of_calls own started noInit witness ?_
  intro w tape i _ hsh _ hok hpre _
  obtain ⟨_, _, _, fn', hfn', _, _, _, _, hval⟩ := hok
  have e : fn' = fn := Option.some.inj (hfn'.symm.trans hfn)
  subst e
  obtain ⟨⟨⟨ds, gs, before, hw, _⟩, hx⟩, _⟩ := hpre
  have hw' := DataW.Whole.of_heap (w' := w.forCall tape i) (by rfl) hw
  refine (contract (w.forCall tape i) w.heap.size i.args ds gs before hval hw' (hX _ _ _ (by rfl) hx) hsh).mono fun e W' ⟨v, he, hp⟩ => ?_
  subst he
  exact ChangeSpec.post_blind hp

/-- A listed sentinel: the variable's cell holds an interface value. -/
theorem sentinel_of_laid {P : Program} {n nm : String} {d : DataW Unit} {rest : List (String × DataW Unit)} {W : World} {g : Nat} {ti : TypeId} {ms : Array (String × TypeId)} (h : laidMet P ((n, .iface nm d) :: rest) W)
    (hg : P.globalNamed n = some g) (ht : (P.globals[g]?).map (·.type) = some ti) (hi : P.underlying ti = some (.interface ms)) : ∃ tp p, W.cell? ⟨g, 0, none⟩ = some (.iface tp p) := by
  obtain ⟨ps, ⟨g0, t0, cs0, f0, p0, q0, hg0, ht0, hv0, hd0, _, _⟩, _⟩ := h
  obtain rfl := Option.some.inj (hg.symm.trans hg0)
  obtain rfl := Option.some.inj (ht.symm.trans ht0)
  obtain ⟨l0⟩ := cs0
  obtain ⟨f1, u, v, e, -, -⟩ := iface_of_trod hi hd0
  simp only at e
  subst e
  exact ⟨u, v, by simpa using World.var?_cell hg hv0 0⟩
theorem syn_of_laid {W : World} {rest : List (String × DataW Unit)} (h : laidMet Tryz.prog (("strconv.ErrSyntax", Rows.laid_strconv_ErrSyntax) :: rest) W) : ∃ tp p, W.cell? ⟨3, 0, none⟩ = some (.iface tp p) :=
  sentinel_of_laid h (by kernel_rfl) (by kernel_rfl) Tryz.underlying70
theorem ran_of_laid {W : World} {rest : List (String × DataW Unit)} (h : laidMet Tryz.prog (("strconv.ErrRange", Rows.laid_strconv_ErrRange) :: rest) W) : ∃ tp p, W.cell? ⟨4, 0, none⟩ = some (.iface tp p) :=
  sentinel_of_laid h (by kernel_rfl) (by kernel_rfl) Tryz.underlying70
end Go.Proofs.YtilldpoleiippaaGreatDoor
