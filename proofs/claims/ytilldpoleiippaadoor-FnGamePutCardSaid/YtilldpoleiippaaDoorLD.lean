/- The reference's way of cutting a text (l1Cut); condition: a small text. | The reference's way of reading a number (l1Num); no condition but a small text. | What the reading walks ask of package variables; the contracts of strconv.Itoa, atoi and strings.Split over them; condition: the package variables as listed. | The reference reads an ask (spec.ReqGet); condition: a small text. | The program reads an ask (impl.ReqGet); condition: a small text, the package variables as listed. | The wrap of a law whose row lists variables, the world's shape handed on; what the reading texts ask of package variables; condition: what the row lists. -/
import Derived.Test.YtilldpoleiippaaDoorLA
import Derived.Test.YtilldpoleiippaaDoorLB
import Derived.Test.YtilldpoleiippaaDoorShelf
import Derived.Lib.AtoiErrMem
import Derived.Handed
import Derived.Stop.LaidErr
set_option linter.unusedSimpArgs false
set_option linter.unusedVariables false
/-! The reference's way of cutting a text (l1Cut); condition: a small text. -/
namespace Go.Proofs.YtilldpoleiippaaDoor
open Go.RowKit Go.Joins

/-- Texts in a list of their own. -/
def StrsOwn (ps : List (List UInt8)) (w : World) (e : Ending) (w' : World) : Prop :=
  ∃ (a : Option Addr) (cap : Nat), e = .returned (.slice a ps.length cap) ∧ Row w' w.heap.size 9 a cap 1 strR ps ∧ Below w.heap.size w w'
theorem extract_cut (s : ByteArray) (f k : Nat) : s.extract f k = ⟨((s.data.toList.take k).drop f).toArray⟩ := by
  apply ByteArray.ext
  rw [ByteArray.data_extract]
  apply Array.toList_inj.1
  rw [Array.toList_extract, List.extract_eq_drop_take', List.drop_take]
theorem cur_next {l : List UInt8} {f k : Nat} (hf : f ≤ k) (hk : k < l.length) : (l.take (k + 1)).drop f = (l.take k).drop f ++ [l[k]] := by
  rw [List.take_succ_eq_append_getElem hk, List.drop_append_of_le_length (by rw [List.length_take]; omega)]

set_option maxRecDepth 100000 in
set_option maxHeartbeats 4000000 in
theorem l1Cut_c (s : ByteArray) (b : UInt8) (m : Nat) (w : World) (hs : s.size ≤ 1099511627776) (hm : m ≤ 1000000) :
    Calls Tryd.prog 44 #[.string s, .int .u8 b.toNat, .int .i64 m] w (StrsOwn (cutL b m s.data.toList) w) := by
  have hsl : s.data.toList.length = s.size := by simp
  have HSL := Lib.hid hsl
  clear hsl
  go_enter Tryd.func44, Tryd.ntmps44
  go_wp2_with fail
  obtain ⟨W, hW, sW, -, kW⟩ := blocks1 w (.cells #[] 9)
  rw [← hW]
  clear hW
  have KW := Lib.hid kW
  have SW := Lib.hid sW
  clear kW sW
  go_loopw [7, 8, 9] (fun out from_ i wr => ∃ (ps : List (List UInt8)) (ao : Option Addr) (co k f : Nat), k ≤ s.size ∧ f ≤ k ∧ i = .int .i64 k ∧ from_ = .int .i64 f ∧ out = .slice ao ps.length co ∧ ps.length ≤ m ∧ Row wr W.heap.size 9 ao co 1 strR ps ∧
      cutL b m s.data.toList = ps ++ cutGo b (s.data.toList.drop k) ((s.data.toList.take k).drop f) (m - ps.length) ∧ Below W.heap.size W wr) (fun _ _ i _ => s.size - (intOf i).toNat)
  case atStart => exact ⟨[], some ⟨w.heap.size, 0, none⟩, 0, 0, 0, Nat.zero_le _, Nat.le_refl _, rfl, rfl, rfl, Nat.zero_le _, Row.nil _ _ _ _ _ _, by simp [cutL], Below.refl _ _⟩
  case round =>
    obtain ⟨ps, ao, co, k, f, hk, hf, rfl, rfl, rfl, hpm, hR, hC, hbel⟩ := hrel
    have RR := Lib.hid hR
    have HC := Lib.hid hC
    have KR := Lib.hid hbel
    clear hR hC hbel
    obtain ⟨q, hq⟩ : ∃ q, q = ps.length := ⟨_, rfl⟩
    have HQ := Lib.hid hq.symm
    have hlen := RR.out.len
    have hcm := RR.out.max
    unfold maxLen at hcm
    rw [← hq] at hpm hlen ⊢
    clear hq
    have hwk : IntKind.i64.wrap ((k : Int) + 1) = (k : Int) + 1 := IntWalk.i64_in _ ⟨by omega, by omega⟩
    obtain ⟨cur, hcur⟩ : ∃ cur, cur = (s.data.toList.take k).drop f := ⟨_, rfl⟩
    have HCU := Lib.hid hcur
    have hex : s.extract f k = ⟨cur.toArray⟩ := by rw [hcur]; exact extract_cut s f k
    clear hcur
    have hexe : s.extract f s.size = ⟨(s.data.toList.drop f).toArray⟩ := by rw [extract_cut, List.take_of_length_le (by rw [HSL.out]; exact Nat.le_refl _)]
    obtain ⟨tl, htl⟩ : ∃ tl, tl = s.data.toList.drop f := ⟨_, rfl⟩
    have HTL := Lib.hid htl
    rw [← htl] at hexe
    clear htl
    have hf0 : (0 : Int) ≤ (f : Int) := by omega
    have hfk : (f : Int) ≤ (k : Int) := by omega
    have hks : (k : Int) ≤ (s.size : Int) := by omega
    have hfs : (f : Int) ≤ (s.size : Int) := by omega
    by_cases hgo : k < s.size ∧ q < m
    · obtain ⟨hlt, hqm⟩ := hgo
      have hkl : k < s.data.toList.length := by rw [HSL.out]; exact hlt
      have hget : s.data.toList[k] = s[k] := by simp [ByteArray.getElem_eq_getElem_data]
      have hdr : s.data.toList.drop k = s[k] :: s.data.toList.drop (k + 1) := by rw [List.drop_eq_getElem_cons hkl, hget]
      have hcn := cur_next hf hkl
      rw [hget] at hcn
      have hmq : m - q = (m - (q + 1)) + 1 := by omega
      have hC := HC.out
      rw [hdr, HQ.out, hmq, cutGo, ← HCU.out] at hC
      rw [← HCU.out] at hcn
      have HCN := Lib.hid hcn
      clear hdr hcn hmq hget
      by_cases hb : s[k] = b
      · have hbn : s[k].toNat = b.toNat := by rw [hb]
        rw [if_pos hb] at hC
        have HC2 := Lib.hid hC
        clear hb hC hexe hfs
        have P11 := Lib.hid (RR.out.alloc (.cells #[.string ⟨cur.toArray⟩] 9))
        have hRA := rowsAt_str wr cur 9
        have RA := Lib.hid hRA
        clear hRA
        go_wp2_with (at_builtin; refine wpList_append_row rfl _ _ rfl (q + 1) eltStr rfl rfl P11.out RA.out HQ.out rfl rfl (by simp only [maxLen]; omega) (by omega) (by have := KR.out.size; simp <;> omega) ?_)
        intro a5 c5 w5 q5
        have R5 := Lib.hid q5.row
        have K5 := Lib.hid ((KR.out.alloc KR.out.size (.cells #[.string ⟨cur.toArray⟩] 9)).grown q5.grown (by have := KR.out.size; simp <;> omega) (fun g hg => (RR.out.blk hg).1))
        clear q5 RA P11
        go_wp2_with fail
        go_roundw
        case rel =>
          refine ⟨ps ++ [cur], a5, c5, k + 1, k + 1, by omega, Nat.le_refl _, ?_, ?_, ?_, ?_, R5.out, ?_, K5.out⟩
          · go_num
          · go_num
          · rw [List.length_append, HQ.out]; rfl
          · rw [List.length_append, HQ.out]; exact hqm
          · rw [HC2.out, List.length_append, HQ.out]
            have e : (s.data.toList.take (k + 1)).drop (k + 1) = [] := List.drop_eq_nil_of_le (by rw [List.length_take]; omega)
            rw [e]
            simp
        case measure => simp [intOf]; omega
      · have hbn : ¬ s[k].toNat = b.toNat := fun h => hb (UInt8.toNat_inj.1 h)
        have hbb : (((s[k].toNat : Nat) : Int) == ((b.toNat : Nat) : Int)) = false := by simp; omega
        rw [if_neg hb] at hC
        have HC2 := Lib.hid hC
        clear hb hC hexe hfs
        go_wp2_with fail
        go_roundw
        case rel =>
          refine ⟨ps, ao, co, k + 1, f, by omega, by omega, ?_, rfl, ?_, ?_, RR.out, ?_, KR.out⟩
          · go_num
          · rw [HQ.out]
          · rw [HQ.out]; exact hpm
          · rw [HC2.out, HQ.out, HCN.out]
            have hmq : m - q = (m - (q + 1)) + 1 := by omega
            rw [hmq]
        case measure => simp [intOf]; omega
    · have HFIN := Lib.hid (show cutL b m s.data.toList = ps ++ [tl] from by
        rw [HC.out, HTL.out, HQ.out]
        congr 1
        by_cases hkk : k = s.size
        · subst hkk
          rw [List.drop_eq_nil_of_le (by rw [HSL.out]; exact Nat.le_refl _), List.take_of_length_le (by rw [HSL.out]; exact Nat.le_refl _)]
          cases hmm : m - q <;> rfl
        · have hq0 : m - q = 0 := by omega
          rw [hq0, cutGo_zero]
          congr 1
          conv => rhs; rw [← List.take_append_drop k s.data.toList]
          rw [List.drop_append_of_le_length (by rw [List.length_take, HSL.out]; omega)])
      have P11 := Lib.hid (RR.out.alloc (.cells #[.string ⟨tl.toArray⟩] 9))
      have hRA := rowsAt_str wr tl 9
      have RA := Lib.hid hRA
      clear hRA hex
      have hfin : ∀ (K : Prop), K → K := fun _ h => h
      by_cases hlt : k < s.size
      · have hqm : ¬ q < m := fun h => hgo ⟨hlt, h⟩
        clear hgo
        go_wp2_with (at_builtin; refine wpList_append_row rfl _ _ rfl (q + 1) eltStr rfl rfl P11.out RA.out HQ.out rfl rfl (by simp only [maxLen]; omega) (by omega) (by have := KR.out.size; simp <;> omega) ?_)
        intro a5 c5 w5 q5
        have R5 := Lib.hid q5.row
        have K5 := Lib.hid ((KR.out.alloc KR.out.size (.cells #[.string ⟨tl.toArray⟩] 9)).grown q5.grown (by have := KR.out.size; simp <;> omega) (fun g hg => (RR.out.blk hg).1))
        clear q5 RA P11
        go_wp2_with fail
        go_ret
        rw [HFIN.out]
        exact ⟨a5, c5, by rw [List.length_append, HQ.out]; rfl, R5.out.low (by have := SW.out; omega), below_next KW.out K5.out⟩
      · clear hgo
        go_wp2_with (at_builtin; refine wpList_append_row rfl _ _ rfl (q + 1) eltStr rfl rfl P11.out RA.out HQ.out rfl rfl (by simp only [maxLen]; omega) (by omega) (by have := KR.out.size; simp <;> omega) ?_)
        intro a5 c5 w5 q5
        have R5 := Lib.hid q5.row
        have K5 := Lib.hid ((KR.out.alloc KR.out.size (.cells #[.string ⟨tl.toArray⟩] 9)).grown q5.grown (by have := KR.out.size; simp <;> omega) (fun g hg => (RR.out.blk hg).1))
        clear q5 RA P11
        go_wp2_with fail
        go_ret
        rw [HFIN.out]
        exact ⟨a5, c5, by rw [List.length_append, HQ.out]; rfl, R5.out.low (by have := SW.out; omega), below_next KW.out K5.out⟩
end Go.Proofs.YtilldpoleiippaaDoor

/-! The reference's way of reading a number (l1Num); no condition but a small text. -/
namespace Go.Proofs.YtilldpoleiippaaDoor
open Go.RowKit Go.Joins

theorem numGo_step {l : List UInt8} {k : Nat} {acc : Int} {c : UInt8} (h : l[k]? = some c) : numGo (l.drop k) k acc = if c.toNat < 48 ∨ 57 < c.toNat ∨ 2 ≤ k then none else numGo (l.drop (k + 1)) (k + 1) (acc * 10 + ((c.toNat : Int) - 48)) := by
  obtain ⟨hk, hc⟩ := List.getElem?_eq_some_iff.1 h
  rw [List.drop_eq_getElem_cons hk, numGo, hc]
theorem u8_in {x : Int} (h0 : 0 ≤ x) (h1 : x ≤ 255) : IntKind.u8.wrap x = x := by
  unfold IntKind.wrap
  simp [IntKind.signed, IntKind.bits, IntKind.max, IntKind.min]
  omega
theorem numPos_none {l : List UInt8} (h : numGo l 0 0 = none) : numPos l = -999 := by unfold numPos; rw [h]
theorem numPos_some {l : List UInt8} {n : Int} (h : numGo l 0 0 = some n) : numPos l = if l.length = 0 ∨ (1 < l.length ∧ l.head? = some 48) then -999 else n := by unfold numPos; rw [h]

set_option maxRecDepth 100000 in
set_option maxHeartbeats 8000000 in
/-- A text that is no number below nought. -/
theorem l1Num_pos (s : ByteArray) (w : World) (hs : s.size ≤ 1099511627776) (three : (¬ 1 < s.size) ∨ (∃ h : 1 < s.size, ¬ (s[0]'(by omega)).toNat = 45) ∨ (∃ h : 1 < s.size, (s[0]'(by omega)).toNat = 45 ∧ (s[1]'h).toNat = 48)) :
    Calls Tryd.prog 70 #[.string s] w fun e w' => e = .returned (.int .i64 (numPos s.data.toList)) ∧ w = w' := by
  have hsl : s.data.toList.length = s.size := by simp
  have HSL := Lib.hid hsl
  have hget : ∀ k (h : k < s.size), s.data.toList[k]? = some s[k] := fun k h => by rw [List.getElem?_eq_getElem (by rw [hsl]; exact h)]; simp [ByteArray.getElem_eq_getElem_data]
  have HGET := Lib.hid hget
  clear hsl hget
  obtain ⟨l, hl⟩ : ∃ l, l = s.data.toList := ⟨_, rfl⟩
  have HL := Lib.hid hl
  rw [← hl] at HSL HGET ⊢
  clear hl
  have HN := Lib.hid (numPos_none (l := l))
  have HP := Lib.hid (fun n => numPos_some (l := l) (n := n))
  obtain ⟨res, hres⟩ : ∃ res, res = numPos l := ⟨_, rfl⟩
  rw [← hres] at HN HP ⊢
  clear hres
  have h2 : ∀ k, s.size = k → ((1 : Int) < (s.size : Int) ↔ 1 < k) := fun k hk => by omega
  rcases three with h1 | ⟨h1, h45⟩ | ⟨h1, h45, h48⟩
  all_goals
    go_enter Tryd.func70, Tryd.ntmps70
    go_wp2_with fail
    go_loop [4, 5] (fun n i => ∃ (k : Nat) (acc : Int), k ≤ s.size ∧ k ≤ 2 ∧ i = .int .i64 k ∧ n = .int .i64 acc ∧ 0 ≤ acc ∧ (k ≤ 0 → acc ≤ 0) ∧ (k ≤ 1 → acc ≤ 9) ∧ acc ≤ 99 ∧ numGo l 0 0 = numGo (l.drop k) k acc) (fun _ i => s.size - (intOf i).toNat)
    case atStart => exact ⟨0, 0, Nat.zero_le _, Nat.zero_le _, rfl, rfl, Int.le_refl _, fun _ => Int.le_refl _, fun _ => by decide, by decide, rfl⟩
    case round =>
      obtain ⟨k, acc, hk, hk2, rfl, rfl, ha0, ha1, ha2, ha3, hgo⟩ := hrel
      by_cases hlt : k < s.size
      · have hkl : k < l.length := by rw [HSL.out]; exact hlt
        have hst := numGo_step (acc := acc) (HGET.out k hlt)
        rw [← hgo] at hst
        have hkk0 : (0 : Int) ≤ (k : Int) := by omega
        have hki : (k : Int) < (s.size : Int) := by omega
        have hb := s[k].toNat_lt
        obtain ⟨c, hc⟩ : ∃ c, c = s[k].toNat := ⟨_, rfl⟩
        rw [← hc] at hst hb
        have hce : s[k].toNat = c := hc.symm
        clear hc
        by_cases hbad : c < 48 ∨ 57 < c ∨ 2 ≤ k
        · rw [if_pos hbad] at hst
          have HR := Lib.hid (HN.out hst)
          clear hst hgo
          by_cases c1 : c < 48
          · go_wp2_with fail
            all_goals go_ret
            all_goals exact ⟨ret_int (by rw [HR.out]), rfl⟩
          · by_cases c2 : 57 < c
            · go_wp2_with fail
              all_goals go_ret
              all_goals exact ⟨ret_int (by rw [HR.out]), rfl⟩
            · have hk3 : (2 : Int) ≤ (k : Int) := by omega
              go_wp2_with fail
              all_goals go_ret
              all_goals exact ⟨ret_int (by rw [HR.out]), rfl⟩
        · rw [if_neg hbad] at hst
          have hk3 : ¬ (2 : Int) ≤ (k : Int) := by omega
          have c1 : ¬ c < 48 := by omega
          have c2 : ¬ 57 < c := by omega
          have hm9 : acc ≤ 9 := ha2 (by omega)
          have hw1 : IntKind.u8.wrap ((c : Int) - 48) = (c : Int) - 48 := u8_in (by omega) (by omega)
          have hw2 : IntKind.i64.wrap (acc * 10) = acc * 10 := IntWalk.i64_in _ ⟨by omega, by omega⟩
          have hw3 : IntKind.i64.wrap (acc * 10 + ((c : Int) - 48)) = acc * 10 + ((c : Int) - 48) := IntWalk.i64_in _ ⟨by omega, by omega⟩
          have hw4 : IntKind.i64.wrap ((c : Int) - 48) = (c : Int) - 48 := IntWalk.i64_in _ ⟨by omega, by omega⟩
          have HST := Lib.hid hst
          clear hst hgo hbad
          go_wp2_with fail
          go_round
          case rel =>
            refine ⟨k + 1, acc * 10 + ((c : Int) - 48), by omega, by omega, ?_, ?_, by omega, fun h => by omega, fun h => ?_, by omega, HST.out⟩
            · go_num
            · first | rfl | go_num
            · have := ha1 (by omega)
              omega
          case measure => simp [intOf]; omega
      · have hkk : k = s.size := by omega
        have hd : numGo (l.drop k) k acc = some acc := by rw [List.drop_eq_nil_of_le (by rw [HSL.out]; omega)]; rfl
        have hR := HP.out acc (hgo.trans hd)
        clear hgo hd
        have hk3 : s.size = 0 ∨ s.size = 1 ∨ s.size = 2 := by omega
        rcases hk3 with h0 | h0 | h0
        · have HR := Lib.hid (show res = -999 by rw [hR, if_pos (.inl (HSL.out.trans h0))])
          clear hR
          have h00 : (s.size : Int) = 0 := by omega
          go_wp2_with fail
          all_goals go_ret
          all_goals exact ⟨ret_int (by rw [HR.out]), rfl⟩
        · have HR := Lib.hid (show res = acc by rw [hR, if_neg (by rw [HSL.out]; omega)])
          clear hR
          have h00 : ¬ (s.size : Int) = 0 := by omega
          have h01 : ¬ (1 : Int) < (s.size : Int) := by omega
          go_wp2_with fail
          all_goals go_ret
          all_goals exact ⟨ret_int (by rw [HR.out]), rfl⟩
        · have h0s : 0 < s.size := by omega
          have h00 : ¬ (s.size : Int) = 0 := by omega
          have h01 : (1 : Int) < (s.size : Int) := by omega
          have hh : l.head? = some s[0] := by rw [List.head?_eq_getElem?]; exact HGET.out 0 h0s
          by_cases hc0 : s[0].toNat = 48
          · have HR := Lib.hid (show res = -999 by first | (exfalso; omega) | rw [hR, if_pos (.inr ⟨by rw [HSL.out]; omega, by rw [hh, show s[0] = (48 : UInt8) from UInt8.toNat_inj.1 hc0]⟩)])
            clear hR hh
            go_wp2_with fail
            all_goals go_ret
            all_goals first | (exfalso; omega) | exact ⟨ret_int (by rw [HR.out]), rfl⟩
          · have HR := Lib.hid (show res = acc by
              rw [hR, if_neg]
              rintro (q | ⟨-, q⟩)
              · rw [HSL.out] at q; omega
              · rw [hh] at q
                injection q with q
                exact hc0 (by rw [q]; rfl))
            clear hR hh
            go_wp2_with fail
            all_goals go_ret
            all_goals exact ⟨ret_int (by rw [HR.out]), rfl⟩

theorem numGo_bound : ∀ (l : List UInt8) (i : Nat) (acc n : Int), numGo l i acc = some n → 0 ≤ acc → (i ≤ 0 → acc ≤ 0) → (i ≤ 1 → acc ≤ 9) → acc ≤ 99 → 0 ≤ n ∧ n ≤ 99
  | [], i, acc, n, h, h0, _, _, h3 => by simp only [numGo, Option.some.injEq] at h; omega
  | c :: r, i, acc, n, h, h0, h1, h2, h3 => by
    rw [numGo] at h
    split at h
    · cases h
    · rename_i hc
      have hb := c.toNat_lt
      exact numGo_bound r (i + 1) _ n h (by omega) (fun q => by omega) (fun q => by have := h1 (by omega); omega) (by have := h2 (by omega); omega)
theorem numPos_bound (l : List UInt8) : -999 ≤ numPos l ∧ numPos l ≤ 99 := by
  unfold numPos
  cases h : numGo l 0 0 with
  | none => simp
  | some n =>
    have := numGo_bound l 0 0 n h (Int.le_refl _) (fun _ => Int.le_refl _) (fun _ => by decide) (by decide)
    simp only
    split <;> omega
theorem numL_bound : ∀ l : List UInt8, -999 ≤ numL l ∧ numL l ≤ 999
  | [] => by rw [numL]; have := numPos_bound []; omega
  | [c] => by rw [numL]; have := numPos_bound [c]; omega
  | c :: d :: r => by
    have ih := numL_bound (d :: r)
    have hp := numPos_bound (c :: d :: r)
    rw [numL]
    split
    · split <;> omega
    · omega

set_option maxRecDepth 100000 in
set_option maxHeartbeats 4000000 in
theorem l1Num_n : ∀ (N : Nat) (s : ByteArray) (w : World), s.size ≤ N → s.size ≤ 1099511627776 →
    Calls Tryd.prog 70 #[.string s] w fun e w' => e = .returned (.int .i64 (numL s.data.toList)) ∧ w = w'
  | 0, s, w, h0, hs => by
    have hl : s.data.toList = [] := List.eq_nil_of_length_eq_zero (by rw [show s.data.toList.length = s.size by simp]; omega)
    have := l1Num_pos s w hs (.inl (by omega))
    rw [hl] at this ⊢
    exact this
  | N + 1, s, w, hN, hs => by
    have HSL := Lib.hid (show s.data.toList.length = s.size by simp)
    have hget : ∀ k (h : k < s.size), s.data.toList[k]? = some s[k] := fun k h => by rw [List.getElem?_eq_getElem (by rw [HSL.out]; exact h)]; simp [ByteArray.getElem_eq_getElem_data]
    by_cases h1 : 1 < s.size
    · have g0 := hget 0 (by omega)
      have g1 := hget 1 h1
      have hex := extract_cut s 1 s.size
      rw [List.take_of_length_le (by rw [HSL.out]; exact Nat.le_refl _)] at hex
      have hpos := l1Num_pos s w hs
      cases hl : s.data.toList with
      | nil => have hsl := HSL.out; rw [hl] at hsl; simp at hsl; omega
      | cons c r0 =>
        cases r0 with
        | nil => have hsl := HSL.out; rw [hl] at hsl; simp at hsl; omega
        | cons d r =>
          rw [hl] at g0 g1 hex hpos
          simp only [List.getElem?_cons_zero, List.getElem?_cons_succ, Option.some.injEq] at g0 g1
          simp only [List.drop_succ_cons, List.drop_zero] at hex
          rw [numL, g0, g1]
          by_cases h45 : s[0] = 45
          · have h45n : s[0].toNat = 45 := by rw [h45]; rfl
            by_cases h48 : s[1] = 48
            · have h48n : s[1].toNat = 48 := by rw [h48]; rfl
              rw [if_neg (fun q => q.2 h48), ← g0, ← g1]
              exact hpos (.inr (.inr ⟨h1, h45n, h48n⟩))
            · have h48n : ¬ s[1].toNat = 48 := fun q => h48 (UInt8.toNat_inj.1 q)
              rw [if_pos ⟨h45, h48⟩, ← g1]
              have hts : (⟨(d :: r).toArray⟩ : ByteArray).size = s.size - 1 := by
                have := congrArg List.length hl
                rw [HSL.out, List.length_cons, List.length_cons] at this
                show (d :: r).toArray.size = _
                simp only [List.size_toArray, List.length_cons]
                omega
              have IH := Lib.hid (l1Num_n N ⟨(d :: r).toArray⟩ w (by rw [hts]; omega) (by rw [hts]; omega))
              have hb := numL_bound (d :: r)
              simp only [List.toList_toArray] at IH
              clear hpos g0 g1 hget HSL hl hts h45 h48
              generalize numL (d :: r) = z at *
              have hi : (1 : Int) < (s.size : Int) := by omega
              by_cases hz : z < 0
              · rw [if_pos hz]
                go_enter Tryd.func70, Tryd.ntmps70
                go_wp2_with fail
                refine IH.out.mono ?_
                rintro e w1 ⟨rfl, rfl⟩
                go_wp2_with fail
                go_ret
                exact ⟨rfl, rfl⟩
              · rw [if_neg hz]
                have hw : IntKind.i64.wrap (-z) = -z := IntWalk.i64_in _ ⟨by omega, by omega⟩
                go_enter Tryd.func70, Tryd.ntmps70
                go_wp2_with fail
                refine IH.out.mono ?_
                rintro e w1 ⟨rfl, rfl⟩
                go_wp2_with fail
                go_ret
                exact ⟨rfl, rfl⟩
          · have h45n : ¬ s[0].toNat = 45 := fun q => h45 (UInt8.toNat_inj.1 q)
            rw [if_neg (fun q => h45 q.1), ← g0, ← g1]
            exact hpos (.inr (.inl ⟨h1, h45n⟩))
    · have hp := l1Num_pos s w hs (.inl h1)
      cases hl : s.data.toList with
      | nil => rw [hl] at hp; exact hp
      | cons c r0 =>
        cases r0 with
        | nil => rw [hl] at hp; exact hp
        | cons d r => have hsl := HSL.out; rw [hl] at hsl; simp at hsl; omega
theorem l1Num_c (s : ByteArray) (w : World) (hs : s.size ≤ 1099511627776) :
    Calls Tryd.prog 70 #[.string s] w fun e w' => e = .returned (.int .i64 (numL s.data.toList)) ∧ w = w' := l1Num_n s.size s w (Nat.le_refl _) hs
end Go.Proofs.YtilldpoleiippaaDoor

/-! What the reading walks ask of package variables; the contracts of strconv.Itoa, atoi and strings.Split over them; condition: the package variables as listed. -/
namespace Go.Proofs.YtilldpoleiippaaDoor
open Go.RowKit Go.Joins

/-- What atoi and Split ask. -/
structure EnvA (w : World) : Prop where
  pow : Lib.TabIs Tryd.prog w "internal/strconv.uint64pow10" .u64 Lib.pow10Tab
  syn : ∃ tp p, w.cell? ⟨2, 0, none⟩ = some (.iface tp p)
  ran : ∃ tp p, w.cell? ⟨3, 0, none⟩ = some (.iface tp p)
  len : ∃ m, w.cell? ⟨1, 0, none⟩ = some (.int .i64 m)
theorem EnvA.below {w w' : World} (h : EnvA w) (k : Below w.heap.size w w') : EnvA w' := by
  obtain ⟨h1, ⟨ts, ps, h2⟩, ⟨tr, pr, h3⟩, ⟨m, h4⟩⟩ := h
  exact ⟨tab_stays gPow h1 k (Nat.le_refl _), ⟨ts, ps, cell_stays k h2⟩, ⟨tr, pr, cell_stays k h3⟩, ⟨m, cell_stays k h4⟩⟩

theorem Itoa_p (n : Int) (w : World) (h0 : -4611686018427387904 ≤ n) (h1 : n ≤ 4611686018427387904) (T : Lib.TabIs Tryd.prog w "internal/strconv.uint64pow10" .u64 Lib.pow10Tab) :
    Calls Tryd.prog 56 #[.int .i64 n] w fun e w' => e = .returned (.string ⟨(Lib.itoa n).toArray⟩) ∧ Below w.heap.size w w' := by
  refine (Tryd.strconv_Itoa n (by omega) (by omega) w T).mono ?_
  rintro e w' ⟨he, k, os, rfl⟩
  exact ⟨he, below_grow w k os⟩
theorem bytes_len (p : List UInt8) : (⟨p.toArray⟩ : ByteArray).size = p.length := by simp [ByteArray.size]

set_option maxRecDepth 100000 in
set_option maxHeartbeats 2000000 in
theorem atoi_c (p : List UInt8) (w : World) (hs : p.length ≤ 1099511627776) (E : EnvA w) :
    Calls Tryd.prog 47 #[.string ⟨p.toArray⟩] w fun e w' => e = .returned (.int .i64 (Lib.atoiOr p (-1099511627776))) ∧ Below w.heap.size w w' := by
  cases h : Lib.atoiAll p
  · rename_i v
    have HV : Hid (Lib.atoiOr p (-1099511627776) = v) := by show _ = _; unfold Lib.atoiOr; rw [h]
    have HA := Lib.hid (fun V => Tryd.strconv_Atoi_ok ⟨p.toArray⟩ (by rw [bytes_len]; omega) v (by simpa using h) V)
    clear h
    go_enter Tryd.func47, Tryd.ntmps47
    go_wp2_with fail
    refine (HA.out _).mono ?_
    rintro e w1 ⟨rfl, hW⟩
    have kW : Below w.heap.size w w1 := by
      rcases hW with rfl | ⟨t, rfl⟩
      · exact Below.refl _ _
      · exact below_bytesWorld _ _ _ _ (Nat.le_refl _)
    clear hW
    go_wp2_with fail
    go_ret
    exact ⟨ret_int HV.out.symm, kW⟩
  · have HV : Hid (Lib.atoiOr p (-1099511627776) = -1099511627776) := by show _ = _; unfold Lib.atoiOr; rw [h]
    obtain ⟨tp, pp, hc⟩ := E.syn
    have HA := Lib.hid (Any.strconv_Atoi_syntax Tryd.laysC172 ⟨p.toArray⟩ (by rw [bytes_len]; omega) (by simpa using h) (.iface tp pp) w hc (.inr ⟨_, _, rfl⟩))
    clear h hc
    go_enter Tryd.func47, Tryd.ntmps47
    go_wp2_with fail
    refine (HA.out).mono ?_
    rintro e w1 ⟨N, rfl, -, -, kW⟩
    go_wp2_with fail
    go_ret
    exact ⟨ret_int HV.out.symm, kW⟩
  · have HV : Hid (Lib.atoiOr p (-1099511627776) = -1099511627776) := by show _ = _; unfold Lib.atoiOr; rw [h]
    obtain ⟨tp, pp, hc⟩ := E.ran
    have HA := Lib.hid (Tryd.strconv_Atoi_range ⟨p.toArray⟩ (by rw [bytes_len]; omega) (by simpa using h) (.iface tp pp) w hc (.inr ⟨_, _, rfl⟩))
    clear h hc
    go_enter Tryd.func47, Tryd.ntmps47
    go_wp2_with fail
    refine (HA.out).mono ?_
    rintro e w1 ⟨N, rfl, -, -, kW⟩
    go_wp2_with fail
    go_ret
    exact ⟨ret_int HV.out.symm, kW⟩

/-- All pieces of a text between a byte. -/
def splitL (b : UInt8) (s : List UInt8) : List (List UInt8) := Lib.splitK [b] 0 (Lib.count s [b]) s
theorem flat_str (ps : List (List UInt8)) : flat strR ps = (ps.map (fun p => Value.string ⟨p.toArray⟩)).toArray := by
  unfold flat
  congr 1
  induction ps with
  | nil => rfl
  | cons p ps ih => rw [List.flatMap_cons, ih]; rfl
theorem split_c (b : UInt8) (s : ByteArray) (w : World) (hs : s.size ≤ 4000000000) (E : EnvA w) :
    Calls Tryd.prog 74 #[.string s, .string ⟨#[b]⟩] w (StrsOwn (splitL b s.data.toList) w) := by
  obtain ⟨m, hm⟩ := E.len
  refine (Any.strings_Split { Tryd.laysM146 with } Tryd.laysM146.i9 s ⟨#[b]⟩ m w (by omega) hm (Nat.le_refl 1)).mono ?_
  rintro e w' ⟨rfl, rfl⟩
  have hd := Lib.splitB_data ⟨#[b]⟩ 0 (Lib.countB s ⟨#[b]⟩) s
  have hl := Lib.splitB_all ⟨#[b]⟩ (Nat.le_refl 1) 0 _ s rfl
  have hle := Lib.countB_le ⟨#[b]⟩ (Nat.le_refl 1) s.size s (Nat.le_refl _)
  have hd2 : (Lib.splitB ⟨#[b]⟩ 0 (Lib.countB s ⟨#[b]⟩) s).map (·.data.toList) = splitL b s.data.toList := hd
  generalize Lib.splitB ⟨#[b]⟩ 0 (Lib.countB s ⟨#[b]⟩) s = bs at *
  generalize Lib.countB s ⟨#[b]⟩ = n at *
  rw [← hd2]
  have hf : (bs.map Value.string).toArray = flat strR (bs.map (·.data.toList)) := by
    rw [flat_str, List.map_map]
    rfl
  have hlen : (bs.map (·.data.toList)).length = n + 1 := by rw [List.length_map, hl]
  refine ⟨some ⟨w.heap.size, 0, none⟩, n + 1, by rw [hlen], ?_, (Below.refl _ _).alloc (Nat.le_refl _) _⟩
  rw [hf]
  exact ⟨by rw [hlen]; exact Nat.le_refl _, by simp only [maxLen]; omega, fun _ => ⟨_, _, rfl, Nat.le_refl _, heap_alloc_new _ _, by rw [flat_size str_len, hlen]; exact Nat.le_refl _, fun _ _ => rfl⟩⟩
end Go.Proofs.YtilldpoleiippaaDoor

/-! The reference reads an ask (spec.ReqGet); condition: a small text. -/
namespace Go.Proofs.YtilldpoleiippaaDoor
open Go.RowKit Go.Joins

theorem isGet_ex (s : List UInt8) : ∃ r b, IsGet s r b := by
  by_cases h : ∃ q, good q = true ∧ reqPutL q = s
  · obtain ⟨q, h1, h2⟩ := h
    exact ⟨q, true, .inl ⟨rfl, h1, h2⟩⟩
  · exact ⟨Rq.zero, false, .inr ⟨rfl, rfl, fun q hq e => h ⟨q, hq, e⟩⟩⟩
theorem cutGo_le (b : UInt8) : ∀ (s cur : List UInt8) (m : Nat), ∀ p ∈ cutGo b s cur m, p.length ≤ cur.length + s.length
  | [], cur, m, p, hp => by
    simp only [cutGo, List.mem_singleton] at hp
    subst hp
    simp
  | x :: rest, cur, 0, p, hp => by
    rw [cutGo_zero, List.mem_singleton] at hp
    subst hp
    simp
  | x :: rest, cur, m + 1, p, hp => by
    rw [cutGo] at hp
    split at hp
    · rcases List.mem_cons.1 hp with rfl | h
      · omega
      · have := cutGo_le b rest [] m p h
        simp only [List.length_nil, List.length_cons] at this ⊢
        omega
    · have := cutGo_le b rest (cur ++ [x]) (m + 1) p hp
      simp only [List.length_append, List.length_cons, List.length_nil] at this ⊢
      omega
theorem cutL_le {b : UInt8} {m : Nat} {s p : List UInt8} (h : p ∈ cutL b m s) : p.length ≤ s.length := by
  have := cutGo_le b s [] m p h
  simpa using this
/-- The pieces' cells in a block of their own. -/
theorem strs_own {w : World} {B cap : Nat} {a : Option Addr} {zs : List (List UInt8)} (h : Row w B 9 a cap 1 strR zs) (h0 : 0 < zs.length) :
    ∃ g, a = some ⟨g, 0, none⟩ ∧ B ≤ g ∧ g < w.heap.size ∧ ∀ k (hk : k < zs.length), w.cell? ⟨g, k, none⟩ = some (.string ⟨zs[k].toArray⟩) := by
  have hr := h.rows str_len
  obtain ⟨g, cur, rfl, h2, h3, -⟩ := h.own (Nat.lt_of_lt_of_le h0 h.len)
  refine ⟨g, rfl, h2, lt_of_block h3, fun k hk => ?_⟩
  obtain ⟨b, off, e, hb, hc⟩ := hr k hk
  simp only [Option.some.injEq, Addr.mk.injEq, and_true] at e
  obtain ⟨rfl, rfl⟩ := e
  have h := hc 0 (by decide)
  rwa [Nat.mul_one, Nat.add_zero, Nat.zero_add] at h
theorem l1Num_p (p : List UInt8) (w : World) (hs : p.length ≤ 1099511627776) :
    Calls Tryd.prog 70 #[.string ⟨p.toArray⟩] w fun e w' => e = .returned (.int .i64 (numL p)) ∧ w = w' := by
  have := l1Num_c ⟨p.toArray⟩ w (by simpa [ByteArray.size] using hs)
  simpa using this
theorem l1Cut_5 (s : ByteArray) (w : World) (hs : s.size ≤ 1099511627776) :
    Calls Tryd.prog 44 #[.string s, .int .u8 32, .int .i64 5] w (StrsOwn (cutL 32 5 s.data.toList) w) := l1Cut_c s 32 5 w hs (by decide)
theorem stepAlloc {P : Program} {ops : Array Oper} {o : Oper} {ac : Act} {w : World} {K : Act → World → Prop} {Q : Exit → Act → World → Prop} {E : Prop} (hgd : o.guard = none) {t : TypeId} (ho : o.op = .alloc t) {z : Value} {cs : Array Value} (hiz : (P.info? t).map (·.zero) = some (some z)) (hcs : z.cells = cs)
    (h : K (ac.put o.dst (.pointer (some ⟨w.heap.size, 0, none⟩))) (w.alloc (.cells cs t))) :
    if Region.wanted o (yielded ops ac.tmps) = true then Oper.wp P o ac w K Q else E := by
  have hw : Region.wanted o (yielded ops ac.tmps) = true := by simp [Region.wanted, hgd]
  rw [if_pos hw]
  obtain ⟨i, hi, hz⟩ : ∃ i, P.info? t = some i ∧ i.zero = some z := by
    cases hi : P.info? t with
    | none => rw [hi] at hiz; cases hiz
    | some i => rw [hi] at hiz; exact ⟨i, rfl, by simpa using hiz⟩
  unfold Oper.wp
  subst hcs
  simp [execOp, ho, Result.andThen, Instr.alloc, zeroValue, typeInfo, hi, hz]
  exact h
theorem introFin {X : Type} {P : Program} {md : Region.Mode} {ops : Array Oper} {Q : Exit → Act → World → Prop} {S : World → Prop} {fuel0 : Nat} {listed0 : Array Bool} {T0 : Array Value} {w0 : World} (fuel : Nat) (listed : Array Bool) (F : X → Array Value → Array Value) (C : X → World → Prop)
    (hfin : ∀ x w', C x w' → wpAnyH P md ops Q S fuel listed ⟨F x T0, []⟩ w')
    (h : (∀ x w' l a, l = listed → a = ⟨F x T0, []⟩ → C x w' → wpAnyH P md ops Q S fuel l a w') → wpAnyH P md ops Q S fuel0 listed0 ⟨T0, []⟩ w0) : wpAnyH P md ops Q S fuel0 listed0 ⟨T0, []⟩ w0 :=
  h fun x w' _ _ e1 e2 c => e1 ▸ e2 ▸ hfin x w' c
theorem block_set5 {w : World} {g : Nat} {a0 a1 a2 a3 a4 : Value} {t : TypeId} {fr : Nat × Nat} (h : w.heap[g]? = some (.cells #[a0, a1, a2, a3, a4] t fr)) (v0 v1 v2 v3 v4 : Value) :
    (((((w.setCell ⟨g, 0, none⟩ v0).setCell ⟨g, 1, none⟩ v1).setCell ⟨g, 2, none⟩ v2).setCell ⟨g, 3, none⟩ v3).setCell ⟨g, 4, none⟩ v4).heap[g]? = some (.cells #[v0, v1, v2, v3, v4] t fr) :=
  block_setCell (i := 4) (block_setCell (i := 3) (block_setCell (i := 2) (block_setCell (i := 1) (block_setCell (i := 0) h v0) v1) v2) v3) v4
theorem opAux_step (p : List UInt8) {K : Nat} (h : 1 ≤ K) : opAux p K = if words.getD K [] = p then (K : Int) else opAux p (K - 1) := by
  obtain ⟨k, rfl⟩ : ∃ k, K = k + 1 := ⟨K - 1, by omega⟩
  rfl
theorem wordsCell {w : World} {b : Nat} (h : w.heap[b]? = some wordsBlock) (k : Nat) (hk : k < 6) : w.cell? ⟨b, k, none⟩ = some (.string ⟨(words.getD k []).toArray⟩) := by
  rw [cell_of_block h]
  match k, hk with
  | 0, _ => rfl
  | 1, _ => rfl
  | 2, _ => rfl
  | 3, _ => rfl
  | 4, _ => rfl
  | 5, _ => rfl

set_option maxRecDepth 100000 in
set_option maxHeartbeats 4000000 in
theorem sReqGet_c (s : ByteArray) (r : Rq) (b : Bool) (w : World) (hs : s.size ≤ 1099511627776) (hg : IsGet s.data.toList r b) :
    Calls Tryd.prog 26 #[.string s] w fun e w' => e = .returned (.tuple #[.agg #[.int .i64 r.c, .int .i64 r.n, .int .i64 r.o, .int .i64 r.x, .int .i64 r.y], .bool b]) ∧ Below w.heap.size w w' := by
  have HSL := Lib.hid (show s.data.toList.length = s.size by simp)
  by_cases hn : s.data.toList = noneT
  · have hb : (s.toList == [110, 111, 110, 101]) = true := by rw [ByteArray.toList_eq, hn]; rfl
    rw [hn] at hg
    obtain ⟨rfl, rfl⟩ := hg.uniq isGet_none
    clear hg hn
    go_enter Tryd.func26, Tryd.ntmps26
    go_wp2_with fail
    refine bodyPost_ret (v := .tuple #[.agg #[.int .i64 0, .int .i64 0, .int .i64 0, .int .i64 0, .int .i64 0], .bool true]) (by simp [results, Tryd.results26, go_sem]) rfl ?_
    exact ⟨rfl, (by repeat' (first | with_reducible exact Below.refl _ _ | with_reducible assumption | with_reducible refine Below.alloc ?_ ?_ _ | with_reducible refine Below.drew ?_ | with_reducible refine Below.setCell ?_ ?_ _ | omega | (simp; omega) | (simp; done)))⟩
  · have hb : (s.toList == [110, 111, 110, 101]) = false := by rw [ByteArray.toList_eq]; exact beq_false_of_ne hn
    have HN := Lib.hid hn
    have HG := Lib.hid hg
    clear hn hg
    go_enter Tryd.func26, Tryd.ntmps26
    go_wp2_with fail
    obtain ⟨W, hW, sW, aW, kW⟩ := blocks1 w (.cells #[.int .i64 0, .int .i64 0, .int .i64 0, .int .i64 0, .int .i64 0] 46)
    rw [← hW]
    clear hW
    refine (l1Cut_5 s W hs).mono ?_
    rintro e w1 ⟨a, cap, rfl, hR, k1⟩
    have K1 := below_next kW k1
    have a1 := carryB k1 (by omega) aW
    clear aW k1 kW
    have HLE := Lib.hid (fun p (h : p ∈ cutL 32 5 s.data.toList) => cutL_le h)
    have HNO := Lib.hid (fun h => isGet_spec_no HN.out h)
    have HYES := Lib.hid (fun (h : okB (readR (cutL 32 5 s.data.toList)).c (readR (cutL 32 5 s.data.toList)).n (readR (cutL 32 5 s.data.toList)).o (readR (cutL 32 5 s.data.toList)).x (readR (cutL 32 5 s.data.toList)).y = true) => isGet_yes (s := s.data.toList) h)
    generalize cutL 32 5 s.data.toList = ps at *
    by_cases h5 : ps.length = 5
    · obtain ⟨p0, p1, p2, p3, p4, rfl⟩ : ∃ p0 p1 p2 p3 p4, ps = [p0, p1, p2, p3, p4] := by
        match ps, h5 with
        | [p0, p1, p2, p3, p4], _ => exact ⟨p0, p1, p2, p3, p4, rfl⟩
      clear h5
      obtain ⟨g, rfl, hg1, hg2, hcs⟩ := strs_own hR (by simp)
      have hcp := hR.len
      have d0 := hcs 0 (by simp)
      have d1 := hcs 1 (by simp)
      have d2 := hcs 2 (by simp)
      have d3 := hcs 3 (by simp)
      have d4 := hcs 4 (by simp)
      simp only [List.getElem_cons_zero, List.getElem_cons_succ] at d0 d1 d2 d3 d4
      clear hcs hR
      have l0 := HLE.out p0 (by simp)
      have l1 := HLE.out p1 (by simp)
      have l2 := HLE.out p2 (by simp)
      have l3 := HLE.out p3 (by simp)
      have l4 := HLE.out p4 (by simp)
      rw [HSL.out] at l0 l1 l2 l3 l4
      have N0 := Lib.hid (fun V => l1Num_p p0 V (by omega))
      have N1 := Lib.hid (fun V => l1Num_p p1 V (by omega))
      have N3 := Lib.hid (fun V => l1Num_p p3 V (by omega))
      have N4 := Lib.hid (fun V => l1Num_p p4 V (by omega))
      have B0 := numL_bound p0
      have B1 := numL_bound p1
      have B3 := numL_bound p3
      have B4 := numL_bound p4
      have e5 : [p0, p1, p2, p3, p4].length = 5 := rfl
      rw [e5] at *
      have hRD : readR [p0, p1, p2, p3, p4] = ⟨numL p0, numL p1, opAux p2 5, numL p3, numL p4⟩ := rfl
      rw [hRD] at HNO HYES
      simp only at HNO HYES
      clear hRD HLE l0 l1 l2 l3 l4
      generalize numL p0 = z0 at *
      generalize numL p1 = z1 at *
      generalize numL p3 = z3 at *
      generalize numL p4 = z4 at *
      have hal := lt_of_block a1
      go_wp2_with fail
      refine wp_region_held_drew (S := fun w' => ((∀ b o, b < w1.heap.size → (w').cell? ⟨b, o, none⟩ = (w1).cell? ⟨b, o, none⟩) ∧ Below (w1.heap.size) (w1) (w'))) (by kernel_rfl) (KeptB.drew (KeptB.refl _ _)) (fun hHeld => ?_)
      refine introFin (X := Nat) 0 #[true, true, true, true, true, true, true, true, true, true, true, true, true, true, true, true, true, true, true] (fun x T => ((((((((((((((((((T).setIfInBounds 16 (.slice (some ⟨g, 0, none⟩) 5 cap)).setIfInBounds 17 (.pointer (some ⟨g, 0, none⟩))).setIfInBounds 18 (.string ⟨p0.toArray⟩)).setIfInBounds 19 (.int .i64 z0)).setIfInBounds 20 (.slice (some ⟨g, 0, none⟩) 5 cap)).setIfInBounds 21 (.pointer (some ⟨g, 1, none⟩))).setIfInBounds 22 (.string ⟨p1.toArray⟩)).setIfInBounds 23 (.int .i64 z1)).setIfInBounds 24 (.slice (some ⟨g, 0, none⟩) 5 cap)).setIfInBounds 25 (.pointer (some ⟨g, 3, none⟩))).setIfInBounds 26 (.string ⟨p3.toArray⟩)).setIfInBounds 27 (.int .i64 z3)).setIfInBounds 28 (.slice (some ⟨g, 0, none⟩) 5 cap)).setIfInBounds 29 (.pointer (some ⟨g, 4, none⟩))).setIfInBounds 30 (.string ⟨p4.toArray⟩)).setIfInBounds 31 (.int .i64 z4)).setIfInBounds 32 (.agg #[.int .i64 z0, .int .i64 z1, .int .i64 0, .int .i64 z3, .int .i64 z4])).setIfInBounds 5 (.pointer (some ⟨x, 0, none⟩))) (fun x w' => (((∀ b o, b < w1.heap.size → (w').cell? ⟨b, o, none⟩ = (w1).cell? ⟨b, o, none⟩) ∧ Below (w1.heap.size) (w1) (w'))) ∧ w'.heap[x]? = some (.cells #[.int .i64 z0, .int .i64 z1, .int .i64 0, .int .i64 z3, .int .i64 z4] 46 (0, 0)) ∧ w1.heap.size ≤ x) ?_ (fun hfin => ?_)
      rotate_left
      · obtain ⟨wd, hwd, kwd⟩ : ∃ wd, wd = w1.drew ∧ Below w1.heap.size w1 wd := ⟨_, rfl, Below.drew (Below.refl _ _)⟩
        rw [← hwd] at hHeld ⊢
        clear hwd
        have RK := Lib.hid (KeptB.of kwd)
        clear kwd
        refine wpAnyH_take (i := 0) (oi := _) (v := ?_) (by (simp only [List.getElem?_toArray]; rfl)) (by kernel_rfl) (by kernel_rfl) (by kernel_rfl) (by exact fun _ _ _ h => h) (Or.inl ⟨by rfl, ?_⟩) (by assumption) ?_
        rotate_left
        · intro wS hSw
          go_simp
          all_goals first | with_reducible rfl | rw [if_neg (by omega)]
        simp only [Act.put, List.setIfInBounds_toArray, List.set]
        refine wpAnyH_take (i := 1) (oi := _) (v := ?_) (by (simp only [List.getElem?_toArray]; rfl)) (by kernel_rfl) (by kernel_rfl) (by kernel_rfl) (by exact fun _ _ _ h => h) (Or.inl ⟨by rfl, ?_⟩) (by assumption) ?_
        rotate_left
        · intro wS hSw
          go_simp
          all_goals first | with_reducible rfl | rw [if_neg (by omega)]
        simp only [Act.put, List.setIfInBounds_toArray, List.set]
        refine wpAnyH_take (i := 2) (oi := _) (v := ?_) (by (simp only [List.getElem?_toArray]; rfl)) (by kernel_rfl) (by kernel_rfl) (by kernel_rfl) (by exact fun _ _ _ h => h) (Or.inl ⟨by rfl, ?_⟩) (by assumption) ?_
        rotate_left
        · intro wS hSw
          go_simp
          all_goals first | with_reducible rfl | rw [if_neg (by omega)]
        simp only [Act.put, List.setIfInBounds_toArray, List.set]
        refine wpAnyH_take (i := 4) (oi := _) (v := ?_) (by (simp only [List.getElem?_toArray]; rfl)) (by kernel_rfl) (by kernel_rfl) (by kernel_rfl) (by exact fun _ _ _ h => h) (Or.inl ⟨by rfl, ?_⟩) (by assumption) ?_
        rotate_left
        · intro wS hSw
          go_simp
          all_goals first | with_reducible rfl | rw [if_neg (by omega)]
        simp only [Act.put, List.setIfInBounds_toArray, List.set]
        refine wpAnyH_take (i := 5) (oi := _) (v := ?_) (by (simp only [List.getElem?_toArray]; rfl)) (by kernel_rfl) (by kernel_rfl) (by kernel_rfl) (by exact fun _ _ _ h => h) (Or.inl ⟨by rfl, ?_⟩) (by assumption) ?_
        rotate_left
        · intro wS hSw
          go_simp
          all_goals first | with_reducible rfl | rw [if_neg (by omega)]
        simp only [Act.put, List.setIfInBounds_toArray, List.set]
        refine wpAnyH_take (i := 6) (oi := _) (v := ?_) (by (simp only [List.getElem?_toArray]; rfl)) (by kernel_rfl) (by kernel_rfl) (by kernel_rfl) (by exact fun _ _ _ h => h) (Or.inl ⟨by rfl, ?_⟩) (by assumption) ?_
        rotate_left
        · intro wS hSw
          go_simp
          all_goals first | with_reducible rfl | rw [if_neg (by omega)]
        simp only [Act.put, List.setIfInBounds_toArray, List.set]
        refine wpAnyH_take (i := 8) (oi := _) (v := ?_) (by (simp only [List.getElem?_toArray]; rfl)) (by kernel_rfl) (by kernel_rfl) (by kernel_rfl) (by exact fun _ _ _ h => h) (Or.inl ⟨by rfl, ?_⟩) (by assumption) ?_
        rotate_left
        · intro wS hSw
          go_simp
          all_goals first | with_reducible rfl | rw [if_neg (by omega)]
        simp only [Act.put, List.setIfInBounds_toArray, List.set]
        refine wpAnyH_take (i := 9) (oi := _) (v := ?_) (by (simp only [List.getElem?_toArray]; rfl)) (by kernel_rfl) (by kernel_rfl) (by kernel_rfl) (by exact fun _ _ _ h => h) (Or.inl ⟨by rfl, ?_⟩) (by assumption) ?_
        rotate_left
        · intro wS hSw
          go_simp
          all_goals first | with_reducible rfl | rw [if_neg (by omega)]
        simp only [Act.put, List.setIfInBounds_toArray, List.set]
        refine wpAnyH_take (i := 10) (oi := _) (v := ?_) (by (simp only [List.getElem?_toArray]; rfl)) (by kernel_rfl) (by kernel_rfl) (by kernel_rfl) (by exact fun _ _ _ h => h) (Or.inl ⟨by rfl, ?_⟩) (by assumption) ?_
        rotate_left
        · intro wS hSw
          go_simp
          all_goals first | with_reducible rfl | rw [if_neg (by omega)]
        simp only [Act.put, List.setIfInBounds_toArray, List.set]
        refine wpAnyH_take (i := 12) (oi := _) (v := ?_) (by (simp only [List.getElem?_toArray]; rfl)) (by kernel_rfl) (by kernel_rfl) (by kernel_rfl) (by exact fun _ _ _ h => h) (Or.inl ⟨by rfl, ?_⟩) (by assumption) ?_
        rotate_left
        · intro wS hSw
          go_simp
          all_goals first | with_reducible rfl | rw [if_neg (by omega)]
        simp only [Act.put, List.setIfInBounds_toArray, List.set]
        refine wpAnyH_take (i := 13) (oi := _) (v := ?_) (by (simp only [List.getElem?_toArray]; rfl)) (by kernel_rfl) (by kernel_rfl) (by kernel_rfl) (by exact fun _ _ _ h => h) (Or.inl ⟨by rfl, ?_⟩) (by assumption) ?_
        rotate_left
        · intro wS hSw
          go_simp
          all_goals first | with_reducible rfl | rw [if_neg (by omega)]
        simp only [Act.put, List.setIfInBounds_toArray, List.set]
        refine wpAnyH_take (i := 14) (oi := _) (v := ?_) (by (simp only [List.getElem?_toArray]; rfl)) (by kernel_rfl) (by kernel_rfl) (by kernel_rfl) (by exact fun _ _ _ h => h) (Or.inl ⟨by rfl, ?_⟩) (by assumption) ?_
        rotate_left
        · intro wS hSw
          go_simp
          all_goals first | with_reducible rfl | rw [if_neg (by omega)]
        simp only [Act.put, List.setIfInBounds_toArray, List.set]
        refine wpAnyH_ready (rs := [3, 17]) (by kernel_rfl) (by simp) ?_
        refine AllReadyH.cons (o := _) (by (simp only [List.getElem?_toArray]; rfl)) (fun K hK => ?_) ?_
        · skip
          go_simp
          refine (N0.out _).mono ?_
          rintro e _ ⟨rfl, rfl⟩
          refine hK.out _ _ RK.out (fun hHeld => ?_)
          clear hK K hHeld
          try simp only [Act.put, List.setIfInBounds_toArray, List.set]
          refine wpAnyH_ready (rs := [7, 17]) (by kernel_rfl) (by simp) ?_
          refine AllReadyH.cons (o := _) (by (simp only [List.getElem?_toArray]; rfl)) (fun K hK => ?_) ?_
          · skip
            go_simp
            refine (N1.out _).mono ?_
            rintro e _ ⟨rfl, rfl⟩
            refine hK.out _ _ RK.out (fun hHeld => ?_)
            clear hK K hHeld
            try simp only [Act.put, List.setIfInBounds_toArray, List.set]
            refine wpAnyH_ready (rs := [11, 17]) (by kernel_rfl) (by simp) ?_
            refine AllReadyH.cons (o := _) (by (simp only [List.getElem?_toArray]; rfl)) (fun K hK => ?_) ?_
            · skip
              go_simp
              refine (N3.out _).mono ?_
              rintro e _ ⟨rfl, rfl⟩
              refine hK.out _ _ RK.out (fun hHeld => ?_)
              clear hK K hHeld
              try simp only [Act.put, List.setIfInBounds_toArray, List.set]
              refine wpAnyH_ready (rs := [15, 17]) (by kernel_rfl) (by simp) ?_
              refine AllReadyH.cons (o := _) (by (simp only [List.getElem?_toArray]; rfl)) (fun K hK => ?_) ?_
              · skip
                go_simp
                refine (N4.out _).mono ?_
                rintro e _ ⟨rfl, rfl⟩
                refine hK.out _ _ RK.out (fun hHeld => ?_)
                clear hK K hHeld
                try simp only [Act.put, List.setIfInBounds_toArray, List.set]
                refine wpAnyH_take (i := 16) (oi := _) (v := ?_) (by (simp only [List.getElem?_toArray]; rfl)) (by kernel_rfl) (by kernel_rfl) (by kernel_rfl) (by exact fun _ _ _ h => h) (Or.inl ⟨by rfl, ?_⟩) (by assumption) ?_
                rotate_left
                · intro wS hSw
                  go_simp
                  all_goals first | with_reducible rfl | rw [if_neg (by omega)]
                simp only [Act.put, List.setIfInBounds_toArray, List.set]
                refine wpAnyH_ready (rs := [17]) (by kernel_rfl) (by simp) ?_
                refine AllReadyH.cons (o := _) (by (simp only [List.getElem?_toArray]; rfl)) (fun K hK => ?_) AllReadyH.nil
                refine stepAlloc (by rfl) (by rfl) (z := .agg #[.int .i64 0, .int .i64 0, .int .i64 0, .int .i64 0, .int .i64 0]) (cs := #[.int .i64 0, .int .i64 0, .int .i64 0, .int .i64 0, .int .i64 0]) (by kernel_rfl) rfl ?_
                obtain ⟨wARK, hw', sw', hv, kw'⟩ := blocks1 wd (.cells #[.int .i64 0, .int .i64 0, .int .i64 0, .int .i64 0, .int .i64 0] 46)
                rw [← hw']
                clear hw' sw'
                have kARK := Lib.hid (KeptB.next (Nat.le_refl _) RK.out kw')
                have hvx : w1.heap.size ≤ wd.heap.size := RK.out.2.size
                clear kw'
                refine hK.out _ _ kARK.out (fun hHeld => ?_)
                clear hK K hHeld
                try simp only [Act.put, List.setIfInBounds_toArray, List.set]
                refine wpAnyH_ready (rs := [18]) (by kernel_rfl) (by simp) ?_
                refine AllReadyH.cons (o := _) (by (simp only [List.getElem?_toArray]; rfl)) (fun K hK => ?_) AllReadyH.nil
                have cv := cell_of_block hv
                have fv := unfrozen_of_block hv
                have lv := lt_of_block hv
                go_simp
                have kSkARK := Lib.hid (KeptB.set (p := ⟨wd.heap.size, 4, none⟩) hvx (.int .i64 z4) (KeptB.set (p := ⟨wd.heap.size, 3, none⟩) hvx (.int .i64 z3) (KeptB.set (p := ⟨wd.heap.size, 2, none⟩) hvx (.int .i64 0) (KeptB.set (p := ⟨wd.heap.size, 1, none⟩) hvx (.int .i64 z1) (KeptB.set (p := ⟨wd.heap.size, 0, none⟩) hvx (.int .i64 z0) kARK.out)))))
                replace hv := block_set5 hv (.int .i64 z0) (.int .i64 z1) (.int .i64 0) (.int .i64 z3) (.int .i64 z4)
                clear cv fv
                refine hK.out _ _ kSkARK.out (fun hHeld => ?_)
                clear hK K hHeld
                try simp only [Act.put, List.setIfInBounds_toArray, List.set]
                refine hfin wd.heap.size _ _ _ (by kernel_rfl) ?_ ⟨kSkARK.out, hv, hvx⟩
                simp only [List.setIfInBounds_toArray, List.set]
              refine AllReadyH.cons (o := _) (by (simp only [List.getElem?_toArray]; rfl)) (fun K hK => ?_) ?_
              · skip
                refine stepAlloc (by rfl) (by rfl) (z := .agg #[.int .i64 0, .int .i64 0, .int .i64 0, .int .i64 0, .int .i64 0]) (cs := #[.int .i64 0, .int .i64 0, .int .i64 0, .int .i64 0, .int .i64 0]) (by kernel_rfl) rfl ?_
                obtain ⟨wARK, hw', sw', hv, kw'⟩ := blocks1 wd (.cells #[.int .i64 0, .int .i64 0, .int .i64 0, .int .i64 0, .int .i64 0] 46)
                rw [← hw']
                clear hw' sw'
                have kARK := Lib.hid (KeptB.next (Nat.le_refl _) RK.out kw')
                have hvx : w1.heap.size ≤ wd.heap.size := RK.out.2.size
                clear kw'
                refine hK.out _ _ kARK.out (fun hHeld => ?_)
                clear hK K hHeld
                try simp only [Act.put, List.setIfInBounds_toArray, List.set]
                refine wpAnyH_ready (rs := [15]) (by kernel_rfl) (by simp) ?_
                refine AllReadyH.cons (o := _) (by (simp only [List.getElem?_toArray]; rfl)) (fun K hK => ?_) AllReadyH.nil
                go_simp
                refine (N4.out _).mono ?_
                rintro e _ ⟨rfl, rfl⟩
                refine hK.out _ _ kARK.out (fun hHeld => ?_)
                clear hK K hHeld
                try simp only [Act.put, List.setIfInBounds_toArray, List.set]
                refine wpAnyH_take (i := 16) (oi := _) (v := ?_) (by (simp only [List.getElem?_toArray]; rfl)) (by kernel_rfl) (by kernel_rfl) (by kernel_rfl) (by exact fun _ _ _ h => h) (Or.inl ⟨by rfl, ?_⟩) (by assumption) ?_
                rotate_left
                · intro wS hSw
                  go_simp
                  all_goals first | with_reducible rfl | rw [if_neg (by omega)]
                simp only [Act.put, List.setIfInBounds_toArray, List.set]
                refine wpAnyH_ready (rs := [18]) (by kernel_rfl) (by simp) ?_
                refine AllReadyH.cons (o := _) (by (simp only [List.getElem?_toArray]; rfl)) (fun K hK => ?_) AllReadyH.nil
                have cv := cell_of_block hv
                have fv := unfrozen_of_block hv
                have lv := lt_of_block hv
                go_simp
                have kSkARK := Lib.hid (KeptB.set (p := ⟨wd.heap.size, 4, none⟩) hvx (.int .i64 z4) (KeptB.set (p := ⟨wd.heap.size, 3, none⟩) hvx (.int .i64 z3) (KeptB.set (p := ⟨wd.heap.size, 2, none⟩) hvx (.int .i64 0) (KeptB.set (p := ⟨wd.heap.size, 1, none⟩) hvx (.int .i64 z1) (KeptB.set (p := ⟨wd.heap.size, 0, none⟩) hvx (.int .i64 z0) kARK.out)))))
                replace hv := block_set5 hv (.int .i64 z0) (.int .i64 z1) (.int .i64 0) (.int .i64 z3) (.int .i64 z4)
                clear cv fv
                refine hK.out _ _ kSkARK.out (fun hHeld => ?_)
                clear hK K hHeld
                try simp only [Act.put, List.setIfInBounds_toArray, List.set]
                refine hfin wd.heap.size _ _ _ (by kernel_rfl) ?_ ⟨kSkARK.out, hv, hvx⟩
                simp only [List.setIfInBounds_toArray, List.set]
              exact AllReadyH.nil
            refine AllReadyH.cons (o := _) (by (simp only [List.getElem?_toArray]; rfl)) (fun K hK => ?_) ?_
            · skip
              refine stepAlloc (by rfl) (by rfl) (z := .agg #[.int .i64 0, .int .i64 0, .int .i64 0, .int .i64 0, .int .i64 0]) (cs := #[.int .i64 0, .int .i64 0, .int .i64 0, .int .i64 0, .int .i64 0]) (by kernel_rfl) rfl ?_
              obtain ⟨wARK, hw', sw', hv, kw'⟩ := blocks1 wd (.cells #[.int .i64 0, .int .i64 0, .int .i64 0, .int .i64 0, .int .i64 0] 46)
              rw [← hw']
              clear hw' sw'
              have kARK := Lib.hid (KeptB.next (Nat.le_refl _) RK.out kw')
              have hvx : w1.heap.size ≤ wd.heap.size := RK.out.2.size
              clear kw'
              refine hK.out _ _ kARK.out (fun hHeld => ?_)
              clear hK K hHeld
              try simp only [Act.put, List.setIfInBounds_toArray, List.set]
              refine wpAnyH_ready (rs := [11]) (by kernel_rfl) (by simp) ?_
              refine AllReadyH.cons (o := _) (by (simp only [List.getElem?_toArray]; rfl)) (fun K hK => ?_) AllReadyH.nil
              go_simp
              refine (N3.out _).mono ?_
              rintro e _ ⟨rfl, rfl⟩
              refine hK.out _ _ kARK.out (fun hHeld => ?_)
              clear hK K hHeld
              try simp only [Act.put, List.setIfInBounds_toArray, List.set]
              refine wpAnyH_ready (rs := [15]) (by kernel_rfl) (by simp) ?_
              refine AllReadyH.cons (o := _) (by (simp only [List.getElem?_toArray]; rfl)) (fun K hK => ?_) AllReadyH.nil
              go_simp
              refine (N4.out _).mono ?_
              rintro e _ ⟨rfl, rfl⟩
              refine hK.out _ _ kARK.out (fun hHeld => ?_)
              clear hK K hHeld
              try simp only [Act.put, List.setIfInBounds_toArray, List.set]
              refine wpAnyH_take (i := 16) (oi := _) (v := ?_) (by (simp only [List.getElem?_toArray]; rfl)) (by kernel_rfl) (by kernel_rfl) (by kernel_rfl) (by exact fun _ _ _ h => h) (Or.inl ⟨by rfl, ?_⟩) (by assumption) ?_
              rotate_left
              · intro wS hSw
                go_simp
                all_goals first | with_reducible rfl | rw [if_neg (by omega)]
              simp only [Act.put, List.setIfInBounds_toArray, List.set]
              refine wpAnyH_ready (rs := [18]) (by kernel_rfl) (by simp) ?_
              refine AllReadyH.cons (o := _) (by (simp only [List.getElem?_toArray]; rfl)) (fun K hK => ?_) AllReadyH.nil
              have cv := cell_of_block hv
              have fv := unfrozen_of_block hv
              have lv := lt_of_block hv
              go_simp
              have kSkARK := Lib.hid (KeptB.set (p := ⟨wd.heap.size, 4, none⟩) hvx (.int .i64 z4) (KeptB.set (p := ⟨wd.heap.size, 3, none⟩) hvx (.int .i64 z3) (KeptB.set (p := ⟨wd.heap.size, 2, none⟩) hvx (.int .i64 0) (KeptB.set (p := ⟨wd.heap.size, 1, none⟩) hvx (.int .i64 z1) (KeptB.set (p := ⟨wd.heap.size, 0, none⟩) hvx (.int .i64 z0) kARK.out)))))
              replace hv := block_set5 hv (.int .i64 z0) (.int .i64 z1) (.int .i64 0) (.int .i64 z3) (.int .i64 z4)
              clear cv fv
              refine hK.out _ _ kSkARK.out (fun hHeld => ?_)
              clear hK K hHeld
              try simp only [Act.put, List.setIfInBounds_toArray, List.set]
              refine hfin wd.heap.size _ _ _ (by kernel_rfl) ?_ ⟨kSkARK.out, hv, hvx⟩
              simp only [List.setIfInBounds_toArray, List.set]
            exact AllReadyH.nil
          refine AllReadyH.cons (o := _) (by (simp only [List.getElem?_toArray]; rfl)) (fun K hK => ?_) ?_
          · skip
            refine stepAlloc (by rfl) (by rfl) (z := .agg #[.int .i64 0, .int .i64 0, .int .i64 0, .int .i64 0, .int .i64 0]) (cs := #[.int .i64 0, .int .i64 0, .int .i64 0, .int .i64 0, .int .i64 0]) (by kernel_rfl) rfl ?_
            obtain ⟨wARK, hw', sw', hv, kw'⟩ := blocks1 wd (.cells #[.int .i64 0, .int .i64 0, .int .i64 0, .int .i64 0, .int .i64 0] 46)
            rw [← hw']
            clear hw' sw'
            have kARK := Lib.hid (KeptB.next (Nat.le_refl _) RK.out kw')
            have hvx : w1.heap.size ≤ wd.heap.size := RK.out.2.size
            clear kw'
            refine hK.out _ _ kARK.out (fun hHeld => ?_)
            clear hK K hHeld
            try simp only [Act.put, List.setIfInBounds_toArray, List.set]
            refine wpAnyH_ready (rs := [7]) (by kernel_rfl) (by simp) ?_
            refine AllReadyH.cons (o := _) (by (simp only [List.getElem?_toArray]; rfl)) (fun K hK => ?_) AllReadyH.nil
            go_simp
            refine (N1.out _).mono ?_
            rintro e _ ⟨rfl, rfl⟩
            refine hK.out _ _ kARK.out (fun hHeld => ?_)
            clear hK K hHeld
            try simp only [Act.put, List.setIfInBounds_toArray, List.set]
            refine wpAnyH_ready (rs := [11]) (by kernel_rfl) (by simp) ?_
            refine AllReadyH.cons (o := _) (by (simp only [List.getElem?_toArray]; rfl)) (fun K hK => ?_) AllReadyH.nil
            go_simp
            refine (N3.out _).mono ?_
            rintro e _ ⟨rfl, rfl⟩
            refine hK.out _ _ kARK.out (fun hHeld => ?_)
            clear hK K hHeld
            try simp only [Act.put, List.setIfInBounds_toArray, List.set]
            refine wpAnyH_ready (rs := [15]) (by kernel_rfl) (by simp) ?_
            refine AllReadyH.cons (o := _) (by (simp only [List.getElem?_toArray]; rfl)) (fun K hK => ?_) AllReadyH.nil
            go_simp
            refine (N4.out _).mono ?_
            rintro e _ ⟨rfl, rfl⟩
            refine hK.out _ _ kARK.out (fun hHeld => ?_)
            clear hK K hHeld
            try simp only [Act.put, List.setIfInBounds_toArray, List.set]
            refine wpAnyH_take (i := 16) (oi := _) (v := ?_) (by (simp only [List.getElem?_toArray]; rfl)) (by kernel_rfl) (by kernel_rfl) (by kernel_rfl) (by exact fun _ _ _ h => h) (Or.inl ⟨by rfl, ?_⟩) (by assumption) ?_
            rotate_left
            · intro wS hSw
              go_simp
              all_goals first | with_reducible rfl | rw [if_neg (by omega)]
            simp only [Act.put, List.setIfInBounds_toArray, List.set]
            refine wpAnyH_ready (rs := [18]) (by kernel_rfl) (by simp) ?_
            refine AllReadyH.cons (o := _) (by (simp only [List.getElem?_toArray]; rfl)) (fun K hK => ?_) AllReadyH.nil
            have cv := cell_of_block hv
            have fv := unfrozen_of_block hv
            have lv := lt_of_block hv
            go_simp
            have kSkARK := Lib.hid (KeptB.set (p := ⟨wd.heap.size, 4, none⟩) hvx (.int .i64 z4) (KeptB.set (p := ⟨wd.heap.size, 3, none⟩) hvx (.int .i64 z3) (KeptB.set (p := ⟨wd.heap.size, 2, none⟩) hvx (.int .i64 0) (KeptB.set (p := ⟨wd.heap.size, 1, none⟩) hvx (.int .i64 z1) (KeptB.set (p := ⟨wd.heap.size, 0, none⟩) hvx (.int .i64 z0) kARK.out)))))
            replace hv := block_set5 hv (.int .i64 z0) (.int .i64 z1) (.int .i64 0) (.int .i64 z3) (.int .i64 z4)
            clear cv fv
            refine hK.out _ _ kSkARK.out (fun hHeld => ?_)
            clear hK K hHeld
            try simp only [Act.put, List.setIfInBounds_toArray, List.set]
            refine hfin wd.heap.size _ _ _ (by kernel_rfl) ?_ ⟨kSkARK.out, hv, hvx⟩
            simp only [List.setIfInBounds_toArray, List.set]
          exact AllReadyH.nil
        refine AllReadyH.cons (o := _) (by (simp only [List.getElem?_toArray]; rfl)) (fun K hK => ?_) ?_
        · skip
          refine stepAlloc (by rfl) (by rfl) (z := .agg #[.int .i64 0, .int .i64 0, .int .i64 0, .int .i64 0, .int .i64 0]) (cs := #[.int .i64 0, .int .i64 0, .int .i64 0, .int .i64 0, .int .i64 0]) (by kernel_rfl) rfl ?_
          obtain ⟨wARK, hw', sw', hv, kw'⟩ := blocks1 wd (.cells #[.int .i64 0, .int .i64 0, .int .i64 0, .int .i64 0, .int .i64 0] 46)
          rw [← hw']
          clear hw' sw'
          have kARK := Lib.hid (KeptB.next (Nat.le_refl _) RK.out kw')
          have hvx : w1.heap.size ≤ wd.heap.size := RK.out.2.size
          clear kw'
          refine hK.out _ _ kARK.out (fun hHeld => ?_)
          clear hK K hHeld
          try simp only [Act.put, List.setIfInBounds_toArray, List.set]
          refine wpAnyH_ready (rs := [3]) (by kernel_rfl) (by simp) ?_
          refine AllReadyH.cons (o := _) (by (simp only [List.getElem?_toArray]; rfl)) (fun K hK => ?_) AllReadyH.nil
          go_simp
          refine (N0.out _).mono ?_
          rintro e _ ⟨rfl, rfl⟩
          refine hK.out _ _ kARK.out (fun hHeld => ?_)
          clear hK K hHeld
          try simp only [Act.put, List.setIfInBounds_toArray, List.set]
          refine wpAnyH_ready (rs := [7]) (by kernel_rfl) (by simp) ?_
          refine AllReadyH.cons (o := _) (by (simp only [List.getElem?_toArray]; rfl)) (fun K hK => ?_) AllReadyH.nil
          go_simp
          refine (N1.out _).mono ?_
          rintro e _ ⟨rfl, rfl⟩
          refine hK.out _ _ kARK.out (fun hHeld => ?_)
          clear hK K hHeld
          try simp only [Act.put, List.setIfInBounds_toArray, List.set]
          refine wpAnyH_ready (rs := [11]) (by kernel_rfl) (by simp) ?_
          refine AllReadyH.cons (o := _) (by (simp only [List.getElem?_toArray]; rfl)) (fun K hK => ?_) AllReadyH.nil
          go_simp
          refine (N3.out _).mono ?_
          rintro e _ ⟨rfl, rfl⟩
          refine hK.out _ _ kARK.out (fun hHeld => ?_)
          clear hK K hHeld
          try simp only [Act.put, List.setIfInBounds_toArray, List.set]
          refine wpAnyH_ready (rs := [15]) (by kernel_rfl) (by simp) ?_
          refine AllReadyH.cons (o := _) (by (simp only [List.getElem?_toArray]; rfl)) (fun K hK => ?_) AllReadyH.nil
          go_simp
          refine (N4.out _).mono ?_
          rintro e _ ⟨rfl, rfl⟩
          refine hK.out _ _ kARK.out (fun hHeld => ?_)
          clear hK K hHeld
          try simp only [Act.put, List.setIfInBounds_toArray, List.set]
          refine wpAnyH_take (i := 16) (oi := _) (v := ?_) (by (simp only [List.getElem?_toArray]; rfl)) (by kernel_rfl) (by kernel_rfl) (by kernel_rfl) (by exact fun _ _ _ h => h) (Or.inl ⟨by rfl, ?_⟩) (by assumption) ?_
          rotate_left
          · intro wS hSw
            go_simp
            all_goals first | with_reducible rfl | rw [if_neg (by omega)]
          simp only [Act.put, List.setIfInBounds_toArray, List.set]
          refine wpAnyH_ready (rs := [18]) (by kernel_rfl) (by simp) ?_
          refine AllReadyH.cons (o := _) (by (simp only [List.getElem?_toArray]; rfl)) (fun K hK => ?_) AllReadyH.nil
          have cv := cell_of_block hv
          have fv := unfrozen_of_block hv
          have lv := lt_of_block hv
          go_simp
          have kSkARK := Lib.hid (KeptB.set (p := ⟨wd.heap.size, 4, none⟩) hvx (.int .i64 z4) (KeptB.set (p := ⟨wd.heap.size, 3, none⟩) hvx (.int .i64 z3) (KeptB.set (p := ⟨wd.heap.size, 2, none⟩) hvx (.int .i64 0) (KeptB.set (p := ⟨wd.heap.size, 1, none⟩) hvx (.int .i64 z1) (KeptB.set (p := ⟨wd.heap.size, 0, none⟩) hvx (.int .i64 z0) kARK.out)))))
          replace hv := block_set5 hv (.int .i64 z0) (.int .i64 z1) (.int .i64 0) (.int .i64 z3) (.int .i64 z4)
          clear cv fv
          refine hK.out _ _ kSkARK.out (fun hHeld => ?_)
          clear hK K hHeld
          try simp only [Act.put, List.setIfInBounds_toArray, List.set]
          refine hfin wd.heap.size _ _ _ (by kernel_rfl) ?_ ⟨kSkARK.out, hv, hvx⟩
          simp only [List.setIfInBounds_toArray, List.set]
        exact AllReadyH.nil
      rintro x w2 ⟨kN, vN, xN⟩
      simp only [List.setIfInBounds_toArray, List.set]
      refine wpAnyH_done (by kernel_rfl) ?_ _
      have a2 := Lib.hid (carryB kN.2 hal a1)
      have D2 := Lib.hid ((kN.1 _ _ hg2).trans d2)
      have K2 := Lib.hid kN.2
      have VN := Lib.hid vN
      have K1H := Lib.hid K1
      have A1 := Lib.hid a1
      clear kN vN d0 d1 d3 d4 d2 N0 N1 N3 N4 hcp hHeld
      go_wp2_with fail
      go_loopw [6] (fun k wr => ∃ j : Nat, 1 ≤ j ∧ j ≤ 6 ∧ k = .int .i64 j ∧ wr.heap[x]? = some (.cells #[.int .i64 z0, .int .i64 z1, .int .i64 (opAux p2 (j - 1)), .int .i64 z3, .int .i64 z4] 46 (0, 0)) ∧ wr.cell? ⟨g, 2, none⟩ = some (.string ⟨p2.toArray⟩) ∧ Below w1.heap.size w1 wr) (fun k _ => 6 - (intOf k).toNat)
      case atStart => exact ⟨1, Nat.le_refl _, by decide, rfl, VN.out, D2.out, K2.out⟩
      case round =>
        obtain ⟨j, hK1, hK6, rfl, hX, hD, hbel⟩ := hrel
        have HBel := Lib.hid hbel
        have lx := lt_of_block hX
        have lg : g < wr.heap.size := Nat.lt_of_lt_of_le hg2 hbel.size
        clear hbel a2 D2 K2 VN
        go_wp2_with fail
        refine (l1Words_c wr).mono ?_
        rintro e w3 ⟨rfl, -, k3⟩
        have KB3 := Lib.hid (HBel.out.trans (k3.mono HBel.out.size))
        have hX3 := carryB k3 lx hX
        have hD3 := ((bcell k3).1 _ _ lg).trans hD
        have lx3 := lt_of_block hX3
        have lg3 : g < w3.heap.size := Nat.lt_of_lt_of_le lg k3.size
        clear k3 hX hD lx lg HBel
        by_cases hlt : j < 6
        · have hk0 : (0 : Int) ≤ (j : Int) := by omega
          have hk6 : (j : Int) < 6 := by omega
          go_wp2_with fail
          refine wp_region_held_drew (S := fun w' => ((∀ b o, b < w3.heap.size → (w').cell? ⟨b, o, none⟩ = (w3).cell? ⟨b, o, none⟩) ∧ Below (w3.heap.size) (w3) (w'))) (by kernel_rfl) (KeptB.drew (KeptB.refl _ _)) (fun hHeld => ?_)
          refine wpAnyH_take (i := 1) (oi := _) (v := ?_) (by (simp only [List.getElem?_toArray]; rfl)) (by kernel_rfl) (by kernel_rfl) (by kernel_rfl) (by exact fun _ _ _ h => h) (Or.inl ⟨by rfl, ?_⟩) (by assumption) ?_
          rotate_left
          · intro wS hSw
            go_simp
            all_goals first | with_reducible rfl | rw [if_neg (by omega)]
          simp only [Act.put, List.setIfInBounds_toArray, List.set]
          refine wpAnyH_take (i := 4) (oi := _) (v := ?_) (by (simp only [List.getElem?_toArray]; rfl)) (by kernel_rfl) (by kernel_rfl) (by kernel_rfl) (by exact fun _ _ _ h => h) (Or.inl ⟨by rfl, ?_⟩) (by assumption) ?_
          rotate_left
          · intro wS hSw
            go_simp
            all_goals first | with_reducible rfl | rw [if_neg (by omega)]
          simp only [Act.put, List.setIfInBounds_toArray, List.set]
          refine wpAnyH_take (i := 5) (oi := _) (v := ?_) (by (simp only [List.getElem?_toArray]; rfl)) (by kernel_rfl) (by kernel_rfl) (by kernel_rfl) (by exact fun _ _ _ h => h) (Or.inl ⟨by rfl, ?_⟩) (by assumption) ?_
          rotate_left
          · intro wS hSw
            go_simp
            all_goals first | with_reducible rfl | rw [if_neg (by omega)]
          simp only [Act.put, List.setIfInBounds_toArray, List.set]
          refine wpAnyH_take (i := 6) (oi := _) (v := ?_) (by (simp only [List.getElem?_toArray]; rfl)) (by kernel_rfl) (by kernel_rfl) (by kernel_rfl) (by exact fun _ _ _ h => h) (Or.inl ⟨by rfl, ?_⟩) (by assumption) ?_
          rotate_left
          · intro wS hSw
            go_simp
            all_goals first | with_reducible rfl | rw [if_neg (by omega)]
          simp only [Act.put, List.setIfInBounds_toArray, List.set]
          refine wpAnyH_ready (rs := [0]) (by kernel_rfl) (by simp) ?_
          refine AllReadyH.cons (o := _) (by (simp only [List.getElem?_toArray]; rfl)) (fun K hK => ?_) AllReadyH.nil
          go_simp
          refine (l1Words_c _).mono ?_
          rintro e w4 ⟨rfl, hw4, k4⟩
          have k4' := KeptB.of ((Below.drew (Below.refl w3.heap.size w3)).trans k4)
          have hwd : w4.cell? ⟨w3.heap.size, j, none⟩ = some (.string ⟨(words.getD j []).toArray⟩) := wordsCell hw4 j hlt
          have hO := opAux_step p2 hK1
          generalize words.getD j [] = wk at *
          clear hHeld
          have lw4 : w3.heap.size < w4.heap.size := lt_of_block hw4
          have hX4 := carryB k4 lx3 hX3
          have hD4 := ((bcell k4).1 _ _ lg3).trans hD3
          have KB4 := Lib.hid (KB3.out.trans (k4'.2.mono KB3.out.size))
          refine hK.out _ _ k4' (fun hHeld => ?_)
          clear hK K
          try simp only [Act.put, List.setIfInBounds_toArray, List.set]
          refine wpAnyH_take (i := 2) (oi := _) (v := ?_) (by (simp only [List.getElem?_toArray]; rfl)) (by kernel_rfl) (by kernel_rfl) (by kernel_rfl) (by exact fun _ _ _ h => h) (Or.inl ⟨by rfl, ?_⟩) (by assumption) ?_
          rotate_left
          · intro wS hSw
            go_simp
            all_goals first | with_reducible rfl | rw [if_neg (by omega)]
          simp only [Act.put, List.setIfInBounds_toArray, List.set]
          clear hHeld
          refine wpAnyH_ready (rs := [3]) (by kernel_rfl) (by simp) ?_
          refine AllReadyH.cons (o := _) (by (simp only [List.getElem?_toArray]; rfl)) (fun K hK => ?_) AllReadyH.nil
          go_simp
          refine hK.out _ _ k4' (fun hHeld => ?_)
          clear hK K
          try simp only [Act.put, List.setIfInBounds_toArray, List.set]
          refine wpAnyH_take (i := 7) (oi := _) (v := ?_) (by (simp only [List.getElem?_toArray]; rfl)) (by kernel_rfl) (by kernel_rfl) (by kernel_rfl) (by exact fun _ _ _ h => h) (Or.inl ⟨by rfl, ?_⟩) (by assumption) ?_
          rotate_left
          · intro wS hSw
            go_simp
            all_goals first | with_reducible rfl | rw [if_neg (by omega)]
          simp only [Act.put, List.setIfInBounds_toArray, List.set]
          refine wpAnyH_done (by kernel_rfl) ?_ _
          clear hHeld hw4 k4 hX3 hD3 KB3 k4'
          by_cases hq : wk = p2
          · have hbq : (wk == p2) = true := by simpa using hq
            rw [hbq]
            rw [if_pos hq] at hO
            have HO := Lib.hid hO
            clear hO hq hwd
            have cX := cell_of_block hX4
            have fX := unfrozen_of_block hX4
            have lX := lt_of_block hX4
            go_wp2_with fail
            go_roundw
            case rel =>
              refine ⟨j + 1, by omega, by omega, by go_num, ?_, ?_, ?_⟩
              · have := block_setCell (i := 2) hX4 (.int .i64 (j : Int))
                rw [Nat.add_sub_cancel, HO.out]
                exact this
              · exact (World.cell?_setCell_other _ _ _ _ (by intro h; have := congrArg Addr.block h; simp at this; omega)).trans hD4
              · exact KB4.out.setCell xN _
            case measure => simp [intOf]; omega
          · have hbq : (wk == p2) = false := by simpa using hq
            rw [hbq]
            rw [if_neg hq] at hO
            have HO := Lib.hid hO
            clear hO hq hwd
            go_wp2_with fail
            go_roundw
            case rel =>
              refine ⟨j + 1, by omega, by omega, by go_num, ?_, hD4, KB4.out⟩
              rw [Nat.add_sub_cancel, HO.out]
              exact hX4
            case measure => simp [intOf]; omega
        · obtain rfl : j = 6 := by omega
          have K3 := Lib.hid (K1H.out.trans (KB3.out.mono K1H.out.size))
          have a3 := carryB KB3.out hal A1.out
          have e5' : opAux p2 (6 - 1) = opAux p2 5 := rfl
          rw [e5'] at hX3
          generalize opAux p2 5 = o at *
          have cX := cell_of_block hX3
          clear hD3 KB3
          go_wp2_with fail
          refine (l1Ok_c z0 z1 o z3 z4 _).mono ?_
          rintro e w4 ⟨rfl, k4⟩
          have K4 := below_next K3.out k4
          have a4 := carryB k4 (lt_of_block a3) a3
          have hX4 := carryB k4 lx3 hX3
          clear cX
          have ca := cell_of_block a4
          have fa := unfrozen_of_block a4
          have la := lt_of_block a4
          have cX := cell_of_block hX4
          have lX := lt_of_block hX4
          clear k4 a3 hX3 lx3 K3
          cases hok : okB z0 z1 o z3 z4 with
          | false =>
            obtain ⟨rfl, rfl⟩ := HG.out.uniq (HNO.out (fun _ h => by rw [hok] at h; cases h))
            go_wp2_with fail
            refine bodyPost_ret (v := .tuple #[.agg #[.int .i64 0, .int .i64 0, .int .i64 0, .int .i64 0, .int .i64 0], .bool false]) (by simp [results, Tryd.results26, go_sem, ca]) rfl ?_
            exact ⟨rfl, (by repeat' (first | with_reducible exact Below.refl _ _ | with_reducible assumption | with_reducible refine Below.alloc ?_ ?_ _ | with_reducible refine Below.drew ?_ | with_reducible refine Below.setCell ?_ ?_ _ | omega | (simp; omega) | (simp; done)))⟩
          | true =>
            have ho := okB_op hok
            go_wp2_with fail
            refine (l1Put_c z0 z1 o z3 z4 _ (by omega) (by omega) (by omega) (by omega) (by omega) (by omega) (by omega) (by omega) (by omega) (by omega)).mono ?_
            rintro e w5 ⟨rfl, k5⟩
            have K5 := below_next K4 k5
            have a5 := carryB k5 la a4
            have hX5 := carryB k5 lX hX4
            clear ca fa la cX lX k5 a4 hX4 K4 ho
            have ca := cell_of_block a5
            have fa := unfrozen_of_block a5
            have la := lt_of_block a5
            have cX := cell_of_block hX5
            have lX := lt_of_block hX5
            by_cases hp : putL z0 z1 o z3 z4 = s.data.toList
            · obtain ⟨rfl, rfl⟩ := HG.out.uniq (HYES.out hok hp)
              have hbp : (putL z0 z1 o z3 z4 == s.toList) = true := by rw [ByteArray.toList_eq, hp]; simp
              clear hp
              generalize putL z0 z1 o z3 z4 = tx at *
              go_wp2_with fail
              refine bodyPost_ret (v := .tuple #[.agg #[.int .i64 z0, .int .i64 z1, .int .i64 o, .int .i64 z3, .int .i64 z4], .bool true]) (by simp [results, Tryd.results26, go_sem, ca]) rfl ?_
              exact ⟨rfl, (by repeat' (first | with_reducible exact Below.refl _ _ | with_reducible assumption | with_reducible refine Below.alloc ?_ ?_ _ | with_reducible refine Below.drew ?_ | with_reducible refine Below.setCell ?_ ?_ _ | omega | (simp; omega) | (simp; done)))⟩
            · obtain ⟨rfl, rfl⟩ := HG.out.uniq (HNO.out (fun _ _ => hp))
              have hbp : (putL z0 z1 o z3 z4 == s.toList) = false := by rw [ByteArray.toList_eq]; simpa using hp
              clear hp
              generalize putL z0 z1 o z3 z4 = tx at *
              go_wp2_with fail
              refine bodyPost_ret (v := .tuple #[.agg #[.int .i64 0, .int .i64 0, .int .i64 0, .int .i64 0, .int .i64 0], .bool false]) (by simp [results, Tryd.results26, go_sem, ca]) rfl ?_
              exact ⟨rfl, (by repeat' (first | with_reducible exact Below.refl _ _ | with_reducible assumption | with_reducible refine Below.alloc ?_ ?_ _ | with_reducible refine Below.drew ?_ | with_reducible refine Below.setCell ?_ ?_ _ | omega | (simp; omega) | (simp; done)))⟩
    · obtain ⟨rfl, rfl⟩ := HG.out.uniq (HNO.out (fun h => absurd h h5))
      have hcp := hR.len
      generalize ps.length = n at *
      have h5' : ¬ (n : Int) = 5 := by omega
      have ca := cell_of_block a1
      have fa := unfrozen_of_block a1
      have la := lt_of_block a1
      go_wp2_with fail
      refine bodyPost_ret (v := .tuple #[.agg #[.int .i64 0, .int .i64 0, .int .i64 0, .int .i64 0, .int .i64 0], .bool false]) (by simp [results, Tryd.results26, go_sem, ca]) rfl ?_
      exact ⟨rfl, (by repeat' (first | with_reducible exact Below.refl _ _ | with_reducible assumption | with_reducible refine Below.alloc ?_ ?_ _ | with_reducible refine Below.drew ?_ | with_reducible refine Below.setCell ?_ ?_ _ | omega | (simp; omega) | (simp; done)))⟩
end Go.Proofs.YtilldpoleiippaaDoor

/-! The program reads an ask (impl.ReqGet); condition: a small text, the package variables as listed. -/
namespace Go.Proofs.YtilldpoleiippaaDoor
open Go.RowKit Go.Joins

theorem splitL_eq (s : List UInt8) : splitL 32 s = splitS s := rfl
theorem splitK_le (b : UInt8) : ∀ (k : Nat) (s p : List UInt8), p ∈ Lib.splitK [b] 0 k s → p.length ≤ s.length
  | 0, s, p, h => by
    rw [Lib.splitK, List.mem_singleton] at h
    subst h
    exact Nat.le_refl _
  | k + 1, s, p, h => by
    rw [Lib.splitK] at h
    split at h
    · rw [List.mem_singleton] at h
      subst h
      exact Nat.le_refl _
    · rcases List.mem_cons.1 h with rfl | h
      · rw [List.length_take]; exact Nat.min_le_right _ _
      · have := splitK_le b k _ p h
        rw [List.length_drop] at this
        omega
theorem words_getD (j : Nat) (hj : j < 6) : wordsS.getD j ByteArray.empty = ⟨(words.getD j []).toArray⟩ := by
  match j, hj with
  | 0, _ => rfl
  | 1, _ => rfl
  | 2, _ => rfl
  | 3, _ => rfl
  | 4, _ => rfl
  | 5, _ => rfl
theorem index_c (b o c : Nat) (p : List UInt8) (w : World) (hc : ∀ j, j < 6 → w.cell? ⟨b, o + j, none⟩ = some (.string ⟨(words.getD j []).toArray⟩)) :
    Calls Tryd.prog 75 #[.slice (some ⟨b, o, none⟩) 6 c, .string ⟨p.toArray⟩] w fun e w' => e = .returned (.int .i64 (Lib.idxOfS wordsS ⟨p.toArray⟩)) ∧ w = w' := by
  refine (Tryd.slices_Index_string b o 6 c wordsS ⟨p.toArray⟩ w (by decide) (by decide) (fun j hj => ?_)).mono ?_
  · rw [words_getD j hj]
    exact hc j hj
  · rintro e w' ⟨rfl, rfl⟩
    exact ⟨rfl, rfl⟩

set_option maxRecDepth 100000 in
set_option maxHeartbeats 4000000 in
theorem ReqGet_c (s : ByteArray) (r : Rq) (b : Bool) (w : World) (hs : s.size ≤ 4000000000) (E : Env w) (EA : EnvA w) (hg : IsGet s.data.toList r b) :
    Calls Tryd.prog 27 #[.string s] w fun e w' => e = .returned (.tuple #[.agg #[.int .i64 r.c, .int .i64 r.n, .int .i64 r.o, .int .i64 r.x, .int .i64 r.y], .bool b]) ∧ Below w.heap.size w w' := by
  have HSL := Lib.hid (show s.data.toList.length = s.size by simp)
  have EW := Lib.hid E
  have EE := Lib.hid EA
  clear E EA
  by_cases hn : s.data.toList = noneT
  · have hb : (s.toList == [110, 111, 110, 101]) = true := by rw [ByteArray.toList_eq, hn]; rfl
    rw [hn] at hg
    obtain ⟨rfl, rfl⟩ := hg.uniq isGet_none
    clear hg hn
    go_enter Tryd.func27, Tryd.ntmps27
    go_wp2_with fail
    refine bodyPost_ret (v := .tuple #[.agg #[.int .i64 0, .int .i64 0, .int .i64 0, .int .i64 0, .int .i64 0], .bool true]) (by simp [results, Tryd.results27, go_sem]) rfl ?_
    exact ⟨rfl, (by repeat' (first | with_reducible exact Below.refl _ _ | with_reducible assumption | with_reducible refine Below.alloc ?_ ?_ _ | with_reducible refine Below.drew ?_ | with_reducible refine Below.setCell ?_ ?_ _ | omega | (simp; omega) | (simp; done)))⟩
  · have hb : (s.toList == [110, 111, 110, 101]) = false := by rw [ByteArray.toList_eq]; exact beq_false_of_ne hn
    have HN := Lib.hid hn
    have HG := Lib.hid hg
    clear hn hg
    go_enter Tryd.func27, Tryd.ntmps27
    go_wp2_with fail
    obtain ⟨W, hW, sW, aW, kW⟩ := blocks1 w (.cells #[.int .i64 0, .int .i64 0, .int .i64 0, .int .i64 0, .int .i64 0] 46)
    rw [← hW]
    clear hW
    refine (split_c 32 s W hs (EE.out.below kW)).mono ?_
    rw [splitL_eq]
    rintro e w1 ⟨a, cap, rfl, hR, k1⟩
    have K1 := below_next kW k1
    have a1 := carryB k1 (by omega) aW
    clear aW k1 kW
    have HLE := Lib.hid (fun p (h : p ∈ splitS s.data.toList) => splitK_le 32 _ _ p h)
    have HNO := Lib.hid (fun h => isGet_impl_no HN.out h)
    have HYES := Lib.hid (fun (h : okB (readI (splitS s.data.toList)).c (readI (splitS s.data.toList)).n (readI (splitS s.data.toList)).o (readI (splitS s.data.toList)).x (readI (splitS s.data.toList)).y = true) => isGet_yes (s := s.data.toList) h)
    generalize splitS s.data.toList = ps at *
    by_cases h5 : ps.length = 5
    · obtain ⟨p0, p1, p2, p3, p4, rfl⟩ : ∃ p0 p1 p2 p3 p4, ps = [p0, p1, p2, p3, p4] := by
        match ps, h5 with
        | [p0, p1, p2, p3, p4], _ => exact ⟨p0, p1, p2, p3, p4, rfl⟩
      clear h5
      obtain ⟨g, rfl, hg1, hg2, hcs⟩ := strs_own hR (by simp)
      have hcp := hR.len
      have d0 := hcs 0 (by simp)
      have d1 := hcs 1 (by simp)
      have d2 := hcs 2 (by simp)
      have d3 := hcs 3 (by simp)
      have d4 := hcs 4 (by simp)
      simp only [List.getElem_cons_zero, List.getElem_cons_succ] at d0 d1 d2 d3 d4
      clear hcs hR
      have l0 := HLE.out p0 (by simp)
      have l1 := HLE.out p1 (by simp)
      have l2 := HLE.out p2 (by simp)
      have l3 := HLE.out p3 (by simp)
      have l4 := HLE.out p4 (by simp)
      rw [HSL.out] at l0 l1 l2 l3 l4
      have N0 := Lib.hid (fun V E => atoi_c p0 V (by omega) E)
      have N1 := Lib.hid (fun V E => atoi_c p1 V (by omega) E)
      have N3 := Lib.hid (fun V E => atoi_c p3 V (by omega) E)
      have N4 := Lib.hid (fun V E => atoi_c p4 V (by omega) E)
      obtain ⟨-, bw, ow, cw, hw0, hw6, hwc0⟩ := EW.out.below K1
      have hbw : bw < w1.heap.size := World.block_lt_of_cell? w1 _ (hwc0 0 (by decide))
      have hgw : 0 < w1.heap.size := World.block_lt_of_cell? w1 _ hw0
      have hwc := Lib.hid hwc0
      have IX := Lib.hid (fun V => index_c bw ow cw p2 V)
      have hRD : readI [p0, p1, p2, p3, p4] = ⟨Lib.atoiOr p0 (-1099511627776), Lib.atoiOr p1 (-1099511627776), Lib.idxOfS wordsS ⟨p2.toArray⟩, Lib.atoiOr p3 (-1099511627776), Lib.atoiOr p4 (-1099511627776)⟩ := rfl
      rw [hRD] at HNO HYES
      simp only at HNO HYES
      have e5 : [p0, p1, p2, p3, p4].length = 5 := rfl
      rw [e5] at *
      clear hRD HLE l0 l1 l2 l3 l4 hwc0 hw6
      generalize Lib.atoiOr p0 (-1099511627776) = z0 at *
      generalize Lib.atoiOr p1 (-1099511627776) = z1 at *
      generalize Lib.idxOfS wordsS ⟨p2.toArray⟩ = z2 at *
      generalize Lib.atoiOr p3 (-1099511627776) = z3 at *
      generalize Lib.atoiOr p4 (-1099511627776) = z4 at *
      have hal := lt_of_block a1
      go_wp2_with fail
      refine wp_region_held_drew (S := fun w' => ((∀ b o, b < w1.heap.size → (w').cell? ⟨b, o, none⟩ = (w1).cell? ⟨b, o, none⟩) ∧ Below (w1.heap.size) (w1) (w'))) (by kernel_rfl) (KeptB.drew (KeptB.refl _ _)) (fun hHeld => ?_)
      refine introFin (X := Nat) 0 #[true, true, true, true, true, true, true, true, true, true, true, true, true, true, true, true, true, true, true, true, true, true, true, true] (fun x T => (((((((((((((((((((((((T).setIfInBounds 15 (.slice (some ⟨g, 0, none⟩) 5 cap)).setIfInBounds 16 (.pointer (some ⟨g, 0, none⟩))).setIfInBounds 17 (.string ⟨p0.toArray⟩)).setIfInBounds 18 (.int .i64 z0)).setIfInBounds 19 (.slice (some ⟨g, 0, none⟩) 5 cap)).setIfInBounds 20 (.pointer (some ⟨g, 1, none⟩))).setIfInBounds 21 (.string ⟨p1.toArray⟩)).setIfInBounds 22 (.int .i64 z1)).setIfInBounds 23 (.slice (some ⟨bw, ow, none⟩) 6 cw)).setIfInBounds 24 (.slice (some ⟨g, 0, none⟩) 5 cap)).setIfInBounds 25 (.pointer (some ⟨g, 2, none⟩))).setIfInBounds 26 (.string ⟨p2.toArray⟩)).setIfInBounds 27 (.int .i64 z2)).setIfInBounds 28 (.slice (some ⟨g, 0, none⟩) 5 cap)).setIfInBounds 29 (.pointer (some ⟨g, 3, none⟩))).setIfInBounds 30 (.string ⟨p3.toArray⟩)).setIfInBounds 31 (.int .i64 z3)).setIfInBounds 32 (.slice (some ⟨g, 0, none⟩) 5 cap)).setIfInBounds 33 (.pointer (some ⟨g, 4, none⟩))).setIfInBounds 34 (.string ⟨p4.toArray⟩)).setIfInBounds 35 (.int .i64 z4)).setIfInBounds 36 (.agg #[.int .i64 z0, .int .i64 z1, .int .i64 z2, .int .i64 z3, .int .i64 z4])).setIfInBounds 5 (.pointer (some ⟨x, 0, none⟩))) (fun x w' => (((∀ b o, b < w1.heap.size → (w').cell? ⟨b, o, none⟩ = (w1).cell? ⟨b, o, none⟩) ∧ Below (w1.heap.size) (w1) (w'))) ∧ w'.heap[x]? = some (.cells #[.int .i64 z0, .int .i64 z1, .int .i64 z2, .int .i64 z3, .int .i64 z4] 46 (0, 0)) ∧ w1.heap.size ≤ x) ?_ (fun hfin => ?_)
      rotate_left
      · obtain ⟨wd, hwd, kwd⟩ : ∃ wd, wd = w1.drew ∧ Below w1.heap.size w1 wd := ⟨_, rfl, Below.drew (Below.refl _ _)⟩
        rw [← hwd] at hHeld ⊢
        clear hwd
        have RK := Lib.hid (KeptB.of kwd)
        clear kwd
        refine wpAnyH_take (i := 0) (oi := _) (v := ?_) (by (simp only [List.getElem?_toArray]; rfl)) (by kernel_rfl) (by kernel_rfl) (by kernel_rfl) (by exact fun _ _ _ h => h) (Or.inl ⟨by rfl, ?_⟩) (by assumption) ?_
        rotate_left
        · intro wS hSw
          go_simp
          all_goals first | with_reducible rfl | rw [if_neg (by omega)]
        simp only [Act.put, List.setIfInBounds_toArray, List.set]
        refine wpAnyH_take (i := 1) (oi := _) (v := ?_) (by (simp only [List.getElem?_toArray]; rfl)) (by kernel_rfl) (by kernel_rfl) (by kernel_rfl) (by exact fun _ _ _ h => h) (Or.inl ⟨by rfl, ?_⟩) (by assumption) ?_
        rotate_left
        · intro wS hSw
          go_simp
          all_goals first | with_reducible rfl | rw [if_neg (by omega)]
        simp only [Act.put, List.setIfInBounds_toArray, List.set]
        refine wpAnyH_take (i := 2) (oi := _) (v := ?_) (by (simp only [List.getElem?_toArray]; rfl)) (by kernel_rfl) (by kernel_rfl) (by kernel_rfl) (by exact fun _ _ _ h => h) (Or.inl ⟨by rfl, ?_⟩) (by assumption) ?_
        rotate_left
        · intro wS hSw
          go_simp
          all_goals first | with_reducible rfl | rw [if_neg (by omega)]
        simp only [Act.put, List.setIfInBounds_toArray, List.set]
        refine wpAnyH_take (i := 4) (oi := _) (v := ?_) (by (simp only [List.getElem?_toArray]; rfl)) (by kernel_rfl) (by kernel_rfl) (by kernel_rfl) (by exact fun _ _ _ h => h) (Or.inl ⟨by rfl, ?_⟩) (by assumption) ?_
        rotate_left
        · intro wS hSw
          go_simp
          all_goals first | with_reducible rfl | rw [if_neg (by omega)]
        simp only [Act.put, List.setIfInBounds_toArray, List.set]
        refine wpAnyH_take (i := 5) (oi := _) (v := ?_) (by (simp only [List.getElem?_toArray]; rfl)) (by kernel_rfl) (by kernel_rfl) (by kernel_rfl) (by exact fun _ _ _ h => h) (Or.inl ⟨by rfl, ?_⟩) (by assumption) ?_
        rotate_left
        · intro wS hSw
          go_simp
          all_goals first | with_reducible rfl | rw [if_neg (by omega)]
        simp only [Act.put, List.setIfInBounds_toArray, List.set]
        refine wpAnyH_take (i := 6) (oi := _) (v := ?_) (by (simp only [List.getElem?_toArray]; rfl)) (by kernel_rfl) (by kernel_rfl) (by kernel_rfl) (by exact fun _ _ _ h => h) (Or.inl ⟨by rfl, ?_⟩) (by assumption) ?_
        rotate_left
        · intro wS hSw
          go_simp
          all_goals first | with_reducible rfl | rw [if_neg (by omega)]
        simp only [Act.put, List.setIfInBounds_toArray, List.set]
        refine wpAnyH_take (i := 8) (oi := _) (v := ?_) (by (simp only [List.getElem?_toArray]; rfl)) (by kernel_rfl) (by kernel_rfl) (by kernel_rfl) (by exact fun _ _ _ h => h) (Or.inl ⟨by rfl, ?_⟩) (by assumption) ?_
        rotate_left
        · intro wS hSw
          go_simp
          all_goals first | with_reducible rfl | rw [if_neg (by omega)]
        simp only [Act.put, List.setIfInBounds_toArray, List.set]
        refine wpAnyH_take (i := 9) (oi := _) (v := ?_) (by (simp only [List.getElem?_toArray]; rfl)) (by kernel_rfl) (by kernel_rfl) (by kernel_rfl) (by exact fun _ _ _ h => h) (Or.inl ⟨by rfl, ?_⟩) (by assumption) ?_
        rotate_left
        · intro wS hSw
          go_simp
          all_goals first | with_reducible rfl | rw [if_neg (by omega)]
        simp only [Act.put, List.setIfInBounds_toArray, List.set]
        refine wpAnyH_take (i := 10) (oi := _) (v := ?_) (by (simp only [List.getElem?_toArray]; rfl)) (by kernel_rfl) (by kernel_rfl) (by kernel_rfl) (by exact fun _ _ _ h => h) (Or.inl ⟨by rfl, ?_⟩) (by assumption) ?_
        rotate_left
        · intro wS hSw
          go_simp
          all_goals first | with_reducible rfl | rw [if_neg (by omega)]
        simp only [Act.put, List.setIfInBounds_toArray, List.set]
        refine wpAnyH_take (i := 11) (oi := _) (v := ?_) (by (simp only [List.getElem?_toArray]; rfl)) (by kernel_rfl) (by kernel_rfl) (by kernel_rfl) (by exact fun _ _ _ h => h) (Or.inl ⟨by rfl, ?_⟩) (by assumption) ?_
        rotate_left
        · intro wS hSw
          go_simp
          all_goals first | with_reducible rfl | rw [if_neg (by omega)]
        simp only [Act.put, List.setIfInBounds_toArray, List.set]
        refine wpAnyH_take (i := 13) (oi := _) (v := ?_) (by (simp only [List.getElem?_toArray]; rfl)) (by kernel_rfl) (by kernel_rfl) (by kernel_rfl) (by exact fun _ _ _ h => h) (Or.inl ⟨by rfl, ?_⟩) (by assumption) ?_
        rotate_left
        · intro wS hSw
          go_simp
          all_goals first | with_reducible rfl | rw [if_neg (by omega)]
        simp only [Act.put, List.setIfInBounds_toArray, List.set]
        refine wpAnyH_take (i := 14) (oi := _) (v := ?_) (by (simp only [List.getElem?_toArray]; rfl)) (by kernel_rfl) (by kernel_rfl) (by kernel_rfl) (by exact fun _ _ _ h => h) (Or.inl ⟨by rfl, ?_⟩) (by assumption) ?_
        rotate_left
        · intro wS hSw
          go_simp
          all_goals first | with_reducible rfl | rw [if_neg (by omega)]
        simp only [Act.put, List.setIfInBounds_toArray, List.set]
        refine wpAnyH_take (i := 15) (oi := _) (v := ?_) (by (simp only [List.getElem?_toArray]; rfl)) (by kernel_rfl) (by kernel_rfl) (by kernel_rfl) (by exact fun _ _ _ h => h) (Or.inl ⟨by rfl, ?_⟩) (by assumption) ?_
        rotate_left
        · intro wS hSw
          go_simp
          all_goals first | with_reducible rfl | rw [if_neg (by omega)]
        simp only [Act.put, List.setIfInBounds_toArray, List.set]
        refine wpAnyH_take (i := 17) (oi := _) (v := ?_) (by (simp only [List.getElem?_toArray]; rfl)) (by kernel_rfl) (by kernel_rfl) (by kernel_rfl) (by exact fun _ _ _ h => h) (Or.inl ⟨by rfl, ?_⟩) (by assumption) ?_
        rotate_left
        · intro wS hSw
          go_simp
          all_goals first | with_reducible rfl | rw [if_neg (by omega)]
        simp only [Act.put, List.setIfInBounds_toArray, List.set]
        refine wpAnyH_take (i := 18) (oi := _) (v := ?_) (by (simp only [List.getElem?_toArray]; rfl)) (by kernel_rfl) (by kernel_rfl) (by kernel_rfl) (by exact fun _ _ _ h => h) (Or.inl ⟨by rfl, ?_⟩) (by assumption) ?_
        rotate_left
        · intro wS hSw
          go_simp
          all_goals first | with_reducible rfl | rw [if_neg (by omega)]
        simp only [Act.put, List.setIfInBounds_toArray, List.set]
        refine wpAnyH_take (i := 19) (oi := _) (v := ?_) (by (simp only [List.getElem?_toArray]; rfl)) (by kernel_rfl) (by kernel_rfl) (by kernel_rfl) (by exact fun _ _ _ h => h) (Or.inl ⟨by rfl, ?_⟩) (by assumption) ?_
        rotate_left
        · intro wS hSw
          go_simp
          all_goals first | with_reducible rfl | rw [if_neg (by omega)]
        simp only [Act.put, List.setIfInBounds_toArray, List.set]
        refine wpAnyH_ready (rs := [3, 22]) (by kernel_rfl) (by simp) ?_
        refine AllReadyH.cons (o := _) (by (simp only [List.getElem?_toArray]; rfl)) (fun K hK => ?_) ?_
        · skip
          go_simp
          refine (N0.out wd (EE.out.below (K1.trans (RK.out.2.mono K1.size)))).mono ?_
          rintro e wCRK ⟨rfl, kk⟩
          have kCRK := Lib.hid (KeptB.next (Nat.le_refl _) RK.out kk)
          clear kk
          refine hK.out _ _ kCRK.out (fun hHeld => ?_)
          clear hK K hHeld
          try simp only [Act.put, List.setIfInBounds_toArray, List.set]
          refine wpAnyH_ready (rs := [7, 22]) (by kernel_rfl) (by simp) ?_
          refine AllReadyH.cons (o := _) (by (simp only [List.getElem?_toArray]; rfl)) (fun K hK => ?_) ?_
          · skip
            go_simp
            refine (N1.out wCRK (EE.out.below (K1.trans (kCRK.out.2.mono K1.size)))).mono ?_
            rintro e wCkCRK ⟨rfl, kk⟩
            have kCkCRK := Lib.hid (KeptB.next (Nat.le_refl _) kCRK.out kk)
            clear kk
            refine hK.out _ _ kCkCRK.out (fun hHeld => ?_)
            clear hK K hHeld
            try simp only [Act.put, List.setIfInBounds_toArray, List.set]
            refine wpAnyH_ready (rs := [12, 22]) (by kernel_rfl) (by simp) ?_
            refine AllReadyH.cons (o := _) (by (simp only [List.getElem?_toArray]; rfl)) (fun K hK => ?_) ?_
            · skip
              go_simp
              refine (IX.out wCkCRK (fun j hj => (kCkCRK.out.1 _ _ hbw).trans (hwc.out j hj))).mono ?_
              rintro e _ ⟨rfl, rfl⟩
              refine hK.out _ _ kCkCRK.out (fun hHeld => ?_)
              clear hK K hHeld
              try simp only [Act.put, List.setIfInBounds_toArray, List.set]
              refine wpAnyH_ready (rs := [16, 22]) (by kernel_rfl) (by simp) ?_
              refine AllReadyH.cons (o := _) (by (simp only [List.getElem?_toArray]; rfl)) (fun K hK => ?_) ?_
              · skip
                go_simp
                refine (N3.out wCkCRK (EE.out.below (K1.trans (kCkCRK.out.2.mono K1.size)))).mono ?_
                rintro e wCkCkCRK ⟨rfl, kk⟩
                have kCkCkCRK := Lib.hid (KeptB.next (Nat.le_refl _) kCkCRK.out kk)
                clear kk
                refine hK.out _ _ kCkCkCRK.out (fun hHeld => ?_)
                clear hK K hHeld
                try simp only [Act.put, List.setIfInBounds_toArray, List.set]
                refine wpAnyH_ready (rs := [20, 22]) (by kernel_rfl) (by simp) ?_
                refine AllReadyH.cons (o := _) (by (simp only [List.getElem?_toArray]; rfl)) (fun K hK => ?_) ?_
                · skip
                  go_simp
                  refine (N4.out wCkCkCRK (EE.out.below (K1.trans (kCkCkCRK.out.2.mono K1.size)))).mono ?_
                  rintro e wCkCkCkCRK ⟨rfl, kk⟩
                  have kCkCkCkCRK := Lib.hid (KeptB.next (Nat.le_refl _) kCkCkCRK.out kk)
                  clear kk
                  refine hK.out _ _ kCkCkCkCRK.out (fun hHeld => ?_)
                  clear hK K hHeld
                  try simp only [Act.put, List.setIfInBounds_toArray, List.set]
                  refine wpAnyH_take (i := 21) (oi := _) (v := ?_) (by (simp only [List.getElem?_toArray]; rfl)) (by kernel_rfl) (by kernel_rfl) (by kernel_rfl) (by exact fun _ _ _ h => h) (Or.inl ⟨by rfl, ?_⟩) (by assumption) ?_
                  rotate_left
                  · intro wS hSw
                    go_simp
                    all_goals first | with_reducible rfl | rw [if_neg (by omega)]
                  simp only [Act.put, List.setIfInBounds_toArray, List.set]
                  refine wpAnyH_ready (rs := [22]) (by kernel_rfl) (by simp) ?_
                  refine AllReadyH.cons (o := _) (by (simp only [List.getElem?_toArray]; rfl)) (fun K hK => ?_) AllReadyH.nil
                  refine stepAlloc (by rfl) (by rfl) (z := .agg #[.int .i64 0, .int .i64 0, .int .i64 0, .int .i64 0, .int .i64 0]) (cs := #[.int .i64 0, .int .i64 0, .int .i64 0, .int .i64 0, .int .i64 0]) (by kernel_rfl) rfl ?_
                  obtain ⟨wAkCkCkCkCRK, hw', sw', hv, kw'⟩ := blocks1 wCkCkCkCRK (.cells #[.int .i64 0, .int .i64 0, .int .i64 0, .int .i64 0, .int .i64 0] 46)
                  rw [← hw']
                  clear hw' sw'
                  have kAkCkCkCkCRK := Lib.hid (KeptB.next (Nat.le_refl _) kCkCkCkCRK.out kw')
                  have hvx : w1.heap.size ≤ wCkCkCkCRK.heap.size := kCkCkCkCRK.out.2.size
                  clear kw'
                  refine hK.out _ _ kAkCkCkCkCRK.out (fun hHeld => ?_)
                  clear hK K hHeld
                  try simp only [Act.put, List.setIfInBounds_toArray, List.set]
                  refine wpAnyH_ready (rs := [23]) (by kernel_rfl) (by simp) ?_
                  refine AllReadyH.cons (o := _) (by (simp only [List.getElem?_toArray]; rfl)) (fun K hK => ?_) AllReadyH.nil
                  have cv := cell_of_block hv
                  have fv := unfrozen_of_block hv
                  have lv := lt_of_block hv
                  go_simp
                  have kSkAkCkCkCkCRK := Lib.hid (KeptB.set (p := ⟨wCkCkCkCRK.heap.size, 4, none⟩) hvx (.int .i64 z4) (KeptB.set (p := ⟨wCkCkCkCRK.heap.size, 3, none⟩) hvx (.int .i64 z3) (KeptB.set (p := ⟨wCkCkCkCRK.heap.size, 2, none⟩) hvx (.int .i64 z2) (KeptB.set (p := ⟨wCkCkCkCRK.heap.size, 1, none⟩) hvx (.int .i64 z1) (KeptB.set (p := ⟨wCkCkCkCRK.heap.size, 0, none⟩) hvx (.int .i64 z0) kAkCkCkCkCRK.out)))))
                  replace hv := block_set5 hv (.int .i64 z0) (.int .i64 z1) (.int .i64 z2) (.int .i64 z3) (.int .i64 z4)
                  clear cv fv
                  refine hK.out _ _ kSkAkCkCkCkCRK.out (fun hHeld => ?_)
                  clear hK K hHeld
                  try simp only [Act.put, List.setIfInBounds_toArray, List.set]
                  refine hfin wCkCkCkCRK.heap.size _ _ _ (by kernel_rfl) ?_ ⟨kSkAkCkCkCkCRK.out, hv, hvx⟩
                  simp only [List.setIfInBounds_toArray, List.set]
                refine AllReadyH.cons (o := _) (by (simp only [List.getElem?_toArray]; rfl)) (fun K hK => ?_) ?_
                · skip
                  refine stepAlloc (by rfl) (by rfl) (z := .agg #[.int .i64 0, .int .i64 0, .int .i64 0, .int .i64 0, .int .i64 0]) (cs := #[.int .i64 0, .int .i64 0, .int .i64 0, .int .i64 0, .int .i64 0]) (by kernel_rfl) rfl ?_
                  obtain ⟨wAkCkCkCRK, hw', sw', hv, kw'⟩ := blocks1 wCkCkCRK (.cells #[.int .i64 0, .int .i64 0, .int .i64 0, .int .i64 0, .int .i64 0] 46)
                  rw [← hw']
                  clear hw' sw'
                  have kAkCkCkCRK := Lib.hid (KeptB.next (Nat.le_refl _) kCkCkCRK.out kw')
                  have hvx : w1.heap.size ≤ wCkCkCRK.heap.size := kCkCkCRK.out.2.size
                  clear kw'
                  refine hK.out _ _ kAkCkCkCRK.out (fun hHeld => ?_)
                  clear hK K hHeld
                  try simp only [Act.put, List.setIfInBounds_toArray, List.set]
                  refine wpAnyH_ready (rs := [20]) (by kernel_rfl) (by simp) ?_
                  refine AllReadyH.cons (o := _) (by (simp only [List.getElem?_toArray]; rfl)) (fun K hK => ?_) AllReadyH.nil
                  go_simp
                  refine (N4.out wAkCkCkCRK (EE.out.below (K1.trans (kAkCkCkCRK.out.2.mono K1.size)))).mono ?_
                  rintro e wCkAkCkCkCRK ⟨rfl, kk⟩
                  have kCkAkCkCkCRK := Lib.hid (KeptB.next (Nat.le_refl _) kAkCkCkCRK.out kk)
                  replace hv := (kk.block _ (lt_of_block hv)).trans hv
                  clear kk
                  refine hK.out _ _ kCkAkCkCkCRK.out (fun hHeld => ?_)
                  clear hK K hHeld
                  try simp only [Act.put, List.setIfInBounds_toArray, List.set]
                  refine wpAnyH_take (i := 21) (oi := _) (v := ?_) (by (simp only [List.getElem?_toArray]; rfl)) (by kernel_rfl) (by kernel_rfl) (by kernel_rfl) (by exact fun _ _ _ h => h) (Or.inl ⟨by rfl, ?_⟩) (by assumption) ?_
                  rotate_left
                  · intro wS hSw
                    go_simp
                    all_goals first | with_reducible rfl | rw [if_neg (by omega)]
                  simp only [Act.put, List.setIfInBounds_toArray, List.set]
                  refine wpAnyH_ready (rs := [23]) (by kernel_rfl) (by simp) ?_
                  refine AllReadyH.cons (o := _) (by (simp only [List.getElem?_toArray]; rfl)) (fun K hK => ?_) AllReadyH.nil
                  have cv := cell_of_block hv
                  have fv := unfrozen_of_block hv
                  have lv := lt_of_block hv
                  go_simp
                  have kSkCkAkCkCkCRK := Lib.hid (KeptB.set (p := ⟨wCkCkCRK.heap.size, 4, none⟩) hvx (.int .i64 z4) (KeptB.set (p := ⟨wCkCkCRK.heap.size, 3, none⟩) hvx (.int .i64 z3) (KeptB.set (p := ⟨wCkCkCRK.heap.size, 2, none⟩) hvx (.int .i64 z2) (KeptB.set (p := ⟨wCkCkCRK.heap.size, 1, none⟩) hvx (.int .i64 z1) (KeptB.set (p := ⟨wCkCkCRK.heap.size, 0, none⟩) hvx (.int .i64 z0) kCkAkCkCkCRK.out)))))
                  replace hv := block_set5 hv (.int .i64 z0) (.int .i64 z1) (.int .i64 z2) (.int .i64 z3) (.int .i64 z4)
                  clear cv fv
                  refine hK.out _ _ kSkCkAkCkCkCRK.out (fun hHeld => ?_)
                  clear hK K hHeld
                  try simp only [Act.put, List.setIfInBounds_toArray, List.set]
                  refine hfin wCkCkCRK.heap.size _ _ _ (by kernel_rfl) ?_ ⟨kSkCkAkCkCkCRK.out, hv, hvx⟩
                  simp only [List.setIfInBounds_toArray, List.set]
                exact AllReadyH.nil
              refine AllReadyH.cons (o := _) (by (simp only [List.getElem?_toArray]; rfl)) (fun K hK => ?_) ?_
              · skip
                refine stepAlloc (by rfl) (by rfl) (z := .agg #[.int .i64 0, .int .i64 0, .int .i64 0, .int .i64 0, .int .i64 0]) (cs := #[.int .i64 0, .int .i64 0, .int .i64 0, .int .i64 0, .int .i64 0]) (by kernel_rfl) rfl ?_
                obtain ⟨wAkCkCRK, hw', sw', hv, kw'⟩ := blocks1 wCkCRK (.cells #[.int .i64 0, .int .i64 0, .int .i64 0, .int .i64 0, .int .i64 0] 46)
                rw [← hw']
                clear hw' sw'
                have kAkCkCRK := Lib.hid (KeptB.next (Nat.le_refl _) kCkCRK.out kw')
                have hvx : w1.heap.size ≤ wCkCRK.heap.size := kCkCRK.out.2.size
                clear kw'
                refine hK.out _ _ kAkCkCRK.out (fun hHeld => ?_)
                clear hK K hHeld
                try simp only [Act.put, List.setIfInBounds_toArray, List.set]
                refine wpAnyH_ready (rs := [16]) (by kernel_rfl) (by simp) ?_
                refine AllReadyH.cons (o := _) (by (simp only [List.getElem?_toArray]; rfl)) (fun K hK => ?_) AllReadyH.nil
                go_simp
                refine (N3.out wAkCkCRK (EE.out.below (K1.trans (kAkCkCRK.out.2.mono K1.size)))).mono ?_
                rintro e wCkAkCkCRK ⟨rfl, kk⟩
                have kCkAkCkCRK := Lib.hid (KeptB.next (Nat.le_refl _) kAkCkCRK.out kk)
                replace hv := (kk.block _ (lt_of_block hv)).trans hv
                clear kk
                refine hK.out _ _ kCkAkCkCRK.out (fun hHeld => ?_)
                clear hK K hHeld
                try simp only [Act.put, List.setIfInBounds_toArray, List.set]
                refine wpAnyH_ready (rs := [20]) (by kernel_rfl) (by simp) ?_
                refine AllReadyH.cons (o := _) (by (simp only [List.getElem?_toArray]; rfl)) (fun K hK => ?_) AllReadyH.nil
                go_simp
                refine (N4.out wCkAkCkCRK (EE.out.below (K1.trans (kCkAkCkCRK.out.2.mono K1.size)))).mono ?_
                rintro e wCkCkAkCkCRK ⟨rfl, kk⟩
                have kCkCkAkCkCRK := Lib.hid (KeptB.next (Nat.le_refl _) kCkAkCkCRK.out kk)
                replace hv := (kk.block _ (lt_of_block hv)).trans hv
                clear kk
                refine hK.out _ _ kCkCkAkCkCRK.out (fun hHeld => ?_)
                clear hK K hHeld
                try simp only [Act.put, List.setIfInBounds_toArray, List.set]
                refine wpAnyH_take (i := 21) (oi := _) (v := ?_) (by (simp only [List.getElem?_toArray]; rfl)) (by kernel_rfl) (by kernel_rfl) (by kernel_rfl) (by exact fun _ _ _ h => h) (Or.inl ⟨by rfl, ?_⟩) (by assumption) ?_
                rotate_left
                · intro wS hSw
                  go_simp
                  all_goals first | with_reducible rfl | rw [if_neg (by omega)]
                simp only [Act.put, List.setIfInBounds_toArray, List.set]
                refine wpAnyH_ready (rs := [23]) (by kernel_rfl) (by simp) ?_
                refine AllReadyH.cons (o := _) (by (simp only [List.getElem?_toArray]; rfl)) (fun K hK => ?_) AllReadyH.nil
                have cv := cell_of_block hv
                have fv := unfrozen_of_block hv
                have lv := lt_of_block hv
                go_simp
                have kSkCkCkAkCkCRK := Lib.hid (KeptB.set (p := ⟨wCkCRK.heap.size, 4, none⟩) hvx (.int .i64 z4) (KeptB.set (p := ⟨wCkCRK.heap.size, 3, none⟩) hvx (.int .i64 z3) (KeptB.set (p := ⟨wCkCRK.heap.size, 2, none⟩) hvx (.int .i64 z2) (KeptB.set (p := ⟨wCkCRK.heap.size, 1, none⟩) hvx (.int .i64 z1) (KeptB.set (p := ⟨wCkCRK.heap.size, 0, none⟩) hvx (.int .i64 z0) kCkCkAkCkCRK.out)))))
                replace hv := block_set5 hv (.int .i64 z0) (.int .i64 z1) (.int .i64 z2) (.int .i64 z3) (.int .i64 z4)
                clear cv fv
                refine hK.out _ _ kSkCkCkAkCkCRK.out (fun hHeld => ?_)
                clear hK K hHeld
                try simp only [Act.put, List.setIfInBounds_toArray, List.set]
                refine hfin wCkCRK.heap.size _ _ _ (by kernel_rfl) ?_ ⟨kSkCkCkAkCkCRK.out, hv, hvx⟩
                simp only [List.setIfInBounds_toArray, List.set]
              exact AllReadyH.nil
            refine AllReadyH.cons (o := _) (by (simp only [List.getElem?_toArray]; rfl)) (fun K hK => ?_) ?_
            · skip
              refine stepAlloc (by rfl) (by rfl) (z := .agg #[.int .i64 0, .int .i64 0, .int .i64 0, .int .i64 0, .int .i64 0]) (cs := #[.int .i64 0, .int .i64 0, .int .i64 0, .int .i64 0, .int .i64 0]) (by kernel_rfl) rfl ?_
              obtain ⟨wAkCkCRK, hw', sw', hv, kw'⟩ := blocks1 wCkCRK (.cells #[.int .i64 0, .int .i64 0, .int .i64 0, .int .i64 0, .int .i64 0] 46)
              rw [← hw']
              clear hw' sw'
              have kAkCkCRK := Lib.hid (KeptB.next (Nat.le_refl _) kCkCRK.out kw')
              have hvx : w1.heap.size ≤ wCkCRK.heap.size := kCkCRK.out.2.size
              clear kw'
              refine hK.out _ _ kAkCkCRK.out (fun hHeld => ?_)
              clear hK K hHeld
              try simp only [Act.put, List.setIfInBounds_toArray, List.set]
              refine wpAnyH_ready (rs := [12]) (by kernel_rfl) (by simp) ?_
              refine AllReadyH.cons (o := _) (by (simp only [List.getElem?_toArray]; rfl)) (fun K hK => ?_) AllReadyH.nil
              go_simp
              refine (IX.out wAkCkCRK (fun j hj => (kAkCkCRK.out.1 _ _ hbw).trans (hwc.out j hj))).mono ?_
              rintro e _ ⟨rfl, rfl⟩
              refine hK.out _ _ kAkCkCRK.out (fun hHeld => ?_)
              clear hK K hHeld
              try simp only [Act.put, List.setIfInBounds_toArray, List.set]
              refine wpAnyH_ready (rs := [16]) (by kernel_rfl) (by simp) ?_
              refine AllReadyH.cons (o := _) (by (simp only [List.getElem?_toArray]; rfl)) (fun K hK => ?_) AllReadyH.nil
              go_simp
              refine (N3.out wAkCkCRK (EE.out.below (K1.trans (kAkCkCRK.out.2.mono K1.size)))).mono ?_
              rintro e wCkAkCkCRK ⟨rfl, kk⟩
              have kCkAkCkCRK := Lib.hid (KeptB.next (Nat.le_refl _) kAkCkCRK.out kk)
              replace hv := (kk.block _ (lt_of_block hv)).trans hv
              clear kk
              refine hK.out _ _ kCkAkCkCRK.out (fun hHeld => ?_)
              clear hK K hHeld
              try simp only [Act.put, List.setIfInBounds_toArray, List.set]
              refine wpAnyH_ready (rs := [20]) (by kernel_rfl) (by simp) ?_
              refine AllReadyH.cons (o := _) (by (simp only [List.getElem?_toArray]; rfl)) (fun K hK => ?_) AllReadyH.nil
              go_simp
              refine (N4.out wCkAkCkCRK (EE.out.below (K1.trans (kCkAkCkCRK.out.2.mono K1.size)))).mono ?_
              rintro e wCkCkAkCkCRK ⟨rfl, kk⟩
              have kCkCkAkCkCRK := Lib.hid (KeptB.next (Nat.le_refl _) kCkAkCkCRK.out kk)
              replace hv := (kk.block _ (lt_of_block hv)).trans hv
              clear kk
              refine hK.out _ _ kCkCkAkCkCRK.out (fun hHeld => ?_)
              clear hK K hHeld
              try simp only [Act.put, List.setIfInBounds_toArray, List.set]
              refine wpAnyH_take (i := 21) (oi := _) (v := ?_) (by (simp only [List.getElem?_toArray]; rfl)) (by kernel_rfl) (by kernel_rfl) (by kernel_rfl) (by exact fun _ _ _ h => h) (Or.inl ⟨by rfl, ?_⟩) (by assumption) ?_
              rotate_left
              · intro wS hSw
                go_simp
                all_goals first | with_reducible rfl | rw [if_neg (by omega)]
              simp only [Act.put, List.setIfInBounds_toArray, List.set]
              refine wpAnyH_ready (rs := [23]) (by kernel_rfl) (by simp) ?_
              refine AllReadyH.cons (o := _) (by (simp only [List.getElem?_toArray]; rfl)) (fun K hK => ?_) AllReadyH.nil
              have cv := cell_of_block hv
              have fv := unfrozen_of_block hv
              have lv := lt_of_block hv
              go_simp
              have kSkCkCkAkCkCRK := Lib.hid (KeptB.set (p := ⟨wCkCRK.heap.size, 4, none⟩) hvx (.int .i64 z4) (KeptB.set (p := ⟨wCkCRK.heap.size, 3, none⟩) hvx (.int .i64 z3) (KeptB.set (p := ⟨wCkCRK.heap.size, 2, none⟩) hvx (.int .i64 z2) (KeptB.set (p := ⟨wCkCRK.heap.size, 1, none⟩) hvx (.int .i64 z1) (KeptB.set (p := ⟨wCkCRK.heap.size, 0, none⟩) hvx (.int .i64 z0) kCkCkAkCkCRK.out)))))
              replace hv := block_set5 hv (.int .i64 z0) (.int .i64 z1) (.int .i64 z2) (.int .i64 z3) (.int .i64 z4)
              clear cv fv
              refine hK.out _ _ kSkCkCkAkCkCRK.out (fun hHeld => ?_)
              clear hK K hHeld
              try simp only [Act.put, List.setIfInBounds_toArray, List.set]
              refine hfin wCkCRK.heap.size _ _ _ (by kernel_rfl) ?_ ⟨kSkCkCkAkCkCRK.out, hv, hvx⟩
              simp only [List.setIfInBounds_toArray, List.set]
            exact AllReadyH.nil
          refine AllReadyH.cons (o := _) (by (simp only [List.getElem?_toArray]; rfl)) (fun K hK => ?_) ?_
          · skip
            refine stepAlloc (by rfl) (by rfl) (z := .agg #[.int .i64 0, .int .i64 0, .int .i64 0, .int .i64 0, .int .i64 0]) (cs := #[.int .i64 0, .int .i64 0, .int .i64 0, .int .i64 0, .int .i64 0]) (by kernel_rfl) rfl ?_
            obtain ⟨wAkCRK, hw', sw', hv, kw'⟩ := blocks1 wCRK (.cells #[.int .i64 0, .int .i64 0, .int .i64 0, .int .i64 0, .int .i64 0] 46)
            rw [← hw']
            clear hw' sw'
            have kAkCRK := Lib.hid (KeptB.next (Nat.le_refl _) kCRK.out kw')
            have hvx : w1.heap.size ≤ wCRK.heap.size := kCRK.out.2.size
            clear kw'
            refine hK.out _ _ kAkCRK.out (fun hHeld => ?_)
            clear hK K hHeld
            try simp only [Act.put, List.setIfInBounds_toArray, List.set]
            refine wpAnyH_ready (rs := [7]) (by kernel_rfl) (by simp) ?_
            refine AllReadyH.cons (o := _) (by (simp only [List.getElem?_toArray]; rfl)) (fun K hK => ?_) AllReadyH.nil
            go_simp
            refine (N1.out wAkCRK (EE.out.below (K1.trans (kAkCRK.out.2.mono K1.size)))).mono ?_
            rintro e wCkAkCRK ⟨rfl, kk⟩
            have kCkAkCRK := Lib.hid (KeptB.next (Nat.le_refl _) kAkCRK.out kk)
            replace hv := (kk.block _ (lt_of_block hv)).trans hv
            clear kk
            refine hK.out _ _ kCkAkCRK.out (fun hHeld => ?_)
            clear hK K hHeld
            try simp only [Act.put, List.setIfInBounds_toArray, List.set]
            refine wpAnyH_ready (rs := [12]) (by kernel_rfl) (by simp) ?_
            refine AllReadyH.cons (o := _) (by (simp only [List.getElem?_toArray]; rfl)) (fun K hK => ?_) AllReadyH.nil
            go_simp
            refine (IX.out wCkAkCRK (fun j hj => (kCkAkCRK.out.1 _ _ hbw).trans (hwc.out j hj))).mono ?_
            rintro e _ ⟨rfl, rfl⟩
            refine hK.out _ _ kCkAkCRK.out (fun hHeld => ?_)
            clear hK K hHeld
            try simp only [Act.put, List.setIfInBounds_toArray, List.set]
            refine wpAnyH_ready (rs := [16]) (by kernel_rfl) (by simp) ?_
            refine AllReadyH.cons (o := _) (by (simp only [List.getElem?_toArray]; rfl)) (fun K hK => ?_) AllReadyH.nil
            go_simp
            refine (N3.out wCkAkCRK (EE.out.below (K1.trans (kCkAkCRK.out.2.mono K1.size)))).mono ?_
            rintro e wCkCkAkCRK ⟨rfl, kk⟩
            have kCkCkAkCRK := Lib.hid (KeptB.next (Nat.le_refl _) kCkAkCRK.out kk)
            replace hv := (kk.block _ (lt_of_block hv)).trans hv
            clear kk
            refine hK.out _ _ kCkCkAkCRK.out (fun hHeld => ?_)
            clear hK K hHeld
            try simp only [Act.put, List.setIfInBounds_toArray, List.set]
            refine wpAnyH_ready (rs := [20]) (by kernel_rfl) (by simp) ?_
            refine AllReadyH.cons (o := _) (by (simp only [List.getElem?_toArray]; rfl)) (fun K hK => ?_) AllReadyH.nil
            go_simp
            refine (N4.out wCkCkAkCRK (EE.out.below (K1.trans (kCkCkAkCRK.out.2.mono K1.size)))).mono ?_
            rintro e wCkCkCkAkCRK ⟨rfl, kk⟩
            have kCkCkCkAkCRK := Lib.hid (KeptB.next (Nat.le_refl _) kCkCkAkCRK.out kk)
            replace hv := (kk.block _ (lt_of_block hv)).trans hv
            clear kk
            refine hK.out _ _ kCkCkCkAkCRK.out (fun hHeld => ?_)
            clear hK K hHeld
            try simp only [Act.put, List.setIfInBounds_toArray, List.set]
            refine wpAnyH_take (i := 21) (oi := _) (v := ?_) (by (simp only [List.getElem?_toArray]; rfl)) (by kernel_rfl) (by kernel_rfl) (by kernel_rfl) (by exact fun _ _ _ h => h) (Or.inl ⟨by rfl, ?_⟩) (by assumption) ?_
            rotate_left
            · intro wS hSw
              go_simp
              all_goals first | with_reducible rfl | rw [if_neg (by omega)]
            simp only [Act.put, List.setIfInBounds_toArray, List.set]
            refine wpAnyH_ready (rs := [23]) (by kernel_rfl) (by simp) ?_
            refine AllReadyH.cons (o := _) (by (simp only [List.getElem?_toArray]; rfl)) (fun K hK => ?_) AllReadyH.nil
            have cv := cell_of_block hv
            have fv := unfrozen_of_block hv
            have lv := lt_of_block hv
            go_simp
            have kSkCkCkCkAkCRK := Lib.hid (KeptB.set (p := ⟨wCRK.heap.size, 4, none⟩) hvx (.int .i64 z4) (KeptB.set (p := ⟨wCRK.heap.size, 3, none⟩) hvx (.int .i64 z3) (KeptB.set (p := ⟨wCRK.heap.size, 2, none⟩) hvx (.int .i64 z2) (KeptB.set (p := ⟨wCRK.heap.size, 1, none⟩) hvx (.int .i64 z1) (KeptB.set (p := ⟨wCRK.heap.size, 0, none⟩) hvx (.int .i64 z0) kCkCkCkAkCRK.out)))))
            replace hv := block_set5 hv (.int .i64 z0) (.int .i64 z1) (.int .i64 z2) (.int .i64 z3) (.int .i64 z4)
            clear cv fv
            refine hK.out _ _ kSkCkCkCkAkCRK.out (fun hHeld => ?_)
            clear hK K hHeld
            try simp only [Act.put, List.setIfInBounds_toArray, List.set]
            refine hfin wCRK.heap.size _ _ _ (by kernel_rfl) ?_ ⟨kSkCkCkCkAkCRK.out, hv, hvx⟩
            simp only [List.setIfInBounds_toArray, List.set]
          exact AllReadyH.nil
        refine AllReadyH.cons (o := _) (by (simp only [List.getElem?_toArray]; rfl)) (fun K hK => ?_) ?_
        · skip
          refine stepAlloc (by rfl) (by rfl) (z := .agg #[.int .i64 0, .int .i64 0, .int .i64 0, .int .i64 0, .int .i64 0]) (cs := #[.int .i64 0, .int .i64 0, .int .i64 0, .int .i64 0, .int .i64 0]) (by kernel_rfl) rfl ?_
          obtain ⟨wARK, hw', sw', hv, kw'⟩ := blocks1 wd (.cells #[.int .i64 0, .int .i64 0, .int .i64 0, .int .i64 0, .int .i64 0] 46)
          rw [← hw']
          clear hw' sw'
          have kARK := Lib.hid (KeptB.next (Nat.le_refl _) RK.out kw')
          have hvx : w1.heap.size ≤ wd.heap.size := RK.out.2.size
          clear kw'
          refine hK.out _ _ kARK.out (fun hHeld => ?_)
          clear hK K hHeld
          try simp only [Act.put, List.setIfInBounds_toArray, List.set]
          refine wpAnyH_ready (rs := [3]) (by kernel_rfl) (by simp) ?_
          refine AllReadyH.cons (o := _) (by (simp only [List.getElem?_toArray]; rfl)) (fun K hK => ?_) AllReadyH.nil
          go_simp
          refine (N0.out wARK (EE.out.below (K1.trans (kARK.out.2.mono K1.size)))).mono ?_
          rintro e wCkARK ⟨rfl, kk⟩
          have kCkARK := Lib.hid (KeptB.next (Nat.le_refl _) kARK.out kk)
          replace hv := (kk.block _ (lt_of_block hv)).trans hv
          clear kk
          refine hK.out _ _ kCkARK.out (fun hHeld => ?_)
          clear hK K hHeld
          try simp only [Act.put, List.setIfInBounds_toArray, List.set]
          refine wpAnyH_ready (rs := [7]) (by kernel_rfl) (by simp) ?_
          refine AllReadyH.cons (o := _) (by (simp only [List.getElem?_toArray]; rfl)) (fun K hK => ?_) AllReadyH.nil
          go_simp
          refine (N1.out wCkARK (EE.out.below (K1.trans (kCkARK.out.2.mono K1.size)))).mono ?_
          rintro e wCkCkARK ⟨rfl, kk⟩
          have kCkCkARK := Lib.hid (KeptB.next (Nat.le_refl _) kCkARK.out kk)
          replace hv := (kk.block _ (lt_of_block hv)).trans hv
          clear kk
          refine hK.out _ _ kCkCkARK.out (fun hHeld => ?_)
          clear hK K hHeld
          try simp only [Act.put, List.setIfInBounds_toArray, List.set]
          refine wpAnyH_ready (rs := [12]) (by kernel_rfl) (by simp) ?_
          refine AllReadyH.cons (o := _) (by (simp only [List.getElem?_toArray]; rfl)) (fun K hK => ?_) AllReadyH.nil
          go_simp
          refine (IX.out wCkCkARK (fun j hj => (kCkCkARK.out.1 _ _ hbw).trans (hwc.out j hj))).mono ?_
          rintro e _ ⟨rfl, rfl⟩
          refine hK.out _ _ kCkCkARK.out (fun hHeld => ?_)
          clear hK K hHeld
          try simp only [Act.put, List.setIfInBounds_toArray, List.set]
          refine wpAnyH_ready (rs := [16]) (by kernel_rfl) (by simp) ?_
          refine AllReadyH.cons (o := _) (by (simp only [List.getElem?_toArray]; rfl)) (fun K hK => ?_) AllReadyH.nil
          go_simp
          refine (N3.out wCkCkARK (EE.out.below (K1.trans (kCkCkARK.out.2.mono K1.size)))).mono ?_
          rintro e wCkCkCkARK ⟨rfl, kk⟩
          have kCkCkCkARK := Lib.hid (KeptB.next (Nat.le_refl _) kCkCkARK.out kk)
          replace hv := (kk.block _ (lt_of_block hv)).trans hv
          clear kk
          refine hK.out _ _ kCkCkCkARK.out (fun hHeld => ?_)
          clear hK K hHeld
          try simp only [Act.put, List.setIfInBounds_toArray, List.set]
          refine wpAnyH_ready (rs := [20]) (by kernel_rfl) (by simp) ?_
          refine AllReadyH.cons (o := _) (by (simp only [List.getElem?_toArray]; rfl)) (fun K hK => ?_) AllReadyH.nil
          go_simp
          refine (N4.out wCkCkCkARK (EE.out.below (K1.trans (kCkCkCkARK.out.2.mono K1.size)))).mono ?_
          rintro e wCkCkCkCkARK ⟨rfl, kk⟩
          have kCkCkCkCkARK := Lib.hid (KeptB.next (Nat.le_refl _) kCkCkCkARK.out kk)
          replace hv := (kk.block _ (lt_of_block hv)).trans hv
          clear kk
          refine hK.out _ _ kCkCkCkCkARK.out (fun hHeld => ?_)
          clear hK K hHeld
          try simp only [Act.put, List.setIfInBounds_toArray, List.set]
          refine wpAnyH_take (i := 21) (oi := _) (v := ?_) (by (simp only [List.getElem?_toArray]; rfl)) (by kernel_rfl) (by kernel_rfl) (by kernel_rfl) (by exact fun _ _ _ h => h) (Or.inl ⟨by rfl, ?_⟩) (by assumption) ?_
          rotate_left
          · intro wS hSw
            go_simp
            all_goals first | with_reducible rfl | rw [if_neg (by omega)]
          simp only [Act.put, List.setIfInBounds_toArray, List.set]
          refine wpAnyH_ready (rs := [23]) (by kernel_rfl) (by simp) ?_
          refine AllReadyH.cons (o := _) (by (simp only [List.getElem?_toArray]; rfl)) (fun K hK => ?_) AllReadyH.nil
          have cv := cell_of_block hv
          have fv := unfrozen_of_block hv
          have lv := lt_of_block hv
          go_simp
          have kSkCkCkCkCkARK := Lib.hid (KeptB.set (p := ⟨wd.heap.size, 4, none⟩) hvx (.int .i64 z4) (KeptB.set (p := ⟨wd.heap.size, 3, none⟩) hvx (.int .i64 z3) (KeptB.set (p := ⟨wd.heap.size, 2, none⟩) hvx (.int .i64 z2) (KeptB.set (p := ⟨wd.heap.size, 1, none⟩) hvx (.int .i64 z1) (KeptB.set (p := ⟨wd.heap.size, 0, none⟩) hvx (.int .i64 z0) kCkCkCkCkARK.out)))))
          replace hv := block_set5 hv (.int .i64 z0) (.int .i64 z1) (.int .i64 z2) (.int .i64 z3) (.int .i64 z4)
          clear cv fv
          refine hK.out _ _ kSkCkCkCkCkARK.out (fun hHeld => ?_)
          clear hK K hHeld
          try simp only [Act.put, List.setIfInBounds_toArray, List.set]
          refine hfin wd.heap.size _ _ _ (by kernel_rfl) ?_ ⟨kSkCkCkCkCkARK.out, hv, hvx⟩
          simp only [List.setIfInBounds_toArray, List.set]
        exact AllReadyH.nil
      rintro x w2 ⟨kN, vN, xN⟩
      simp only [List.setIfInBounds_toArray, List.set]
      refine wpAnyH_done (by kernel_rfl) ?_ _
      have a2 := carryB kN.2 hal a1
      have K2 := K1.trans (kN.2.mono K1.size)
      have la := lt_of_block a2
      have cX := cell_of_block vN
      have lX := lt_of_block vN
      clear a1 K1 hal d0 d1 d2 d3 d4 N0 N1 N3 N4 IX hwc hw0 hbw hgw kN hHeld hcp
      go_wp2_with fail
      refine (ReqOk_c z0 z1 z2 z3 z4 _).mono ?_
      rintro e w4 ⟨rfl, k4⟩
      have K4 := below_next K2 k4
      have a4 := carryB k4 la a2
      have hX4 := carryB k4 lX vN
      clear cX la lX k4 a2 vN K2
      have ca := cell_of_block a4
      have fa := unfrozen_of_block a4
      have la := lt_of_block a4
      have cX := cell_of_block hX4
      have lX := lt_of_block hX4
      cases hok : okB z0 z1 z2 z3 z4 with
      | false =>
        obtain ⟨rfl, rfl⟩ := HG.out.uniq (HNO.out (fun _ h => by rw [hok] at h; cases h))
        go_wp2_with fail
        refine bodyPost_ret (v := .tuple #[.agg #[.int .i64 0, .int .i64 0, .int .i64 0, .int .i64 0, .int .i64 0], .bool false]) (by simp [results, Tryd.results27, go_sem, ca]) rfl ?_
        exact ⟨rfl, (by repeat' (first | with_reducible exact Below.refl _ _ | with_reducible assumption | with_reducible refine Below.alloc ?_ ?_ _ | with_reducible refine Below.drew ?_ | with_reducible refine Below.setCell ?_ ?_ _ | omega | (simp; omega) | (simp; done)))⟩
      | true =>
        have hrp : reqPutL ⟨z0, z1, z2, z3, z4⟩ = putL z0 z1 z2 z3 z4 := by
          rcases good_cases (good_ok (r := ⟨z0, z1, z2, z3, z4⟩) hok) with ⟨r0, -⟩ | ⟨-, e1, -⟩
          · rw [Rq.zero, Rq.mk.injEq] at r0
            obtain ⟨rfl, rfl, rfl, rfl, rfl⟩ := r0
            cases hok
          · exact e1
        have CP := Lib.hid (fun V E => ReqPut_c z0 z1 z2 z3 z4 V E)
        rw [hrp] at CP
        go_wp2_with fail
        refine (CP.out _ (EW.out.below K4)).mono ?_
        rintro e w5 ⟨rfl, k5⟩
        have K5 := below_next K4 k5
        have a5 := carryB k5 la a4
        have hX5 := carryB k5 lX hX4
        clear ca fa la cX lX k5 a4 hX4 K4 hrp CP
        have ca := cell_of_block a5
        have fa := unfrozen_of_block a5
        have la := lt_of_block a5
        have cX := cell_of_block hX5
        have lX := lt_of_block hX5
        by_cases hp : putL z0 z1 z2 z3 z4 = s.data.toList
        · obtain ⟨rfl, rfl⟩ := HG.out.uniq (HYES.out hok hp)
          have hbp : (putL z0 z1 z2 z3 z4 == s.toList) = true := by rw [ByteArray.toList_eq, hp]; simp
          clear hp
          generalize putL z0 z1 z2 z3 z4 = tx at *
          go_wp2_with fail
          refine bodyPost_ret (v := .tuple #[.agg #[.int .i64 z0, .int .i64 z1, .int .i64 z2, .int .i64 z3, .int .i64 z4], .bool true]) (by simp [results, Tryd.results27, go_sem, ca]) rfl ?_
          exact ⟨rfl, (by repeat' (first | with_reducible exact Below.refl _ _ | with_reducible assumption | with_reducible refine Below.alloc ?_ ?_ _ | with_reducible refine Below.drew ?_ | with_reducible refine Below.setCell ?_ ?_ _ | omega | (simp; omega) | (simp; done)))⟩
        · obtain ⟨rfl, rfl⟩ := HG.out.uniq (HNO.out (fun _ _ => hp))
          have hbp : (putL z0 z1 z2 z3 z4 == s.toList) = false := by rw [ByteArray.toList_eq]; simpa using hp
          clear hp
          generalize putL z0 z1 z2 z3 z4 = tx at *
          go_wp2_with fail
          refine bodyPost_ret (v := .tuple #[.agg #[.int .i64 0, .int .i64 0, .int .i64 0, .int .i64 0, .int .i64 0], .bool false]) (by simp [results, Tryd.results27, go_sem, ca]) rfl ?_
          exact ⟨rfl, (by repeat' (first | with_reducible exact Below.refl _ _ | with_reducible assumption | with_reducible refine Below.alloc ?_ ?_ _ | with_reducible refine Below.drew ?_ | with_reducible refine Below.setCell ?_ ?_ _ | omega | (simp; omega) | (simp; done)))⟩
    · obtain ⟨rfl, rfl⟩ := HG.out.uniq (HNO.out (fun h => absurd h h5))
      have hcp := hR.len
      generalize ps.length = n at *
      have h5' : ¬ (n : Int) = 5 := by omega
      have ca := cell_of_block a1
      have fa := unfrozen_of_block a1
      have la := lt_of_block a1
      go_wp2_with fail
      refine bodyPost_ret (v := .tuple #[.agg #[.int .i64 0, .int .i64 0, .int .i64 0, .int .i64 0, .int .i64 0], .bool false]) (by simp [results, Tryd.results27, go_sem, ca]) rfl ?_
      exact ⟨rfl, (by repeat' (first | with_reducible exact Below.refl _ _ | with_reducible assumption | with_reducible refine Below.alloc ?_ ?_ _ | with_reducible refine Below.drew ?_ | with_reducible refine Below.setCell ?_ ?_ _ | omega | (simp; omega) | (simp; done)))⟩
end Go.Proofs.YtilldpoleiippaaDoor

/-! The wrap of a law whose row lists variables, the world's shape handed on; what the reading texts ask of package variables; condition: what the row lists. -/
namespace Go.Proofs.YtilldpoleiippaaDoor
open Go.ChangeShapes Go.WideShapes Go.RowKit Go.Joins

theorem returnsInHanded_shaped {H : Type} {enc : TypeId × Value → H} {a : Assume} {C : Checked} {os : Os} {f : FuncId} {fn : Func} {s : ChangeSpec} {conds : List PathCond} {apart fresh handsOn again : Bool} {X : World → Array Value → Prop}
    (hX : ∀ (w w' : World) (args : Array Value), w.heap = w'.heap → X w args → X w' args)
    (own : ownKnob C.prog.godebug = none) (started : os.Started) (noInit : C.prog.inits.idxOf? f = none) (hfn : C.prog.funcs[f]? = some fn)
    (witness : ∃ (w : World) (tape : Tape) (i : Input), w.os = os ∧ (w.forCall tape i).Shaped C.prog ∧ i.vars = [] ∧ Input.okWide C.prog (w.forCall tape i) .any w.heap.size f i ∧
      ((s.pre enc C.prog fn conds apart (w.forCall tape i).memory i.args ∧ X (w.forCall tape i).memory i.args) ∧ sizedMet enc C.prog fn (OpenSpec.ofChange s) apart (w.forCall tape i).memory i.args) ∧ a.holds C.prog (lone (Frame.enter C.prog f i.args .normal) [] (w.forCall tape i)))
    (contract : ∀ (W : World) (base : Nat) (args : Array Value) (ds gs : List (DataW H)) (before : List MemPlace),
      (∀ (j : Nat) t v, fn.params[j]? = some t → args[j]? = some v → Value.okWide C.prog W .any base t v) →
      DataW.Whole enc C.prog fn.params.toList s.vars apart W args.toList ds gs before →
      X W args → W.ShapedOpen C.prog →
      Calls C.prog f args W fun e W' => ∃ v, e = .returned v ∧ s.post enc C.prog fn apart fresh handsOn again W args v W') :
    ReturnsInHanded a C os f .any (fun w args => (s.pre enc C.prog fn conds apart w args ∧ X w args) ∧ sizedMet enc C.prog fn (OpenSpec.ofChange s) apart w args) (s.post enc C.prog fn apart fresh handsOn again) := by
  refine returnsInHanded_of_calls own started noInit witness ?_
  intro w tape i _ hsh _ hok hpre _
  obtain ⟨_, _, _, fn', hfn', _, _, _, _, hval⟩ := hok
  have e : fn' = fn := Option.some.inj (hfn'.symm.trans hfn)
  subst e
  obtain ⟨⟨⟨ds, gs, before, hw, _⟩, hx⟩, _⟩ := hpre
  have hw' := DataW.Whole.of_heap (w' := w.forCall tape i) (by rfl) hw
  refine (contract (w.forCall tape i) w.heap.size i.args ds gs before hval hw' (hX _ _ _ (by rfl) hx) hsh).mono fun e W' ⟨v, he, hp⟩ => ?_
  subst he
  exact ChangeSpec.post_blind hp

/-- A listed sentinel: the variable's cell holds an interface value. -/
theorem sentinel_of_laid {P : Program} {n nm : String} {d : DataW Unit} {rest : List (String × DataW Unit)} {W : World} {g : Nat} {ti : TypeId} {ms : Array (String × TypeId)} (h : laidMet P ((n, .iface nm d) :: rest) W)
    (hg : P.globalNamed n = some g) (ht : (P.globals[g]?).map (·.type) = some ti) (hi : P.underlying ti = some (.interface ms)) : ∃ tp p, W.cell? ⟨g, 0, none⟩ = some (.iface tp p) := by
  obtain ⟨ps, ⟨g0, t0, cs0, f0, p0, q0, hg0, ht0, hv0, hd0, _, _⟩, _⟩ := h
  obtain rfl := Option.some.inj (hg.symm.trans hg0)
  obtain rfl := Option.some.inj (ht.symm.trans ht0)
  obtain ⟨l0⟩ := cs0
  obtain ⟨f1, u, v, e, -, -⟩ := iface_of_trod hi hd0
  simp only at e
  subst e
  exact ⟨u, v, by simpa using World.var?_cell hg hv0 0⟩
theorem syn_of_laid {W : World} {rest : List (String × DataW Unit)} (h : laidMet Tryd.prog (("strconv.ErrSyntax", Rows.laid_strconv_ErrSyntax) :: rest) W) : ∃ tp p, W.cell? ⟨2, 0, none⟩ = some (.iface tp p) :=
  sentinel_of_laid h (by kernel_rfl) (by kernel_rfl) Tryd.underlying80
theorem ran_of_laid {W : World} {rest : List (String × DataW Unit)} (h : laidMet Tryd.prog (("strconv.ErrRange", Rows.laid_strconv_ErrRange) :: rest) W) : ∃ tp p, W.cell? ⟨3, 0, none⟩ = some (.iface tp p) :=
  sentinel_of_laid h (by kernel_rfl) (by kernel_rfl) Tryd.underlying80
end Go.Proofs.YtilldpoleiippaaDoor
