/- The reference reads rows (spec.LedgerGet); condition: a small text. | The program reads rows (impl.LedgerGet); condition: a small text, the package variables as listed. | Contracts of DrawLedgerPut and DrawLedgerGet: some rows in a list of their own; a text; no condition but a code of bytes. | The walk of FnLedgerGet: it returns true for every code; condition: the package variables as listed. | FnLedgerGet: the law returns true for every input; condition: the package variables as the row lists them, which the card ties to the program's text. -/
import Derived.Test.YtilldpoleiippaaDoorLD
import Derived.Test.YtilldpoleiippaaDoorLG
import Derived.Test.YtilldpoleiippaaDoorLH
import Derived.Test.YtilldpoleiippaaDoorLB
import Derived.Test.YtilldpoleiippaaDoorLE
import Derived.Test.YtilldpoleiippaaDoorLA
import Derived.Test.YtilldpoleiippaaDoorTie
import Derived.Test.YtilldpoleiippaaDoorCards
import Derived.ProofKit
import Derived.OpenShut
import Derived.ShutString
import Derived.ChangeOld
import Derived.Below
import Derived.OpenVars
import Derived.LaidMore
import Derived.Lay
import Derived.MakeChecks
import Derived.SevenTiedAt
set_option linter.unusedSimpArgs false
set_option linter.unusedVariables false
/-! The reference reads rows (spec.LedgerGet); condition: a small text. -/
namespace Go.Proofs.YtilldpoleiippaaDoor
open Go.RowKit Go.Joins

/-- What was read as rows, in a list of its own. -/
def RowsRd (s : List UInt8) (w : World) (e : Ending) (w' : World) : Prop :=
  ∃ (zs : List En) (b : Bool) (a : Option Addr) (cap : Nat), IsRows s zs b ∧ zs.length ≤ 16777216 ∧ e = .returned (.tuple #[.slice a zs.length cap, .bool b]) ∧ Row w' w.heap.size 67 a cap 6 En.cs zs ∧ Below w.heap.size w w'
theorem rowsRd_none {s : List UInt8} {w w' : World} (h : IsRows s [] false) (k : Below w.heap.size w w') : RowsRd s w (.returned (.tuple #[.slice none 0 0, .bool false])) w' :=
  ⟨[], false, none, 0, h, Nat.zero_le _, rfl, Row.nil _ _ _ _ _ _, k⟩
theorem l1Cut_61 (s : ByteArray) (w : World) (hs : s.size ≤ 1099511627776) :
    Calls Tryd.prog 44 #[.string s, .int .u8 10, .int .i64 61] w (StrsOwn (cutL 10 61 s.data.toList) w) := l1Cut_c s 10 61 w hs (by decide)
theorem l1Cut_1 (p : List UInt8) (w : World) (hs : p.length ≤ 1099511627776) :
    Calls Tryd.prog 44 #[.string ⟨p.toArray⟩, .int .u8 32, .int .i64 1] w (StrsOwn (cutL 32 1 p) w) := by
  have := l1Cut_c ⟨p.toArray⟩ 32 1 w (by rw [bytes_len]; exact hs) (by decide)
  simpa using this
theorem lastOf_at {l : List UInt8} {m : Nat} (h : (cutL 32 1 l).length = m + 1) (hm : m < (cutL 32 1 l).length) : (cutL 32 1 l)[m] = lastOf l := by
  unfold lastOf
  rw [h, Nat.add_sub_cancel, List.getD_eq_getElem?_getD, List.getElem?_eq_getElem hm]
  rfl
theorem rowsAt_reqL (w : World) (r : Rq) (t : TypeId) : RowsAt (w.alloc (.cells #[.int .i64 r.c, .int .i64 r.n, .int .i64 r.o, .int .i64 r.x, .int .i64 r.y] t)) (some ⟨w.heap.size, 0, none⟩) 5 Rq.cs [r] :=
  rows_of_block (R := Rq.cs) (zs := [r]) (t := t) (fr := (0, 0)) (fun _ => rfl) (heap_alloc_new w (.cells #[.int .i64 r.c, .int .i64 r.n, .int .i64 r.o, .int .i64 r.x, .int .i64 r.y] t))

set_option maxRecDepth 100000 in
set_option maxHeartbeats 1000000 in
theorem sLedgerGet_c (s : ByteArray) (w : World) (hs : s.size ≤ 4000000000) :
    Calls Tryd.prog 12 #[.string s] w (RowsRd s.data.toList w) := by
  have HSL := Lib.hid (show s.data.toList.length = s.size by simp)
  go_enter Tryd.func12, Tryd.ntmps12
  go_wp2_with fail
  refine (l1Cut_61 s w (by omega)).mono ?_
  rintro e w1 ⟨a, cap, rfl, hR, k1⟩
  have HLE := Lib.hid (fun p (h : p ∈ cutL 10 61 s.data.toList) => cutL_leG h)
  have HLN := Lib.hid (fun j l => isRows_spec_line (s := s.data.toList) (j := j) (l := l))
  have HSP := Lib.hid (fun rs => isRows_spec (s := s.data.toList) (rs := rs))
  have HSN := Lib.hid (fun rs r l => LinesRead.snoc (s := s.data.toList) (rs := rs) (r := r) (l := l))
  have hle : (cutL 10 61 s.data.toList).length ≤ 62 := cutGo_len 10 s.data.toList [] 61
  have hpo : 0 < (cutL 10 61 s.data.toList).length := cutGo_pos 10 s.data.toList [] 61
  generalize cutL 10 61 s.data.toList = ps at *
  have HR := Lib.hid (hR.rows str_len)
  have K1 := Lib.hid k1
  have hs1 := k1.size
  have hcp := hR.len
  obtain ⟨n, hn⟩ : ∃ n, n = ps.length := ⟨_, rfl⟩
  rw [← hn] at hle hcp hpo ⊢
  have HNN := Lib.hid hn
  clear hR k1 hn
  go_wp2_with fail
  obtain ⟨W, hW, sW, -, kW⟩ := blocks1 w1 (.cells #[] 46)
  rw [← hW]
  clear hW
  have SW := Lib.hid sW
  have KW := Lib.hid kW
  clear sW kW
  go_loopw [5, 6] (fun reqs i wr => ∃ (k : Nat) (rs : List Rq) (ao : Option Addr) (co : Nat), rs.length = k ∧ k + 1 ≤ n ∧ i = .int .i64 k ∧ reqs = .slice ao k co ∧ Row wr W.heap.size 46 ao co 5 Rq.cs rs ∧ LinesRead s.data.toList rs ∧ Below W.heap.size W wr) (fun _ i _ => n - (intOf i).toNat)
  case atStart => exact ⟨0, [], some ⟨w1.heap.size, 0, none⟩, 0, rfl, by omega, rfl, rfl, Row.nil _ _ _ _ _ _, LinesRead.nil _, Below.refl _ _⟩
  case round =>
    obtain ⟨k, rs, ao, co, hrk, hk, rfl, rfl, hRR, hLR, hbel⟩ := hrel
    have RR := Lib.hid hRR
    have LR := Lib.hid hLR
    have KR := Lib.hid hbel
    have HK := Lib.hid hrk
    have hlen := hRR.len
    rw [hrk] at hlen
    have hwk : IntKind.i64.wrap ((k : Int) + 1) = (k : Int) + 1 := IntWalk.i64_in _ ⟨by omega, by omega⟩
    clear hRR hLR hbel hrk
    by_cases hlt : k + 1 < n
    · have hkz : k < ps.length := by rw [← HNN.out]; omega
      have hk1 : (k : Int) + 1 < (n : Int) := by omega
      have hk2 : (k : Int) < (n : Int) := by omega
      have hk0 : (0 : Int) ≤ (k : Int) := by omega
      obtain ⟨b0, o0, rfl, hl0, hc0⟩ := str_atG HR.out k hkz
      have d0 := hc0 wr (KW.out.trans (KR.out.mono KW.out.size))
      have hq := HLE.out ps[k] (List.getElem_mem _)
      rw [HSL.out] at hq
      have HPK := Lib.hid (List.getElem?_eq_getElem hkz)
      clear hc0
      generalize ps[k] = l at *
      have CL := Lib.hid (fun V => l1Cut_1 l V (by omega))
      have hnq : (cutL 32 1 l).length ≤ 2 := cutGo_len 32 l [] 1
      have hpq : 0 < (cutL 32 1 l).length := cutGo_pos 32 l [] 1
      obtain ⟨m, hm⟩ : ∃ m, (cutL 32 1 l).length = m + 1 := ⟨(cutL 32 1 l).length - 1, by omega⟩
      have hlast := lastOf_at hm (by omega)
      have hll : (lastOf l).length ≤ l.length := by rw [← hlast]; exact cutL_leG (List.getElem_mem _)
      have HM := Lib.hid hm
      obtain ⟨r, b, hg⟩ := isGet_ex (lastOf l)
      have HG := Lib.hid hg
      have CG := Lib.hid (fun V => sReqGet_c ⟨(lastOf l).toArray⟩ r b V (by rw [bytes_len]; omega) (by simpa using hg))
      have HNOL := Lib.hid (HLN.out k l (by rw [← HNN.out]; exact hlt) HPK.out)
      clear hg hq hll
      go_wp2_with fail
      refine (CL.out wr).mono ?_
      rintro e w5 ⟨an, cn, rfl, rN, k5⟩
      have dl := str_atG (rN.rows str_len) m (by omega)
      rw [hlast] at dl
      obtain ⟨b1, o1, rfl, hl1, hc1⟩ := dl
      have d1 := hc1 w5 (Below.refl _ _)
      have hcn := rN.len
      have K5 := Lib.hid (below_next KR.out k5)
      have RR5 := Lib.hid (RR.out.below k5)
      rw [hm] at hcn ⊢
      have hm1 : m ≤ 1 := by omega
      clear rN d0 k5 hc1 hlast hm hnq hpq
      have hwm : IntKind.i64.wrap (m : Int) = (m : Int) := IntWalk.i64_in _ ⟨by omega, by omega⟩
      have hm0 : (0 : Int) ≤ (m : Int) := by omega
      have hm2 : (m : Int) < (m : Int) + 1 := by omega
      go_wp2_with fail
      refine (CG.out w5).mono ?_
      rintro e w6 ⟨rfl, k6⟩
      have K6 := Lib.hid (below_next K5.out k6)
      have RR6 := Lib.hid (RR5.out.below k6)
      clear d1 k6
      have hcase : m = 0 ∨ m = 1 := by omega
      rcases hcase with rfl | rfl
      · have HF := Lib.hid (HNOL.out (.inl (by rw [HM.out]; decide)))
        have KF := K1.out.trans ((below_next KW.out K6.out).mono hs1)
        have hKs := KF.size
        cases b
        all_goals
          go_wp2_with fail
          refine bodyPost_ret (v := .tuple #[.slice none 0 0, .bool false]) (by simp [results, Tryd.results12, go_sem]) rfl ?_
          exact rowsRd_none HF.out (by repeat' (first | with_reducible exact Below.refl _ _ | with_reducible assumption | with_reducible refine Below.alloc ?_ ?_ _ | with_reducible refine Below.drew ?_ | with_reducible refine Below.setCell ?_ ?_ _ | omega | (simp; omega) | (simp; done)))
      · cases b with
        | false =>
          have HF := Lib.hid (HNOL.out (.inr ⟨r, HG.out⟩))
          have KF := K1.out.trans ((below_next KW.out K6.out).mono hs1)
          have hKs := KF.size
          go_wp2_with fail
          refine bodyPost_ret (v := .tuple #[.slice none 0 0, .bool false]) (by simp [results, Tryd.results12, go_sem]) rfl ?_
          exact rowsRd_none HF.out (by repeat' (first | with_reducible exact Below.refl _ _ | with_reducible assumption | with_reducible refine Below.alloc ?_ ?_ _ | with_reducible refine Below.drew ?_ | with_reducible refine Below.setCell ?_ ?_ _ | omega | (simp; omega) | (simp; done)))
        | true =>
          have LN := Lib.hid (HSN.out rs r l LR.out (by rw [HK.out]; exact HPK.out) HG.out)
          have P11 := Lib.hid ((RR6.out.alloc (.cells #[.int .i64 r.c, .int .i64 r.n, .int .i64 r.o, .int .i64 r.x, .int .i64 r.y] 46)).alloc (.cells #[.int .i64 r.c, .int .i64 r.n, .int .i64 r.o, .int .i64 r.x, .int .i64 r.y] 46))
          have RA := Lib.hid (show RowsAt ((w6.alloc (.cells #[.int .i64 r.c, .int .i64 r.n, .int .i64 r.o, .int .i64 r.x, .int .i64 r.y] 46)).alloc (.cells #[.int .i64 r.c, .int .i64 r.n, .int .i64 r.o, .int .i64 r.x, .int .i64 r.y] 46)) (some ⟨w6.heap.size + 1, 0, none⟩) 5 Rq.cs [r] by
            have := rowsAt_reqL (w6.alloc (.cells #[.int .i64 r.c, .int .i64 r.n, .int .i64 r.o, .int .i64 r.x, .int .i64 r.y] 46)) r 46
            rwa [World.size_alloc] at this)
          have hk62 : k ≤ 61 := by omega
          go_wp2_with (at_builtin; refine wpList_append_row rfl _ _ rfl (k + 1) eltReq rfl rfl P11.out RA.out HK.out rfl rfl (by simp only [maxLen]; omega) (by omega) (by have := K6.out.size; simp <;> omega) ?_)
          intro a9 c9 w9 q9
          have R9 := Lib.hid q9.row
          have K9 := Lib.hid (((K6.out.alloc K6.out.size (.cells #[.int .i64 r.c, .int .i64 r.n, .int .i64 r.o, .int .i64 r.x, .int .i64 r.y] 46)).alloc (by have := K6.out.size; simp <;> omega) (.cells #[.int .i64 r.c, .int .i64 r.n, .int .i64 r.o, .int .i64 r.x, .int .i64 r.y] 46)).grown q9.grown (by have := K6.out.size; simp <;> omega) (fun g hg => (RR.out.blk hg).1))
          clear q9 RA P11
          go_wp2_with fail
          go_roundw
          case rel => exact ⟨k + 1, rs ++ [r], a9, c9, by rw [List.length_append, HK.out]; rfl, by omega, by go_num, rfl, R9.out, LN.out, K9.out⟩
          case measure => simp [intOf]; omega
    · have hkn : k + 1 = n := by omega
      have hk1 : ¬ (k : Int) + 1 < (n : Int) := by omega
      have HS2 := HSP.out rs LR.out (by rw [HK.out, ← HNN.out]; exact hkn)
      obtain ⟨HY, HN⟩ := HS2
      have HYH := Lib.hid HY
      have HNH := Lib.hid HN
      have hk60 : k ≤ 61 := by omega
      have CO := Lib.hid (fun V h => sLedgerOf_c ao k co rs V h (by omega))
      have SR := Lib.hid (RR.out.slE (fun _ => rfl) HK.out)
      clear hkn HY HN
      go_wp2_with fail
      refine (CO.out wr SR.out).mono ?_
      rintro e w5 ⟨a5, c5, rfl, r5, k5⟩
      have hll : (ledOf rs).length ≤ 61 := by
        unfold ledOf
        split
        · rw [rowsOf_length, HK.out]; exact hk60
        · exact Nat.zero_le _
      have hk5 := k5.size
      have R5 := Lib.hid r5
      have CP := Lib.hid (fun V h => sLedgerPut_c a5 (ledOf rs).length c5 (ledOf rs) V h (by omega))
      have S5 := Lib.hid (r5.sl (fun _ => rfl))
      have KF := Lib.hid (K1.out.trans ((below_next (below_next KW.out KR.out) k5).mono hs1))
      have hwb : w.heap.size ≤ wr.heap.size := by have := KW.out.size; have := KR.out.size; omega
      clear r5 k5
      generalize ledOf rs = zs at *
      go_wp2_with fail
      refine (CP.out w5 S5.out).mono ?_
      rintro e w6 ⟨rfl, k6⟩
      have K6 := Lib.hid (below_next KF.out k6)
      by_cases hp : ledPut zs = s.data.toList
      · have hbp : (ledPut zs == s.toList) = true := by rw [ByteArray.toList_eq, hp]; simp
        by_cases hq : zs.length = k
        · have HF := Lib.hid (HYH.out hp (by rw [HK.out]; exact hq))
          have hqi : (zs.length : Int) = (k : Int) := by omega
          clear hp
          generalize ledPut zs = tx at *
          have R6 := Lib.hid (R5.out.below k6)
          clear k6
          go_wp2_with fail
          refine bodyPost_ret (v := .tuple #[.slice a5 k c5, .bool true]) (by simp [results, Tryd.results12, go_sem]) rfl ?_
          exact ⟨zs, true, a5, c5, HF.out, by omega, by rw [hq], R6.out.low hwb, K6.out⟩
        · have HF := Lib.hid (HNH.out (fun h => hq (by rw [← HK.out]; exact h.2)))
          have hqi : ¬ (zs.length : Int) = (k : Int) := by omega
          clear hp
          generalize ledPut zs = tx at *
          clear k6
          go_wp2_with fail
          refine bodyPost_ret (v := .tuple #[.slice none 0 0, .bool false]) (by simp [results, Tryd.results12, go_sem]) rfl ?_
          exact rowsRd_none HF.out K6.out
      · have HF := Lib.hid (HNH.out (fun h => hp h.1))
        have hbp : (ledPut zs == s.toList) = false := by rw [ByteArray.toList_eq]; simpa using hp
        clear hp
        generalize ledPut zs = tx at *
        clear k6
        go_wp2_with fail
        refine bodyPost_ret (v := .tuple #[.slice none 0 0, .bool false]) (by simp [results, Tryd.results12, go_sem]) rfl ?_
        exact rowsRd_none HF.out K6.out
end Go.Proofs.YtilldpoleiippaaDoor

/-! The program reads rows (impl.LedgerGet); condition: a small text, the package variables as listed. -/
namespace Go.Proofs.YtilldpoleiippaaDoor
open Go.RowKit Go.Joins

theorem below_drewNw (w : World) (n : Nat) : Below w.heap.size w (w.drewN n) := below_drewN (Below.refl _ _) n
theorem cut_c (b : UInt8) (p : List UInt8) (w : World) (hs : p.length ≤ 4000000000) (E : EnvA w) :
    Calls Tryd.prog 46 #[.string ⟨p.toArray⟩, .string ⟨#[b]⟩] w fun e w' => e = .returned (.tuple #[.string ⟨(Lib.cut p [b]).1.toArray⟩, .string ⟨(Lib.cut p [b]).2.1.toArray⟩, .bool (Lib.cut p [b]).2.2]) ∧ Below w.heap.size w w' := by
  obtain ⟨m, hm⟩ := E.len
  refine (Any.strings_Cut { Tryd.laysM145 with } ⟨p.toArray⟩ ⟨#[b]⟩ m w (by rw [bytes_len]; omega) hm).mono ?_
  rintro e w' ⟨rfl, n, rfl⟩
  exact ⟨rfl, below_drewNw w n⟩
theorem cut_sizes (b : UInt8) (p : List UInt8) : (Lib.cut p [b]).1.length ≤ p.length ∧ (Lib.cut p [b]).2.1.length ≤ p.length ∧ (p ≠ [] → (Lib.cut p [b]).2.1.length < p.length) := by
  unfold Lib.cut
  split
  · refine ⟨?_, ?_, fun hp => ?_⟩
    · simp only [List.length_take]; exact Nat.min_le_right _ _
    · simp only [List.length_drop]; omega
    · have : 0 < p.length := List.length_pos_iff.2 hp
      simp only [List.length_drop, List.length_cons, List.length_nil]
      omega
  · refine ⟨Nat.le_refl _, Nat.zero_le _, fun hp => ?_⟩
    simpa using List.length_pos_iff.2 hp
theorem rowsAt_en (w : World) (z : En) (t : TypeId) : RowsAt (w.alloc (.cells #[.int .i64 z.r.c, .int .i64 z.r.n, .int .i64 z.r.o, .int .i64 z.r.x, .int .i64 z.r.y, .int .i64 z.s] t)) (some ⟨w.heap.size, 0, none⟩) 6 En.cs [z] :=
  rows_of_block (R := En.cs) (zs := [z]) (t := t) (fr := (0, 0)) (fun _ => rfl) (heap_alloc_new w (.cells #[.int .i64 z.r.c, .int .i64 z.r.n, .int .i64 z.r.o, .int .i64 z.r.x, .int .i64 z.r.y, .int .i64 z.s] t))

/-- What the program read as rows: a list without room. -/
def RowsOwnR (s : List UInt8) (w : World) (e : Ending) (w' : World) : Prop :=
  ∃ (zs : List En) (b : Bool) (a : Option Addr), IsRows s zs b ∧ zs.length ≤ 16777216 ∧ e = .returned (.tuple #[.slice a zs.length zs.length, .bool b]) ∧ Row w' w.heap.size 67 a zs.length 6 En.cs zs ∧ Below w.heap.size w w'
theorem rowsOwn_none {s : List UInt8} {w w' : World} (h : IsRows s [] false) (k : Below w.heap.size w w') : RowsOwnR s w (.returned (.tuple #[.slice none 0 0, .bool false])) w' :=
  ⟨[], false, none, h, Nat.zero_le _, rfl, Row.nil _ _ _ _ _ _, k⟩

set_option maxRecDepth 100000 in
set_option maxHeartbeats 1000000 in
theorem LedgerGet_c (s : ByteArray) (w : World) (hs : s.size ≤ 1100000) (E : Env w) (EA : EnvA w) :
    Calls Tryd.prog 13 #[.string s] w (RowsOwnR s.data.toList w) := by
  have HSL := Lib.hid (show s.data.toList.length = s.size by simp)
  have EW := Lib.hid E
  have EE := Lib.hid EA
  have HLI := Lib.hid (fun rest zs r => isRows_impl_line (s := s.data.toList) (rest := rest) (zs := zs) (r := r))
  have HSN := Lib.hid (fun rest zs r => RowsRead.snoc (s := s.data.toList) (rest := rest) (zs := zs) (r := r))
  have HFI := Lib.hid (fun zs => isRows_impl (s := s.data.toList) (zs := zs))
  clear E EA
  go_enter Tryd.func13, Tryd.ntmps13
  go_wp2_with fail
  go_loopw [4, 5] (fun list rest wr => ∃ (k : Nat) (zs : List En) (ao : Option Addr) (co : Nat) (rl : List UInt8), zs.length = k ∧ list = .slice ao k co ∧ rest = .string ⟨rl.toArray⟩ ∧ k + rl.length ≤ s.size ∧ Row wr w.heap.size 67 ao co 6 En.cs zs ∧ RowsRead s.data.toList zs rl ∧ Below w.heap.size w wr) (fun _ rest _ => match rest with | .string b => b.size | _ => 0)
  case atStart => exact ⟨0, [], none, 0, s.data.toList, rfl, rfl, congrArg Value.string (show s = ⟨s.data.toList.toArray⟩ by cases s; simp), by rw [HSL.out]; omega, Row.nil _ _ _ _ _ _, RowsRead.start _, Below.refl _ _⟩
  case round =>
    obtain ⟨k, zs, ao, co, rl, hzk, rfl, rfl, hsz, hR, hRR, hbel⟩ := hrel
    have RR := Lib.hid hR
    have RD := Lib.hid hRR
    have KR := Lib.hid hbel
    have HK := Lib.hid hzk
    have hlen := hR.len
    rw [hzk] at hlen
    clear hR hRR hbel hzk
    by_cases hne : rl = []
    · have hb : (rl == []) = true := by rw [hne]; rfl
      obtain ⟨HY, HN⟩ := HFI.out zs (by have := RD.out; rwa [hne] at this)
      have HYH := Lib.hid HY
      have HNH := Lib.hid HN
      have SR := Lib.hid (RR.out.slE (fun _ => rfl) HK.out)
      have hk := RR.out.max
      have CG := Lib.hid (fun V E h => ledger_c ao k co zs V E h (by omega))
      have CP := Lib.hid (fun V E h => LedgerPut_c ao k co zs V E h (by omega))
      clear HY HN hne
      go_wp2_with fail
      refine (CG.out wr (EW.out.below KR.out) SR.out).mono ?_
      rintro e w5 ⟨rfl, k5⟩
      have K5 := Lib.hid (below_next KR.out k5)
      have S5 := Lib.hid (SR.out.below k5)
      have R5 := Lib.hid (RR.out.below k5)
      clear k5
      by_cases hf : far zs = k
      · rw [decide_eq_true hf]
        go_wp2_with fail
        refine (CP.out w5 (EW.out.below K5.out) S5.out).mono ?_
        rintro e w6 ⟨rfl, k6⟩
        have K6 := Lib.hid (below_next K5.out k6)
        have R6 := Lib.hid (R5.out.below k6)
        clear k6
        by_cases hp : ledPut zs = s.data.toList
        · have HF := Lib.hid (HYH.out (by rw [hf, HK.out]) hp)
          have hbp : (ledPut zs == s.toList) = true := by rw [ByteArray.toList_eq, hp]; simp
          clear hp hf
          generalize ledPut zs = tx at *
          go_wp2_with fail
          refine (slClipEntry_c ao k co w6 hlen (by simp only [maxLen]; have := hk; unfold maxLen at this; omega)).mono ?_
          rintro e _ ⟨rfl, rfl⟩
          go_wp2_with fail
          refine bodyPost_ret (v := .tuple #[.slice ao k k, .bool true]) (by simp [results, Tryd.results13, go_sem]) rfl ?_
          refine ⟨zs, true, ao, HF.out, by rw [HK.out]; omega, by rw [HK.out], ?_, K6.out⟩
          have := R6.out.clip
          exact this
        · have HF := Lib.hid (HNH.out (fun h => hp h.2))
          have hbp : (ledPut zs == s.toList) = false := by rw [ByteArray.toList_eq]; simpa using hp
          clear hp hf
          generalize ledPut zs = tx at *
          go_wp2_with fail
          refine bodyPost_ret (v := .tuple #[.slice none 0 0, .bool false]) (by simp [results, Tryd.results13, go_sem]) rfl ?_
          exact rowsOwn_none HF.out K6.out
      · have HF := Lib.hid (HNH.out (fun h => hf (by rw [← HK.out]; exact h.1)))
        rw [decide_eq_false hf]
        clear hf
        go_wp2_with fail
        refine bodyPost_ret (v := .tuple #[.slice none 0 0, .bool false]) (by simp [results, Tryd.results13, go_sem]) rfl ?_
        exact rowsOwn_none HF.out K5.out
    · have hb : (rl == []) = false := by simpa using hne
      obtain ⟨t1, t2, t3⟩ := cut_sizes 10 rl
      have t4 := t3 hne
      have C1 := Lib.hid (fun V E => cut_c 10 rl V (by omega) E)
      have HLI2 := Lib.hid (fun r => HLI.out rl zs r RD.out hne)
      have HSN2 := Lib.hid (fun r => HSN.out rl zs r RD.out hne)
      clear hne t3
      generalize Lib.cut rl [10] = cu at *
      obtain ⟨line, more, fnd⟩ := cu
      simp only at t1 t2 t4 C1 HLI2 HSN2
      obtain ⟨t5, t6, -⟩ := cut_sizes 32 line
      have C2 := Lib.hid (fun V E => cut_c 32 line V (by omega) E)
      generalize Lib.cut line [32] = cv at *
      obtain ⟨sm, text, fnd2⟩ := cv
      simp only at t5 t6 C2 HLI2 HSN2
      obtain ⟨r, b, hg⟩ := isGet_ex text
      have HG := Lib.hid hg
      have CR := Lib.hid (fun V E EA => ReqGet_c ⟨text.toArray⟩ r b V (by rw [bytes_len]; omega) E EA (by simpa using hg))
      clear hg
      go_wp2_with fail
      refine (C1.out wr (EE.out.below KR.out)).mono ?_
      rintro e w5 ⟨rfl, k5⟩
      have K5 := Lib.hid (below_next KR.out k5)
      have R5 := Lib.hid (RR.out.below k5)
      clear k5
      go_wp2_with fail
      refine (C2.out w5 (EE.out.below K5.out)).mono ?_
      rintro e w6 ⟨rfl, k6⟩
      have K6 := Lib.hid (below_next K5.out k6)
      have R6 := Lib.hid (R5.out.below k6)
      clear k6
      go_wp2_with fail
      refine (CR.out w6 (EW.out.below K6.out) (EE.out.below K6.out)).mono ?_
      rintro e w7 ⟨rfl, k7⟩
      have K7 := Lib.hid (below_next K6.out k7)
      have R7 := Lib.hid (R6.out.below k7)
      clear k7
      cases b with
      | false =>
        have HF := Lib.hid (HLI2.out r HG.out)
        have KF := K7.out
        have hKs := KF.size
        go_wp2_with fail
        refine bodyPost_ret (v := .tuple #[.slice none 0 0, .bool false]) (by simp [results, Tryd.results13, go_sem]) rfl ?_
        exact rowsOwn_none HF.out (by repeat' (first | with_reducible exact Below.refl _ _ | with_reducible assumption | with_reducible refine Below.alloc ?_ ?_ _ | with_reducible refine Below.drew ?_ | with_reducible refine Below.setCell ?_ ?_ _ | omega | (simp; omega) | (simp; done)))
      | true =>
        have HSN3 := Lib.hid (HSN2.out r HG.out)
        have CA := Lib.hid (fun V E => atoi_c sm V (by omega) E)
        generalize Lib.atoiOr sm (-1099511627776) = v at *
        go_wp2_with fail
        obtain ⟨W8, hW8, s8, a8, k8⟩ := blocks1 w7 (.cells #[.int .i64 r.c, .int .i64 r.n, .int .i64 r.o, .int .i64 r.x, .int .i64 r.y] 46)
        rw [← hW8]
        clear hW8
        have hcd := cell_of_block (show W8.drew.heap[w7.heap.size]? = _ from a8)
        have hlW : w7.heap.size < W8.drew.heap.size := by simp; omega
        have kWd := below_next k8 (Below.drew (Below.refl W8.heap.size W8))
        have KW := below_next K7.out kWd
        have RRd := Lib.hid (R7.out.below kWd)
        have aWd := Lib.hid (show W8.drew.heap[w7.heap.size]? = _ from a8)
        refine wp_region_held_drew (S := fun w' => ∀ i, w'.cell? ⟨w7.heap.size, i, none⟩ = (#[.int .i64 r.c, .int .i64 r.n, .int .i64 r.o, .int .i64 r.x, .int .i64 r.y] : Array Value)[i]?) (by kernel_rfl) hcd (fun hHeld => ?_)
        clear hcd k8 a8 kWd
        refine wpAnyH_take (i := 0) (oi := _) (v := ?_) (by (simp only [List.getElem?_toArray]; rfl)) (by kernel_rfl) (by kernel_rfl) (by kernel_rfl) (by exact fun _ _ _ h => h) (Or.inl ⟨by rfl, ?_⟩) (by assumption) ?_
        rotate_left
        · intro wS hSw
          go_simp
          all_goals first | with_reducible rfl | rw [if_neg (by omega)]
        simp only [Act.put, List.setIfInBounds_toArray, List.set]
        refine wpAnyH_take (i := 1) (oi := _) (v := ?_) (by (simp only [List.getElem?_toArray]; rfl)) (by kernel_rfl) (by kernel_rfl) (by kernel_rfl) (by exact fun _ _ _ h => h) (Or.inl ⟨by rfl, ?_⟩) (by assumption) ?_
        rotate_left
        · intro wS hSw
          go_simp
          all_goals first | with_reducible rfl | rw [if_neg (by omega)]
        simp only [Act.put, List.setIfInBounds_toArray, List.set]
        refine wpAnyH_take (i := 2) (oi := _) (v := ?_) (by (simp only [List.getElem?_toArray]; rfl)) (by kernel_rfl) (by kernel_rfl) (by kernel_rfl) (by exact fun _ _ _ h => h) (Or.inl ⟨by rfl, ?_⟩) (by assumption) ?_
        rotate_left
        · intro wS hSw
          go_simp
          all_goals first | with_reducible rfl | rw [if_neg (by omega)]
        simp only [Act.put, List.setIfInBounds_toArray, List.set]
        refine wpAnyH_ready (rs := [3]) (by kernel_rfl) (by simp) ?_
        refine AllReadyH.cons (o := _) (by (simp only [List.getElem?_toArray]; rfl)) (fun K hK => ?_) AllReadyH.nil
        go_simp
        refine (CA.out W8.drew (EE.out.below KW)).mono ?_
        rintro e w9 ⟨rfl, k9⟩
        have h9 : ∀ i, w9.cell? ⟨w7.heap.size, i, none⟩ = (#[.int .i64 r.c, .int .i64 r.n, .int .i64 r.o, .int .i64 r.x, .int .i64 r.y] : Array Value)[i]? := fun i => ((bcell k9).1 _ i hlW).trans (hHeld i)
        have a9 := Lib.hid (carryB k9 hlW aWd.out)
        have K9 := below_next KW k9
        have R9 := Lib.hid (RRd.out.below k9)
        have hl9 : w7.heap.size < w9.heap.size := Nat.lt_of_lt_of_le hlW k9.size
        clear k9 hHeld
        refine hK.out _ _ h9 (fun hHeld => ?_)
        clear hK K
        try simp only [Act.put, List.setIfInBounds_toArray, List.set]
        refine wpAnyH_take (i := 4) (oi := _) (v := ?_) (by (simp only [List.getElem?_toArray]; rfl)) (by kernel_rfl) (by kernel_rfl) (by kernel_rfl) (by exact fun _ _ _ h => h) (Or.inl ⟨by rfl, ?_⟩) (by assumption) ?_
        rotate_left
        · intro wS hSw
          go_simp
          all_goals first | with_reducible rfl | rw [if_neg (by omega)]
        simp only [Act.put, List.setIfInBounds_toArray, List.set]
        refine wpAnyH_ready (rs := [5]) (by kernel_rfl) (by simp) ?_
        refine AllReadyH.cons (o := _) (by (simp only [List.getElem?_toArray]; rfl)) (fun K hK => ?_) AllReadyH.nil
        go_simp
        obtain ⟨V, hV, sV, aV, kV⟩ := blocks1 w9 (.cells #[.int .i64 r.c, .int .i64 r.n, .int .i64 r.o, .int .i64 r.x, .int .i64 r.y, .int .i64 v] 67)
        have hrv : RowsAt V (some ⟨w9.heap.size, 0, none⟩) 6 En.cs [⟨r, v⟩] := by rw [hV]; exact rowsAt_en w9 ⟨r, v⟩ _
        rw [← hV]
        have h10 : ∀ i, V.cell? ⟨w7.heap.size, i, none⟩ = (#[.int .i64 r.c, .int .i64 r.n, .int .i64 r.o, .int .i64 r.x, .int .i64 r.y] : Array Value)[i]? := fun i => ((bcell kV).1 _ i hl9).trans (h9 i)
        have a10 := Lib.hid (carryB kV hl9 a9.out)
        have KV := below_next K9 kV
        have R10 := Lib.hid (R9.out.below kV)
        have HRV := Lib.hid hrv
        have hszV : w.heap.size ≤ V.heap.size := KV.size
        have hrV : w7.heap.size < V.heap.size := by omega
        have HBL := Lib.hid (fun g (hg : rowBlk ao co = some g) => (R7.out.blk hg))
        clear hV kV aV hrv K9 h9 hHeld
        refine hK.out _ _ h10 (fun hHeld => ?_)
        clear hK K
        try simp only [Act.put, List.setIfInBounds_toArray, List.set]
        refine wpAnyH_ready (rs := [6]) (by kernel_rfl) (by simp) ?_
        refine AllReadyH.cons (o := _) (by (simp only [List.getElem?_toArray]; rfl)) (fun K hK => ?_) AllReadyH.nil
        refine step_append_elt (by rfl) (.tmp 36) (.tmp 41) (by rfl) (k + 1) eltEntry (by rfl) (by rfl) R10.out HRV.out HK.out rfl rfl (by simp only [maxLen]; omega) (by omega) hszV ?_
        intro a5 c5 w11 q5
        have b5 := q5.grown.block w7.heap.size hrV (fun e => by have := (HBL.out _ e.symm).2; omega)
        have h11 : ∀ i, w11.cell? ⟨w7.heap.size, i, none⟩ = (#[.int .i64 r.c, .int .i64 r.n, .int .i64 r.o, .int .i64 r.x, .int .i64 r.y] : Array Value)[i]? := cell_of_block (b5.trans a10.out)
        have K11 := Lib.hid (q5.belowB R10.out KV (Nat.le_refl _) hszV)
        have R11 := Lib.hid (show Row w11 w.heap.size 67 a5 c5 6 En.cs (zs ++ [⟨r, v⟩]) from q5.row)
        clear b5 q5
        refine hK.out _ _ h11 (fun hHeld => ?_)
        clear hK K
        try simp only [Act.put, List.setIfInBounds_toArray, List.set]
        refine wpAnyH_take (i := 7) (oi := _) (v := ?_) (by (simp only [List.getElem?_toArray]; rfl)) (by kernel_rfl) (by kernel_rfl) (by kernel_rfl) (by exact fun _ _ _ h => h) (Or.inl ⟨by rfl, ?_⟩) (by assumption) ?_
        rotate_left
        · intro wS hSw
          go_simp
          all_goals first | with_reducible rfl | rw [if_neg (by omega)]
        simp only [Act.put, List.setIfInBounds_toArray, List.set]
        refine wpAnyH_done (by kernel_rfl) ?_ _
        go_wp2_with fail
        go_roundw
        case rel => exact ⟨k + 1, zs ++ [⟨r, v⟩], a5, c5, more, by rw [List.length_append, HK.out]; rfl, rfl, rfl, by omega, R11.out, HSN3.out, K11.out⟩
        case measure =>
          show (⟨more.toArray⟩ : ByteArray).size < (⟨rl.toArray⟩ : ByteArray).size
          rw [bytes_len, bytes_len]
          exact t4
end Go.Proofs.YtilldpoleiippaaDoor

/-! Contracts of DrawLedgerPut and DrawLedgerGet: some rows in a list of their own; a text; no condition but a code of bytes. -/
namespace Go.Proofs.YtilldpoleiippaaDoor
open Go.RowKit Go.Joins

/-- Some rows, at most twelve, in a list of their own. -/
def RowsDrawnP (w : World) (e : Ending) (w' : World) : Prop :=
  ∃ (zs : List En) (a' : Option Addr) (cap' : Nat), e = .returned (.slice a' zs.length cap') ∧ zs.length ≤ 12 ∧ Row w' w.heap.size 67 a' cap' 6 En.cs zs ∧ Below w.heap.size w w'

set_option maxHeartbeats 400000 in
theorem DrawLedgerPut_c (v : Value) (z : Bts) (w : World) (hz : IsBytes w v z) :
    Calls Tryd.prog 39 #[v] w (RowsDrawnP w) := by
  have HZ := Lib.hid hz
  clear hz
  go_enter Tryd.func39, Tryd.ntmps39
  go_wp2_with fail
  refine (l20Open_c v z _ HZ.out).mono ?_
  rintro e w1 ⟨g, rfl, hg, r1, k1⟩
  go_wp2_with fail
  refine (l20Ledger_c w1 g 0 r1 (by omega)).mono ?_
  rintro e w2 ⟨zs, a', cap', rfl, h12, hrow, -, k2⟩
  have KB := bel_grown k1 k2 hg
  have HROW := Lib.hid (hrow.low k1.size)
  clear hrow k1 k2
  go_wp2_with fail
  go_ret
  exact ⟨zs, a', cap', rfl, h12, HROW.out, KB⟩

theorem ledPut_len {zs : List En} (h : zs.length ≤ 60) : (ledPut zs).length ≤ 7380 := by
  unfold ledPut
  split
  · rename_i hf
    have := rowsText_len hf zs.length (Nat.le_refl _)
    rw [List.take_length] at this
    omega
  · simp

set_option maxRecDepth 100000 in
set_option maxHeartbeats 1000000 in
theorem DrawLedgerGet_c (v : Value) (z : Bts) (w : World) (hz : IsBytes w v z) :
    Calls Tryd.prog 17 #[v] w (ATxt 7381 w) := by
  have HZ := Lib.hid hz
  clear hz
  go_enter Tryd.func17, Tryd.ntmps17
  go_wp2_with fail
  refine (l20Open_c v z _ HZ.out).mono ?_
  rintro e w1 ⟨g, rfl, hg, r1, k1⟩
  go_wp2_with fail
  refine (l20Reqs_c w1 g 0 8 r1 (by omega) (by omega)).mono ?_
  rintro e w2 ⟨rs, a1, c1, rfl, h8, -, hrow, r2, k2⟩
  have K2 : Below w.heap.size w w2 := bel_grown k1 k2 hg
  have hl2 := r2.lt
  have SL2 := Lib.hid (hrow.sl (fun _ => rfl))
  clear k1 k2 r1 hrow
  go_wp2_with fail
  refine (sLedgerOf_c a1 _ c1 rs w2 SL2.out (by omega)).mono ?_
  rintro e w3 ⟨d, cd, rfl, rD, k3⟩
  have hy := ledOf_le rs
  generalize ledOf rs = zs at *
  have K3 := below_next K2 k3
  have r3 := r2.below (k3.mono hl2)
  have hl3 := r3.lt
  have RD := Lib.hid (rD.slE six_len rfl)
  have hlen : (⟨(ledPut zs).toArray⟩ : ByteArray).size ≤ 7380 := by rw [bytes_len]; exact ledPut_len (by omega)
  clear k3 K2 r2 rD SL2
  go_wp2_with fail
  refine (sLedgerPut_c d _ cd zs w3 RD.out (by omega)).mono ?_
  rintro e w4 ⟨rfl, k4⟩
  generalize (⟨(ledPut zs).toArray⟩ : ByteArray) = s at *
  have K4 := below_next K3 k4
  have r4 := r3.below (k4.mono hl3)
  clear k4 K3 r3 RD
  go_wp2_with fail
  refine (pick_c _ g _ 2 r4 (by omega) (by omega)).mono ?_
  rintro e w5 ⟨v5, rfl, a5, b5, -, r5, k5⟩
  have K5 : Below w.heap.size w w5 := bel_grown K4 k5 hg
  clear k5 r4 K4
  by_cases h0 : v5 = 0
  · subst h0
    go_wp2_with fail
    go_ret
    exact ⟨s, by omega, rfl, K5⟩
  · go_wp2_with fail
    refine (l20Bent_c s _ g _ r5 (by omega) (by omega)).mono ?_
    rintro e w6 ⟨t, ht, rfl, r6, k6⟩
    go_wp2_with fail
    go_ret
    exact ⟨t, by omega, rfl, bel_grown K5 k6 hg⟩
end Go.Proofs.YtilldpoleiippaaDoor

/-! The walk of FnLedgerGet: it returns true for every code; condition: the package variables as listed. -/
namespace Go.Proofs.YtilldpoleiippaaDoor.fnLedgerGet
open Go.RowKit Go.Joins

theorem rows_small {s : List UInt8} {zs : List En} {b : Bool} (h : IsRows s zs b) : zs.length ≤ 60 := by
  rcases h with ⟨-, h1, -⟩ | ⟨-, h1, -⟩
  · have := far_le60 zs
    omega
  · rw [h1]; exact Nat.zero_le _

set_option maxRecDepth 100000 in
set_option maxHeartbeats 1000000 in
theorem walk (v : Value) (z : Bts) (w : World) (hz : IsBytes w v z) (E : Env w) (EA : EnvA w) :
    Calls Tryd.prog 4 #[v] w fun e w' => e = .returned (.bool true) ∧ Below w.heap.size w w' := by
  obtain ⟨a, n, cap⟩ := z
  have HZ := Lib.hid hz
  obtain ⟨hv, hlc, hm, -⟩ := hz
  simp only at hv hlc hm
  subst hv
  have EW := Lib.hid E
  have EE := Lib.hid EA
  clear E EA
  by_cases hbig : (1048576 : Int) < n
  · go_enter Tryd.func4, Tryd.ntmps4
    go_wp2_with fail
    go_ret
    exact ⟨rfl, Below.refl _ _⟩
  · go_enter Tryd.func4, Tryd.ntmps4
    go_wp2_with fail
    refine (DrawLedgerGet_c _ _ w HZ.out).mono ?_
    rintro e w1 ⟨s, hs, rfl, k1⟩
    go_wp2_with fail
    refine (LedgerGet_c s w1 (by omega) (EW.out.below k1) (EE.out.below k1)).mono ?_
    rintro e w2 ⟨zs, b, aP, hg, -, rfl, rP, k2⟩
    have HG := Lib.hid hg
    have hy := rows_small hg
    have K2 := below_next k1 k2
    have SP := Lib.hid (rP.slE six_len rfl)
    obtain ⟨N, hN⟩ : ∃ N, N = zs.length := ⟨_, rfl⟩
    have HN := Lib.hid hN
    rw [← hN] at SP hy ⊢
    clear k1 k2 rP hg hN
    go_wp2_with fail
    refine (sLedgerGet_c s w2 (by omega)).mono ?_
    rintro e w3 ⟨zs', b', aQ, cQ, hg', -, rfl, rQ, k3⟩
    obtain ⟨rfl, rfl⟩ := HG.out.uniq hg'
    rw [← HN.out]
    have K3 := below_next K2 k3
    have SQ := Lib.hid (rQ.slE six_len HN.out.symm)
    replace SP := Lib.hid (SP.out.below k3)
    clear k3 K2 rQ hg'
    go_wp2_with fail
    refine (wpRows_c _ _ zs w3 SP.out SQ.out).mono ?_
    rintro e w4 ⟨rfl, k4⟩
    have K4 := below_next K3 k4
    replace SP := Lib.hid (SP.out.below k4)
    replace SQ := Lib.hid (SQ.out.below k4)
    clear k4 K3
    cases b
    · go_wp2_with fail
      refine (wpRows_c _ _ zs w4 SP.out SQ.out).mono ?_
      rintro e w5 ⟨rfl, k5⟩
      go_wp2_with fail
      go_ret
      exact ⟨rfl, below_next K4 k5⟩
    · obtain ⟨hf, ht⟩ : far zs = N ∧ ledPut zs = s.data.toList := by
        rcases HG.out with ⟨-, h1, h2⟩ | ⟨h, -⟩
        · exact ⟨h1.trans HN.out.symm, by unfold ledPut; rw [if_pos h1]; exact h2⟩
        · cases h
      have hbp : (ledPut zs == s.toList) = true := by rw [ByteArray.toList_eq, ht]; simp
      have CP := Lib.hid (fun V E h => LedgerPut_c aP N N zs V E h (by omega))
      have CF := Lib.hid (fun V E h => LedgerFar_c aP N N zs V E h (by omega))
      rw [hf] at CF
      generalize ledPut zs = tx at CP hbp
      clear hf ht
      go_wp2_with fail
      refine (CP.out w4 (EW.out.below K4) SP.out).mono ?_
      rintro e w5 ⟨rfl, k5⟩
      have K5 := below_next K4 k5
      replace SP := Lib.hid (SP.out.below k5)
      clear k5 K4
      go_wp2_with fail
      refine (CF.out w5 (EW.out.below K5) SP.out).mono ?_
      rintro e w6 ⟨rfl, k6⟩
      go_wp2_with fail
      go_ret
      exact ⟨by first | rfl | exact ret_bool (by rw [hbp]) | exact ret_bool hbp, below_next K5 k6⟩
end Go.Proofs.YtilldpoleiippaaDoor.fnLedgerGet

/-! FnLedgerGet: the law returns true for every input; condition: the package variables as the row lists them, which the card ties to the program's text. -/
namespace Go.Proofs.YtilldpoleiippaaDoor.fnLedgerGet
open Go.ChangeShapes hiding open_int
open Go.WideShapes Go.ChangeAt Go.RowKit
open Go.ChangeMaps (shut_string)
set_option linter.unusedVariables false

theorem own : ownKnob Tryd.prog.godebug = none := by kernel_rfl
theorem laidOut : laidOutB Tryd.prog = true := by kernel_rfl
theorem varsOk : varsRowed Tryd.prog ["loop.example/wapentake/impl.words"] = true := by kernel_rfl

set_option maxRecDepth 100000 in
theorem lifted (os : Os) (started : os.Started) (H : Type) (enc : TypeId × Value → H) :
    ReturnsInHanded {} Tryd.checked os 4 .any (fun w args => (Rows.fnLedgerGetSpec.pre enc Tryd.prog Tryd.f4 [] false w args ∧ laidMetH Tryd.prog Rows.fnLedgerGetRow.laid w) ∧ sizedMet enc Tryd.prog Tryd.f4 (OpenSpec.ofChange Rows.fnLedgerGetSpec) false w args)
      (Rows.fnLedgerGetSpec.post enc Tryd.prog Tryd.f4 false true false false) := by
  refine returnsInHanded_shaped (C := Tryd.checked) (X := fun w _ => laidMetH Tryd.prog Rows.fnLedgerGetRow.laid w) (fun _ _ _ hh h => h.of_heap hh) own started (by kernel_rfl) Tryd.func4
    (ChangeSpec.witness_shaped (enc := enc) (C := Tryd.checked) (os := os) (X := fun w _ => laidMetH Tryd.prog Rows.fnLedgerGetRow.laid w) false (World.laidAll Tryd.prog os Rows.fnLedgerGetRow.laid) #[.slice none 0 0] 8 (World.laidAll_os _ _ _) (World.shaped_of_ZipB (by kernel_rfl) (by kernel_rfl)) (by kernel_rfl) (by kernel_rfl) (by kernel_rfl)
      (by rw [MakeChecks.laidMetH_plain _ _ _ (by kernel_rfl)]; exact laidMet_laidAll _ (by kernel_rfl) (by kernel_rfl))) ?_
  intro W base args ds gs before hval0 hW hL hsh
  have hval : ∀ (j : Nat) t v, Tryd.f4.params[j]? = some t → args[j]? = some v → Value.okWide Tryd.prog W .any base t v := hval0
  have hW' := hW
  obtain ⟨p, q, hA0, hV0, rfl, hfz, hnd⟩ := hW
  have hA : DataW.TrodAll enc Tryd.prog W 0 (fun _ => true) true Tryd.f4.params.toList args.toList ds p := hA0
  have hV : DataW.TrodVars enc Tryd.prog W (fun _ => true) ["loop.example/wapentake/impl.words"] gs q := hV0
  rw [Tryd.params4] at hA hval
  obtain ⟨v0, vs0, d0, ds0, p0, q0, hargs, rfl, rfl, h0, r0⟩ := trodAll_cons hA
  obtain ⟨rfl, rfl, rfl⟩ := trodAll_nil r0
  obtain rfl : args = #[v0] := by cases args; simp_all
  obtain ⟨gg, gt, gcs, gfuel, gd, gp, rfl, -⟩ := trodVars_one hV
  have lt0 : ∀ x ∈ p0, x.block < W.heap.size := by obtain ⟨m, hm⟩ := h0; exact DataW.trod_lt m _ _ _ hm
  obtain ⟨z0, o0⟩ := open_bytes (hval 0 28 v0 rfl rfl) h0
  clear hA0 hval0 hV0
  have hL1 : laidMet Tryd.prog Rows.fnLedgerGetRow.laid W := by rw [← MakeChecks.laidMetH_plain _ _ _ (by kernel_rfl)]; exact hL

  have POW := pow_of_laid hL1.tail.tail
  have ENV : Env W := ⟨POW, words_of_laid hL1.tail.tail.tail.tail.tail.tail⟩
  have ENVA : EnvA W := ⟨POW, syn_of_laid hL1.tail.tail.tail.tail.tail, ran_of_laid hL1.tail.tail.tail.tail, Tryd.laysM146.s1_3 W hsh⟩
  refine (walk v0 z0 W o0 ENV ENVA).mono fun e W' ⟨he, bel⟩ => ?_
  subst he
  exact ⟨_, rfl, _, _, _, [], _, _, hW', trodAll_mk1 (shut_bool Tryd.underlying4 _), (trodAll_cons_mk (Below.trod laidOut (by kernel_rfl) (of_decide_eq_true (by kernel_rfl)) h0 bel lt0) trodAll_mk0), Below.trodVars laidOut bel varsOk hV, bel.frame _, fun h => by cases h⟩

theorem over : Rows.fnLedgerGetRow.holds Tryd.pinned (OpenSpec.ofChange Rows.fnLedgerGetSpec) :=
  OpenClaim.holds_of_wide 4 Tryd.f4 rfl rfl rfl rfl rfl rfl rfl ⟨rfl, rfl, rfl, rfl, rfl⟩ rfl rfl rfl rfl rfl (by kernel_rfl) Tryd.func4 (by kernel_rfl)
    (of_decide_eq_true (by kernel_rfl)) (by unfold Func.isWrapper; first | (rw [if_pos (by decide +kernel)]; kernel_rfl) | (rw [if_neg (by decide +kernel)]; exact ⟨rfl, rfl⟩))
    (fun os started H enc _ => lifted os started H enc)

theorem proved : Rows.FnLedgerGetCardSaid :=
  Claim7.holds_tied_plain_at .later [] _ true _ _ over (fun _ h => by cases h) (by kernel_rfl) (fun _ h => by cases h) fnLedgerGet_row_tie rfl ⟨rfl, rfl⟩ (by kernel_rfl) rfl
    (fun f fn hf hfn => by
      obtain rfl : f = 4 := Option.some.inj ((show Tryd.prog.funcNamed "loop.example/wapentake/laws.FnLedgerGet" = some 4 by kernel_rfl).symm.trans hf) |>.symm
      obtain rfl : fn = Tryd.f4 := (Option.some.inj (Tryd.func4.symm.trans hfn)).symm
      exact ⟨by kernel_rfl, fun j t ht => by
        rw [Tryd.params4] at ht
        have hm : t ∈ [28] := by simpa using Array.mem_of_getElem? ht
        have hall : ([28].all fun u => !Tryd.prog.wantsStandIn u) = true := by kernel_rfl
        exact (show Tryd.prog.wantsStandIn t = false by simpa using List.all_eq_true.1 hall t hm)⟩)
    (by kernel_rfl)
end Go.Proofs.YtilldpoleiippaaDoor.fnLedgerGet
