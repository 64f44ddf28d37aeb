/- Contracts of LedgerPut, the program's and the reference's; condition: the package variables as listed. -/
import Derived.Test.YtbfnilfkhonpaaaDoorFarI
import Derived.Shelf.Strings.BuilderK
import Derived.Shelf.Strings.BuilderF
namespace Go.Proofs.YtbfnilfkhonpaaaDoor
open Go.RowKit Go.Joins

theorem builderAt_below {T e : TypeId} {B b : Nat} {p : Value} {bs : List Value} {W W' : World} (h : Lib.BuilderAtF T e B b p bs W) (hb : Below W.heap.size W W') : Lib.BuilderAtF T e B b p bs W' := by
  obtain ⟨hB, v, hv, hown, hne⟩ := h
  exact ⟨hB, v, (hb.block b (lt_of_block hv)).trans hv, hown.kept (row := none) ⟨hb.os, hb.tape, hb.output, hb.size, fun k hk _ => hb.block k hk⟩ (Classical.em _), hne⟩
theorem builder_below {T e : TypeId} {B b : Nat} {bs : List Value} {W W' : World} (h : Lib.IsBuilderF T e B b bs W) (hb : Below W.heap.size W W') : Lib.IsBuilderF T e B b bs W' :=
  h.elim (fun x => .inl (builderAt_below x hb)) (fun x => .inr (builderAt_below x hb))
open Go.Shelf in
theorem WriteString_c (B b : Nat) (bs : List Value) (s : ByteArray) (w : World) (h : Lib.IsBuilderF 79 5 B b bs w) (hlen : bs.length + s.size ≤ 140737488355328) (hBw : B ≤ w.heap.size) :
    Calls Tryd.prog 56 #[.pointer (some ⟨b, 0, none⟩), .string s] w fun e w' => e = .returned (.tuple #[.int .i64 s.size, .nilIface]) ∧ Lib.IsBuilderF 79 5 B b (bs ++ Lib.strCells s) w' ∧ Below B w w' ∧ Lib.OthersKept 5 (some b) w w' :=
  (Any.Builder_WriteString_k { Tryd.lays156 with } Tryd.Builder_Extra_156 B b bs s w h hlen hBw).mono fun _ _ ⟨h1, h2, h3, h4⟩ => ⟨h1, .inr h2, h3, h4⟩
open Go.Shelf in
theorem BuilderString_c (B b : Nat) (l : List UInt8) (w : World) (h : Lib.IsBuilderF 79 5 B b (Lib.byteCells l) w) (hBw : B ≤ w.heap.size) :
    Calls Tryd.prog 59 #[.pointer (some ⟨b, 0, none⟩)] w fun e w' => e = .returned (.string ⟨l.toArray⟩) ∧ Below B w w' :=
  (Any.Builder_String_any_f { Tryd.lays156 with } Tryd.Builder_Extra_156 B b l w h hBw).mono fun _ _ ⟨h1, _, h3⟩ => ⟨h1, h3⟩

/-- What LedgerPut gives. -/
def ledPut (zs : List En) : List UInt8 := if far zs = zs.length then rowsText zs else []
theorem rowsText_snoc {zs : List En} {k : Nat} (h : k < zs.length) : rowsText (zs.take (k + 1)) = rowsText (zs.take k) ++ (Lib.itoa zs[k].s ++ [32] ++ reqPutL zs[k].r ++ [10]) := by
  unfold rowsText
  rw [List.take_succ_eq_append_getElem h, List.flatMap_append]
  simp only [List.flatMap_cons, List.flatMap_nil, List.append_nil, rowText]
theorem s_bounds {zs : List En} (h : far zs = zs.length) {k : Nat} (hk : k < zs.length) : 0 ≤ zs[k].s ∧ zs[k].s < 4294967296 := by
  have h1 := right_sum ((far_is zs).2.1 k (by omega))
  rw [enAt_eq hk] at h1
  have h2 := sumL_lt (prevAt zs k) ((k : Int) + 1) zs[k].r
  omega
theorem rowsText_len {zs : List En} (h : far zs = zs.length) : ∀ k, k ≤ zs.length → (rowsText (zs.take k)).length ≤ k * 123
  | 0, _ => by simp [rowsText]
  | k + 1, hk => by
    have hb := s_bounds h (show k < zs.length by omega)
    have ih := rowsText_len h k (by omega)
    have h1 := itoa_len zs[k].s (by omega) (by omega)
    have h2 := putLen zs[k].r
    rw [rowsText_snoc (show k < zs.length by omega)]
    simp only [List.length_append, List.length_cons, List.length_nil]
    omega

set_option maxHeartbeats 1000000 in
theorem ledger_c (a : Option Addr) (n cap : Nat) (zs : List En) (w : World) (E : Env w) (h : IsSl w (.slice a n cap) 6 En.cs zs) (hn : n ≤ 16777216) :
    Calls Tryd.prog 49 #[.slice a n cap] w fun e w' => e = .returned (.bool (decide (far zs = n))) ∧ Below w.heap.size w w' := by
  have HH := Lib.hid h
  have EE := Lib.hid E
  clear h E
  go_enter Tryd.func49, Tryd.ntmps49
  go_wp2_with fail
  refine (LedgerFar_c a n cap zs _ EE.out HH.out hn).mono ?_
  rintro e w1 ⟨rfl, k1⟩
  go_wp2_with fail
  go_ret
  refine ⟨ret_bool ?_, k1⟩
  by_cases h : far zs = n
  · simp [h]
  · simp [h]
    omega

set_option maxRecDepth 100000 in
set_option maxHeartbeats 4000000 in
theorem sLedgerPut_c (a : Option Addr) (n cap : Nat) (zs : List En) (w : World) (h : IsSl w (.slice a n cap) 6 En.cs zs) (hn : n ≤ 16777216) :
    Calls Tryd.prog 29 #[.slice a n cap] w fun e w' => e = .returned (.string ⟨(ledPut zs).toArray⟩) ∧ Below w.heap.size w w' := by
  obtain ⟨hzl, hlc, hm, hr⟩ := h.bounds
  have HH := Lib.hid h
  have HR := Lib.hid hr
  have HZ := Lib.hid hzl
  clear hr h
  unfold maxLen at hm
  have hfl := far_le zs
  rw [hzl] at hfl
  clear hzl
  have HF := Lib.hid (l7Far_c a n cap zs w HH.out hn)
  by_cases hf : far zs = n
  · have HL : Hid (ledPut zs = rowsText zs) := by show ledPut zs = _; unfold ledPut; rw [HZ.out, if_pos hf]
    have h60 := far_le60 zs
    have HB := Lib.hid (fun k (hk : k < zs.length) => s_bounds (hf.trans HZ.out.symm) hk)
    have HT := Lib.hid (rowsText_len (hf.trans HZ.out.symm))
    rw [hf] at HF h60
    clear hf hfl
    go_enter Tryd.func29, Tryd.ntmps29
    go_wp2_with fail
    refine HF.out.mono ?_
    rintro e w1 ⟨rfl, k1⟩
    go_wp2_with fail
    go_loopw [3, 4] (fun s i wr => ∃ k : Nat, k ≤ n ∧ i = .int .i64 k ∧ s = .string ⟨(rowsText (zs.take k)).toArray⟩ ∧ Below w.heap.size w wr) (fun _ i _ => n - (intOf i).toNat)
    case atStart => exact ⟨0, Nat.zero_le _, rfl, rfl, k1⟩
    case round =>
      obtain ⟨k, hk, rfl, rfl, hbel⟩ := hrel
      have HBel := Lib.hid hbel
      by_cases hlt : k < n
      · have hkz : k < zs.length := by rw [HZ.out]; exact hlt
        have hk1 : (k : Int) < (n : Int) := by omega
        have hk0 : (0 : Int) ≤ (k : Int) := by omega
        obtain ⟨b0, o0, rfl, hl0, hc0⟩ := six_at HR.out k hkz
        obtain ⟨c0, c1, c2, c3, c4, c5⟩ := hc0 wr hbel
        have HS := Lib.hid (rowsText_snoc hkz)
        obtain ⟨hs0, hs1⟩ := HB.out k hkz
        have lo := HT.out k (by rw [HZ.out]; exact hk)
        clear hc0
        generalize zs[k] = z at *
        have e0 := cell_regrown c0
        have e1 := cell_regrown c1
        have e2 := cell_regrown c2
        have e3 := cell_regrown c3
        have e4 := cell_regrown c4
        have e5 := cell_regrown c5
        clear c0 c1 c2 c3 c4 c5
        have cC := quiet_c (w := wr) (fun V _ => l1Dec_c z.s V (by omega) (by omega))
        have cR := quiet_c (w := wr) (fun V _ => sReqPut_c z.r.c z.r.n z.r.o z.r.x z.r.y V)
        have lc := itoa_len z.s (by omega) (by omega)
        have lr := putLen z.r
        have ez : (⟨z.r.c, z.r.n, z.r.o, z.r.x, z.r.y⟩ : Rq) = z.r := rfl
        rw [ez] at cR
        generalize Lib.itoa z.s = sc at *
        generalize reqPutL z.r = sr at *
        generalize rowsText (zs.take k) = so at *
        have n1 : ¬ 9223372036854775807 < so.length + sc.length := by omega
        have n2 : ¬ 9223372036854775807 < so.length + sc.length + 1 := by omega
        have n3 : ¬ 9223372036854775807 < so.length + sc.length + 1 + sr.length := by omega
        have n4 : ¬ 9223372036854775807 < so.length + sc.length + 1 + sr.length + 1 := by omega
        clear hs0 hs1 ez
        go_wp2_with fail
        refine wp_region_quiet_below (by kernel_rfl) (by kernel_rfl) ?_
        repeat (go_big_quiet_step (first | with_reducible exact cC _ _ | with_reducible exact cR _ _))
        refine wpQuiet_nil ?_
        intro _ hw'
        obtain ⟨⟨dq, osq⟩, hw''⟩ := hw'
        subst hw''
        have KQ := below_next HBel.out (below_regrown wr dq osq)
        go_wp2_with fail
        go_roundw
        case rel =>
          refine ⟨k + 1, by omega, by go_num, ?_, KQ⟩
          rw [HS.out]
          congr 1
          apply ByteArray.ext
          simp
        case measure => simp [intOf]; omega
      · have hkn : k = n := by omega
        have e : zs.take k = zs := List.take_of_length_le (by rw [HZ.out]; omega)
        rw [e]
        clear e hkn
        go_wp2_with fail
        go_ret
        exact ⟨ret_str (by rw [HL.out]), hbel⟩
  · have HL : Hid (ledPut zs = []) := by show ledPut zs = _; unfold ledPut; rw [HZ.out, if_neg hf]
    have hlt : far zs < n := by omega
    clear hf
    generalize far zs = fa at *
    go_enter Tryd.func29, Tryd.ntmps29
    go_wp2_with fail
    refine HF.out.mono ?_
    rintro e w1 ⟨rfl, k1⟩
    go_wp2_with fail
    go_ret
    exact ⟨ret_str (by rw [HL.out]), k1⟩
end Go.Proofs.YtbfnilfkhonpaaaDoor
