/- Contracts of the sums of rows (l7Sum, link) and of how far rows are right; condition: the package variables as listed. -/
import Derived.Test.YtbfnilfkhonpaaaDoorLedLaw
import Derived.Test.YtbfnilfkhonpaaaDoorImplPut
import Derived.Test.YtbfnilfkhonpaaaDoorCrc
import Derived.Test.YtbfnilfkhonpaaaDoorAt
import Derived.Lib.QuietBelow
namespace Go.Proofs.YtbfnilfkhonpaaaDoor
open Go.RowKit Go.Joins

theorem quiet_c {P : Program} {f : FuncId} {args : Array Value} {w : World} {v : Value} (h : ∀ W, Below w.heap.size w W → Calls P f args W fun e w' => e = .returned v ∧ Below W.heap.size W w') :
    ∀ d os, Calls P f args (Sort.grow (redrawn w d) os) fun e w'' => e = .returned v ∧ ∃ p : Regrown, w'' = Sort.grow (redrawn w p.d) p.os := fun d os => Calls.regrown_of (h _ (below_regrown w d os))
theorem cell_re {w : World} {b : Nat} {cs : Array Value} {t : TypeId} {fr : Nat × Nat} (h : w.heap[b]? = some (.cells cs t fr)) (d : Nat) (os : Array Obj) (i : Nat) : (Sort.grow (redrawn w d) os).cell? ⟨b, i, none⟩ = cs[i]? :=
  ((below_regrown w d os).cell (p := ⟨b, i, none⟩) (lt_of_block h)).trans (cell_of_block h i)
theorem quiet_same {P : Program} {f : FuncId} {args : Array Value} {w : World} {v : Value} (h : ∀ W, Calls P f args W fun e w' => e = .returned v ∧ W = w') :
    ∀ d os, Calls P f args (Sort.grow (redrawn w d) os) fun e w'' => e = .returned v ∧ ∃ p : Regrown, w'' = Sort.grow (redrawn w p.d) p.os :=
  quiet_c fun W _ => (h W).mono fun e w' ⟨he, hw⟩ => ⟨he, hw ▸ Below.refl _ _⟩

theorem wordsLen (k : Nat) : (words.getD k []).length ≤ 4 := by
  rcases k with _ | _ | _ | _ | _ | _ | k
  all_goals simp [words]
theorem putLen (r : Rq) : (reqPutL r).length ≤ 100 := by
  unfold reqPutL
  split
  · decide
  · split
    · rename_i h
      have h' := okB_op h
      have l1 := itoa_len r.c (by omega) (by omega)
      have l2 := itoa_len r.n (by omega) (by omega)
      have l3 := itoa_len r.x (by omega) (by omega)
      have l4 := itoa_len r.y (by omega) (by omega)
      have l5 := wordsLen r.o.toNat
      simp only [putL, List.length_append, List.length_cons, List.length_nil]
      omega
    · decide

/-- The sum of a text that is put together. -/
theorem sum_text (f : FuncId) (sc sn sr : List UInt8) (hl : sc.length + sn.length + sr.length ≤ 1000) (h : ∀ (s : ByteArray) (V : World), s.size ≤ 4611686018427387904 → Calls Tryd.prog f #[.string s] V fun e w' => e = .returned (.int .i64 (crcOf s.data.toList)) ∧ V = w') (V : World) :
    Calls Tryd.prog f #[.string ((⟨sc.toArray⟩ : ByteArray) ++ ⟨#[124]⟩ ++ ⟨sn.toArray⟩ ++ ⟨#[124]⟩ ++ ⟨sr.toArray⟩)] V fun e w' => e = .returned (.int .i64 (crcOf (sc ++ [124] ++ sn ++ [124] ++ sr))) ∧ V = w' := by
  have e : (⟨sc.toArray⟩ : ByteArray) ++ ⟨#[124]⟩ ++ ⟨sn.toArray⟩ ++ ⟨#[124]⟩ ++ ⟨sr.toArray⟩ = ⟨(sc ++ [124] ++ sn ++ [124] ++ sr).toArray⟩ := by
    apply ByteArray.ext
    simp
  rw [e]
  exact h ⟨(sc ++ [124] ++ sn ++ [124] ++ sr).toArray⟩ V (by show (_ : List UInt8).toArray.size ≤ _; simp; omega)

set_option maxRecDepth 100000 in
set_option maxHeartbeats 2000000 in
theorem l7Sum_c (p q : Int) (r : Rq) (w : World) (hp0 : -4611686018427387904 ≤ p) (hp1 : p ≤ 4611686018427387904) (hq0 : -4611686018427387904 ≤ q) (hq1 : q ≤ 4611686018427387904) :
    Calls Tryd.prog 71 #[.int .i64 p, .int .i64 q, .agg #[.int .i64 r.c, .int .i64 r.n, .int .i64 r.o, .int .i64 r.x, .int .i64 r.y]] w fun e w' => e = .returned (.int .i64 (sumL p q r)) ∧ Below w.heap.size w w' := by
  have HC := Lib.hid (fun W => l1Dec_c p W hp0 hp1)
  have HN := Lib.hid (fun W => l1Dec_c q W hq0 hq1)
  have HR := Lib.hid (fun W => sReqPut_c r.c r.n r.o r.x r.y W)
  have lc := itoa_len p hp0 hp1
  have ln := itoa_len q hq0 hq1
  have lr := putLen ⟨r.c, r.n, r.o, r.x, r.y⟩
  have HS : Hid (sumL p q r = crcOf (Lib.itoa p ++ [124] ++ Lib.itoa q ++ [124] ++ reqPutL ⟨r.c, r.n, r.o, r.x, r.y⟩)) := rfl
  generalize Lib.itoa p = sc at *
  generalize Lib.itoa q = sn at *
  generalize reqPutL ⟨r.c, r.n, r.o, r.x, r.y⟩ = sr at *
  clear hp0 hp1 hq0 hq1
  go_enter Tryd.func71, Tryd.ntmps71
  go_wp2_with fail
  obtain ⟨W, hW, sW, aW, kW⟩ := blocks1 w (.cells #[.int .i64 r.c, .int .i64 r.n, .int .i64 r.o, .int .i64 r.x, .int .i64 r.y] 42)
  rw [← hW]
  clear hW
  have hc := cell_re aW
  have cC := quiet_c (w := W) (fun V _ => HC.out V)
  have cN := quiet_c (w := W) (fun V _ => HN.out V)
  have cR := quiet_c (w := W) (fun V _ => HR.out V)
  have n1 : ¬ 9223372036854775807 < sc.length + 1 := by omega
  have n2 : ¬ 9223372036854775807 < sc.length + 1 + sn.length := by omega
  have n3 : ¬ 9223372036854775807 < sc.length + 1 + sn.length + 1 := by omega
  have n4 : ¬ 9223372036854775807 < sc.length + 1 + sn.length + 1 + sr.length := by omega
  have cS := quiet_same (w := W) (sum_text 92 sc sn sr (by omega) (fun s V hs => l7Crc_c s V hs))
  refine wp_region_quiet_below (by kernel_rfl) (by kernel_rfl) ?_
  repeat (quiet_step (first | with_reducible exact cC _ _ | with_reducible exact cN _ _ | with_reducible exact cR _ _ | with_reducible exact cS _ _))
  refine wpQuiet_nil ?_
  intro _ hw'
  obtain ⟨⟨dq, osq⟩, hw''⟩ := hw'
  subst hw''
  go_wp2_with fail
  go_ret
  exact ⟨ret_int (by rw [HS.out]; simp), below_next kW (below_regrown W dq osq)⟩

/-- The program's link. -/
theorem addr_some {zs : List En} {w : World} {a : Option Addr} {k : Nat} (h : RowsAt w a 6 En.cs zs) (hk : k < zs.length) : ∃ b off, a = some ⟨b, off, none⟩ ∧ b < w.heap.size := by
  obtain ⟨b, off, h1, h2, _⟩ := h k hk
  exact ⟨b, off, h1, h2⟩

set_option maxRecDepth 100000 in
set_option maxHeartbeats 2000000 in
theorem link_c (a : Option Addr) (n cap : Nat) (zs : List En) (r : Rq) (w : World) (E : Env w) (h : IsSl w (.slice a n cap) 6 En.cs zs) (hn : n ≤ 16777216) (hp0 : 0 ≤ lastSum zs) (hp1 : lastSum zs ≤ 4294967296) :
    Calls Tryd.prog 61 #[.slice a n cap, .agg #[.int .i64 r.c, .int .i64 r.n, .int .i64 r.o, .int .i64 r.x, .int .i64 r.y]] w fun e w' => e = .returned (.int .i64 (sumL (lastSum zs) ((n : Int) + 1) r)) ∧ Below w.heap.size w w' := by
  obtain ⟨hzl, hlc, hm, hr⟩ := h.bounds
  have EE := Lib.hid E
  have HC := Lib.hid (fun W E => Itoa_c (lastSum zs) W (by omega) (by omega) E)
  have HN := Lib.hid (fun W E => Itoa_c ((n : Int) + 1) W (by omega) (by omega) E)
  have HR := Lib.hid (fun W E => ReqPut_c r.c r.n r.o r.x r.y W E)
  have lc := itoa_len (lastSum zs) (by omega) (by omega)
  have ln := itoa_len ((n : Int) + 1) (by omega) (by omega)
  have lr := putLen ⟨r.c, r.n, r.o, r.x, r.y⟩
  have HS : Hid (sumL (lastSum zs) ((n : Int) + 1) r = crcOf (Lib.itoa (lastSum zs) ++ [124] ++ Lib.itoa ((n : Int) + 1) ++ [124] ++ reqPutL ⟨r.c, r.n, r.o, r.x, r.y⟩)) := rfl
  have HL : Hid (lastSum zs = prevAt zs n) := by show lastSum zs = prevAt zs n; unfold lastSum; rw [hzl]
  generalize Lib.itoa (lastSum zs) = sc at *
  generalize Lib.itoa ((n : Int) + 1) = sn at *
  generalize reqPutL ⟨r.c, r.n, r.o, r.x, r.y⟩ = sr at *
  have n1 : ¬ 9223372036854775807 < sc.length + 1 := by omega
  have n2 : ¬ 9223372036854775807 < sc.length + 1 + sn.length := by omega
  have n3 : ¬ 9223372036854775807 < sc.length + 1 + sn.length + 1 := by omega
  have n4 : ¬ 9223372036854775807 < sc.length + 1 + sn.length + 1 + sr.length := by omega
  have cS0 := sum_text 88 sc sn sr (by omega) (fun s V hs => Crc_c s V hs)
  have hwn : IntKind.i64.wrap ((n : Int) + 1) = (n : Int) + 1 := IntWalk.i64_in _ ⟨by omega, by omega⟩
  generalize lastSum zs = p at *
  have HRW := Lib.hid hr
  have fin : ∀ W, W.heap[w.heap.size]? = some (.cells #[.int .i64 r.c, .int .i64 r.n, .int .i64 r.o, .int .i64 r.x, .int .i64 r.y] 42 (0, 0)) → Below w.heap.size w W →
      (∀ i d os, (Sort.grow (redrawn W d) os).cell? ⟨w.heap.size, i, none⟩ = (#[.int .i64 r.c, .int .i64 r.n, .int .i64 r.o, .int .i64 r.x, .int .i64 r.y] : Array Value)[i]?) ∧
      (∀ d os, Calls Tryd.prog 57 #[.int .i64 p] (Sort.grow (redrawn W d) os) fun e w'' => e = .returned (.string ⟨sc.toArray⟩) ∧ ∃ p : Regrown, w'' = Sort.grow (redrawn W p.d) p.os) ∧
      (∀ d os, Calls Tryd.prog 57 #[.int .i64 ((n : Int) + 1)] (Sort.grow (redrawn W d) os) fun e w'' => e = .returned (.string ⟨sn.toArray⟩) ∧ ∃ p : Regrown, w'' = Sort.grow (redrawn W p.d) p.os) ∧
      (∀ d os, Calls Tryd.prog 58 #[.agg #[.int .i64 r.c, .int .i64 r.n, .int .i64 r.o, .int .i64 r.x, .int .i64 r.y]] (Sort.grow (redrawn W d) os) fun e w'' => e = .returned (.string ⟨sr.toArray⟩) ∧ ∃ p : Regrown, w'' = Sort.grow (redrawn W p.d) p.os) := fun W hW hb =>
    ⟨fun i d os => cell_re hW d os i, quiet_c (w := W) (fun V hV => HC.out V (EE.out.below (below_next hb hV))), quiet_c (w := W) (fun V hV => HN.out V (EE.out.below (below_next hb hV))), quiet_c (w := W) (fun V hV => HR.out V (EE.out.below (below_next hb hV)))⟩
  have FIN := Lib.hid fin
  clear fin hr
  have hp : (n : Int) ≤ 0 → p = 0 := fun h => by rw [HL.out]; unfold prevAt; rw [if_pos (by omega)]
  by_cases h0 : (n : Int) ≤ 0
  · have hp' := hp h0
    clear hp
    subst hp'
    go_enter Tryd.func61, Tryd.ntmps61
    go_wp2_with fail
    obtain ⟨W, hW, sW, aW, kW⟩ := blocks1 w (.cells #[.int .i64 r.c, .int .i64 r.n, .int .i64 r.o, .int .i64 r.x, .int .i64 r.y] 42)
    rw [← hW]
    clear hW
    obtain ⟨hc, cC, cN, cR⟩ := FIN.out W aW kW
    have cS := quiet_same (w := W) cS0
    refine wp_region_quiet_below (by kernel_rfl) (by kernel_rfl) ?_
    repeat (quiet_step (first | with_reducible exact cC _ _ | with_reducible exact cN _ _ | with_reducible exact cR _ _ | with_reducible exact cS _ _))
    refine wpQuiet_nil ?_
    intro _ hw'
    obtain ⟨⟨dq, osq⟩, hw''⟩ := hw'
    subst hw''
    go_wp2_with fail
    go_ret
    exact ⟨ret_int (by rw [HS.out]; simp), below_next kW (below_regrown W dq osq)⟩
  · clear hp
    obtain ⟨b, off, ha, hb, hcells⟩ := HRW.out (n - 1) (by omega)
    subst ha
    have hpc : w.cell? ⟨b, off + (n - 1) * 6 + 5, none⟩ = some (.int .i64 p) := by
      rw [hcells 5 (by decide), HL.out]
      unfold prevAt
      rw [if_neg (by omega), enAt_eq (by omega)]
      rfl
    clear hcells
    obtain ⟨m, rfl⟩ : ∃ m, n = m + 1 := ⟨n - 1, by omega⟩
    rw [Nat.add_sub_cancel] at hpc
    go_enter Tryd.func61, Tryd.ntmps61
    go_wp2_with fail
    obtain ⟨W, hW, sW, aW, kW⟩ := blocks1 w (.cells #[.int .i64 r.c, .int .i64 r.n, .int .i64 r.o, .int .i64 r.x, .int .i64 r.y] 42)
    rw [← hW]
    clear hW
    obtain ⟨hc, cC, cN, cR⟩ := FIN.out W aW kW
    have em : ((m + 1 : Nat) : Int) = (m : Int) + 1 := rfl
    rw [em] at cN hwn
    clear em
    have cS := quiet_same (w := W) cS0
    refine wp_region_quiet_below (by kernel_rfl) (by kernel_rfl) ?_
    repeat (quiet_step (first | with_reducible exact cC _ _ | with_reducible exact cN _ _ | with_reducible exact cR _ _ | with_reducible exact cS _ _))
    refine wpQuiet_nil ?_
    intro _ hw'
    obtain ⟨⟨dq, osq⟩, hw''⟩ := hw'
    subst hw''
    go_wp2_with fail
    go_ret
    exact ⟨ret_int (by rw [HS.out]; simp), below_next kW (below_regrown W dq osq)⟩
end Go.Proofs.YtbfnilfkhonpaaaDoor
