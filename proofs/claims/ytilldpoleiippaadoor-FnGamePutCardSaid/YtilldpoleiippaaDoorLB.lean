/- What the walks ask of strconv's table of tens; condition: what the row lists. | Contracts of strings.Builder's WriteString and String; no condition. | The package variables that the walks read: strconv's table of tens, the words of the operations; condition: what the row lists. | Contracts of strconv.Itoa and of the program's ReqPut; condition: the package variables as listed. | Contracts of the sums of rows (l7Sum, link) and of how far rows are right; condition: the package variables as listed. | Contracts of l7Far and LedgerFar: how many rows are right; condition: the package variables as listed. | Contract of the program's LedgerFar; condition: the package variables as listed. | Contracts of LedgerPut, the program's and the reference's; condition: the package variables as listed. | Contract of the program's LedgerPut; condition: the package variables as listed. -/
import Derived.Test.YtilldpoleiippaaDoorLA
import Derived.LaidMore
import Derived.Stop.LaidErr
import Derived.Lib.LaidTab
import Derived.Lib.SmallJoins
import Derived.MakeChecks
import Derived.Shelf.Strconv.Itoa3
import Derived.Test.YtilldpoleiippaaDoorShelf
import Derived.Shelf.Strings.BuilderK
import Derived.Shelf.Strings.BuilderF
import Derived.Lib.QuietBelow
import Derived.BigQuiet
set_option linter.unusedSimpArgs false
set_option linter.unusedVariables false
/-! What the walks ask of strconv's table of tens; condition: what the row lists. -/
namespace Go.Proofs.YtilldpoleiippaaDoor
open Go.ChangeShapes Go.WideShapes Go.RowKit Go.Joins

theorem gPow : Tryd.prog.globalNamed "internal/strconv.uint64pow10" = some 4 := by kernel_rfl
theorem cell_stays {w w' : World} {b o : Nat} {v : Value} (k : Below w.heap.size w w') (h : w.cell? ⟨b, o, none⟩ = some v) : w'.cell? ⟨b, o, none⟩ = some v :=
  (k.cell (p := ⟨b, o, none⟩) (World.block_lt_of_cell? w _ h)).trans h
theorem pow_of_laid {W : World} {rest : List (String × DataW Unit)} (h : laidMet Tryd.prog (("internal/strconv.uint64pow10", Rows.laid_internal_strconv_uint64pow10) :: rest) W) :
    Lib.TabIs Tryd.prog W "internal/strconv.uint64pow10" .u64 Lib.pow10Tab :=
  Lib.tabIs_of_head (t := 162) (e := 142) (n := 20) gPow (by kernel_rfl) Tryd.underlying162 Tryd.underlying142 (by kernel_rfl) (by kernel_rfl) h
theorem below_grow (w : World) (k : Nat) (os : Array Obj) : Below w.heap.size w (Sort.grow (w.drewN k) os) :=
  ⟨rfl, rfl, rfl, by simp [Sort.grow], fun i hi => by simp [Sort.grow, Array.getElem?_append, hi]⟩
end Go.Proofs.YtilldpoleiippaaDoor

/-! Contracts of strings.Builder's WriteString and String; no condition. -/
namespace Go.Proofs.YtilldpoleiippaaDoor
open Go.RowKit Go.Joins

theorem builderAt_below {T e : TypeId} {B b : Nat} {p : Value} {bs : List Value} {W W' : World} (h : Lib.BuilderAtF T e B b p bs W) (hb : Below W.heap.size W W') : Lib.BuilderAtF T e B b p bs W' := by
  obtain ⟨hB, v, hv, hown, hne⟩ := h
  exact ⟨hB, v, (hb.block b (lt_of_block hv)).trans hv, hown.kept (row := none) ⟨hb.os, hb.tape, hb.output, hb.size, fun k hk _ => hb.block k hk⟩ (Classical.em _), hne⟩
theorem builder_below {T e : TypeId} {B b : Nat} {bs : List Value} {W W' : World} (h : Lib.IsBuilderF T e B b bs W) (hb : Below W.heap.size W W') : Lib.IsBuilderF T e B b bs W' :=
  h.elim (fun x => .inl (builderAt_below x hb)) (fun x => .inr (builderAt_below x hb))
open Go.Shelf in
theorem WriteString_c (B b : Nat) (bs : List Value) (s : ByteArray) (w : World) (h : Lib.IsBuilderF 78 5 B b bs w) (hlen : bs.length + s.size ≤ 140737488355328) (hBw : B ≤ w.heap.size) :
    Calls Tryd.prog 55 #[.pointer (some ⟨b, 0, none⟩), .string s] w fun e w' => e = .returned (.tuple #[.int .i64 s.size, .nilIface]) ∧ Lib.IsBuilderF 78 5 B b (bs ++ Lib.strCells s) w' ∧ Below B w w' ∧ Lib.OthersKept 5 (some b) w w' :=
  by first
    | exact (Any.Builder_WriteString_k { Tryd.lays156 with } Tryd.Builder_Extra_156 B b bs s w h hlen hBw).mono fun _ _ ⟨h1, h2, h3, h4⟩ => ⟨h1, .inr h2, h3, h4⟩
    | exact (Any.Builder_WriteString_k Tryd.lays166 Tryd.Builder_Extra_166 B b bs s w h hlen hBw).mono fun _ _ ⟨h1, h2, h3, h4⟩ => ⟨h1, .inr h2, h3, h4⟩
open Go.Shelf in
theorem BuilderString_c (B b : Nat) (l : List UInt8) (w : World) (h : Lib.IsBuilderF 78 5 B b (Lib.byteCells l) w) (hBw : B ≤ w.heap.size) :
    Calls Tryd.prog 57 #[.pointer (some ⟨b, 0, none⟩)] w fun e w' => e = .returned (.string ⟨l.toArray⟩) ∧ Below B w w' :=
  by first
    | exact (Any.Builder_String_any_f { Tryd.lays156 with } Tryd.Builder_Extra_156 B b l w h hBw).mono fun _ _ ⟨h1, _, h3⟩ => ⟨h1, h3⟩
    | exact (Any.Builder_String_any_f Tryd.lays169 Tryd.Builder_Extra_169 B b l w h hBw).mono fun _ _ ⟨h1, _, h3⟩ => ⟨h1, h3⟩
end Go.Proofs.YtilldpoleiippaaDoor

/-! The package variables that the walks read: strconv's table of tens, the words of the operations; condition: what the row lists. -/
namespace Go.Proofs.YtilldpoleiippaaDoor
open Go.ChangeShapes Go.WideShapes Go.RowKit Go.Joins

theorem gWords : Tryd.prog.globalNamed "loop.example/wapentake/impl.words" = some 0 := by kernel_rfl

/-- What the walks ask of the package variables. -/
structure Env (w : World) : Prop where
  pow : Lib.TabIs Tryd.prog w "internal/strconv.uint64pow10" .u64 Lib.pow10Tab
  words : ∃ b off cap, w.cell? ⟨0, 0, none⟩ = some (.slice (some ⟨b, off, none⟩) 6 cap) ∧ 6 ≤ cap ∧ ∀ k, k < 6 → w.cell? ⟨b, off + k, none⟩ = some (.string ⟨(words.getD k []).toArray⟩)

theorem Env.below {w w' : World} (h : Env w) (k : Below w.heap.size w w') : Env w' := by
  obtain ⟨h1, b, off, cap, h2, h3, h4⟩ := h
  exact ⟨tab_stays gPow h1 k (Nat.le_refl _), b, off, cap, cell_stays k h2, h3, fun i hi => cell_stays k (h4 i hi)⟩
theorem Env.grown {w w' : World} {g : Nat} {B : Nat} (h : Env w) (k : Below B w w') (hB : w.heap.size ≤ B) : Env w' := h.below (k.mono hB)

theorem words_of_laid {W : World} {rest : List (String × DataW Unit)} (h : laidMet Tryd.prog (("loop.example/wapentake/impl.words", Rows.laid_loop_example_wapentake_impl_words) :: rest) W) :
    ∃ b off cap, W.cell? ⟨0, 0, none⟩ = some (.slice (some ⟨b, off, none⟩) 6 cap) ∧ 6 ≤ cap ∧ ∀ k, k < 6 → W.cell? ⟨b, off + k, none⟩ = some (.string ⟨(words.getD k []).toArray⟩) := by
  obtain ⟨ps, ⟨g, t, cs, fuel, p, q, hg, ht, hvar, hd, _, _⟩, _⟩ := h
  obtain rfl := Option.some.inj (gWords.symm.trans hg)
  have hty : (Tryd.prog.globals[0]?).map (·.type) = some 59 := by kernel_rfl
  obtain rfl := Option.some.inj (hty.symm.trans ht)
  obtain ⟨a, cap, hcs, hcap, hel⟩ := open_row (P := Tryd.prog) Tryd.underlying59 (by kernel_rfl) hd
  have hc0 : W.cell? ⟨0, 0, none⟩ = some (.slice (some a) 6 cap) := by
    have := World.var?_cell hg hvar 0
    rw [Array.eq_one_of_toList hcs] at this
    simpa using this
  have str : ∀ k (d : DataW Unit) (s : List UInt8), [DataW.lit (.string []), .lit (.string [106, 111, 105, 110]), .lit (.string [109, 111, 118, 101]), .lit (.string [116, 97, 107, 101]), .lit (.string [104, 105, 116]), .lit (.string [103, 105, 118, 101])][k]? = some d → d = .lit (.string s) → W.cell? (a.add k) = some (.string ⟨s.toArray⟩) := by
    intro k d s hk hd
    obtain ⟨v, n, q, hv, htr⟩ := hel k d hk
    obtain ⟨x, hx, hx2, _⟩ := DataW.trod_string Tryd.underlying9 htr
    simp only [List.cons.injEq, and_true] at hx
    subst hx hd
    simp only [Prod.mk.injEq, DataW.lit.injEq, Lit.string.injEq] at hx2
    rw [hv, hx2.1]
  have hspot := World.cell?_spot (str 0 _ [] rfl rfl)
  obtain ⟨b, off, spot⟩ := a
  obtain rfl : spot = none := by simpa [Addr.add] using hspot
  refine ⟨b, off, cap, hc0, hcap, fun k hk => ?_⟩
  match k, hk with
  | 0, _ => have := str 0 _ [] rfl rfl; rwa [Go.WideShapes.add_plain] at this
  | 1, _ => have := str 1 _ [106, 111, 105, 110] rfl rfl; rwa [Go.WideShapes.add_plain] at this
  | 2, _ => have := str 2 _ [109, 111, 118, 101] rfl rfl; rwa [Go.WideShapes.add_plain] at this
  | 3, _ => have := str 3 _ [116, 97, 107, 101] rfl rfl; rwa [Go.WideShapes.add_plain] at this
  | 4, _ => have := str 4 _ [104, 105, 116] rfl rfl; rwa [Go.WideShapes.add_plain] at this
  | 5, _ => have := str 5 _ [103, 105, 118, 101] rfl rfl; rwa [Go.WideShapes.add_plain] at this

end Go.Proofs.YtilldpoleiippaaDoor

/-! Contracts of strconv.Itoa and of the program's ReqPut; condition: the package variables as listed. -/
namespace Go.Proofs.YtilldpoleiippaaDoor
open Go.RowKit Go.Joins

attribute [local go_sem ↓] eql_rq neq_rq

theorem Itoa_c (n : Int) (w : World) (h0 : -4611686018427387904 ≤ n) (h1 : n ≤ 4611686018427387904) (E : Env w) :
    Calls Tryd.prog 56 #[.int .i64 n] w fun e w' => e = .returned (.string ⟨(Lib.itoa n).toArray⟩) ∧ Below w.heap.size w w' := by
  refine (Tryd.strconv_Itoa n (by omega) (by omega) w E.pow).mono ?_
  rintro e w' ⟨he, k, os, rfl⟩
  exact ⟨he, below_grow w k os⟩

theorem join_put (sc sn sw sx sy : List UInt8) : Lib.join [sc, sn, sw, sx, sy] [32] = sc ++ [32] ++ sn ++ [32] ++ sw ++ [32] ++ sx ++ [32] ++ sy := by
  simp [Lib.join, List.append_assoc]

set_option maxRecDepth 100000 in
set_option maxHeartbeats 4000000 in
theorem ReqPut_c (c n o x y : Int) (w : World) (E : Env w) :
    Calls Tryd.prog 30 #[.agg #[.int .i64 c, .int .i64 n, .int .i64 o, .int .i64 x, .int .i64 y]] w fun e w' => e = .returned (.string ⟨(reqPutL ⟨c, n, o, x, y⟩).toArray⟩) ∧ Below w.heap.size w w' := by
  have EE := Lib.hid E
  clear E
  cases hn : eqR c n o x y 0 0 0 0 0 with
  | true =>
    go_enter Tryd.func30, Tryd.ntmps30
    go_wp2_with fail
    go_ret
    exact ⟨ret_str (by simp [reqPutL, noneB, hn]), (by repeat' (first | with_reducible exact Below.refl _ _ | with_reducible assumption | with_reducible refine Below.alloc ?_ ?_ _ | with_reducible refine Below.drew ?_ | with_reducible refine Below.setCell ?_ ?_ _ | omega | (simp; omega) | (simp; done)))⟩
  | false =>
    cases hk : okB c n o x y with
    | false =>
      go_enter Tryd.func30, Tryd.ntmps30
      go_wp2_with fail
      refine (ReqOk_c c n o x y _).mono ?_
      rintro e w1 ⟨rfl, k1⟩
      go_wp2_with fail
      go_ret
      exact ⟨ret_str (by simp [reqPutL, noneB, hn, hk]), below_next (by repeat' (first | with_reducible exact Below.refl _ _ | with_reducible assumption | with_reducible refine Below.alloc ?_ ?_ _ | with_reducible refine Below.drew ?_ | with_reducible refine Below.setCell ?_ ?_ _ | omega | (simp; omega) | (simp; done))) k1⟩
    | true =>
      have hB := okB_op hk
      obtain ⟨k, rfl⟩ := Int.eq_ofNat_of_zero_le hB.1
      have hk5 : k ≤ 5 := by omega
      have HP : Hid (reqPutL ⟨c, n, k, x, y⟩ = Lib.join [Lib.itoa c, Lib.itoa n, words.getD k [], Lib.itoa x, Lib.itoa y] [32]) := by
        show reqPutL ⟨c, n, k, x, y⟩ = _
        rw [join_put]
        simp [reqPutL, noneB, hn, hk, putL]
      have HC := Lib.hid (fun W E => Itoa_c c W (by omega) (by omega) E)
      have HN := Lib.hid (fun W E => Itoa_c n W (by omega) (by omega) E)
      have HX := Lib.hid (fun W E => Itoa_c x W (by omega) (by omega) E)
      have HY := Lib.hid (fun W E => Itoa_c y W (by omega) (by omega) E)
      have lc := itoa_len c (by omega) (by omega)
      have ln := itoa_len n (by omega) (by omega)
      have lx := itoa_len x (by omega) (by omega)
      have ly := itoa_len y (by omega) (by omega)
      generalize Lib.itoa c = sc at *
      generalize Lib.itoa n = sn at *
      generalize Lib.itoa x = sx at *
      generalize Lib.itoa y = sy at *
      have hk0 : (0 : Int) ≤ (k : Int) := by omega
      have hk6 : (k : Int) < 6 := by omega
      clear hB
      go_enter Tryd.func30, Tryd.ntmps30
      go_wp2_with fail
      obtain ⟨W, hW, sW, aW, kW⟩ := blocks1 w (.cells #[.int .i64 c, .int .i64 n, .int .i64 k, .int .i64 x, .int .i64 y] 46)
      rw [← hW]
      clear hW
      refine (ReqOk_c c n k x y W).mono ?_
      rintro e w1 ⟨rfl, k1⟩
      have K1 := below_next kW k1
      have a1 := carryB k1 (by omega) aW
      have hc1 := cell_of_block a1
      rw [hk]
      go_wp2_with fail
      have E1 := EE.out.below K1
      obtain ⟨-, b, off, cap, hw0, hcap, hw1⟩ := E1
      have hwk := hw1 k (by omega)
      have hbl : b < w1.heap.size := World.block_lt_of_cell? w1 _ hwk
      have hgl : 0 < w1.heap.size := World.block_lt_of_cell? w1 _ hw0
      have hal := lt_of_block a1
      have lw : (words.getD k []).length ≤ 4 := by
        match k, hk5 with
        | 0, _ => decide
        | 1, _ => decide
        | 2, _ => decide
        | 3, _ => decide
        | 4, _ => decide
        | 5, _ => decide
      clear hw1
      generalize words.getD k [] = sw at *
      refine wp_region_held_drew (S := fun w' => (w'.cell? ⟨0, 0, none⟩ = some (.slice (some ⟨b, off, none⟩) 6 cap) ∧ w'.cell? ⟨b, off + k, none⟩ = some (.string ⟨sw.toArray⟩)) ∧ ∀ i, w'.cell? ⟨w.heap.size, i, none⟩ = #[.int .i64 c, .int .i64 n, .int .i64 k, .int .i64 x, .int .i64 y][i]?) (by kernel_rfl) ⟨⟨hw0, hwk⟩, hc1⟩ (fun hHeld => ?_)
      clear hcap hw0 hwk hc1 k1 a1 aW kW
      have SS : ∀ wa wb : World, w1.heap.size ≤ wa.heap.size → Below wa.heap.size wa wb → ((wa.cell? ⟨0, 0, none⟩ = some (.slice (some ⟨b, off, none⟩) 6 cap) ∧ wa.cell? ⟨b, off + k, none⟩ = some (.string ⟨sw.toArray⟩)) ∧ ∀ i, wa.cell? ⟨w.heap.size, i, none⟩ = #[.int .i64 c, .int .i64 n, .int .i64 k, .int .i64 x, .int .i64 y][i]?) → ((wb.cell? ⟨0, 0, none⟩ = some (.slice (some ⟨b, off, none⟩) 6 cap) ∧ wb.cell? ⟨b, off + k, none⟩ = some (.string ⟨sw.toArray⟩)) ∧ ∀ i, wb.cell? ⟨w.heap.size, i, none⟩ = #[.int .i64 c, .int .i64 n, .int .i64 k, .int .i64 x, .int .i64 y][i]?) := fun wa wb hl hb h => ⟨⟨((bcell hb).1 _ _ (by omega)).trans h.1.1, ((bcell hb).1 _ _ (by omega)).trans h.1.2⟩, fun i => ((bcell hb).1 _ i (by omega)).trans (h.2 i)⟩
      have SH := Lib.hid SS
      have K1d := below_next K1 (Below.drew (Below.refl w1.heap.size w1))
      clear SS
      refine wpAnyH_take (i := 0) (oi := _) (v := ?_) (by (simp only [List.getElem?_toArray]; rfl)) (by kernel_rfl) (by kernel_rfl) (by kernel_rfl) (by exact fun _ _ _ h => h) (Or.inl ⟨by rfl, ?_⟩) (by assumption) ?_
      rotate_left
      · intro wS hSw
        go_simp
        all_goals first | with_reducible rfl | rw [if_neg (by omega)]
      simp only [Act.put, List.setIfInBounds_toArray, List.set]
      refine wpAnyH_take (i := 1) (oi := _) (v := ?_) (by (simp only [List.getElem?_toArray]; rfl)) (by kernel_rfl) (by kernel_rfl) (by kernel_rfl) (by exact fun _ _ _ h => h) (Or.inl ⟨by rfl, ?_⟩) (by assumption) ?_
      rotate_left
      · intro wS hSw
        go_simp
        all_goals first | with_reducible rfl | rw [if_neg (by omega)]
      simp only [Act.put, List.setIfInBounds_toArray, List.set]
      refine wpAnyH_take (i := 3) (oi := _) (v := ?_) (by (simp only [List.getElem?_toArray]; rfl)) (by kernel_rfl) (by kernel_rfl) (by kernel_rfl) (by exact fun _ _ _ h => h) (Or.inl ⟨by rfl, ?_⟩) (by assumption) ?_
      rotate_left
      · intro wS hSw
        go_simp
        all_goals first | with_reducible rfl | rw [if_neg (by omega)]
      simp only [Act.put, List.setIfInBounds_toArray, List.set]
      refine wpAnyH_take (i := 4) (oi := _) (v := ?_) (by (simp only [List.getElem?_toArray]; rfl)) (by kernel_rfl) (by kernel_rfl) (by kernel_rfl) (by exact fun _ _ _ h => h) (Or.inl ⟨by rfl, ?_⟩) (by assumption) ?_
      rotate_left
      · intro wS hSw
        go_simp
        all_goals first | with_reducible rfl | rw [if_neg (by omega)]
      simp only [Act.put, List.setIfInBounds_toArray, List.set]
      refine wpAnyH_take (i := 6) (oi := _) (v := ?_) (by (simp only [List.getElem?_toArray]; rfl)) (by kernel_rfl) (by kernel_rfl) (by kernel_rfl) (by exact fun _ _ _ h => h) (Or.inl ⟨by rfl, ?_⟩) (by assumption) ?_
      rotate_left
      · intro wS hSw
        go_simp
        all_goals first | with_reducible rfl | rw [if_neg (by omega)]
      simp only [Act.put, List.setIfInBounds_toArray, List.set]
      refine wpAnyH_take (i := 7) (oi := _) (v := ?_) (by (simp only [List.getElem?_toArray]; rfl)) (by kernel_rfl) (by kernel_rfl) (by kernel_rfl) (by exact fun _ _ _ h => h) (Or.inl ⟨by rfl, ?_⟩) (by assumption) ?_
      rotate_left
      · intro wS hSw
        go_simp
        all_goals first | with_reducible rfl | rw [if_neg (by omega)]
      simp only [Act.put, List.setIfInBounds_toArray, List.set]
      refine wpAnyH_take (i := 8) (oi := _) (v := ?_) (by (simp only [List.getElem?_toArray]; rfl)) (by kernel_rfl) (by kernel_rfl) (by kernel_rfl) (by exact fun _ _ _ h => h) (Or.inl ⟨by rfl, ?_⟩) (by assumption) ?_
      rotate_left
      · intro wS hSw
        go_simp
        all_goals first | with_reducible rfl | rw [if_neg (by omega)]
      simp only [Act.put, List.setIfInBounds_toArray, List.set]
      refine wpAnyH_take (i := 9) (oi := _) (v := ?_) (by (simp only [List.getElem?_toArray]; rfl)) (by kernel_rfl) (by kernel_rfl) (by kernel_rfl) (by exact fun _ _ _ h => h) (Or.inl ⟨by rfl, ?_⟩) (by assumption) ?_
      rotate_left
      · intro wS hSw
        go_simp
        all_goals first | with_reducible rfl | rw [if_neg (by omega)]
      simp only [Act.put, List.setIfInBounds_toArray, List.set]
      refine wpAnyH_take (i := 10) (oi := _) (v := ?_) (by (simp only [List.getElem?_toArray]; rfl)) (by kernel_rfl) (by kernel_rfl) (by kernel_rfl) (by exact fun _ _ _ h => h) (Or.inl ⟨by rfl, ?_⟩) (by assumption) ?_
      rotate_left
      · intro wS hSw
        go_simp
        all_goals first | with_reducible rfl | rw [if_neg (by omega)]
      simp only [Act.put, List.setIfInBounds_toArray, List.set]
      refine wpAnyH_take (i := 11) (oi := _) (v := ?_) (by (simp only [List.getElem?_toArray]; rfl)) (by kernel_rfl) (by kernel_rfl) (by kernel_rfl) (by exact fun _ _ _ h => h) (Or.inl ⟨by rfl, ?_⟩) (by assumption) ?_
      rotate_left
      · intro wS hSw
        go_simp
        all_goals first | with_reducible rfl | rw [if_neg (by omega)]
      simp only [Act.put, List.setIfInBounds_toArray, List.set]
      refine wpAnyH_take (i := 12) (oi := _) (v := ?_) (by (simp only [List.getElem?_toArray]; rfl)) (by kernel_rfl) (by kernel_rfl) (by kernel_rfl) (by exact fun _ _ _ h => h) (Or.inl ⟨by rfl, ?_⟩) (by assumption) ?_
      rotate_left
      · intro wS hSw
        go_simp
        all_goals first | with_reducible rfl | rw [if_neg (by omega)]
      simp only [Act.put, List.setIfInBounds_toArray, List.set]
      refine wpAnyH_take (i := 14) (oi := _) (v := ?_) (by (simp only [List.getElem?_toArray]; rfl)) (by kernel_rfl) (by kernel_rfl) (by kernel_rfl) (by exact fun _ _ _ h => h) (Or.inl ⟨by rfl, ?_⟩) (by assumption) ?_
      rotate_left
      · intro wS hSw
        go_simp
        all_goals first | with_reducible rfl | rw [if_neg (by omega)]
      simp only [Act.put, List.setIfInBounds_toArray, List.set]
      refine wpAnyH_take (i := 15) (oi := _) (v := ?_) (by (simp only [List.getElem?_toArray]; rfl)) (by kernel_rfl) (by kernel_rfl) (by kernel_rfl) (by exact fun _ _ _ h => h) (Or.inl ⟨by rfl, ?_⟩) (by assumption) ?_
      rotate_left
      · intro wS hSw
        go_simp
        all_goals first | with_reducible rfl | rw [if_neg (by omega)]
      simp only [Act.put, List.setIfInBounds_toArray, List.set]
      refine wpAnyH_ready (rs := [2]) (by kernel_rfl) (by simp) ?_
      refine AllReadyH.cons (o := _) (by (simp only [List.getElem?_toArray]; rfl)) (fun K hK => ?_) AllReadyH.nil
      go_simp
      refine (HC.out w1.drew (EE.out.below K1d)).mono ?_
      rintro e w2 ⟨rfl, k2⟩
      have S2 := SH.out w1.drew w2 (Nat.le_refl _) k2 hHeld
      have K2 := below_next K1d k2
      have z2 : w1.heap.size ≤ w2.heap.size := k2.size
      clear hHeld
      refine hK.out _ _ S2 (fun hHeld => ?_)
      clear hK K
      try simp only [Act.put, List.setIfInBounds_toArray, List.set]
      refine wpAnyH_ready (rs := [5]) (by kernel_rfl) (by simp) ?_
      refine AllReadyH.cons (o := _) (by (simp only [List.getElem?_toArray]; rfl)) (fun K hK => ?_) AllReadyH.nil
      go_simp
      refine (HN.out w2 (EE.out.below K2)).mono ?_
      rintro e w3 ⟨rfl, k3⟩
      have S3 := SH.out _ _ z2 k3 hHeld
      have K3 := below_next K2 k3
      have z3 : w1.heap.size ≤ w3.heap.size := Nat.le_trans z2 k3.size
      clear hHeld S2 k2
      refine hK.out _ _ S3 (fun hHeld => ?_)
      clear hK K
      try simp only [Act.put, List.setIfInBounds_toArray, List.set]
      refine wpAnyH_ready (rs := [13]) (by kernel_rfl) (by simp) ?_
      refine AllReadyH.cons (o := _) (by (simp only [List.getElem?_toArray]; rfl)) (fun K hK => ?_) AllReadyH.nil
      go_simp
      refine (HX.out w3 (EE.out.below K3)).mono ?_
      rintro e w4 ⟨rfl, k4⟩
      have S4 := SH.out _ _ z3 k4 hHeld
      have K4 := below_next K3 k4
      have z4 : w1.heap.size ≤ w4.heap.size := Nat.le_trans z3 k4.size
      clear hHeld S3 k3
      refine hK.out _ _ S4 (fun hHeld => ?_)
      clear hK K
      try simp only [Act.put, List.setIfInBounds_toArray, List.set]
      refine wpAnyH_ready (rs := [16]) (by kernel_rfl) (by simp) ?_
      refine AllReadyH.cons (o := _) (by (simp only [List.getElem?_toArray]; rfl)) (fun K hK => ?_) AllReadyH.nil
      go_simp
      refine (HY.out w4 (EE.out.below K4)).mono ?_
      rintro e w5 ⟨rfl, k5⟩
      have S5 := SH.out _ _ z4 k5 hHeld
      have K5 := below_next K4 k5
      have z5 : w1.heap.size ≤ w5.heap.size := Nat.le_trans z4 k5.size
      clear hHeld S4 k4
      refine hK.out _ _ S5 (fun hHeld => ?_)
      clear hK K
      try simp only [Act.put, List.setIfInBounds_toArray, List.set]
      refine wpAnyH_ready (rs := [17]) (by kernel_rfl) (by simp) ?_
      refine AllReadyH.cons (o := _) (by (simp only [List.getElem?_toArray]; rfl)) (fun K hK => ?_) AllReadyH.nil
      go_simp
      obtain ⟨V, hV, sV, aV, kV⟩ := blocks1 w5 (.cells #[.string ⟨sc.toArray⟩, .string ⟨sn.toArray⟩, .string ⟨sw.toArray⟩, .string ⟨sx.toArray⟩, .string ⟨sy.toArray⟩] 9)
      rw [← hV]
      have SV := SH.out _ _ z5 kV hHeld
      have KV := below_next K5 kV
      clear hHeld S5 k5 hV
      refine hK.out _ _ SV (fun hHeld => ?_)
      clear hK K
      try simp only [Act.put, List.setIfInBounds_toArray, List.set]
      refine wpAnyH_ready (rs := [18]) (by kernel_rfl) (by simp) ?_
      refine AllReadyH.cons (o := _) (by (simp only [List.getElem?_toArray]; rfl)) (fun K hK => ?_) AllReadyH.nil
      go_simp
      refine (Tryd.strings_Join w5.heap.size 0 5 [⟨sc.toArray⟩, ⟨sn.toArray⟩, ⟨sw.toArray⟩, ⟨sx.toArray⟩, ⟨sy.toArray⟩] ⟨#[32]⟩ V ?_ (lt_of_block aV) (by simp) (by simp) ?_).mono ?_
      · intro j x hx
        rw [Nat.zero_add, cell_of_block aV]
        match j, hx with
        | 0, hx => simpa using hx
        | 1, hx => simpa using hx
        | 2, hx => simpa using hx
        | 3, hx => simpa using hx
        | 4, hx => simpa using hx
        | j + 5, hx => simp at hx
      · simp only [List.map_cons, List.map_nil]
        rw [show Lib.join [sc.toArray.toList, sn.toArray.toList, sw.toArray.toList, sx.toArray.toList, sy.toArray.toList] (#[32] : Array UInt8).toList = _ from join_put sc sn sw sx sy]
        simp only [List.length_append, List.length_cons, List.length_nil]
        omega
      rintro e w6 ⟨rfl, k6⟩
      have S6 := SH.out V w6 (by have := lt_of_block aV; omega) k6 hHeld
      have K6 := below_next KV k6
      clear hHeld SV k6
      refine hK.out _ _ S6 (fun hHeld => ?_)
      clear hK K
      try simp only [Act.put, List.setIfInBounds_toArray, List.set]
      refine wpAnyH_take (i := 19) (oi := _) (v := ?_) (by (simp only [List.getElem?_toArray]; rfl)) (by kernel_rfl) (by kernel_rfl) (by kernel_rfl) (by exact fun _ _ _ h => h) (Or.inl ⟨by rfl, ?_⟩) (by assumption) ?_
      rotate_left
      · intro wS hSw
        go_simp
        all_goals first | with_reducible rfl | rw [if_neg (by omega)]
      simp only [Act.put, List.setIfInBounds_toArray, List.set]
      refine wpAnyH_done (by kernel_rfl) ?_ _
      go_wp2_with fail
      go_ret
      exact ⟨ret_str (by rw [HP.out]), K6⟩
end Go.Proofs.YtilldpoleiippaaDoor

/-! Contracts of the sums of rows (l7Sum, link) and of how far rows are right; condition: the package variables as listed. -/
namespace Go.Proofs.YtilldpoleiippaaDoor
open Go.RowKit Go.Joins

theorem quiet_c {P : Program} {f : FuncId} {args : Array Value} {w : World} {v : Value} (h : ∀ W, Below w.heap.size w W → Calls P f args W fun e w' => e = .returned v ∧ Below W.heap.size W w') :
    ∀ d os, Calls P f args (Sort.grow (redrawn w d) os) fun e w'' => e = .returned v ∧ ∃ p : Regrown, w'' = Sort.grow (redrawn w p.d) p.os := fun d os => Calls.regrown_of (h _ (below_regrown w d os))
theorem cell_re {w : World} {b : Nat} {cs : Array Value} {t : TypeId} {fr : Nat × Nat} (h : w.heap[b]? = some (.cells cs t fr)) (d : Nat) (os : Array Obj) (i : Nat) : (Sort.grow (redrawn w d) os).cell? ⟨b, i, none⟩ = cs[i]? :=
  ((below_regrown w d os).cell (p := ⟨b, i, none⟩) (lt_of_block h)).trans (cell_of_block h i)
theorem quiet_same {P : Program} {f : FuncId} {args : Array Value} {w : World} {v : Value} (h : ∀ W, Calls P f args W fun e w' => e = .returned v ∧ W = w') :
    ∀ d os, Calls P f args (Sort.grow (redrawn w d) os) fun e w'' => e = .returned v ∧ ∃ p : Regrown, w'' = Sort.grow (redrawn w p.d) p.os :=
  quiet_c fun W _ => (h W).mono fun e w' ⟨he, hw⟩ => ⟨he, hw ▸ Below.refl _ _⟩

theorem wordsLen (k : Nat) : (words.getD k []).length ≤ 4 := by
  rcases k with _ | _ | _ | _ | _ | _ | k
  all_goals simp [words]
theorem putLen (r : Rq) : (reqPutL r).length ≤ 100 := by
  unfold reqPutL
  split
  · decide
  · split
    · rename_i h
      have h' := okB_op h
      have l1 := itoa_len r.c (by omega) (by omega)
      have l2 := itoa_len r.n (by omega) (by omega)
      have l3 := itoa_len r.x (by omega) (by omega)
      have l4 := itoa_len r.y (by omega) (by omega)
      have l5 := wordsLen r.o.toNat
      simp only [putL, List.length_append, List.length_cons, List.length_nil]
      omega
    · decide

/-- The sum of a text that is put together. -/
theorem sum_text (f : FuncId) (sc sn sr : List UInt8) (hl : sc.length + sn.length + sr.length ≤ 1000) (h : ∀ (s : ByteArray) (V : World), s.size ≤ 4611686018427387904 → Calls Tryd.prog f #[.string s] V fun e w' => e = .returned (.int .i64 (crcOf s.data.toList)) ∧ V = w') (V : World) :
    Calls Tryd.prog f #[.string ((⟨sc.toArray⟩ : ByteArray) ++ ⟨#[124]⟩ ++ ⟨sn.toArray⟩ ++ ⟨#[124]⟩ ++ ⟨sr.toArray⟩)] V fun e w' => e = .returned (.int .i64 (crcOf (sc ++ [124] ++ sn ++ [124] ++ sr))) ∧ V = w' := by
  have e : (⟨sc.toArray⟩ : ByteArray) ++ ⟨#[124]⟩ ++ ⟨sn.toArray⟩ ++ ⟨#[124]⟩ ++ ⟨sr.toArray⟩ = ⟨(sc ++ [124] ++ sn ++ [124] ++ sr).toArray⟩ := by
    apply ByteArray.ext
    simp
  rw [e]
  exact h ⟨(sc ++ [124] ++ sn ++ [124] ++ sr).toArray⟩ V (by show (_ : List UInt8).toArray.size ≤ _; simp; omega)

set_option maxRecDepth 100000 in
set_option maxHeartbeats 2000000 in
theorem l7Sum_c (p q : Int) (r : Rq) (w : World) (hp0 : -4611686018427387904 ≤ p) (hp1 : p ≤ 4611686018427387904) (hq0 : -4611686018427387904 ≤ q) (hq1 : q ≤ 4611686018427387904) :
    Calls Tryd.prog 97 #[.int .i64 p, .int .i64 q, .agg #[.int .i64 r.c, .int .i64 r.n, .int .i64 r.o, .int .i64 r.x, .int .i64 r.y]] w fun e w' => e = .returned (.int .i64 (sumL p q r)) ∧ Below w.heap.size w w' := by
  have HC := Lib.hid (fun W => l1Dec_c p W hp0 hp1)
  have HN := Lib.hid (fun W => l1Dec_c q W hq0 hq1)
  have HR := Lib.hid (fun W => sReqPut_c r.c r.n r.o r.x r.y W)
  have lc := itoa_len p hp0 hp1
  have ln := itoa_len q hq0 hq1
  have lr := putLen ⟨r.c, r.n, r.o, r.x, r.y⟩
  have HS : Hid (sumL p q r = crcOf (Lib.itoa p ++ [124] ++ Lib.itoa q ++ [124] ++ reqPutL ⟨r.c, r.n, r.o, r.x, r.y⟩)) := rfl
  generalize Lib.itoa p = sc at *
  generalize Lib.itoa q = sn at *
  generalize reqPutL ⟨r.c, r.n, r.o, r.x, r.y⟩ = sr at *
  clear hp0 hp1 hq0 hq1
  go_enter Tryd.func97, Tryd.ntmps97
  go_wp2_with fail
  obtain ⟨W, hW, sW, aW, kW⟩ := blocks1 w (.cells #[.int .i64 r.c, .int .i64 r.n, .int .i64 r.o, .int .i64 r.x, .int .i64 r.y] 46)
  rw [← hW]
  clear hW
  have hc := cell_re aW
  have cC := quiet_c (w := W) (fun V _ => HC.out V)
  have cN := quiet_c (w := W) (fun V _ => HN.out V)
  have cR := quiet_c (w := W) (fun V _ => HR.out V)
  have n1 : ¬ 9223372036854775807 < sc.length + 1 := by omega
  have n2 : ¬ 9223372036854775807 < sc.length + 1 + sn.length := by omega
  have n3 : ¬ 9223372036854775807 < sc.length + 1 + sn.length + 1 := by omega
  have n4 : ¬ 9223372036854775807 < sc.length + 1 + sn.length + 1 + sr.length := by omega
  have cS := quiet_same (w := W) (sum_text 119 sc sn sr (by omega) (fun s V hs => l7Crc_c s V hs))
  refine wp_region_quiet_below (by kernel_rfl) (by kernel_rfl) ?_
  repeat (quiet_step (first | with_reducible exact cC _ _ | with_reducible exact cN _ _ | with_reducible exact cR _ _ | with_reducible exact cS _ _))
  refine wpQuiet_nil ?_
  intro _ hw'
  obtain ⟨⟨dq, osq⟩, hw''⟩ := hw'
  subst hw''
  go_wp2_with fail
  go_ret
  exact ⟨ret_int (by rw [HS.out]; simp), below_next kW (below_regrown W dq osq)⟩

/-- The program's link. -/
theorem addr_some {zs : List En} {w : World} {a : Option Addr} {k : Nat} (h : RowsAt w a 6 En.cs zs) (hk : k < zs.length) : ∃ b off, a = some ⟨b, off, none⟩ ∧ b < w.heap.size := by
  obtain ⟨b, off, h1, h2, _⟩ := h k hk
  exact ⟨b, off, h1, h2⟩

set_option maxRecDepth 100000 in
set_option maxHeartbeats 2000000 in
theorem link_c (a : Option Addr) (n cap : Nat) (zs : List En) (r : Rq) (w : World) (E : Env w) (h : IsSl w (.slice a n cap) 6 En.cs zs) (hn : n ≤ 16777216) (hp0 : 0 ≤ lastSum zs) (hp1 : lastSum zs ≤ 4294967296) :
    Calls Tryd.prog 59 #[.slice a n cap, .agg #[.int .i64 r.c, .int .i64 r.n, .int .i64 r.o, .int .i64 r.x, .int .i64 r.y]] w fun e w' => e = .returned (.int .i64 (sumL (lastSum zs) ((n : Int) + 1) r)) ∧ Below w.heap.size w w' := by
  obtain ⟨hzl, hlc, hm, hr⟩ := h.bounds
  have EE := Lib.hid E
  have HC := Lib.hid (fun W E => Itoa_c (lastSum zs) W (by omega) (by omega) E)
  have HN := Lib.hid (fun W E => Itoa_c ((n : Int) + 1) W (by omega) (by omega) E)
  have HR := Lib.hid (fun W E => ReqPut_c r.c r.n r.o r.x r.y W E)
  have lc := itoa_len (lastSum zs) (by omega) (by omega)
  have ln := itoa_len ((n : Int) + 1) (by omega) (by omega)
  have lr := putLen ⟨r.c, r.n, r.o, r.x, r.y⟩
  have HS : Hid (sumL (lastSum zs) ((n : Int) + 1) r = crcOf (Lib.itoa (lastSum zs) ++ [124] ++ Lib.itoa ((n : Int) + 1) ++ [124] ++ reqPutL ⟨r.c, r.n, r.o, r.x, r.y⟩)) := rfl
  have HL : Hid (lastSum zs = prevAt zs n) := by show lastSum zs = prevAt zs n; unfold lastSum; rw [hzl]
  generalize Lib.itoa (lastSum zs) = sc at *
  generalize Lib.itoa ((n : Int) + 1) = sn at *
  generalize reqPutL ⟨r.c, r.n, r.o, r.x, r.y⟩ = sr at *
  have n1 : ¬ 9223372036854775807 < sc.length + 1 := by omega
  have n2 : ¬ 9223372036854775807 < sc.length + 1 + sn.length := by omega
  have n3 : ¬ 9223372036854775807 < sc.length + 1 + sn.length + 1 := by omega
  have n4 : ¬ 9223372036854775807 < sc.length + 1 + sn.length + 1 + sr.length := by omega
  have cS0 := sum_text 104 sc sn sr (by omega) (fun s V hs => Crc_c s V hs)
  have hwn : IntKind.i64.wrap ((n : Int) + 1) = (n : Int) + 1 := IntWalk.i64_in _ ⟨by omega, by omega⟩
  generalize lastSum zs = p at *
  have HRW := Lib.hid hr
  have fin : ∀ W, W.heap[w.heap.size]? = some (.cells #[.int .i64 r.c, .int .i64 r.n, .int .i64 r.o, .int .i64 r.x, .int .i64 r.y] 46 (0, 0)) → Below w.heap.size w W →
      (∀ i d os, (Sort.grow (redrawn W d) os).cell? ⟨w.heap.size, i, none⟩ = (#[.int .i64 r.c, .int .i64 r.n, .int .i64 r.o, .int .i64 r.x, .int .i64 r.y] : Array Value)[i]?) ∧
      (∀ d os, Calls Tryd.prog 56 #[.int .i64 p] (Sort.grow (redrawn W d) os) fun e w'' => e = .returned (.string ⟨sc.toArray⟩) ∧ ∃ p : Regrown, w'' = Sort.grow (redrawn W p.d) p.os) ∧
      (∀ d os, Calls Tryd.prog 56 #[.int .i64 ((n : Int) + 1)] (Sort.grow (redrawn W d) os) fun e w'' => e = .returned (.string ⟨sn.toArray⟩) ∧ ∃ p : Regrown, w'' = Sort.grow (redrawn W p.d) p.os) ∧
      (∀ d os, Calls Tryd.prog 30 #[.agg #[.int .i64 r.c, .int .i64 r.n, .int .i64 r.o, .int .i64 r.x, .int .i64 r.y]] (Sort.grow (redrawn W d) os) fun e w'' => e = .returned (.string ⟨sr.toArray⟩) ∧ ∃ p : Regrown, w'' = Sort.grow (redrawn W p.d) p.os) := fun W hW hb =>
    ⟨fun i d os => cell_re hW d os i, quiet_c (w := W) (fun V hV => HC.out V (EE.out.below (below_next hb hV))), quiet_c (w := W) (fun V hV => HN.out V (EE.out.below (below_next hb hV))), quiet_c (w := W) (fun V hV => HR.out V (EE.out.below (below_next hb hV)))⟩
  have FIN := Lib.hid fin
  clear fin hr
  have hp : (n : Int) ≤ 0 → p = 0 := fun h => by rw [HL.out]; unfold prevAt; rw [if_pos (by omega)]
  by_cases h0 : (n : Int) ≤ 0
  · have hp' := hp h0
    clear hp
    subst hp'
    go_enter Tryd.func59, Tryd.ntmps59
    go_wp2_with fail
    obtain ⟨W, hW, sW, aW, kW⟩ := blocks1 w (.cells #[.int .i64 r.c, .int .i64 r.n, .int .i64 r.o, .int .i64 r.x, .int .i64 r.y] 46)
    rw [← hW]
    clear hW
    obtain ⟨hc, cC, cN, cR⟩ := FIN.out W aW kW
    have cS := quiet_same (w := W) cS0
    refine wp_region_quiet_below (by kernel_rfl) (by kernel_rfl) ?_
    repeat (quiet_step (first | with_reducible exact cC _ _ | with_reducible exact cN _ _ | with_reducible exact cR _ _ | with_reducible exact cS _ _))
    refine wpQuiet_nil ?_
    intro _ hw'
    obtain ⟨⟨dq, osq⟩, hw''⟩ := hw'
    subst hw''
    go_wp2_with fail
    go_ret
    exact ⟨ret_int (by rw [HS.out]; simp), below_next kW (below_regrown W dq osq)⟩
  · clear hp
    obtain ⟨b, off, ha, hb, hcells⟩ := HRW.out (n - 1) (by omega)
    subst ha
    have hpc : w.cell? ⟨b, off + (n - 1) * 6 + 5, none⟩ = some (.int .i64 p) := by
      rw [hcells 5 (by decide), HL.out]
      unfold prevAt
      rw [if_neg (by omega), enAt_eq (by omega)]
      rfl
    clear hcells
    obtain ⟨m, rfl⟩ : ∃ m, n = m + 1 := ⟨n - 1, by omega⟩
    rw [Nat.add_sub_cancel] at hpc
    go_enter Tryd.func59, Tryd.ntmps59
    go_wp2_with fail
    obtain ⟨W, hW, sW, aW, kW⟩ := blocks1 w (.cells #[.int .i64 r.c, .int .i64 r.n, .int .i64 r.o, .int .i64 r.x, .int .i64 r.y] 46)
    rw [← hW]
    clear hW
    obtain ⟨hc, cC, cN, cR⟩ := FIN.out W aW kW
    have em : ((m + 1 : Nat) : Int) = (m : Int) + 1 := rfl
    rw [em] at cN hwn
    clear em
    have cS := quiet_same (w := W) cS0
    refine wp_region_quiet_below (by kernel_rfl) (by kernel_rfl) ?_
    repeat (quiet_step (first | with_reducible exact cC _ _ | with_reducible exact cN _ _ | with_reducible exact cR _ _ | with_reducible exact cS _ _))
    refine wpQuiet_nil ?_
    intro _ hw'
    obtain ⟨⟨dq, osq⟩, hw''⟩ := hw'
    subst hw''
    go_wp2_with fail
    go_ret
    exact ⟨ret_int (by rw [HS.out]; simp), below_next kW (below_regrown W dq osq)⟩
end Go.Proofs.YtilldpoleiippaaDoor

/-! Contracts of l7Far and LedgerFar: how many rows are right; condition: the package variables as listed. -/
namespace Go.Proofs.YtilldpoleiippaaDoor
open Go.RowKit Go.Joins

theorem right_iff {zs : List En} {k : Nat} (hk : k < zs.length) : rightAt zs k = (decide (k < 60) && good zs[k].r && decide (zs[k].s = (sumL (prevAt zs k) ((k : Int) + 1) zs[k].r : Int))) := by
  unfold rightAt; rw [enAt_eq hk]
theorem good_eq (r : Rq) : good r = (noneB r.c r.n r.o r.x r.y || okB r.c r.n r.o r.x r.y) := rfl

set_option maxRecDepth 100000 in
set_option maxHeartbeats 4000000 in
theorem l7Far_c (a : Option Addr) (n cap : Nat) (zs : List En) (w : World) (h : IsSl w (.slice a n cap) 6 En.cs zs) (hn : n ≤ 16777216) :
    Calls Tryd.prog 90 #[.slice a n cap] w fun e w' => e = .returned (.int .i64 (far zs)) ∧ Below w.heap.size w w' := by
  obtain ⟨hzl, hlc, hm, hr⟩ := h.bounds
  have HR := Lib.hid hr
  have HZ := Lib.hid hzl
  clear hr h
  unfold maxLen at hm
  go_enter Tryd.func90, Tryd.ntmps90
  go_wp2_with fail
  go_loopw [3, 4] (fun s i wr => ∃ k : Nat, k ≤ n ∧ i = .int .i64 k ∧ s = .int .i64 (prevAt zs k) ∧ (∀ j, j < k → rightAt zs j = true) ∧ Below w.heap.size w wr) (fun _ i _ => n - (intOf i).toNat)
  case atStart => exact ⟨0, Nat.zero_le _, rfl, rfl, fun j hj => absurd hj (Nat.not_lt_zero j), Below.refl _ _⟩
  case round =>
    obtain ⟨k, hk, rfl, rfl, hall, hbel⟩ := hrel
    have hpb := prevAt_bounds hall
    have HA := Lib.hid hall
    clear hall
    by_cases hlt : k < n
    · have hkz : k < zs.length := by rw [HZ.out]; exact hlt
      have hk1 : (k : Int) < (n : Int) := by omega
      have hk0 : (0 : Int) ≤ (k : Int) := by omega
      obtain ⟨b0, o0, rfl, hl0, hc0⟩ := six_at HR.out k hkz
      obtain ⟨c0, c1, c2, c3, c4, c5⟩ := hc0 wr hbel
      have HX := Lib.hid (right_iff hkz)
      have HP := Lib.hid (prevAt_succ zs k)
      have HE := Lib.hid (enAt_eq hkz)
      clear hc0
      generalize zs[k] = z at *
      generalize hq : prevAt zs k = q at *
      have hlw : b0 < wr.heap.size := Nat.lt_of_lt_of_le hl0 hbel.size
      go_wp2_with fail
      obtain ⟨W, hW, sW, aW, kW⟩ := blocks1 wr (.cells #[.int .i64 z.r.c, .int .i64 z.r.n, .int .i64 z.r.o, .int .i64 z.r.x, .int .i64 z.r.y] 46)
      rw [← hW]
      clear hW
      have hcW := cell_of_block aW
      refine (l1Ok_c z.r.c z.r.n z.r.o z.r.x z.r.y W).mono ?_
      rintro e w1 ⟨rfl, k1⟩
      have K1 := below_next kW k1
      have a1 := carryB k1 (by omega) aW
      clear hcW
      have hc1 := cell_of_block a1
      have d5 : w1.cell? ⟨b0, o0 + k * 6 + 5, none⟩ = some (.int .i64 z.s) := cell_stays K1 c5
      clear kW k1 aW c0 c1 c2 c3 c4 c5
      cases hok : okB z.r.c z.r.n z.r.o z.r.x z.r.y with
      | true =>
        by_cases h60 : (k : Int) < 60
        · go_wp2_with fail
          refine (l7Sum_c q ((k : Int) + 1) z.r w1 (by omega) (by omega) (by omega) (by omega)).mono ?_
          rintro e w9 ⟨rfl, k9⟩
          have K9 := below_next K1 k9
          have d9 : w9.cell? ⟨b0, o0 + k * 6 + 5, none⟩ = some (.int .i64 z.s) := cell_stays k9 d5
          have hb9 := below_next hbel K9
          clear k9
          have hg : good z.r = true := by rw [good_eq, hok]; simp
          by_cases hs : z.s = (sumL q ((k : Int) + 1) z.r : Int)
          · have hrt : rightAt zs k = true := by rw [HX.out, hg, decide_eq_true hs]; simp; omega
            have hps : prevAt zs (k + 1) = (sumL q ((k : Int) + 1) z.r : Int) := by rw [HP.out, HE.out, hs]
            have hall2 : ∀ j, j < k + 1 → rightAt zs j = true := fun j hj => by
              by_cases e : j = k
              · rw [e]; exact hrt
              · exact HA.out j (by omega)
            have H2 := Lib.hid (And.intro hps hall2)
            rw [hs] at d9
            clear hps hall2 hrt hs
            generalize (sumL q ((k : Int) + 1) z.r : Int) = sm at *
            go_wp2_with fail
            go_roundw
            case rel => exact ⟨k + 1, by omega, by go_num, by rw [H2.out.1], H2.out.2, hb9⟩
            case measure => simp [intOf]; omega
          · have hrt : rightAt zs k = false := by rw [HX.out, hg, decide_eq_false hs]; simp
            have hf : far zs = k := far_eq ⟨by rw [HZ.out]; exact hk, HA.out, fun _ => hrt⟩
            have hs' : (z.s == (sumL q ((k : Int) + 1) z.r : Int)) = false := by simpa using hs
            have HF := Lib.hid hf
            clear hf hrt
            generalize (sumL q ((k : Int) + 1) z.r : Int) = sm at *
            go_wp2_with fail
            go_ret
            exact ⟨ret_int (by rw [HF.out]), hb9⟩
        · have hrt : rightAt zs k = false := by rw [HX.out, decide_eq_false (by omega)]; simp
          have hf : far zs = k := far_eq ⟨by rw [HZ.out]; exact hk, HA.out, fun _ => hrt⟩
          have HF := Lib.hid hf
          clear hf hrt
          go_wp2_with fail
          go_ret
          exact ⟨ret_int (by rw [HF.out]), below_next hbel K1⟩
      | false =>
        go_wp2_with fail
        refine (l1None_c z.r.c z.r.n z.r.o z.r.x z.r.y w1).mono ?_
        rintro e w2 ⟨rfl, k2⟩
        have K2 := below_next K1 k2
        have a2 := carryB k2 (lt_of_block a1) a1
        clear hc1
        have hc2 := cell_of_block a2
        have d6 : w2.cell? ⟨b0, o0 + k * 6 + 5, none⟩ = some (.int .i64 z.s) := cell_stays k2 d5
        clear k2 a1 K1 d5
        cases hno : noneB z.r.c z.r.n z.r.o z.r.x z.r.y with
        | true =>
          by_cases h60 : (k : Int) < 60
          · go_wp2_with fail
            refine (l7Sum_c q ((k : Int) + 1) z.r w2 (by omega) (by omega) (by omega) (by omega)).mono ?_
            rintro e w9 ⟨rfl, k9⟩
            have K9 := below_next K2 k9
            have d9 : w9.cell? ⟨b0, o0 + k * 6 + 5, none⟩ = some (.int .i64 z.s) := cell_stays k9 d6
            have hb9 := below_next hbel K9
            clear k9
            have hg : good z.r = true := by rw [good_eq, hok, hno]; rfl
            by_cases hs : z.s = (sumL q ((k : Int) + 1) z.r : Int)
            · have hrt : rightAt zs k = true := by rw [HX.out, hg, decide_eq_true hs]; simp; omega
              have hps : prevAt zs (k + 1) = (sumL q ((k : Int) + 1) z.r : Int) := by rw [HP.out, HE.out, hs]
              have hall2 : ∀ j, j < k + 1 → rightAt zs j = true := fun j hj => by
                by_cases e : j = k
                · rw [e]; exact hrt
                · exact HA.out j (by omega)
              have H2 := Lib.hid (And.intro hps hall2)
              rw [hs] at d9
              clear hps hall2 hrt hs
              generalize (sumL q ((k : Int) + 1) z.r : Int) = sm at *
              go_wp2_with fail
              go_roundw
              case rel => exact ⟨k + 1, by omega, by go_num, by rw [H2.out.1], H2.out.2, hb9⟩
              case measure => simp [intOf]; omega
            · have hrt : rightAt zs k = false := by rw [HX.out, hg, decide_eq_false hs]; simp
              have hf : far zs = k := far_eq ⟨by rw [HZ.out]; exact hk, HA.out, fun _ => hrt⟩
              have hs' : (z.s == (sumL q ((k : Int) + 1) z.r : Int)) = false := by simpa using hs
              have HF := Lib.hid hf
              clear hf hrt
              generalize (sumL q ((k : Int) + 1) z.r : Int) = sm at *
              go_wp2_with fail
              go_ret
              exact ⟨ret_int (by rw [HF.out]), hb9⟩
          · have hrt : rightAt zs k = false := by rw [HX.out, decide_eq_false (by omega)]; simp
            have hf : far zs = k := far_eq ⟨by rw [HZ.out]; exact hk, HA.out, fun _ => hrt⟩
            have HF := Lib.hid hf
            clear hf hrt
            go_wp2_with fail
            go_ret
            exact ⟨ret_int (by rw [HF.out]), below_next hbel K2⟩
        | false =>
          have hg : good z.r = false := by rw [good_eq, hok, hno]; rfl
          have hrt : rightAt zs k = false := by rw [HX.out, hg]; simp
          have hf : far zs = k := far_eq ⟨by rw [HZ.out]; exact hk, HA.out, fun _ => hrt⟩
          have HF := Lib.hid hf
          clear hf hrt
          go_wp2_with fail
          go_ret
          exact ⟨ret_int (by rw [HF.out]), below_next hbel K2⟩
    · have hf : far zs = n := far_eq ⟨by rw [HZ.out]; exact Nat.le_refl _, fun j hj => HA.out j (by omega), fun h => by rw [HZ.out] at h; omega⟩
      have HF := Lib.hid hf
      clear hf
      go_wp2_with fail
      go_ret
      exact ⟨ret_int (by rw [HF.out]), hbel⟩
end Go.Proofs.YtilldpoleiippaaDoor

/-! Contract of the program's LedgerFar; condition: the package variables as listed. -/
namespace Go.Proofs.YtilldpoleiippaaDoor
open Go.RowKit Go.Joins

theorem RowsAt.taken {α : Type} {w : World} {a : Option Addr} {k m : Nat} {R : α → List Value} {zs : List α} (h : RowsAt w a k R zs) : RowsAt w a k R (zs.take m) := by
  intro i hi
  have hi2 : i < zs.length := Nat.lt_of_lt_of_le hi (by simp; omega)
  obtain ⟨b, off, e, hb, hc⟩ := h i hi2
  refine ⟨b, off, e, hb, fun j hj => ?_⟩
  rw [List.getElem_take]
  exact hc j hj
theorem IsSl.taken {α : Type} {w : World} {a : Option Addr} {n cap k m : Nat} {R : α → List Value} {zs : List α} (h : IsSl w (.slice a n cap) k R zs) (hm : m ≤ n) : IsSl w (.slice a m cap) k R (zs.take m) := by
  obtain ⟨h1, h2, h3, h4⟩ := h.bounds
  have e : (zs.take m).length = m := by simp; omega
  exact ⟨a, cap, by rw [e], by rw [e]; omega, h3, h4.taken⟩
theorem lastSum_take {zs : List En} {k : Nat} (h : k ≤ zs.length) : lastSum (zs.take k) = prevAt zs k := by
  have e : (zs.take k).length = k := by simp; omega
  unfold lastSum
  rw [e]
  unfold prevAt
  split
  · rfl
  · rw [enAt_take (by omega)]

set_option maxRecDepth 100000 in
set_option maxHeartbeats 4000000 in
theorem LedgerFar_c (a : Option Addr) (n cap : Nat) (zs : List En) (w : World) (E : Env w) (h : IsSl w (.slice a n cap) 6 En.cs zs) (hn : n ≤ 16777216) :
    Calls Tryd.prog 20 #[.slice a n cap] w fun e w' => e = .returned (.int .i64 (far zs)) ∧ Below w.heap.size w w' := by
  obtain ⟨hzl, hlc, hm, hr⟩ := h.bounds
  have EE := Lib.hid E
  have HH := Lib.hid h
  have HR := Lib.hid hr
  have HZ := Lib.hid hzl
  clear hr h E
  unfold maxLen at hm
  go_enter Tryd.func20, Tryd.ntmps20
  go_wp2_with fail
  go_loopw [3] (fun i wr => ∃ k : Nat, k ≤ n ∧ i = .int .i64 k ∧ (∀ j, j < k → rightAt zs j = true) ∧ Below w.heap.size w wr) (fun i _ => n - (intOf i).toNat)
  case atStart => exact ⟨0, Nat.zero_le _, rfl, fun j hj => absurd hj (Nat.not_lt_zero j), Below.refl _ _⟩
  case round =>
    obtain ⟨k, hk, rfl, hall, hbel⟩ := hrel
    have hpb := prevAt_bounds hall
    have HA := Lib.hid hall
    have HB := Lib.hid hbel
    clear hall
    have stop : rightAt zs k = false ∨ n ≤ k → far zs = k := fun h => far_eq ⟨by rw [HZ.out]; exact hk, HA.out, fun hl => by
      rcases h with h | h
      · exact h
      · rw [HZ.out] at hl; omega⟩
    have HS := Lib.hid stop
    clear stop
    by_cases hlt : k < n
    · have hkz : k < zs.length := by rw [HZ.out]; exact hlt
      have hk1 : (k : Int) < (n : Int) := by omega
      have hk0 : (0 : Int) ≤ (k : Int) := by omega
      have hkc : k ≤ cap := by omega
      obtain ⟨b0, o0, rfl, hl0, hc0⟩ := six_at HR.out k hkz
      obtain ⟨c0, c1, c2, c3, c4, c5⟩ := hc0 wr hbel
      have HX := Lib.hid (right_iff hkz)
      have HL := Lib.hid (lastSum_take (Nat.le_of_lt hkz))
      have HT := Lib.hid (HH.out.taken (Nat.le_of_lt hlt))
      clear hc0
      generalize zs[k] = z at *
      generalize hq : prevAt zs k = q at *
      clear hq
      have e0 := cell_regrown c0
      have e1 := cell_regrown c1
      have e2 := cell_regrown c2
      have e3 := cell_regrown c3
      have e4 := cell_regrown c4
      have e5 := cell_regrown c5
      clear c0 c1 c2 c3 c4 c5
      by_cases h60 : (k : Int) < 60
      · cases hg : good z.r with
        | true =>
          have cG := quiet_c (w := wr) (fun V _ => by have := okOrNull_c z.r.c z.r.n z.r.o z.r.x z.r.y V; rw [show goodB z.r.c z.r.n z.r.o z.r.x z.r.y = true from hg] at this; exact this)
          have cL := quiet_c (w := wr) (fun V hV => by
            have := link_c (some ⟨b0, o0, none⟩) k cap (zs.take k) z.r V (EE.out.below (below_next HB.out hV)) (HT.out.below (below_next HB.out hV)) (by omega) (by rw [HL.out]; omega) (by rw [HL.out]; omega)
            rw [HL.out] at this
            exact this)
          have hsm := sumL_lt q ((k : Int) + 1) z.r
          by_cases hs : z.s = (sumL q ((k : Int) + 1) z.r : Int)
          · have hrt : rightAt zs k = true := by rw [HX.out, hg, decide_eq_true hs]; simp; omega
            have hall2 : ∀ j, j < k + 1 → rightAt zs j = true := fun j hj => by
              by_cases e : j = k
              · rw [e]; exact hrt
              · exact HA.out j (by omega)
            have H2 := Lib.hid hall2
            clear hall2 hrt
            rw [hs] at e5
            clear hs hg
            generalize (sumL q ((k : Int) + 1) z.r : Int) = sm at *
            go_wp2_with fail
            refine wp_region_quiet_below (by kernel_rfl) (by kernel_rfl) ?_
            repeat (go_big_quiet_step (first | with_reducible exact cG _ _ | with_reducible exact cL _ _))
            refine wpQuiet_nil ?_
            intro _ hw'
            obtain ⟨⟨dq, osq⟩, hw''⟩ := hw'
            subst hw''
            have KQ := below_next HB.out (below_regrown wr dq osq)
            go_wp2_with fail
            go_roundw
            case rel => exact ⟨k + 1, by omega, by go_num, H2.out, KQ⟩
            case measure => simp [intOf]; omega
          · have hs' : (z.s == (sumL q ((k : Int) + 1) z.r : Int)) = false := by simpa using hs
            have HN := Lib.hid (show rightAt zs k = false by rw [HX.out, decide_eq_false hs]; simp)
            clear hs hg
            generalize (sumL q ((k : Int) + 1) z.r : Int) = sm at *
            have HF := Lib.hid (HS.out (.inl HN.out))
            go_wp2_with fail
            refine wp_region_quiet_below (by kernel_rfl) (by kernel_rfl) ?_
            repeat (go_big_quiet_step (first | with_reducible exact cG _ _ | with_reducible exact cL _ _))
            refine wpQuiet_nil ?_
            intro _ hw'
            obtain ⟨⟨dq, osq⟩, hw''⟩ := hw'
            subst hw''
            have KQ := below_next HB.out (below_regrown wr dq osq)
            go_wp2_with fail
            go_ret
            exact ⟨ret_int (by rw [HF.out]), KQ⟩
        | false =>
          have cG := quiet_c (w := wr) (fun V _ => by have := okOrNull_c z.r.c z.r.n z.r.o z.r.x z.r.y V; rw [show goodB z.r.c z.r.n z.r.o z.r.x z.r.y = false from hg] at this; exact this)
          have HN := Lib.hid (show rightAt zs k = false by rw [HX.out, hg]; simp)
          clear hg
          have HF := Lib.hid (HS.out (.inl HN.out))
          go_wp2_with fail
          refine wp_region_quiet_below (by kernel_rfl) (by kernel_rfl) ?_
          repeat (go_big_quiet_step (first | with_reducible exact cG _ _))
          refine wpQuiet_nil ?_
          intro _ hw'
          obtain ⟨⟨dq, osq⟩, hw''⟩ := hw'
          subst hw''
          have KQ := below_next HB.out (below_regrown wr dq osq)
          go_wp2_with fail
          go_ret
          exact ⟨ret_int (by rw [HF.out]), KQ⟩
      · have HN := Lib.hid (show rightAt zs k = false by rw [HX.out, decide_eq_false (by omega)]; simp)
        have hd : decide ((k : Int) < 60) = false := by simpa using h60
        have hd' : decide (k < 60) = false := by simp; omega
        clear h60
        have HF := Lib.hid (HS.out (.inl HN.out))
        go_wp2_with fail
        refine wp_region_quiet_below (by kernel_rfl) (by kernel_rfl) ?_
        repeat (go_big_quiet_step (fail))
        refine wpQuiet_nil ?_
        intro _ hw'
        obtain ⟨⟨dq, osq⟩, hw''⟩ := hw'
        subst hw''
        have KQ := below_next HB.out (below_regrown wr dq osq)
        go_wp2_with fail
        go_ret
        exact ⟨ret_int (by rw [HF.out]), KQ⟩
    · have HF := Lib.hid (HS.out (.inr (by omega)))
      have hd : decide (k < n) = false := by simp; omega
      clear hlt
      go_wp2_with fail
      refine wp_region_quiet_below (by kernel_rfl) (by kernel_rfl) ?_
      repeat (go_big_quiet_step (fail))
      refine wpQuiet_nil ?_
      intro _ hw'
      obtain ⟨⟨dq, osq⟩, hw''⟩ := hw'
      subst hw''
      have KQ := below_next HB.out (below_regrown wr dq osq)
      go_wp2_with fail
      go_ret
      exact ⟨ret_int (by rw [HF.out]), KQ⟩

end Go.Proofs.YtilldpoleiippaaDoor

/-! Contracts of LedgerPut, the program's and the reference's; condition: the package variables as listed. -/
namespace Go.Proofs.YtilldpoleiippaaDoor
open Go.RowKit Go.Joins

/-- What LedgerPut gives. -/
def ledPut (zs : List En) : List UInt8 := if far zs = zs.length then rowsText zs else []
theorem rowsText_snoc {zs : List En} {k : Nat} (h : k < zs.length) : rowsText (zs.take (k + 1)) = rowsText (zs.take k) ++ (Lib.itoa zs[k].s ++ [32] ++ reqPutL zs[k].r ++ [10]) := by
  unfold rowsText
  rw [List.take_succ_eq_append_getElem h, List.flatMap_append]
  simp only [List.flatMap_cons, List.flatMap_nil, List.append_nil, rowText]
theorem s_bounds {zs : List En} (h : far zs = zs.length) {k : Nat} (hk : k < zs.length) : 0 ≤ zs[k].s ∧ zs[k].s < 4294967296 := by
  have h1 := right_sum ((far_is zs).2.1 k (by omega))
  rw [enAt_eq hk] at h1
  have h2 := sumL_lt (prevAt zs k) ((k : Int) + 1) zs[k].r
  omega
theorem rowsText_len {zs : List En} (h : far zs = zs.length) : ∀ k, k ≤ zs.length → (rowsText (zs.take k)).length ≤ k * 123
  | 0, _ => by simp [rowsText]
  | k + 1, hk => by
    have hb := s_bounds h (show k < zs.length by omega)
    have ih := rowsText_len h k (by omega)
    have h1 := itoa_len zs[k].s (by omega) (by omega)
    have h2 := putLen zs[k].r
    rw [rowsText_snoc (show k < zs.length by omega)]
    simp only [List.length_append, List.length_cons, List.length_nil]
    omega

set_option maxHeartbeats 1000000 in
theorem ledger_c (a : Option Addr) (n cap : Nat) (zs : List En) (w : World) (E : Env w) (h : IsSl w (.slice a n cap) 6 En.cs zs) (hn : n ≤ 16777216) :
    Calls Tryd.prog 48 #[.slice a n cap] w fun e w' => e = .returned (.bool (decide (far zs = n))) ∧ Below w.heap.size w w' := by
  have HH := Lib.hid h
  have EE := Lib.hid E
  clear h E
  go_enter Tryd.func48, Tryd.ntmps48
  go_wp2_with fail
  refine (LedgerFar_c a n cap zs _ EE.out HH.out hn).mono ?_
  rintro e w1 ⟨rfl, k1⟩
  go_wp2_with fail
  go_ret
  refine ⟨ret_bool ?_, k1⟩
  by_cases h : far zs = n
  · simp [h]
  · simp [h]
    omega

set_option maxRecDepth 100000 in
set_option maxHeartbeats 4000000 in
theorem sLedgerPut_c (a : Option Addr) (n cap : Nat) (zs : List En) (w : World) (h : IsSl w (.slice a n cap) 6 En.cs zs) (hn : n ≤ 16777216) :
    Calls Tryd.prog 40 #[.slice a n cap] w fun e w' => e = .returned (.string ⟨(ledPut zs).toArray⟩) ∧ Below w.heap.size w w' := by
  obtain ⟨hzl, hlc, hm, hr⟩ := h.bounds
  have HH := Lib.hid h
  have HR := Lib.hid hr
  have HZ := Lib.hid hzl
  clear hr h
  unfold maxLen at hm
  have hfl := far_le zs
  rw [hzl] at hfl
  clear hzl
  have HF := Lib.hid (l7Far_c a n cap zs w HH.out hn)
  by_cases hf : far zs = n
  · have HL : Hid (ledPut zs = rowsText zs) := by show ledPut zs = _; unfold ledPut; rw [HZ.out, if_pos hf]
    have h60 := far_le60 zs
    have HB := Lib.hid (fun k (hk : k < zs.length) => s_bounds (hf.trans HZ.out.symm) hk)
    have HT := Lib.hid (rowsText_len (hf.trans HZ.out.symm))
    rw [hf] at HF h60
    clear hf hfl
    go_enter Tryd.func40, Tryd.ntmps40
    go_wp2_with fail
    refine HF.out.mono ?_
    rintro e w1 ⟨rfl, k1⟩
    go_wp2_with fail
    go_loopw [3, 4] (fun s i wr => ∃ k : Nat, k ≤ n ∧ i = .int .i64 k ∧ s = .string ⟨(rowsText (zs.take k)).toArray⟩ ∧ Below w.heap.size w wr) (fun _ i _ => n - (intOf i).toNat)
    case atStart => exact ⟨0, Nat.zero_le _, rfl, rfl, k1⟩
    case round =>
      obtain ⟨k, hk, rfl, rfl, hbel⟩ := hrel
      have HBel := Lib.hid hbel
      by_cases hlt : k < n
      · have hkz : k < zs.length := by rw [HZ.out]; exact hlt
        have hk1 : (k : Int) < (n : Int) := by omega
        have hk0 : (0 : Int) ≤ (k : Int) := by omega
        obtain ⟨b0, o0, rfl, hl0, hc0⟩ := six_at HR.out k hkz
        obtain ⟨c0, c1, c2, c3, c4, c5⟩ := hc0 wr hbel
        have HS := Lib.hid (rowsText_snoc hkz)
        obtain ⟨hs0, hs1⟩ := HB.out k hkz
        have lo := HT.out k (by rw [HZ.out]; exact hk)
        clear hc0
        generalize zs[k] = z at *
        have e0 := cell_regrown c0
        have e1 := cell_regrown c1
        have e2 := cell_regrown c2
        have e3 := cell_regrown c3
        have e4 := cell_regrown c4
        have e5 := cell_regrown c5
        clear c0 c1 c2 c3 c4 c5
        have cC := quiet_c (w := wr) (fun V _ => l1Dec_c z.s V (by omega) (by omega))
        have cR := quiet_c (w := wr) (fun V _ => sReqPut_c z.r.c z.r.n z.r.o z.r.x z.r.y V)
        have lc := itoa_len z.s (by omega) (by omega)
        have lr := putLen z.r
        have ez : (⟨z.r.c, z.r.n, z.r.o, z.r.x, z.r.y⟩ : Rq) = z.r := rfl
        rw [ez] at cR
        generalize Lib.itoa z.s = sc at *
        generalize reqPutL z.r = sr at *
        generalize rowsText (zs.take k) = so at *
        have n1 : ¬ 9223372036854775807 < so.length + sc.length := by omega
        have n2 : ¬ 9223372036854775807 < so.length + sc.length + 1 := by omega
        have n3 : ¬ 9223372036854775807 < so.length + sc.length + 1 + sr.length := by omega
        have n4 : ¬ 9223372036854775807 < so.length + sc.length + 1 + sr.length + 1 := by omega
        clear hs0 hs1 ez
        go_wp2_with fail
        refine wp_region_quiet_below (by kernel_rfl) (by kernel_rfl) ?_
        repeat (go_big_quiet_step (first | with_reducible exact cC _ _ | with_reducible exact cR _ _))
        refine wpQuiet_nil ?_
        intro _ hw'
        obtain ⟨⟨dq, osq⟩, hw''⟩ := hw'
        subst hw''
        have KQ := below_next HBel.out (below_regrown wr dq osq)
        go_wp2_with fail
        go_roundw
        case rel =>
          refine ⟨k + 1, by omega, by go_num, ?_, KQ⟩
          rw [HS.out]
          congr 1
          apply ByteArray.ext
          simp
        case measure => simp [intOf]; omega
      · have hkn : k = n := by omega
        have e : zs.take k = zs := List.take_of_length_le (by rw [HZ.out]; omega)
        rw [e]
        clear e hkn
        go_wp2_with fail
        go_ret
        exact ⟨ret_str (by rw [HL.out]), hbel⟩
  · have HL : Hid (ledPut zs = []) := by show ledPut zs = _; unfold ledPut; rw [HZ.out, if_neg hf]
    have hlt : far zs < n := by omega
    clear hf
    generalize far zs = fa at *
    go_enter Tryd.func40, Tryd.ntmps40
    go_wp2_with fail
    refine HF.out.mono ?_
    rintro e w1 ⟨rfl, k1⟩
    go_wp2_with fail
    go_ret
    exact ⟨ret_str (by rw [HL.out]), k1⟩
end Go.Proofs.YtilldpoleiippaaDoor

/-! Contract of the program's LedgerPut; condition: the package variables as listed. -/
namespace Go.Proofs.YtilldpoleiippaaDoor
open Go.RowKit Go.Joins

set_option maxRecDepth 100000 in
set_option maxHeartbeats 4000000 in
theorem LedgerPut_c (a : Option Addr) (n cap : Nat) (zs : List En) (w : World) (E : Env w) (h : IsSl w (.slice a n cap) 6 En.cs zs) (hn : n ≤ 16777216) :
    Calls Tryd.prog 19 #[.slice a n cap] w fun e w' => e = .returned (.string ⟨(ledPut zs).toArray⟩) ∧ Below w.heap.size w w' := by
  obtain ⟨hzl, hlc, hm, hr⟩ := h.bounds
  have HH := Lib.hid h
  have EE := Lib.hid E
  have HR := Lib.hid hr
  have HZ := Lib.hid hzl
  clear hr h E hzl
  unfold maxLen at hm
  have HG := Lib.hid (ledger_c a n cap zs w EE.out HH.out hn)
  by_cases hf : far zs = n
  · have HL : Hid (ledPut zs = rowsText zs) := by show ledPut zs = _; unfold ledPut; rw [HZ.out, if_pos hf]
    have h60 := far_le60 zs
    have HB := Lib.hid (fun k (hk : k < zs.length) => s_bounds (hf.trans HZ.out.symm) hk)
    have HT := Lib.hid (rowsText_len (hf.trans HZ.out.symm))
    rw [decide_eq_true hf] at HG
    rw [hf] at h60
    clear hf
    go_enter Tryd.func19, Tryd.ntmps19
    go_wp2_with fail
    refine HG.out.mono ?_
    rintro e w1 ⟨rfl, k1⟩
    have hsz : w.heap.size ≤ w1.heap.size := k1.size
    have hbu := Lib.IsBuilderF.of (Lib.fresh_isBuilder 78 5 w1)
    have kU := k1.alloc k1.size (.cells #[.pointer none, .slice none 0 0] 78)
    have sU : w1.heap.size < (w1.alloc (.cells #[.pointer none, .slice none 0 0] 78)).heap.size := by simp
    go_wp2_with fail
    go_loopw [11] (fun i wr => ∃ k : Nat, k ≤ n ∧ i = .int .i64 k ∧ Lib.IsBuilderF 78 5 w1.heap.size w1.heap.size (Lib.byteCells (rowsText (zs.take k))) wr ∧ Below w.heap.size w wr ∧ w1.heap.size < wr.heap.size) (fun i _ => n - (intOf i).toNat)
    case atStart => exact ⟨0, Nat.zero_le _, rfl, hbu, kU, sU⟩
    case round =>
      obtain ⟨k, hk, rfl, hbu, hbel, hsr⟩ := hrel
      have HBel := Lib.hid hbel
      have HU := Lib.hid hbu
      clear hbu
      by_cases hlt : k < n
      · have hkz : k < zs.length := by rw [HZ.out]; exact hlt
        have hk1 : (k : Int) < (n : Int) := by omega
        have hk0 : (0 : Int) ≤ (k : Int) := by omega
        obtain ⟨b0, o0, rfl, hl0, hc0⟩ := six_at HR.out k hkz
        obtain ⟨c0, c1, c2, c3, c4, c5⟩ := hc0 wr hbel
        have HS := Lib.hid (rowsText_snoc hkz)
        obtain ⟨hs0, hs1⟩ := HB.out k hkz
        have lo := HT.out k (by rw [HZ.out]; exact hk)
        clear hc0
        generalize zs[k] = z at *
        have cC := Lib.hid (fun V E => Itoa_c z.s V (by omega) (by omega) E)
        have cR := Lib.hid (fun V E => ReqPut_c z.r.c z.r.n z.r.o z.r.x z.r.y V E)
        have lc := itoa_len z.s (by omega) (by omega)
        have lr := putLen z.r
        have ez : (⟨z.r.c, z.r.n, z.r.o, z.r.x, z.r.y⟩ : Rq) = z.r := rfl
        rw [ez] at cR
        generalize Lib.itoa z.s = sc at *
        generalize reqPutL z.r = sr at *
        generalize rowsText (zs.take k) = so at *
        clear hs0 hs1 ez
        go_wp2_with fail
        obtain ⟨W, hW, sW, aW, kW⟩ := blocks1 wr (.cells #[.int .i64 z.r.c, .int .i64 z.r.n, .int .i64 z.r.o, .int .i64 z.r.x, .int .i64 z.r.y, .int .i64 z.s] 67)
        rw [← hW]
        clear hW c0 c1 c2 c3 c4 c5
        have hcd := cell_of_block (show W.drew.heap[wr.heap.size]? = _ from aW)
        have hl : wr.heap.size < W.drew.heap.size := by simp; omega
        have KW := below_next HBel.out (below_next kW (Below.drew (Below.refl _ _)))
        have U1 := Lib.hid (builder_below HU.out (below_next kW (Below.drew (Below.refl W.heap.size W))))
        refine wp_region_held_drew (S := fun w' => ∀ i, w'.cell? ⟨wr.heap.size, i, none⟩ = (#[.int .i64 z.r.c, .int .i64 z.r.n, .int .i64 z.r.o, .int .i64 z.r.x, .int .i64 z.r.y, .int .i64 z.s] : Array Value)[i]?) (by kernel_rfl) hcd (fun hHeld => ?_)
        clear kW hcd
        refine wpAnyH_take (i := 0) (oi := _) (v := ?_) (by (simp only [List.getElem?_toArray]; rfl)) (by kernel_rfl) (by kernel_rfl) (by kernel_rfl) (by exact fun _ _ _ h => h) (Or.inl ⟨by rfl, ?_⟩) (by assumption) ?_
        rotate_left
        · intro wS hSw
          go_simp
          all_goals first | with_reducible rfl | rw [if_neg (by omega)]
        simp only [Act.put, List.setIfInBounds_toArray, List.set]
        refine wpAnyH_take (i := 1) (oi := _) (v := ?_) (by (simp only [List.getElem?_toArray]; rfl)) (by kernel_rfl) (by kernel_rfl) (by kernel_rfl) (by exact fun _ _ _ h => h) (Or.inl ⟨by rfl, ?_⟩) (by assumption) ?_
        rotate_left
        · intro wS hSw
          go_simp
          all_goals first | with_reducible rfl | rw [if_neg (by omega)]
        simp only [Act.put, List.setIfInBounds_toArray, List.set]
        refine wpAnyH_take (i := 4) (oi := _) (v := ?_) (by (simp only [List.getElem?_toArray]; rfl)) (by kernel_rfl) (by kernel_rfl) (by kernel_rfl) (by exact fun _ _ _ h => h) (Or.inl ⟨by rfl, ?_⟩) (by assumption) ?_
        rotate_left
        · intro wS hSw
          go_simp
          all_goals first | with_reducible rfl | rw [if_neg (by omega)]
        simp only [Act.put, List.setIfInBounds_toArray, List.set]
        refine wpAnyH_take (i := 5) (oi := _) (v := ?_) (by (simp only [List.getElem?_toArray]; rfl)) (by kernel_rfl) (by kernel_rfl) (by kernel_rfl) (by exact fun _ _ _ h => h) (Or.inl ⟨by rfl, ?_⟩) (by assumption) ?_
        rotate_left
        · intro wS hSw
          go_simp
          all_goals first | with_reducible rfl | rw [if_neg (by omega)]
        simp only [Act.put, List.setIfInBounds_toArray, List.set]
        refine wpAnyH_ready (rs := [2]) (by kernel_rfl) (by simp) ?_
        refine AllReadyH.cons (o := _) (by (simp only [List.getElem?_toArray]; rfl)) (fun K hK => ?_) AllReadyH.nil
        go_simp
        refine (cC.out W.drew (EE.out.below KW)).mono ?_
        rintro e w2 ⟨rfl, k2⟩
        have h2 : ∀ i, w2.cell? ⟨wr.heap.size, i, none⟩ = (#[.int .i64 z.r.c, .int .i64 z.r.n, .int .i64 z.r.o, .int .i64 z.r.x, .int .i64 z.r.y, .int .i64 z.s] : Array Value)[i]? := fun i => ((bcell k2).1 _ i hl).trans (hHeld i)
        have l2 : wr.heap.size < w2.heap.size := Nat.lt_of_lt_of_le hl k2.size
        have K2 := below_next KW k2
        have U2 := Lib.hid (builder_below U1.out k2)
        have a2 := Lib.hid (carryB k2 hl (show W.drew.heap[wr.heap.size]? = _ from aW))
        clear k2 aW
        refine hK.out _ _ h2 (fun hHeld => ?_)
        clear hK K
        try simp only [Act.put, List.setIfInBounds_toArray, List.set]
        refine wpAnyH_take (i := 3) (oi := _) (v := ?_) (by (simp only [List.getElem?_toArray]; rfl)) (by kernel_rfl) (by kernel_rfl) (by kernel_rfl) (by exact fun _ _ _ h => h) (Or.inl ⟨by rfl, ?_⟩) (by assumption) ?_
        rotate_left
        · intro wS hSw
          go_simp
          all_goals first | with_reducible rfl | rw [if_neg (by omega)]
        simp only [Act.put, List.setIfInBounds_toArray, List.set]
        refine wpAnyH_ready (rs := [6]) (by kernel_rfl) (by simp) ?_
        refine AllReadyH.cons (o := _) (by (simp only [List.getElem?_toArray]; rfl)) (fun K hK => ?_) AllReadyH.nil
        go_simp
        refine (cR.out w2 (EE.out.below K2)).mono ?_
        rintro e w3 ⟨rfl, k3⟩
        have h3 : ∀ i, w3.cell? ⟨wr.heap.size, i, none⟩ = (#[.int .i64 z.r.c, .int .i64 z.r.n, .int .i64 z.r.o, .int .i64 z.r.x, .int .i64 z.r.y, .int .i64 z.s] : Array Value)[i]? := fun i => ((bcell k3).1 _ i l2).trans (h2 i)
        have l3 : wr.heap.size < w3.heap.size := Nat.lt_of_lt_of_le l2 k3.size
        have K3 := below_next K2 k3
        have U3 := Lib.hid (builder_below U2.out k3)
        have a3 := Lib.hid (carryB k3 l2 a2.out)
        clear k3 hHeld a2
        refine hK.out _ _ h3 (fun hHeld => ?_)
        clear hK K
        try simp only [Act.put, List.setIfInBounds_toArray, List.set]
        refine wpAnyH_take (i := 7) (oi := _) (v := ?_) (by (simp only [List.getElem?_toArray]; rfl)) (by kernel_rfl) (by kernel_rfl) (by kernel_rfl) (by exact fun _ _ _ h => h) (Or.inl ⟨by rfl, ?_⟩) (by assumption) ?_
        rotate_left
        · intro wS hSw
          go_simp
          all_goals first | with_reducible rfl | rw [if_neg (by omega)]
        simp only [Act.put, List.setIfInBounds_toArray, List.set]
        refine wpAnyH_take (i := 8) (oi := _) (v := ?_) (by (simp only [List.getElem?_toArray]; rfl)) (by kernel_rfl) (by kernel_rfl) (by kernel_rfl) (by exact fun _ _ _ h => h) (Or.inl ⟨by rfl, ?_⟩) (by assumption) ?_
        rotate_left
        · intro wS hSw
          go_simp
          all_goals first | with_reducible rfl | rw [if_neg (by omega)]
        simp only [Act.put, List.setIfInBounds_toArray, List.set]
        refine wpAnyH_ready (rs := [9]) (by kernel_rfl) (by simp) ?_
        refine AllReadyH.cons (o := _) (by (simp only [List.getElem?_toArray]; rfl)) (fun K hK => ?_) AllReadyH.nil
        go_simp
        have et : (⟨sc.toArray⟩ : ByteArray) ++ ⟨#[32]⟩ ++ ⟨sr.toArray⟩ ++ ⟨#[10]⟩ = ⟨(sc ++ [32] ++ sr ++ [10]).toArray⟩ := by
          apply ByteArray.ext
          simp
        rw [et]
        have esz : (⟨(sc ++ [32] ++ sr ++ [10]).toArray⟩ : ByteArray).size = (sc ++ [32] ++ sr ++ [10]).length := rfl
        have hl4 : (Lib.byteCells so).length + (⟨(sc ++ [32] ++ sr ++ [10]).toArray⟩ : ByteArray).size ≤ 140737488355328 := by
          rw [Lib.byteCells_length, esz]
          simp only [List.length_append, List.length_cons, List.length_nil]
          omega
        have hB3 : w1.heap.size ≤ w3.heap.size := by omega
        have hcW := WriteString_c w1.heap.size w1.heap.size (Lib.byteCells so) ⟨(sc ++ [32] ++ sr ++ [10]).toArray⟩ w3 U3.out hl4 hB3
        clear esz hl4 hHeld
        refine hcW.mono ?_
        rintro e w4 ⟨rfl, u4, k4, o4⟩
        have h4 : ∀ i, w4.cell? ⟨wr.heap.size, i, none⟩ = (#[.int .i64 z.r.c, .int .i64 z.r.n, .int .i64 z.r.o, .int .i64 z.r.x, .int .i64 z.r.y, .int .i64 z.s] : Array Value)[i]? := cell_of_block (o4 _ _ a3.out (by simp; omega) (fun c fz e => by injection e with _ e2 _; exact absurd e2 (by decide)))
        have K4 : Below w.heap.size w w4 := K3.trans (k4.mono hsz)
        have u5 : Lib.IsBuilderF 78 5 w1.heap.size w1.heap.size (Lib.byteCells (rowsText (zs.take (k + 1)))) w4 := by
          rw [HS.out]
          have e2 : Lib.byteCells so ++ Lib.strCells ⟨(sc ++ [32] ++ sr ++ [10]).toArray⟩ = Lib.byteCells (so ++ (sc ++ [32] ++ sr ++ [10])) := by
            rw [Lib.strCells_eq]
            simp only [Lib.byteCells_append, List.append_assoc]
          rw [← e2]
          exact u4
        have HU5 := Lib.hid u5
        have l4 : w1.heap.size < w4.heap.size := Nat.lt_of_lt_of_le (by omega) k4.size
        clear u4 u5 k4 o4 et
        refine hK.out _ _ h4 (fun hHeld => ?_)
        clear hK K
        try simp only [Act.put, List.setIfInBounds_toArray, List.set]
        refine wpAnyH_done (by kernel_rfl) ?_ _
        go_wp2_with fail
        go_roundw
        case rel => exact ⟨k + 1, by omega, by go_num, HU5.out, K4, l4⟩
        case measure => simp [intOf]; omega
      · have e : zs.take k = zs := List.take_of_length_le (by rw [HZ.out]; omega)
        rw [e] at HU
        clear e
        have hle : w1.heap.size ≤ wr.heap.size := by omega
        go_wp2_with fail
        refine (BuilderString_c w1.heap.size w1.heap.size (rowsText zs) wr HU.out hle).mono ?_
        rintro e w4 ⟨rfl, k4⟩
        go_wp2_with fail
        go_ret
        exact ⟨ret_str (by rw [HL.out]), hbel.trans (k4.mono hsz)⟩
  · have HL : Hid (ledPut zs = []) := by show ledPut zs = _; unfold ledPut; rw [HZ.out, if_neg hf]
    rw [decide_eq_false hf] at HG
    clear hf
    go_enter Tryd.func19, Tryd.ntmps19
    go_wp2_with fail
    refine HG.out.mono ?_
    rintro e w1 ⟨rfl, k1⟩
    go_wp2_with fail
    go_ret
    exact ⟨ret_str (by rw [HL.out]), k1⟩
end Go.Proofs.YtilldpoleiippaaDoor
