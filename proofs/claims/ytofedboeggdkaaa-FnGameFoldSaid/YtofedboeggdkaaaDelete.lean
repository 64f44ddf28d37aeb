/- slices.Delete of one element, at lists of asks and of figures; condition: small sizes. -/
import Derived.Test.YtofedboeggdkaaaMarkA
namespace Go.Proofs.Ytofedboeggdkaaa
open Go.RowKit Go.Joins

section
variable {α : Type} {w w' : World} {B : Nat} {e : TypeId} {a : Option Addr} {cap k : Nat} {R : α → List Value} {zs : List α}
theorem Row.take (h : Row w B e a cap k R zs) (hR : ∀ z, (R z).length = k) (i : Nat) : Row w B e a cap k R (zs.take i) :=
  ⟨Nat.le_trans (by rw [List.length_take]; exact Nat.min_le_right _ _) h.len, h.max, fun hc => by
    obtain ⟨g, cur, h1, h2, h3, h4, h5⟩ := h.own hc
    refine ⟨g, cur, h1, h2, h3, h4, fun j hj => ?_⟩
    have hle : (zs.take i).length * k ≤ zs.length * k := Nat.mul_le_mul_right k (by rw [List.length_take]; exact Nat.min_le_right _ _)
    rw [h5 j (by omega)]
    have e1 : flat R zs = flat R (zs.take i) ++ flat R (zs.drop i) := by rw [← flat_append, List.take_append_drop]
    rw [e1, Array.getElem?_append_left (by rw [flat_size hR]; exact hj)]⟩
theorem RowsAt.drop {g off : Nat} (h : RowsAt w (some ⟨g, off, none⟩) k R zs) (i : Nat) : RowsAt w (some ⟨g, off + i * k, none⟩) k R (zs.drop i) := by
  intro j hj
  rw [List.length_drop] at hj
  obtain ⟨b, o, q, hb, hc⟩ := h (i + j) (by omega)
  injection q with q
  injection q with q1 q2
  subst q1 q2
  refine ⟨g, off + i * k, rfl, hb, fun t ht => ?_⟩
  have := hc t ht
  rw [Nat.add_mul] at this
  rw [List.getElem_drop, ← this]
  congr 2
  omega
theorem RowsAt.empty (w : World) (a : Option Addr) (k : Nat) (R : α → List Value) : RowsAt w a k R [] := fun i hi => absurd hi (Nat.not_lt_zero i)

/-- The cells of one element behind the row set to zero. -/
theorem wpList_clear_row {P : Program} {ops : Array Oper} {rest : List Oper} {o : Oper} {ac : Act} {Q : Exit → Act → World → Prop} (hgd : o.guard = none) (x : Operand) {t : TypeId} (ho : o.op = .call { callee := .builtin .clear, args := #[x], argTypes := #[t] })
    {bytes : Nat} (el : Elt P t e k bytes R) {i : Nat} {c : Nat} {g : Nat} (hx : ac.eval x = .slice (some ⟨g, i * k, none⟩) 1 c) (hrow : Row w B e (some ⟨g, 0, none⟩) cap k R zs) (hi : zs.length ≤ i) (hic : i < cap) (hzone : ∀ z v, P.info? e = some z → z.zero = some v → ∀ u ∈ v.cells.toList, u.oneCell' = true)
    (h : ∀ w', Row w' B e (some ⟨g, 0, none⟩) cap k R zs → w.grownBy w' (some g) → wpList P ops Q rest (ac.put o.dst (.tuple #[])) w') : wpList P ops Q (o :: rest) ac w := by
  refine wpList_plain hgd fun K hK => ?_
  obtain ⟨inf, z, h1, h2, h3, h4, h5⟩ := el.info
  obtain ⟨g', cur, q, hBg, hg, hcs, hcur⟩ := hrow.own (by omega)
  injection q with q
  injection q with q1
  subst q1
  have hzc : (Builtin.zeroCells z.cells 1).toList = z.cells.toList := by
    apply List.ext_getElem
    · simp [Builtin.zeroCells]
    · intro j hj1 hj2
      have hj : j < z.cells.size := by simpa using hj2
      simp [Builtin.zeroCells, Nat.mod_eq_of_lt hj, hj]
  have hmul : (i + 1) * k ≤ cap * k := Nat.mul_le_mul_right k hic
  rw [Nat.add_mul, Nat.one_mul] at hmul
  have hmul2 : zs.length * k ≤ i * k := Nat.mul_le_mul_right k hi
  have hst := run_storeCells_at P g (i * k) e z.cells.toList 0 cur w hg (by simp [h5]; omega) (hzone inf z h1 h2)
  simp only [Nat.add_zero] at hst
  unfold Oper.wp
  simp [execOp, ho, resolve, invoke, builtin, hx, Result.andThen, Builtin.clear_, run_underlying el.under, zeroValue, typeInfo, h1, h2, hzc, hst]
  refine hK _ _ (h _ ⟨hrow.len, hrow.max, fun _ => ⟨g, _, rfl, hBg, setRow_heap w g cur _ e _ hg, ?_, fun j hj => ?_⟩⟩ ⟨rfl, rfl, rfl, by simp [World.setRow], fun b _ hne => setRow_other w g b _ (fun e => hne (by rw [e]))⟩)
  · simp only [List.size_toArray, List.length_append, List.length_take, List.length_drop, Array.length_toList]
    rw [Nat.min_eq_left (by omega)]
    omega
  · rw [← hcur j hj, List.getElem?_toArray, List.getElem?_append_left (by simp only [List.length_take, Array.length_toList]; omega), List.getElem?_take_of_lt (by omega), Array.getElem?_toList]
end

theorem grownBy_trans {w w1 w2 : World} {row : Option Nat} (h : w.grownBy w1 row) (k : w1.grownBy w2 row) : w.grownBy w2 row :=
  ⟨k.os.trans h.os, k.tape.trans h.tape, k.output.trans h.output, Nat.le_trans h.size k.size, fun b hb hne => (k.block b (Nat.lt_of_lt_of_le hb h.size) hne).trans (h.block b hb hne)⟩

set_option maxRecDepth 100000 in
theorem zoneReq : ∀ z v, Try.prog.info? 34 = some z → z.zero = some v → ∀ u ∈ v.cells.toList, u.oneCell' = true := by
  intro z v h1 h2
  have h : (Try.prog.info? 34).map (·.zero) = some (some (.agg #[.int .i64 0, .int .i64 0, .int .i64 0, .int .i64 0, .int .i64 0])) := by kernel_rfl
  rw [h1] at h
  simp only [Option.map_some, Option.some.injEq] at h
  rw [h2] at h
  injection h with h
  subst h
  intro u hu
  simp [Value.cells] at hu
  subst hu
  rfl
set_option maxRecDepth 100000 in
set_option maxHeartbeats 4000000 in
theorem slDeleteReq_c {B n cap i : Nat} {a : Option Addr} {zs : List Rq} (w : World) (h : Row w B 34 a cap 5 Rq.cs zs) (hn : zs.length = n) (hi : i < n) (hs : n ≤ 16777216) :
    Calls Try.prog 76 #[.slice a n cap, .int .i64 i, .int .i64 ((i : Int) + 1)] w fun e w' => e = .returned (.slice a (n - 1 : Nat) cap) ∧ Row w' B 34 a cap 5 Rq.cs (zs.eraseIdx i) ∧ w.grownBy w' (rowBlk a cap) := by
  have hlen := h.len
  have hmax := h.max
  have H := Lib.hid h
  obtain ⟨g, cur, rfl, -⟩ := h.own (by omega)
  clear h
  unfold maxLen at hmax
  have h1 : (0 : Int) ≤ (i : Int) := by omega
  have h2 : ((i : Int) + 1) ≤ (n : Int) := by omega
  have h3 : ¬ ((i : Int) = (i : Int) + 1) := by omega
  have h4 : (i : Int) ≤ (cap : Int) := by omega
  have h5 : (i : Int) + 1 ≤ (cap : Int) := by omega
  have h6 : ¬ cap = 0 := by omega
  have h8 : (i : Int) < (n : Int) := by omega
  have h9 : i + 1 ≤ n := by omega
  have h10 : (0 : Int) ≤ (i : Int) + 1 := by omega
  go_enter Try.func76, Try.ntmps76
  go_wp2_with fail
  by_cases h7 : cap = i + 1
  case neg =>
    refine wp_region_held_drew (S := fun _ => True) (by kernel_rfl) trivial (fun hHeld => ?_)
    refine wpAnyH_take (i := 0) (oi := _) (v := ?_) (by (simp only [List.getElem?_toArray]; rfl)) (by kernel_rfl) (by kernel_rfl) (by kernel_rfl) (by exact fun _ _ _ h => h) (Or.inl ⟨by rfl, ?_⟩) (by assumption) ?_
    rotate_left
    · intro wS hSw
      go_simp
      all_goals first | with_reducible rfl | rw [if_neg (by omega)]
    simp only [Act.put, List.setIfInBounds_toArray, List.set]
    refine wpAnyH_take (i := 1) (oi := _) (v := ?_) (by (simp only [List.getElem?_toArray]; rfl)) (by kernel_rfl) (by kernel_rfl) (by kernel_rfl) (by exact fun _ _ _ h => h) (Or.inl ⟨by rfl, ?_⟩) (by assumption) ?_
    rotate_left
    · intro wS hSw
      go_simp
      all_goals first | with_reducible rfl | rw [if_neg (by omega)]
    simp only [Act.put, List.setIfInBounds_toArray, List.set]
    refine wpAnyH_take (i := 2) (oi := _) (v := ?_) (by (simp only [List.getElem?_toArray]; rfl)) (by kernel_rfl) (by kernel_rfl) (by kernel_rfl) (by exact fun _ _ _ h => h) (Or.inl ⟨by rfl, ?_⟩) (by assumption) ?_
    rotate_left
    · intro wS hSw
      go_simp
      all_goals first | with_reducible rfl | rw [if_neg (by omega)]
    simp only [Act.put, List.setIfInBounds_toArray, List.set]
    refine wpAnyH_take (i := 3) (oi := _) (v := ?_) (by (simp only [List.getElem?_toArray]; rfl)) (by kernel_rfl) (by kernel_rfl) (by kernel_rfl) (by exact fun _ _ _ h => h) (Or.inl ⟨by rfl, ?_⟩) (by assumption) ?_
    rotate_left
    · intro wS hSw
      go_simp
      all_goals first | with_reducible rfl | rw [if_neg (by omega)]
    simp only [Act.put, List.setIfInBounds_toArray, List.set]
    refine wpAnyH_take (i := 4) (oi := _) (v := ?_) (by (simp only [List.getElem?_toArray]; rfl)) (by kernel_rfl) (by kernel_rfl) (by kernel_rfl) (by exact fun _ _ _ h => h) (Or.inl ⟨by rfl, ?_⟩) (by assumption) ?_
    rotate_left
    · intro wS hSw
      go_simp
      all_goals first | with_reducible rfl | rw [if_neg (by omega)]
    simp only [Act.put, List.setIfInBounds_toArray, List.set]
    refine wpAnyH_take (i := 5) (oi := _) (v := ?_) (by (simp only [List.getElem?_toArray]; rfl)) (by kernel_rfl) (by kernel_rfl) (by kernel_rfl) (by exact fun _ _ _ h => h) (Or.inl ⟨by rfl, ?_⟩) (by assumption) ?_
    rotate_left
    · intro wS hSw
      go_simp
      all_goals first | with_reducible rfl | rw [if_neg (by omega)]
    simp only [Act.put, List.setIfInBounds_toArray, List.set]
    refine wpAnyH_ready (rs := [6]) (by kernel_rfl) (by simp) ?_
    refine AllReadyH.cons (o := _) (by (simp only [List.getElem?_toArray]; rfl)) (fun K hK => ?_) AllReadyH.nil
    refine step_append_elt (by rfl) (.tmp 22) (.tmp 25) (by rfl) (n - 1) eltReq (by rfl) (by rfl) (H.out.take five_len i).drew (ys := zs.drop (i + 1)) ((H.out.rows five_len).drop (i + 1) |> fun q => by simpa using q.below (Below.drew (Below.refl _ _))) (by rw [List.length_take]; omega) (by rw [List.length_drop]; omega) (by omega) (by simp only [maxLen]; omega) (by omega) (Row.blk H.out (g := g) (by simp [rowBlk]; omega) |> fun q => Nat.le_trans q.1 (Nat.le_of_lt q.2)) ?_
    intro a' c' w1 q1
    have hst := q1.stay (by rw [List.length_append, List.length_take, List.length_drop]; omega)
    obtain ⟨rfl, rfl⟩ := hst
    refine hK.out _ _ trivial (fun hHeld => ?_)
    clear hK K
    simp only [Act.put, List.setIfInBounds_toArray, List.set]
    refine wpAnyH_take (i := 7) (oi := _) (v := ?_) (by (simp only [List.getElem?_toArray]; rfl)) (by kernel_rfl) (by kernel_rfl) (by kernel_rfl) (by exact fun _ _ _ h => h) (Or.inl ⟨by rfl, ?_⟩) (by assumption) ?_
    rotate_left
    · intro wS hSw
      go_simp
      all_goals first | with_reducible rfl | rw [if_neg (by omega)]
    simp only [Act.put, List.setIfInBounds_toArray, List.set]
    refine wpAnyH_done (by kernel_rfl) ?_ _
    have er : zs.take i ++ zs.drop (i + 1) = zs.eraseIdx i := (List.eraseIdx_eq_take_drop_succ zs i).symm
    have R1 := q1.row
    rw [er] at R1
    have hle : (zs.eraseIdx i).length = n - 1 := by rw [List.length_eraseIdx]; simp [hn, hi]
    have R1' := Lib.hid R1
    have G1 := Lib.hid q1.grown
    have HLE := Lib.hid hle
    clear q1 R1 er hle
    have g1 : ((n - 1 : Nat) : Int) ≤ (n : Int) := by omega
    have g2 : (0 : Int) ≤ ((n - 1 : Nat) : Int) := by omega
    have g3 : (n : Int) ≤ (c' : Int) := by omega
    have g4 : n - 1 ≤ n := by omega
    have g5 : n - (n - 1) = 1 := by omega
    have g6 : ¬ (c' = n - 1) := by omega
    go_wp2_with (with_reducible refine wpList_clear_row (o := ⟨none, .call { callee := .builtin .clear, args := #[.tmp 31], argTypes := #[_] }, _, _, _, _⟩) rfl (.tmp 31) rfl eltReq rfl R1'.out (Nat.le_of_eq HLE.out) (by omega) zoneReq ?_)
    intro w2 r2 t2
    go_wp2_with fail
    go_ret
    exact ⟨rfl, r2, grownBy_trans ⟨G1.out.os, G1.out.tape, G1.out.output, G1.out.size, G1.out.block⟩ (by simpa [rowBlk, h6] using t2)⟩
  case pos =>
    subst h7
    have h11 : (i : Int) ≤ (i : Int) + 1 := by omega
    refine wp_region_held_drew (S := fun _ => True) (by kernel_rfl) trivial (fun hHeld => ?_)
    refine wpAnyH_take (i := 0) (oi := _) (v := ?_) (by (simp only [List.getElem?_toArray]; rfl)) (by kernel_rfl) (by kernel_rfl) (by kernel_rfl) (by exact fun _ _ _ h => h) (Or.inl ⟨by rfl, ?_⟩) (by assumption) ?_
    rotate_left
    · intro wS hSw
      go_simp
      all_goals first | with_reducible rfl | rw [if_neg (by omega)]
    simp only [Act.put, List.setIfInBounds_toArray, List.set]
    refine wpAnyH_take (i := 1) (oi := _) (v := ?_) (by (simp only [List.getElem?_toArray]; rfl)) (by kernel_rfl) (by kernel_rfl) (by kernel_rfl) (by exact fun _ _ _ h => h) (Or.inl ⟨by rfl, ?_⟩) (by assumption) ?_
    rotate_left
    · intro wS hSw
      go_simp
      all_goals first | with_reducible rfl | rw [if_neg (by omega)]
    simp only [Act.put, List.setIfInBounds_toArray, List.set]
    refine wpAnyH_take (i := 2) (oi := _) (v := ?_) (by (simp only [List.getElem?_toArray]; rfl)) (by kernel_rfl) (by kernel_rfl) (by kernel_rfl) (by exact fun _ _ _ h => h) (Or.inl ⟨by rfl, ?_⟩) (by assumption) ?_
    rotate_left
    · intro wS hSw
      go_simp
      all_goals first | with_reducible rfl | rw [if_neg (by omega)]
    simp only [Act.put, List.setIfInBounds_toArray, List.set]
    refine wpAnyH_take (i := 3) (oi := _) (v := ?_) (by (simp only [List.getElem?_toArray]; rfl)) (by kernel_rfl) (by kernel_rfl) (by kernel_rfl) (by exact fun _ _ _ h => h) (Or.inl ⟨by rfl, ?_⟩) (by assumption) ?_
    rotate_left
    · intro wS hSw
      go_simp
      all_goals first | with_reducible rfl | rw [if_neg (by omega)]
    simp only [Act.put, List.setIfInBounds_toArray, List.set]
    refine wpAnyH_take (i := 4) (oi := _) (v := ?_) (by (simp only [List.getElem?_toArray]; rfl)) (by kernel_rfl) (by kernel_rfl) (by kernel_rfl) (by exact fun _ _ _ h => h) (Or.inl ⟨by rfl, ?_⟩) (by assumption) ?_
    rotate_left
    · intro wS hSw
      go_simp
      all_goals first | with_reducible rfl | rw [if_neg (by omega)]
    simp only [Act.put, List.setIfInBounds_toArray, List.set]
    refine wpAnyH_take (i := 5) (oi := _) (v := ?_) (by (simp only [List.getElem?_toArray]; rfl)) (by kernel_rfl) (by kernel_rfl) (by kernel_rfl) (by exact fun _ _ _ h => h) (Or.inl ⟨by rfl, ?_⟩) (by assumption) ?_
    rotate_left
    · intro wS hSw
      go_simp
      all_goals first | with_reducible rfl | rw [if_neg (by omega)]
    simp only [Act.put, List.setIfInBounds_toArray, List.set]
    refine wpAnyH_ready (rs := [6]) (by kernel_rfl) (by simp) ?_
    refine AllReadyH.cons (o := _) (by (simp only [List.getElem?_toArray]; rfl)) (fun K hK => ?_) AllReadyH.nil
    refine step_append_elt (by rfl) (.tmp 22) (.tmp 25) (by rfl) (n - 1) eltReq (by rfl) (by rfl) (H.out.take five_len i).drew (ys := zs.drop (i + 1)) (by rw [List.drop_eq_nil_of_le (by omega)]; exact RowsAt.empty _ _ _ _) (by rw [List.length_take]; omega) (by rw [List.length_drop] <;> omega) (by omega) (by simp only [maxLen]; omega) (by omega) (Row.blk H.out (g := g) (by simp [rowBlk]) |> fun q => Nat.le_trans q.1 (Nat.le_of_lt q.2)) ?_
    intro a' c' w1 q1
    have hst := q1.stay (by rw [List.length_append, List.length_take, List.length_drop]; omega)
    obtain ⟨rfl, rfl⟩ := hst
    refine hK.out _ _ trivial (fun hHeld => ?_)
    clear hK K
    simp only [Act.put, List.setIfInBounds_toArray, List.set]
    refine wpAnyH_take (i := 7) (oi := _) (v := ?_) (by (simp only [List.getElem?_toArray]; rfl)) (by kernel_rfl) (by kernel_rfl) (by kernel_rfl) (by exact fun _ _ _ h => h) (Or.inl ⟨by rfl, ?_⟩) (by assumption) ?_
    rotate_left
    · intro wS hSw
      go_simp
      all_goals first | with_reducible rfl | rw [if_neg (by omega)]
    simp only [Act.put, List.setIfInBounds_toArray, List.set]
    refine wpAnyH_done (by kernel_rfl) ?_ _
    have er : zs.take i ++ zs.drop (i + 1) = zs.eraseIdx i := (List.eraseIdx_eq_take_drop_succ zs i).symm
    have R1 := q1.row
    rw [er] at R1
    have hle : (zs.eraseIdx i).length = n - 1 := by rw [List.length_eraseIdx]; simp [hn, hi]
    have R1' := Lib.hid R1
    have G1 := Lib.hid q1.grown
    have HLE := Lib.hid hle
    clear q1 R1 er hle
    have g1 : ((n - 1 : Nat) : Int) ≤ (n : Int) := by omega
    have g2 : (0 : Int) ≤ ((n - 1 : Nat) : Int) := by omega
    have g3 : (n : Int) ≤ ((i + 1 : Nat) : Int) := by omega
    have g4 : n - 1 ≤ n := by omega
    have g5 : n - (n - 1) = 1 := by omega
    have g6 : ¬ (i + 1 = n - 1) := by omega
    go_wp2_with (with_reducible refine wpList_clear_row (o := ⟨none, .call { callee := .builtin .clear, args := #[.tmp 31], argTypes := #[_] }, _, _, _, _⟩) rfl (.tmp 31) rfl eltReq rfl R1'.out (Nat.le_of_eq HLE.out) (by omega) zoneReq ?_)
    intro w2 r2 t2
    go_wp2_with fail
    go_ret
    exact ⟨rfl, r2, grownBy_trans ⟨G1.out.os, G1.out.tape, G1.out.output, G1.out.size, G1.out.block⟩ (by simpa [rowBlk, h6] using t2)⟩
set_option maxRecDepth 100000 in
theorem zoneEnt : ∀ z v, Try.prog.info? 92 = some z → z.zero = some v → ∀ u ∈ v.cells.toList, u.oneCell' = true := by
  intro z v h1 h2
  have h : (Try.prog.info? 92).map (·.zero) = some (some (.agg #[.int .i64 0, .int .i64 0, .int .i64 0, .int .i64 0, .int .i64 0])) := by kernel_rfl
  rw [h1] at h
  simp only [Option.map_some, Option.some.injEq] at h
  rw [h2] at h
  injection h with h
  subst h
  intro u hu
  simp [Value.cells] at hu
  subst hu
  rfl
set_option maxRecDepth 100000 in
set_option maxHeartbeats 4000000 in
theorem slDeleteEnt_c {B n cap i : Nat} {a : Option Addr} {zs : List Rq} (w : World) (h : Row w B 92 a cap 5 Rq.cs zs) (hn : zs.length = n) (hi : i < n) (hs : n ≤ 16777216) :
    Calls Try.prog 118 #[.slice a n cap, .int .i64 i, .int .i64 ((i : Int) + 1)] w fun e w' => e = .returned (.slice a (n - 1 : Nat) cap) ∧ Row w' B 92 a cap 5 Rq.cs (zs.eraseIdx i) ∧ w.grownBy w' (rowBlk a cap) := by
  have hlen := h.len
  have hmax := h.max
  have H := Lib.hid h
  obtain ⟨g, cur, rfl, -⟩ := h.own (by omega)
  clear h
  unfold maxLen at hmax
  have h1 : (0 : Int) ≤ (i : Int) := by omega
  have h2 : ((i : Int) + 1) ≤ (n : Int) := by omega
  have h3 : ¬ ((i : Int) = (i : Int) + 1) := by omega
  have h4 : (i : Int) ≤ (cap : Int) := by omega
  have h5 : (i : Int) + 1 ≤ (cap : Int) := by omega
  have h6 : ¬ cap = 0 := by omega
  have h8 : (i : Int) < (n : Int) := by omega
  have h9 : i + 1 ≤ n := by omega
  have h10 : (0 : Int) ≤ (i : Int) + 1 := by omega
  go_enter Try.func118, Try.ntmps118
  go_wp2_with fail
  by_cases h7 : cap = i + 1
  case neg =>
    refine wp_region_held_drew (S := fun _ => True) (by kernel_rfl) trivial (fun hHeld => ?_)
    refine wpAnyH_take (i := 0) (oi := _) (v := ?_) (by (simp only [List.getElem?_toArray]; rfl)) (by kernel_rfl) (by kernel_rfl) (by kernel_rfl) (by exact fun _ _ _ h => h) (Or.inl ⟨by rfl, ?_⟩) (by assumption) ?_
    rotate_left
    · intro wS hSw
      go_simp
      all_goals first | with_reducible rfl | rw [if_neg (by omega)]
    simp only [Act.put, List.setIfInBounds_toArray, List.set]
    refine wpAnyH_take (i := 1) (oi := _) (v := ?_) (by (simp only [List.getElem?_toArray]; rfl)) (by kernel_rfl) (by kernel_rfl) (by kernel_rfl) (by exact fun _ _ _ h => h) (Or.inl ⟨by rfl, ?_⟩) (by assumption) ?_
    rotate_left
    · intro wS hSw
      go_simp
      all_goals first | with_reducible rfl | rw [if_neg (by omega)]
    simp only [Act.put, List.setIfInBounds_toArray, List.set]
    refine wpAnyH_take (i := 2) (oi := _) (v := ?_) (by (simp only [List.getElem?_toArray]; rfl)) (by kernel_rfl) (by kernel_rfl) (by kernel_rfl) (by exact fun _ _ _ h => h) (Or.inl ⟨by rfl, ?_⟩) (by assumption) ?_
    rotate_left
    · intro wS hSw
      go_simp
      all_goals first | with_reducible rfl | rw [if_neg (by omega)]
    simp only [Act.put, List.setIfInBounds_toArray, List.set]
    refine wpAnyH_take (i := 3) (oi := _) (v := ?_) (by (simp only [List.getElem?_toArray]; rfl)) (by kernel_rfl) (by kernel_rfl) (by kernel_rfl) (by exact fun _ _ _ h => h) (Or.inl ⟨by rfl, ?_⟩) (by assumption) ?_
    rotate_left
    · intro wS hSw
      go_simp
      all_goals first | with_reducible rfl | rw [if_neg (by omega)]
    simp only [Act.put, List.setIfInBounds_toArray, List.set]
    refine wpAnyH_take (i := 4) (oi := _) (v := ?_) (by (simp only [List.getElem?_toArray]; rfl)) (by kernel_rfl) (by kernel_rfl) (by kernel_rfl) (by exact fun _ _ _ h => h) (Or.inl ⟨by rfl, ?_⟩) (by assumption) ?_
    rotate_left
    · intro wS hSw
      go_simp
      all_goals first | with_reducible rfl | rw [if_neg (by omega)]
    simp only [Act.put, List.setIfInBounds_toArray, List.set]
    refine wpAnyH_take (i := 5) (oi := _) (v := ?_) (by (simp only [List.getElem?_toArray]; rfl)) (by kernel_rfl) (by kernel_rfl) (by kernel_rfl) (by exact fun _ _ _ h => h) (Or.inl ⟨by rfl, ?_⟩) (by assumption) ?_
    rotate_left
    · intro wS hSw
      go_simp
      all_goals first | with_reducible rfl | rw [if_neg (by omega)]
    simp only [Act.put, List.setIfInBounds_toArray, List.set]
    refine wpAnyH_ready (rs := [6]) (by kernel_rfl) (by simp) ?_
    refine AllReadyH.cons (o := _) (by (simp only [List.getElem?_toArray]; rfl)) (fun K hK => ?_) AllReadyH.nil
    refine step_append_elt (by rfl) (.tmp 22) (.tmp 25) (by rfl) (n - 1) eltEnt (by rfl) (by rfl) (H.out.take five_len i).drew (ys := zs.drop (i + 1)) ((H.out.rows five_len).drop (i + 1) |> fun q => by simpa using q.below (Below.drew (Below.refl _ _))) (by rw [List.length_take]; omega) (by rw [List.length_drop]; omega) (by omega) (by simp only [maxLen]; omega) (by omega) (Row.blk H.out (g := g) (by simp [rowBlk]; omega) |> fun q => Nat.le_trans q.1 (Nat.le_of_lt q.2)) ?_
    intro a' c' w1 q1
    have hst := q1.stay (by rw [List.length_append, List.length_take, List.length_drop]; omega)
    obtain ⟨rfl, rfl⟩ := hst
    refine hK.out _ _ trivial (fun hHeld => ?_)
    clear hK K
    simp only [Act.put, List.setIfInBounds_toArray, List.set]
    refine wpAnyH_take (i := 7) (oi := _) (v := ?_) (by (simp only [List.getElem?_toArray]; rfl)) (by kernel_rfl) (by kernel_rfl) (by kernel_rfl) (by exact fun _ _ _ h => h) (Or.inl ⟨by rfl, ?_⟩) (by assumption) ?_
    rotate_left
    · intro wS hSw
      go_simp
      all_goals first | with_reducible rfl | rw [if_neg (by omega)]
    simp only [Act.put, List.setIfInBounds_toArray, List.set]
    refine wpAnyH_done (by kernel_rfl) ?_ _
    have er : zs.take i ++ zs.drop (i + 1) = zs.eraseIdx i := (List.eraseIdx_eq_take_drop_succ zs i).symm
    have R1 := q1.row
    rw [er] at R1
    have hle : (zs.eraseIdx i).length = n - 1 := by rw [List.length_eraseIdx]; simp [hn, hi]
    have R1' := Lib.hid R1
    have G1 := Lib.hid q1.grown
    have HLE := Lib.hid hle
    clear q1 R1 er hle
    have g1 : ((n - 1 : Nat) : Int) ≤ (n : Int) := by omega
    have g2 : (0 : Int) ≤ ((n - 1 : Nat) : Int) := by omega
    have g3 : (n : Int) ≤ (c' : Int) := by omega
    have g4 : n - 1 ≤ n := by omega
    have g5 : n - (n - 1) = 1 := by omega
    have g6 : ¬ (c' = n - 1) := by omega
    go_wp2_with (with_reducible refine wpList_clear_row (o := ⟨none, .call { callee := .builtin .clear, args := #[.tmp 31], argTypes := #[_] }, _, _, _, _⟩) rfl (.tmp 31) rfl eltEnt rfl R1'.out (Nat.le_of_eq HLE.out) (by omega) zoneEnt ?_)
    intro w2 r2 t2
    go_wp2_with fail
    go_ret
    exact ⟨rfl, r2, grownBy_trans ⟨G1.out.os, G1.out.tape, G1.out.output, G1.out.size, G1.out.block⟩ (by simpa [rowBlk, h6] using t2)⟩
  case pos =>
    subst h7
    have h11 : (i : Int) ≤ (i : Int) + 1 := by omega
    refine wp_region_held_drew (S := fun _ => True) (by kernel_rfl) trivial (fun hHeld => ?_)
    refine wpAnyH_take (i := 0) (oi := _) (v := ?_) (by (simp only [List.getElem?_toArray]; rfl)) (by kernel_rfl) (by kernel_rfl) (by kernel_rfl) (by exact fun _ _ _ h => h) (Or.inl ⟨by rfl, ?_⟩) (by assumption) ?_
    rotate_left
    · intro wS hSw
      go_simp
      all_goals first | with_reducible rfl | rw [if_neg (by omega)]
    simp only [Act.put, List.setIfInBounds_toArray, List.set]
    refine wpAnyH_take (i := 1) (oi := _) (v := ?_) (by (simp only [List.getElem?_toArray]; rfl)) (by kernel_rfl) (by kernel_rfl) (by kernel_rfl) (by exact fun _ _ _ h => h) (Or.inl ⟨by rfl, ?_⟩) (by assumption) ?_
    rotate_left
    · intro wS hSw
      go_simp
      all_goals first | with_reducible rfl | rw [if_neg (by omega)]
    simp only [Act.put, List.setIfInBounds_toArray, List.set]
    refine wpAnyH_take (i := 2) (oi := _) (v := ?_) (by (simp only [List.getElem?_toArray]; rfl)) (by kernel_rfl) (by kernel_rfl) (by kernel_rfl) (by exact fun _ _ _ h => h) (Or.inl ⟨by rfl, ?_⟩) (by assumption) ?_
    rotate_left
    · intro wS hSw
      go_simp
      all_goals first | with_reducible rfl | rw [if_neg (by omega)]
    simp only [Act.put, List.setIfInBounds_toArray, List.set]
    refine wpAnyH_take (i := 3) (oi := _) (v := ?_) (by (simp only [List.getElem?_toArray]; rfl)) (by kernel_rfl) (by kernel_rfl) (by kernel_rfl) (by exact fun _ _ _ h => h) (Or.inl ⟨by rfl, ?_⟩) (by assumption) ?_
    rotate_left
    · intro wS hSw
      go_simp
      all_goals first | with_reducible rfl | rw [if_neg (by omega)]
    simp only [Act.put, List.setIfInBounds_toArray, List.set]
    refine wpAnyH_take (i := 4) (oi := _) (v := ?_) (by (simp only [List.getElem?_toArray]; rfl)) (by kernel_rfl) (by kernel_rfl) (by kernel_rfl) (by exact fun _ _ _ h => h) (Or.inl ⟨by rfl, ?_⟩) (by assumption) ?_
    rotate_left
    · intro wS hSw
      go_simp
      all_goals first | with_reducible rfl | rw [if_neg (by omega)]
    simp only [Act.put, List.setIfInBounds_toArray, List.set]
    refine wpAnyH_take (i := 5) (oi := _) (v := ?_) (by (simp only [List.getElem?_toArray]; rfl)) (by kernel_rfl) (by kernel_rfl) (by kernel_rfl) (by exact fun _ _ _ h => h) (Or.inl ⟨by rfl, ?_⟩) (by assumption) ?_
    rotate_left
    · intro wS hSw
      go_simp
      all_goals first | with_reducible rfl | rw [if_neg (by omega)]
    simp only [Act.put, List.setIfInBounds_toArray, List.set]
    refine wpAnyH_ready (rs := [6]) (by kernel_rfl) (by simp) ?_
    refine AllReadyH.cons (o := _) (by (simp only [List.getElem?_toArray]; rfl)) (fun K hK => ?_) AllReadyH.nil
    refine step_append_elt (by rfl) (.tmp 22) (.tmp 25) (by rfl) (n - 1) eltEnt (by rfl) (by rfl) (H.out.take five_len i).drew (ys := zs.drop (i + 1)) (by rw [List.drop_eq_nil_of_le (by omega)]; exact RowsAt.empty _ _ _ _) (by rw [List.length_take]; omega) (by rw [List.length_drop] <;> omega) (by omega) (by simp only [maxLen]; omega) (by omega) (Row.blk H.out (g := g) (by simp [rowBlk]) |> fun q => Nat.le_trans q.1 (Nat.le_of_lt q.2)) ?_
    intro a' c' w1 q1
    have hst := q1.stay (by rw [List.length_append, List.length_take, List.length_drop]; omega)
    obtain ⟨rfl, rfl⟩ := hst
    refine hK.out _ _ trivial (fun hHeld => ?_)
    clear hK K
    simp only [Act.put, List.setIfInBounds_toArray, List.set]
    refine wpAnyH_take (i := 7) (oi := _) (v := ?_) (by (simp only [List.getElem?_toArray]; rfl)) (by kernel_rfl) (by kernel_rfl) (by kernel_rfl) (by exact fun _ _ _ h => h) (Or.inl ⟨by rfl, ?_⟩) (by assumption) ?_
    rotate_left
    · intro wS hSw
      go_simp
      all_goals first | with_reducible rfl | rw [if_neg (by omega)]
    simp only [Act.put, List.setIfInBounds_toArray, List.set]
    refine wpAnyH_done (by kernel_rfl) ?_ _
    have er : zs.take i ++ zs.drop (i + 1) = zs.eraseIdx i := (List.eraseIdx_eq_take_drop_succ zs i).symm
    have R1 := q1.row
    rw [er] at R1
    have hle : (zs.eraseIdx i).length = n - 1 := by rw [List.length_eraseIdx]; simp [hn, hi]
    have R1' := Lib.hid R1
    have G1 := Lib.hid q1.grown
    have HLE := Lib.hid hle
    clear q1 R1 er hle
    have g1 : ((n - 1 : Nat) : Int) ≤ (n : Int) := by omega
    have g2 : (0 : Int) ≤ ((n - 1 : Nat) : Int) := by omega
    have g3 : (n : Int) ≤ ((i + 1 : Nat) : Int) := by omega
    have g4 : n - 1 ≤ n := by omega
    have g5 : n - (n - 1) = 1 := by omega
    have g6 : ¬ (i + 1 = n - 1) := by omega
    go_wp2_with (with_reducible refine wpList_clear_row (o := ⟨none, .call { callee := .builtin .clear, args := #[.tmp 31], argTypes := #[_] }, _, _, _, _⟩) rfl (.tmp 31) rfl eltEnt rfl R1'.out (Nat.le_of_eq HLE.out) (by omega) zoneEnt ?_)
    intro w2 r2 t2
    go_wp2_with fail
    go_ret
    exact ⟨rfl, r2, grownBy_trans ⟨G1.out.os, G1.out.tape, G1.out.output, G1.out.size, G1.out.block⟩ (by simpa [rowBlk, h6] using t2)⟩
end Go.Proofs.Ytofedboeggdkaaa
