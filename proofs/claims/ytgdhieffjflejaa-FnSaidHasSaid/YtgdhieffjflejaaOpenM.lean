/- Letters that came in, opened: their claims, their votes with the claims of each; no condition. -/
import Derived.Test.YtgdhieffjflejaaClaim
import Derived.Test.YtgdhieffjflejaaSl
set_option linter.unusedSimpArgs false
set_option linter.unusedVariables false
namespace Go.Proofs.Ytgdhieffjflejaa
open Go.WideShapes Go.ChangeAt Go.RowKit Go.Deep Go.Joins

/-- A vote: who, the slice of its claims as it stands, the claims. -/
structure Vx where
  f : Int
  sl : Value
  cl : List Cl
def Vx.cs (z : Vx) : List Value := [.int .i64 z.f, z.sl]
theorem two_len (z : Vx) : z.cs.length = 2 := rfl
/-- A letter: four numbers, an ask, the slices of its claims and votes as they stand, the claims, the votes. -/
structure Mg where
  k : Int
  f : Int
  v : Int
  s : Int
  r : Rq
  vc : Value
  vv : Value
  cl : List Cl
  vs : List Vx
def Mg.cs (m : Mg) : List Value := [.int .i64 m.k, .int .i64 m.f, .int .i64 m.v, .int .i64 m.s, .int .i64 m.r.c, .int .i64 m.r.n, .int .i64 m.r.o, .int .i64 m.r.x, .int .i64 m.r.y, m.vc, m.vv]
/-- Votes that lie in a world. -/
def IsVs (w : World) (v : Value) (zs : List Vx) : Prop := IsSl w v 2 Vx.cs zs ∧ ∀ z ∈ zs, IsSl w z.sl 7 Cl.cs z.cl
/-- A letter's lists lie in a world. -/
def Mg.ok (w : World) (m : Mg) : Prop := IsSl w m.vc 7 Cl.cs m.cl ∧ IsVs w m.vv m.vs
def IsMg (w : World) (v : Value) (m : Mg) : Prop := v = .agg m.cs.toArray ∧ m.ok w
theorem IsVs.below {w w' : World} {v : Value} {zs : List Vx} (h : IsVs w v zs) (b : Below w.heap.size w w') : IsVs w' v zs := ⟨h.1.below b, fun z hz => (h.2 z hz).below b⟩
theorem Mg.ok.below {w w' : World} {m : Mg} (h : m.ok w) (b : Below w.heap.size w w') : m.ok w' := ⟨IsSl.below h.1 b, IsVs.below h.2 b⟩
theorem isSl_map {α β : Type} {w : World} {v : Value} {k : Nat} {R : β → List Value} (f : α → β) {zs : List α} (h : IsSl w v k (fun z => R (f z)) zs) : IsSl w v k R (zs.map f) := by
  obtain ⟨a, cap, rfl, h1, h2, h3⟩ := h
  refine ⟨a, cap, by simp, by simpa using h1, h2, fun i hi => ?_⟩
  obtain ⟨b, off, rfl, hb, hc⟩ := h3 i (by simpa using hi)
  exact ⟨b, off, rfl, hb, fun j hj => by simpa using hc j hj⟩

section
variable {H : Type} {P : Program} {enc : TypeId × Value → H} {w : World} {base b0 : Nat} {spare : Nat → Bool} {held : Bool} {r : Reach} {v : Value} {d : DataW H} {p : List MemPlace}

/-- A slice that came in, opened; each element brings a fact. -/
theorem open_rowsQ {α : Type} {Q : α → Prop} {t e : TypeId} {R : α → List Value} {k fuel : Nat} {c : Value} {x : DataW H × List MemPlace} (ht : P.underlying t = some (.slice e)) (hC : P.cellsOf e = k) (hk : 0 < k)
    (hel : ∀ n cs y, DataW.trod enc P w base spare held n e cs = some y → ∃ z : α, cs = R z ∧ Q z) (h : DataW.trod enc P w base spare held fuel t [c] = some x) : ∃ zs : List α, IsSl w c k R zs ∧ ∀ z ∈ zs, Q z := by
  obtain ⟨zs, hz⟩ := open_rows (α := {z : α // Q z}) (R := fun z => R z.1) ht hC hk (fun n cs y hy => by
    obtain ⟨z, h1, h2⟩ := hel n cs y hy
    exact ⟨⟨z, h2⟩, h1⟩) h
  refine ⟨zs.map Subtype.val, isSl_map _ hz, fun z hz => ?_⟩
  obtain ⟨y, -, rfl⟩ := List.mem_map.1 hz
  exact y.2

theorem claim_el {t : TypeId} {cs : List Value} {fuel : Nat} {x : DataW H × List MemPlace} {f0 f1 f2 : Field} (hs : P.underlying t = some (.struct #[f0, f1, f2])) (o0 : f0.offset = 0) (k0 : P.cellsOf f0.type = 1) (o1 : f1.offset = 1) (k1 : P.cellsOf f1.type = 1) (o2 : f2.offset = 2) (k2 : P.cellsOf f2.type = 5)
    (e0 : P.underlying f0.type = some (.int .i64)) (e1 : P.underlying f1.type = some (.int .i64)) (h5 : ∀ n l y, DataW.trod enc P w base spare held n f2.type l = some y → ∃ z : Rq, l = z.cs) (hC : P.cellsOf t = 7) (h : DataW.trod enc P w base spare held fuel t cs = some x) : ∃ z : Cl, cs = z.cs := by
  obtain ⟨xs, n, _, _, hlc, hlen, hg⟩ := DataW.trod_struct hs h
  rw [hC] at hlc
  match cs, hlc with
  | [c0, c1, c2, c3, c4, c5, c6], _ =>
    match xs, hlen with
    | [y0, y1, y2], _ =>
      have g0 := hg 0 f0 rfl
      have g1 := hg 1 f1 rfl
      have g2 := hg 2 f2 rfl
      rw [o0, k0] at g0
      rw [o1, k1] at g1
      rw [o2, k2] at g2
      obtain ⟨z, hz⟩ := h5 _ _ _ g2
      obtain ⟨a, q, _, _⟩ := DataW.trod_int e0 g0
      obtain ⟨b, q', _, _⟩ := DataW.trod_int e1 g1
      simp at q q'
      simp [Rq.cs] at hz
      obtain ⟨rfl, rfl, rfl, rfl, rfl⟩ := hz
      subst q q'
      exact ⟨⟨a, b, z⟩, rfl⟩

theorem vote_el {t : TypeId} {cs : List Value} {fuel : Nat} {x : DataW H × List MemPlace} {f0 f1 : Field} (hs : P.underlying t = some (.struct #[f0, f1])) (o0 : f0.offset = 0) (k0 : P.cellsOf f0.type = 1) (o1 : f1.offset = 1) (k1 : P.cellsOf f1.type = 1)
    (e0 : P.underlying f0.type = some (.int .i64)) (h1 : ∀ n c y, DataW.trod enc P w base spare held n f1.type [c] = some y → ∃ zs : List Cl, IsSl w c 7 Cl.cs zs) (hC : P.cellsOf t = 2) (h : DataW.trod enc P w base spare held fuel t cs = some x) : ∃ z : Vx, cs = z.cs ∧ IsSl w z.sl 7 Cl.cs z.cl := by
  obtain ⟨xs, n, _, _, hlc, hlen, hg⟩ := DataW.trod_struct hs h
  rw [hC] at hlc
  match cs, hlc with
  | [c0, c1], _ =>
    match xs, hlen with
    | [y0, y1], _ =>
      have g0 := hg 0 f0 rfl
      have g1 := hg 1 f1 rfl
      rw [o0, k0] at g0
      rw [o1, k1] at g1
      obtain ⟨a, q, _, _⟩ := DataW.trod_int e0 g0
      obtain ⟨zs, hz⟩ := h1 n c1 _ (by simpa using g1)
      simp at q
      subst q
      exact ⟨⟨a, c1, zs⟩, rfl, hz⟩

theorem msg_el {t : TypeId} {cs : List Value} {fuel : Nat} {x : DataW H × List MemPlace} {f0 f1 f2 f3 f4 f5 f6 : Field} (hs : P.underlying t = some (.struct #[f0, f1, f2, f3, f4, f5, f6]))
    (o0 : f0.offset = 0 ∧ P.cellsOf f0.type = 1) (o1 : f1.offset = 1 ∧ P.cellsOf f1.type = 1) (o2 : f2.offset = 2 ∧ P.cellsOf f2.type = 1) (o3 : f3.offset = 3 ∧ P.cellsOf f3.type = 1) (o4 : f4.offset = 4 ∧ P.cellsOf f4.type = 5) (o5 : f5.offset = 9 ∧ P.cellsOf f5.type = 1) (o6 : f6.offset = 10 ∧ P.cellsOf f6.type = 1)
    (e0 : P.underlying f0.type = some (.int .i64)) (e1 : P.underlying f1.type = some (.int .i64)) (e2 : P.underlying f2.type = some (.int .i64)) (e3 : P.underlying f3.type = some (.int .i64))
    (h4 : ∀ n l y, DataW.trod enc P w base spare held n f4.type l = some y → ∃ z : Rq, l = z.cs)
    (h5 : ∀ n c y, DataW.trod enc P w base spare held n f5.type [c] = some y → ∃ zs : List Cl, IsSl w c 7 Cl.cs zs) (h6 : ∀ n c y, DataW.trod enc P w base spare held n f6.type [c] = some y → ∃ zs : List Vx, IsVs w c zs)
    (hC : P.cellsOf t = 11) (h : DataW.trod enc P w base spare held fuel t cs = some x) : ∃ m : Mg, cs = m.cs ∧ m.ok w := by
  obtain ⟨xs, n, _, _, hlc, hlen, hg⟩ := DataW.trod_struct hs h
  rw [hC] at hlc
  match cs, hlc with
  | [c0, c1, c2, c3, c4, c5, c6, c7, c8, c9, c10], _ =>
    match xs, hlen with
    | [y0, y1, y2, y3, y4, y5, y6], _ =>
      have g0 := hg 0 f0 rfl
      have g1 := hg 1 f1 rfl
      have g2 := hg 2 f2 rfl
      have g3 := hg 3 f3 rfl
      have g4 := hg 4 f4 rfl
      have g5 := hg 5 f5 rfl
      have g6 := hg 6 f6 rfl
      rw [o0.1, o0.2] at g0
      rw [o1.1, o1.2] at g1
      rw [o2.1, o2.2] at g2
      rw [o3.1, o3.2] at g3
      rw [o4.1, o4.2] at g4
      rw [o5.1, o5.2] at g5
      rw [o6.1, o6.2] at g6
      obtain ⟨z, hz⟩ := h4 _ _ _ g4
      obtain ⟨a0, q0, _, _⟩ := DataW.trod_int e0 g0
      obtain ⟨a1, q1, _, _⟩ := DataW.trod_int e1 g1
      obtain ⟨a2, q2, _, _⟩ := DataW.trod_int e2 g2
      obtain ⟨a3, q3, _, _⟩ := DataW.trod_int e3 g3
      obtain ⟨zc, hzc⟩ := h5 n c9 _ (by simpa using g5)
      obtain ⟨zv, hzv⟩ := h6 n c10 _ (by simpa using g6)
      simp at q0 q1 q2 q3
      simp [Rq.cs] at hz
      obtain ⟨rfl, rfl, rfl, rfl, rfl⟩ := hz
      subst q0 q1 q2 q3
      exact ⟨⟨a0, a1, a2, a3, z, c9, c10, zc, zv⟩, rfl, hzc, hzv⟩
end

section
variable {H : Type} {enc : TypeId × Value → H} {w : World} {base b0 : Nat} {spare : Nat → Bool} {held : Bool} {r : Reach} {v : Value} {d : DataW H} {p : List MemPlace}
set_option maxRecDepth 100000 in
theorem open_claims {fuel : Nat} {c : Value} {x : DataW H × List MemPlace} (h : DataW.trod enc Try.prog w base spare held fuel 24 [c] = some x) : ∃ zs : List Cl, IsSl w c 7 Cl.cs zs :=
  open_rows (R := Cl.cs) (k := 7) Try.underlying24 (by kernel_rfl) (by decide)
    (fun n cs y hy => claim_el Try.underlying89 rfl (by kernel_rfl) rfl (by kernel_rfl) rfl (by kernel_rfl) Try.underlying3 Try.underlying3
      (fun n l y hl => five_ints Try.underlying23 (by kernel_rfl) (by kernel_rfl) (by kernel_rfl) (by kernel_rfl) (by kernel_rfl) (by kernel_rfl) (by kernel_rfl) hl) (by kernel_rfl) hy) h
set_option maxRecDepth 100000 in
theorem open_votes {fuel : Nat} {c : Value} {x : DataW H × List MemPlace} (h : DataW.trod enc Try.prog w base spare held fuel 25 [c] = some x) : ∃ zs : List Vx, IsVs w c zs :=
  open_rowsQ (R := Vx.cs) (k := 2) Try.underlying25 (by kernel_rfl) (by decide)
    (fun n cs y hy => vote_el Try.underlying86 rfl (by kernel_rfl) rfl (by kernel_rfl) Try.underlying3 (fun n c y hl => open_claims hl) (by kernel_rfl) hy) h
set_option maxRecDepth 100000 in
theorem open_msg_el {fuel : Nat} {cs : List Value} {x : DataW H × List MemPlace} (h : DataW.trod enc Try.prog w base spare held fuel 27 cs = some x) : ∃ m : Mg, cs = m.cs ∧ m.ok w :=
  msg_el Try.underlying27 ⟨rfl, by kernel_rfl⟩ ⟨rfl, by kernel_rfl⟩ ⟨rfl, by kernel_rfl⟩ ⟨rfl, by kernel_rfl⟩ ⟨rfl, by kernel_rfl⟩ ⟨rfl, by kernel_rfl⟩ ⟨rfl, by kernel_rfl⟩
    Try.underlying3 Try.underlying3 Try.underlying3 Try.underlying3
    (fun n l y hl => five_ints Try.underlying23 (by kernel_rfl) (by kernel_rfl) (by kernel_rfl) (by kernel_rfl) (by kernel_rfl) (by kernel_rfl) (by kernel_rfl) hl)
    (fun n c y hl => open_claims hl) (fun n c y hl => open_votes hl) (by kernel_rfl) h
set_option maxRecDepth 100000 in
theorem open_Msg (hv : Value.okWide Try.prog w r b0 27 v) (h : DataW.Trod enc Try.prog w base spare held 27 v d p) : ∃ m : Mg, IsMg w v m := by
  obtain ⟨cs, rfl, -⟩ := okWide_struct Try.underlying27 hv
  obtain ⟨fuel, hf⟩ := h
  obtain ⟨m, hm, ho⟩ := open_msg_el (by simpa [Value.cells] using hf)
  exact ⟨m, by rw [← hm], ho⟩
set_option maxRecDepth 100000 in
theorem open_SMsg (hv : Value.okWide Try.prog w r b0 37 v) (h : DataW.Trod enc Try.prog w base spare held 37 v d p) : ∃ ms : List Mg, IsSl w v 11 Mg.cs ms ∧ ∀ m ∈ ms, m.ok w := by
  obtain ⟨a, len, cap, rfl⟩ := okWide_slice Try.underlying37 hv
  obtain ⟨fuel, hf⟩ := h
  exact open_rowsQ (R := Mg.cs) (k := 11) Try.underlying37 (by kernel_rfl) (by decide) (fun n cs y hy => open_msg_el hy) (by simpa [Value.cells] using hf)
end
end Go.Proofs.Ytgdhieffjflejaa
