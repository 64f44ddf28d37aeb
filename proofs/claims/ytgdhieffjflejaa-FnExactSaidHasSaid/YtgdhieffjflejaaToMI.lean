/- Letters copied (toMsg), the copy under a name of its own; condition: lists of at most 2^20. -/
import Derived.Test.YtgdhieffjflejaaToMS
set_option linter.unusedSimpArgs false
set_option linter.unusedVariables false
namespace Go.Proofs.Ytgdhieffjflejaa
open Go.RowKit Go.Joins

theorem Mg.at_is {w : World} {m : Mg} {g0 g1 : Nat} {ys : List Vx} (h0 : IsSl w (.slice (some ⟨g0, 0, none⟩) m.cl.length m.cl.length) 7 Cl.cs m.cl) (h1 : IsVs w (.slice (some ⟨g1, 0, none⟩) m.vs.length m.vs.length) ys) :
    IsMg w (.agg #[.int .i64 m.k, .int .i64 m.f, .int .i64 m.v, .int .i64 m.s, .int .i64 m.r.c, .int .i64 m.r.n, .int .i64 m.r.o, .int .i64 m.r.x, .int .i64 m.r.y, .slice (some ⟨g0, 0, none⟩) m.cl.length m.cl.length, .slice (some ⟨g1, 0, none⟩) m.vs.length m.vs.length]) (m.at g0 g1 ys) := ⟨rfl, h0, h1⟩
/-- The copy, under a name of its own. -/
theorem MsgGot.is {m : Mg} {w w' : World} {e : Ending} (h : MsgGot m w e w') : ∃ (g0 g1 : Nat) (m' : Mg), e = .returned (.agg #[.int .i64 m.k, .int .i64 m.f, .int .i64 m.v, .int .i64 m.s, .int .i64 m.r.c, .int .i64 m.r.n, .int .i64 m.r.o, .int .i64 m.r.x, .int .i64 m.r.y, .slice (some ⟨g0, 0, none⟩) m.cl.length m.cl.length, .slice (some ⟨g1, 0, none⟩) m.vs.length m.vs.length]) ∧
    IsMg w' (.agg #[.int .i64 m.k, .int .i64 m.f, .int .i64 m.v, .int .i64 m.s, .int .i64 m.r.c, .int .i64 m.r.n, .int .i64 m.r.o, .int .i64 m.r.x, .int .i64 m.r.y, .slice (some ⟨g0, 0, none⟩) m.cl.length m.cl.length, .slice (some ⟨g1, 0, none⟩) m.vs.length m.vs.length]) m' ∧ m'.say = m.say ∧ Below w.heap.size w w' := by
  obtain ⟨g0, g1, ys, he, h0, h1, hy, -, -, -, hk⟩ := h
  exact ⟨g0, g1, m.at g0 g1 ys, he, Mg.at_is h0 h1, Mg.at_say hy, hk⟩
theorem toMsg_is (va : Value) (m : Mg) (w : World) (ha : IsMg w va m) (hs : m.small) :
    Calls Try.prog 9 #[va] w fun e w' => ∃ (g0 g1 : Nat) (m' : Mg), e = .returned (.agg #[.int .i64 m.k, .int .i64 m.f, .int .i64 m.v, .int .i64 m.s, .int .i64 m.r.c, .int .i64 m.r.n, .int .i64 m.r.o, .int .i64 m.r.x, .int .i64 m.r.y, .slice (some ⟨g0, 0, none⟩) m.cl.length m.cl.length, .slice (some ⟨g1, 0, none⟩) m.vs.length m.vs.length]) ∧
    IsMg w' (.agg #[.int .i64 m.k, .int .i64 m.f, .int .i64 m.v, .int .i64 m.s, .int .i64 m.r.c, .int .i64 m.r.n, .int .i64 m.r.o, .int .i64 m.r.x, .int .i64 m.r.y, .slice (some ⟨g0, 0, none⟩) m.cl.length m.cl.length, .slice (some ⟨g1, 0, none⟩) m.vs.length m.vs.length]) m' ∧ m'.say = m.say ∧ Below w.heap.size w w' :=
  (toMsg_c va m w ha hs).mono fun _ _ h => h.is

/-- The copies of letters, under names of their own. -/
theorem toMsgS_is (v : Value) (xs : List Mg) (w : World) (h : IsMs w v xs) (hn : xs.length ≤ 1048576) (hc : ∀ m ∈ xs, m.small) :
    Calls Try.prog 14 #[v] w fun e w' => ∃ (g : Nat) (ys : List Mg), e = .returned (.slice (some ⟨g, 0, none⟩) xs.length xs.length) ∧ IsMs w' (.slice (some ⟨g, 0, none⟩) xs.length xs.length) ys ∧ ys.map Mg.say = xs.map Mg.say ∧ Below w.heap.size w w' :=
  (toMsgS_c v xs w h hn hc).mono fun _ _ ⟨ys, he, hs, hi, hk⟩ => ⟨_, ys, he, hi, hs, hk⟩
theorem hasM_map {xs ys : List Mg} {m n : Mg} (h : ys.map Mg.say = xs.map Mg.say) (hm : n.say = m.say) : hasM ys n = hasM xs m := by
  have e : ∀ (l : List Mg) (q : Mg), hasM l q = (l.map Mg.say).any fun x => decide (x = q.say) := fun l q => by
    unfold hasM
    rw [List.any_map]
    rfl
  rw [e, e, h, hm]
end Go.Proofs.Ytgdhieffjflejaa
