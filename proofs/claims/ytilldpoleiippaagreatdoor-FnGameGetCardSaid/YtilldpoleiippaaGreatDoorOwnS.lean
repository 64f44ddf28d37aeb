/- A cell of a game in rows of its own stored; what the program's act leaves; no condition. -/
import Derived.Test.YtilldpoleiippaaGreatDoorFigLaw
import Derived.Test.YtilldpoleiippaaGreatDoorMA
import Derived.Test.YtilldpoleiippaaGreatDoorDoLaw
import Derived.Test.YtilldpoleiippaaGreatDoorInsert
import Derived.Test.YtilldpoleiippaaGreatDoorGameOk
set_option linter.unusedSimpArgs false
set_option linter.unusedVariables false
namespace Go.Proofs.YtilldpoleiippaaGreatDoor
open Go.RowKit Go.Joins

section
variable {w w' : World} {B : Nat} {a0 a1 a2 : Option Addr} {c0 c1 c2 : Nat} {z : Gm}
theorem Own3.cellE {g i j : Nat} (h : Own3 w B (some ⟨g, 0, none⟩) c0 a1 c1 a2 c2 z) (hi : i < z.es.length) (hj : j < 5) (z' : Rq) (v : Value) (hv : (Rq.cs z')[j]? = some v) (ho : ∀ j', j' < 5 → j' ≠ j → (Rq.cs z')[j']? = (Rq.cs z.es[i])[j']?) :
    Own3 (w.setCell ⟨g, i * 5 + j, none⟩ v) B (some ⟨g, 0, none⟩) c0 a1 c1 a2 c2 ⟨z.es.set i z', z.fl, z.la⟩ := by
  have hr : rowBlk (some ⟨g, 0, none⟩) c0 = some g := by have := h.e.len; simp [rowBlk]; omega
  exact ⟨h.e.setOne five_len hi hj z' v hv ho rfl, h.f.setNe (fun g' hg' e => h.ef g hr (by rw [hg']; exact congrArg some e)) v, h.l.setNe (fun g' hg' e => h.el g hr (by rw [hg']; exact congrArg some e)) v, h.ef, h.el, h.fl⟩
theorem Own3.cellF {f i : Nat} (h : Own3 w B a0 c0 (some ⟨f, 0, none⟩) c1 a2 c2 z) (hi : i < z.fl.length) (x : Int) :
    Own3 (w.setCell ⟨f, i, none⟩ (.int .i64 x)) B a0 c0 (some ⟨f, 0, none⟩) c1 a2 c2 ⟨z.es, z.fl.set i x, z.la⟩ := by
  have hr : rowBlk (some ⟨f, 0, none⟩) c1 = some f := by have := h.f.len; simp [rowBlk]; omega
  exact ⟨h.e.setNe (fun g' hg' e => h.ef g' hg' (by rw [hr]; exact congrArg some e.symm)) _, h.f.setInt hi x, h.l.setNe (fun g' hg' e => h.fl f hr (by rw [hg']; exact congrArg some e)) _, h.ef, h.el, h.fl⟩
theorem Own3.cellL {f i : Nat} (h : Own3 w B a0 c0 a1 c1 (some ⟨f, 0, none⟩) c2 z) (hi : i < z.la.length) (x : Int) :
    Own3 (w.setCell ⟨f, i, none⟩ (.int .i64 x)) B a0 c0 a1 c1 (some ⟨f, 0, none⟩) c2 ⟨z.es, z.fl, z.la.set i x⟩ := by
  have hr : rowBlk (some ⟨f, 0, none⟩) c2 = some f := by have := h.l.len; simp [rowBlk]; omega
  exact ⟨h.e.setNe (fun g' hg' e => h.el g' hg' (by rw [hr]; exact congrArg some e.symm)) _, h.f.setNe (fun g' hg' e => h.fl g' hg' (by rw [hr]; exact congrArg some e.symm)) _, h.l.setInt hi x, h.ef, h.el, h.fl⟩
/-- A row's figures turned in their block, the others as they were. -/
theorem Own3.grownE {es : List Rq} (h : Own3 w B a0 c0 a1 c1 a2 c2 z) (r : Row w' B 44 a0 c0 5 Rq.cs es) (k : w.grownBy w' (rowBlk a0 c0)) : Own3 w' B a0 c0 a1 c1 a2 c2 ⟨es, z.fl, z.la⟩ :=
  ⟨r, h.f.kept k (fun g hg e => h.ef g e hg), h.l.kept k (fun g hg e => h.el g e hg), h.ef, h.el, h.fl⟩
end
/-- What the program's act leaves: the game behind the pointer turned, its lists without room, below D nothing. -/
def ActOut (D B P c1 c2 : Nat) (z : Gm) (code : Int) (w : World) (e : Ending) (w' : World) : Prop :=
  e = .returned (.int .i64 code) ∧ (∃ a0 a1 a2, w'.heap[P]? = some (.cells #[.slice a0 z.es.length z.es.length, .slice a1 z.fl.length c1, .slice a2 z.la.length c2] 27 (0, 0)) ∧ Own3 w' B a0 z.es.length a1 c1 a2 c2 z) ∧ Below D w w'
theorem actOut {D B P n0 n1 n2 c1 c2 : Nat} {z : Gm} {code : Int} {w w' : World} {a0 a1 a2 : Option Addr} (h : w'.heap[P]? = some (.cells #[.slice a0 n0 n0, .slice a1 n1 c1, .slice a2 n2 c2] 27 (0, 0))) (o : Own3 w' B a0 n0 a1 c1 a2 c2 z) (k : Below D w w')
    (h0 : z.es.length = n0) (h1 : z.fl.length = n1) (h2 : z.la.length = n2) : ActOut D B P c1 c2 z code w (.returned (.int .i64 code)) w' := by
  subst h0 h1 h2
  exact ⟨rfl, ⟨a0, a1, a2, h, o⟩, k⟩
/-- A game and a number, the lists without room. -/
def RetGF (B : Nat) (z : Gm) (c : Int) (w : World) (e : Ending) (w' : World) : Prop :=
  ∃ b0 b1 b2, e = .returned (.tuple #[.agg #[.slice b0 z.es.length z.es.length, .slice b1 z.fl.length z.fl.length, .slice b2 z.la.length z.la.length], .int .i64 c]) ∧ Own3 w' B b0 z.es.length b1 z.fl.length b2 z.la.length z ∧ Below w.heap.size w w'
theorem retGF {B n0 n1 n2 : Nat} {z : Gm} {c : Int} {w w' : World} {b0 b1 b2 : Option Addr} (o : Own3 w' B b0 n0 b1 n1 b2 n2 z) (h0 : z.es.length = n0) (h1 : z.fl.length = n1) (h2 : z.la.length = n2) (k : Below w.heap.size w w') :
    RetGF B z c w (.returned (.tuple #[.agg #[.slice b0 n0 n0, .slice b1 n1 n1, .slice b2 n2 n2], .int .i64 c])) w' := by
  subst h0 h1 h2
  exact ⟨b0, b1, b2, rfl, o, k⟩
end Go.Proofs.YtilldpoleiippaaGreatDoor
