/- Worlds: their keepers, what was said; a keeper of a world's own list stored anew; no condition. -/
import Derived.Test.YtgdhieffjflejaaRobX
import Derived.Test.YtgdhieffjflejaaRowSet
set_option linter.unusedSimpArgs false
set_option linter.unusedVariables false
namespace Go.Proofs.Ytgdhieffjflejaa
open Go.RowKit Go.Joins

/-- A world: who is bad, its keepers and what was said, as their lists stand. -/
structure Wd where
  bad : Int
  ra : Option Addr
  rc : Nat
  rp : List Rk
  sa : Option Addr
  sc : Nat
  sd : List Mg
def Wd.ok (W : Wd) (w : World) : Prop := IsSl w (.slice W.ra W.rp.length W.rc) 7 Rk.cs W.rp ∧ (∀ r ∈ W.rp, r.ok w) ∧ IsMs w (.slice W.sa W.sd.length W.sc) W.sd
/-- Four keepers that fit; at most a hundred letters. -/
structure Wd.fit (T D : Nat) (W : Wd) : Prop where
  four : W.rp.length = 4
  rp : ∀ r ∈ W.rp, r.fit T D
  sd : W.sd.length ≤ 100
  ms : MsFit W.sd
theorem Wd.fit.more {T D T' D' : Nat} {W : Wd} (h : W.fit T D) (hT : T ≤ T') (hD : D ≤ D') : W.fit T' D' := ⟨h.four, fun r hr => (h.rp r hr).more hT hD, h.sd, h.ms⟩
theorem Rk.ok.below {w w' : World} {r : Rk} (h : r.ok w) (k : Below w.heap.size w w') : r.ok w' := ⟨IsSl.below h.1 k, IsMs.below h.2.1 k, IsSl.below h.2.2 k⟩
theorem Wd.ok.below {w w' : World} {W : Wd} (h : W.ok w) (k : Below w.heap.size w w') : W.ok w' := ⟨IsSl.below h.1 k, fun r hr => Rk.ok.below (h.2.1 r hr) k, IsMs.below h.2.2 k⟩
theorem set_set {α : Type} (zs : List α) (i : Nat) (x y : α) : (zs.set i x).set i y = zs.set i y := by simp
theorem rk_get (r : Rk) (j : Nat) (v : Value) (h : r.cs[j]? = some v) : r.cs[j]? = some v := h
/-- A keeper of an own list stored anew, cell by cell. -/
theorem Row.setRk {w : World} {B : Nat} {e : TypeId} {a : Option Addr} {cap : Nat} {zs : List Rk} (h : Row w B e a cap 7 Rk.cs zs) {i g : Nat} (hi : i < zs.length) (r : Rk) (ha : a = some ⟨g, 0, none⟩) :
    Row (((((((w.setCell ⟨g, i * 7 + 0, none⟩ (.int .i64 r.me)).setCell ⟨g, i * 7 + 1, none⟩ (.int .i64 r.view)).setCell ⟨g, i * 7 + 2, none⟩ (.bool r.live)).setCell ⟨g, i * 7 + 3, none⟩ (.int .i64 r.nx)).setCell ⟨g, i * 7 + 4, none⟩ (.slice r.ta r.tk.length r.tc)).setCell ⟨g, i * 7 + 5, none⟩ (.slice r.ha r.hd.length r.hc)).setCell ⟨g, i * 7 + 6, none⟩ (.slice r.da r.dn.length r.dc)) B e a cap 7 Rk.cs (zs.set i r) := by
  generalize hz : zs[i] = z at *
  have st : ∀ {w : World} {x y : Rk} {j : Nat} {v : Value}, Row w B e a cap 7 Rk.cs (zs.set i x) → j < 7 → y.cs[j]? = some v → (∀ j', j' < 7 → j' ≠ j → y.cs[j']? = x.cs[j']?) → Row (w.setCell ⟨g, i * 7 + j, none⟩ v) B e a cap 7 Rk.cs (zs.set i y) := by
    intro w x y j v hw hj hv ho
    have := hw.setOne (fun z => rk_len z) (i := i) (j := j) (g := g) (by simpa using hi) hj y v hv (fun j' h1 h2 => by rw [ho j' h1 h2]; simp) ha
    simpa using this
  have h0 : Row w B e a cap 7 Rk.cs (zs.set i z) := by
    rw [← hz]
    simpa using h
  have ot : ∀ {x y : Rk} {j : Nat}, (y.cs[0]? = x.cs[0]? ∨ 0 = j) → (y.cs[1]? = x.cs[1]? ∨ 1 = j) → (y.cs[2]? = x.cs[2]? ∨ 2 = j) → (y.cs[3]? = x.cs[3]? ∨ 3 = j) → (y.cs[4]? = x.cs[4]? ∨ 4 = j) → (y.cs[5]? = x.cs[5]? ∨ 5 = j) → (y.cs[6]? = x.cs[6]? ∨ 6 = j) → ∀ j', j' < 7 → j' ≠ j → y.cs[j']? = x.cs[j']? := by
    intro x y j e0 e1 e2 e3 e4 e5 e6 j' h1 h2
    match j', h1 with
    | 0, _ => exact e0.elim id (fun e => absurd e h2)
    | 1, _ => exact e1.elim id (fun e => absurd e h2)
    | 2, _ => exact e2.elim id (fun e => absurd e h2)
    | 3, _ => exact e3.elim id (fun e => absurd e h2)
    | 4, _ => exact e4.elim id (fun e => absurd e h2)
    | 5, _ => exact e5.elim id (fun e => absurd e h2)
    | 6, _ => exact e6.elim id (fun e => absurd e h2)
  have h1 := st (y := ⟨r.me, z.view, z.live, z.nx, z.ta, z.tc, z.tk, z.ha, z.hc, z.hd, z.da, z.dc, z.dn⟩) (j := 0) (v := .int .i64 r.me) h0 (by decide) rfl (ot (.inr rfl) (.inl rfl) (.inl rfl) (.inl rfl) (.inl rfl) (.inl rfl) (.inl rfl))
  have h2 := st (y := ⟨r.me, r.view, z.live, z.nx, z.ta, z.tc, z.tk, z.ha, z.hc, z.hd, z.da, z.dc, z.dn⟩) (j := 1) (v := .int .i64 r.view) h1 (by decide) rfl (ot (.inl rfl) (.inr rfl) (.inl rfl) (.inl rfl) (.inl rfl) (.inl rfl) (.inl rfl))
  have h3 := st (y := ⟨r.me, r.view, r.live, z.nx, z.ta, z.tc, z.tk, z.ha, z.hc, z.hd, z.da, z.dc, z.dn⟩) (j := 2) (v := .bool r.live) h2 (by decide) rfl (ot (.inl rfl) (.inl rfl) (.inr rfl) (.inl rfl) (.inl rfl) (.inl rfl) (.inl rfl))
  have h4 := st (y := ⟨r.me, r.view, r.live, r.nx, z.ta, z.tc, z.tk, z.ha, z.hc, z.hd, z.da, z.dc, z.dn⟩) (j := 3) (v := .int .i64 r.nx) h3 (by decide) rfl (ot (.inl rfl) (.inl rfl) (.inl rfl) (.inr rfl) (.inl rfl) (.inl rfl) (.inl rfl))
  have h5 := st (y := ⟨r.me, r.view, r.live, r.nx, r.ta, r.tc, r.tk, z.ha, z.hc, z.hd, z.da, z.dc, z.dn⟩) (j := 4) (v := .slice r.ta r.tk.length r.tc) h4 (by decide) rfl (ot (.inl rfl) (.inl rfl) (.inl rfl) (.inl rfl) (.inr rfl) (.inl rfl) (.inl rfl))
  have h6 := st (y := ⟨r.me, r.view, r.live, r.nx, r.ta, r.tc, r.tk, r.ha, r.hc, r.hd, z.da, z.dc, z.dn⟩) (j := 5) (v := .slice r.ha r.hd.length r.hc) h5 (by decide) rfl (ot (.inl rfl) (.inl rfl) (.inl rfl) (.inl rfl) (.inl rfl) (.inr rfl) (.inl rfl))
  exact st (y := r) (j := 6) (v := .slice r.da r.dn.length r.dc) h6 (by decide) rfl (ot (.inl rfl) (.inl rfl) (.inl rfl) (.inl rfl) (.inl rfl) (.inl rfl) (.inr rfl))
end Go.Proofs.Ytgdhieffjflejaa
