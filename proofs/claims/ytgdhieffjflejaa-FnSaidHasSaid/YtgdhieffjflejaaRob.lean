/- What holds whatever happens to other blocks; keepers with lists; rows of claims, votes, letters, keepers; no condition. -/
import Derived.Test.YtgdhieffjflejaaRowM
import Derived.Test.YtgdhieffjflejaaL4E
import Derived.Test.YtgdhieffjflejaaToVS
set_option linter.unusedSimpArgs false
set_option linter.unusedVariables false
namespace Go.Proofs.Ytgdhieffjflejaa
open Go.RowKit Go.Joins

/-- Worlds that agree on all blocks that were there, but those of X. -/
def Agree (X : Nat → Prop) (w V : World) : Prop := w.heap.size ≤ V.heap.size ∧ ∀ b, b < w.heap.size → ¬ X b → V.heap[b]? = w.heap[b]?
/-- What holds in each world that agrees with this one. -/
def Rob (X : Nat → Prop) (F : World → Prop) (w : World) : Prop := ∀ V, Agree X w V → F V
/-- The blocks below B. -/
def Lo (B : Nat) (b : Nat) : Prop := b < B
/-- The blocks below B, and a row's own. -/
def Ow (B : Nat) (a : Option Addr) (cap : Nat) (b : Nat) : Prop := b < B ∨ rowBlk a cap = some b
section
variable {X X' : Nat → Prop} {F G : World → Prop} {w w' V : World} {B : Nat}
theorem Agree.refl (w : World) : Agree X w w := ⟨Nat.le_refl _, fun _ _ _ => rfl⟩
theorem Agree.trans {a b c : World} (h : Agree X a b) (k : Agree X b c) : Agree X a c :=
  ⟨Nat.le_trans h.1 k.1, fun i hi hx => (k.2 i (Nat.lt_of_lt_of_le hi h.1) hx).trans (h.2 i hi hx)⟩
theorem Agree.below (h : Below w.heap.size w V) : Agree X w V := ⟨h.size, fun b hb _ => h.block b hb⟩
theorem Agree.grown {g : Nat} (h : w.grownBy V (some g)) (hg : X g) : Agree X w V := ⟨h.size, fun b hb hx => h.block b hb (fun e => hx (by injection e with e; rw [e]; exact hg))⟩
theorem Agree.set {p : Addr} (hp : X p.block) (u : Value) : Agree X w (w.setCell p u) :=
  ⟨by simp, fun b _ hx => Below.heap_setCell w p u b (by rintro rfl; exact hx hp)⟩
theorem Agree.drew : Agree X w w.drew := ⟨Nat.le_refl _, fun _ _ _ => rfl⟩
theorem Rob.out (h : Rob X F w) : F w := h w (Agree.refl w)
theorem Rob.next (h : Rob X F w) (k : Agree X w w') : Rob X F w' := fun V hV => h V (k.trans hV)
theorem Rob.below (h : Rob X F w) (k : Below w.heap.size w w') : Rob X F w' := h.next (Agree.below k)
theorem Rob.weak (h : Rob X F w) (hX : ∀ b, X' b → X b) : Rob X' F w := fun V hV => h V ⟨hV.1, fun b hb hx => hV.2 b hb fun hx' => hx (hX b hx')⟩
theorem Rob.low {B' : Nat} (h : Rob (Lo B) F w) (hB : B' ≤ B) : Rob (Lo B') F w := h.weak fun _ hb => Nat.lt_of_lt_of_le hb hB
theorem Rob.imp (h : Rob X F w) (hi : ∀ V, F V → G V) : Rob X G w := fun V hV => hi V (h V hV)
theorem Rob.and (h : Rob X F w) (k : Rob X G w) : Rob X (fun V => F V ∧ G V) w := fun V hV => ⟨h V hV, k V hV⟩
theorem Rob.mk (h : ∀ V, Agree X w V → F V) : Rob X F w := h
theorem Rob.set (h : Rob (Lo B) F w) {p : Addr} (hp : p.block < B) (u : Value) : Rob (Lo B) F (w.setCell p u) := h.next (Agree.set hp u)
theorem Rob.all {α : Type} {l : List α} {P : World → α → Prop} (h : ∀ z ∈ l, Rob X (fun V => P V z) w) : Rob X (fun V => ∀ z ∈ l, P V z) w := fun V hV z hz => h z hz V hV
/-- What held at the start holds behind whatever leaves the start's blocks as they were. -/
theorem Rob.later {F : World → Prop} (h : Rob (Lo B) F w) (k : Below w.heap.size w w') : Rob (Lo B) F w' := h.below k
end
section
variable {α : Type} {w w' : World} {B e k cap cap' : Nat} {a a' : Option Addr} {R : α → List Value} {zs : List α} {F : World → Prop}
theorem Row.agree {X : Nat → Prop} {V : World} (h : Row w B e a cap k R zs) (hV : Agree X w V) (hX : ∀ g, rowBlk a cap = some g → ¬ X g) : Row V B e a cap k R zs :=
  ⟨h.len, h.max, fun hp => by
    obtain ⟨g, cur, rfl, h2, h3, h4⟩ := h.own hp
    exact ⟨g, cur, rfl, h2, (hV.2 g (lt_of_block h3) (hX g (by simp [rowBlk]; omega))).trans h3, h4⟩⟩
theorem Row.rob (h : Row w B e a cap k R zs) (hR : ∀ z, (R z).length = k) : Rob (Lo B) (fun V => IsSl V (.slice a zs.length cap) k R zs) w :=
  fun _ hV => (h.agree hV fun g hg hx => by
    have h1 : g < B := hx
    have := (h.blk hg).1
    omega).sl hR
theorem Rob.appended (h : Rob (Ow B a cap) F w) (q : Appended w w' B e a a' cap cap' k R zs) : Rob (Ow B a' cap') F w' := fun V hV => h V ⟨Nat.le_trans q.grown.size hV.1, fun b hb hx => by
  have hb' : b < w'.heap.size := Nat.lt_of_lt_of_le hb q.grown.size
  have h1 : V.heap[b]? = w'.heap[b]? := hV.2 b hb' fun hx' => by
    rcases hx' with h' | h'
    · exact hx (.inl h')
    · rcases q.blk with e' | e'
      · exact hx (.inr (by rw [← e']; exact h'))
      · rw [h'] at e'
        injection e' with e'
        omega
  exact h1.trans (q.grown.block b hb fun e' => hx (.inr e'.symm))⟩
theorem Rob.newrow {B2 : Nat} (h : Rob (Lo B) F w) (q : NewRow w w' B2 e a' cap' k R zs) : Rob (Ow B a' cap') F w' := fun V hV => h V ⟨Nat.le_trans q.below.size hV.1, fun b hb hx => by
  have hb' : b < w'.heap.size := Nat.lt_of_lt_of_le hb q.below.size
  have h1 : V.heap[b]? = w'.heap[b]? := hV.2 b hb' fun hx' => by
    rcases hx' with h' | h'
    · exact hx h'
    · have := q.blk b h'
      omega
  exact h1.trans (q.below.block b hb)⟩
/-- A list that lies in blocks of its own leaves a row's block be. -/
theorem Rob.ow {B2 : Nat} (h : Rob (Lo B2) F w) (hB : B ≤ B2) (hr : ∀ g, rowBlk a cap = some g → g < B2) : Rob (Ow B a cap) F w := h.weak fun b hb => by
  rcases hb with hb | hb
  · exact Nat.lt_of_lt_of_le hb hB
  · exact hr b hb
theorem Rob.ow0 (h : Rob (Lo B) F w) : Rob (Ow B a 0) F w := h.weak fun b hb => by
  rcases hb with hb | hb
  · exact hb
  · simp [rowBlk] at hb
theorem Rob.unow (h : Rob (Ow B a cap) F w) : Rob (Lo B) F w := h.weak fun _ hb => .inl hb
theorem Rob.unown (h : Rob (Ow B a cap) F w) {B' : Nat} (hB : B' ≤ B) : Rob (Lo B') F w := h.weak fun _ hb => .inl (Nat.lt_of_lt_of_le hb hB)
theorem Rob.setLow (h : Rob (Ow B a cap) F w) {p : Addr} (hp : p.block < B) (u : Value) : Rob (Ow B a cap) F (w.setCell p u) := h.next (Agree.set (.inl hp) u)
end

theorem say_take {α β : Type} {f : α → β} {ys vs : List α} {k : Nat} (h : ys.map f = (vs.map f).take k) (hk : k < vs.length) {z : α} (hz : f z = f (vs[k]'hk)) : (ys ++ [z]).map f = (vs.map f).take (k + 1) := by
  rw [List.map_append, h, List.take_add_one, List.getElem?_map, List.getElem?_eq_getElem hk]
  simp [hz]

/-! Rows of claims, votes, letters. -/
theorem cl_one : ∀ z : Cl, ∀ u ∈ z.cs, u.oneCell' = true := by
  intro z u hu
  simp [Cl.cs] at hu
  rcases hu with rfl | rfl | rfl | rfl | rfl | rfl | rfl <;> rfl
set_option maxRecDepth 100000 in
theorem elmCl : Elm Try.prog 31 62 7 56 Cl.cs := by
  obtain ⟨i, h1, h2, h3, h4⟩ := info_parts infoClaim
  exact ⟨Try.underlying31, ⟨i, _, h1, h2, h3, h4, rfl⟩, by decide, fun _ => rfl⟩
theorem vx_one {w : World} {z : Vx} (h : IsSl w z.sl 7 Cl.cs z.cl) : ∀ u ∈ z.cs, u.oneCell' = true := by
  intro u hu
  obtain ⟨a, c, e, -⟩ := h
  simp [Vx.cs, e] at hu
  rcases hu with rfl | rfl <;> rfl
set_option maxRecDepth 100000 in
theorem elmVx : Elm Try.prog 32 65 2 32 Vx.cs := by
  obtain ⟨i, h1, h2, h3, h4⟩ := info_parts (P := Try.prog) (e := 65) (z := .agg #[.int .i64 0, .slice none 0 0]) (size := 2) (bytes := 32) (by kernel_rfl)
  exact ⟨Try.underlying32, ⟨i, _, h1, h2, h3, h4, rfl⟩, by decide, fun _ => rfl⟩
theorem mg_one {w : World} {m : Mg} (h : m.ok w) : ∀ u ∈ m.cs, u.oneCell' = true := by
  intro u hu
  obtain ⟨⟨a, c, e, -⟩, ⟨a', c', e', -⟩, -⟩ := h
  simp [Mg.cs, e, e'] at hu
  rcases hu with rfl | rfl | rfl | rfl | rfl | rfl | rfl | rfl | rfl | rfl | rfl <;> rfl
set_option maxRecDepth 100000 in
theorem elmMg : Elm Try.prog 40 34 11 120 Mg.cs := by
  obtain ⟨i, h1, h2, h3, h4⟩ := info_parts (P := Try.prog) (e := 34) (z := .agg #[.int .i64 0, .int .i64 0, .int .i64 0, .int .i64 0, .int .i64 0, .int .i64 0, .int .i64 0, .int .i64 0, .int .i64 0, .slice none 0 0, .slice none 0 0]) (size := 11) (bytes := 120) (by kernel_rfl)
  exact ⟨Try.underlying40, ⟨i, _, h1, h2, h3, h4, rfl⟩, by decide, fun _ => rfl⟩

/-! Keepers. -/
/-- A keeper: what it is, and its lists as they stand. -/
structure Rk where
  me : Int
  view : Int
  live : Bool
  nx : Int
  ta : Option Addr
  tc : Nat
  tk : List Cl
  ha : Option Addr
  hc : Nat
  hd : List Mg
  da : Option Addr
  dc : Nat
  dn : List Cl
def Rk.cs (r : Rk) : List Value := [.int .i64 r.me, .int .i64 r.view, .bool r.live, .int .i64 r.nx, .slice r.ta r.tk.length r.tc, .slice r.ha r.hd.length r.hc, .slice r.da r.dn.length r.dc]
theorem rk_len (r : Rk) : r.cs.length = 7 := rfl
theorem rk_one (r : Rk) : ∀ u ∈ r.cs, u.oneCell' = true := by
  intro u hu
  simp [Rk.cs] at hu
  rcases hu with rfl | rfl | rfl | rfl | rfl | rfl | rfl <;> rfl
def Rk.ok (r : Rk) (w : World) : Prop := IsSl w (.slice r.ta r.tk.length r.tc) 7 Cl.cs r.tk ∧ IsMs w (.slice r.ha r.hd.length r.hc) r.hd ∧ IsSl w (.slice r.da r.dn.length r.dc) 7 Cl.cs r.dn
/-- One of the four; its lists are no longer than that. -/
structure Rk.fit (T D : Nat) (r : Rk) : Prop where
  me0 : 0 ≤ r.me
  me3 : r.me ≤ 3
  tk : r.tk.length ≤ T
  hd : r.hd.length ≤ 120
  ms : MsFit r.hd
  dn : r.dn.length ≤ D
theorem Rk.fit.more {T D T' D' : Nat} {r : Rk} (h : r.fit T D) (hT : T ≤ T') (hD : D ≤ D') : r.fit T' D' := ⟨h.me0, h.me3, Nat.le_trans h.tk hT, h.hd, h.ms, Nat.le_trans h.dn hD⟩
set_option maxRecDepth 100000 in
theorem elmRk : Elm Try.prog 48 78 7 104 Rk.cs := by
  obtain ⟨i, h1, h2, h3, h4⟩ := info_parts (P := Try.prog) (e := 78) (z := .agg #[.int .i64 0, .int .i64 0, .bool false, .int .i64 0, .slice none 0 0, .slice none 0 0, .slice none 0 0]) (size := 7) (bytes := 104) (by kernel_rfl)
  exact ⟨Try.underlying48, ⟨i, _, h1, h2, h3, h4, rfl⟩, by decide, fun _ => rfl⟩
end Go.Proofs.Ytgdhieffjflejaa
