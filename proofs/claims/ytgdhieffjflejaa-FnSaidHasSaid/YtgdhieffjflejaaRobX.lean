/- What holds whatever happens to other blocks, told for any set of them; stores into a variable of one's own; what keepers give; no condition. -/
import Derived.Test.YtgdhieffjflejaaK1
import Derived.Test.YtgdhieffjflejaaCopyL
import Derived.Test.YtgdhieffjflejaaRegL
import Derived.Great.BuildSlice
set_option linter.unusedSimpArgs false
set_option linter.unusedVariables false
namespace Go.Proofs.Ytgdhieffjflejaa
open Go.RowKit Go.Joins

/-- A set of blocks, and a row's own. -/
def OwX (X : Nat → Prop) (a : Option Addr) (cap : Nat) (b : Nat) : Prop := X b ∨ rowBlk a cap = some b
/-- A set of blocks, and the variables from lo on, below hi. -/
def Bx (X : Nat → Prop) (lo hi : Nat) (b : Nat) : Prop := X b ∨ (lo ≤ b ∧ b < hi)
section
variable {X X' : Nat → Prop} {F : World → Prop} {w w' V : World} {lo hi : Nat}
theorem Rob.box (h : Rob X F w) (k : Below w.heap.size w w') (hi : Nat) : Rob (Bx X w.heap.size hi) F w' := fun V hV => h V ⟨Nat.le_trans k.size hV.1, fun b hb hx => (hV.2 b (Nat.lt_of_lt_of_le hb k.size) fun hx' => by
  rcases hx' with h' | h'
  · exact hx h'
  · omega).trans (k.block b hb)⟩
theorem Rob.unbox (h : Rob (Bx X lo hi) F w) : Rob X F w := h.weak fun _ hb => .inl hb
theorem Bx.lt (hX : ∀ b, X b → b < lo) (h : lo ≤ hi) : ∀ b, Bx X lo hi b → b < hi := fun b hb => by
  rcases hb with hb | hb
  · exact Nat.lt_of_lt_of_le (hX b hb) h
  · exact hb.2
theorem Rob.ofLo {B : Nat} (h : Rob (Lo B) F w) (hX : ∀ b, X b → b < B) : Rob X F w := h.weak hX
theorem agree_set {g : Nat} (hs : V.heap.size = w.heap.size) (ho : ∀ b, b ≠ g → V.heap[b]? = w.heap[b]?) (hg : X g) : Agree X w V :=
  ⟨by omega, fun b _ hx => ho b (fun e => hx (e ▸ hg))⟩
theorem Rob.stored {g : Nat} (h : Rob X F w) (hs : V.heap.size = w.heap.size) (ho : ∀ b, b ≠ g → V.heap[b]? = w.heap[b]?) (hg : X g) : Rob X F V := h.next (agree_set hs ho hg)
theorem Rob.setX (h : Rob X F w) {p : Addr} (hp : X p.block) (u : Value) : Rob X F (w.setCell p u) := h.next (Agree.set hp u)
/-- A whole variable stored into. -/
theorem rowPut {g : Nat} {old : Array Value} {t : TypeId} (h : w.heap[g]? = some (.cells old t (0, 0))) (cells : Array Value) :
    ∃ V, V = w.setRow g cells ∧ V.heap.size = w.heap.size ∧ V.heap[g]? = some (.cells cells t (0, 0)) ∧ (∀ b, b ≠ g → V.heap[b]? = w.heap[b]?) ∧ Below g w V :=
  ⟨_, rfl, by simp [World.setRow], setRow_heap w g old cells t (0, 0) h, fun b hb => setRow_other w g b cells hb, ⟨rfl, rfl, rfl, by simp [World.setRow], fun b hb => setRow_other w g b cells (by omega)⟩⟩
end
section
variable {X X' : Nat → Prop} {α : Type} {w w' V : World} {B e k cap cap' : Nat} {a a' : Option Addr} {R : α → List Value} {zs : List α} {F : World → Prop}
theorem Row.robX (h : Row w B e a cap k R zs) (hR : ∀ z, (R z).length = k) (hX : ∀ b, X b → b < B) : Rob X (fun V => IsSl V (.slice a zs.length cap) k R zs) w := (h.rob hR).ofLo hX
theorem Row.later (h : Row w B e a cap k R zs) {g : Nat} (hs : V.heap.size = w.heap.size) (ho : ∀ b, b ≠ g → V.heap[b]? = w.heap[b]?) (hg : g < B) : Row V B e a cap k R zs :=
  h.agree (X := Lo B) ⟨by omega, fun b _ hx => ho b (fun e => hx (by show b < B; omega))⟩ fun b hb hx => by
    have h1 : b < B := hx
    have := (h.blk hb).1
    omega
theorem Rob.appendedX (h : Rob (OwX X a cap) F w) (q : Appended w w' B e a a' cap cap' k R zs) : Rob (OwX X a' cap') F w' := fun V hV => h V ⟨Nat.le_trans q.grown.size hV.1, fun b hb hx => by
  have hb' : b < w'.heap.size := Nat.lt_of_lt_of_le hb q.grown.size
  have h1 : V.heap[b]? = w'.heap[b]? := hV.2 b hb' fun hx' => by
    rcases hx' with h' | h'
    · exact hx (.inl h')
    · rcases q.blk with e' | e'
      · exact hx (.inr (by rw [← e']; exact h'))
      · rw [h'] at e'
        injection e' with e'
        omega
  exact h1.trans (q.grown.block b hb fun e' => hx (.inr e'.symm))⟩
theorem Rob.newrowX {B2 : Nat} (h : Rob X F w) (q : NewRow w w' B2 e a' cap' k R zs) : Rob (OwX X a' cap') F w' := fun V hV => h V ⟨Nat.le_trans q.below.size hV.1, fun b hb hx => by
  have hb' : b < w'.heap.size := Nat.lt_of_lt_of_le hb q.below.size
  have h1 : V.heap[b]? = w'.heap[b]? := hV.2 b hb' fun hx' => by
    rcases hx' with h' | h'
    · exact hx h'
    · have := q.blk b h'
      omega
  exact h1.trans (q.below.block b hb)⟩
theorem Rob.owX {B2 : Nat} (h : Rob (Lo B2) F w) (hX : ∀ b, X b → b < B2) (hr : ∀ g, rowBlk a cap = some g → g < B2) : Rob (OwX X a cap) F w := h.weak fun b hb => by
  rcases hb with hb | hb
  · exact hX b hb
  · exact hr b hb
theorem Rob.owX0 (h : Rob X F w) : Rob (OwX X a 0) F w := h.weak fun b hb => by
  rcases hb with hb | hb
  · exact hb
  · simp [rowBlk] at hb
theorem Rob.unowX (h : Rob (OwX X a cap) F w) : Rob X F w := h.weak fun _ hb => .inl hb
theorem OwX.lt (hX : ∀ b, X b → b < w.heap.size) (hr : Row w B e a cap k R zs) : ∀ b, OwX X a cap b → b < w.heap.size := fun b hb => by
  rcases hb with hb | hb
  · exact hX b hb
  · exact (hr.blk hb).2
end

theorem row_of_block {α : Type} {w : World} {B g e k : Nat} {R : α → List Value} {zs : List α} (hR : ∀ z, (R z).length = k) (h : w.heap[g]? = some (.cells (flat R zs) e (0, 0))) (hB : B ≤ g) (hm : zs.length ≤ maxLen) : Row w B e (some ⟨g, 0, none⟩) zs.length k R zs :=
  ⟨Nat.le_refl _, hm, fun _ => ⟨g, flat R zs, rfl, hB, h, by rw [flat_size hR]; exact Nat.le_refl _, fun _ _ => rfl⟩⟩
theorem stored7 (w : World) (g : Nat) (o0 o1 o2 o3 o4 o5 o6 v0 v1 v2 v3 v4 v5 v6 : Value) {t : TypeId} (h : w.heap[g]? = some (.cells #[o0, o1, o2, o3, o4, o5, o6] t (0, 0))) :
    ∃ W, W = ((((((w.setCell ⟨g, 0, none⟩ v0).setCell ⟨g, 1, none⟩ v1).setCell ⟨g, 2, none⟩ v2).setCell ⟨g, 3, none⟩ v3).setCell ⟨g, 4, none⟩ v4).setCell ⟨g, 5, none⟩ v5).setCell ⟨g, 6, none⟩ v6 ∧ W.heap.size = w.heap.size ∧
      W.heap[g]? = some (.cells #[v0, v1, v2, v3, v4, v5, v6] t (0, 0)) ∧ (∀ b, b ≠ g → W.heap[b]? = w.heap[b]?) ∧ Below g w W := by
  obtain ⟨W0, h0, s0, a0, n0, k0⟩ := stored1 w g 0 v0 h
  obtain ⟨W1, h1, s1, a1, n1, k1⟩ := stored1 W0 g 1 v1 a0
  obtain ⟨W2, h2, s2, a2, n2, k2⟩ := stored1 W1 g 2 v2 a1
  obtain ⟨W3, h3, s3, a3, n3, k3⟩ := stored1 W2 g 3 v3 a2
  obtain ⟨W4, h4, s4, a4, n4, k4⟩ := stored1 W3 g 4 v4 a3
  obtain ⟨W5, h5, s5, a5, n5, k5⟩ := stored1 W4 g 5 v5 a4
  obtain ⟨W6, h6, s6, a6, n6, k6⟩ := stored1 W5 g 6 v6 a5
  exact ⟨W6, by rw [h6, h5, h4, h3, h2, h1, h0], by omega, by simpa using a6, fun b hb => (n6 b hb).trans ((n5 b hb).trans ((n4 b hb).trans ((n3 b hb).trans ((n2 b hb).trans ((n1 b hb).trans (n0 b hb)))))), k0.trans (k1.trans (k2.trans (k3.trans (k4.trans (k5.trans k6)))))⟩
/-- A letter without lists. -/
def plainM (k f v s : Int) (r : Rq) : Mg := ⟨k, f, v, s, r, .slice none 0 0, .slice none 0 0, [], []⟩
theorem plainM_ok (w : World) (k f v s : Int) (r : Rq) : (plainM k f v s r).ok w :=
  ⟨isSl_nil _ _ _ _ (Nat.zero_le _) _, isSl_nil _ _ _ _ (Nat.zero_le _) _, fun z hz => nomatch hz⟩
theorem plainM_is (w : World) (k f v s : Int) (r : Rq) : IsMg w (.agg #[.int .i64 k, .int .i64 f, .int .i64 v, .int .i64 s, .int .i64 r.c, .int .i64 r.n, .int .i64 r.o, .int .i64 r.x, .int .i64 r.y, .slice none 0 0, .slice none 0 0]) (plainM k f v s r) := ⟨rfl, plainM_ok w k f v s r⟩
theorem plainM_fit (k f v s : Int) (r : Rq) : (plainM k f v s r).fit :=
  ⟨⟨Nat.zero_le _, fun c hc => nomatch hc⟩, Nat.zero_le _, fun z hz => nomatch hz⟩
theorem isMs_one {w : World} {v : Value} {m : Mg} (h : IsSl w v 11 Mg.cs [m]) (hm : m.ok w) : IsMs w v [m] := ⟨h, fun z hz => List.mem_singleton.1 hz ▸ hm⟩
theorem fit_one {m : Mg} (h : m.fit) : MsFit [m] := fun z hz => List.mem_singleton.1 hz ▸ h

/-! What a region is told whose result is stored before the rest is done: below B the world is as W was, but in block E. -/
theorem KE.refl (B E : Nat) (W : World) : (∀ b o, b < B → b ≠ E → W.cell? ⟨b, o, none⟩ = W.cell? ⟨b, o, none⟩) ∧ W.heap.size ≤ W.heap.size := ⟨fun _ _ _ _ => rfl, Nat.le_refl _⟩
theorem KE.next {B E : Nat} {W w w' : World} (hB : B ≤ W.heap.size) (h : (∀ b o, b < B → b ≠ E → w.cell? ⟨b, o, none⟩ = W.cell? ⟨b, o, none⟩) ∧ W.heap.size ≤ w.heap.size) (k : Below w.heap.size w w') : (∀ b o, b < B → b ≠ E → w'.cell? ⟨b, o, none⟩ = W.cell? ⟨b, o, none⟩) ∧ W.heap.size ≤ w'.heap.size :=
  ⟨fun b o hb hne => (k.cell (p := ⟨b, o, none⟩) (Nat.lt_of_lt_of_le hb (Nat.le_trans hB h.2))).trans (h.1 b o hb hne), Nat.le_trans h.2 k.size⟩
theorem KE.store {B E : Nat} {W w w' : World} (h : (∀ b o, b < B → b ≠ E → w.cell? ⟨b, o, none⟩ = W.cell? ⟨b, o, none⟩) ∧ W.heap.size ≤ w.heap.size) (hs : w'.heap.size = w.heap.size) (ho : ∀ b, b ≠ E → w'.heap[b]? = w.heap[b]?) : (∀ b o, b < B → b ≠ E → w'.cell? ⟨b, o, none⟩ = W.cell? ⟨b, o, none⟩) ∧ W.heap.size ≤ w'.heap.size :=
  ⟨fun b o hb hne => (World.cell?_of_block (w := w) (w' := w') (a := ⟨b, o, none⟩) (ho b hne)).trans (h.1 b o hb hne), by omega⟩

/-! What keepers give. -/
/-- A keeper anew. -/
def KeepGot (X : Nat → Prop) (T D : Nat) (w : World) (e : Ending) (w' : World) : Prop :=
  ∃ r : Rk, e = .returned (.agg #[.int .i64 r.me, .int .i64 r.view, .bool r.live, .int .i64 r.nx, .slice r.ta r.tk.length r.tc, .slice r.ha r.hd.length r.hc, .slice r.da r.dn.length r.dc]) ∧ Rob X r.ok w' ∧ r.fit T D ∧ Below w.heap.size w w'
/-- A keeper anew, and what it says. -/
def KeepSays (X : Nat → Prop) (T D N : Nat) (w : World) (e : Ending) (w' : World) : Prop :=
  ∃ (r : Rk) (a : Option Addr) (c : Nat) (sy : List Mg), e = .returned (.tuple #[.agg #[.int .i64 r.me, .int .i64 r.view, .bool r.live, .int .i64 r.nx, .slice r.ta r.tk.length r.tc, .slice r.ha r.hd.length r.hc, .slice r.da r.dn.length r.dc], .slice a sy.length c]) ∧ Rob X r.ok w' ∧ r.fit T D ∧ Rob X (fun V => IsMs V (.slice a sy.length c) sy) w' ∧ MsFit sy ∧ sy.length ≤ N ∧ Below w.heap.size w w'
theorem isMs_nil (w : World) (a : Option Addr) (c : Nat) (hc : c ≤ maxLen) : IsMs w (.slice a 0 c) [] := ⟨isSl_nil _ _ _ _ hc _, fun z hz => nomatch hz⟩
theorem fit_wth {m : Mg} {a b : Option Addr} {c d : Nat} {ys : List Vx} (h : m.fit) (hs : ys.map Vx.say = m.vs.map Vx.say) : (m.wth a c b d ys).fit := by
  refine ⟨h.1, ?_, fun z hz => ?_⟩
  · have : ys.length = m.vs.length := by simpa using congrArg List.length hs
    show ys.length ≤ 8
    rw [this]
    exact h.2.1
  · have hm : z.say ∈ m.vs.map Vx.say := by rw [← hs]; exact List.mem_map_of_mem hz
    obtain ⟨z', hz', he⟩ := List.mem_map.1 hm
    have h4 : z'.cl = z.cl := congrArg Prod.snd he
    rw [← h4]
    exact h.2.2 z' hz'
theorem fit_snoc {ms : List Mg} {m : Mg} (h : MsFit ms) (hm : m.fit) : MsFit (ms ++ [m]) := fun z hz => by
  rcases List.mem_append.1 hz with h' | h'
  · exact h z h'
  · obtain rfl := List.mem_singleton.1 h'
    exact hm
theorem fit_append {ms ns : List Mg} (h : MsFit ms) (hm : MsFit ns) : MsFit (ms ++ ns) := fun z hz => by
  rcases List.mem_append.1 hz with h' | h'
  · exact h z h'
  · exact hm z h'
end Go.Proofs.Ytgdhieffjflejaa
