/- Contract of DrawGamePut: some game; a game's text is short; no condition but a code of bytes. -/
import Derived.Test.YtilldpoleiippaaDoorAnyGame
import Derived.Test.YtilldpoleiippaaDoorLG
set_option linter.unusedSimpArgs false
set_option linter.unusedVariables false
namespace Go.Proofs.YtilldpoleiippaaDoor
open Go.RowKit Go.Joins

theorem flatMap_len {α : Type} (f : α → List UInt8) (c : Nat) : ∀ l : List α, (∀ x ∈ l, (f x).length ≤ c) → (l.flatMap f).length ≤ l.length * c
  | [], _ => by simp
  | x :: l, h => by
    have h1 := h x (by simp)
    have h2 := flatMap_len f c l (fun y hy => h y (by simp [hy]))
    simp only [List.flatMap_cons, List.length_append, List.length_cons, Nat.succ_mul]
    omega
theorem commasLen {zs : List Int} (h : ∀ n ∈ zs, 0 ≤ n ∧ n ≤ 30) : (commasL zs).length ≤ zs.length * 22 :=
  flatMap_len _ _ _ fun n hn => by
    have := itoa_len n (by have := (h n hn).1; omega) (by have := (h n hn).2; omega)
    simp only [List.length_append, List.length_cons, List.length_nil]
    omega
theorem entText_len {e : Rq} (h : ∀ n ∈ fiveOf e, 0 ≤ n ∧ n ≤ 20) : (entText e).length ≤ 110 := by
  have k : ∀ n ∈ fiveOf e, (Lib.itoa n).length ≤ 21 := fun n hn => itoa_len n (by have := (h n hn).1; omega) (by have := (h n hn).2; omega)
  have h1 := k e.c (by simp [fiveOf])
  have h2 := k e.n (by simp [fiveOf])
  have h3 := k e.o (by simp [fiveOf])
  have h4 := k e.x (by simp [fiveOf])
  have h5 := k e.y (by simp [fiveOf])
  simp only [entText, betweenL, fiveOf, glue, List.map, List.flatMap_cons, List.flatMap_nil, List.length_cons, List.length_append, List.length_nil]
  omega
theorem gamePut_len (g : Gm) : (gamePut g).length ≤ 1000 := by
  unfold gamePut
  split
  · rename_i h
    obtain ⟨n1, n2, n3⟩ := game_nums h
    have e1 := game_ents h
    obtain ⟨l1, l2⟩ := game_lens h
    have b1 := commasLen (fun n hn => ⟨(n1 n hn).1, by have := (n1 n hn).2; omega⟩)
    have b2 := commasLen n2
    have b3 := flatMap_len entText 110 g.es (fun e he => entText_len (n3 e he))
    simp only [gameText, List.length_append, List.length_cons, List.length_nil]
    omega
  · simp
theorem isGame_put {g : Gm} (h : gameB g = true) : IsGame (gamePut g) g true := .inl ⟨rfl, h, by unfold gamePut; rw [if_pos h]⟩
theorem gamePut_no {g : Gm} (h : gameB g = false) : gamePut g = [] := by unfold gamePut; rw [h]; rfl
theorem gamePut_yes {g : Gm} (h : gameB g = true) : gamePut g ≠ [] := by
  unfold gamePut
  rw [if_pos h]
  simp [gameText]

/-- Some game, drawn. -/
def GameDrawn (w : World) (e : Ending) (w' : World) : Prop :=
  ∃ (z : Gm) (a0 a1 a2 : Option Addr) (c0 c1 c2 : Nat), e = .returned (.agg #[.slice a0 z.es.length c0, .slice a1 z.fl.length c1, .slice a2 z.la.length c2]) ∧ z.es.length ≤ 4 ∧ z.fl.length ≤ 16 ∧ z.la.length ≤ 4 ∧
    IsSl w' (.slice a0 z.es.length c0) 5 Rq.cs z.es ∧ IsSl w' (.slice a1 z.fl.length c1) 1 intR z.fl ∧ IsSl w' (.slice a2 z.la.length c2) 1 intR z.la ∧ Below w.heap.size w w'

set_option maxHeartbeats 400000 in
theorem DrawGamePut_c (v : Value) (z : Bts) (w : World) (hz : IsBytes w v z) :
    Calls Tryd.prog 41 #[v] w (GameDrawn w) := by
  have HZ := Lib.hid hz
  clear hz
  go_enter Tryd.func41, Tryd.ntmps41
  go_wp2_with fail
  obtain ⟨W, hW, sW, aW, kW⟩ := blocks1 w (.cells #[.slice none 0 0, .slice none 0 0, .slice none 0 0] 41)
  rw [← hW]
  clear hW
  refine (l20Open_c v z W (HZ.out.below kW)).mono ?_
  rintro e w1 ⟨g, rfl, hg, r1, k1⟩
  have KW := below_next kW k1
  have aW1 := carryB k1 (lt_of_block aW) aW
  have hgw : w.heap.size < g := by have := lt_of_block aW; omega
  have hsW : w.heap.size < w1.heap.size := lt_of_block aW1
  clear k1 aW kW HZ sW
  go_wp2_with fail
  refine (l20AnyGame_c w1 g 0 r1 (by omega)).mono ?_
  rintro e w2 ⟨zz, a0, a1, a2, c0, c1, c2, rfl, l0, l1, l2, hk, -, k2⟩
  have KB := bel_grown KW k2 (by omega)
  have a2' := carry k2 (by omega) aW1
  have hsz := k2.size
  obtain ⟨m0, hm0⟩ : ∃ m, m = zz.es.length := ⟨_, rfl⟩
  obtain ⟨m1, hm1⟩ : ∃ m, m = zz.fl.length := ⟨_, rfl⟩
  obtain ⟨m2, hm2⟩ : ∃ m, m = zz.la.length := ⟨_, rfl⟩
  have M := Lib.hid (And.intro hm0 (And.intro hm1 hm2))
  have LL := Lib.hid (And.intro l0 (And.intro l1 l2))
  rw [← hm0, ← hm1, ← hm2] at hk ⊢
  have HK := Lib.hid hk
  clear hk k2 KW hm0 hm1 hm2 l0 l1 l2 aW1
  have ca := cell_of_block a2'
  have fa := unfrozen_of_block a2'
  have la := lt_of_block a2'
  go_wp2_with fail
  refine bodyPost_ret (v := .agg #[.slice a0 m0 c0, .slice a1 m1 c1, .slice a2 m2 c2]) (by simp [results, Tryd.results41, go_sem, ca]) rfl ?_
  obtain ⟨i0, i1, i2⟩ := HK.out _ ((Since.refl w1.heap.size w2).set (p := ⟨w.heap.size, 0, none⟩) (.inl (by simpa using hsW)) (.slice a0 m0 c0) |>.set (p := ⟨w.heap.size, 1, none⟩) (.inl (by simpa using hsW)) (.slice a1 m1 c1) |>.set (p := ⟨w.heap.size, 2, none⟩) (.inl (by simpa using hsW)) (.slice a2 m2 c2))
  refine ⟨zz, a0, a1, a2, c0, c1, c2, by rw [← M.out.1, ← M.out.2.1, ← M.out.2.2], LL.out.1, LL.out.2.1, LL.out.2.2, ?_, ?_, ?_, (by repeat' (first | with_reducible exact Below.refl _ _ | with_reducible assumption | with_reducible refine Below.alloc ?_ ?_ _ | with_reducible refine Below.drew ?_ | with_reducible refine Below.setCell ?_ ?_ _ | omega | (simp; omega) | (simp; done)))⟩
  · rw [← M.out.1]; exact i0
  · rw [← M.out.2.1]; exact i1
  · rw [← M.out.2.2]; exact i2
end Go.Proofs.YtilldpoleiippaaDoor
