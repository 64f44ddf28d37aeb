/- Contract of DrawGameGet: some text, short; no condition but a code of bytes. -/
import Derived.Test.YtilldpoleiippaaGreatDoorDrawGame
import Derived.Test.YtilldpoleiippaaGreatDoorPutG
import Derived.Test.YtilldpoleiippaaGreatDoorBent
set_option linter.unusedSimpArgs false
set_option linter.unusedVariables false
namespace Go.Proofs.YtilldpoleiippaaGreatDoor
open Go.RowKit Go.Joins

theorem flatMap_len {α : Type} (f : α → List UInt8) (c : Nat) : ∀ l : List α, (∀ x ∈ l, (f x).length ≤ c) → (l.flatMap f).length ≤ l.length * c
  | [], _ => by simp
  | x :: l, h => by
    have h1 := h x (by simp)
    have h2 := flatMap_len f c l (fun y hy => h y (by simp [hy]))
    simp only [List.flatMap_cons, List.length_append, List.length_cons, Nat.succ_mul]
    omega
theorem commasLen {zs : List Int} (h : ∀ n ∈ zs, 0 ≤ n ∧ n ≤ 30) : (commasL zs).length ≤ zs.length * 22 :=
  flatMap_len _ _ _ fun n hn => by
    have := itoa_len n (by have := (h n hn).1; omega) (by have := (h n hn).2; omega)
    simp only [List.length_append, List.length_cons, List.length_nil]
    omega
theorem entText_len {e : Rq} (h : ∀ n ∈ fiveOf e, 0 ≤ n ∧ n ≤ 20) : (entText e).length ≤ 110 := by
  have k : ∀ n ∈ fiveOf e, (Lib.itoa n).length ≤ 21 := fun n hn => itoa_len n (by have := (h n hn).1; omega) (by have := (h n hn).2; omega)
  have h1 := k e.c (by simp [fiveOf])
  have h2 := k e.n (by simp [fiveOf])
  have h3 := k e.o (by simp [fiveOf])
  have h4 := k e.x (by simp [fiveOf])
  have h5 := k e.y (by simp [fiveOf])
  simp only [entText, betweenL, fiveOf, glue, List.map, List.flatMap_cons, List.flatMap_nil, List.length_cons, List.length_append, List.length_nil]
  omega
theorem gamePut_len (g : Gm) : (gamePut g).length ≤ 1000 := by
  unfold gamePut
  split
  · rename_i h
    obtain ⟨n1, n2, n3⟩ := game_nums h
    have e1 := game_ents h
    obtain ⟨l1, l2⟩ := game_lens h
    have b1 := commasLen (fun n hn => ⟨(n1 n hn).1, by have := (n1 n hn).2; omega⟩)
    have b2 := commasLen n2
    have b3 := flatMap_len entText 110 g.es (fun e he => entText_len (n3 e he))
    simp only [gameText, List.length_append, List.length_cons, List.length_nil]
    omega
  · simp

set_option maxRecDepth 100000 in
set_option maxHeartbeats 1000000 in
theorem DrawGameGet_c (v : Value) (z : Bts) (w : World) (hz : IsBytes w v z) :
    Calls Tryz.prog 4 #[v] w (ATxt 1001 w) := by
  have HZ := Lib.hid hz
  clear hz
  go_enter Tryz.func4, Tryz.ntmps4
  go_wp2_with fail
  refine (l20Open_c v z _ HZ.out).mono ?_
  rintro e w1 ⟨g, rfl, hg, r1, k1⟩
  go_wp2_with fail
  refine (l20Game_c w1 g 0 r1 (by omega)).mono ?_
  rintro e w2 ⟨zz, vv, rfl, own, hgb, r2, k2⟩
  obtain ⟨n1, n2⟩ := game_lens hgb
  have n0 := game_ents hgb
  have K2 : Below w.heap.size w w2 := bel_grown k1 k2 hg
  have hl2 := r2.lt
  obtain ⟨a0, c0, a1, c1, a2, c2, rfl, o3⟩ := own.rows
  have I0 := Lib.hid (o3.e.sl five_len)
  have I1 := Lib.hid (o3.f.sl int_len)
  have I2 := Lib.hid (o3.l.sl int_len)
  have CS := Lib.hid (fun V h0 h1 h2 => sGamePut_c zz a0 a1 a2 c0 c1 c2 V h0 h1 h2 (by omega))
  have hlen : (⟨(gamePut zz).toArray⟩ : ByteArray).size ≤ 1000 := by rw [bytes_len]; exact gamePut_len _
  generalize (⟨(gamePut zz).toArray⟩ : ByteArray) = s at CS hlen
  clear k1 k2 r1 o3 n0 n1 n2 hgb
  go_wp2_with fail
  refine (CS.out w2 I0.out I1.out I2.out).mono ?_
  rintro e w3 ⟨rfl, k3⟩
  have K3 := below_next K2 k3
  have r3 := r2.below (k3.mono hl2)
  clear k3 K2 r2
  go_wp2_with fail
  refine (pick_c _ g _ 2 r3 (by omega) (by omega)).mono ?_
  rintro e w5 ⟨v5, rfl, a5, b5, -, r5, k5⟩
  have K5 : Below w.heap.size w w5 := bel_grown K3 k5 hg
  clear k5 r3 K3
  by_cases h0 : v5 = 0
  · subst h0
    go_wp2_with fail
    go_ret
    exact ⟨s, by omega, rfl, K5⟩
  · go_wp2_with fail
    refine (l20Bent_c s _ g _ r5 (by omega) (by omega)).mono ?_
    rintro e w6 ⟨t, ht, rfl, r6, k6⟩
    go_wp2_with fail
    go_ret
    exact ⟨t, by omega, rfl, bel_grown K5 k6 hg⟩
end Go.Proofs.YtilldpoleiippaaGreatDoor
