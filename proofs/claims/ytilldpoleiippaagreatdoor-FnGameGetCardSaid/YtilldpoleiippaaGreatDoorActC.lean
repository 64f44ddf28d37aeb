/- The reference's l2Act, of any ask that is ok but joining; condition: a game that is ok but for the last asks. -/
import Derived.Test.YtilldpoleiippaaGreatDoorOwnX
import Derived.Test.YtilldpoleiippaaGreatDoorActI
set_option linter.unusedSimpArgs false
set_option linter.unusedVariables false
namespace Go.Proofs.YtilldpoleiippaaGreatDoor
open Go.RowKit Go.Joins

theorem l2Act_c {B : Nat} {X : Nat → Prop} (es : List Rq) (fl la : List Int) (k n0 n2 : Nat) (a0 a1 a2 : Option Addr) (c0 c1 c2 : Nat) (r : Rq) (w : World) (h : OwnX X w B a0 c0 a1 c1 a2 c2 ⟨es, fl, la⟩) (hn0 : es.length = n0) (hn1 : fl.length = 16) (hn2 : la.length = n2) (hk : k < n0) (h4 : n0 ≤ 4) (hB : B ≤ w.heap.size) (hp : Places es) (hf : ∀ n ∈ fl, 0 ≤ n ∧ n ≤ 20)
    (hr : okB r.c r.n r.o r.x r.y = true) (ho1 : r.o ≠ 1) :
    Calls Tryz.prog 63 #[.agg #[.slice a0 n0 c0, .slice a1 16 c1, .slice a2 n2 c2], .int .i64 k, .agg #[.int .i64 r.c, .int .i64 r.n, .int .i64 r.o, .int .i64 r.x, .int .i64 r.y]] w (RetX X B (actG ⟨es, fl, la⟩ k r).1 (actG ⟨es, fl, la⟩ k r).2 w) := by
  have hb := okB_xy hr
  obtain ⟨c, n, o, x, y⟩ := r
  simp only at hb ho1 hr ⊢
  have hx : -1 ≤ x ∧ x ≤ 4 := by omega
  have hy : -1 ≤ y ∧ y ≤ 9 := by omega
  by_cases h2 : o = 2
  · subst h2
    cases hbb : (inB ((entN es k).n + x) 0 3 && inB ((entN es k).o + y) 0 3) with
    | true =>
      have e : actG ⟨es, fl, la⟩ k ⟨c, n, 2, x, y⟩ = (⟨es.set k { (entN es k) with n := (entN es k).n + x, o := (entN es k).o + y }, fl, la⟩, 0) := by
        unfold actG; simp only [if_true]; rw [if_pos hbb]
      rw [e]
      exact l2Act_move es fl la k n0 n2 a0 a1 a2 c0 c1 c2 c n x y w h hn0 hn1 hn2 hk h4 hB hp hf hx hy hbb
    | false =>
      have e : actG ⟨es, fl, la⟩ k ⟨c, n, 2, x, y⟩ = (⟨es, fl, la⟩, 6) := by
        unfold actG; simp only [if_true]; rw [if_neg (by rw [hbb]; decide)]
      rw [e]
      exact l2Act_move_no es fl la k n0 n2 a0 a1 a2 c0 c1 c2 c n x y w h hn0 hn1 hn2 hk h4 hB hp hf hx hy hbb
  · by_cases h3 : o = 3
    · subst h3
      by_cases hv : fl.getD (sqOf (entN es k)) 0 = 0
      · have e : actG ⟨es, fl, la⟩ k ⟨c, n, 3, x, y⟩ = (⟨es, fl, la⟩, 7) := by
          unfold actG; simp only; rw [if_neg (by decide), if_pos trivial, if_pos hv]
        rw [e]
        exact l2Act_take_no es fl la k n0 n2 a0 a1 a2 c0 c1 c2 c n x y w h hn0 hn1 hn2 hk h4 hB hp hf hx hy hv
      · have e : actG ⟨es, fl, la⟩ k ⟨c, n, 3, x, y⟩ = (⟨es.set k { (entN es k) with y := (entN es k).y + 1 }, addAt fl (sqOf (entN es k)) (-1), la⟩, 0) := by
          unfold actG; simp only; rw [if_neg (by decide), if_pos trivial, if_neg hv]
        rw [e]
        exact l2Act_take es fl la k n0 n2 a0 a1 a2 c0 c1 c2 c n x y w h hn0 hn1 hn2 hk h4 hB hp hf hx hy hv
    · by_cases h4' : o = 4
      · subst h4'
        have e : actG ⟨es, fl, la⟩ k ⟨c, n, 4, x, y⟩ = hitR ⟨es, fl, la⟩ k (figAt es x) := by
          unfold actG hitR
          simp only
          rw [if_neg (by decide), if_neg (by decide)]
          cases figAt es x <;> simp
        rw [e]
        exact l2Act_hit es fl la k n0 n2 a0 a1 a2 c0 c1 c2 c n x y w h hn0 hn1 hn2 hk h4 hB hp hf hx hy
      · have hfar : (∀ m, figAt es x = some m → m = k ∨ nearB (entN es k) (entN es m) = false) → actG ⟨es, fl, la⟩ k ⟨c, n, o, x, y⟩ = (⟨es, fl, la⟩, 8) := by
          intro hq
          unfold actG
          simp only
          rw [if_neg h2, if_neg h3]
          cases hfa : figAt es x with
          | none => rfl
          | some m =>
            simp only
            rw [if_pos (hq m hfa)]
        by_cases hq : ∀ m, figAt es x = some m → m = k ∨ nearB (entN es k) (entN es m) = false
        · rw [hfar hq]
          exact l2Act_give_far es fl la k n0 n2 a0 a1 a2 c0 c1 c2 c n o x y w h hn0 hn1 hn2 hk h4 hB hp hf hx hy h2 h3 h4' hq
        · have hq' : ∃ m, figAt es x = some m ∧ m ≠ k ∧ nearB (entN es k) (entN es m) = true := by
            cases hfa : figAt es x with
            | none => exact absurd (fun m hm => by rw [hfa] at hm; cases hm) hq
            | some m =>
              refine ⟨m, rfl, fun e => hq (fun m' hm' => ?_), ?_⟩
              · rw [hfa] at hm'; injection hm' with hm'; exact .inl (hm' ▸ e)
              · cases hb2 : nearB (entN es k) (entN es m) with
                | true => rfl
                | false => exact absurd (fun m' hm' => by rw [hfa] at hm'; injection hm' with hm'; exact .inr (hm' ▸ hb2)) hq
          obtain ⟨m, hfa, hmk, hnr⟩ := hq'
          have hne : ¬ (m = k ∨ nearB (entN es k) (entN es m) = false) := fun q => q.elim hmk (fun q => by rw [hnr] at q; cases q)
          by_cases hpo : (entN es k).y < y
          · have e : actG ⟨es, fl, la⟩ k ⟨c, n, o, x, y⟩ = (⟨es, fl, la⟩, 7) := by
              unfold actG
              simp only
              rw [if_neg h2, if_neg h3, hfa]
              simp only
              rw [if_neg hne, if_neg h4', if_pos hpo]
            rw [e]
            exact l2Act_give_poor es fl la k n0 n2 a0 a1 a2 c0 c1 c2 c n o x y w h hn0 hn1 hn2 hk h4 hB hp hf hx hy h2 h3 h4' m hfa hmk hnr hpo
          · have e : actG ⟨es, fl, la⟩ k ⟨c, n, o, x, y⟩ = (⟨(es.set m { (entN es m) with y := (entN es m).y + y }).set k { (entN es k) with y := (entN es k).y - y }, fl, la⟩, 0) := by
              unfold actG
              simp only
              rw [if_neg h2, if_neg h3, hfa]
              simp only
              rw [if_neg hne, if_neg h4', if_neg hpo]
            rw [e]
            exact l2Act_give es fl la k n0 n2 a0 a1 a2 c0 c1 c2 c n o x y w h hn0 hn1 hn2 hk h4 hB hp hf hx hy h2 h3 h4' m hfa hmk hnr hpo
end Go.Proofs.YtilldpoleiippaaGreatDoor
