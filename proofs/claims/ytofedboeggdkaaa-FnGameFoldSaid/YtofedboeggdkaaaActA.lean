/- The program's act, of any ask that is ok; condition: a game that is ok but for the last asks. -/
import Derived.Test.YtofedboeggdkaaaActP1
import Derived.Test.YtofedboeggdkaaaActP2
import Derived.Test.YtofedboeggdkaaaActP3
namespace Go.Proofs.Ytofedboeggdkaaa
open Go.RowKit Go.Joins

/-- What an ask does, its number being new. -/
def actR (z : Gm) (r : Rq) : Gm × Int :=
  match figAt z.es r.c with
  | some k => if r.o = 1 then (z, 4) else actG z k r
  | none => if r.o = 1 then (⟨joinE z.es r.c, z.fl, z.la⟩, 0) else (z, 5)
theorem doG_act {z : Gm} {r : Rq} (hz : r ≠ ⟨0, 0, 0, 0, 0⟩) (hold : ¬ r.n ≤ z.la.getD (r.c - 1).toNat 0) : doG z r = actR ⟨z.es, z.fl, z.la.set (r.c - 1).toNat r.n⟩ r := by
  unfold doG actR
  rw [if_neg hz, if_neg hold]
  rfl

theorem act_c {D B : Nat} (es : List Rq) (fl la : List Int) (r : Rq) (n0 n2 P : Nat) (a0 a1 a2 : Option Addr) (c1 c2 : Nat) (w : World) (aP : w.heap[P]? = some (.cells #[.slice a0 n0 n0, .slice a1 16 c1, .slice a2 n2 c2] 46 (0, 0))) (h : Own3 w B a0 n0 a1 c1 a2 c2 ⟨es, fl, la⟩)
    (hn0 : es.length = n0) (hn1 : fl.length = 16) (hn2 : la.length = n2) (h4 : n0 ≤ 4) (hD : D ≤ B) (hDP : D ≤ P) (hB : B ≤ w.heap.size) (hp : Places es) (hf : ∀ n ∈ fl, 0 ≤ n ∧ n ≤ 20) (hr : okB r.c r.n r.o r.x r.y = true) :
    Calls Try.prog 83 #[.pointer (some ⟨P, 0, none⟩), .agg #[.int .i64 r.c, .int .i64 r.n, .int .i64 r.o, .int .i64 r.x, .int .i64 r.y]] w (ActOut D B P c1 c2 (actR ⟨es, fl, la⟩ r).1 (actR ⟨es, fl, la⟩ r).2 w) := by
  have hb := okB_xy hr
  obtain ⟨c, n, o, x, y⟩ := r
  simp only at hb hr ⊢
  have hc : 1 ≤ c ∧ c ≤ 4 := by omega
  have hx : -1 ≤ x ∧ x ≤ 4 := by omega
  have hy : -1 ≤ y ∧ y ≤ 9 := by omega
  unfold actR
  simp only
  cases hfig : figAt es c with
  | none =>
    simp only
    by_cases ho1 : o = 1
    · subst ho1
      rw [if_pos rfl]
      exact act_join es fl la n0 n2 P a0 a1 a2 c1 c2 c n x y w aP h hn0 hn1 hn2 h4 hD hDP hp hf hc hx hy hfig hB
    · rw [if_neg ho1]
      exact act_off es fl la n0 n2 P a0 a1 a2 c1 c2 c n o x y w aP h hn0 hn1 hn2 h4 hD hDP hp hf hc hx hy hfig ho1
  | some k =>
    simp only
    by_cases ho1 : o = 1
    · subst ho1
      rw [if_pos rfl]
      exact act_there es fl la n0 n2 P a0 a1 a2 c1 c2 c n x y w aP h hn0 hn1 hn2 h4 hD hDP hp hf hc hx hy k hfig
    · rw [if_neg ho1]
      by_cases h2 : o = 2
      · subst h2
        cases hbb : (inB ((entN es k).n + x) 0 3 && inB ((entN es k).o + y) 0 3) with
        | true =>
          have e : actG ⟨es, fl, la⟩ k ⟨c, n, 2, x, y⟩ = (⟨es.set k { (entN es k) with n := (entN es k).n + x, o := (entN es k).o + y }, fl, la⟩, 0) := by
            unfold actG; simp only [if_true]; rw [if_pos hbb]
          rw [e]
          exact act_move es fl la n0 n2 P a0 a1 a2 c1 c2 c n x y w aP h hn0 hn1 hn2 h4 hD hDP hp hf hc hx hy k hfig hbb
        | false =>
          have e : actG ⟨es, fl, la⟩ k ⟨c, n, 2, x, y⟩ = (⟨es, fl, la⟩, 6) := by
            unfold actG; simp only [if_true]; rw [if_neg (by rw [hbb]; decide)]
          rw [e]
          exact act_move_no es fl la n0 n2 P a0 a1 a2 c1 c2 c n x y w aP h hn0 hn1 hn2 h4 hD hDP hp hf hc hx hy k hfig hbb
      · by_cases h3 : o = 3
        · subst h3
          by_cases hv : fl.getD (sqOf (entN es k)) 0 = 0
          · have e : actG ⟨es, fl, la⟩ k ⟨c, n, 3, x, y⟩ = (⟨es, fl, la⟩, 7) := by
              unfold actG; simp only; rw [if_neg (by decide), if_pos trivial, if_pos hv]
            rw [e]
            exact act_take_no es fl la n0 n2 P a0 a1 a2 c1 c2 c n x y w aP h hn0 hn1 hn2 h4 hD hDP hp hf hc hx hy k hfig hv
          · have e : actG ⟨es, fl, la⟩ k ⟨c, n, 3, x, y⟩ = (⟨es.set k { (entN es k) with y := (entN es k).y + 1 }, addAt fl (sqOf (entN es k)) (-1), la⟩, 0) := by
              unfold actG; simp only; rw [if_neg (by decide), if_pos trivial, if_neg hv]
            rw [e]
            exact act_take es fl la n0 n2 P a0 a1 a2 c1 c2 c n x y w aP h hn0 hn1 hn2 h4 hD hDP hp hf hc hx hy k hfig hv
        · by_cases hq : ∀ m, figAt es x = some m → m = k ∨ nearB (entN es k) (entN es m) = false
          · have e : actG ⟨es, fl, la⟩ k ⟨c, n, o, x, y⟩ = (⟨es, fl, la⟩, 8) := by
              unfold actG
              simp only
              rw [if_neg h2, if_neg h3]
              cases hfa : figAt es x with
              | none => rfl
              | some m =>
                simp only
                rw [if_pos (hq m hfa)]
            rw [e]
            exact act_far es fl la n0 n2 P a0 a1 a2 c1 c2 c n o x y w aP h hn0 hn1 hn2 h4 hD hDP hp hf hc hx hy k hfig ho1 h2 h3 hq
          · have hq' : ∃ m, figAt es x = some m ∧ m ≠ k ∧ nearB (entN es k) (entN es m) = true := by
              cases hfa : figAt es x with
              | none => exact absurd (fun m hm => by rw [hfa] at hm; cases hm) hq
              | some m =>
                refine ⟨m, rfl, fun e => hq (fun m' hm' => ?_), ?_⟩
                · rw [hfa] at hm'; injection hm' with hm'; exact .inl (hm' ▸ e)
                · cases hb2 : nearB (entN es k) (entN es m) with
                  | true => rfl
                  | false => exact absurd (fun m' hm' => by rw [hfa] at hm'; injection hm' with hm'; exact .inr (hm' ▸ hb2)) hq
            obtain ⟨m, hfa, hmk, hnr⟩ := hq'
            have hne : ¬ (m = k ∨ nearB (entN es k) (entN es m) = false) := fun q => q.elim hmk (fun q => by rw [hnr] at q; cases q)
            by_cases h4' : o = 4
            · subst h4'
              have e : actG ⟨es, fl, la⟩ k ⟨c, n, 4, x, y⟩ = (hitG ⟨es, fl, la⟩ m, 0) := by
                unfold actG
                simp only
                rw [if_neg h2, if_neg h3, hfa]
                simp only
                rw [if_neg hne, if_pos trivial]
              rw [e]
              by_cases hxp : (entN es m).x - 1 ≤ 0
              · have e2 : hitG ⟨es, fl, la⟩ m = ⟨es.eraseIdx m, addAt fl (sqOf (entN es m)) (entN es m).y, la⟩ := by
                  unfold hitG; simp only; rw [if_pos hxp]
                rw [e2]
                exact act_kill es fl la n0 n2 P a0 a1 a2 c1 c2 c n x y w aP h hn0 hn1 hn2 h4 hD hDP hp hf hc hx hy k hfig m hfa hmk hnr hxp hB
              · have e2 : hitG ⟨es, fl, la⟩ m = ⟨es.set m { (entN es m) with x := (entN es m).x - 1 }, fl, la⟩ := by
                  unfold hitG; simp only; rw [if_neg hxp]
                rw [e2]
                exact act_hit es fl la n0 n2 P a0 a1 a2 c1 c2 c n x y w aP h hn0 hn1 hn2 h4 hD hDP hp hf hc hx hy k hfig m hfa hmk hnr (by omega)
            · have h5 : o = 5 := by
                unfold okB at hr
                simp only [Bool.and_eq_true] at hr
                have h' := hr.2
                by_cases q5 : o = 5
                · exact q5
                · rw [if_neg (by omega), if_neg h2, if_neg h4', if_neg q5] at h'
                  cases h'
              subst h5
              by_cases hpo : (entN es k).y < y
              · have e : actG ⟨es, fl, la⟩ k ⟨c, n, 5, x, y⟩ = (⟨es, fl, la⟩, 7) := by
                  unfold actG
                  simp only
                  rw [if_neg h2, if_neg h3, hfa]
                  simp only
                  rw [if_neg hne, if_neg h4', if_pos hpo]
                rw [e]
                exact act_poor es fl la n0 n2 P a0 a1 a2 c1 c2 c n x y w aP h hn0 hn1 hn2 h4 hD hDP hp hf hc hx hy k hfig m hfa hmk hnr hpo
              · have e : actG ⟨es, fl, la⟩ k ⟨c, n, 5, x, y⟩ = (⟨(es.set m { (entN es m) with y := (entN es m).y + y }).set k { (entN es k) with y := (entN es k).y - y }, fl, la⟩, 0) := by
                  unfold actG
                  simp only
                  rw [if_neg h2, if_neg h3, hfa]
                  simp only
                  rw [if_neg hne, if_neg h4', if_neg hpo]
                rw [e]
                exact act_give es fl la n0 n2 P a0 a1 a2 c1 c2 c n x y w aP h hn0 hn1 hn2 h4 hD hDP hp hf hc hx hy k hfig m hfa hmk hnr hpo
end Go.Proofs.Ytofedboeggdkaaa
