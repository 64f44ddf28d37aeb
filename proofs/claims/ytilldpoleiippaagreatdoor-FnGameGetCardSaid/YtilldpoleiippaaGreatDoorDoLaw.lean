/- What an ask does to a game, as a plain function; no program; no condition. -/
import Derived.Test.YtilldpoleiippaaGreatDoorMA
set_option linter.unusedSimpArgs false
set_option linter.unusedVariables false
namespace Go.Proofs.YtilldpoleiippaaGreatDoor
open Go.RowKit

/-- The place of a client's figure. -/
def figAt (es : List Rq) (c : Int) : Option Nat := es.findIdx? (fun e => e.c == c)
def nearB (a b : Rq) : Bool := inB (a.n - b.n) (-1) 1 && inB (a.o - b.o) (-1) 1
/-- The square of a figure. -/
def sqOf (e : Rq) : Nat := (e.o * 4 + e.n).toNat
def addAt (zs : List Int) (i : Nat) (x : Int) : List Int := zs.set i (zs.getD i 0 + x)
def joinE (es : List Rq) (c : Int) : List Rq := es.takeWhile (fun e => decide (e.c < c)) ++ ⟨c, c - 1, c - 1, 3, 0⟩ :: es.dropWhile (fun e => decide (e.c < c))
/-- A hit: one life less; without one the figure goes, its gold onto the floor. -/
def hitG (g : Gm) (n : Nat) : Gm :=
  let e := entN g.es n
  if e.x - 1 ≤ 0 then ⟨g.es.eraseIdx n, addAt g.fl (sqOf e) e.y, g.la⟩ else ⟨g.es.set n { e with x := e.x - 1 }, g.fl, g.la⟩
/-- What figure k does at an ask that is none of joining. -/
def actG (g : Gm) (k : Nat) (r : Rq) : Gm × Int :=
  let e := entN g.es k
  if r.o = 2 then
    (if inB (e.n + r.x) 0 3 && inB (e.o + r.y) 0 3 then (⟨g.es.set k { e with n := e.n + r.x, o := e.o + r.y }, g.fl, g.la⟩, 0) else (g, 6))
  else if r.o = 3 then
    (if g.fl.getD (sqOf e) 0 = 0 then (g, 7) else (⟨g.es.set k { e with y := e.y + 1 }, addAt g.fl (sqOf e) (-1), g.la⟩, 0))
  else
    match figAt g.es r.x with
    | none => (g, 8)
    | some n =>
      if n = k ∨ nearB e (entN g.es n) = false then (g, 8)
      else if r.o = 4 then (hitG g n, 0)
      else if e.y < r.y then (g, 7)
      else (⟨(g.es.set n { (entN g.es n) with y := (entN g.es n).y + r.y }).set k { e with y := e.y - r.y }, g.fl, g.la⟩, 0)
/-- An ask that is ok, or none, done. -/
def doG (g : Gm) (r : Rq) : Gm × Int :=
  if r = ⟨0, 0, 0, 0, 0⟩ then (g, 2)
  else if r.n ≤ g.la.getD (r.c - 1).toNat 0 then (g, 3)
  else
    let h : Gm := ⟨g.es, g.fl, g.la.set (r.c - 1).toNat r.n⟩
    match figAt g.es r.c with
    | some k => if r.o = 1 then (h, 4) else actG h k r
    | none => if r.o = 1 then (⟨joinE g.es r.c, h.fl, h.la⟩, 0) else (h, 5)
/-- GameDo. -/
def gameDo (g : Gm) (r : Rq) (good : Bool) : Gm × Int := if gameB g && good then doG g r else (⟨[], [], []⟩, 1)

theorem okB_op' {c n o x y : Int} (h : okB c n o x y = true) : 1 ≤ c ∧ c ≤ 4 ∧ 1 ≤ n ∧ n ≤ 30 ∧ (o ≠ 1 → o ≠ 2 → o ≠ 3 → o ≠ 4 → 0 ≤ y) := by
  unfold okB at h
  simp only [Bool.and_eq_true, inB_iff] at h
  obtain ⟨⟨hc, hn⟩, h⟩ := h
  refine ⟨hc.1, hc.2, hn.1, hn.2, fun h1 h2 h3 h4 => ?_⟩
  rw [if_neg (by omega), if_neg h2, if_neg h4] at h
  split at h
  · simp only [Bool.and_eq_true, inB_iff] at h; omega
  · cases h

/-- Asked once more it is old. -/
theorem doG_last (g : Gm) (r : Rq) (h : r ≠ ⟨0, 0, 0, 0, 0⟩) (h2 : ¬ r.n ≤ g.la.getD (r.c - 1).toNat 0) : (doG g r).1.la = g.la.set (r.c - 1).toNat r.n := by
  unfold doG
  rw [if_neg h, if_neg h2]
  simp only
  split
  · split
    · rfl
    · unfold actG hitG
      simp only
      repeat' split
      all_goals rfl
  · split <;> rfl

theorem doG_again (g : Gm) (r : Rq) (h : r ≠ ⟨0, 0, 0, 0, 0⟩) (hc0 : 1 ≤ r.c) (hc1 : r.c ≤ 4) (hl : g.la.length = 4) : doG (doG g r).1 r = ((doG g r).1, 3) := by
  have hi : (r.c - 1).toNat < g.la.length := by omega
  by_cases h2 : r.n ≤ g.la.getD (r.c - 1).toNat 0
  · have e : doG g r = (g, 3) := by unfold doG; rw [if_neg h, if_pos h2]
    rw [e]; exact e
  · have e := doG_last g r h h2
    generalize (doG g r).1 = x at *
    unfold doG
    rw [if_neg h, if_pos]
    rw [e, List.getD_eq_getElem?_getD, List.getElem?_set_self hi]
    exact Int.le_refl _

/-- A figure, whatever stands ahead of it. -/
def FigOk (e : Rq) : Prop := (1 ≤ e.c ∧ e.c ≤ 4) ∧ (0 ≤ e.n ∧ e.n ≤ 3) ∧ (0 ≤ e.o ∧ e.o ≤ 3) ∧ (0 ≤ e.x ∧ e.x ≤ 3) ∧ (0 ≤ e.y ∧ e.y ≤ 20)
/-- Figures are ok: each is one, their clients ascend. -/
theorem entsB_iff2 (es : List Rq) : entsB es = true ↔ (∀ e ∈ es, FigOk e) ∧ es.Pairwise (fun a b => a.c < b.c) := by
  rw [entsB_iff]
  constructor
  · intro h
    have hp : ∀ j, j < es.length → FigOk (entN es j) ∧ (0 < j → (entN es (j - 1)).c < (entN es j).c) := fun j hj => by
      have h1 := (figB_iff _ _).1 (h j hj)
      have h2 := prev_bound (es := es) (k := j) (fun i hi => h i (by omega))
      refine ⟨⟨⟨by omega, by omega⟩, by omega, by omega, by omega, by omega⟩, fun h0 => ?_⟩
      unfold prevC at h1
      rw [if_neg (by omega)] at h1
      omega
    have hm : ∀ d i, i + d + 1 < es.length → (entN es i).c < (entN es (i + d + 1)).c := by
      intro d
      induction d with
      | zero => intro i hi; exact (hp (i + 1) hi).2 (by omega)
      | succ d ih =>
        intro i hi
        have a := ih i (by omega)
        have b := (hp (i + (d + 1) + 1) hi).2 (by omega)
        exact Int.lt_trans a b
    refine ⟨fun e he => ?_, ?_⟩
    · obtain ⟨j, hj, rfl⟩ := List.getElem_of_mem he
      rw [← entN_get hj]; exact (hp j hj).1
    · rw [List.pairwise_iff_getElem]
      intro i j hi hj hij
      have := hm (j - i - 1) i (by omega)
      rw [show i + (j - i - 1) + 1 = j by omega, entN_get hi, entN_get hj] at this
      exact this
  · rintro ⟨h1, h2⟩ j hj
    have hj1 := h1 _ (List.getElem_mem hj)
    unfold entAt
    rw [figB_iff, entN_get hj]
    refine ⟨⟨?_, hj1.1.2⟩, hj1.2.1, hj1.2.2.1, hj1.2.2.2.1, hj1.2.2.2.2⟩
    unfold prevC
    split
    · exact hj1.1.1
    · have h3 := (List.pairwise_iff_getElem.1 h2) (j - 1) j (by omega) hj (by omega)
      rw [entN_get (by omega)]
      omega

theorem gameB_iff (g : Gm) : gameB g = true ↔ ((∀ e ∈ g.es, FigOk e) ∧ g.es.Pairwise (fun a b => a.c < b.c)) ∧ (∀ n ∈ g.fl, 0 ≤ n ∧ n ≤ 20) ∧ (∀ n ∈ g.la, 0 ≤ n ∧ n ≤ 30) ∧ g.fl.length = 16 ∧ g.la.length = 4 ∧ golds g.es + g.fl.sum = 20 := by
  unfold gameB
  simp only [Bool.and_eq_true, List.all_eq_true, inB_iff, beq_iff_eq, entsB_iff2]
  constructor
  · rintro ⟨⟨⟨⟨⟨a, b⟩, c⟩, d⟩, e⟩, f⟩; exact ⟨a, b, c, d, e, f⟩
  · rintro ⟨a, b, c, d, e, f⟩; exact ⟨⟨⟨⟨⟨a, b⟩, c⟩, d⟩, e⟩, f⟩

theorem sum_nonneg {zs : List Int} (h : ∀ n ∈ zs, 0 ≤ n) : 0 ≤ zs.sum := by
  induction zs with
  | nil => simp
  | cons z zs ih =>
    have := ih (fun n hn => h n (List.mem_cons_of_mem _ hn))
    have := h z (List.mem_cons_self)
    rw [List.sum_cons]; omega
theorem sum_set (zs : List Int) (i : Nat) (x : Int) (h : i < zs.length) : (zs.set i x).sum = zs.sum - zs[i] + x := by
  induction zs generalizing i with
  | nil => cases h
  | cons z zs ih =>
    cases i with
    | zero => simp only [List.set_cons_zero, List.sum_cons, List.getElem_cons_zero]; omega
    | succ i =>
      have := ih i (by simpa using h)
      simp only [List.set_cons_succ, List.sum_cons, List.getElem_cons_succ, this]; omega
theorem sum_ge {zs : List Int} (h : ∀ n ∈ zs, 0 ≤ n) (i : Nat) (hi : i < zs.length) : zs[i] ≤ zs.sum := by
  have h1 := sum_set zs i 0 hi
  have h2 := sum_nonneg (zs := zs.set i 0) (fun n hn => by
    rcases List.mem_or_eq_of_mem_set hn with h' | h'
    · exact h n h'
    · omega)
  omega
theorem golds_set (es : List Rq) (i : Nat) (e : Rq) (h : i < es.length) : golds (es.set i e) = golds es - es[i].y + e.y := by
  unfold golds
  rw [List.map_set, sum_set _ _ _ (by simpa using h)]
  simp
theorem golds_erase (es : List Rq) (i : Nat) (h : i < es.length) : golds (es.eraseIdx i) = golds es - es[i].y := by
  induction es generalizing i with
  | nil => cases h
  | cons z zs ih =>
    cases i with
    | zero => simp only [golds, List.eraseIdx_cons_zero, List.map_cons, List.sum_cons, List.getElem_cons_zero]; omega
    | succ i =>
      have := ih i (by simpa using h)
      simp only [golds, List.eraseIdx_cons_succ, List.map_cons, List.sum_cons, List.getElem_cons_succ] at this ⊢
      omega

/-- Figures in order. -/
def EntsOk (es : List Rq) : Prop := (∀ e ∈ es, FigOk e) ∧ es.Pairwise (fun a b => a.c < b.c)
theorem EntsOk.set {es : List Rq} (h : EntsOk es) {i : Nat} (hi : i < es.length) {e : Rq} (he : FigOk e) (hc : e.c = es[i].c) : EntsOk (es.set i e) := by
  refine ⟨fun x hx => ?_, ?_⟩
  · rcases List.mem_or_eq_of_mem_set hx with h' | h'
    · exact h.1 x h'
    · rw [h']; exact he
  · have hcs : ∀ (a : Nat) (ha : a < (es.set i e).length), ((es.set i e)[a]).c = (es[a]'(by simpa using ha)).c := fun a ha => by
      rw [List.getElem_set]
      split
      · rename_i hia
        subst hia
        exact hc
      · rfl
    rw [List.pairwise_iff_getElem]
    intro a b ha hb hab
    rw [hcs, hcs]
    exact (List.pairwise_iff_getElem.1 h.2) a b _ _ hab
theorem EntsOk.erase {es : List Rq} (h : EntsOk es) (i : Nat) : EntsOk (es.eraseIdx i) :=
  ⟨fun x hx => h.1 x (List.mem_of_mem_eraseIdx hx), h.2.sublist (List.eraseIdx_sublist es i)⟩
theorem figAt_some {es : List Rq} {c : Int} {k : Nat} (h : figAt es c = some k) : ∃ hk : k < es.length, es[k].c = c := by
  unfold figAt at h
  obtain ⟨hk, h1, _⟩ := List.findIdx?_eq_some_iff_getElem.1 h
  exact ⟨hk, by simpa using h1⟩
theorem figAt_none {es : List Rq} {c : Int} (h : figAt es c = none) : ∀ e ∈ es, e.c ≠ c := by
  unfold figAt at h
  rw [List.findIdx?_eq_none_iff] at h
  intro e he
  simpa using h e he
theorem EntsOk.join {es : List Rq} (h : EntsOk es) {c : Int} (h0 : 1 ≤ c) (h1 : c ≤ 4) (hn : ∀ e ∈ es, e.c ≠ c) : EntsOk (joinE es c) := by
  have happ : es.takeWhile (fun e => decide (e.c < c)) ++ es.dropWhile (fun e => decide (e.c < c)) = es := List.takeWhile_append_dropWhile
  have hp := h.2
  rw [← happ, List.pairwise_append] at hp
  obtain ⟨p1, p2, p3⟩ := hp
  have ht : ∀ e ∈ es.takeWhile (fun e => decide (e.c < c)), e.c < c := fun e he => by
    have ha := List.all_takeWhile (p := fun e : Rq => decide (e.c < c)) (l := es)
    rw [List.all_eq_true] at ha
    simpa using ha e he
  have hd : ∀ e ∈ es.dropWhile (fun e => decide (e.c < c)), c < e.c := by
    intro e he
    have hne := hn e ((List.dropWhile_sublist _).subset he)
    cases hdw : es.dropWhile (fun e => decide (e.c < c)) with
    | nil => rw [hdw] at he; cases he
    | cons x xs =>
      have hx : ¬ x.c < c := by
        have := List.head?_dropWhile_not (fun e : Rq => decide (e.c < c)) es
        rw [hdw] at this
        simpa using this
      have hxn := hn x ((List.dropWhile_sublist _).subset (by rw [hdw]; exact List.mem_cons_self))
      rw [hdw] at he p2
      rcases List.mem_cons.1 he with h' | h'
      · subst h'; omega
      · have := (List.pairwise_cons.1 p2).1 e h'
        omega
  unfold joinE
  refine ⟨fun e he => ?_, ?_⟩
  · rcases List.mem_append.1 he with h' | h'
    · exact h.1 e ((List.takeWhile_sublist _).subset h')
    · rcases List.mem_cons.1 h' with h'' | h''
      · subst h''; exact ⟨⟨h0, h1⟩, ⟨by show 0 ≤ c - 1; omega, by show c - 1 ≤ 3; omega⟩, ⟨by show 0 ≤ c - 1; omega, by show c - 1 ≤ 3; omega⟩, ⟨by show (0 : Int) ≤ 3; omega, by show (3 : Int) ≤ 3; omega⟩, ⟨by show (0 : Int) ≤ 0; omega, by show (0 : Int) ≤ 20; omega⟩⟩
      · exact h.1 e ((List.dropWhile_sublist _).subset h'')
  · rw [List.pairwise_append]
    refine ⟨p1, List.pairwise_cons.2 ⟨fun e he => hd e he, p2⟩, fun a ha b hb => ?_⟩
    rcases List.mem_cons.1 hb with h' | h'
    · subst h'; exact ht a ha
    · exact p3 a ha b h'
theorem golds_join (es : List Rq) (c : Int) : golds (joinE es c) = golds es := by
  have happ : es.takeWhile (fun e => decide (e.c < c)) ++ es.dropWhile (fun e => decide (e.c < c)) = es := List.takeWhile_append_dropWhile
  have h := congrArg golds happ
  unfold joinE golds at *
  simp only [List.map_append, List.sum_append, List.map_cons, List.sum_cons] at h ⊢
  omega

theorem sq_lt {e : Rq} (h : FigOk e) : sqOf e < 16 := by
  unfold sqOf
  obtain ⟨_, h1, h2, _⟩ := h
  omega
theorem addAt_sum (zs : List Int) (i : Nat) (x : Int) (h : i < zs.length) : (addAt zs i x).sum = zs.sum + x := by
  unfold addAt
  rw [sum_set _ _ _ h, List.getD_eq_getElem?_getD, List.getElem?_eq_getElem h]
  simp only [Option.getD_some]
  omega
theorem golds_nonneg {es : List Rq} (h : ∀ e ∈ es, FigOk e) : 0 ≤ golds es :=
  sum_nonneg (fun n hn => by obtain ⟨e, he, rfl⟩ := List.mem_map.1 hn; exact (h e he).2.2.2.2.1)
theorem golds_ge {es : List Rq} (h : ∀ e ∈ es, FigOk e) (i : Nat) (hi : i < es.length) : es[i].y ≤ golds es := by
  have := sum_ge (zs := es.map Rq.y) (fun n hn => by obtain ⟨e, he, rfl⟩ := List.mem_map.1 hn; exact (h e he).2.2.2.2.1) i (by simpa using hi)
  simpa [golds] using this
theorem golds_two {es : List Rq} (h : ∀ e ∈ es, FigOk e) {i j : Nat} (hi : i < es.length) (hj : j < es.length) (hij : i ≠ j) : es[i].y + es[j].y ≤ golds es := by
  have h0 : FigOk { es[i] with y := 0 } := by
    have := h _ (List.getElem_mem hi)
    exact ⟨this.1, this.2.1, this.2.2.1, this.2.2.2.1, by show (0 : Int) ≤ 0; omega, by show (0 : Int) ≤ 20; omega⟩
  have h1 := golds_ge (es := es.set i { es[i] with y := 0 }) (fun e he => by
    rcases List.mem_or_eq_of_mem_set he with h' | h'
    · exact h e h'
    · rw [h']; exact h0) j (by simpa using hj)
  rw [golds_set es i _ hi, List.getElem_set_ne hij] at h1
  have e0 : ({ es[i] with y := 0 } : Rq).y = 0 := rfl
  omega

/-- A game with the floor's and the figures' gold told apart. -/
theorem gameB_of {g : Gm} (h1 : EntsOk g.es) (h2 : ∀ n ∈ g.fl, 0 ≤ n) (h3 : ∀ n ∈ g.la, 0 ≤ n ∧ n ≤ 30) (h4 : g.fl.length = 16) (h5 : g.la.length = 4) (h6 : golds g.es + g.fl.sum = 20) : gameB g = true := by
  rw [gameB_iff]
  refine ⟨h1, fun n hn => ⟨h2 n hn, ?_⟩, h3, h4, h5, h6⟩
  obtain ⟨i, hi, rfl⟩ := List.getElem_of_mem hn
  have := sum_ge h2 i hi
  have := golds_nonneg h1.1
  omega

theorem hitG_ok {g : Gm} {n : Nat} (hg : gameB g = true) (hn : n < g.es.length) : gameB (hitG g n) = true := by
  rw [gameB_iff] at hg
  obtain ⟨h1, h2, h3, h4, h5, h6⟩ := hg
  have h2' : ∀ n ∈ g.fl, 0 ≤ n := fun n hn => (h2 n hn).1
  have hE : EntsOk g.es := h1
  have hf := hE.1 _ (List.getElem_mem hn)
  unfold hitG
  simp only [entN_get hn]
  split
  · have hs : sqOf g.es[n] < g.fl.length := by rw [h4]; exact sq_lt hf
    refine gameB_of (hE.erase n) ?_ h3 (by show (addAt _ _ _).length = 16; unfold addAt; rw [List.length_set]; exact h4) h5 ?_
    · intro m hm
      rcases List.mem_or_eq_of_mem_set hm with h' | h'
      · exact h2' m h'
      · rw [h', List.getD_eq_getElem?_getD, List.getElem?_eq_getElem hs]
        simp only [Option.getD_some]
        have := h2' _ (List.getElem_mem hs)
        have := hf.2.2.2.2
        omega
    · show golds (g.es.eraseIdx n) + (addAt _ _ _).sum = 20
      rw [golds_erase _ _ hn, addAt_sum _ _ _ hs]
      omega
  · rename_i hx
    refine gameB_of (hE.set hn ⟨hf.1, hf.2.1, hf.2.2.1, ⟨by show 0 ≤ g.es[n].x - 1; omega, by show g.es[n].x - 1 ≤ 3; have := hf.2.2.2.1; omega⟩, hf.2.2.2.2⟩ rfl) h2' h3 h4 h5 ?_
    show golds (g.es.set n _) + _ = 20
    rw [golds_set _ _ _ hn]
    show golds g.es - g.es[n].y + g.es[n].y + g.fl.sum = 20
    omega

set_option maxHeartbeats 1000000 in
theorem actG_ok {g : Gm} {k : Nat} {r : Rq} (hg : gameB g = true) (hk : k < g.es.length) (hr : r.o ≠ 2 → r.o ≠ 3 → r.o ≠ 4 → 0 ≤ r.y) : gameB (actG g k r).1 = true := by
  have hg' := hg
  rw [gameB_iff] at hg
  obtain ⟨h1, h2, h3, h4, h5, h6⟩ := hg
  have h2' : ∀ n ∈ g.fl, 0 ≤ n := fun n hn => (h2 n hn).1
  have hE : EntsOk g.es := h1
  have hf := hE.1 _ (List.getElem_mem hk)
  have hen := entN_get hk
  unfold actG
  simp only [hen]
  split
  · split
    · rename_i hb
      simp only [Bool.and_eq_true, inB_iff] at hb
      refine gameB_of (hE.set hk ⟨hf.1, hb.1, hb.2, hf.2.2.2.1, hf.2.2.2.2⟩ rfl) h2' h3 h4 h5 ?_
      show golds (g.es.set k _) + _ = 20
      rw [golds_set _ _ _ hk]
      show golds g.es - g.es[k].y + g.es[k].y + g.fl.sum = 20
      omega
    · exact hg'
  · split
    · split
      · exact hg'
      · rename_i hz
        have hs : sqOf g.es[k] < g.fl.length := by rw [h4]; exact sq_lt hf
        have hge := golds_ge hE.1 k hk
        have hge2 := sum_ge h2' _ hs
        have hz' : ¬ g.fl[sqOf g.es[k]] = 0 := by
          rw [List.getD_eq_getElem?_getD, List.getElem?_eq_getElem hs] at hz; exact hz
        have hz2 := h2' _ (List.getElem_mem hs)
        refine gameB_of (hE.set hk ⟨hf.1, hf.2.1, hf.2.2.1, hf.2.2.2.1, by show 0 ≤ g.es[k].y + 1; have := hf.2.2.2.2; omega, by show g.es[k].y + 1 ≤ 20; omega⟩ rfl) ?_ h3 (by show (addAt _ _ _).length = 16; unfold addAt; rw [List.length_set]; exact h4) h5 ?_
        · intro n hn
          rcases List.mem_or_eq_of_mem_set hn with h' | h'
          · exact h2' n h'
          · rw [h', List.getD_eq_getElem?_getD, List.getElem?_eq_getElem hs]
            simp only [Option.getD_some]
            omega
        · show golds (g.es.set k _) + (addAt _ _ _).sum = 20
          rw [golds_set _ _ _ hk, addAt_sum _ _ _ hs]
          show golds g.es - g.es[k].y + (g.es[k].y + 1) + (g.fl.sum + -1) = 20
          omega
    · split
      · exact hg'
      · rename_i n hn
        obtain ⟨hnl, _⟩ := figAt_some hn
        split
        · exact hg'
        · rename_i hnk
          split
          · exact hitG_ok hg' hnl
          · split
            · exact hg'
            · rename_i q2 q3 _ _ q4 hry
              have hnk' : n ≠ k := fun hh => hnk (.inl hh)
              have hr0 := hr q2 q3 q4
              have hfn := hE.1 _ (List.getElem_mem hnl)
              have h2g := golds_two hE.1 hnl hk hnk'
              have hfl := sum_nonneg h2'
              have fn : FigOk { g.es[n] with y := g.es[n].y + r.y } := ⟨hfn.1, hfn.2.1, hfn.2.2.1, hfn.2.2.2.1, by show 0 ≤ g.es[n].y + r.y; have := hfn.2.2.2.2; omega, by show g.es[n].y + r.y ≤ 20; omega⟩
              have fk : FigOk { g.es[k] with y := g.es[k].y - r.y } := ⟨hf.1, hf.2.1, hf.2.2.1, hf.2.2.2.1, by show 0 ≤ g.es[k].y - r.y; omega, by show g.es[k].y - r.y ≤ 20; have := hf.2.2.2.2; omega⟩
              have hk1 : k < (g.es.set n { g.es[n] with y := g.es[n].y + r.y }).length := by simpa using hk
              have hek : (g.es.set n { g.es[n] with y := g.es[n].y + r.y })[k] = g.es[k] := List.getElem_set_ne hnk' hk1
              simp only [entN_get hnl]
              refine gameB_of ((hE.set hnl fn rfl).set hk1 fk (by rw [hek])) h2' h3 h4 h5 ?_
              show golds ((g.es.set n _).set k _) + g.fl.sum = 20
              rw [golds_set _ _ _ hk1, golds_set _ _ _ hnl, hek]
              show golds g.es - g.es[n].y + (g.es[n].y + r.y) - g.es[k].y + (g.es[k].y - r.y) + g.fl.sum = 20
              omega

theorem doG_ok {g : Gm} {r : Rq} (hg : gameB g = true) (hr : okB r.c r.n r.o r.x r.y = true ∨ r = ⟨0, 0, 0, 0, 0⟩) : gameB (doG g r).1 = true := by
  unfold doG
  split
  · exact hg
  · rename_i hne
    have hk := (hr.resolve_right hne)
    have hb := okB_op' hk
    split
    · exact hg
    · have hg0 := hg
      rw [gameB_iff] at hg0
      obtain ⟨h1, h2, h3, h4, h5, h6⟩ := hg0
      have hE : EntsOk g.es := h1
      have h2' : ∀ n ∈ g.fl, 0 ≤ n := fun n hn => (h2 n hn).1
      have h3' : ∀ n ∈ g.la.set (r.c - 1).toNat r.n, 0 ≤ n ∧ n ≤ 30 := fun n hn => by
        rcases List.mem_or_eq_of_mem_set hn with h' | h'
        · exact h3 n h'
        · rw [h']; omega
      have hh : gameB ⟨g.es, g.fl, g.la.set (r.c - 1).toNat r.n⟩ = true := gameB_of hE h2' h3' h4 (by simpa using h5) h6
      simp only
      split
      · rename_i k hk'
        obtain ⟨hkl, _⟩ := figAt_some hk'
        split
        · exact hh
        · rename_i ho1
          exact actG_ok hh hkl (fun q2 q3 q4 => hb.2.2.2.2 ho1 q2 q3 q4)
      · rename_i hk'
        split
        · exact gameB_of (hE.join hb.1 hb.2.1 (figAt_none hk')) h2' h3' h4 (by simpa using h5) (by show golds (joinE _ _) + _ = 20; rw [golds_join]; exact h6)
        · exact hh

theorem actG_code (g : Gm) (k : Nat) (r : Rq) (h : (actG g k r).2 ≠ 0) : (actG g k r).1 = g := by
  unfold actG at h ⊢
  simp only at h ⊢
  repeat' split
  all_goals simp_all
/-- What does not go changes nothing but the number. -/
theorem doG_code (g : Gm) (r : Rq) (h : (doG g r).2 ≠ 0) : (doG g r).1.es = g.es ∧ (doG g r).1.fl = g.fl := by
  unfold doG at h ⊢
  split
  · exact ⟨rfl, rfl⟩
  · rename_i h1
    rw [if_neg h1] at h
    split
    · exact ⟨rfl, rfl⟩
    · rename_i h2
      rw [if_neg h2] at h
      simp only at h ⊢
      split
      · rename_i k hk
        rw [hk] at h
        simp only at h
        split
        · exact ⟨rfl, rfl⟩
        · rename_i h3
          rw [if_neg h3] at h
          rw [actG_code _ _ _ h]
          exact ⟨rfl, rfl⟩
      · rename_i hk
        rw [hk] at h
        simp only at h
        split
        · rename_i h3
          rw [if_pos h3] at h
          exact absurd rfl h
        · exact ⟨rfl, rfl⟩
end Go.Proofs.YtilldpoleiippaaGreatDoor
