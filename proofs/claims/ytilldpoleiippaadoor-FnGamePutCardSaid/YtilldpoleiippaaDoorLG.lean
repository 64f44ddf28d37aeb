/- How a game is written, and what is read of a text as a game, as a relation; no program; no condition. | What is read of a text as a game: the reference's pieces and the program's; no program; no condition. | Contract of GameOk (the program's); condition: at most 2^20 elements. | Contract of the reference's GameOk; condition: at most 2^20 elements. | Contracts of toAhead, szAhead, eqAhead; condition: at most 2^20 elements. | Contracts of toGame, szGame, eqGame; condition: at most 2^20 elements. | Contracts of GamePut, the program's and the reference's, at games that are ok; condition: strconv's table of tens as listed. | Contract of the program's GamePut; condition: strconv's table of tens as listed. | Numbers between commas, read the reference's way (l2Nums) and the program's (numbersOf); condition: small texts, the package variables as listed. -/
import Derived.Test.YtilldpoleiippaaDoorLA
import Derived.Lib.CutLaws
import Derived.Test.YtilldpoleiippaaDoorLB
import Derived.Test.YtilldpoleiippaaDoorLD
import Derived.BigQuiet
set_option linter.unusedSimpArgs false
set_option linter.unusedVariables false
/-! How a game is written, and what is read of a text as a game, as a relation; no program; no condition. -/
namespace Go.Proofs.YtilldpoleiippaaDoor
open Go.RowKit

/-- Numbers, each with a comma behind it. -/
def commasL (zs : List Int) : List UInt8 := zs.flatMap (fun n => Lib.itoa n ++ [44])
def fiveOf (e : Rq) : List Int := [e.c, e.n, e.o, e.x, e.y]
/-- Numbers with commas between. -/
def betweenL : List Int → List UInt8
  | [] => []
  | n :: ns => glue 44 (Lib.itoa n) (ns.map Lib.itoa)
def entText (e : Rq) : List UInt8 := 47 :: betweenL (fiveOf e)
def gameText (g : Gm) : List UInt8 := commasL g.fl ++ [47] ++ commasL g.la ++ g.es.flatMap entText
/-- What GamePut gives. -/
def gamePut (g : Gm) : List UInt8 := if gameB g then gameText g else []
/-- What is read of a text: the game that is written so, if there is one. -/
def IsGame (s : List UInt8) (g : Gm) (b : Bool) : Prop :=
  (b = true ∧ gameB g = true ∧ gameText g = s) ∨ (b = false ∧ g = ⟨[], [], []⟩ ∧ ∀ h, gameB h = true → gameText h ≠ s)

theorem commasL_glue (n : Int) (ns : List Int) : commasL (n :: ns) = glue 44 (Lib.itoa n) (ns.map Lib.itoa ++ [[]]) := by
  induction ns generalizing n with
  | nil => simp [commasL, glue]
  | cons m ms ih =>
    have h := ih m
    have e : commasL (n :: m :: ms) = Lib.itoa n ++ [44] ++ commasL (m :: ms) := by simp [commasL]
    rw [e, h]
    simp [glue]
theorem commasL_between (n : Int) (ns : List Int) : commasL (n :: ns) = betweenL (n :: ns) ++ [44] := by
  rw [commasL_glue]
  unfold betweenL glue
  rw [List.flatMap_append, ← List.append_assoc]
  simp
theorem itoa_no44 (n : Int) : (44 : UInt8) ∉ Lib.itoa n := itoa_free (by decide) (by decide)
theorem itoa_no47 (n : Int) : (47 : UInt8) ∉ Lib.itoa n := itoa_free (by decide) (by decide)
theorem itoas_no44 (ns : List Int) : ∀ q ∈ ns.map Lib.itoa, (44 : UInt8) ∉ q := by
  intro q hq
  obtain ⟨n, -, rfl⟩ := List.mem_map.1 hq
  exact itoa_no44 n
theorem commas_no47 (zs : List Int) : (47 : UInt8) ∉ commasL zs := by
  intro h
  obtain ⟨n, -, h⟩ := List.mem_flatMap.1 h
  rcases List.mem_append.1 h with h | h
  · exact itoa_no47 n h
  · simp at h
theorem between_no47 (zs : List Int) : (47 : UInt8) ∉ betweenL zs := by
  cases zs with
  | nil => simp [betweenL]
  | cons n ns =>
    intro h
    unfold betweenL glue at h
    rcases List.mem_append.1 h with h | h
    · exact itoa_no47 n h
    · obtain ⟨q, hq, h⟩ := List.mem_flatMap.1 h
      rcases List.mem_cons.1 h with h | h
      · exact absurd h (by decide)
      · obtain ⟨m, -, rfl⟩ := List.mem_map.1 hq
        exact itoa_no47 m h
/-! The pieces of a game's text. -/
def restG (g : Gm) : List (List UInt8) := commasL g.la :: g.es.map (fun e => betweenL (fiveOf e))
theorem gameText_glue (g : Gm) : gameText g = glue 47 (commasL g.fl) (restG g) := by
  have h : g.es.flatMap entText = (g.es.map (fun e => betweenL (fiveOf e))).flatMap (fun q => 47 :: q) := by
    rw [List.flatMap_map]
    rfl
  unfold gameText glue restG
  rw [h, List.flatMap_cons]
  simp
theorem restG_free (g : Gm) : ∀ q ∈ restG g, (47 : UInt8) ∉ q := by
  intro q hq
  rcases List.mem_cons.1 hq with h | h
  · subst h; exact commas_no47 _
  · obtain ⟨e, -, rfl⟩ := List.mem_map.1 h
    exact between_no47 _
theorem ents_le {es : List Rq} (h : entsB es = true) : es.length ≤ 4 := by
  have h1 := (entsB_iff es).1 h
  have key : ∀ k, k ≤ es.length → ((k : Nat) : Int) ≤ prevC es k := by
    intro k
    induction k with
    | zero => intro _; simp [prevC]
    | succ k ih =>
      intro hk
      have h2 := ih (by omega)
      have h3 := (figB_iff _ _).1 (h1 k (by omega))
      have e : prevC es (k + 1) = (entN es k).c := by simp [prevC]
      rw [e]
      omega
  have := key es.length (Nat.le_refl _)
  have := prev_bound (es := es) (k := es.length) h1
  omega
theorem game_ents {g : Gm} (h : gameB g = true) : g.es.length ≤ 4 := by
  unfold gameB at h
  simp only [Bool.and_eq_true] at h
  exact ents_le h.1.1.1.1.1
theorem game_lens {g : Gm} (h : gameB g = true) : g.fl.length = 16 ∧ g.la.length = 4 := by
  unfold gameB at h
  simp only [Bool.and_eq_true, beq_iff_eq] at h
  exact ⟨h.1.1.2, h.1.2⟩
theorem game_nums {g : Gm} (h : gameB g = true) : (∀ n ∈ g.fl, 0 ≤ n ∧ n ≤ 20) ∧ (∀ n ∈ g.la, 0 ≤ n ∧ n ≤ 30) ∧ ∀ e ∈ g.es, ∀ n ∈ fiveOf e, 0 ≤ n ∧ n ≤ 20 := by
  unfold gameB at h
  simp only [Bool.and_eq_true, List.all_eq_true, inB_iff] at h
  obtain ⟨⟨⟨⟨⟨h1, h2⟩, h3⟩, -⟩, -⟩, -⟩ := h
  refine ⟨h2, h3, fun e he n hn => ?_⟩
  obtain ⟨k, hk, rfl⟩ := List.getElem_of_mem he
  have hp := prev_bound (es := g.es) (k := k) (fun j hj => (entsB_iff _).1 h1 j (by omega))
  have hf := (figB_iff _ _).1 ((entsB_iff _).1 h1 k hk)
  rw [entN_get hk] at hf
  simp only [fiveOf, List.mem_cons, List.not_mem_nil, or_false] at hn
  rcases hn with rfl | rfl | rfl | rfl | rfl <;> omega
theorem cut_game {g : Gm} (h : gameB g = true) : cutL 47 6 (gameText g) = commasL g.fl :: restG g := by
  rw [gameText_glue]
  refine cutL_glue (commas_no47 _) (restG_free g) ?_
  have := game_ents h
  simp only [restG, List.length_cons, List.length_map]
  omega
theorem splitG_game (g : Gm) : Lib.splitK [47] 0 (Lib.count (gameText g) [47]) (gameText g) = commasL g.fl :: restG g := by
  rw [gameText_glue, count_glue _ _ (commas_no47 _) (restG_free g)]
  exact splitK_glue _ _ (commas_no47 _) (restG_free g)

/-! Numbers read: the reference's way, and the program's. -/
theorem map_same {f : Int → Int} {l : List Int} (h : ∀ x ∈ l, f x = x) : l.map f = l :=
  (List.map_congr_left (g := fun x => x) h).trans (List.map_id' l)
def numsL (s : List UInt8) : List Int := (cutL 44 20 s).map numL
theorem nums_commas {zs : List Int} (h0 : zs ≠ []) (hl : zs.length ≤ 20) (hb : ∀ n ∈ zs, -99 ≤ n ∧ n ≤ 99) : (numsL (commasL zs)).dropLast = zs := by
  cases zs with
  | nil => exact absurd rfl h0
  | cons n ns =>
    unfold numsL
    rw [commasL_glue, cutL_glue (itoa_no44 n) ?_ (by simpa using hl)]
    · have e : Lib.itoa n :: (ns.map Lib.itoa ++ [[]]) = (n :: ns).map Lib.itoa ++ [[]] := by simp
      rw [e, List.map_append, List.map_singleton, List.dropLast_concat, List.map_map]
      exact map_same (fun m hm => numL_itoa (hb m hm).1 (hb m hm).2)
    · intro q hq
      rcases List.mem_append.1 hq with h | h
      · exact itoas_no44 ns q h
      · rw [List.mem_singleton] at h; subst h; simp
theorem nums_between {zs : List Int} (h0 : zs ≠ []) (hl : zs.length ≤ 21) (hb : ∀ n ∈ zs, -99 ≤ n ∧ n ≤ 99) : numsL (betweenL zs) = zs := by
  cases zs with
  | nil => exact absurd rfl h0
  | cons n ns =>
    unfold numsL betweenL
    rw [cutL_glue (itoa_no44 n) (itoas_no44 ns) (by simp at hl ⊢; omega)]
    have e : Lib.itoa n :: ns.map Lib.itoa = (n :: ns).map Lib.itoa := by simp
    rw [e, List.map_map]
    exact map_same (fun m hm => numL_itoa (hb m hm).1 (hb m hm).2)
def numsI (s : List UInt8) : List Int := (Lib.splitK [44] 0 (Lib.count (Lib.trimSuffix s [44]) [44]) (Lib.trimSuffix s [44])).map (fun p => Lib.atoiOr p (-1099511627776))
theorem trim_snoc (s : List UInt8) : Lib.trimSuffix (s ++ [44]) [44] = s := by
  unfold Lib.trimSuffix
  have h : Lib.hasSuffix (s ++ [44]) [44] = true := by simp [Lib.hasSuffix]
  rw [if_pos h]
  simp
theorem itoa_ne (n : Int) : Lib.itoa n ≠ [] := by
  unfold Lib.itoa
  split
  · simp
  · exact decDigits_ne _
theorem glue_last : ∀ (ns : List Int) (n : Int), ∃ c, (glue 44 (Lib.itoa n) (ns.map Lib.itoa)).getLast? = some c ∧ c ≠ 44
  | [], n => by
    have hne := itoa_ne n
    refine ⟨(Lib.itoa n).getLast hne, ?_, fun e => itoa_no44 n (e ▸ List.getLast_mem hne)⟩
    have e : glue 44 (Lib.itoa n) (([] : List Int).map Lib.itoa) = Lib.itoa n := by simp [glue]
    rw [e]
    exact List.getLast?_eq_some_getLast hne
  | m :: ms, n => by
    obtain ⟨c, h1, h2⟩ := glue_last ms m
    refine ⟨c, ?_, h2⟩
    have e : glue 44 (Lib.itoa n) ((m :: ms).map Lib.itoa) = Lib.itoa n ++ 44 :: glue 44 (Lib.itoa m) (ms.map Lib.itoa) := by simp [glue]
    rw [e, List.getLast?_append, List.getLast?_cons, h1]
    rfl
theorem between_last {zs : List Int} : ∀ t, betweenL zs ≠ t ++ [44] := by
  intro t h
  cases zs with
  | nil => simp [betweenL] at h
  | cons n ns =>
    obtain ⟨c, h1, h2⟩ := glue_last ns n
    have e : betweenL (n :: ns) = glue 44 (Lib.itoa n) (ns.map Lib.itoa) := rfl
    rw [← e, h, List.getLast?_append] at h1
    simp at h1
    exact h2 h1.symm
theorem trim_between (zs : List Int) : Lib.trimSuffix (betweenL zs) [44] = betweenL zs := by
  unfold Lib.trimSuffix
  have h : Lib.hasSuffix (betweenL zs) [44] = false := by
    rw [← Bool.not_eq_true]
    intro h
    simp only [Lib.hasSuffix, List.isSuffixOf_iff_suffix] at h
    obtain ⟨t, ht⟩ := h
    exact between_last t ht.symm
  rw [h]
  rfl
theorem numsI_between {zs : List Int} (h0 : zs ≠ []) (hb : ∀ n ∈ zs, -99 ≤ n ∧ n ≤ 99) : numsI (betweenL zs) = zs := by
  unfold numsI
  rw [trim_between]
  cases zs with
  | nil => exact absurd rfl h0
  | cons n ns =>
    unfold betweenL
    rw [count_glue _ _ (itoa_no44 n) (itoas_no44 ns), splitK_glue _ _ (itoa_no44 n) (itoas_no44 ns)]
    have e : Lib.itoa n :: ns.map Lib.itoa = (n :: ns).map Lib.itoa := by simp
    rw [e, List.map_map]
    exact map_same (fun m hm => atoiOr_itoa (n := m) (by have := hb m hm; omega) (by have := hb m hm; omega))
theorem numsI_commas {zs : List Int} (h0 : zs ≠ []) (hb : ∀ n ∈ zs, -99 ≤ n ∧ n ≤ 99) : numsI (commasL zs) = zs := by
  cases zs with
  | nil => exact absurd rfl h0
  | cons n ns =>
    have h := numsI_between (zs := n :: ns) (by simp) hb
    unfold numsI at h ⊢
    rw [commasL_between, trim_snoc]
    rw [trim_between] at h
    exact h
end Go.Proofs.YtilldpoleiippaaDoor

/-! What is read of a text as a game: the reference's pieces and the program's; no program; no condition. -/
namespace Go.Proofs.YtilldpoleiippaaDoor
open Go.RowKit

/-- Five numbers as a figure. -/
def rqOf (l : List Int) : Rq := ⟨l.getD 0 0, l.getD 1 0, l.getD 2 0, l.getD 3 0, l.getD 4 0⟩
theorem rqOf_five (e : Rq) : rqOf (fiveOf e) = e := rfl
def readG (ps : List (List UInt8)) : Gm := ⟨(ps.drop 2).map (fun p => rqOf (numsL p)), (numsL (ps.getD 0 [])).dropLast, (numsL (ps.getD 1 [])).dropLast⟩
def readGI (ps : List (List UInt8)) : Gm := ⟨(ps.drop 2).map (fun p => rqOf (numsI p)), numsI (ps.getD 0 []), numsI (ps.getD 1 [])⟩
def splitG (s : List UInt8) : List (List UInt8) := Lib.splitK [47] 0 (Lib.count s [47]) s

theorem ne_of_len {l : List Int} {n : Nat} (h : l.length = n + 1) : l ≠ [] := by
  intro e
  rw [e] at h
  simp at h
theorem five_bounds {g : Gm} (h : gameB g = true) {e : Rq} (he : e ∈ g.es) : ∀ n ∈ fiveOf e, -99 ≤ n ∧ n ≤ 99 := fun n hn => by
  have := (game_nums h).2.2 e he n hn
  omega
theorem numsL_five {g : Gm} (h : gameB g = true) {e : Rq} (he : e ∈ g.es) : numsL (betweenL (fiveOf e)) = fiveOf e :=
  nums_between (by simp [fiveOf]) (by simp [fiveOf]) (five_bounds h he)
theorem numsI_five {g : Gm} (h : gameB g = true) {e : Rq} (he : e ∈ g.es) : numsI (betweenL (fiveOf e)) = fiveOf e :=
  numsI_between (by simp [fiveOf]) (five_bounds h he)
theorem readG_game {g : Gm} (h : gameB g = true) : readG (commasL g.fl :: restG g) = g := by
  obtain ⟨h1, h2, h3⟩ := game_nums h
  obtain ⟨l1, l2⟩ := game_lens h
  have e1 : (numsL (commasL g.fl)).dropLast = g.fl := nums_commas (ne_of_len l1) (by omega) (fun n hn => by have := h1 n hn; omega)
  have e2 : (numsL (commasL g.la)).dropLast = g.la := nums_commas (ne_of_len l2) (by omega) (fun n hn => by have := h2 n hn; omega)
  have e3 : (g.es.map fun e => betweenL (fiveOf e)).map (fun p => rqOf (numsL p)) = g.es := by
    rw [List.map_map]
    refine (List.map_congr_left (g := fun x => x) fun e he => ?_).trans (List.map_id' _)
    show rqOf (numsL (betweenL (fiveOf e))) = e
    rw [numsL_five h he, rqOf_five]
  show (⟨(g.es.map fun e => betweenL (fiveOf e)).map (fun p => rqOf (numsL p)), (numsL (commasL g.fl)).dropLast, (numsL (commasL g.la)).dropLast⟩ : Gm) = g
  rw [e1, e2, e3]
theorem readGI_game {g : Gm} (h : gameB g = true) : readGI (commasL g.fl :: restG g) = g := by
  obtain ⟨h1, h2, h3⟩ := game_nums h
  obtain ⟨l1, l2⟩ := game_lens h
  have e1 : numsI (commasL g.fl) = g.fl := numsI_commas (ne_of_len l1) (fun n hn => by have := h1 n hn; omega)
  have e2 : numsI (commasL g.la) = g.la := numsI_commas (ne_of_len l2) (fun n hn => by have := h2 n hn; omega)
  have e3 : (g.es.map fun e => betweenL (fiveOf e)).map (fun p => rqOf (numsI p)) = g.es := by
    rw [List.map_map]
    refine (List.map_congr_left (g := fun x => x) fun e he => ?_).trans (List.map_id' _)
    show rqOf (numsI (betweenL (fiveOf e))) = e
    rw [numsI_five h he, rqOf_five]
  show (⟨(g.es.map fun e => betweenL (fiveOf e)).map (fun p => rqOf (numsI p)), numsI (commasL g.fl), numsI (commasL g.la)⟩ : Gm) = g
  rw [e1, e2, e3]
theorem gameText_inj {g h : Gm} (hg : gameB g = true) (hh : gameB h = true) (e : gameText g = gameText h) : g = h := by
  have h1 := cut_game hg
  rw [e, cut_game hh] at h1
  rw [← readG_game hg, ← readG_game hh, h1]
theorem IsGame.uniq {s : List UInt8} {g h : Gm} {a b : Bool} (hg : IsGame s g a) (hh : IsGame s h b) : g = h ∧ a = b := by
  rcases hg with ⟨rfl, h1, h2⟩ | ⟨rfl, h1, h2⟩ <;> rcases hh with ⟨rfl, k1, k2⟩ | ⟨rfl, k1, k2⟩
  · exact ⟨gameText_inj h1 k1 (h2.trans k2.symm), rfl⟩
  · exact absurd h2 (k2 _ h1)
  · exact absurd k2 (h2 _ k1)
  · exact ⟨h1.trans k1.symm, rfl⟩
theorem isGame_yes {s : List UInt8} {g : Gm} (h : gameB g = true) (hs : gameText g = s) : IsGame s g true := .inl ⟨rfl, h, hs⟩
theorem isGame_no {s : List UInt8} (h : ∀ g, gameB g = true → gameText g ≠ s) : IsGame s ⟨[], [], []⟩ false := .inr ⟨rfl, rfl, h⟩
theorem rest_len (g : Gm) : (commasL g.fl :: restG g).length = g.es.length + 2 := by simp [restG]
/-- Too few pieces. -/
theorem isGame_spec_few {s : List UInt8} (h : (cutL 47 6 s).length < 2) : IsGame s ⟨[], [], []⟩ false := isGame_no fun g hg e => by
  subst e
  rw [cut_game hg, rest_len] at h
  omega
theorem isGame_impl_few {s : List UInt8} (h : (splitG s).length < 2) : IsGame s ⟨[], [], []⟩ false := isGame_no fun g hg e => by
  subst e
  unfold splitG at h
  rw [splitG_game, rest_len] at h
  omega
/-- A figure of another number of numbers. -/
theorem rest_at {g : Gm} {k : Nat} {p : List UInt8} (hk : 2 ≤ k) (hp : (commasL g.fl :: restG g)[k]? = some p) : ∃ e ∈ g.es, p = betweenL (fiveOf e) := by
  obtain ⟨j, rfl⟩ := Nat.exists_eq_add_of_le hk
  rw [Nat.add_comm] at hp
  simp only [restG, List.getElem?_cons_succ] at hp
  obtain ⟨e, he, rfl⟩ := List.mem_map.1 (List.mem_of_getElem? hp)
  exact ⟨e, he, rfl⟩
theorem isGame_spec_five {s p : List UInt8} {k : Nat} (hk : 2 ≤ k) (hp : (cutL 47 6 s)[k]? = some p) (h : (numsL p).length ≠ 5) : IsGame s ⟨[], [], []⟩ false := isGame_no fun g hg e => by
  subst e
  rw [cut_game hg] at hp
  obtain ⟨e, he, rfl⟩ := rest_at hk hp
  rw [numsL_five hg he] at h
  exact h rfl
theorem isGame_impl_five {s p : List UInt8} {k : Nat} (hk : 2 ≤ k) (hp : (splitG s)[k]? = some p) (h : (numsI p).length ≠ 5) : IsGame s ⟨[], [], []⟩ false := isGame_no fun g hg e => by
  subst e
  unfold splitG at hp
  rw [splitG_game] at hp
  obtain ⟨e, he, rfl⟩ := rest_at hk hp
  rw [numsI_five hg he] at h
  exact h rfl
/-- What was read is none, or written another way. -/
theorem isGame_spec_no {s : List UInt8} (h : gameB (readG (cutL 47 6 s)) = true → gameText (readG (cutL 47 6 s)) ≠ s) : IsGame s ⟨[], [], []⟩ false := isGame_no fun g hg e => by
  subst e
  rw [cut_game hg, readG_game hg] at h
  exact h hg rfl
theorem isGame_impl_no {s : List UInt8} (h : gameB (readGI (splitG s)) = true → gameText (readGI (splitG s)) ≠ s) : IsGame s ⟨[], [], []⟩ false := isGame_no fun g hg e => by
  subst e
  unfold splitG at h
  rw [splitG_game, readGI_game hg] at h
  exact h hg rfl
end Go.Proofs.YtilldpoleiippaaDoor

/-! Contract of GameOk (the program's); condition: at most 2^20 elements. -/
namespace Go.Proofs.YtilldpoleiippaaDoor
open Go.RowKit Go.Joins

set_option maxHeartbeats 400000 in
theorem onBoard_c (x y : Int) (w : World) :
    Calls Tryd.prog 93 #[.int .i64 x, .int .i64 y] w fun e w' => e = .returned (.bool (inB x 0 3 && inB y 0 3)) ∧ w = w' := by
  cases h : inB x 0 3 with
  | true =>
    go_enter Tryd.func93, Tryd.ntmps93
    go_wp2_with (go_at_call 80; refine (in_c _ _ _ _).mono ?_; rintro e w' ⟨rfl, rfl⟩)
    go_ret
    exact ⟨ret_bool (by simp), rfl⟩
  | false =>
    go_enter Tryd.func93, Tryd.ntmps93
    go_wp2_with (go_at_call 80; refine (in_c _ _ _ _).mono ?_; rintro e w' ⟨rfl, rfl⟩)
    go_ret
    exact ⟨ret_bool (by simp), rfl⟩

set_option maxHeartbeats 400000 in
theorem notNum_c (n : Int) (w : World) :
    Calls Tryd.prog 95 #[.int .i64 n] w fun e w' => e = .returned (.bool (!inB n 0 30)) ∧ w = w' := by
  go_enter Tryd.func95, Tryd.ntmps95
  go_wp2_with (go_at_call 80; refine (in_c _ _ _ _).mono ?_; rintro e w' ⟨rfl, rfl⟩)
  go_ret
  exact ⟨rfl, rfl⟩

def IsFirstI (zs : List Int) (w : World) (e : Ending) (w' : World) : Prop :=
  ∃ m : Int, e = .returned (.int .i64 m) ∧ ((zs.all (fun n => inB n 0 30) = true ∧ m < 0) ∨ (zs.all (fun n => inB n 0 30) = false ∧ 0 ≤ m)) ∧ Below w.heap.size w w'

set_option maxRecDepth 100000 in
set_option maxHeartbeats 1000000 in
theorem firstBadI_c (a : Option Addr) (zs : List Int) (n cap : Nat) (w : World) (h : IsSl w (.slice a n cap) 1 intR zs) :
    Calls Tryd.prog 118 #[.slice a n cap, .func (.func 95) #[] #[]] w (IsFirstI zs w) := by
  obtain ⟨hnn, hlc, hm, hr⟩ := h.bounds
  have HR := Lib.hid hr
  clear hr h
  unfold maxLen at hm
  go_enter Tryd.func118, Tryd.ntmps118
  go_wp2_with fail
  go_loopw [8] (fun i wr => ∃ k : Nat, k ≤ n ∧ i = .int .i64 k ∧ (∀ j (hj : j < zs.length), j < k → inB zs[j] 0 30 = true) ∧ Below w.heap.size w wr) (fun i _ => n - (intOf i).toNat)
  case atStart => exact ⟨0, Nat.zero_le _, rfl, fun j _ hj => absurd hj (Nat.not_lt_zero j), Below.refl _ _⟩
  case round =>
    obtain ⟨k, hk, rfl, hall, hbel⟩ := hrel
    have HA := Lib.hid hall
    clear hall
    by_cases hlt : k < n
    · have hkz : k < zs.length := by omega
      have hk1 : (k : Int) < (n : Int) := by omega
      have hk0 : (0 : Int) ≤ (k : Int) := by omega
      obtain ⟨b, off, rfl, hb, hcz⟩ := one_at HR.out k hkz
      have d0 := hcz wr hbel
      clear hcz
      cases hg : inB zs[k] 0 30 with
      | true =>
        go_wp2_with fail
        refine (notNum_c zs[k] _).mono ?_
        rintro e w1 ⟨rfl, rfl⟩
        rw [hg]
        go_wp2_with fail
        refine ⟨⟨k + 1, by omega, by go_num, fun j hj hjk => ?_, hbel⟩, ?_⟩
        · by_cases hjk' : j = k
          · subst hjk'; exact hg
          · exact HA.out j hj (by omega)
        · simp [intOf]; omega
      | false =>
        go_wp2_with fail
        refine (notNum_c zs[k] _).mono ?_
        rintro e w1 ⟨rfl, rfl⟩
        rw [hg]
        go_wp2_with fail
        go_ret
        exact ⟨k, rfl, .inr ⟨all_bad hkz hg, by omega⟩, hbel⟩
    · go_wp2_with fail
      go_ret
      exact ⟨-1, rfl, .inl ⟨all_good HA.out (by omega), by omega⟩, hbel⟩

set_option maxHeartbeats 400000 in
theorem anyBadI_c (a : Option Addr) (zs : List Int) (n cap : Nat) (w : World) (h : IsSl w (.slice a n cap) 1 intR zs) :
    Calls Tryd.prog 94 #[.slice a n cap, .func (.func 95) #[] #[]] w fun e w' => e = .returned (.bool (!zs.all (fun n => inB n 0 30))) ∧ Below w.heap.size w w' := by
  have HI := Lib.hid (firstBadI_c a zs n cap w h)
  clear h
  go_enter Tryd.func94, Tryd.ntmps94
  go_wp2_with fail
  refine HI.out.mono ?_
  rintro e w1 ⟨m, rfl, hm, k1⟩
  rcases hm with ⟨ha, hm⟩ | ⟨ha, hm⟩
  · go_wp2_with fail
    go_ret
    exact ⟨ret_bool (by rw [ha]; simp; omega), k1⟩
  · go_wp2_with fail
    go_ret
    exact ⟨ret_bool (by rw [ha]; simp; try omega), k1⟩

set_option maxRecDepth 100000 in
set_option maxHeartbeats 4000000 in
theorem GameOk_c (z : Gm) (a0 a1 a2 : Option Addr) (c0 c1 c2 : Nat) (w : World) (h0 : IsSl w (.slice a0 z.es.length c0) 5 Rq.cs z.es) (h1 : IsSl w (.slice a1 z.fl.length c1) 1 intR z.fl) (h2 : IsSl w (.slice a2 z.la.length c2) 1 intR z.la)
    (hs : z.es.length + z.fl.length + z.la.length ≤ 4194304) :
    Calls Tryd.prog 42 #[.agg #[.slice a0 z.es.length c0, .slice a1 z.fl.length c1, .slice a2 z.la.length c2]] w fun e w' => e = .returned (.bool (gameB z)) ∧ Below w.heap.size w w' := by
  obtain ⟨es, fl, la⟩ := z
  simp only [gameB] at h0 h1 h2 hs ⊢
  obtain ⟨-, hlc0, hm0, hr0⟩ := h0.bounds
  obtain ⟨-, hlc1, hm1, hr1⟩ := h1.bounds
  obtain ⟨-, hlc2, hm2, hr2⟩ := h2.bounds
  have R0 := Lib.hid hr0
  have R1 := Lib.hid hr1
  have H2 := Lib.hid h2
  clear hr0 hr1 hr2 h0 h1 h2
  unfold maxLen at hm0 hm1 hm2
  generalize hn0 : es.length = n0 at *
  generalize hn1 : fl.length = n1 at *
  generalize hn2 : la.length = n2 at *
  go_enter Tryd.func42, Tryd.ntmps42
  go_wp2_with fail
  obtain ⟨W, hW, sW, aW, kW⟩ := blocks1 w (.cells #[.slice a0 n0 c0, .slice a1 n1 c1, .slice a2 n2 c2] 41)
  rw [← hW]
  clear hW
  have hcW := cell_of_block aW
  go_wp2_with fail
  go_loopw [3, 4, 12] (fun l s i wr => ∃ k : Nat, k ≤ n0 ∧ i = .int .i64 k ∧ l = .int .i64 (prevC es k) ∧ s = .int .i64 (golds (es.take k)) ∧ (∀ j, j < k → entAt es j = true) ∧ wr.heap[w.heap.size]? = some (.cells #[.slice a0 n0 c0, .slice a1 n1 c1, .slice a2 n2 c2] 41 (0, 0)) ∧ Below w.heap.size w wr) (fun _ _ i _ => n0 - (intOf i).toNat)
  case atStart => exact ⟨0, Nat.zero_le _, rfl, rfl, by simp [golds], fun j hj => absurd hj (Nat.not_lt_zero j), aW, kW⟩
  case round =>
    obtain ⟨k, hk, rfl, rfl, rfl, hall, hB, hbel⟩ := hrel
    obtain ⟨hp0, hp1⟩ := prev_bound hall
    obtain ⟨hg0, hg1⟩ := golds_bound (by omega) hall
    have HA := Lib.hid hall
    have HB := Lib.hid hB
    have hlB := lt_of_block hB
    have hcB := cell_of_block hB
    clear hall hB aW kW hcW
    by_cases hlt : k < n0
    · have hkz : k < es.length := by omega
      have hk1 : (k : Int) < (n0 : Int) := by omega
      have hk0 : (0 : Int) ≤ (k : Int) := by omega
      obtain ⟨b, off, rfl, hb, hcz⟩ := five_at R0.out k hkz
      obtain ⟨d0, d1, d2, d3, d4⟩ := hcz wr hbel
      have hb' := Nat.lt_of_lt_of_le hb hbel.size
      have hne : b ≠ wr.heap.size := by omega
      have hne' : w.heap.size ≠ wr.heap.size := by omega
      have hpn : prevC es (k + 1) = es[k].c := by unfold prevC; rw [if_neg (by omega), Nat.add_sub_cancel, entN_get hkz]
      have hgn := golds_snoc hkz
      have hat : entAt es k = figB (prevC es k) es[k] := by unfold entAt; rw [entN_get hkz]
      rw [entN_get hkz] at hgn
      have HP := Lib.hid hpn
      have HG := Lib.hid hgn
      have HT := Lib.hid hat
      clear hcz hpn hgn hat
      generalize prevC es k = L at *
      generalize golds (es.take k) = G at *
      generalize es[k] = z at *
      have hL : IntKind.i64.wrap (L + 1) = L + 1 := IntWalk.i64_in _ ⟨by omega, by omega⟩
      go_wp2_with fail
      obtain ⟨X, hX, sX, aX, kX⟩ := blocks1 wr (.cells #[.int .i64 z.c, .int .i64 z.n, .int .i64 z.o, .int .i64 z.x, .int .i64 z.y] 92)
      rw [← hX]
      clear hX
      have oX := carryB kX hlB HB.out
      have KX := below_next hbel kX
      have hcX := cell_of_block aX
      clear kX d0 d1 d2 d3 d4 hcB
      cases e1 : inB z.c (L + 1) 4 with
      | false =>
        go_wp2_with (first | (go_at_call 80; refine (in_c _ _ _ _).mono ?_; rintro e w' ⟨rfl, rfl⟩) | (go_at_call 93; refine (onBoard_c _ _ _).mono ?_; rintro e w' ⟨rfl, rfl⟩))
        go_ret
        refine ⟨ret_bool ?_, KX⟩
        rw [entsB_bad hkz (by rw [HT.out]; simp only [figB, e1, Bool.false_and])]
        rfl
      | true =>
        cases e2 : inB z.n 0 3 with
        | false =>
          go_wp2_with (first | (go_at_call 80; refine (in_c _ _ _ _).mono ?_; rintro e w' ⟨rfl, rfl⟩) | (go_at_call 93; refine (onBoard_c _ _ _).mono ?_; rintro e w' ⟨rfl, rfl⟩))
          go_ret
          refine ⟨ret_bool ?_, KX⟩
          rw [entsB_bad hkz (by rw [HT.out]; simp only [figB, e1, e2, Bool.false_and, Bool.and_false])]
          rfl
        | true =>
          cases e3 : inB z.o 0 3 with
          | false =>
            go_wp2_with (first | (go_at_call 80; refine (in_c _ _ _ _).mono ?_; rintro e w' ⟨rfl, rfl⟩) | (go_at_call 93; refine (onBoard_c _ _ _).mono ?_; rintro e w' ⟨rfl, rfl⟩))
            go_ret
            refine ⟨ret_bool ?_, KX⟩
            rw [entsB_bad hkz (by rw [HT.out]; simp only [figB, e1, e2, e3, Bool.false_and, Bool.and_false])]
            rfl
          | true =>
            cases e4 : inB z.x 0 3 with
            | false =>
              go_wp2_with (first | (go_at_call 80; refine (in_c _ _ _ _).mono ?_; rintro e w' ⟨rfl, rfl⟩) | (go_at_call 93; refine (onBoard_c _ _ _).mono ?_; rintro e w' ⟨rfl, rfl⟩))
              go_ret
              refine ⟨ret_bool ?_, KX⟩
              rw [entsB_bad hkz (by rw [HT.out]; simp only [figB, e1, e2, e3, e4, Bool.false_and, Bool.and_false])]
              rfl
            | true =>
              cases e5 : inB z.y 0 20 with
              | false =>
                go_wp2_with (first | (go_at_call 80; refine (in_c _ _ _ _).mono ?_; rintro e w' ⟨rfl, rfl⟩) | (go_at_call 93; refine (onBoard_c _ _ _).mono ?_; rintro e w' ⟨rfl, rfl⟩))
                go_ret
                refine ⟨ret_bool ?_, KX⟩
                rw [entsB_bad hkz (by rw [HT.out]; simp only [figB, e1, e2, e3, e4, e5, Bool.and_false])]
                rfl
              | true =>
                have hy := (inB_iff _ _ _).1 e5
                have hGy : IntKind.i64.wrap (G + z.y) = G + z.y := IntWalk.i64_in _ ⟨by omega, by omega⟩
                go_wp2_with (first | (go_at_call 80; refine (in_c _ _ _ _).mono ?_; rintro e w' ⟨rfl, rfl⟩) | (go_at_call 93; refine (onBoard_c _ _ _).mono ?_; rintro e w' ⟨rfl, rfl⟩))
                refine ⟨⟨k + 1, by omega, by go_num, by rw [HP.out], by rw [HG.out], fun j hj => ?_, oX, KX⟩, ?_⟩
                · by_cases hjk : j = k
                  · subst hjk
                    rw [HT.out]
                    simp only [figB, e1, e2, e3, e4, e5]
                    rfl
                  · exact HA.out j (by omega)
                · simp [intOf]; omega
    · have hkk : n0 = k := by omega
      subst hkk
      have hents : entsB es = true := by
        rw [entsB_iff]
        exact fun j hj => HA.out j (by omega)
      rw [show es.take n0 = es by exact List.take_of_length_le (by omega)] at hg0 hg1 ⊢
      have HE := Lib.hid hents
      clear hents
      generalize hG : golds es = G at *
      go_wp2_with fail
      go_loopw [4, 8, 52] (fun s _ i wr => ∃ k : Nat, k ≤ n1 ∧ i = .int .i64 k ∧ s = .int .i64 (G + (fl.take k).sum) ∧ (∀ j (hj : j < fl.length), j < k → inB fl[j] 0 20 = true) ∧ wr.heap[w.heap.size]? = some (.cells #[.slice a0 n0 c0, .slice a1 n1 c1, .slice a2 n2 c2] 41 (0, 0)) ∧ Below w.heap.size w wr) (fun _ _ i _ => n1 - (intOf i).toNat)
      case atStart => exact ⟨0, Nat.zero_le _, rfl, by simp, fun j _ hj => absurd hj (Nat.not_lt_zero j), HB.out, hbel⟩
      case round =>
        clear hcB hbel HB HA hlB hlt
        obtain ⟨k, hk, rfl, rfl, hall, hB, hbel⟩ := hrel
        obtain ⟨hs0, hs1⟩ := sum_bound (by omega) hall
        have HA := Lib.hid hall
        have HB := Lib.hid hB
        have hlB := lt_of_block hB
        have hcB := cell_of_block hB
        clear hall hB
        by_cases hlt : k < n1
        · have hkz : k < fl.length := by omega
          have hk1 : (k : Int) < (n1 : Int) := by omega
          have hk0 : (0 : Int) ≤ (k : Int) := by omega
          obtain ⟨b, off, rfl, hb, hcz⟩ := one_at R1.out k hkz
          have d0 := hcz wr hbel
          have HG := Lib.hid (sum_snoc hkz)
          clear hcz
          cases e1 : inB fl[k] 0 20 with
          | false =>
            go_wp2_with (first | (go_at_call 80; refine (in_c _ _ _ _).mono ?_; rintro e w' ⟨rfl, rfl⟩) | (go_at_call 93; refine (onBoard_c _ _ _).mono ?_; rintro e w' ⟨rfl, rfl⟩))
            go_ret
            refine ⟨ret_bool ?_, hbel⟩
            rw [all_bad (p := fun n => inB n 0 20) hkz e1, HE.out]
            rfl
          | true =>
            have hy := (inB_iff _ _ _).1 e1
            have hGy : IntKind.i64.wrap (G + (fl.take k).sum + fl[k]) = G + (fl.take k).sum + fl[k] := IntWalk.i64_in _ ⟨by omega, by omega⟩
            go_wp2_with (first | (go_at_call 80; refine (in_c _ _ _ _).mono ?_; rintro e w' ⟨rfl, rfl⟩) | (go_at_call 93; refine (onBoard_c _ _ _).mono ?_; rintro e w' ⟨rfl, rfl⟩))
            go_roundw
            case rel =>
              refine ⟨k + 1, by omega, ?_, ?_, fun j hj hjk => ?_, HB.out, hbel⟩
              · go_num
              · rw [HG.out, Int.add_assoc]
              · by_cases hjk' : j = k
                · subst hjk'; exact e1
                · exact HA.out j hj (by omega)
            case measure => simp [intOf]; omega
        · have hkk : k = n1 := by omega
          have hfl : fl.all (fun n => inB n 0 20) = true := all_good HA.out (by omega)
          rw [show fl.take k = fl by rw [hkk]; exact List.take_of_length_le (by omega)] at hs0 hs1 ⊢
          clear hlt HA
          have HF := Lib.hid hfl
          clear hfl
          generalize hF : fl.sum = F at *
          by_cases q1 : n1 = 16
          · have q1' : ((n1 : Int) == 16) = true := by simp; omega
            have Q1 := Lib.hid q1
            clear q1
            by_cases q2 : n2 = 4
            · have q2' : ((n2 : Int) == 4) = true := by simp; omega
              have Q2 := Lib.hid q2
              clear q2
              by_cases q3 : G + F = 20
              · have q3' : (G + F == 20) = true := by simp; omega
                have Q3 := Lib.hid q3
                clear q3
                go_wp2_with fail
                refine (anyBadI_c a2 la n2 c2 _ (H2.out.below hbel)).mono ?_
                rintro e w1 ⟨rfl, k1⟩
                go_wp2_with fail
                go_ret
                exact ⟨ret_bool (by rw [HE.out, HF.out, hG, hF]; simp [Q1.out, Q2.out, Q3.out]), below_next hbel k1⟩
              · have q3' : (G + F == 20) = false := by simp; omega
                have Q3 := Lib.hid q3
                clear q3
                go_wp2_with fail
                go_ret
                exact ⟨ret_bool (by rw [HE.out, HF.out, hG, hF]; simp [Q3.out]), hbel⟩
            · have q2' : ((n2 : Int) == 4) = false := by simp; omega
              have Q2 := Lib.hid q2
              clear q2
              go_wp2_with fail
              go_ret
              exact ⟨ret_bool (by rw [HE.out, HF.out, hG, hF]; simp [Q2.out]), hbel⟩
          · have q1' : ((n1 : Int) == 16) = false := by simp; omega
            have Q1 := Lib.hid q1
            clear q1
            go_wp2_with fail
            go_ret
            exact ⟨ret_bool (by rw [HE.out, HF.out, hG, hF]; simp [Q1.out]), hbel⟩
end Go.Proofs.YtilldpoleiippaaDoor

/-! Contract of the reference's GameOk; condition: at most 2^20 elements. -/
namespace Go.Proofs.YtilldpoleiippaaDoor
open Go.RowKit Go.Joins

def figS (c n o x y : Int) : Bool := inB c 1 4 && inB n 0 3 && inB o 0 3 && inB x 0 3 && inB y 0 20

set_option maxHeartbeats 1000000 in
theorem l2EntOk_c (c n o x y : Int) (w : World) :
    Calls Tryd.prog 105 #[.agg #[.int .i64 c, .int .i64 n, .int .i64 o, .int .i64 x, .int .i64 y]] w fun e w' => e = .returned (.bool (figS c n o x y)) ∧ Below w.heap.size w w' := by
  go_enter Tryd.func105, Tryd.ntmps105
  go_wp2_with (go_at_call 106; refine (l1In_c _ _ _ _).mono ?_; rintro e w' ⟨rfl, rfl⟩)
  all_goals go_ret
  all_goals refine ⟨ret_bool ?_, (by repeat' (first | with_reducible exact Below.refl _ _ | with_reducible assumption | with_reducible refine Below.alloc ?_ ?_ _ | with_reducible refine Below.drew ?_ | with_reducible refine Below.setCell ?_ ?_ _ | omega | (simp; omega) | (simp; done)))⟩
  all_goals simp_all [figS]

theorem l2EntOk_v (c n o x y : Int) (w : World) (b : Bool) (h : figS c n o x y = b) :
    Calls Tryd.prog 105 #[.agg #[.int .i64 c, .int .i64 n, .int .i64 o, .int .i64 x, .int .i64 y]] w fun e w' => e = .returned (.bool b) ∧ Below w.heap.size w w' := by
  rw [← h]; exact l2EntOk_c c n o x y w

theorem entAt_first {es : List Rq} {z : Rq} (hz : entN es 0 = z) : entAt es 0 = figS z.c z.n z.o z.x z.y := by
  unfold entAt prevC
  rw [if_pos rfl, hz]
  simp only [figB, figS, Int.zero_add, Bool.and_assoc]
theorem entAt_next {es : List Rq} {m : Nat} {z p : Rq} (h : ∀ j, j < m + 1 → entAt es j = true) (hz : entN es (m + 1) = z) (hp : entN es m = p) : entAt es (m + 1) = (figS z.c z.n z.o z.x z.y && !decide (z.c ≤ p.c)) := by
  have h1 := (figB_iff _ _).1 (h m (by omega))
  have h2 := (prev_bound (k := m) (fun j hj => h j (by omega))).1
  rw [hp] at h1
  unfold entAt
  rw [show prevC es (m + 1) = p.c by unfold prevC; rw [if_neg (by omega), Nat.add_sub_cancel, hp], hz]
  rw [Bool.eq_iff_iff, figB_iff]
  simp only [figS, Bool.and_eq_true, inB_iff, Bool.not_eq_true', decide_eq_false_iff_not]
  constructor
  · rintro ⟨⟨a1, a2⟩, ⟨b1, b2⟩, ⟨c1, c2⟩, ⟨d1, d2⟩, ⟨e1, e2⟩⟩
    omega
  · rintro ⟨⟨⟨⟨⟨⟨a1, a2⟩, b1, b2⟩, c1, c2⟩, d1, d2⟩, e1, e2⟩, f⟩
    omega

set_option maxRecDepth 100000 in
set_option maxHeartbeats 4000000 in
theorem l2Ok_c (z : Gm) (a0 a1 a2 : Option Addr) (c0 c1 c2 : Nat) (w : World) (h0 : IsSl w (.slice a0 z.es.length c0) 5 Rq.cs z.es) (h1 : IsSl w (.slice a1 z.fl.length c1) 1 intR z.fl) (h2 : IsSl w (.slice a2 z.la.length c2) 1 intR z.la)
    (hs : z.es.length + z.fl.length + z.la.length ≤ 4194304) :
    Calls Tryd.prog 62 #[.agg #[.slice a0 z.es.length c0, .slice a1 z.fl.length c1, .slice a2 z.la.length c2]] w fun e w' => e = .returned (.bool (gameB z)) ∧ Below w.heap.size w w' := by
  obtain ⟨es, fl, la⟩ := z
  simp only [gameB] at h0 h1 h2 hs ⊢
  obtain ⟨-, hlc0, hm0, hr0⟩ := h0.bounds
  obtain ⟨-, hlc1, hm1, hr1⟩ := h1.bounds
  obtain ⟨-, hlc2, hm2, hr2⟩ := h2.bounds
  have R0 := Lib.hid hr0
  have R1 := Lib.hid hr1
  have R2 := Lib.hid hr2
  clear hr0 hr1 hr2 h0 h1 h2
  unfold maxLen at hm0 hm1 hm2
  generalize hn0 : es.length = n0 at *
  generalize hn1 : fl.length = n1 at *
  generalize hn2 : la.length = n2 at *
  go_enter Tryd.func62, Tryd.ntmps62
  go_wp2_with fail
  obtain ⟨W, hW, sW, aW, kW⟩ := blocks1 w (.cells #[.slice a0 n0 c0, .slice a1 n1 c1, .slice a2 n2 c2] 41)
  rw [← hW]
  clear hW
  have hcW := cell_of_block aW
  go_loopw [3, 4] (fun s i wr => ∃ k : Nat, k ≤ n0 ∧ i = .int .i64 k ∧ s = .int .i64 (golds (es.take k)) ∧ (∀ j, j < k → entAt es j = true) ∧ wr.heap[w.heap.size]? = some (.cells #[.slice a0 n0 c0, .slice a1 n1 c1, .slice a2 n2 c2] 41 (0, 0)) ∧ Below w.heap.size w wr) (fun _ i _ => n0 - (intOf i).toNat)
  case atStart => exact ⟨0, Nat.zero_le _, rfl, by simp [golds], fun j hj => absurd hj (Nat.not_lt_zero j), aW, kW⟩
  case round =>
    obtain ⟨k, hk, rfl, rfl, hall, hB, hbel⟩ := hrel
    obtain ⟨hg0, hg1⟩ := golds_bound (by omega) hall
    have HA := Lib.hid hall
    have HB := Lib.hid hB
    have hlB := lt_of_block hB
    have hcB := cell_of_block hB
    clear hall hB aW kW hcW
    by_cases hlt : k < n0
    · have hkz : k < es.length := by omega
      have hk1 : (k : Int) < (n0 : Int) := by omega
      have hk0 : (0 : Int) ≤ (k : Int) := by omega
      obtain ⟨b, off, rfl, hb, hcz⟩ := five_at R0.out k hkz
      obtain ⟨d0, d1, d2, d3, d4⟩ := hcz wr hbel
      have hb' := Nat.lt_of_lt_of_le hb hbel.size
      have hgn := golds_snoc hkz
      have hez := entN_get hkz
      rw [hez] at hgn
      have HG := Lib.hid hgn
      clear hcz hgn
      generalize golds (es.take k) = G at *
      generalize es[k] = z at *
      by_cases hk00 : k = 0
      · subst hk00
        have HT := Lib.hid (entAt_first hez)
        have HZ := Lib.hid hez
        clear hez
        rw [Nat.zero_mul, Nat.add_zero] at d0 d1 d2 d3 d4
        cases e1 : figS z.c z.n z.o z.x z.y with
        | false =>
          go_wp2_with fail
          refine wp_region_held_drew (S := fun w' => (∀ b o, b < wr.heap.size → w'.cell? ⟨b, o, none⟩ = wr.cell? ⟨b, o, none⟩) ∧ Below wr.heap.size wr w') (by kernel_rfl) (Kept.start wr) (fun hHeld => ?_)
          refine wpAnyH_take (i := 0) (oi := _) (v := ?_) (by (simp only [List.getElem?_toArray]; rfl)) (by kernel_rfl) (by kernel_rfl) (by kernel_rfl) (by exact fun _ _ _ h => h) (Or.inl ⟨by rfl, ?_⟩) (by assumption) ?_
          rotate_left
          · intro wS hSw
            go_simp
            all_goals first | with_reducible rfl | rw [if_neg (by omega)]
          simp only [Act.put, List.setIfInBounds_toArray, List.set]
          refine wpAnyH_take (i := 1) (oi := _) (v := ?_) (by (simp only [List.getElem?_toArray]; rfl)) (by kernel_rfl) (by kernel_rfl) (by kernel_rfl) (by exact fun _ _ _ h => h) (Or.inl ⟨by rfl, ?_⟩) (by assumption) ?_
          rotate_left
          · intro wS hSw
            go_simp
            all_goals first | with_reducible rfl | rw [if_neg (by omega)]
          simp only [Act.put, List.setIfInBounds_toArray, List.set]
          refine wpAnyH_take (i := 2) (oi := _) (v := ?_) (by (simp only [List.getElem?_toArray]; rfl)) (by kernel_rfl) (by kernel_rfl) (by kernel_rfl) (by exact fun _ _ _ h => h) (Or.inl ⟨by rfl, ?_⟩) (by assumption) ?_
          rotate_left
          · intro wS hSw
            go_simp
            all_goals first | with_reducible rfl | rw [if_neg (by omega)]
          simp only [Act.put, List.setIfInBounds_toArray, List.set]
          refine wpAnyH_take (i := 3) (oi := _) (v := ?_) (by (simp only [List.getElem?_toArray]; rfl)) (by kernel_rfl) (by kernel_rfl) (by kernel_rfl) (by exact fun _ _ _ h => h) (Or.inl ⟨by rfl, ?_⟩) (by assumption) ?_
          rotate_left
          · intro wS hSw
            go_simp
            all_goals first | with_reducible rfl | rw [if_neg (by omega)]
          simp only [Act.put, List.setIfInBounds_toArray, List.set]
          refine wpAnyH_take (i := 4) (oi := _) (v := ?_) (by (simp only [List.getElem?_toArray]; rfl)) (by kernel_rfl) (by kernel_rfl) (by kernel_rfl) (by exact fun _ _ _ h => h) (Or.inl ⟨by rfl, ?_⟩) (by assumption) ?_
          rotate_left
          · intro wS hSw
            go_simp
            all_goals first | with_reducible rfl | rw [if_neg (by omega)]
          simp only [Act.put, List.setIfInBounds_toArray, List.set]
          refine wpAnyH_ready (rs := [5]) (by kernel_rfl) (by simp) ?_
          refine AllReadyH.cons (o := _) (by (simp only [List.getElem?_toArray]; rfl)) (fun K hK => ?_) AllReadyH.nil
          go_simp
          refine (l2EntOk_v z.c z.n z.o z.x z.y _ _ e1).mono ?_
          rintro e w1 ⟨rfl, k1⟩
          have kS := Kept.next (Nat.le_refl _) (Kept.start wr) k1
          have K1 := below_next hbel kS.2
          refine hK.out _ _ kS (fun hHeld => ?_)
          clear hK K
          try simp only [Act.put, List.setIfInBounds_toArray, List.set]
          refine wpAnyH_take (i := 6) (oi := _) (v := ?_) (by (simp only [List.getElem?_toArray]; rfl)) (by kernel_rfl) (by kernel_rfl) (by kernel_rfl) (by exact fun _ _ _ h => h) (Or.inl ⟨by rfl, ?_⟩) (by assumption) ?_
          rotate_left
          · intro wS hSw
            go_simp
            all_goals first | with_reducible rfl | rw [if_neg (by omega)]
          simp only [Act.put, List.setIfInBounds_toArray, List.set]
          refine wpAnyH_take (i := 7) (oi := _) (v := ?_) (by (simp only [List.getElem?_toArray]; rfl)) (by kernel_rfl) (by kernel_rfl) (by kernel_rfl) (by exact fun _ _ _ h => h) (Or.inl ⟨by rfl, ?_⟩) (by assumption) ?_
          rotate_left
          · intro wS hSw
            go_simp
            all_goals first | with_reducible rfl | rw [if_neg (by omega)]
          simp only [Act.put, List.setIfInBounds_toArray, List.set]
          refine wpAnyH_take (i := 8) (oi := _) (v := undef) (by (simp only [List.getElem?_toArray]; rfl)) (by kernel_rfl) (by kernel_rfl) (by kernel_rfl) (by exact fun _ _ _ h => h) (Or.inr ⟨by rfl, rfl⟩) (by assumption) ?_
          simp only [Act.put, List.setIfInBounds_toArray, List.set]
          refine wpAnyH_take (i := 9) (oi := _) (v := undef) (by (simp only [List.getElem?_toArray]; rfl)) (by kernel_rfl) (by kernel_rfl) (by kernel_rfl) (by exact fun _ _ _ h => h) (Or.inr ⟨by rfl, rfl⟩) (by assumption) ?_
          simp only [Act.put, List.setIfInBounds_toArray, List.set]
          refine wpAnyH_take (i := 10) (oi := _) (v := undef) (by (simp only [List.getElem?_toArray]; rfl)) (by kernel_rfl) (by kernel_rfl) (by kernel_rfl) (by exact fun _ _ _ h => h) (Or.inr ⟨by rfl, rfl⟩) (by assumption) ?_
          simp only [Act.put, List.setIfInBounds_toArray, List.set]
          refine wpAnyH_take (i := 11) (oi := _) (v := undef) (by (simp only [List.getElem?_toArray]; rfl)) (by kernel_rfl) (by kernel_rfl) (by kernel_rfl) (by exact fun _ _ _ h => h) (Or.inr ⟨by rfl, rfl⟩) (by assumption) ?_
          simp only [Act.put, List.setIfInBounds_toArray, List.set]
          refine wpAnyH_take (i := 12) (oi := _) (v := undef) (by (simp only [List.getElem?_toArray]; rfl)) (by kernel_rfl) (by kernel_rfl) (by kernel_rfl) (by exact fun _ _ _ h => h) (Or.inr ⟨by rfl, rfl⟩) (by assumption) ?_
          simp only [Act.put, List.setIfInBounds_toArray, List.set]
          refine wpAnyH_take (i := 13) (oi := _) (v := undef) (by (simp only [List.getElem?_toArray]; rfl)) (by kernel_rfl) (by kernel_rfl) (by kernel_rfl) (by exact fun _ _ _ h => h) (Or.inr ⟨by rfl, rfl⟩) (by assumption) ?_
          simp only [Act.put, List.setIfInBounds_toArray, List.set]
          refine wpAnyH_take (i := 14) (oi := _) (v := undef) (by (simp only [List.getElem?_toArray]; rfl)) (by kernel_rfl) (by kernel_rfl) (by kernel_rfl) (by exact fun _ _ _ h => h) (Or.inr ⟨by rfl, rfl⟩) (by assumption) ?_
          simp only [Act.put, List.setIfInBounds_toArray, List.set]
          refine wpAnyH_take (i := 15) (oi := _) (v := undef) (by (simp only [List.getElem?_toArray]; rfl)) (by kernel_rfl) (by kernel_rfl) (by kernel_rfl) (by exact fun _ _ _ h => h) (Or.inr ⟨by rfl, rfl⟩) (by assumption) ?_
          simp only [Act.put, List.setIfInBounds_toArray, List.set]
          refine wpAnyH_take (i := 16) (oi := _) (v := undef) (by (simp only [List.getElem?_toArray]; rfl)) (by kernel_rfl) (by kernel_rfl) (by kernel_rfl) (by exact fun _ _ _ h => h) (Or.inr ⟨by rfl, rfl⟩) (by assumption) ?_
          simp only [Act.put, List.setIfInBounds_toArray, List.set]
          refine wpAnyH_take (i := 17) (oi := _) (v := undef) (by (simp only [List.getElem?_toArray]; rfl)) (by kernel_rfl) (by kernel_rfl) (by kernel_rfl) (by exact fun _ _ _ h => h) (Or.inr ⟨by rfl, rfl⟩) (by assumption) ?_
          simp only [Act.put, List.setIfInBounds_toArray, List.set]
          refine wpAnyH_take (i := 18) (oi := _) (v := undef) (by (simp only [List.getElem?_toArray]; rfl)) (by kernel_rfl) (by kernel_rfl) (by kernel_rfl) (by exact fun _ _ _ h => h) (Or.inr ⟨by rfl, rfl⟩) (by assumption) ?_
          simp only [Act.put, List.setIfInBounds_toArray, List.set]
          refine wpAnyH_take (i := 19) (oi := _) (v := undef) (by (simp only [List.getElem?_toArray]; rfl)) (by kernel_rfl) (by kernel_rfl) (by kernel_rfl) (by exact fun _ _ _ h => h) (Or.inr ⟨by rfl, rfl⟩) (by assumption) ?_
          simp only [Act.put, List.setIfInBounds_toArray, List.set]
          refine wpAnyH_take (i := 20) (oi := _) (v := undef) (by (simp only [List.getElem?_toArray]; rfl)) (by kernel_rfl) (by kernel_rfl) (by kernel_rfl) (by exact fun _ _ _ h => h) (Or.inr ⟨by rfl, rfl⟩) (by assumption) ?_
          simp only [Act.put, List.setIfInBounds_toArray, List.set]
          refine wpAnyH_take (i := 21) (oi := _) (v := undef) (by (simp only [List.getElem?_toArray]; rfl)) (by kernel_rfl) (by kernel_rfl) (by kernel_rfl) (by exact fun _ _ _ h => h) (Or.inr ⟨by rfl, rfl⟩) (by assumption) ?_
          simp only [Act.put, List.setIfInBounds_toArray, List.set]
          refine wpAnyH_take (i := 22) (oi := _) (v := undef) (by (simp only [List.getElem?_toArray]; rfl)) (by kernel_rfl) (by kernel_rfl) (by kernel_rfl) (by exact fun _ _ _ h => h) (Or.inr ⟨by rfl, rfl⟩) (by assumption) ?_
          simp only [Act.put, List.setIfInBounds_toArray, List.set]
          refine wpAnyH_take (i := 23) (oi := _) (v := undef) (by (simp only [List.getElem?_toArray]; rfl)) (by kernel_rfl) (by kernel_rfl) (by kernel_rfl) (by exact fun _ _ _ h => h) (Or.inr ⟨by rfl, rfl⟩) (by assumption) ?_
          simp only [Act.put, List.setIfInBounds_toArray, List.set]
          refine wpAnyH_take (i := 24) (oi := _) (v := undef) (by (simp only [List.getElem?_toArray]; rfl)) (by kernel_rfl) (by kernel_rfl) (by kernel_rfl) (by exact fun _ _ _ h => h) (Or.inr ⟨by rfl, rfl⟩) (by assumption) ?_
          simp only [Act.put, List.setIfInBounds_toArray, List.set]
          refine wpAnyH_take (i := 25) (oi := _) (v := undef) (by (simp only [List.getElem?_toArray]; rfl)) (by kernel_rfl) (by kernel_rfl) (by kernel_rfl) (by exact fun _ _ _ h => h) (Or.inr ⟨by rfl, rfl⟩) (by assumption) ?_
          simp only [Act.put, List.setIfInBounds_toArray, List.set]
          refine wpAnyH_take (i := 26) (oi := _) (v := ?_) (by (simp only [List.getElem?_toArray]; rfl)) (by kernel_rfl) (by kernel_rfl) (by kernel_rfl) (by exact fun _ _ _ h => h) (Or.inl ⟨by rfl, ?_⟩) (by assumption) ?_
          rotate_left
          · intro wS hSw
            go_simp
            all_goals first | with_reducible rfl | rw [if_neg (by omega)]
          simp only [Act.put, List.setIfInBounds_toArray, List.set]
          refine wpAnyH_done (by kernel_rfl) ?_ _
          clear hHeld kS k1
          go_wp2_with fail
          go_ret
          refine ⟨ret_bool ?_, K1⟩
          rw [entsB_bad hkz (by rw [HT.out]; exact e1)]
          rfl
        | true =>
          go_wp2_with fail
          refine wp_region_held_drew (S := fun w' => (∀ b o, b < wr.heap.size → w'.cell? ⟨b, o, none⟩ = wr.cell? ⟨b, o, none⟩) ∧ Below wr.heap.size wr w') (by kernel_rfl) (Kept.start wr) (fun hHeld => ?_)
          refine wpAnyH_take (i := 0) (oi := _) (v := ?_) (by (simp only [List.getElem?_toArray]; rfl)) (by kernel_rfl) (by kernel_rfl) (by kernel_rfl) (by exact fun _ _ _ h => h) (Or.inl ⟨by rfl, ?_⟩) (by assumption) ?_
          rotate_left
          · intro wS hSw
            go_simp
            all_goals first | with_reducible rfl | rw [if_neg (by omega)]
          simp only [Act.put, List.setIfInBounds_toArray, List.set]
          refine wpAnyH_take (i := 1) (oi := _) (v := ?_) (by (simp only [List.getElem?_toArray]; rfl)) (by kernel_rfl) (by kernel_rfl) (by kernel_rfl) (by exact fun _ _ _ h => h) (Or.inl ⟨by rfl, ?_⟩) (by assumption) ?_
          rotate_left
          · intro wS hSw
            go_simp
            all_goals first | with_reducible rfl | rw [if_neg (by omega)]
          simp only [Act.put, List.setIfInBounds_toArray, List.set]
          refine wpAnyH_take (i := 2) (oi := _) (v := ?_) (by (simp only [List.getElem?_toArray]; rfl)) (by kernel_rfl) (by kernel_rfl) (by kernel_rfl) (by exact fun _ _ _ h => h) (Or.inl ⟨by rfl, ?_⟩) (by assumption) ?_
          rotate_left
          · intro wS hSw
            go_simp
            all_goals first | with_reducible rfl | rw [if_neg (by omega)]
          simp only [Act.put, List.setIfInBounds_toArray, List.set]
          refine wpAnyH_take (i := 3) (oi := _) (v := ?_) (by (simp only [List.getElem?_toArray]; rfl)) (by kernel_rfl) (by kernel_rfl) (by kernel_rfl) (by exact fun _ _ _ h => h) (Or.inl ⟨by rfl, ?_⟩) (by assumption) ?_
          rotate_left
          · intro wS hSw
            go_simp
            all_goals first | with_reducible rfl | rw [if_neg (by omega)]
          simp only [Act.put, List.setIfInBounds_toArray, List.set]
          refine wpAnyH_take (i := 4) (oi := _) (v := ?_) (by (simp only [List.getElem?_toArray]; rfl)) (by kernel_rfl) (by kernel_rfl) (by kernel_rfl) (by exact fun _ _ _ h => h) (Or.inl ⟨by rfl, ?_⟩) (by assumption) ?_
          rotate_left
          · intro wS hSw
            go_simp
            all_goals first | with_reducible rfl | rw [if_neg (by omega)]
          simp only [Act.put, List.setIfInBounds_toArray, List.set]
          refine wpAnyH_ready (rs := [5]) (by kernel_rfl) (by simp) ?_
          refine AllReadyH.cons (o := _) (by (simp only [List.getElem?_toArray]; rfl)) (fun K hK => ?_) AllReadyH.nil
          go_simp
          refine (l2EntOk_v z.c z.n z.o z.x z.y _ _ e1).mono ?_
          rintro e w1 ⟨rfl, k1⟩
          have kS := Kept.next (Nat.le_refl _) (Kept.start wr) k1
          have K1 := below_next hbel kS.2
          refine hK.out _ _ kS (fun hHeld => ?_)
          clear hK K
          try simp only [Act.put, List.setIfInBounds_toArray, List.set]
          refine wpAnyH_take (i := 6) (oi := _) (v := ?_) (by (simp only [List.getElem?_toArray]; rfl)) (by kernel_rfl) (by kernel_rfl) (by kernel_rfl) (by exact fun _ _ _ h => h) (Or.inl ⟨by rfl, ?_⟩) (by assumption) ?_
          rotate_left
          · intro wS hSw
            go_simp
            all_goals first | with_reducible rfl | rw [if_neg (by omega)]
          simp only [Act.put, List.setIfInBounds_toArray, List.set]
          refine wpAnyH_take (i := 7) (oi := _) (v := ?_) (by (simp only [List.getElem?_toArray]; rfl)) (by kernel_rfl) (by kernel_rfl) (by kernel_rfl) (by exact fun _ _ _ h => h) (Or.inl ⟨by rfl, ?_⟩) (by assumption) ?_
          rotate_left
          · intro wS hSw
            go_simp
            all_goals first | with_reducible rfl | rw [if_neg (by omega)]
          simp only [Act.put, List.setIfInBounds_toArray, List.set]
          refine wpAnyH_take (i := 8) (oi := _) (v := ?_) (by (simp only [List.getElem?_toArray]; rfl)) (by kernel_rfl) (by kernel_rfl) (by kernel_rfl) (by exact fun _ _ _ h => h) (Or.inl ⟨by rfl, ?_⟩) (by assumption) ?_
          rotate_left
          · intro wS hSw
            go_simp
            all_goals first | with_reducible rfl | rw [if_neg (by omega)]
          simp only [Act.put, List.setIfInBounds_toArray, List.set]
          refine wpAnyH_take (i := 9) (oi := _) (v := ?_) (by (simp only [List.getElem?_toArray]; rfl)) (by kernel_rfl) (by kernel_rfl) (by kernel_rfl) (by exact fun _ _ _ h => h) (Or.inl ⟨by rfl, ?_⟩) (by assumption) ?_
          rotate_left
          · intro wS hSw
            go_simp
            all_goals first | with_reducible rfl | rw [if_neg (by omega)]
          simp only [Act.put, List.setIfInBounds_toArray, List.set]
          refine wpAnyH_take (i := 10) (oi := _) (v := ?_) (by (simp only [List.getElem?_toArray]; rfl)) (by kernel_rfl) (by kernel_rfl) (by kernel_rfl) (by exact fun _ _ _ h => h) (Or.inl ⟨by rfl, ?_⟩) (by assumption) ?_
          rotate_left
          · intro wS hSw
            go_simp
            all_goals first | with_reducible rfl | rw [if_neg (by omega)]
          simp only [Act.put, List.setIfInBounds_toArray, List.set]
          refine wpAnyH_take (i := 11) (oi := _) (v := undef) (by (simp only [List.getElem?_toArray]; rfl)) (by kernel_rfl) (by kernel_rfl) (by kernel_rfl) (by exact fun _ _ _ h => h) (Or.inr ⟨by rfl, rfl⟩) (by assumption) ?_
          simp only [Act.put, List.setIfInBounds_toArray, List.set]
          refine wpAnyH_take (i := 12) (oi := _) (v := undef) (by (simp only [List.getElem?_toArray]; rfl)) (by kernel_rfl) (by kernel_rfl) (by kernel_rfl) (by exact fun _ _ _ h => h) (Or.inr ⟨by rfl, rfl⟩) (by assumption) ?_
          simp only [Act.put, List.setIfInBounds_toArray, List.set]
          refine wpAnyH_take (i := 13) (oi := _) (v := undef) (by (simp only [List.getElem?_toArray]; rfl)) (by kernel_rfl) (by kernel_rfl) (by kernel_rfl) (by exact fun _ _ _ h => h) (Or.inr ⟨by rfl, rfl⟩) (by assumption) ?_
          simp only [Act.put, List.setIfInBounds_toArray, List.set]
          refine wpAnyH_take (i := 14) (oi := _) (v := undef) (by (simp only [List.getElem?_toArray]; rfl)) (by kernel_rfl) (by kernel_rfl) (by kernel_rfl) (by exact fun _ _ _ h => h) (Or.inr ⟨by rfl, rfl⟩) (by assumption) ?_
          simp only [Act.put, List.setIfInBounds_toArray, List.set]
          refine wpAnyH_take (i := 15) (oi := _) (v := undef) (by (simp only [List.getElem?_toArray]; rfl)) (by kernel_rfl) (by kernel_rfl) (by kernel_rfl) (by exact fun _ _ _ h => h) (Or.inr ⟨by rfl, rfl⟩) (by assumption) ?_
          simp only [Act.put, List.setIfInBounds_toArray, List.set]
          refine wpAnyH_take (i := 16) (oi := _) (v := undef) (by (simp only [List.getElem?_toArray]; rfl)) (by kernel_rfl) (by kernel_rfl) (by kernel_rfl) (by exact fun _ _ _ h => h) (Or.inr ⟨by rfl, rfl⟩) (by assumption) ?_
          simp only [Act.put, List.setIfInBounds_toArray, List.set]
          refine wpAnyH_take (i := 17) (oi := _) (v := undef) (by (simp only [List.getElem?_toArray]; rfl)) (by kernel_rfl) (by kernel_rfl) (by kernel_rfl) (by exact fun _ _ _ h => h) (Or.inr ⟨by rfl, rfl⟩) (by assumption) ?_
          simp only [Act.put, List.setIfInBounds_toArray, List.set]
          refine wpAnyH_take (i := 18) (oi := _) (v := undef) (by (simp only [List.getElem?_toArray]; rfl)) (by kernel_rfl) (by kernel_rfl) (by kernel_rfl) (by exact fun _ _ _ h => h) (Or.inr ⟨by rfl, rfl⟩) (by assumption) ?_
          simp only [Act.put, List.setIfInBounds_toArray, List.set]
          refine wpAnyH_take (i := 19) (oi := _) (v := undef) (by (simp only [List.getElem?_toArray]; rfl)) (by kernel_rfl) (by kernel_rfl) (by kernel_rfl) (by exact fun _ _ _ h => h) (Or.inr ⟨by rfl, rfl⟩) (by assumption) ?_
          simp only [Act.put, List.setIfInBounds_toArray, List.set]
          refine wpAnyH_take (i := 20) (oi := _) (v := undef) (by (simp only [List.getElem?_toArray]; rfl)) (by kernel_rfl) (by kernel_rfl) (by kernel_rfl) (by exact fun _ _ _ h => h) (Or.inr ⟨by rfl, rfl⟩) (by assumption) ?_
          simp only [Act.put, List.setIfInBounds_toArray, List.set]
          refine wpAnyH_take (i := 21) (oi := _) (v := undef) (by (simp only [List.getElem?_toArray]; rfl)) (by kernel_rfl) (by kernel_rfl) (by kernel_rfl) (by exact fun _ _ _ h => h) (Or.inr ⟨by rfl, rfl⟩) (by assumption) ?_
          simp only [Act.put, List.setIfInBounds_toArray, List.set]
          refine wpAnyH_take (i := 22) (oi := _) (v := undef) (by (simp only [List.getElem?_toArray]; rfl)) (by kernel_rfl) (by kernel_rfl) (by kernel_rfl) (by exact fun _ _ _ h => h) (Or.inr ⟨by rfl, rfl⟩) (by assumption) ?_
          simp only [Act.put, List.setIfInBounds_toArray, List.set]
          refine wpAnyH_take (i := 23) (oi := _) (v := undef) (by (simp only [List.getElem?_toArray]; rfl)) (by kernel_rfl) (by kernel_rfl) (by kernel_rfl) (by exact fun _ _ _ h => h) (Or.inr ⟨by rfl, rfl⟩) (by assumption) ?_
          simp only [Act.put, List.setIfInBounds_toArray, List.set]
          refine wpAnyH_take (i := 24) (oi := _) (v := undef) (by (simp only [List.getElem?_toArray]; rfl)) (by kernel_rfl) (by kernel_rfl) (by kernel_rfl) (by exact fun _ _ _ h => h) (Or.inr ⟨by rfl, rfl⟩) (by assumption) ?_
          simp only [Act.put, List.setIfInBounds_toArray, List.set]
          refine wpAnyH_take (i := 25) (oi := _) (v := ?_) (by (simp only [List.getElem?_toArray]; rfl)) (by kernel_rfl) (by kernel_rfl) (by kernel_rfl) (by exact fun _ _ _ h => h) (Or.inl ⟨by rfl, ?_⟩) (by assumption) ?_
          rotate_left
          · intro wS hSw
            go_simp
            all_goals first | with_reducible rfl | rw [if_neg (by omega)]
          simp only [Act.put, List.setIfInBounds_toArray, List.set]
          refine wpAnyH_take (i := 26) (oi := _) (v := ?_) (by (simp only [List.getElem?_toArray]; rfl)) (by kernel_rfl) (by kernel_rfl) (by kernel_rfl) (by exact fun _ _ _ h => h) (Or.inl ⟨by rfl, ?_⟩) (by assumption) ?_
          rotate_left
          · intro wS hSw
            go_simp
            all_goals first | with_reducible rfl | rw [if_neg (by omega)]
          simp only [Act.put, List.setIfInBounds_toArray, List.set]
          refine wpAnyH_done (by kernel_rfl) ?_ _
          have he : entAt es (0) = true := by rw [HT.out]; exact e1
          have hy := (figB_iff _ _).1 he
          rw [show entN es (0) = z from HZ.out] at hy
          have hGy : IntKind.i64.wrap (G + z.y) = G + z.y := IntWalk.i64_in _ ⟨by omega, by omega⟩
          have d4' : w1.cell? ⟨b, off + 4, none⟩ = some (.int .i64 z.y) := (kS.1 b _ hb').trans d4
          have oX := carryB kS.2 hlB HB.out
          have oC := cell_of_block oX
          have HO := Lib.hid oX
          have HE := Lib.hid he
          clear hHeld kS k1 d0 d1 d2 d3 d4 hcB hy oX he
          go_wp2_with fail
          go_roundw
          case rel =>
            refine ⟨0 + 1, by omega, ?_, ?_, fun j hj => ?_, HO.out, K1⟩
            · go_num
            · rw [HG.out]
            · by_cases hjk : j = 0
              · subst hjk; exact HE.out
              · exact HA.out j (by omega)
          case measure => simp [intOf]; omega
      · obtain ⟨m, rfl⟩ : ∃ m, k = m + 1 := ⟨k - 1, by omega⟩
        have hmz : m < es.length := by omega
        obtain ⟨b', off', eb, hbm, hcm⟩ := five_at R0.out m hmz
        simp only [Option.some.injEq, Addr.mk.injEq, and_true] at eb
        obtain ⟨rfl, rfl⟩ := eb
        have p0 := (hcm wr hbel).1
        have HZ := Lib.hid hez
        have HT := Lib.hid (entAt_next HA.out hez (entN_get hmz))
        have hw1 : IntKind.i64.wrap ((m : Int) + 1 - 1) = (m : Int) := by rw [Int.add_sub_cancel]; exact IntWalk.i64_in _ ⟨by omega, by omega⟩
        have hg1' : (0 : Int) < (m : Int) + 1 := by omega
        have hmW : IntKind.i64.wrap (m : Int) = (m : Int) := IntWalk.i64_in _ ⟨by omega, by omega⟩
        have hmA : (0 : Int) ≤ (m : Int) := by omega
        have hmB : (m : Int) < (n0 : Int) := by omega
        clear hcm hbm
        generalize es[m] = pr at *
        rw [show ((m + 1 : Nat) : Int) = (m : Int) + 1 from rfl] at *
        cases e1 : figS z.c z.n z.o z.x z.y with
        | false =>
          go_wp2_with fail
          refine wp_region_held_drew (S := fun w' => (∀ b o, b < wr.heap.size → w'.cell? ⟨b, o, none⟩ = wr.cell? ⟨b, o, none⟩) ∧ Below wr.heap.size wr w') (by kernel_rfl) (Kept.start wr) (fun hHeld => ?_)
          refine wpAnyH_take (i := 0) (oi := _) (v := ?_) (by (simp only [List.getElem?_toArray]; rfl)) (by kernel_rfl) (by kernel_rfl) (by kernel_rfl) (by exact fun _ _ _ h => h) (Or.inl ⟨by rfl, ?_⟩) (by assumption) ?_
          rotate_left
          · intro wS hSw
            go_simp
            all_goals first | with_reducible rfl | rw [if_neg (by omega)]
          simp only [Act.put, List.setIfInBounds_toArray, List.set]
          refine wpAnyH_take (i := 1) (oi := _) (v := ?_) (by (simp only [List.getElem?_toArray]; rfl)) (by kernel_rfl) (by kernel_rfl) (by kernel_rfl) (by exact fun _ _ _ h => h) (Or.inl ⟨by rfl, ?_⟩) (by assumption) ?_
          rotate_left
          · intro wS hSw
            go_simp
            all_goals first | with_reducible rfl | rw [if_neg (by omega)]
          simp only [Act.put, List.setIfInBounds_toArray, List.set]
          refine wpAnyH_take (i := 2) (oi := _) (v := ?_) (by (simp only [List.getElem?_toArray]; rfl)) (by kernel_rfl) (by kernel_rfl) (by kernel_rfl) (by exact fun _ _ _ h => h) (Or.inl ⟨by rfl, ?_⟩) (by assumption) ?_
          rotate_left
          · intro wS hSw
            go_simp
            all_goals first | with_reducible rfl | rw [if_neg (by omega)]
          simp only [Act.put, List.setIfInBounds_toArray, List.set]
          refine wpAnyH_take (i := 3) (oi := _) (v := ?_) (by (simp only [List.getElem?_toArray]; rfl)) (by kernel_rfl) (by kernel_rfl) (by kernel_rfl) (by exact fun _ _ _ h => h) (Or.inl ⟨by rfl, ?_⟩) (by assumption) ?_
          rotate_left
          · intro wS hSw
            go_simp
            all_goals first | with_reducible rfl | rw [if_neg (by omega)]
          simp only [Act.put, List.setIfInBounds_toArray, List.set]
          refine wpAnyH_take (i := 4) (oi := _) (v := ?_) (by (simp only [List.getElem?_toArray]; rfl)) (by kernel_rfl) (by kernel_rfl) (by kernel_rfl) (by exact fun _ _ _ h => h) (Or.inl ⟨by rfl, ?_⟩) (by assumption) ?_
          rotate_left
          · intro wS hSw
            go_simp
            all_goals first | with_reducible rfl | rw [if_neg (by omega)]
          simp only [Act.put, List.setIfInBounds_toArray, List.set]
          refine wpAnyH_ready (rs := [5]) (by kernel_rfl) (by simp) ?_
          refine AllReadyH.cons (o := _) (by (simp only [List.getElem?_toArray]; rfl)) (fun K hK => ?_) AllReadyH.nil
          go_simp
          refine (l2EntOk_v z.c z.n z.o z.x z.y _ _ e1).mono ?_
          rintro e w1 ⟨rfl, k1⟩
          have kS := Kept.next (Nat.le_refl _) (Kept.start wr) k1
          have K1 := below_next hbel kS.2
          refine hK.out _ _ kS (fun hHeld => ?_)
          clear hK K
          try simp only [Act.put, List.setIfInBounds_toArray, List.set]
          refine wpAnyH_take (i := 6) (oi := _) (v := ?_) (by (simp only [List.getElem?_toArray]; rfl)) (by kernel_rfl) (by kernel_rfl) (by kernel_rfl) (by exact fun _ _ _ h => h) (Or.inl ⟨by rfl, ?_⟩) (by assumption) ?_
          rotate_left
          · intro wS hSw
            go_simp
            all_goals first | with_reducible rfl | rw [if_neg (by omega)]
          simp only [Act.put, List.setIfInBounds_toArray, List.set]
          refine wpAnyH_take (i := 7) (oi := _) (v := ?_) (by (simp only [List.getElem?_toArray]; rfl)) (by kernel_rfl) (by kernel_rfl) (by kernel_rfl) (by exact fun _ _ _ h => h) (Or.inl ⟨by rfl, ?_⟩) (by assumption) ?_
          rotate_left
          · intro wS hSw
            go_simp
            all_goals first | with_reducible rfl | rw [if_neg (by omega)]
          simp only [Act.put, List.setIfInBounds_toArray, List.set]
          refine wpAnyH_take (i := 8) (oi := _) (v := undef) (by (simp only [List.getElem?_toArray]; rfl)) (by kernel_rfl) (by kernel_rfl) (by kernel_rfl) (by exact fun _ _ _ h => h) (Or.inr ⟨by rfl, rfl⟩) (by assumption) ?_
          simp only [Act.put, List.setIfInBounds_toArray, List.set]
          refine wpAnyH_take (i := 9) (oi := _) (v := undef) (by (simp only [List.getElem?_toArray]; rfl)) (by kernel_rfl) (by kernel_rfl) (by kernel_rfl) (by exact fun _ _ _ h => h) (Or.inr ⟨by rfl, rfl⟩) (by assumption) ?_
          simp only [Act.put, List.setIfInBounds_toArray, List.set]
          refine wpAnyH_take (i := 10) (oi := _) (v := undef) (by (simp only [List.getElem?_toArray]; rfl)) (by kernel_rfl) (by kernel_rfl) (by kernel_rfl) (by exact fun _ _ _ h => h) (Or.inr ⟨by rfl, rfl⟩) (by assumption) ?_
          simp only [Act.put, List.setIfInBounds_toArray, List.set]
          refine wpAnyH_take (i := 11) (oi := _) (v := undef) (by (simp only [List.getElem?_toArray]; rfl)) (by kernel_rfl) (by kernel_rfl) (by kernel_rfl) (by exact fun _ _ _ h => h) (Or.inr ⟨by rfl, rfl⟩) (by assumption) ?_
          simp only [Act.put, List.setIfInBounds_toArray, List.set]
          refine wpAnyH_take (i := 12) (oi := _) (v := undef) (by (simp only [List.getElem?_toArray]; rfl)) (by kernel_rfl) (by kernel_rfl) (by kernel_rfl) (by exact fun _ _ _ h => h) (Or.inr ⟨by rfl, rfl⟩) (by assumption) ?_
          simp only [Act.put, List.setIfInBounds_toArray, List.set]
          refine wpAnyH_take (i := 13) (oi := _) (v := undef) (by (simp only [List.getElem?_toArray]; rfl)) (by kernel_rfl) (by kernel_rfl) (by kernel_rfl) (by exact fun _ _ _ h => h) (Or.inr ⟨by rfl, rfl⟩) (by assumption) ?_
          simp only [Act.put, List.setIfInBounds_toArray, List.set]
          refine wpAnyH_take (i := 14) (oi := _) (v := undef) (by (simp only [List.getElem?_toArray]; rfl)) (by kernel_rfl) (by kernel_rfl) (by kernel_rfl) (by exact fun _ _ _ h => h) (Or.inr ⟨by rfl, rfl⟩) (by assumption) ?_
          simp only [Act.put, List.setIfInBounds_toArray, List.set]
          refine wpAnyH_take (i := 15) (oi := _) (v := undef) (by (simp only [List.getElem?_toArray]; rfl)) (by kernel_rfl) (by kernel_rfl) (by kernel_rfl) (by exact fun _ _ _ h => h) (Or.inr ⟨by rfl, rfl⟩) (by assumption) ?_
          simp only [Act.put, List.setIfInBounds_toArray, List.set]
          refine wpAnyH_take (i := 16) (oi := _) (v := undef) (by (simp only [List.getElem?_toArray]; rfl)) (by kernel_rfl) (by kernel_rfl) (by kernel_rfl) (by exact fun _ _ _ h => h) (Or.inr ⟨by rfl, rfl⟩) (by assumption) ?_
          simp only [Act.put, List.setIfInBounds_toArray, List.set]
          refine wpAnyH_take (i := 17) (oi := _) (v := undef) (by (simp only [List.getElem?_toArray]; rfl)) (by kernel_rfl) (by kernel_rfl) (by kernel_rfl) (by exact fun _ _ _ h => h) (Or.inr ⟨by rfl, rfl⟩) (by assumption) ?_
          simp only [Act.put, List.setIfInBounds_toArray, List.set]
          refine wpAnyH_take (i := 18) (oi := _) (v := undef) (by (simp only [List.getElem?_toArray]; rfl)) (by kernel_rfl) (by kernel_rfl) (by kernel_rfl) (by exact fun _ _ _ h => h) (Or.inr ⟨by rfl, rfl⟩) (by assumption) ?_
          simp only [Act.put, List.setIfInBounds_toArray, List.set]
          refine wpAnyH_take (i := 19) (oi := _) (v := undef) (by (simp only [List.getElem?_toArray]; rfl)) (by kernel_rfl) (by kernel_rfl) (by kernel_rfl) (by exact fun _ _ _ h => h) (Or.inr ⟨by rfl, rfl⟩) (by assumption) ?_
          simp only [Act.put, List.setIfInBounds_toArray, List.set]
          refine wpAnyH_take (i := 20) (oi := _) (v := undef) (by (simp only [List.getElem?_toArray]; rfl)) (by kernel_rfl) (by kernel_rfl) (by kernel_rfl) (by exact fun _ _ _ h => h) (Or.inr ⟨by rfl, rfl⟩) (by assumption) ?_
          simp only [Act.put, List.setIfInBounds_toArray, List.set]
          refine wpAnyH_take (i := 21) (oi := _) (v := undef) (by (simp only [List.getElem?_toArray]; rfl)) (by kernel_rfl) (by kernel_rfl) (by kernel_rfl) (by exact fun _ _ _ h => h) (Or.inr ⟨by rfl, rfl⟩) (by assumption) ?_
          simp only [Act.put, List.setIfInBounds_toArray, List.set]
          refine wpAnyH_take (i := 22) (oi := _) (v := undef) (by (simp only [List.getElem?_toArray]; rfl)) (by kernel_rfl) (by kernel_rfl) (by kernel_rfl) (by exact fun _ _ _ h => h) (Or.inr ⟨by rfl, rfl⟩) (by assumption) ?_
          simp only [Act.put, List.setIfInBounds_toArray, List.set]
          refine wpAnyH_take (i := 23) (oi := _) (v := undef) (by (simp only [List.getElem?_toArray]; rfl)) (by kernel_rfl) (by kernel_rfl) (by kernel_rfl) (by exact fun _ _ _ h => h) (Or.inr ⟨by rfl, rfl⟩) (by assumption) ?_
          simp only [Act.put, List.setIfInBounds_toArray, List.set]
          refine wpAnyH_take (i := 24) (oi := _) (v := undef) (by (simp only [List.getElem?_toArray]; rfl)) (by kernel_rfl) (by kernel_rfl) (by kernel_rfl) (by exact fun _ _ _ h => h) (Or.inr ⟨by rfl, rfl⟩) (by assumption) ?_
          simp only [Act.put, List.setIfInBounds_toArray, List.set]
          refine wpAnyH_take (i := 25) (oi := _) (v := undef) (by (simp only [List.getElem?_toArray]; rfl)) (by kernel_rfl) (by kernel_rfl) (by kernel_rfl) (by exact fun _ _ _ h => h) (Or.inr ⟨by rfl, rfl⟩) (by assumption) ?_
          simp only [Act.put, List.setIfInBounds_toArray, List.set]
          refine wpAnyH_take (i := 26) (oi := _) (v := ?_) (by (simp only [List.getElem?_toArray]; rfl)) (by kernel_rfl) (by kernel_rfl) (by kernel_rfl) (by exact fun _ _ _ h => h) (Or.inl ⟨by rfl, ?_⟩) (by assumption) ?_
          rotate_left
          · intro wS hSw
            go_simp
            all_goals first | with_reducible rfl | rw [if_neg (by omega)]
          simp only [Act.put, List.setIfInBounds_toArray, List.set]
          refine wpAnyH_done (by kernel_rfl) ?_ _
          clear hHeld kS k1
          go_wp2_with fail
          go_ret
          refine ⟨ret_bool ?_, K1⟩
          rw [entsB_bad hkz (by rw [HT.out]; rw [e1]; rfl)]
          rfl
        | true =>
          by_cases hle : z.c ≤ pr.c
          · go_wp2_with fail
            refine wp_region_held_drew (S := fun w' => (∀ b o, b < wr.heap.size → w'.cell? ⟨b, o, none⟩ = wr.cell? ⟨b, o, none⟩) ∧ Below wr.heap.size wr w') (by kernel_rfl) (Kept.start wr) (fun hHeld => ?_)
            refine wpAnyH_take (i := 0) (oi := _) (v := ?_) (by (simp only [List.getElem?_toArray]; rfl)) (by kernel_rfl) (by kernel_rfl) (by kernel_rfl) (by exact fun _ _ _ h => h) (Or.inl ⟨by rfl, ?_⟩) (by assumption) ?_
            rotate_left
            · intro wS hSw
              go_simp
              all_goals first | with_reducible rfl | rw [if_neg (by omega)]
            simp only [Act.put, List.setIfInBounds_toArray, List.set]
            refine wpAnyH_take (i := 1) (oi := _) (v := ?_) (by (simp only [List.getElem?_toArray]; rfl)) (by kernel_rfl) (by kernel_rfl) (by kernel_rfl) (by exact fun _ _ _ h => h) (Or.inl ⟨by rfl, ?_⟩) (by assumption) ?_
            rotate_left
            · intro wS hSw
              go_simp
              all_goals first | with_reducible rfl | rw [if_neg (by omega)]
            simp only [Act.put, List.setIfInBounds_toArray, List.set]
            refine wpAnyH_take (i := 2) (oi := _) (v := ?_) (by (simp only [List.getElem?_toArray]; rfl)) (by kernel_rfl) (by kernel_rfl) (by kernel_rfl) (by exact fun _ _ _ h => h) (Or.inl ⟨by rfl, ?_⟩) (by assumption) ?_
            rotate_left
            · intro wS hSw
              go_simp
              all_goals first | with_reducible rfl | rw [if_neg (by omega)]
            simp only [Act.put, List.setIfInBounds_toArray, List.set]
            refine wpAnyH_take (i := 3) (oi := _) (v := ?_) (by (simp only [List.getElem?_toArray]; rfl)) (by kernel_rfl) (by kernel_rfl) (by kernel_rfl) (by exact fun _ _ _ h => h) (Or.inl ⟨by rfl, ?_⟩) (by assumption) ?_
            rotate_left
            · intro wS hSw
              go_simp
              all_goals first | with_reducible rfl | rw [if_neg (by omega)]
            simp only [Act.put, List.setIfInBounds_toArray, List.set]
            refine wpAnyH_take (i := 4) (oi := _) (v := ?_) (by (simp only [List.getElem?_toArray]; rfl)) (by kernel_rfl) (by kernel_rfl) (by kernel_rfl) (by exact fun _ _ _ h => h) (Or.inl ⟨by rfl, ?_⟩) (by assumption) ?_
            rotate_left
            · intro wS hSw
              go_simp
              all_goals first | with_reducible rfl | rw [if_neg (by omega)]
            simp only [Act.put, List.setIfInBounds_toArray, List.set]
            refine wpAnyH_ready (rs := [5]) (by kernel_rfl) (by simp) ?_
            refine AllReadyH.cons (o := _) (by (simp only [List.getElem?_toArray]; rfl)) (fun K hK => ?_) AllReadyH.nil
            go_simp
            refine (l2EntOk_v z.c z.n z.o z.x z.y _ _ e1).mono ?_
            rintro e w1 ⟨rfl, k1⟩
            have kS := Kept.next (Nat.le_refl _) (Kept.start wr) k1
            have K1 := below_next hbel kS.2
            refine hK.out _ _ kS (fun hHeld => ?_)
            clear hK K
            try simp only [Act.put, List.setIfInBounds_toArray, List.set]
            refine wpAnyH_take (i := 6) (oi := _) (v := ?_) (by (simp only [List.getElem?_toArray]; rfl)) (by kernel_rfl) (by kernel_rfl) (by kernel_rfl) (by exact fun _ _ _ h => h) (Or.inl ⟨by rfl, ?_⟩) (by assumption) ?_
            rotate_left
            · intro wS hSw
              go_simp
              all_goals first | with_reducible rfl | rw [if_neg (by omega)]
            simp only [Act.put, List.setIfInBounds_toArray, List.set]
            refine wpAnyH_take (i := 7) (oi := _) (v := ?_) (by (simp only [List.getElem?_toArray]; rfl)) (by kernel_rfl) (by kernel_rfl) (by kernel_rfl) (by exact fun _ _ _ h => h) (Or.inl ⟨by rfl, ?_⟩) (by assumption) ?_
            rotate_left
            · intro wS hSw
              go_simp
              all_goals first | with_reducible rfl | rw [if_neg (by omega)]
            simp only [Act.put, List.setIfInBounds_toArray, List.set]
            refine wpAnyH_take (i := 8) (oi := _) (v := ?_) (by (simp only [List.getElem?_toArray]; rfl)) (by kernel_rfl) (by kernel_rfl) (by kernel_rfl) (by exact fun _ _ _ h => h) (Or.inl ⟨by rfl, ?_⟩) (by assumption) ?_
            rotate_left
            · intro wS hSw
              go_simp
              all_goals first | with_reducible rfl | rw [if_neg (by omega)]
            simp only [Act.put, List.setIfInBounds_toArray, List.set]
            refine wpAnyH_take (i := 9) (oi := _) (v := ?_) (by (simp only [List.getElem?_toArray]; rfl)) (by kernel_rfl) (by kernel_rfl) (by kernel_rfl) (by exact fun _ _ _ h => h) (Or.inl ⟨by rfl, ?_⟩) (by assumption) ?_
            rotate_left
            · intro wS hSw
              go_simp
              all_goals first | with_reducible rfl | rw [if_neg (by omega)]
            simp only [Act.put, List.setIfInBounds_toArray, List.set]
            refine wpAnyH_take (i := 10) (oi := _) (v := ?_) (by (simp only [List.getElem?_toArray]; rfl)) (by kernel_rfl) (by kernel_rfl) (by kernel_rfl) (by exact fun _ _ _ h => h) (Or.inl ⟨by rfl, ?_⟩) (by assumption) ?_
            rotate_left
            · intro wS hSw
              go_simp
              all_goals first | with_reducible rfl | rw [if_neg (by omega)]
            simp only [Act.put, List.setIfInBounds_toArray, List.set]
            refine wpAnyH_take (i := 11) (oi := _) (v := ?_) (by (simp only [List.getElem?_toArray]; rfl)) (by kernel_rfl) (by kernel_rfl) (by kernel_rfl) (by exact fun _ _ _ h => h) (Or.inl ⟨by rfl, ?_⟩) (by assumption) ?_
            rotate_left
            · intro wS hSw
              go_simp
              all_goals first | with_reducible rfl | rw [if_neg (by omega)]
            simp only [Act.put, List.setIfInBounds_toArray, List.set]
            refine wpAnyH_take (i := 12) (oi := _) (v := ?_) (by (simp only [List.getElem?_toArray]; rfl)) (by kernel_rfl) (by kernel_rfl) (by kernel_rfl) (by exact fun _ _ _ h => h) (Or.inl ⟨by rfl, ?_⟩) (by assumption) ?_
            rotate_left
            · intro wS hSw
              go_simp
              all_goals first | with_reducible rfl | rw [if_neg (by omega)]
            simp only [Act.put, List.setIfInBounds_toArray, List.set]
            refine wpAnyH_take (i := 13) (oi := _) (v := ?_) (by (simp only [List.getElem?_toArray]; rfl)) (by kernel_rfl) (by kernel_rfl) (by kernel_rfl) (by exact fun _ _ _ h => h) (Or.inl ⟨by rfl, ?_⟩) (by assumption) ?_
            rotate_left
            · intro wS hSw
              go_simp
              all_goals first | with_reducible rfl | rw [if_neg (by omega)]
            simp only [Act.put, List.setIfInBounds_toArray, List.set]
            refine wpAnyH_take (i := 14) (oi := _) (v := ?_) (by (simp only [List.getElem?_toArray]; rfl)) (by kernel_rfl) (by kernel_rfl) (by kernel_rfl) (by exact fun _ _ _ h => h) (Or.inl ⟨by rfl, ?_⟩) (by assumption) ?_
            rotate_left
            · intro wS hSw
              go_simp
              all_goals first | with_reducible rfl | rw [if_neg (by omega)]
            simp only [Act.put, List.setIfInBounds_toArray, List.set]
            refine wpAnyH_take (i := 15) (oi := _) (v := ?_) (by (simp only [List.getElem?_toArray]; rfl)) (by kernel_rfl) (by kernel_rfl) (by kernel_rfl) (by exact fun _ _ _ h => h) (Or.inl ⟨by rfl, ?_⟩) (by assumption) ?_
            rotate_left
            · intro wS hSw
              go_simp
              all_goals first | with_reducible rfl | rw [if_neg (by omega)]
            simp only [Act.put, List.setIfInBounds_toArray, List.set]
            refine wpAnyH_take (i := 16) (oi := _) (v := ?_) (by (simp only [List.getElem?_toArray]; rfl)) (by kernel_rfl) (by kernel_rfl) (by kernel_rfl) (by exact fun _ _ _ h => h) (Or.inl ⟨by rfl, ?_⟩) (by assumption) ?_
            rotate_left
            · intro wS hSw
              go_simp
              all_goals first | with_reducible rfl | rw [if_neg (by omega)]
            simp only [Act.put, List.setIfInBounds_toArray, List.set]
            refine wpAnyH_take (i := 17) (oi := _) (v := ?_) (by (simp only [List.getElem?_toArray]; rfl)) (by kernel_rfl) (by kernel_rfl) (by kernel_rfl) (by exact fun _ _ _ h => h) (Or.inl ⟨by rfl, ?_⟩) (by assumption) ?_
            rotate_left
            · intro wS hSw
              go_simp
              all_goals first | with_reducible rfl | rw [if_neg (by omega)]
            simp only [Act.put, List.setIfInBounds_toArray, List.set]
            refine wpAnyH_take (i := 18) (oi := _) (v := ?_) (by (simp only [List.getElem?_toArray]; rfl)) (by kernel_rfl) (by kernel_rfl) (by kernel_rfl) (by exact fun _ _ _ h => h) (Or.inl ⟨by rfl, ?_⟩) (by assumption) ?_
            rotate_left
            · intro wS hSw
              go_simp
              all_goals first | with_reducible rfl | rw [if_neg (by omega)]
            simp only [Act.put, List.setIfInBounds_toArray, List.set]
            refine wpAnyH_take (i := 19) (oi := _) (v := ?_) (by (simp only [List.getElem?_toArray]; rfl)) (by kernel_rfl) (by kernel_rfl) (by kernel_rfl) (by exact fun _ _ _ h => h) (Or.inl ⟨by rfl, ?_⟩) (by assumption) ?_
            rotate_left
            · intro wS hSw
              go_simp
              all_goals first | with_reducible rfl | rw [if_neg (by omega)]
            simp only [Act.put, List.setIfInBounds_toArray, List.set]
            refine wpAnyH_take (i := 20) (oi := _) (v := ?_) (by (simp only [List.getElem?_toArray]; rfl)) (by kernel_rfl) (by kernel_rfl) (by kernel_rfl) (by exact fun _ _ _ h => h) (Or.inl ⟨by rfl, ?_⟩) (by assumption) ?_
            rotate_left
            · intro wS hSw
              go_simp
              all_goals first | with_reducible rfl | rw [if_neg (by omega)]
            simp only [Act.put, List.setIfInBounds_toArray, List.set]
            refine wpAnyH_take (i := 21) (oi := _) (v := ?_) (by (simp only [List.getElem?_toArray]; rfl)) (by kernel_rfl) (by kernel_rfl) (by kernel_rfl) (by exact fun _ _ _ h => h) (Or.inl ⟨by rfl, ?_⟩) (by assumption) ?_
            rotate_left
            · intro wS hSw
              go_simp
              all_goals first | with_reducible rfl | rw [if_neg (by omega)]
            simp only [Act.put, List.setIfInBounds_toArray, List.set]
            refine wpAnyH_take (i := 22) (oi := _) (v := ?_) (by (simp only [List.getElem?_toArray]; rfl)) (by kernel_rfl) (by kernel_rfl) (by kernel_rfl) (by exact fun _ _ _ h => h) (Or.inl ⟨by rfl, ?_⟩) (by assumption) ?_
            rotate_left
            · intro wS hSw
              go_simp
              all_goals first | with_reducible rfl | rw [if_neg (by omega)]
            simp only [Act.put, List.setIfInBounds_toArray, List.set]
            refine wpAnyH_take (i := 23) (oi := _) (v := ?_) (by (simp only [List.getElem?_toArray]; rfl)) (by kernel_rfl) (by kernel_rfl) (by kernel_rfl) (by exact fun _ _ _ h => h) (Or.inl ⟨by rfl, ?_⟩) (by assumption) ?_
            rotate_left
            · intro wS hSw
              go_simp
              all_goals first | with_reducible rfl | rw [if_neg (by omega)]
            simp only [Act.put, List.setIfInBounds_toArray, List.set]
            refine wpAnyH_take (i := 24) (oi := _) (v := ?_) (by (simp only [List.getElem?_toArray]; rfl)) (by kernel_rfl) (by kernel_rfl) (by kernel_rfl) (by exact fun _ _ _ h => h) (Or.inl ⟨by rfl, ?_⟩) (by assumption) ?_
            rotate_left
            · intro wS hSw
              go_simp
              all_goals first | with_reducible rfl | rw [if_neg (by omega)]
            simp only [Act.put, List.setIfInBounds_toArray, List.set]
            refine wpAnyH_take (i := 25) (oi := _) (v := ?_) (by (simp only [List.getElem?_toArray]; rfl)) (by kernel_rfl) (by kernel_rfl) (by kernel_rfl) (by exact fun _ _ _ h => h) (Or.inl ⟨by rfl, ?_⟩) (by assumption) ?_
            rotate_left
            · intro wS hSw
              go_simp
              all_goals first | with_reducible rfl | rw [if_neg (by omega)]
            simp only [Act.put, List.setIfInBounds_toArray, List.set]
            refine wpAnyH_take (i := 26) (oi := _) (v := ?_) (by (simp only [List.getElem?_toArray]; rfl)) (by kernel_rfl) (by kernel_rfl) (by kernel_rfl) (by exact fun _ _ _ h => h) (Or.inl ⟨by rfl, ?_⟩) (by assumption) ?_
            rotate_left
            · intro wS hSw
              go_simp
              all_goals first | with_reducible rfl | rw [if_neg (by omega)]
            simp only [Act.put, List.setIfInBounds_toArray, List.set]
            refine wpAnyH_done (by kernel_rfl) ?_ _
            clear hHeld kS k1
            go_wp2_with fail
            go_ret
            refine ⟨ret_bool ?_, K1⟩
            rw [entsB_bad hkz (by rw [HT.out]; rw [e1]; simp [hle])]
            rfl
          · go_wp2_with fail
            refine wp_region_held_drew (S := fun w' => (∀ b o, b < wr.heap.size → w'.cell? ⟨b, o, none⟩ = wr.cell? ⟨b, o, none⟩) ∧ Below wr.heap.size wr w') (by kernel_rfl) (Kept.start wr) (fun hHeld => ?_)
            refine wpAnyH_take (i := 0) (oi := _) (v := ?_) (by (simp only [List.getElem?_toArray]; rfl)) (by kernel_rfl) (by kernel_rfl) (by kernel_rfl) (by exact fun _ _ _ h => h) (Or.inl ⟨by rfl, ?_⟩) (by assumption) ?_
            rotate_left
            · intro wS hSw
              go_simp
              all_goals first | with_reducible rfl | rw [if_neg (by omega)]
            simp only [Act.put, List.setIfInBounds_toArray, List.set]
            refine wpAnyH_take (i := 1) (oi := _) (v := ?_) (by (simp only [List.getElem?_toArray]; rfl)) (by kernel_rfl) (by kernel_rfl) (by kernel_rfl) (by exact fun _ _ _ h => h) (Or.inl ⟨by rfl, ?_⟩) (by assumption) ?_
            rotate_left
            · intro wS hSw
              go_simp
              all_goals first | with_reducible rfl | rw [if_neg (by omega)]
            simp only [Act.put, List.setIfInBounds_toArray, List.set]
            refine wpAnyH_take (i := 2) (oi := _) (v := ?_) (by (simp only [List.getElem?_toArray]; rfl)) (by kernel_rfl) (by kernel_rfl) (by kernel_rfl) (by exact fun _ _ _ h => h) (Or.inl ⟨by rfl, ?_⟩) (by assumption) ?_
            rotate_left
            · intro wS hSw
              go_simp
              all_goals first | with_reducible rfl | rw [if_neg (by omega)]
            simp only [Act.put, List.setIfInBounds_toArray, List.set]
            refine wpAnyH_take (i := 3) (oi := _) (v := ?_) (by (simp only [List.getElem?_toArray]; rfl)) (by kernel_rfl) (by kernel_rfl) (by kernel_rfl) (by exact fun _ _ _ h => h) (Or.inl ⟨by rfl, ?_⟩) (by assumption) ?_
            rotate_left
            · intro wS hSw
              go_simp
              all_goals first | with_reducible rfl | rw [if_neg (by omega)]
            simp only [Act.put, List.setIfInBounds_toArray, List.set]
            refine wpAnyH_take (i := 4) (oi := _) (v := ?_) (by (simp only [List.getElem?_toArray]; rfl)) (by kernel_rfl) (by kernel_rfl) (by kernel_rfl) (by exact fun _ _ _ h => h) (Or.inl ⟨by rfl, ?_⟩) (by assumption) ?_
            rotate_left
            · intro wS hSw
              go_simp
              all_goals first | with_reducible rfl | rw [if_neg (by omega)]
            simp only [Act.put, List.setIfInBounds_toArray, List.set]
            refine wpAnyH_ready (rs := [5]) (by kernel_rfl) (by simp) ?_
            refine AllReadyH.cons (o := _) (by (simp only [List.getElem?_toArray]; rfl)) (fun K hK => ?_) AllReadyH.nil
            go_simp
            refine (l2EntOk_v z.c z.n z.o z.x z.y _ _ e1).mono ?_
            rintro e w1 ⟨rfl, k1⟩
            have kS := Kept.next (Nat.le_refl _) (Kept.start wr) k1
            have K1 := below_next hbel kS.2
            refine hK.out _ _ kS (fun hHeld => ?_)
            clear hK K
            try simp only [Act.put, List.setIfInBounds_toArray, List.set]
            refine wpAnyH_take (i := 6) (oi := _) (v := ?_) (by (simp only [List.getElem?_toArray]; rfl)) (by kernel_rfl) (by kernel_rfl) (by kernel_rfl) (by exact fun _ _ _ h => h) (Or.inl ⟨by rfl, ?_⟩) (by assumption) ?_
            rotate_left
            · intro wS hSw
              go_simp
              all_goals first | with_reducible rfl | rw [if_neg (by omega)]
            simp only [Act.put, List.setIfInBounds_toArray, List.set]
            refine wpAnyH_take (i := 7) (oi := _) (v := ?_) (by (simp only [List.getElem?_toArray]; rfl)) (by kernel_rfl) (by kernel_rfl) (by kernel_rfl) (by exact fun _ _ _ h => h) (Or.inl ⟨by rfl, ?_⟩) (by assumption) ?_
            rotate_left
            · intro wS hSw
              go_simp
              all_goals first | with_reducible rfl | rw [if_neg (by omega)]
            simp only [Act.put, List.setIfInBounds_toArray, List.set]
            refine wpAnyH_take (i := 8) (oi := _) (v := ?_) (by (simp only [List.getElem?_toArray]; rfl)) (by kernel_rfl) (by kernel_rfl) (by kernel_rfl) (by exact fun _ _ _ h => h) (Or.inl ⟨by rfl, ?_⟩) (by assumption) ?_
            rotate_left
            · intro wS hSw
              go_simp
              all_goals first | with_reducible rfl | rw [if_neg (by omega)]
            simp only [Act.put, List.setIfInBounds_toArray, List.set]
            refine wpAnyH_take (i := 9) (oi := _) (v := ?_) (by (simp only [List.getElem?_toArray]; rfl)) (by kernel_rfl) (by kernel_rfl) (by kernel_rfl) (by exact fun _ _ _ h => h) (Or.inl ⟨by rfl, ?_⟩) (by assumption) ?_
            rotate_left
            · intro wS hSw
              go_simp
              all_goals first | with_reducible rfl | rw [if_neg (by omega)]
            simp only [Act.put, List.setIfInBounds_toArray, List.set]
            refine wpAnyH_take (i := 10) (oi := _) (v := ?_) (by (simp only [List.getElem?_toArray]; rfl)) (by kernel_rfl) (by kernel_rfl) (by kernel_rfl) (by exact fun _ _ _ h => h) (Or.inl ⟨by rfl, ?_⟩) (by assumption) ?_
            rotate_left
            · intro wS hSw
              go_simp
              all_goals first | with_reducible rfl | rw [if_neg (by omega)]
            simp only [Act.put, List.setIfInBounds_toArray, List.set]
            refine wpAnyH_take (i := 11) (oi := _) (v := ?_) (by (simp only [List.getElem?_toArray]; rfl)) (by kernel_rfl) (by kernel_rfl) (by kernel_rfl) (by exact fun _ _ _ h => h) (Or.inl ⟨by rfl, ?_⟩) (by assumption) ?_
            rotate_left
            · intro wS hSw
              go_simp
              all_goals first | with_reducible rfl | rw [if_neg (by omega)]
            simp only [Act.put, List.setIfInBounds_toArray, List.set]
            refine wpAnyH_take (i := 12) (oi := _) (v := ?_) (by (simp only [List.getElem?_toArray]; rfl)) (by kernel_rfl) (by kernel_rfl) (by kernel_rfl) (by exact fun _ _ _ h => h) (Or.inl ⟨by rfl, ?_⟩) (by assumption) ?_
            rotate_left
            · intro wS hSw
              go_simp
              all_goals first | with_reducible rfl | rw [if_neg (by omega)]
            simp only [Act.put, List.setIfInBounds_toArray, List.set]
            refine wpAnyH_take (i := 13) (oi := _) (v := ?_) (by (simp only [List.getElem?_toArray]; rfl)) (by kernel_rfl) (by kernel_rfl) (by kernel_rfl) (by exact fun _ _ _ h => h) (Or.inl ⟨by rfl, ?_⟩) (by assumption) ?_
            rotate_left
            · intro wS hSw
              go_simp
              all_goals first | with_reducible rfl | rw [if_neg (by omega)]
            simp only [Act.put, List.setIfInBounds_toArray, List.set]
            refine wpAnyH_take (i := 14) (oi := _) (v := ?_) (by (simp only [List.getElem?_toArray]; rfl)) (by kernel_rfl) (by kernel_rfl) (by kernel_rfl) (by exact fun _ _ _ h => h) (Or.inl ⟨by rfl, ?_⟩) (by assumption) ?_
            rotate_left
            · intro wS hSw
              go_simp
              all_goals first | with_reducible rfl | rw [if_neg (by omega)]
            simp only [Act.put, List.setIfInBounds_toArray, List.set]
            refine wpAnyH_take (i := 15) (oi := _) (v := ?_) (by (simp only [List.getElem?_toArray]; rfl)) (by kernel_rfl) (by kernel_rfl) (by kernel_rfl) (by exact fun _ _ _ h => h) (Or.inl ⟨by rfl, ?_⟩) (by assumption) ?_
            rotate_left
            · intro wS hSw
              go_simp
              all_goals first | with_reducible rfl | rw [if_neg (by omega)]
            simp only [Act.put, List.setIfInBounds_toArray, List.set]
            refine wpAnyH_take (i := 16) (oi := _) (v := ?_) (by (simp only [List.getElem?_toArray]; rfl)) (by kernel_rfl) (by kernel_rfl) (by kernel_rfl) (by exact fun _ _ _ h => h) (Or.inl ⟨by rfl, ?_⟩) (by assumption) ?_
            rotate_left
            · intro wS hSw
              go_simp
              all_goals first | with_reducible rfl | rw [if_neg (by omega)]
            simp only [Act.put, List.setIfInBounds_toArray, List.set]
            refine wpAnyH_take (i := 17) (oi := _) (v := ?_) (by (simp only [List.getElem?_toArray]; rfl)) (by kernel_rfl) (by kernel_rfl) (by kernel_rfl) (by exact fun _ _ _ h => h) (Or.inl ⟨by rfl, ?_⟩) (by assumption) ?_
            rotate_left
            · intro wS hSw
              go_simp
              all_goals first | with_reducible rfl | rw [if_neg (by omega)]
            simp only [Act.put, List.setIfInBounds_toArray, List.set]
            refine wpAnyH_take (i := 18) (oi := _) (v := ?_) (by (simp only [List.getElem?_toArray]; rfl)) (by kernel_rfl) (by kernel_rfl) (by kernel_rfl) (by exact fun _ _ _ h => h) (Or.inl ⟨by rfl, ?_⟩) (by assumption) ?_
            rotate_left
            · intro wS hSw
              go_simp
              all_goals first | with_reducible rfl | rw [if_neg (by omega)]
            simp only [Act.put, List.setIfInBounds_toArray, List.set]
            refine wpAnyH_take (i := 19) (oi := _) (v := ?_) (by (simp only [List.getElem?_toArray]; rfl)) (by kernel_rfl) (by kernel_rfl) (by kernel_rfl) (by exact fun _ _ _ h => h) (Or.inl ⟨by rfl, ?_⟩) (by assumption) ?_
            rotate_left
            · intro wS hSw
              go_simp
              all_goals first | with_reducible rfl | rw [if_neg (by omega)]
            simp only [Act.put, List.setIfInBounds_toArray, List.set]
            refine wpAnyH_take (i := 20) (oi := _) (v := ?_) (by (simp only [List.getElem?_toArray]; rfl)) (by kernel_rfl) (by kernel_rfl) (by kernel_rfl) (by exact fun _ _ _ h => h) (Or.inl ⟨by rfl, ?_⟩) (by assumption) ?_
            rotate_left
            · intro wS hSw
              go_simp
              all_goals first | with_reducible rfl | rw [if_neg (by omega)]
            simp only [Act.put, List.setIfInBounds_toArray, List.set]
            refine wpAnyH_take (i := 21) (oi := _) (v := ?_) (by (simp only [List.getElem?_toArray]; rfl)) (by kernel_rfl) (by kernel_rfl) (by kernel_rfl) (by exact fun _ _ _ h => h) (Or.inl ⟨by rfl, ?_⟩) (by assumption) ?_
            rotate_left
            · intro wS hSw
              go_simp
              all_goals first | with_reducible rfl | rw [if_neg (by omega)]
            simp only [Act.put, List.setIfInBounds_toArray, List.set]
            refine wpAnyH_take (i := 22) (oi := _) (v := ?_) (by (simp only [List.getElem?_toArray]; rfl)) (by kernel_rfl) (by kernel_rfl) (by kernel_rfl) (by exact fun _ _ _ h => h) (Or.inl ⟨by rfl, ?_⟩) (by assumption) ?_
            rotate_left
            · intro wS hSw
              go_simp
              all_goals first | with_reducible rfl | rw [if_neg (by omega)]
            simp only [Act.put, List.setIfInBounds_toArray, List.set]
            refine wpAnyH_take (i := 23) (oi := _) (v := ?_) (by (simp only [List.getElem?_toArray]; rfl)) (by kernel_rfl) (by kernel_rfl) (by kernel_rfl) (by exact fun _ _ _ h => h) (Or.inl ⟨by rfl, ?_⟩) (by assumption) ?_
            rotate_left
            · intro wS hSw
              go_simp
              all_goals first | with_reducible rfl | rw [if_neg (by omega)]
            simp only [Act.put, List.setIfInBounds_toArray, List.set]
            refine wpAnyH_take (i := 24) (oi := _) (v := ?_) (by (simp only [List.getElem?_toArray]; rfl)) (by kernel_rfl) (by kernel_rfl) (by kernel_rfl) (by exact fun _ _ _ h => h) (Or.inl ⟨by rfl, ?_⟩) (by assumption) ?_
            rotate_left
            · intro wS hSw
              go_simp
              all_goals first | with_reducible rfl | rw [if_neg (by omega)]
            simp only [Act.put, List.setIfInBounds_toArray, List.set]
            refine wpAnyH_take (i := 25) (oi := _) (v := ?_) (by (simp only [List.getElem?_toArray]; rfl)) (by kernel_rfl) (by kernel_rfl) (by kernel_rfl) (by exact fun _ _ _ h => h) (Or.inl ⟨by rfl, ?_⟩) (by assumption) ?_
            rotate_left
            · intro wS hSw
              go_simp
              all_goals first | with_reducible rfl | rw [if_neg (by omega)]
            simp only [Act.put, List.setIfInBounds_toArray, List.set]
            refine wpAnyH_take (i := 26) (oi := _) (v := ?_) (by (simp only [List.getElem?_toArray]; rfl)) (by kernel_rfl) (by kernel_rfl) (by kernel_rfl) (by exact fun _ _ _ h => h) (Or.inl ⟨by rfl, ?_⟩) (by assumption) ?_
            rotate_left
            · intro wS hSw
              go_simp
              all_goals first | with_reducible rfl | rw [if_neg (by omega)]
            simp only [Act.put, List.setIfInBounds_toArray, List.set]
            refine wpAnyH_done (by kernel_rfl) ?_ _
            have he : entAt es (m + 1) = true := by rw [HT.out]; rw [e1]; simp; omega
            have hy := (figB_iff _ _).1 he
            rw [show entN es (m + 1) = z from HZ.out] at hy
            have hGy : IntKind.i64.wrap (G + z.y) = G + z.y := IntWalk.i64_in _ ⟨by omega, by omega⟩
            have d4' : w1.cell? ⟨b, off + (m + 1) * 5 + 4, none⟩ = some (.int .i64 z.y) := (kS.1 b _ hb').trans d4
            have oX := carryB kS.2 hlB HB.out
            have oC := cell_of_block oX
            have HO := Lib.hid oX
            have HE := Lib.hid he
            clear hHeld kS k1 d0 d1 d2 d3 d4 hcB hy oX he
            go_wp2_with fail
            go_roundw
            case rel =>
              refine ⟨m + 1 + 1, by omega, ?_, ?_, fun j hj => ?_, HO.out, K1⟩
              · go_num
              · rw [HG.out]
              · by_cases hjk : j = m + 1
                · subst hjk; exact HE.out
                · exact HA.out j (by omega)
            case measure => simp [intOf]; omega
    · have hkk : n0 = k := by omega
      subst hkk
      have hents : entsB es = true := by
        rw [entsB_iff]
        exact fun j hj => HA.out j (by omega)
      rw [show es.take n0 = es by exact List.take_of_length_le (by omega)] at hg0 hg1 ⊢
      have HE := Lib.hid hents
      clear hents
      generalize hG : golds es = G at *
      go_wp2_with fail
      go_loopw [3, 5] (fun s i wr => ∃ k : Nat, k ≤ n1 ∧ i = .int .i64 k ∧ s = .int .i64 (G + (fl.take k).sum) ∧ (∀ j (hj : j < fl.length), j < k → inB fl[j] 0 20 = true) ∧ wr.heap[w.heap.size]? = some (.cells #[.slice a0 n0 c0, .slice a1 n1 c1, .slice a2 n2 c2] 41 (0, 0)) ∧ Below w.heap.size w wr) (fun _ i _ => n1 - (intOf i).toNat)
      case atStart => exact ⟨0, Nat.zero_le _, rfl, by simp, fun j _ hj => absurd hj (Nat.not_lt_zero j), HB.out, hbel⟩
      case round =>
        clear hcB hbel HB HA hlB hlt
        obtain ⟨k, hk, rfl, rfl, hall, hB, hbel⟩ := hrel
        obtain ⟨hs0, hs1⟩ := sum_bound (by omega) hall
        have HA := Lib.hid hall
        have HB := Lib.hid hB
        have hlB := lt_of_block hB
        have hcB := cell_of_block hB
        clear hall hB
        by_cases hlt : k < n1
        · have hkz : k < fl.length := by omega
          have hk1 : (k : Int) < (n1 : Int) := by omega
          have hk0 : (0 : Int) ≤ (k : Int) := by omega
          obtain ⟨b, off, rfl, hb, hcz⟩ := one_at R1.out k hkz
          have d0 := hcz wr hbel
          have HG := Lib.hid (sum_snoc hkz)
          clear hcz
          cases e1 : inB fl[k] 0 20 with
          | false =>
            go_wp2_with (go_at_call 106; refine (l1In_c _ _ _ _).mono ?_; rintro e w' ⟨rfl, rfl⟩)
            go_ret
            refine ⟨ret_bool ?_, hbel⟩
            rw [all_bad (p := fun n => inB n 0 20) hkz e1, HE.out]
            rfl
          | true =>
            have hy := (inB_iff _ _ _).1 e1
            have hGy : IntKind.i64.wrap (G + (fl.take k).sum + fl[k]) = G + (fl.take k).sum + fl[k] := IntWalk.i64_in _ ⟨by omega, by omega⟩
            go_wp2_with (go_at_call 106; refine (l1In_c _ _ _ _).mono ?_; rintro e w' ⟨rfl, rfl⟩)
            go_roundw
            case rel =>
              refine ⟨k + 1, by omega, ?_, ?_, fun j hj hjk => ?_, HB.out, hbel⟩
              · go_num
              · rw [HG.out, Int.add_assoc]
              · by_cases hjk' : j = k
                · subst hjk'; exact e1
                · exact HA.out j hj (by omega)
            case measure => simp [intOf]; omega
        · have hkk : n1 = k := by omega
          subst hkk
          have hfl : fl.all (fun n => inB n 0 20) = true := all_good HA.out (by omega)
          rw [show fl.take n1 = fl by exact List.take_of_length_le (by omega)] at hs0 hs1 ⊢
          have HF := Lib.hid hfl
          clear hfl HA hlt
          generalize hF : fl.sum = F at *
          go_wp2_with fail
          go_loopw [6] (fun i wr => ∃ k : Nat, k ≤ n2 ∧ i = .int .i64 k ∧ (∀ j (hj : j < la.length), j < k → inB la[j] 0 30 = true) ∧ wr.heap[w.heap.size]? = some (.cells #[.slice a0 n0 c0, .slice a1 n1 c1, .slice a2 n2 c2] 41 (0, 0)) ∧ Below w.heap.size w wr) (fun i _ => n2 - (intOf i).toNat)
          case atStart => exact ⟨0, Nat.zero_le _, rfl, fun j _ hj => absurd hj (Nat.not_lt_zero j), HB.out, hbel⟩
          case round =>
            clear hcB hbel HB hlB
            obtain ⟨k, hk, rfl, hall, hB, hbel⟩ := hrel
            have HA := Lib.hid hall
            have HB := Lib.hid hB
            have hlB := lt_of_block hB
            have hcB := cell_of_block hB
            clear hall hB
            by_cases hlt : k < n2
            · have hkz : k < la.length := by omega
              have hk1 : (k : Int) < (n2 : Int) := by omega
              have hk0 : (0 : Int) ≤ (k : Int) := by omega
              obtain ⟨b, off, rfl, hb, hcz⟩ := one_at R2.out k hkz
              have d0 := hcz wr hbel
              clear hcz
              cases e1 : inB la[k] 0 30 with
              | false =>
                go_wp2_with (go_at_call 106; refine (l1In_c _ _ _ _).mono ?_; rintro e w' ⟨rfl, rfl⟩)
                go_ret
                refine ⟨ret_bool ?_, hbel⟩
                rw [all_bad (p := fun n => inB n 0 30) hkz e1, HE.out, HF.out]
                rfl
              | true =>
                go_wp2_with (go_at_call 106; refine (l1In_c _ _ _ _).mono ?_; rintro e w' ⟨rfl, rfl⟩)
                go_roundw
                case rel =>
                  refine ⟨k + 1, by omega, ?_, fun j hj hjk => ?_, HB.out, hbel⟩
                  · go_num
                  · by_cases hjk' : j = k
                    · subst hjk'; exact e1
                    · exact HA.out j hj (by omega)
                case measure => simp [intOf]; omega
            · have HL := Lib.hid (show la.all (fun n => inB n 0 30) = true from all_good HA.out (by omega))
              clear HA HB
              by_cases q1 : n1 = 16
              · have q1' : ((n1 : Int) == 16) = true := by simp; omega
                have Q1 := Lib.hid q1
                clear q1
                by_cases q2 : n2 = 4
                · have q2' : ((n2 : Int) == 4) = true := by simp; omega
                  have Q2 := Lib.hid q2
                  clear q2
                  by_cases q3 : G + F = 20
                  · have q3' : (G + F == 20) = true := by simp; omega
                    have Q3 := Lib.hid q3
                    clear q3
                    go_wp2_with fail
                    go_ret
                    exact ⟨ret_bool (by rw [HE.out, HF.out, HL.out, hG, hF]; simp [Q1.out, Q2.out, Q3.out]), hbel⟩
                  · have q3' : (G + F == 20) = false := by simp; omega
                    have Q3 := Lib.hid q3
                    clear q3
                    go_wp2_with fail
                    go_ret
                    exact ⟨ret_bool (by rw [HE.out, HF.out, HL.out, hG, hF]; simp [Q3.out]), hbel⟩
                · have q2' : ((n2 : Int) == 4) = false := by simp; omega
                  have Q2 := Lib.hid q2
                  clear q2
                  go_wp2_with fail
                  go_ret
                  exact ⟨ret_bool (by rw [HE.out, HF.out, HL.out, hG, hF]; simp [Q2.out]), hbel⟩
              · have q1' : ((n1 : Int) == 16) = false := by simp; omega
                have Q1 := Lib.hid q1
                clear q1
                go_wp2_with fail
                go_ret
                exact ⟨ret_bool (by rw [HE.out, HF.out, HL.out, hG, hF]; simp [Q1.out]), hbel⟩

end Go.Proofs.YtilldpoleiippaaDoor

/-! Contracts of toAhead, szAhead, eqAhead; condition: at most 2^20 elements. -/
namespace Go.Proofs.YtilldpoleiippaaDoor
open Go.RowKit Go.Joins

theorem sl_of_block {α : Type} {w : World} {B n k : Nat} {R : α → List Value} {zs : List α} {t : TypeId} {fr : Nat × Nat} (hR : ∀ z, (R z).length = k) (h : w.heap[B]? = some (.cells (flat R zs) t fr)) (hl : zs.length = n) (hn : n ≤ 1048576) : IsSl w (.slice (some ⟨B, 0, none⟩) n n) k R zs := by
  subst hl
  exact ⟨some ⟨B, 0, none⟩, zs.length, rfl, Nat.le_refl _, by unfold maxLen; omega, rows_of_block hR h⟩
theorem int_len (z : Int) : (intR z).length = 1 := rfl
theorem Copied.sl5 {t : TypeId} {zs : List Rq} {w w' : World} {e : Ending} (h : Copied t Rq.cs zs w e w') (hn : zs.length ≤ 1048576) :
    ∃ g, e = .returned (.slice (some ⟨g, 0, none⟩) zs.length zs.length) ∧ IsSl w' (.slice (some ⟨g, 0, none⟩) zs.length zs.length) 5 Rq.cs zs ∧ Below w.heap.size w w' := ⟨_, h.1, sl_of_block five_len h.2.1 rfl hn, h.2.2⟩
theorem Copied.sl1 {t : TypeId} {zs : List Int} {w w' : World} {e : Ending} (h : Copied t intR zs w e w') (hn : zs.length ≤ 1048576) :
    ∃ g, e = .returned (.slice (some ⟨g, 0, none⟩) zs.length zs.length) ∧ IsSl w' (.slice (some ⟨g, 0, none⟩) zs.length zs.length) 1 intR zs ∧ Below w.heap.size w w' := ⟨_, h.1, sl_of_block int_len h.2.1 rfl hn, h.2.2⟩

/-- The world behind one store, under a name of its own. -/
theorem stored1 (w : World) (g i : Nat) (v : Value) {cs : Array Value} {t : TypeId} {fr : Nat × Nat} (h : w.heap[g]? = some (.cells cs t fr)) :
    ∃ W, W = w.setCell ⟨g, i, none⟩ v ∧ W.heap.size = w.heap.size ∧ W.heap[g]? = some (.cells (cs.setIfInBounds i v) t fr) ∧ (∀ b, b ≠ g → W.heap[b]? = w.heap[b]?) ∧ Below g w W :=
  ⟨_, rfl, by simp, block_setCell h v, fun b hb => Below.heap_setCell _ _ _ _ hb, by exact (by repeat' (first | with_reducible exact Below.refl _ _ | with_reducible assumption | with_reducible refine Below.alloc ?_ ?_ _ | with_reducible refine Below.drew ?_ | with_reducible refine Below.setCell ?_ ?_ _ | omega | (simp; omega) | (simp; done)))⟩

/-- A client that is ahead, anew: its blocks. -/
def GotAhB (z : Ah) (w : World) (e : Ending) (w' : World) : Prop :=
  ∃ g0 g1, e = .returned (.agg #[.slice (some ⟨g0, 0, none⟩) z.dn.length z.dn.length, .slice (some ⟨g1, 0, none⟩) z.wt.length z.wt.length, .int .i64 z.bk]) ∧
    w'.heap[g0]? = some (.cells (flat Rq.cs z.dn) 46 (0, 0)) ∧ w'.heap[g1]? = some (.cells (flat Rq.cs z.wt) 46 (0, 0)) ∧ w.heap.size ≤ g0 ∧ g0 < g1 ∧ Below w.heap.size w w'
/-- A client that is ahead, anew. -/
def GotAh (z : Ah) (w : World) (e : Ending) (w' : World) : Prop :=
  ∃ g0 g1, e = .returned (.agg #[.slice (some ⟨g0, 0, none⟩) z.dn.length z.dn.length, .slice (some ⟨g1, 0, none⟩) z.wt.length z.wt.length, .int .i64 z.bk]) ∧
    IsSl w' (.slice (some ⟨g0, 0, none⟩) z.dn.length z.dn.length) 5 Rq.cs z.dn ∧ IsSl w' (.slice (some ⟨g1, 0, none⟩) z.wt.length z.wt.length) 5 Rq.cs z.wt ∧ Below w.heap.size w w'

end Go.Proofs.YtilldpoleiippaaDoor

/-! Contracts of toGame, szGame, eqGame; condition: at most 2^20 elements. -/
namespace Go.Proofs.YtilldpoleiippaaDoor
open Go.RowKit Go.Joins

/-- A game, anew: its blocks. -/
def GotGmB (z : Gm) (w : World) (e : Ending) (w' : World) : Prop :=
  ∃ g0 g1 g2, e = .returned (.agg #[.slice (some ⟨g0, 0, none⟩) z.es.length z.es.length, .slice (some ⟨g1, 0, none⟩) z.fl.length z.fl.length, .slice (some ⟨g2, 0, none⟩) z.la.length z.la.length]) ∧
    w'.heap[g0]? = some (.cells (flat Rq.cs z.es) 92 (0, 0)) ∧ w'.heap[g1]? = some (.cells (flat intR z.fl) 3 (0, 0)) ∧ w'.heap[g2]? = some (.cells (flat intR z.la) 3 (0, 0)) ∧ w.heap.size ≤ g0 ∧ g0 < g1 ∧ g1 < g2 ∧ Below w.heap.size w w'
/-- A game, anew. -/
def GotGm (z : Gm) (w : World) (e : Ending) (w' : World) : Prop :=
  ∃ g0 g1 g2, e = .returned (.agg #[.slice (some ⟨g0, 0, none⟩) z.es.length z.es.length, .slice (some ⟨g1, 0, none⟩) z.fl.length z.fl.length, .slice (some ⟨g2, 0, none⟩) z.la.length z.la.length]) ∧
    IsSl w' (.slice (some ⟨g0, 0, none⟩) z.es.length z.es.length) 5 Rq.cs z.es ∧ IsSl w' (.slice (some ⟨g1, 0, none⟩) z.fl.length z.fl.length) 1 intR z.fl ∧ IsSl w' (.slice (some ⟨g2, 0, none⟩) z.la.length z.la.length) 1 intR z.la ∧ Below w.heap.size w w'

set_option maxHeartbeats 2000000 in
theorem toGame_b (z : Gm) (a0 a1 a2 : Option Addr) (c0 c1 c2 : Nat) (w : World) (ha : IsSl w (.slice a0 z.es.length c0) 5 Rq.cs z.es) (hb : IsSl w (.slice a1 z.fl.length c1) 1 intR z.fl) (hd : IsSl w (.slice a2 z.la.length c2) 1 intR z.la)
    (hla : z.es.length ≤ 1048576) (hlb : z.fl.length ≤ 1048576) (hld : z.la.length ≤ 1048576) :
    Calls Tryd.prog 23 #[.agg #[.slice a0 z.es.length c0, .slice a1 z.fl.length c1, .slice a2 z.la.length c2]] w (GotGmB z w) := by
  obtain ⟨es, fl, la⟩ := z
  simp only at ha hb hd hla hlb hld ⊢
  generalize hn0 : es.length = n0 at *
  generalize hn1 : fl.length = n1 at *
  generalize hn2 : la.length = n2 at *
  go_enter Tryd.func23, Tryd.ntmps23
  go_wp2_with fail
  obtain ⟨W, hW, sW, aW, bW, cW, kW⟩ := blocks3 w (.cells #[.slice a0 n0 c0, .slice a1 n1 c1, .slice a2 n2 c2] 36) (.cells #[.slice none 0 0, .slice none 0 0, .slice none 0 0] 41) (.cells #[.slice none 0 0, .slice none 0 0, .slice none 0 0] 41)
  rw [← hW]
  clear hW
  have HB := Lib.hid hb
  have HD := Lib.hid hd
  refine (toEntS_c _ es _ (ha.below kW) (by omega)).mono ?_
  intro e w1 h1
  obtain ⟨rfl, h1, k1⟩ := h1
  rw [hn0]
  have K1 := below_next kW k1
  have s1 := k1.size
  have aW1 := carryB k1 (by omega) aW
  have bW1 := carryB k1 (by omega) bW
  have cW1 := carryB k1 (by omega) cW
  rw [sW] at h1 ⊢
  have hcA := cell_of_block aW1
  have hcC := cell_of_block cW1
  have hfC := unfrozen_of_block cW1
  have lW := lt_of_block h1
  clear aW bW cW ha hb hd kW k1
  go_wp2_with fail
  obtain ⟨X, hX, sX, cX, oX, kX⟩ := stored1 w1 (w.heap.size + 2) 0 (.slice (some ⟨w.heap.size + 3, 0, none⟩) n0 n0) cW1
  rw [← hX]
  clear hX
  have KX := K1.trans (kX.mono (by omega))
  have aX := (oX _ (by omega)).trans aW1
  have bX := (oX _ (by omega)).trans bW1
  have gX := (oX _ (by omega)).trans h1
  refine (toIntS_c _ fl _ (HB.out.below KX) (by omega)).mono ?_
  intro e w2 h2
  obtain ⟨rfl, h2, k2⟩ := h2
  rw [hn1]
  have K2 := below_next KX k2
  have s2 := k2.size
  have aX2 := carryB k2 (by omega) aX
  have bX2 := carryB k2 (by omega) bX
  have cX2 := carryB k2 (by omega) cX
  have gX2 := carryB k2 (by omega) gX
  rw [sX] at h2 ⊢
  clear aX bX cX gX k2 KX oX kX hcA hcC hfC aW1 bW1 cW1 h1 K1
  have hcA := cell_of_block aX2
  have hcC := cell_of_block cX2
  have hfC := unfrozen_of_block cX2
  have l2 := lt_of_block h2
  go_wp2_with fail
  obtain ⟨Y, hY, sY, cY, oY, kY⟩ := stored1 w2 (w.heap.size + 2) 1 (.slice (some ⟨w1.heap.size, 0, none⟩) n1 n1) cX2
  rw [← hY]
  clear hY
  have KY := K2.trans (kY.mono (by omega))
  have aY := (oY _ (by omega)).trans aX2
  have bY := (oY _ (by omega)).trans bX2
  have gY := (oY _ (by omega)).trans gX2
  have fY := (oY _ (by omega)).trans h2
  refine (toIntS_c _ la _ (HD.out.below KY) (by omega)).mono ?_
  intro e w3 h3
  obtain ⟨rfl, h3, k3⟩ := h3
  rw [hn2]
  have K3 := below_next KY k3
  have s3 := k3.size
  have bY3 := carryB k3 (by omega) bY
  have cY3 := carryB k3 (by omega) cY
  have gY3 := carryB k3 (by omega) gY
  have fY3 := carryB k3 (by omega) fY
  rw [sY] at h3 ⊢
  clear aY bY cY gY fY k3 KY oY kY hcA hcC hfC aX2 bX2 cX2 gX2 h2 K2
  have hcB := cell_of_block bY3
  have hfB := unfrozen_of_block bY3
  have hcC := cell_of_block cY3
  have hfC := unfrozen_of_block cY3
  have l3 := lt_of_block h3
  go_wp2_with fail
  have HK := Lib.hid K3
  refine bodyPost_ret (v := .agg #[.slice (some ⟨w.heap.size + 3, 0, none⟩) n0 n0, .slice (some ⟨w1.heap.size, 0, none⟩) n1 n1, .slice (some ⟨w2.heap.size, 0, none⟩) n2 n2]) (by simp [results, Tryd.results23, go_sem, hcB]) rfl ?_
  refine ⟨w.heap.size + 3, w1.heap.size, w2.heap.size, ?_, ?_, ?_, ?_, by omega, by omega, by omega, ?_⟩
  · rw [hn0, hn1, hn2]
  · repeat rw [Below.heap_setCell _ _ _ _ (by simp; try omega)]
    exact gY3
  · repeat rw [Below.heap_setCell _ _ _ _ (by simp; try omega)]
    exact fY3
  · repeat rw [Below.heap_setCell _ _ _ _ (by simp; try omega)]
    exact h3
  · replace K3 := HK.out
    exact (by repeat' (first | with_reducible exact Below.refl _ _ | with_reducible assumption | with_reducible refine Below.alloc ?_ ?_ _ | with_reducible refine Below.drew ?_ | with_reducible refine Below.setCell ?_ ?_ _ | omega | (simp; omega) | (simp; done)))
theorem toGame_c (z : Gm) (a0 a1 a2 : Option Addr) (c0 c1 c2 : Nat) (w : World) (ha : IsSl w (.slice a0 z.es.length c0) 5 Rq.cs z.es) (hb : IsSl w (.slice a1 z.fl.length c1) 1 intR z.fl) (hd : IsSl w (.slice a2 z.la.length c2) 1 intR z.la)
    (hla : z.es.length ≤ 1048576) (hlb : z.fl.length ≤ 1048576) (hld : z.la.length ≤ 1048576) :
    Calls Tryd.prog 23 #[.agg #[.slice a0 z.es.length c0, .slice a1 z.fl.length c1, .slice a2 z.la.length c2]] w (GotGm z w) :=
  (toGame_b z a0 a1 a2 c0 c1 c2 w ha hb hd hla hlb hld).mono fun _ _ ⟨g0, g1, g2, he, h0, h1, h2, _, _, _, k⟩ => ⟨g0, g1, g2, he, sl_of_block five_len h0 rfl hla, sl_of_block int_len h1 rfl hlb, sl_of_block int_len h2 rfl hld, k⟩

set_option maxHeartbeats 2000000 in
theorem szGame_c (a0 a1 a2 : Option Addr) (n0 n1 n2 c0 c1 c2 : Nat) (w : World) (h0 : n0 ≤ c0) (m0 : c0 ≤ maxLen) (h1 : n1 ≤ c1) (m1 : c1 ≤ maxLen) (h2 : n2 ≤ c2) (m2 : c2 ≤ maxLen) :
    Calls Tryd.prog 21 #[.agg #[.slice a0 n0 c0, .slice a1 n1 c1, .slice a2 n2 c2], .int .i64 1048576] w fun e w' =>
      e = .returned (.int .i64 (if n0 + n1 + n2 ≤ 1048576 then 1048576 - n0 - n1 - n2 else -1)) ∧ Below w.heap.size w w' := by
  have M0 := Lib.hid m0
  have M1 := Lib.hid m1
  have M2 := Lib.hid m2
  clear m0 m1 m2
  by_cases hA : n0 ≤ 1048576
  · have e0 : leftOf 1048576 n0 = 1048576 - n0 := by unfold leftOf; rw [if_neg (by omega)]
    by_cases hB : n0 + n1 ≤ 1048576
    · have e1 : leftOf (1048576 - n0) n1 = 1048576 - n0 - n1 := by unfold leftOf; rw [if_neg (by omega)]
      by_cases hC : n0 + n1 + n2 ≤ 1048576
      · have e2 : leftOf (1048576 - n0 - n1) n2 = 1048576 - n0 - n1 - n2 := by unfold leftOf; rw [if_neg (by omega)]
        go_enter Tryd.func21, Tryd.ntmps21
        go_wp2_with fail
        refine (szEntS_c _ _ _ _ _ h0 M0.out (by omega) (by omega)).mono ?_
        rintro e w1 ⟨rfl, rfl⟩
        rw [e0]
        go_wp2_with fail
        refine (szIntS_c _ _ _ _ _ h1 M1.out (by omega) (by omega)).mono ?_
        rintro e w1 ⟨rfl, rfl⟩
        rw [e1]
        go_wp2_with fail
        refine (szIntS_c _ _ _ _ _ h2 M2.out (by omega) (by omega)).mono ?_
        rintro e w1 ⟨rfl, rfl⟩
        rw [e2]
        go_wp2_with fail
        go_ret
        exact ⟨rfl, (by repeat' (first | with_reducible exact Below.refl _ _ | with_reducible assumption | with_reducible refine Below.alloc ?_ ?_ _ | with_reducible refine Below.drew ?_ | with_reducible refine Below.setCell ?_ ?_ _ | omega | (simp; omega) | (simp; done)))⟩
      · have e2 : leftOf (1048576 - n0 - n1) n2 = -1 := by unfold leftOf; rw [if_pos (by omega)]
        go_enter Tryd.func21, Tryd.ntmps21
        go_wp2_with fail
        refine (szEntS_c _ _ _ _ _ h0 M0.out (by omega) (by omega)).mono ?_
        rintro e w1 ⟨rfl, rfl⟩
        rw [e0]
        go_wp2_with fail
        refine (szIntS_c _ _ _ _ _ h1 M1.out (by omega) (by omega)).mono ?_
        rintro e w1 ⟨rfl, rfl⟩
        rw [e1]
        go_wp2_with fail
        refine (szIntS_c _ _ _ _ _ h2 M2.out (by omega) (by omega)).mono ?_
        rintro e w1 ⟨rfl, rfl⟩
        rw [e2]
        go_wp2_with fail
        go_ret
        exact ⟨rfl, (by repeat' (first | with_reducible exact Below.refl _ _ | with_reducible assumption | with_reducible refine Below.alloc ?_ ?_ _ | with_reducible refine Below.drew ?_ | with_reducible refine Below.setCell ?_ ?_ _ | omega | (simp; omega) | (simp; done)))⟩
    · have e1 : leftOf (1048576 - n0) n1 = -1 := by unfold leftOf; rw [if_pos (by omega)]
      have hC : ¬ n0 + n1 + n2 ≤ 1048576 := by omega
      go_enter Tryd.func21, Tryd.ntmps21
      go_wp2_with fail
      refine (szEntS_c _ _ _ _ _ h0 M0.out (by omega) (by omega)).mono ?_
      rintro e w1 ⟨rfl, rfl⟩
      rw [e0]
      go_wp2_with fail
      refine (szIntS_c _ _ _ _ _ h1 M1.out (by omega) (by omega)).mono ?_
      rintro e w1 ⟨rfl, rfl⟩
      rw [e1]
      go_wp2_with fail
      go_ret
      exact ⟨rfl, (by repeat' (first | with_reducible exact Below.refl _ _ | with_reducible assumption | with_reducible refine Below.alloc ?_ ?_ _ | with_reducible refine Below.drew ?_ | with_reducible refine Below.setCell ?_ ?_ _ | omega | (simp; omega) | (simp; done)))⟩
  · have e0 : leftOf 1048576 n0 = -1 := by unfold leftOf; rw [if_pos (by omega)]
    have hC : ¬ n0 + n1 + n2 ≤ 1048576 := by omega
    go_enter Tryd.func21, Tryd.ntmps21
    go_wp2_with fail
    refine (szEntS_c _ _ _ _ _ h0 M0.out (by omega) (by omega)).mono ?_
    rintro e w1 ⟨rfl, rfl⟩
    rw [e0]
    go_wp2_with fail
    go_ret
    exact ⟨rfl, (by repeat' (first | with_reducible exact Below.refl _ _ | with_reducible assumption | with_reducible refine Below.alloc ?_ ?_ _ | with_reducible refine Below.drew ?_ | with_reducible refine Below.setCell ?_ ?_ _ | omega | (simp; omega) | (simp; done)))⟩

set_option maxHeartbeats 1000000 in
theorem eqGame_c (z : Gm) (a0 a1 a2 b0 b1 b2 : Option Addr) (c0 c1 c2 d0 d1 d2 : Nat) (w : World) (ha0 : IsSl w (.slice a0 z.es.length c0) 5 Rq.cs z.es) (ha1 : IsSl w (.slice a1 z.fl.length c1) 1 intR z.fl) (ha2 : IsSl w (.slice a2 z.la.length c2) 1 intR z.la)
    (hb0 : IsSl w (.slice b0 z.es.length d0) 5 Rq.cs z.es) (hb1 : IsSl w (.slice b1 z.fl.length d1) 1 intR z.fl) (hb2 : IsSl w (.slice b2 z.la.length d2) 1 intR z.la) :
    Calls Tryd.prog 25 #[.agg #[.slice a0 z.es.length c0, .slice a1 z.fl.length c1, .slice a2 z.la.length c2], .agg #[.slice b0 z.es.length d0, .slice b1 z.fl.length d1, .slice b2 z.la.length d2]] w (Yes w) := by
  have A1 := Lib.hid ha1
  have B1 := Lib.hid hb1
  have A2 := Lib.hid ha2
  have B2 := Lib.hid hb2
  clear ha1 hb1 ha2 hb2
  go_enter Tryd.func25, Tryd.ntmps25
  go_wp2_with fail
  obtain ⟨W, hW, sW, aW, bW, kW⟩ := blocks2 w (.cells #[.slice a0 z.es.length c0, .slice a1 z.fl.length c1, .slice a2 z.la.length c2] 41) (.cells #[.slice b0 z.es.length d0, .slice b1 z.fl.length d1, .slice b2 z.la.length d2] 41)
  rw [← hW]
  clear hW
  refine (eqEntS_c _ _ z.es _ (ha0.below kW) (hb0.below kW)).mono ?_
  rintro e w1 ⟨rfl, k1⟩
  have s1 := k1.size
  have K1 := below_next kW k1
  have hcA := cell_of_block (carryB k1 (by omega) aW)
  have hcB := cell_of_block (carryB k1 (by omega) bW)
  go_wp2_with fail
  refine (eqIntS_c _ _ z.fl _ (A1.out.below K1) (B1.out.below K1)).mono ?_
  rintro e w2 ⟨rfl, k2⟩
  have s2 := k2.size
  have hcA2 := cell_of_block (carryB k2 (by omega) (carryB k1 (by omega) aW))
  have hcB2 := cell_of_block (carryB k2 (by omega) (carryB k1 (by omega) bW))
  have K2 := below_next K1 k2
  go_wp2_with fail
  refine (eqIntS_c _ _ z.la _ (A2.out.below K2) (B2.out.below K2)).mono ?_
  rintro e w3 ⟨rfl, k3⟩
  have K3 := below_next K2 k3
  go_wp2_with fail
  go_ret
  exact ⟨rfl, K3⟩
end Go.Proofs.YtilldpoleiippaaDoor

/-! Contracts of GamePut, the program's and the reference's, at games that are ok; condition: strconv's table of tens as listed. -/
namespace Go.Proofs.YtilldpoleiippaaDoor
open Go.RowKit Go.Joins

theorem commasL_take {zs : List Int} {k : Nat} (h : k < zs.length) : commasL (zs.take (k + 1)) = commasL (zs.take k) ++ (Lib.itoa zs[k] ++ [44]) := by
  unfold commasL
  rw [List.take_succ_eq_append_getElem h, List.flatMap_append]
  simp only [List.flatMap_cons, List.flatMap_nil, List.append_nil]
theorem commasL_len {zs : List Int} (hb : ∀ x ∈ zs, -99 ≤ x ∧ x ≤ 99) : ∀ k, k ≤ zs.length → (commasL (zs.take k)).length ≤ k * 22
  | 0, _ => by simp [commasL]
  | k + 1, hk => by
    have ih := commasL_len hb k (by omega)
    have hx := hb zs[k] (List.getElem_mem _)
    have h1 := itoa_len zs[k] (by omega) (by omega)
    rw [commasL_take (show k < zs.length by omega)]
    simp only [List.length_append, List.length_cons, List.length_nil]
    omega
theorem commas_len {zs : List Int} (hb : ∀ x ∈ zs, -99 ≤ x ∧ x ≤ 99) : (commasL zs).length ≤ zs.length * 22 := by
  have := commasL_len hb zs.length (Nat.le_refl _)
  rwa [List.take_length] at this

set_option maxRecDepth 100000 in
set_option maxHeartbeats 1000000 in
theorem commas_c (a : Option Addr) (n cap : Nat) (zs : List Int) (w : World) (T : Lib.TabIs Tryd.prog w "internal/strconv.uint64pow10" .u64 Lib.pow10Tab) (h : IsSl w (.slice a n cap) 1 intR zs) (hb : ∀ x ∈ zs, -99 ≤ x ∧ x ≤ 99) (hn : n ≤ 100) :
    Calls Tryd.prog 66 #[.slice a n cap] w fun e w' => e = .returned (.string ⟨(commasL zs).toArray⟩) ∧ Below w.heap.size w w' := by
  obtain ⟨hzl, hlc, hm, hr⟩ := h.bounds
  have HR := Lib.hid hr
  have HZ := Lib.hid hzl
  have TT := Lib.hid T
  have HB := Lib.hid hb
  have HT := Lib.hid (commasL_len hb)
  clear hr h hzl T hb hlc hm
  have hbu := Lib.IsBuilderF.of (Lib.fresh_isBuilder 78 5 w)
  have kU := (Below.refl w.heap.size w).alloc (Nat.le_refl _) (.cells #[.pointer none, .slice none 0 0] 78)
  have sU : w.heap.size < (w.alloc (.cells #[.pointer none, .slice none 0 0] 78)).heap.size := by simp
  go_enter Tryd.func66, Tryd.ntmps66
  go_wp2_with fail
  go_loopw [8] (fun i wr => ∃ k : Nat, k ≤ n ∧ i = .int .i64 k ∧ Lib.IsBuilderF 78 5 w.heap.size w.heap.size (Lib.byteCells (commasL (zs.take k))) wr ∧ Below w.heap.size w wr ∧ w.heap.size < wr.heap.size) (fun i _ => n - (intOf i).toNat)
  case atStart => exact ⟨0, Nat.zero_le _, rfl, hbu, kU, sU⟩
  case round =>
    obtain ⟨k, hk, rfl, hbu, hbel, hsr⟩ := hrel
    have HBel := Lib.hid hbel
    have HU := Lib.hid hbu
    clear hbu
    by_cases hlt : k < n
    · have hkz : k < zs.length := by rw [HZ.out]; exact hlt
      have hk1 : (k : Int) < (n : Int) := by omega
      have hk0 : (0 : Int) ≤ (k : Int) := by omega
      obtain ⟨b0, o0, rfl, hl0, hc0⟩ := one_at HR.out k hkz
      have c0 := hc0 wr hbel
      have HS := Lib.hid (commasL_take hkz)
      obtain ⟨hs0, hs1⟩ := HB.out zs[k] (List.getElem_mem _)
      have lo := HT.out k (by rw [HZ.out]; exact hk)
      clear hc0
      generalize zs[k] = z at *
      have cC := Lib.hid (fun V T => Itoa_p z V (by omega) (by omega) T)
      have lc := itoa_len z (by omega) (by omega)
      generalize Lib.itoa z = sc at *
      generalize commasL (zs.take k) = so at *
      clear hs0 hs1 hbel
      have n1 : ¬ 9223372036854775807 < sc.length + 1 := by omega
      go_wp2_with fail
      refine (cC.out wr (tab_stays gPow TT.out HBel.out (Nat.le_refl _))).mono ?_
      rintro e w2 ⟨rfl, k2⟩
      have K2 := below_next HBel.out k2
      have U2 := Lib.hid (builder_below HU.out k2)
      have l2 : w.heap.size < w2.heap.size := Nat.lt_of_lt_of_le hsr k2.size
      clear k2 c0
      go_wp2_with fail
      have et : (⟨sc.toArray⟩ : ByteArray) ++ ⟨#[44]⟩ = ⟨(sc ++ [44]).toArray⟩ := by
        apply ByteArray.ext
        simp
      rw [et]
      have hl4 : (Lib.byteCells so).length + (⟨(sc ++ [44]).toArray⟩ : ByteArray).size ≤ 140737488355328 := by
        rw [Lib.byteCells_length, bytes_len]
        simp only [List.length_append, List.length_cons, List.length_nil]
        omega
      have hB2 : w.heap.size ≤ w2.heap.size := by omega
      have hcW := WriteString_c w.heap.size w.heap.size (Lib.byteCells so) ⟨(sc ++ [44]).toArray⟩ w2 U2.out hl4 hB2
      clear hl4
      refine hcW.mono ?_
      rintro e w4 ⟨rfl, u4, k4, -⟩
      have K4 : Below w.heap.size w w4 := K2.trans k4
      have u5 : Lib.IsBuilderF 78 5 w.heap.size w.heap.size (Lib.byteCells (commasL (zs.take (k + 1)))) w4 := by
        rw [HS.out]
        have e2 : Lib.byteCells so ++ Lib.strCells ⟨(sc ++ [44]).toArray⟩ = Lib.byteCells (so ++ (sc ++ [44])) := by
          rw [Lib.strCells_eq]
          simp only [Lib.byteCells_append, List.append_assoc]
        rw [← e2]
        exact u4
      have HU5 := Lib.hid u5
      have l4 : w.heap.size < w4.heap.size := Nat.lt_of_lt_of_le l2 k4.size
      clear u4 u5 k4 et
      go_wp2_with fail
      go_roundw
      case rel => exact ⟨k + 1, by omega, by go_num, HU5.out, K4, l4⟩
      case measure => simp [intOf]; omega
    · have e : zs.take k = zs := List.take_of_length_le (by rw [HZ.out]; omega)
      rw [e] at HU
      clear e
      go_wp2_with fail
      refine (BuilderString_c w.heap.size w.heap.size (commasL zs) wr HU.out (Nat.le_of_lt hsr)).mono ?_
      rintro e w4 ⟨rfl, k4⟩
      go_wp2_with fail
      go_ret
      exact ⟨rfl, hbel.trans k4⟩

/-! The reference's way. -/
theorem entText_eq (e : Rq) : entText e = [47] ++ Lib.itoa e.c ++ [44] ++ Lib.itoa e.n ++ [44] ++ Lib.itoa e.o ++ [44] ++ Lib.itoa e.x ++ [44] ++ Lib.itoa e.y := by
  simp [entText, fiveOf, betweenL, glue]
theorem ents_take {es : List Rq} {k : Nat} (h : k < es.length) : (es.take (k + 1)).flatMap entText = (es.take k).flatMap entText ++ entText es[k] := by
  rw [List.take_succ_eq_append_getElem h, List.flatMap_append]
  simp only [List.flatMap_cons, List.flatMap_nil, List.append_nil]
theorem ents_len {es : List Rq} (hb : ∀ e ∈ es, ∀ n ∈ fiveOf e, 0 ≤ n ∧ n ≤ 20) : ∀ k, k ≤ es.length → ((es.take k).flatMap entText).length ≤ k * 110
  | 0, _ => by simp
  | k + 1, hk => by
    have ih := ents_len hb k (by omega)
    have he := hb es[k] (List.getElem_mem _)
    have b0 := he es[k].c (by simp [fiveOf])
    have b1 := he es[k].n (by simp [fiveOf])
    have b2 := he es[k].o (by simp [fiveOf])
    have b3 := he es[k].x (by simp [fiveOf])
    have b4 := he es[k].y (by simp [fiveOf])
    have h0 := itoa_len es[k].c (by omega) (by omega)
    have h1 := itoa_len es[k].n (by omega) (by omega)
    have h2 := itoa_len es[k].o (by omega) (by omega)
    have h3 := itoa_len es[k].x (by omega) (by omega)
    have h4 := itoa_len es[k].y (by omega) (by omega)
    rw [ents_take (show k < es.length by omega), List.length_append, entText_eq]
    simp only [List.length_append, List.length_cons, List.length_nil]
    omega
theorem small_nums {zs : List Int} {m : Int} (h : ∀ n ∈ zs, 0 ≤ n ∧ n ≤ m) (hm : m ≤ 99) : ∀ x ∈ zs, -99 ≤ x ∧ x ≤ 99 := fun x hx => by have := h x hx; omega

set_option maxRecDepth 100000 in
set_option maxHeartbeats 4000000 in
theorem l2Put_c (z : Gm) (a0 a1 a2 : Option Addr) (c0 c1 c2 : Nat) (w : World) (h0 : IsSl w (.slice a0 z.es.length c0) 5 Rq.cs z.es) (h1 : IsSl w (.slice a1 z.fl.length c1) 1 intR z.fl) (h2 : IsSl w (.slice a2 z.la.length c2) 1 intR z.la) (hg : gameB z = true) :
    Calls Tryd.prog 63 #[.agg #[.slice a0 z.es.length c0, .slice a1 z.fl.length c1, .slice a2 z.la.length c2]] w fun e w' => e = .returned (.string ⟨(gameText z).toArray⟩) ∧ Below w.heap.size w w' := by
  obtain ⟨n1, n2, n3⟩ := game_nums hg
  obtain ⟨l1, l2⟩ := game_lens hg
  have l0 := game_ents hg
  have S1 := small_nums n1 (by decide)
  have S2 := small_nums n2 (by decide)
  obtain ⟨es, fl, la⟩ := z
  simp only at h0 h1 h2 n1 n2 n3 l0 l1 l2 S1 S2 ⊢
  have HGT : Hid (gameText ⟨es, fl, la⟩ = commasL fl ++ [47] ++ commasL la ++ es.flatMap entText) := rfl
  obtain ⟨-, hlc0, hm0, hr0⟩ := h0.bounds
  obtain ⟨-, hlc1, hm1, hr1⟩ := h1.bounds
  obtain ⟨-, hlc2, hm2, hr2⟩ := h2.bounds
  have R0 := Lib.hid hr0
  have R1 := Lib.hid hr1
  have R2 := Lib.hid hr2
  have B1 := Lib.hid S1
  have B2 := Lib.hid S2
  have B3 := Lib.hid n3
  have T1 := Lib.hid (commasL_len S1)
  have T2 := Lib.hid (commasL_len S2)
  have T3 := Lib.hid (ents_len n3)
  have TF := commas_len S1
  have TL := commas_len S2
  have LF := Lib.hid l1
  have LL := Lib.hid l2
  rw [l1] at TF
  rw [l2] at TL
  clear hr0 hr1 hr2 S1 S2 n1 n2 n3 h0 h1 h2 hg hm0 hm1 hm2 hlc0 hlc1 hlc2
  rw [l1, l2]
  clear l1 l2
  obtain ⟨m, hm⟩ : ∃ m, m = es.length := ⟨_, rfl⟩
  rw [← hm] at l0 ⊢
  have LE := Lib.hid hm
  clear hm
  go_enter Tryd.func63, Tryd.ntmps63
  go_wp2_with fail
  obtain ⟨W, hW, sW, aW, kW⟩ := blocks1 w (.cells #[.slice a0 m c0, .slice a1 16 c1, .slice a2 4 c2] 41)
  rw [← hW]
  clear hW
  have lW := lt_of_block aW
  have AW := Lib.hid aW
  have KW := Lib.hid kW
  clear aW kW sW
  go_loopw [3, 4] (fun s i wr => ∃ k : Nat, k ≤ 16 ∧ i = .int .i64 k ∧ s = .string ⟨(commasL (fl.take k)).toArray⟩ ∧ Below W.heap.size W wr) (fun _ i _ => 16 - (intOf i).toNat)
  case atStart => exact ⟨0, Nat.zero_le _, rfl, rfl, Below.refl _ _⟩
  case round =>
    obtain ⟨k, hk, rfl, rfl, hbel⟩ := hrel
    have HBel := Lib.hid hbel
    have aR := carryB hbel lW AW.out
    have cR := cell_of_block aR
    have lR := lt_of_block aR
    by_cases hlt : k < 16
    · have hkz : k < fl.length := by rw [LF.out]; exact hlt
      have hk1 : (k : Int) < 16 := by omega
      have hk0 : (0 : Int) ≤ (k : Int) := by omega
      obtain ⟨b0, o0, rfl, hl0, hc0⟩ := one_at R1.out k hkz
      have d0 := hc0 wr (KW.out.trans (hbel.mono KW.out.size))
      have HS := Lib.hid (commasL_take hkz)
      obtain ⟨hs0, hs1⟩ := B1.out fl[k] (List.getElem_mem _)
      have lo := T1.out k (by rw [LF.out]; exact hk)
      clear hc0 hbel
      generalize fl[k] = x at *
      have cC := Lib.hid (fun V => l1Dec_c x V (by omega) (by omega))
      have lc := itoa_len x (by omega) (by omega)
      generalize Lib.itoa x = sc at *
      generalize commasL (fl.take k) = so at *
      have n1 : ¬ 9223372036854775807 < so.length + sc.length := by omega
      have n2 : ¬ 9223372036854775807 < so.length + sc.length + 1 := by omega
      clear hs0 hs1
      go_wp2_with fail
      refine (cC.out wr).mono ?_
      rintro e w2 ⟨rfl, k2⟩
      have K2 := below_next HBel.out k2
      clear cR d0 k2
      go_wp2_with fail
      go_roundw
      case rel =>
        refine ⟨k + 1, by omega, by go_num, ?_, K2⟩
        rw [HS.out]
        congr 1
        apply ByteArray.ext
        simp
      case measure => simp [intOf]; omega
    · have hk1 : ¬ (k : Int) < 16 := by omega
      have e : fl.take k = fl := List.take_of_length_le (by rw [LF.out]; omega)
      rw [e]
      clear e hbel aR
      generalize commasL fl = sf at *
      have n1 : ¬ 9223372036854775807 < sf.length + 1 := by omega
      go_wp2_with fail
      have et : (⟨sf.toArray⟩ : ByteArray) ++ ⟨#[47]⟩ = ⟨(sf ++ [47]).toArray⟩ := by
        apply ByteArray.ext
        simp
      rw [et]
      clear et n1 cR
      have HB0 := Lib.hid HBel.out
      go_loopw [3, 5] (fun s i wr => ∃ k : Nat, k ≤ 4 ∧ i = .int .i64 k ∧ s = .string ⟨(sf ++ [47] ++ commasL (la.take k)).toArray⟩ ∧ Below W.heap.size W wr) (fun _ i _ => 4 - (intOf i).toNat)
      case atStart => exact ⟨0, Nat.zero_le _, rfl, by simp [commasL], HB0.out⟩
      case round =>
        clear HBel HB0 lR
        obtain ⟨k2, hk, rfl, rfl, hbel⟩ := hrel
        have HBel := Lib.hid hbel
        have aR := carryB hbel lW AW.out
        have cR := cell_of_block aR
        have lR := lt_of_block aR
        by_cases hlt2 : k2 < 4
        · have hkz : k2 < la.length := by rw [LL.out]; exact hlt2
          have hk1 : (k2 : Int) < 4 := by omega
          have hk0 : (0 : Int) ≤ (k2 : Int) := by omega
          obtain ⟨b0, o0, rfl, hl0, hc0⟩ := one_at R2.out k2 hkz
          have d0 := hc0 _ (KW.out.trans (hbel.mono KW.out.size))
          have HS := Lib.hid (commasL_take hkz)
          obtain ⟨hs0, hs1⟩ := B2.out la[k2] (List.getElem_mem _)
          have lo := T2.out k2 (by rw [LL.out]; exact hk)
          clear hc0 hbel
          generalize la[k2] = x at *
          have cC := Lib.hid (fun V => l1Dec_c x V (by omega) (by omega))
          have lc := itoa_len x (by omega) (by omega)
          generalize Lib.itoa x = sc at *
          have hso : (sf ++ [47] ++ commasL (la.take k2)).length ≤ 16 * 22 + 1 + k2 * 22 := by
            simp only [List.length_append, List.length_cons, List.length_nil]
            omega
          have HS2 := Lib.hid (show sf ++ [47] ++ commasL (la.take (k2 + 1)) = (sf ++ [47] ++ commasL (la.take k2)) ++ (sc ++ [44]) by rw [HS.out]; simp)
          clear HS
          generalize sf ++ [47] ++ commasL (la.take k2) = so at *
          have n1 : ¬ 9223372036854775807 < so.length + sc.length := by omega
          have n2 : ¬ 9223372036854775807 < so.length + sc.length + 1 := by omega
          clear hs0 hs1 lo
          go_wp2_with fail
          refine (cC.out _).mono ?_
          rintro e w2 ⟨rfl, kk⟩
          have K2 := below_next HBel.out kk
          clear cR d0 kk
          go_wp2_with fail
          go_roundw
          case rel =>
            refine ⟨k2 + 1, by omega, by go_num, ?_, K2⟩
            rw [HS2.out]
            congr 1
            apply ByteArray.ext
            simp
          case measure => simp [intOf]; omega
        · have hk2 : ¬ (k2 : Int) < 4 := by omega
          have e : la.take k2 = la := List.take_of_length_le (by rw [LL.out]; omega)
          rw [e]
          have hsb : (sf ++ [47] ++ commasL la).length ≤ 16 * 22 + 1 + 4 * 22 := by
            simp only [List.length_append, List.length_cons, List.length_nil]
            omega
          clear e hbel aR
          generalize sf ++ [47] ++ commasL la = sb at *
          clear TF TL R1 R2 B1 B2 T1 T2
          go_wp2_with fail
          have HB0 := Lib.hid HBel.out
          go_loopw [3, 6] (fun s i wr => ∃ k : Nat, k ≤ m ∧ i = .int .i64 k ∧ s = .string ⟨(sb ++ (es.take k).flatMap entText).toArray⟩ ∧ Below W.heap.size W wr) (fun _ i _ => m - (intOf i).toNat)
          case atStart => exact ⟨0, Nat.zero_le _, rfl, by simp, HB0.out⟩
          case round =>
            clear HBel HB0 lR cR
            obtain ⟨k3, hk, rfl, rfl, hbel⟩ := hrel
            have HBel := Lib.hid hbel
            have aR := carryB hbel lW AW.out
            have cR := cell_of_block aR
            have lR := lt_of_block aR
            by_cases hlt3 : k3 < m
            · have hkz : k3 < es.length := by rw [← LE.out]; exact hlt3
              have hq1 : (k3 : Int) < (m : Int) := by omega
              have hq0 : (0 : Int) ≤ (k3 : Int) := by omega
              obtain ⟨b0, o0, rfl, hl0, hc0⟩ := five_at R0.out k3 hkz
              obtain ⟨d0, d1, d2, d3, d4⟩ := hc0 _ (KW.out.trans (hbel.mono KW.out.size))
              have HS := Lib.hid (ents_take hkz)
              have hbe := B3.out es[k3] (List.getElem_mem _)
              have lo := T3.out k3 (by rw [← LE.out]; exact hk)
              clear hc0 hbel
              generalize es[k3] = z at *
              have b0 := hbe z.c (by simp [fiveOf])
              have b1 := hbe z.n (by simp [fiveOf])
              have b2 := hbe z.o (by simp [fiveOf])
              have b3 := hbe z.x (by simp [fiveOf])
              have b4 := hbe z.y (by simp [fiveOf])
              rw [entText_eq] at HS
              clear hbe
              have hso : (sb ++ (es.take k3).flatMap entText).length ≤ 16 * 22 + 1 + 4 * 22 + k3 * 110 := by
                rw [List.length_append]
                omega
              have HS2 := Lib.hid (show sb ++ (es.take (k3 + 1)).flatMap entText = (sb ++ (es.take k3).flatMap entText) ++ ([47] ++ Lib.itoa z.c ++ [44] ++ Lib.itoa z.n ++ [44] ++ Lib.itoa z.o ++ [44] ++ Lib.itoa z.x ++ [44] ++ Lib.itoa z.y) by rw [HS.out]; simp only [List.append_assoc])
              clear HS
              generalize sb ++ (es.take k3).flatMap entText = so at *
              have cA := Lib.hid (fun V => l1Dec_c z.c V (by omega) (by omega))
              have cB := Lib.hid (fun V => l1Dec_c z.n V (by omega) (by omega))
              have cC := Lib.hid (fun V => l1Dec_c z.o V (by omega) (by omega))
              have cD := Lib.hid (fun V => l1Dec_c z.x V (by omega) (by omega))
              have cE := Lib.hid (fun V => l1Dec_c z.y V (by omega) (by omega))
              have la := itoa_len z.c (by omega) (by omega)
              have lb := itoa_len z.n (by omega) (by omega)
              have lc := itoa_len z.o (by omega) (by omega)
              have ld := itoa_len z.x (by omega) (by omega)
              have le := itoa_len z.y (by omega) (by omega)
              generalize Lib.itoa z.c = sA at *
              generalize Lib.itoa z.n = sB at *
              generalize Lib.itoa z.o = sC at *
              generalize Lib.itoa z.x = sD at *
              generalize Lib.itoa z.y = sE at *
              have n0 : ¬ 9223372036854775807 < so.length + 1 := by omega
              have n1 : ¬ 9223372036854775807 < so.length + 1 + sA.length := by omega
              have n2 : ¬ 9223372036854775807 < so.length + 1 + sA.length + 1 := by omega
              have n3 : ¬ 9223372036854775807 < so.length + 1 + sA.length + 1 + sB.length := by omega
              have n4 : ¬ 9223372036854775807 < so.length + 1 + sA.length + 1 + sB.length + 1 := by omega
              have n5 : ¬ 9223372036854775807 < so.length + 1 + sA.length + 1 + sB.length + 1 + sC.length := by omega
              have n6 : ¬ 9223372036854775807 < so.length + 1 + sA.length + 1 + sB.length + 1 + sC.length + 1 := by omega
              have n7 : ¬ 9223372036854775807 < so.length + 1 + sA.length + 1 + sB.length + 1 + sC.length + 1 + sD.length := by omega
              have n8 : ¬ 9223372036854775807 < so.length + 1 + sA.length + 1 + sB.length + 1 + sC.length + 1 + sD.length + 1 := by omega
              have n9 : ¬ 9223372036854775807 < so.length + 1 + sA.length + 1 + sB.length + 1 + sC.length + 1 + sD.length + 1 + sE.length := by omega
              clear b0 b1 b2 b3 b4 lo hso la lb lc ld le
              go_wp2_with fail
              obtain ⟨V, hV, sV, aV, kV⟩ := blocks1 wr (.cells #[.int .i64 z.c, .int .i64 z.n, .int .i64 z.o, .int .i64 z.x, .int .i64 z.y] 92)
              rw [← hV]
              clear hV
              have K3 := below_next HBel.out kV
              have qA := quietC (w := V) (fun U _ => cA.out U)
              have qB := quietC (w := V) (fun U _ => cB.out U)
              have qC := quietC (w := V) (fun U _ => cC.out U)
              have qD := quietC (w := V) (fun U _ => cD.out U)
              have qE := quietC (w := V) (fun U _ => cE.out U)
              have e0 := fun d os => cellRe aV d os 0
              have e1 := fun d os => cellRe aV d os 1
              have e2 := fun d os => cellRe aV d os 2
              have e3 := fun d os => cellRe aV d os 3
              have e4 := fun d os => cellRe aV d os 4
              clear cR aR lR d0 d1 d2 d3 d4 kV sV
              refine wp_region_quiet_below (by kernel_rfl) (by kernel_rfl) ?_
              repeat (go_big_quiet_step (first | with_reducible exact qA _ _ | with_reducible exact qB _ _ | with_reducible exact qC _ _ | with_reducible exact qD _ _ | with_reducible exact qE _ _))
              refine wpQuiet_nil ?_
              intro _ hw'
              obtain ⟨⟨dq, osq⟩, hw''⟩ := hw'
              subst hw''
              have KQ := below_next K3 (below_regrown V dq osq)
              go_wp2_with fail
              go_roundw
              case rel =>
                refine ⟨k3 + 1, by omega, by go_num, ?_, KQ⟩
                rw [HS2.out]
                congr 1
                apply ByteArray.ext
                simp
              case measure => simp [intOf]; omega
            · have e : es.take k3 = es := List.take_of_length_le (by rw [← LE.out]; omega)
              rw [e]
              clear e
              have hq1 : ¬ (k3 : Int) < (m : Int) := by omega
              have KF := KW.out.trans (hbel.mono KW.out.size)
              have HF := Lib.hid HGT.out
              clear HGT
              generalize es.flatMap entText = se at *
              go_wp2_with fail
              go_ret
              exact ⟨ret_str (by rw [HF.out]), KF⟩

set_option maxHeartbeats 1000000 in
theorem sGamePut_c (z : Gm) (a0 a1 a2 : Option Addr) (c0 c1 c2 : Nat) (w : World) (h0 : IsSl w (.slice a0 z.es.length c0) 5 Rq.cs z.es) (h1 : IsSl w (.slice a1 z.fl.length c1) 1 intR z.fl) (h2 : IsSl w (.slice a2 z.la.length c2) 1 intR z.la) (hs : z.es.length + z.fl.length + z.la.length ≤ 4194304) :
    Calls Tryd.prog 22 #[.agg #[.slice a0 z.es.length c0, .slice a1 z.fl.length c1, .slice a2 z.la.length c2]] w fun e w' => e = .returned (.string ⟨(gamePut z).toArray⟩) ∧ Below w.heap.size w w' := by
  have H0 := Lib.hid h0
  have H1 := Lib.hid h1
  have H2 := Lib.hid h2
  clear h0 h1 h2
  cases hg : gameB z with
  | true =>
    have HP : Hid (gamePut z = gameText z) := by show _ = _; unfold gamePut; rw [if_pos hg]
    have CO := Lib.hid (fun V h0 h1 h2 => l2Ok_c z a0 a1 a2 c0 c1 c2 V h0 h1 h2 hs)
    rw [hg] at CO
    have CT := Lib.hid (fun V h0 h1 h2 => l2Put_c z a0 a1 a2 c0 c1 c2 V h0 h1 h2 hg)
    clear hg
    generalize gameText z = tx at *
    generalize z.es.length = n0 at *
    generalize z.fl.length = n1 at *
    generalize z.la.length = n2 at *
    go_enter Tryd.func22, Tryd.ntmps22
    go_wp2_with fail
    obtain ⟨W, hW, sW, aW, kW⟩ := blocks1 w (.cells #[.slice a0 n0 c0, .slice a1 n1 c1, .slice a2 n2 c2] 41)
    rw [← hW]
    clear hW
    refine (CO.out W (H0.out.below kW) (H1.out.below kW) (H2.out.below kW)).mono ?_
    rintro e w1 ⟨rfl, k1⟩
    have K1 := below_next kW k1
    have a1 := carryB k1 (lt_of_block aW) aW
    have ca := cell_of_block a1
    have la := lt_of_block a1
    clear kW k1 aW sW
    go_wp2_with fail
    refine (CT.out w1 (H0.out.below K1) (H1.out.below K1) (H2.out.below K1)).mono ?_
    rintro e w2 ⟨rfl, k2⟩
    go_wp2_with fail
    go_ret
    exact ⟨ret_str (by rw [HP.out]), below_next K1 k2⟩
  | false =>
    have HP : Hid (gamePut z = []) := by show _ = _; unfold gamePut; rw [if_neg (by rw [hg]; simp)]
    have CO := Lib.hid (fun V h0 h1 h2 => l2Ok_c z a0 a1 a2 c0 c1 c2 V h0 h1 h2 hs)
    rw [hg] at CO
    clear hg
    go_enter Tryd.func22, Tryd.ntmps22
    go_wp2_with fail
    obtain ⟨W, hW, sW, aW, kW⟩ := blocks1 w (.cells #[.slice a0 z.es.length c0, .slice a1 z.fl.length c1, .slice a2 z.la.length c2] 41)
    rw [← hW]
    clear hW
    refine (CO.out W (H0.out.below kW) (H1.out.below kW) (H2.out.below kW)).mono ?_
    rintro e w1 ⟨rfl, k1⟩
    go_wp2_with fail
    go_ret
    exact ⟨ret_str (by rw [HP.out]), below_next kW k1⟩
end Go.Proofs.YtilldpoleiippaaDoor

/-! Contract of the program's GamePut; condition: strconv's table of tens as listed. -/
namespace Go.Proofs.YtilldpoleiippaaDoor
open Go.RowKit Go.Joins

theorem trim_five (e : Rq) : Lib.trimSuffix (commasL (fiveOf e)) [44] = betweenL (fiveOf e) := by
  have h := commasL_between e.c [e.n, e.o, e.x, e.y]
  show Lib.trimSuffix (commasL (e.c :: [e.n, e.o, e.x, e.y])) [44] = betweenL (e.c :: [e.n, e.o, e.x, e.y])
  rw [h, trim_snoc]

theorem between_len (e : Rq) (hb : ∀ n ∈ fiveOf e, 0 ≤ n ∧ n ≤ 20) : (betweenL (fiveOf e)).length ≤ 110 := by
  have h1 := commasL_between e.c [e.n, e.o, e.x, e.y]
  have h2 := commas_len (small_nums hb (by decide))
  have h3 : (fiveOf e).length = 5 := rfl
  have h4 : commasL (fiveOf e) = betweenL (fiveOf e) ++ [44] := h1
  rw [h4, h3, List.length_append] at h2
  simp only [List.length_cons, List.length_nil] at h2
  omega
theorem trim_c (e : Rq) (w : World) (hb : ∀ n ∈ fiveOf e, 0 ≤ n ∧ n ≤ 20) :
    Calls Tryd.prog 67 #[.string ⟨(commasL (fiveOf e)).toArray⟩, .string ⟨#[44]⟩] w fun x w' => x = .returned (.string ⟨(betweenL (fiveOf e)).toArray⟩) ∧ w = w' := by
  have h2 := commas_len (small_nums hb (by decide))
  have h3 : (fiveOf e).length = 5 := rfl
  refine (Tryd.strings_TrimSuffix ⟨(commasL (fiveOf e)).toArray⟩ ⟨#[44]⟩ w (by rw [bytes_len]; omega)).mono ?_
  rintro x w' ⟨rfl, rfl⟩
  refine ⟨?_, rfl⟩
  simp only [List.toList_toArray]
  rw [show ([44] : List UInt8) = [44] from rfl, trim_five]

set_option maxRecDepth 100000 in
set_option maxHeartbeats 4000000 in
theorem GamePut_c (z : Gm) (a0 a1 a2 : Option Addr) (c0 c1 c2 : Nat) (w : World) (T : Lib.TabIs Tryd.prog w "internal/strconv.uint64pow10" .u64 Lib.pow10Tab) (h0 : IsSl w (.slice a0 z.es.length c0) 5 Rq.cs z.es) (h1 : IsSl w (.slice a1 z.fl.length c1) 1 intR z.fl) (h2 : IsSl w (.slice a2 z.la.length c2) 1 intR z.la) (hs : z.es.length + z.fl.length + z.la.length ≤ 4194304) :
    Calls Tryd.prog 24 #[.agg #[.slice a0 z.es.length c0, .slice a1 z.fl.length c1, .slice a2 z.la.length c2]] w fun e w' => e = .returned (.string ⟨(gamePut z).toArray⟩) ∧ Below w.heap.size w w' := by
  have H0 := Lib.hid h0
  have H1 := Lib.hid h1
  have H2 := Lib.hid h2
  have TT := Lib.hid T
  clear T
  have CO := Lib.hid (fun V h0 h1 h2 => GameOk_c z a0 a1 a2 c0 c1 c2 V h0 h1 h2 hs)
  cases hg : gameB z with
  | false =>
    have HP : Hid (gamePut z = []) := by show _ = _; unfold gamePut; rw [if_neg (by rw [hg]; simp)]
    rw [hg] at CO
    clear hg h0 h1 h2
    go_enter Tryd.func24, Tryd.ntmps24
    go_wp2_with fail
    obtain ⟨W, hW, sW, aW, kW⟩ := blocks1 w (.cells #[.slice a0 z.es.length c0, .slice a1 z.fl.length c1, .slice a2 z.la.length c2] 41)
    rw [← hW]
    clear hW
    refine (CO.out W (H0.out.below kW) (H1.out.below kW) (H2.out.below kW)).mono ?_
    rintro e w1 ⟨rfl, k1⟩
    go_wp2_with fail
    go_ret
    exact ⟨ret_str (by rw [HP.out]), below_next kW k1⟩
  | true =>
    have HP : Hid (gamePut z = gameText z) := by show _ = _; unfold gamePut; rw [if_pos hg]
    rw [hg] at CO
    obtain ⟨n1, n2, n3⟩ := game_nums hg
    obtain ⟨l1, l2⟩ := game_lens hg
    have l0 := game_ents hg
    have S1 := small_nums n1 (by decide)
    have S2 := small_nums n2 (by decide)
    obtain ⟨es, fl, la⟩ := z
    simp only at h0 h1 h2 n1 n2 n3 l0 l1 l2 S1 S2 H0 H1 H2 CO ⊢
    have HGT : Hid (gameText ⟨es, fl, la⟩ = commasL fl ++ [47] ++ commasL la ++ es.flatMap entText) := rfl
    obtain ⟨-, hlc0, hm0, hr0⟩ := h0.bounds
    have R0 := Lib.hid hr0
    have B3 := Lib.hid n3
    have T3 := Lib.hid (ents_len n3)
    have TF := commas_len S1
    have TL := commas_len S2
    have CF := Lib.hid (fun V T h => commas_c a1 fl.length c1 fl V T h S1 (by omega))
    have CL := Lib.hid (fun V T h => commas_c a2 la.length c2 la V T h S2 (by omega))
    rw [l1] at TF CF H1 CO
    rw [l2] at TL CL H2 CO
    clear hr0 S1 S2 n1 n2 n3 h0 h1 h2 hg hm0 hlc0 hs
    rw [l1, l2]
    clear l1 l2
    obtain ⟨m, hm⟩ : ∃ m, m = es.length := ⟨_, rfl⟩
    rw [← hm] at l0 H0 CO ⊢
    have LE := Lib.hid hm
    clear hm
    go_enter Tryd.func24, Tryd.ntmps24
    go_wp2_with fail
    obtain ⟨W, hW, sW, aW, kW⟩ := blocks1 w (.cells #[.slice a0 m c0, .slice a1 16 c1, .slice a2 4 c2] 41)
    rw [← hW]
    clear hW
    refine (CO.out W (H0.out.below kW) (H1.out.below kW) (H2.out.below kW)).mono ?_
    rintro e w1 ⟨rfl, k1⟩
    have K1 := below_next kW k1
    have b1 := carryB k1 (lt_of_block aW) aW
    clear kW k1 aW sW CO
    have e0 := fun d os => cellRe b1 d os 0
    have e1 := fun d os => cellRe b1 d os 1
    have e2 := fun d os => cellRe b1 d os 2
    have TK := Lib.hid (fun U (k : Below w1.heap.size w1 U) => tab_stays gPow TT.out (below_next K1 k) (Nat.le_refl _))
    have qF := quietC (w := w1) (fun U k => CF.out U (TK.out U k) (H1.out.below (below_next K1 k)))
    have qL := quietC (w := w1) (fun U k => CL.out U (TK.out U k) (H2.out.below (below_next K1 k)))
    generalize commasL fl = sf at *
    generalize commasL la = sl at *
    have n1 : ¬ 9223372036854775807 < sf.length + 1 := by omega
    have n2 : ¬ 9223372036854775807 < sf.length + 1 + sl.length := by omega
    go_wp2_with fail
    refine wp_region_quiet_below (by kernel_rfl) (by kernel_rfl) ?_
    repeat (go_big_quiet_step (first | with_reducible exact qF _ _ | with_reducible exact qL _ _))
    refine wpQuiet_nil ?_
    intro _ hw'
    obtain ⟨⟨dq, osq⟩, hw''⟩ := hw'
    subst hw''
    have KQ := below_next K1 (below_regrown w1 dq osq)
    have b2 := carryB (below_regrown w1 dq osq) (lt_of_block b1) b1
    generalize Sort.grow (redrawn w1 dq) osq = w2 at *
    have et : (⟨sf.toArray⟩ : ByteArray) ++ ⟨#[47]⟩ ++ ⟨sl.toArray⟩ = ⟨(sf ++ [47] ++ sl).toArray⟩ := by
      apply ByteArray.ext
      simp
    rw [et]
    have hsb : (sf ++ [47] ++ sl).length ≤ 16 * 22 + 1 + 4 * 22 := by
      simp only [List.length_append, List.length_cons, List.length_nil]
      omega
    generalize sf ++ [47] ++ sl = sb at *
    clear e0 e1 e2 qF qL n1 n2 et TF TL CF CL TK b1 K1
    have cb := cell_of_block b2
    have lb := lt_of_block b2
    have HQ := Lib.hid KQ
    clear KQ b2
    go_wp2_with fail
    go_loopw [3, 20] (fun s i wr => ∃ k : Nat, k ≤ m ∧ i = .int .i64 k ∧ s = .string ⟨(sb ++ (es.take k).flatMap entText).toArray⟩ ∧ Below w.heap.size w wr) (fun _ i _ => m - (intOf i).toNat)
    case atStart => exact ⟨0, Nat.zero_le _, rfl, by simp, HQ.out⟩
    case round =>
      clear cb lb HQ
      obtain ⟨k, hk, rfl, rfl, hbel⟩ := hrel
      have HBel := Lib.hid hbel
      by_cases hlt : k < m
      · have hkz : k < es.length := by rw [← LE.out]; exact hlt
        have hq1 : (k : Int) < (m : Int) := by omega
        have hq0 : (0 : Int) ≤ (k : Int) := by omega
        obtain ⟨b0, o0, rfl, hl0, hc0⟩ := five_at R0.out k hkz
        obtain ⟨d0, d1, d2, d3, d4⟩ := hc0 _ hbel
        have HS := Lib.hid (ents_take hkz)
        have hbe := B3.out es[k] (List.getElem_mem _)
        have lo := T3.out k (by rw [← LE.out]; exact hk)
        clear hc0 hbel
        generalize es[k] = z at *
        have hso : (sb ++ (es.take k).flatMap entText).length ≤ 16 * 22 + 1 + 4 * 22 + k * 110 := by
          rw [List.length_append]
          omega
        have HS2 := Lib.hid (show sb ++ (es.take (k + 1)).flatMap entText = (sb ++ (es.take k).flatMap entText) ++ ([47] ++ betweenL (fiveOf z)) by rw [HS.out, List.append_assoc]; rfl)
        clear HS lo
        generalize sb ++ (es.take k).flatMap entText = so at *
        have HBE := Lib.hid hbe
        clear hbe
        go_wp2_with fail
        obtain ⟨V, hV, sV, aV, bV, kV⟩ := blocks2 wr (.cells #[.int .i64 z.c, .int .i64 z.n, .int .i64 z.o, .int .i64 z.x, .int .i64 z.y] 92) (.cells #[.int .i64 z.c, .int .i64 z.n, .int .i64 z.o, .int .i64 z.x, .int .i64 z.y] 3)
        rw [← hV]
        clear hV
        have K3 := below_next HBel.out kV
        have hI : IsSl V (.slice (some ⟨wr.heap.size + 1, 0, none⟩) 5 5) 1 intR (fiveOf z) := ⟨_, 5, rfl, Nat.le_refl _, by simp only [maxLen]; decide, rows_of_block (R := intR) (zs := fiveOf z) (fun _ => rfl) bV⟩
        have hcC := commas_c (some ⟨wr.heap.size + 1, 0, none⟩) 5 5 (fiveOf z) V (tab_stays gPow TT.out K3 (Nat.le_refl _)) hI (small_nums HBE.out (by decide)) (by decide)
        refine hcC.mono ?_
        rintro e w4 ⟨rfl, k4⟩
        have K4 := below_next K3 k4
        have CT := Lib.hid (fun U => trim_c z U HBE.out)
        have hbl := between_len z HBE.out
        clear k4 K3 hI hcC kV aV bV sV d0 d1 d2 d3 d4
        generalize commasL (fiveOf z) = cm at *
        generalize betweenL (fiveOf z) = bt at *
        go_wp2_with fail
        refine (CT.out w4).mono ?_
        rintro e _ ⟨rfl, rfl⟩
        have n1 : ¬ 9223372036854775807 < 1 + bt.length := by omega
        have n2 : ¬ 9223372036854775807 < so.length + (1 + bt.length) := by omega
        go_wp2_with fail
        go_roundw
        case rel =>
          refine ⟨k + 1, by omega, by go_num, ?_, K4⟩
          rw [HS2.out]
          first
            | rfl
            | (congr 1; done)
            | (congr 1; apply ByteArray.ext; simp)
        case measure => simp [intOf]; omega
      · have e : es.take k = es := List.take_of_length_le (by rw [← LE.out]; omega)
        rw [e]
        clear e
        have hq1 : ¬ (k : Int) < (m : Int) := by omega
        have HF := Lib.hid HGT.out
        clear HGT
        generalize es.flatMap entText = se at *
        go_wp2_with fail
        go_ret
        exact ⟨ret_str (by rw [HP.out, HF.out]), hbel⟩
end Go.Proofs.YtilldpoleiippaaDoor

/-! Numbers between commas, read the reference's way (l2Nums) and the program's (numbersOf); condition: small texts, the package variables as listed. -/
namespace Go.Proofs.YtilldpoleiippaaDoor
open Go.RowKit Go.Joins

/-- Numbers in a list of their own. -/
def IntsOwn (zs : List Int) (w : World) (e : Ending) (w' : World) : Prop :=
  ∃ (a : Option Addr) (cap : Nat), e = .returned (.slice a zs.length cap) ∧ Row w' w.heap.size 3 a cap 1 intR zs ∧ Below w.heap.size w w'
theorem cutGo_leG (b : UInt8) : ∀ (s cur : List UInt8) (m : Nat), ∀ p ∈ cutGo b s cur m, p.length ≤ cur.length + s.length
  | [], cur, m, p, hp => by
    simp only [cutGo, List.mem_singleton] at hp
    subst hp
    simp
  | x :: rest, cur, 0, p, hp => by
    rw [cutGo_zero, List.mem_singleton] at hp
    subst hp
    simp
  | x :: rest, cur, m + 1, p, hp => by
    rw [cutGo] at hp
    split at hp
    · rcases List.mem_cons.1 hp with rfl | h
      · omega
      · have := cutGo_leG b rest [] m p h
        simp only [List.length_nil, List.length_cons] at this ⊢
        omega
    · have := cutGo_leG b rest (cur ++ [x]) (m + 1) p hp
      simp only [List.length_append, List.length_cons, List.length_nil] at this ⊢
      omega
theorem cutL_leG {b : UInt8} {m : Nat} {s p : List UInt8} (h : p ∈ cutL b m s) : p.length ≤ s.length := by
  have := cutGo_leG b s [] m p h
  simpa using this
theorem cutGo_len (b : UInt8) : ∀ (s cur : List UInt8) (m : Nat), (cutGo b s cur m).length ≤ m + 1
  | [], cur, m => by simp [cutGo]
  | x :: rest, cur, 0 => by rw [cutGo_zero]; simp
  | x :: rest, cur, m + 1 => by
    rw [cutGo]
    split
    · have := cutGo_len b rest [] m
      simp only [List.length_cons]
      omega
    · exact cutGo_len b rest (cur ++ [x]) (m + 1)
theorem cutGo_pos (b : UInt8) : ∀ (s cur : List UInt8) (m : Nat), 0 < (cutGo b s cur m).length
  | [], cur, m => by simp [cutGo]
  | x :: rest, cur, 0 => by rw [cutGo_zero]; simp
  | x :: rest, cur, m + 1 => by
    rw [cutGo]
    split
    · simp
    · exact cutGo_pos b rest (cur ++ [x]) (m + 1)
theorem splitK_leG (b : UInt8) : ∀ (k : Nat) (s p : List UInt8), p ∈ Lib.splitK [b] 0 k s → p.length ≤ s.length
  | 0, s, p, h => by
    rw [Lib.splitK, List.mem_singleton] at h
    subst h
    exact Nat.le_refl _
  | k + 1, s, p, h => by
    rw [Lib.splitK] at h
    split at h
    · rw [List.mem_singleton] at h
      subst h
      exact Nat.le_refl _
    · rcases List.mem_cons.1 h with rfl | h
      · rw [List.length_take]; exact Nat.min_le_right _ _
      · have := splitK_leG b k _ p h
        rw [List.length_drop] at this
        omega
theorem splitK_len (sep : List UInt8) (v : Nat) : ∀ (k : Nat) (s : List UInt8), (Lib.splitK sep v k s).length ≤ k + 1
  | 0, _ => by simp [Lib.splitK]
  | k + 1, s => by
    rw [Lib.splitK]
    split
    · simp
    · have := splitK_len sep v k (s.drop ((Lib.index s sep).toNat + sep.length))
      simp only [List.length_cons]
      omega
theorem splitL_len (b : UInt8) (s : List UInt8) : (splitL b s).length ≤ s.length + 1 := by
  have h := splitK_len [b] 0 (Lib.count s [b]) s
  have h2 : Lib.count s [b] ≤ s.length := by rw [Lib.count_one]; exact List.count_le_length
  unfold splitL
  omega
theorem trim_len (s : List UInt8) : (Lib.trimSuffix s [44]).length ≤ s.length := by
  unfold Lib.trimSuffix
  split
  · rw [List.length_take]; exact Nat.min_le_right _ _
  · exact Nat.le_refl _
theorem str_atG {w : World} {a : Option Addr} {zs : List (List UInt8)} (h : RowsAt w a 1 strR zs) (k : Nat) (hk : k < zs.length) :
    ∃ b off, a = some ⟨b, off, none⟩ ∧ b < w.heap.size ∧ ∀ wr, Below w.heap.size w wr → wr.cell? ⟨b, off + k, none⟩ = some (.string ⟨zs[k].toArray⟩) := by
  obtain ⟨b, off, rfl, hb, hc⟩ := h k hk
  refine ⟨b, off, rfl, hb, fun wr hbel => ?_⟩
  have h := (hbel.cell (p := ⟨b, _, none⟩) hb).trans (hc 0 (by decide))
  rwa [Nat.mul_one, Nat.add_zero] at h
theorem l1Num_q (p : List UInt8) (w : World) (hs : p.length ≤ 1099511627776) :
    Calls Tryd.prog 70 #[.string ⟨p.toArray⟩] w fun e w' => e = .returned (.int .i64 (numL p)) ∧ w = w' := by
  have := l1Num_c ⟨p.toArray⟩ w (by simpa [ByteArray.size] using hs)
  simpa using this
theorem l1Cut_c20 (p : List UInt8) (w : World) (hs : p.length ≤ 1099511627776) :
    Calls Tryd.prog 44 #[.string ⟨p.toArray⟩, .int .u8 44, .int .i64 20] w (StrsOwn (cutL 44 20 p) w) := by
  have := l1Cut_c ⟨p.toArray⟩ 44 20 w (by rw [bytes_len]; exact hs) (by decide)
  simpa using this
theorem rowsAt_int (w : World) (v : Int) (t : TypeId) : RowsAt (w.alloc (.cells #[.int .i64 v] t)) (some ⟨w.heap.size, 0, none⟩) 1 intR [v] :=
  rows_of_block (R := intR) (zs := [v]) (t := t) (fr := (0, 0)) (fun _ => rfl) (heap_alloc_new w (.cells #[.int .i64 v] t))
theorem map_take_snoc {α β : Type} (f : α → β) {l : List α} {k : Nat} (h : k < l.length) : (l.map f).take (k + 1) = (l.map f).take k ++ [f l[k]] := by
  rw [List.take_succ_eq_append_getElem (by rw [List.length_map]; exact h), List.getElem_map]

set_option maxRecDepth 100000 in
set_option maxHeartbeats 4000000 in
theorem l2Nums_c (p : List UInt8) (w : World) (hs : p.length ≤ 4000000000) :
    Calls Tryd.prog 81 #[.string ⟨p.toArray⟩] w (IntsOwn (numsL p) w) := by
  go_enter Tryd.func81, Tryd.ntmps81
  go_wp2_with fail
  refine (l1Cut_c20 p w (by omega)).mono ?_
  rintro e w1 ⟨a, cap, rfl, hR, k1⟩
  have HN : Hid (numsL p = (cutL 44 20 p).map numL) := rfl
  have hle := cutGo_len 44 p [] 20
  have HLE := Lib.hid (fun q (h : q ∈ cutL 44 20 p) => cutL_leG h)
  replace hle : (cutL 44 20 p).length ≤ 21 := hle
  generalize cutL 44 20 p = ps at *
  have HR := Lib.hid (hR.rows str_len)
  have K1 := Lib.hid k1
  have hs1 := k1.size
  have hcp := hR.len
  have hcm := hR.max
  unfold maxLen at hcm
  obtain ⟨n, hn⟩ : ∃ n, n = ps.length := ⟨_, rfl⟩
  rw [← hn] at hle hcp ⊢
  have HNN := Lib.hid hn
  clear hR k1 hn
  go_wp2_with fail
  obtain ⟨W, hW, sW, -, kW⟩ := blocks1 w1 (.cells #[] 3)
  rw [← hW]
  clear hW
  have SW := Lib.hid sW
  have KW := Lib.hid kW
  clear sW kW
  go_loopw [4, 5] (fun out i wr => ∃ (k : Nat) (ao : Option Addr) (co : Nat), k ≤ n ∧ i = .int .i64 k ∧ out = .slice ao k co ∧ Row wr W.heap.size 3 ao co 1 intR ((ps.map numL).take k) ∧ Below W.heap.size W wr) (fun _ i _ => n - (intOf i).toNat)
  case atStart => exact ⟨0, some ⟨w1.heap.size, 0, none⟩, 0, Nat.zero_le _, rfl, rfl, Row.nil _ _ _ _ _ _, Below.refl _ _⟩
  case round =>
    obtain ⟨k, ao, co, hk, rfl, rfl, hR, hbel⟩ := hrel
    have RR := Lib.hid hR
    have KR := Lib.hid hbel
    have hlen := RR.out.len
    have hcm2 := RR.out.max
    unfold maxLen at hcm2
    have htk : ((ps.map numL).take k).length = k := by rw [List.length_take, List.length_map, ← HNN.out]; omega
    rw [htk] at hlen
    have HTK := Lib.hid htk
    clear hR hbel htk
    by_cases hlt : k < n
    · have hkz : k < ps.length := by rw [← HNN.out]; exact hlt
      have hk1 : (k : Int) < (n : Int) := by omega
      have hk0 : (0 : Int) ≤ (k : Int) := by omega
      have hwk : IntKind.i64.wrap ((k : Int) + 1) = (k : Int) + 1 := IntWalk.i64_in _ ⟨by omega, by omega⟩
      obtain ⟨b0, o0, rfl, hl0, hc0⟩ := str_atG HR.out k hkz
      have d0 := hc0 wr (KW.out.trans (KR.out.mono KW.out.size))
      have HS := Lib.hid (map_take_snoc numL hkz)
      have hq := HLE.out ps[k] (List.getElem_mem _)
      clear hc0
      generalize ps[k] = q at *
      have CN := Lib.hid (fun V => l1Num_q q V (by omega))
      generalize numL q = v at *
      clear hq
      go_wp2_with fail
      refine (CN.out wr).mono ?_
      rintro e _ ⟨rfl, rfl⟩
      have P11 := Lib.hid (RR.out.alloc (.cells #[.int .i64 v] 3))
      have RA := Lib.hid (rowsAt_int wr v 3)
      clear d0
      go_wp2_with (at_builtin; refine wpList_append_row rfl _ _ rfl (k + 1) eltInt rfl rfl P11.out RA.out HTK.out rfl rfl (by simp only [maxLen]; omega) (by omega) (by have := KR.out.size; simp <;> omega) ?_)
      intro a5 c5 w5 q5
      have R5 := Lib.hid q5.row
      have K5 := Lib.hid ((KR.out.alloc KR.out.size (.cells #[.int .i64 v] 3)).grown q5.grown (by have := KR.out.size; simp <;> omega) (fun g hg => (RR.out.blk hg).1))
      clear q5 RA P11
      go_wp2_with fail
      go_roundw
      case rel => exact ⟨k + 1, a5, c5, by omega, by go_num, rfl, by rw [HS.out]; exact R5.out, K5.out⟩
      case measure => simp [intOf]; omega
    · have hk1 : ¬ (k : Int) < (n : Int) := by omega
      have e : (ps.map numL).take k = ps.map numL := List.take_of_length_le (by rw [List.length_map, ← HNN.out]; omega)
      have hkn : k = (ps.map numL).length := by rw [List.length_map, ← HNN.out]; omega
      have R9 := Lib.hid (show Row wr W.heap.size 3 ao co 1 intR (ps.map numL) by have := RR.out; rwa [e] at this)
      have HK := Lib.hid hkn
      clear e hkn RR HTK
      go_wp2_with fail
      go_ret
      rw [HN.out]
      exact ⟨ao, co, by rw [HK.out]; rfl, R9.out.low (by have := SW.out; omega), K1.out.trans ((below_next KW.out KR.out).mono hs1)⟩

theorem trim_p (p : List UInt8) (w : World) (hs : p.length ≤ 4000000000) :
    Calls Tryd.prog 67 #[.string ⟨p.toArray⟩, .string ⟨#[44]⟩] w fun x w' => x = .returned (.string ⟨(Lib.trimSuffix p [44]).toArray⟩) ∧ w = w' := by
  refine (Tryd.strings_TrimSuffix ⟨p.toArray⟩ ⟨#[44]⟩ w (by rw [bytes_len]; omega)).mono ?_
  rintro x w' ⟨rfl, rfl⟩
  exact ⟨rfl, rfl⟩
theorem split_p (b : UInt8) (p : List UInt8) (w : World) (hs : p.length ≤ 4000000000) (E : EnvA w) :
    Calls Tryd.prog 74 #[.string ⟨p.toArray⟩, .string ⟨#[b]⟩] w (StrsOwn (splitL b p) w) := split_c b ⟨p.toArray⟩ w (by rw [bytes_len]; exact hs) E

set_option maxRecDepth 100000 in
set_option maxHeartbeats 4000000 in
theorem numbersOf_c (p : List UInt8) (w : World) (hs : p.length ≤ 4000000000) (E : EnvA w) :
    Calls Tryd.prog 83 #[.string ⟨p.toArray⟩] w (IntsOwn (numsI p) w) := by
  have EE := Lib.hid E
  have htl := trim_len p
  have HT := Lib.hid (fun V => trim_p p V hs)
  have HS := Lib.hid (fun V E => split_p 44 (Lib.trimSuffix p [44]) V (by omega) E)
  have HN : Hid (numsI p = (splitL 44 (Lib.trimSuffix p [44])).map (fun q => Lib.atoiOr q (-1099511627776))) := rfl
  have hle := splitL_len 44 (Lib.trimSuffix p [44])
  have HLE := Lib.hid (fun q (h : q ∈ splitL 44 (Lib.trimSuffix p [44])) => splitK_leG 44 _ _ q h)
  clear E
  generalize hpt : Lib.trimSuffix p [44] = pt at *
  clear hpt
  generalize splitL 44 pt = ps at *
  go_enter Tryd.func83, Tryd.ntmps83
  go_wp2_with fail
  refine (HT.out w).mono ?_
  rintro e _ ⟨rfl, rfl⟩
  go_wp2_with fail
  refine (HS.out w EE.out).mono ?_
  rintro e w1 ⟨a, cap, rfl, hR, k1⟩
  have HR := Lib.hid (hR.rows str_len)
  have K1 := Lib.hid k1
  have hs1 := k1.size
  have hcp := hR.len
  have hcm := hR.max
  unfold maxLen at hcm
  obtain ⟨n, hn⟩ : ∃ n, n = ps.length := ⟨_, rfl⟩
  rw [← hn] at hle hcp ⊢
  have HNN := Lib.hid hn
  clear hR k1 hn
  go_wp2_with fail
  go_loopw [3, 10] (fun out i wr => ∃ (k : Nat) (ao : Option Addr) (co : Nat), k ≤ n ∧ i = .int .i64 k ∧ out = .slice ao k co ∧ Row wr w1.heap.size 3 ao co 1 intR ((ps.map (fun q => Lib.atoiOr q (-1099511627776))).take k) ∧ Below w1.heap.size w1 wr) (fun _ i _ => n - (intOf i).toNat)
  case atStart => exact ⟨0, none, 0, Nat.zero_le _, rfl, rfl, Row.nil _ _ _ _ _ _, Below.refl _ _⟩
  case round =>
    obtain ⟨k, ao, co, hk, rfl, rfl, hR, hbel⟩ := hrel
    have RR := Lib.hid hR
    have KR := Lib.hid hbel
    have hlen := RR.out.len
    have hcm2 := RR.out.max
    unfold maxLen at hcm2
    have htk : ((ps.map (fun q => Lib.atoiOr q (-1099511627776))).take k).length = k := by rw [List.length_take, List.length_map, ← HNN.out]; omega
    rw [htk] at hlen
    have HTK := Lib.hid htk
    clear hR hbel htk
    by_cases hlt : k < n
    · have hkz : k < ps.length := by rw [← HNN.out]; exact hlt
      have hk1 : (k : Int) < (n : Int) := by omega
      have hk0 : (0 : Int) ≤ (k : Int) := by omega
      have hwk : IntKind.i64.wrap ((k : Int) + 1) = (k : Int) + 1 := IntWalk.i64_in _ ⟨by omega, by omega⟩
      obtain ⟨b0, o0, rfl, hl0, hc0⟩ := str_atG HR.out k hkz
      have d0 := hc0 wr KR.out
      have HSN := Lib.hid (map_take_snoc (fun q => Lib.atoiOr q (-1099511627776)) hkz)
      have hq := HLE.out ps[k] (List.getElem_mem _)
      clear hc0
      generalize ps[k] = q at *
      have CN := Lib.hid (fun V E => atoi_c q V (by omega) E)
      generalize Lib.atoiOr q (-1099511627776) = v at *
      clear hq
      go_wp2_with fail
      refine (CN.out wr (EE.out.below (K1.out.trans (KR.out.mono hs1)))).mono ?_
      rintro e w2 ⟨rfl, k2⟩
      have RR2 := Lib.hid (RR.out.below k2)
      have KR2 := Lib.hid (below_next KR.out k2)
      have P11 := Lib.hid (RR2.out.alloc (.cells #[.int .i64 v] 3))
      have RA := Lib.hid (rowsAt_int w2 v 3)
      clear d0 k2
      go_wp2_with (at_builtin; refine wpList_append_row rfl _ _ rfl (k + 1) eltInt rfl rfl P11.out RA.out HTK.out rfl rfl (by simp only [maxLen]; omega) (by omega) (by have := KR2.out.size; simp <;> omega) ?_)
      intro a5 c5 w5 q5
      have R5 := Lib.hid q5.row
      have K5 := Lib.hid ((KR2.out.alloc KR2.out.size (.cells #[.int .i64 v] 3)).grown q5.grown (by have := KR2.out.size; simp <;> omega) (fun g hg => (RR2.out.blk hg).1))
      clear q5 RA P11
      go_wp2_with fail
      go_roundw
      case rel => exact ⟨k + 1, a5, c5, by omega, by go_num, rfl, by rw [HSN.out]; exact R5.out, K5.out⟩
      case measure => simp [intOf]; omega
    · have hk1 : ¬ (k : Int) < (n : Int) := by omega
      have e : (ps.map (fun q => Lib.atoiOr q (-1099511627776))).take k = ps.map (fun q => Lib.atoiOr q (-1099511627776)) := List.take_of_length_le (by rw [List.length_map, ← HNN.out]; omega)
      have hkn : k = (ps.map (fun q => Lib.atoiOr q (-1099511627776))).length := by rw [List.length_map, ← HNN.out]; omega
      have R9 := Lib.hid (show Row wr w1.heap.size 3 ao co 1 intR (ps.map (fun q => Lib.atoiOr q (-1099511627776))) by have := RR.out; rwa [e] at this)
      have HK := Lib.hid hkn
      clear e hkn RR HTK
      go_wp2_with fail
      go_ret
      rw [HN.out]
      exact ⟨ao, co, by rw [HK.out]; rfl, R9.out.low hs1, K1.out.trans (KR.out.mono hs1)⟩
end Go.Proofs.YtilldpoleiippaaDoor
