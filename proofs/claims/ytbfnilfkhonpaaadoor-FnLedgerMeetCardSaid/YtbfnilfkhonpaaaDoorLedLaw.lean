/- Ledgers, plainly: the sum of a row, how many rows are right, how many two lists share, how rows are written; no condition. -/
import Derived.Test.YtbfnilfkhonpaaaDoorPutReq
import Derived.Test.YtbfnilfkhonpaaaDoorCrcLaw
import Derived.Test.YtbfnilfkhonpaaaDoorAllOk
import Derived.Test.YtbfnilfkhonpaaaDoorEntry
namespace Go.Proofs.YtbfnilfkhonpaaaDoor
open Go.RowKit Go.Joins

/-- What the sum of a row is taken of. -/
def sumText (prev seq : Int) (r : Rq) : List UInt8 := Lib.itoa prev ++ [124] ++ Lib.itoa seq ++ [124] ++ reqPutL r
/-- The sum of a row: of the sum of the one ahead, its place, and what is done. -/
def sumL (prev seq : Int) (r : Rq) : Nat := crcOf (sumText prev seq r)
theorem sumL_lt (prev seq : Int) (r : Rq) : sumL prev seq r < 4294967296 := crcOf_lt _

def enAt (zs : List En) (k : Nat) : En := zs.getD k en0
theorem enAt_eq {zs : List En} {k : Nat} (h : k < zs.length) : enAt zs k = zs[k] := by
  unfold enAt; rw [List.getD_eq_getElem?_getD, List.getElem?_eq_getElem h]; rfl
/-- The sum of the row ahead; 0 at the first. -/
def prevAt (zs : List En) (k : Nat) : Int := if k = 0 then 0 else (enAt zs (k - 1)).s
/-- The row k is right, if all ahead of it are. -/
def rightAt (zs : List En) (k : Nat) : Bool := decide (k < 60) && good (enAt zs k).r && decide ((enAt zs k).s = (sumL (prevAt zs k) ((k : Int) + 1) (enAt zs k).r : Int))
/-- So many rows are right, from the first on. -/
def IsFar (zs : List En) (n : Nat) : Prop := n ≤ zs.length ∧ (∀ j, j < n → rightAt zs j = true) ∧ (n < zs.length → rightAt zs n = false)
theorem IsFar.uniq {zs : List En} {n m : Nat} (h : IsFar zs n) (k : IsFar zs m) : n = m := by
  rcases Nat.lt_trichotomy n m with q | q | q
  · have a := k.2.1 n q
    have b := h.2.2 (Nat.lt_of_lt_of_le q k.1)
    rw [a] at b; cases b
  · exact q
  · have a := h.2.1 m q
    have b := k.2.2 (Nat.lt_of_lt_of_le q h.1)
    rw [a] at b; cases b
def farAux (zs : List En) : Nat → Nat → Nat
  | 0, k => k
  | f + 1, k => if rightAt zs k then farAux zs f (k + 1) else k
/-- How many rows are right, from the first on. -/
def far (zs : List En) : Nat := farAux zs zs.length 0
theorem farAux_is (zs : List En) : ∀ (f k : Nat), k + f = zs.length → (∀ j, j < k → rightAt zs j = true) → IsFar zs (farAux zs f k)
  | 0, k, hk, h => ⟨by simp only [farAux]; omega, h, fun q => by simp only [farAux] at q; omega⟩
  | f + 1, k, hk, h => by
    unfold farAux
    split
    · rename_i hr
      exact farAux_is zs f (k + 1) (by omega) (fun j hj => by
        by_cases e : j = k
        · subst e; exact hr
        · exact h j (by omega))
    · rename_i hr
      exact ⟨by omega, h, fun _ => by simpa using hr⟩
theorem far_is (zs : List En) : IsFar zs (far zs) := farAux_is zs _ _ (by omega) (fun j hj => absurd hj (Nat.not_lt_zero j))
theorem far_eq {zs : List En} {n : Nat} (h : IsFar zs n) : far zs = n := (far_is zs).uniq h
theorem far_le (zs : List En) : far zs ≤ zs.length := (far_is zs).1
theorem right_lt {zs : List En} {k : Nat} (h : rightAt zs k = true) : k < 60 := by
  unfold rightAt at h
  simp only [Bool.and_eq_true, decide_eq_true_eq] at h
  exact h.1.1
theorem right_good {zs : List En} {k : Nat} (h : rightAt zs k = true) : good (enAt zs k).r = true := by
  unfold rightAt at h
  simp only [Bool.and_eq_true, decide_eq_true_eq] at h
  exact h.1.2
theorem right_sum {zs : List En} {k : Nat} (h : rightAt zs k = true) : (enAt zs k).s = (sumL (prevAt zs k) ((k : Int) + 1) (enAt zs k).r : Int) := by
  unfold rightAt at h
  simp only [Bool.and_eq_true, decide_eq_true_eq] at h
  exact h.2
theorem far_le60 (zs : List En) : far zs ≤ 60 := by
  by_cases h : far zs = 0
  · omega
  · have := right_lt ((far_is zs).2.1 (far zs - 1) (by omega))
    omega
/-- The sum ahead of a row is a sum, if all ahead are right. -/
theorem prevAt_bounds {zs : List En} {k : Nat} (h : ∀ j, j < k → rightAt zs j = true) : 0 ≤ prevAt zs k ∧ prevAt zs k < 4294967296 := by
  unfold prevAt
  split
  · omega
  · rw [right_sum (h (k - 1) (by omega))]
    have := sumL_lt (prevAt zs (k - 1)) (((k - 1 : Nat) : Int) + 1) (enAt zs (k - 1)).r
    omega
theorem prevAt_succ (zs : List En) (k : Nat) : prevAt zs (k + 1) = (enAt zs k).s := by simp [prevAt]
/-! What is right hangs on the rows up to it alone. -/
theorem right_congr {xs zs : List En} {k : Nat} (h : ∀ j, j ≤ k → enAt xs j = enAt zs j) : rightAt xs k = rightAt zs k := by
  unfold rightAt
  have h1 : prevAt xs k = prevAt zs k := by unfold prevAt; split; rfl; rw [h _ (by omega)]
  rw [h k (Nat.le_refl k), h1]
theorem enAt_take {zs : List En} {n j : Nat} (h : j < n) : enAt (zs.take n) j = enAt zs j := by
  unfold enAt; simp [List.getD_eq_getElem?_getD, List.getElem?_take_of_lt h]
theorem enAt_append {xs ys : List En} {j : Nat} (h : j < xs.length) : enAt (xs ++ ys) j = enAt xs j := by
  unfold enAt; simp [List.getD_eq_getElem?_getD, List.getElem?_append_left h]
theorem far_take {zs : List En} {m : Nat} (h : far zs ≤ m) (hm : m ≤ zs.length) : far (zs.take m) = far zs := by
  refine far_eq ⟨by simp; omega, fun j hj => ?_, fun hlt => ?_⟩
  · rw [right_congr (fun i hi => enAt_take (by omega))]; exact (far_is zs).2.1 j hj
  · have hlt' : far zs < m := by rw [List.length_take] at hlt; omega
    rw [right_congr (fun i hi => enAt_take (by omega))]; exact (far_is zs).2.2 (by omega)

/-! Two lists. -/
def IsMeet (xs ys : List En) (n : Nat) : Prop := n ≤ far xs ∧ n ≤ far ys ∧ (∀ j, j < n → enAt xs j = enAt ys j) ∧ (n < far xs → n < far ys → enAt xs n ≠ enAt ys n)
theorem IsMeet.uniq {xs ys : List En} {n m : Nat} (h : IsMeet xs ys n) (k : IsMeet xs ys m) : n = m := by
  rcases Nat.lt_trichotomy n m with q | q | q
  · exact absurd (k.2.2.1 n q) (h.2.2.2 (Nat.lt_of_lt_of_le q k.1) (Nat.lt_of_lt_of_le q k.2.1))
  · exact q
  · exact absurd (h.2.2.1 m q) (k.2.2.2 (Nat.lt_of_lt_of_le q h.1) (Nat.lt_of_lt_of_le q h.2.1))
def meetAux (xs ys : List En) : Nat → Nat → Nat
  | 0, k => k
  | f + 1, k => if enAt xs k = enAt ys k then meetAux xs ys f (k + 1) else k
/-- How many rows two lists have in common, of those that are right. -/
def meet (xs ys : List En) : Nat := meetAux xs ys (min (far xs) (far ys)) 0
theorem meetAux_is (xs ys : List En) : ∀ (f k : Nat), k + f = min (far xs) (far ys) → (∀ j, j < k → enAt xs j = enAt ys j) → IsMeet xs ys (meetAux xs ys f k)
  | 0, k, hk, h => ⟨by simp only [meetAux]; omega, by simp only [meetAux]; omega, h, fun q1 q2 => by simp only [meetAux] at q1 q2; omega⟩
  | f + 1, k, hk, h => by
    unfold meetAux
    split
    · rename_i hr
      exact meetAux_is xs ys f (k + 1) (by omega) (fun j hj => by
        by_cases e : j = k
        · subst e; exact hr
        · exact h j (by omega))
    · rename_i hr
      exact ⟨by omega, by omega, h, fun _ _ => hr⟩
theorem meet_is (xs ys : List En) : IsMeet xs ys (meet xs ys) := meetAux_is xs ys _ _ (by omega) (fun j hj => absurd hj (Nat.not_lt_zero j))
theorem meet_eq {xs ys : List En} {n : Nat} (h : IsMeet xs ys n) : meet xs ys = n := (meet_is xs ys).uniq h
theorem meet_comm (xs ys : List En) : meet ys xs = meet xs ys := by
  obtain ⟨h1, h2, h3, h4⟩ := meet_is xs ys
  exact meet_eq ⟨h2, h1, fun j hj => (h3 j hj).symm, fun q1 q2 e => h4 q2 q1 e.symm⟩
theorem meet_self (xs : List En) : meet xs xs = far xs := meet_eq ⟨Nat.le_refl _, Nat.le_refl _, fun _ _ => rfl, fun q => absurd q (Nat.lt_irrefl _)⟩

/-! Rows written. -/
def rowText (z : En) : List UInt8 := Lib.itoa z.s ++ [32] ++ reqPutL z.r ++ [10]
def rowsText (zs : List En) : List UInt8 := zs.flatMap rowText

/-! Rows of asks. -/
/-- The rows behind some rows, the last of which has the sum prev. -/
def ofAux (prev : Int) (k : Nat) : List Rq → List En
  | [] => []
  | r :: rs => ⟨r, sumL prev ((k : Int) + 1) r⟩ :: ofAux (sumL prev ((k : Int) + 1) r) (k + 1) rs
def rowsOf (rs : List Rq) : List En := ofAux 0 0 rs
/-- What LedgerOf gives. -/
def ledOf (rs : List Rq) : List En := if rs.length ≤ 60 ∧ rs.all good = true then rowsOf rs else []
theorem ofAux_length : ∀ (rs : List Rq) (p : Int) (k : Nat), (ofAux p k rs).length = rs.length
  | [], _, _ => rfl
  | r :: rs, p, k => by simp [ofAux, ofAux_length rs]
def lastSum (zs : List En) : Int := prevAt zs zs.length
/-- The last row's sum; p, if there is none. -/
def endSum (p : Int) (zs : List En) : Int := (zs.getLast?.map En.s).getD p
theorem endSum_cons (p : Int) (z : En) (zs : List En) : endSum p (z :: zs) = endSum z.s zs := by
  unfold endSum
  rw [List.getLast?_cons]
  cases zs.getLast? <;> rfl
theorem lastSum_end (zs : List En) : lastSum zs = endSum 0 zs := by
  unfold lastSum prevAt endSum enAt
  rw [List.getLast?_eq_getElem?]
  cases zs with
  | nil => rfl
  | cons z zs =>
    rw [if_neg (by simp), List.getD_eq_getElem?_getD]
    have h : (z :: zs).length - 1 < (z :: zs).length := by simp
    rw [List.getElem?_eq_getElem h]
    rfl
theorem lastSum_snoc (zs : List En) (z : En) : lastSum (zs ++ [z]) = z.s := by
  rw [lastSum_end]; unfold endSum; simp
theorem ofAux_snoc : ∀ (rs : List Rq) (p : Int) (k : Nat) (r : Rq), ofAux p k (rs ++ [r]) = ofAux p k rs ++ [⟨r, sumL (endSum p (ofAux p k rs)) (((k + rs.length : Nat) : Int) + 1) r⟩]
  | [], p, k, r => rfl
  | q :: rs, p, k, r => by
    simp only [List.cons_append, ofAux, ofAux_snoc rs, endSum_cons]
    have e : k + 1 + rs.length = k + (q :: rs).length := by rw [List.length_cons]; omega
    rw [e]
theorem rowsOf_snoc (rs : List Rq) (r : Rq) : rowsOf (rs ++ [r]) = rowsOf rs ++ [⟨r, sumL (lastSum (rowsOf rs)) ((rs.length : Int) + 1) r⟩] := by
  unfold rowsOf
  rw [ofAux_snoc, lastSum_end, Nat.zero_add]
/-- A right row more. -/
theorem far_snoc {zs : List En} {r : Rq} (h : far zs = zs.length) (h60 : zs.length < 60) (hg : good r = true) : far (zs ++ [⟨r, sumL (lastSum zs) ((zs.length : Int) + 1) r⟩]) = zs.length + 1 := by
  have hl : enAt (zs ++ [⟨r, sumL (lastSum zs) ((zs.length : Int) + 1) r⟩]) zs.length = ⟨r, sumL (lastSum zs) ((zs.length : Int) + 1) r⟩ := by simp [enAt]
  refine far_eq ⟨by simp, fun j hj => ?_, fun q => by simp at q⟩
  by_cases e : j = zs.length
  · subst e
    have hp : prevAt (zs ++ [⟨r, sumL (lastSum zs) ((zs.length : Int) + 1) r⟩]) zs.length = lastSum zs := by
      unfold lastSum prevAt
      split
      · rfl
      · rw [enAt_append (by omega)]
    unfold rightAt
    rw [hl, hp]
    simp [h60, hg]
  · rw [right_congr (fun i hi => enAt_append (by omega))]
    exact (far_is zs).2.1 j (by omega)
theorem far_rowsOf (rs : List Rq) (h60 : rs.length ≤ 60) (hg : rs.all good = true) : far (rowsOf rs) = rs.length := by
  have key : ∀ n, n ≤ rs.length → far (rowsOf (rs.take n)) = n := by
    intro n
    induction n with
    | zero => intro _; simp [rowsOf, ofAux, far, farAux]
    | succ n ih =>
      intro hn
      have e : rs.take (n + 1) = rs.take n ++ [rs[n]] := List.take_succ_eq_append_getElem (by omega)
      have hl : (rowsOf (rs.take n)).length = n := by unfold rowsOf; rw [ofAux_length]; simp; omega
      have hl2 : (rs.take n).length = n := by simp; omega
      rw [e, rowsOf_snoc]
      have := far_snoc (zs := rowsOf (rs.take n)) (r := rs[n]) (by rw [ih (by omega), hl]) (by omega) (by rw [List.all_eq_true] at hg; exact hg _ (List.getElem_mem _))
      rw [hl] at this
      rw [hl2]
      exact this
  have := key rs.length (Nat.le_refl _)
  rwa [List.take_length] at this
end Go.Proofs.YtbfnilfkhonpaaaDoor
