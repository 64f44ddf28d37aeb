/- Contract of of: one of the texts of a list; condition: fewer than 2^40 reads. -/
import Derived.Test.YtilldpoleiippaaGreatDoorMC
set_option linter.unusedSimpArgs false
set_option linter.unusedVariables false
namespace Go.Proofs.YtilldpoleiippaaGreatDoor
open Go.RowKit Go.Joins

/-- One of the texts of a list. -/
def OneOfS (zs : List ByteArray) (w : World) (g P : Nat) (e : Ending) (w' : World) : Prop :=
  ∃ v : ByteArray, v ∈ zs ∧ e = .returned (.string v) ∧ Rdr w' g (P + 1) ∧ w.grownBy w' (some g)

set_option maxHeartbeats 400000 in
theorem of_c (w : World) (g P h n : Nat) (t : TypeId) (zs : List ByteArray) (cs : Array Value) (hr : Rdr w g P) (hP : P ≤ 1099511627776) (hne : h ≠ g) (hL : w.heap[h]? = some (.cells cs t (0, 0))) (hcs : cs = (zs.map Value.string).toArray) (hn : zs.length = n) (h0 : 0 < n) (h1 : n ≤ 1000) :
    Calls Tryz.prog 34 #[.pointer (some ⟨g, 0, none⟩), .slice (some ⟨h, 0, none⟩) n n] w (OneOfS zs w g P) := by
  have HL := Lib.hid hL
  have HN := Lib.hid hn
  have HCS := Lib.hid hcs
  clear hL hn hcs
  go_enter Tryz.func34, Tryz.ntmps34
  go_wp2_with fail
  refine (pick_c _ g P n hr hP (by omega)).mono ?_
  rintro e w1 ⟨v, rfl, a1, b1, -, r1, k1⟩
  replace b1 := b1 (by omega)
  have hL1 := carry k1 hne HL.out
  obtain ⟨m, rfl⟩ := Int.eq_ofNat_of_zero_le a1
  have hmn : m < n := by omega
  have hmz : m < zs.length := by rw [HN.out]; exact hmn
  have hc : w1.cell? ⟨h, m, none⟩ = some (.string zs[m]) := by
    rw [cell_of_block hL1, HCS.out]
    simp [hmz]
  clear hL1
  go_wp2_with fail
  go_ret
  exact ⟨zs[m], List.getElem_mem _, rfl, r1, k1⟩
end Go.Proofs.YtilldpoleiippaaGreatDoor
