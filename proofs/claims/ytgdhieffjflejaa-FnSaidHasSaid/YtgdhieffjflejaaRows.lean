/-
  No cell of these rows narrows 'for every input' (looked for: loops, veiled, ifaces, maps, wideKeys, modest, calm, conditions, laid).
  DERIVED. THE GIVEN ROWS OF THIS SEAT. 4 by the template 'for every input the law returns true; each argument reads behind the call as it read before'; 0 by the template 'total and deterministic' (their statements: YtgdhieffjflejaaTotals.lean).
  GIVEN WITH THE SEED: the statements are not yours to turn. If you find one false, say at which input.
  Laid BY PROGRAM, IN A SANDBOX (cutbox-rows.mjs): the forced cells as the released guide's own fill.sh prints them over the translation 012e541584fed4a7… (all of the seat's roots in one cut). By AI agents, Wed Nov 11 2026. No macro, syntax, notation, axiom, sorry.
-/
import Derived.Test.YtgdhieffjflejaaChecked
import GoSem.Claim
import GoSem.ClaimJoined
import GoSem.ClaimMapViews
import Derived.JoinedTies
import Derived.KernelRfl
namespace Go.Proofs.Ytgdhieffjflejaa
/- THE CELL 'sum', in the pinned program and in every row, IS THE sha256 OF THE DUMP (.gsa) THAT YtgdhieffjflejaaProg.lean LOADS. Nothing in Lean hashes anything: it is a label: what it is worth is what the hold of that sum in a sandbox is worth. -/
noncomputable def Try.pinned : Pinned := { name := "ytgdhieffjflejaa", sum := "012e541584fed4a777690eddd246a3d59467f1a9c68b9f876f293d2b1a3accd2", checked := Try.checked }
namespace Rows
def none {H : Type} : Left H := { results := [], args := [] }

/-- 'laws.FnExactMsgSame': WHATEVER THE INPUT: true; the input reads as it did. -/
def fnExactMsgSameSpec : ChangeSpec := { name := "fnExactMsgSame", fn := fun _ => fun
  | [d1, d2] => { results := [.lit (.bool true)], args := [d1, d2] }
  | _ => none }
def fnExactMsgSameRow : OpenClaim := { program := "ytgdhieffjflejaa", sum := "012e541584fed4a777690eddd246a3d59467f1a9c68b9f876f293d2b1a3accd2", func := "loop.example/wapentake/laws.FnExactMsgSame", spec := "fnExactMsgSame", unfollowed := true, recurses := true, apart := false }
def FnExactMsgSameSaid : Prop := fnExactMsgSameRow.holds Try.pinned (OpenSpec.ofChange fnExactMsgSameSpec)

/-- ITS FALSE NEIGHBOUR: 'it returns false'. Refute it at one input. -/
def fnExactMsgSameWrong : ChangeSpec := { name := "fnExactMsgSame", fn := fun _ => fun
  | [d1, d2] => { results := [.lit (.bool false)], args := [d1, d2] }
  | _ => none }
def FnExactMsgSameWrongFalsely : Prop := fnExactMsgSameRow.holds Try.pinned (OpenSpec.ofChange fnExactMsgSameWrong)

/-- 'laws.FnExactSaidHas': WHATEVER THE INPUT: true; the input reads as it did. -/
def fnExactSaidHasSpec : ChangeSpec := { name := "fnExactSaidHas", fn := fun _ => fun
  | [d1, d2] => { results := [.lit (.bool true)], args := [d1, d2] }
  | _ => none }
def fnExactSaidHasRow : OpenClaim := { program := "ytgdhieffjflejaa", sum := "012e541584fed4a777690eddd246a3d59467f1a9c68b9f876f293d2b1a3accd2", func := "loop.example/wapentake/laws.FnExactSaidHas", spec := "fnExactSaidHas", unfollowed := true, recurses := true, apart := false }
def FnExactSaidHasSaid : Prop := fnExactSaidHasRow.holds Try.pinned (OpenSpec.ofChange fnExactSaidHasSpec)

/-- ITS FALSE NEIGHBOUR: 'it returns false'. Refute it at one input. -/
def fnExactSaidHasWrong : ChangeSpec := { name := "fnExactSaidHas", fn := fun _ => fun
  | [d1, d2] => { results := [.lit (.bool false)], args := [d1, d2] }
  | _ => none }
def FnExactSaidHasWrongFalsely : Prop := fnExactSaidHasRow.holds Try.pinned (OpenSpec.ofChange fnExactSaidHasWrong)

/-- 'laws.FnSaidHas': WHATEVER THE INPUT: true; the input reads as it did. -/
def fnSaidHasSpec : ChangeSpec := { name := "fnSaidHas", fn := fun _ => fun
  | [d1, d2] => { results := [.lit (.bool true)], args := [d1, d2] }
  | _ => none }
def fnSaidHasRow : OpenClaim := { program := "ytgdhieffjflejaa", sum := "012e541584fed4a777690eddd246a3d59467f1a9c68b9f876f293d2b1a3accd2", func := "loop.example/wapentake/laws.FnSaidHas", spec := "fnSaidHas", unfollowed := true, recurses := true, apart := false }
def FnSaidHasSaid : Prop := fnSaidHasRow.holds Try.pinned (OpenSpec.ofChange fnSaidHasSpec)

/-- ITS FALSE NEIGHBOUR: 'it returns false'. Refute it at one input. -/
def fnSaidHasWrong : ChangeSpec := { name := "fnSaidHas", fn := fun _ => fun
  | [d1, d2] => { results := [.lit (.bool false)], args := [d1, d2] }
  | _ => none }
def FnSaidHasWrongFalsely : Prop := fnSaidHasRow.holds Try.pinned (OpenSpec.ofChange fnSaidHasWrong)

/-- 'laws.FnExactWorldNew': WHATEVER THE INPUT: true; the input reads as it did. -/
def fnExactWorldNewSpec : ChangeSpec := { name := "fnExactWorldNew", fn := fun _ => fun
  | [d] => { results := [.lit (.bool true)], args := [d] }
  | _ => none }
def fnExactWorldNewRow : OpenClaim := { program := "ytgdhieffjflejaa", sum := "012e541584fed4a777690eddd246a3d59467f1a9c68b9f876f293d2b1a3accd2", func := "loop.example/wapentake/laws.FnExactWorldNew", spec := "fnExactWorldNew", apart := false }
def FnExactWorldNewSaid : Prop := fnExactWorldNewRow.holds Try.pinned (OpenSpec.ofChange fnExactWorldNewSpec)

/-- ITS FALSE NEIGHBOUR: 'it returns false'. Refute it at one input. -/
def fnExactWorldNewWrong : ChangeSpec := { name := "fnExactWorldNew", fn := fun _ => fun
  | [d] => { results := [.lit (.bool false)], args := [d] }
  | _ => none }
def FnExactWorldNewWrongFalsely : Prop := fnExactWorldNewRow.holds Try.pinned (OpenSpec.ofChange fnExactWorldNewWrong)

/- THE SECOND FORM. 'bulk': how many values and letters a reading holds, each counted each time it is reached (what is shared counts as often as it is met; a slice's spare places count too). A statement '..UptoSaid' is the law's where the arguments, and the package variables that the reading takes, are together of bulk at most 1048576: NARROWER than '..Said'. Prove '..Said' where nothing that the law and all that it calls make is longer than what came in: it says more and counts as full. Else prove '..UptoSaid'. A law counts once. -/
mutual
def uptoBulk {H : Type} : DataW H → Nat
  | .lit (.string bytes) => bytes.length + 1
  | .lit _ => 1
  | .nil => 1
  | .ptr d => uptoBulk d + 1
  | .slice elems spare => uptoBulkAll elems + uptoBulkAll spare + 1
  | .agg parts => uptoBulkAll parts + 1
  | .iface _ d => uptoBulk d + 1
  | .map entries => uptoBulkEntries entries + 1
  | .held _ => 1
def uptoBulkAll {H : Type} : List (DataW H) → Nat
  | [] => 0
  | d :: r => uptoBulk d + uptoBulkAll r
def uptoBulkEntries {H : Type} : List (Lit × DataW H) → Nat
  | [] => 0
  | x :: r => uptoBulkEntry x + uptoBulkEntries r
def uptoBulkEntry {H : Type} : Lit × DataW H → Nat
  | (.string bytes, d) => bytes.length + uptoBulk d + 1
  | (_, d) => uptoBulk d + 1
 end
def uptoSmall : (H : Type) → List (DataW H) → Bool := fun _ ds => decide (uptoBulkAll ds ≤ 1048576)
def OpenSpec.upto (s : _root_.Go.ChangeSpec) : _root_.Go.OpenSpec := { _root_.Go.OpenSpec.ofChange s with cond := some uptoSmall }

/-- 'laws.FnExactMsgSame', WHERE WHAT IT READS IS OF BULK AT MOST 1048576: true; the input reads as it did. -/
def fnExactMsgSameUptoRow : OpenClaim := { program := "ytgdhieffjflejaa", sum := "012e541584fed4a777690eddd246a3d59467f1a9c68b9f876f293d2b1a3accd2", func := "loop.example/wapentake/laws.FnExactMsgSame", spec := "fnExactMsgSame", unfollowed := true, recurses := true, apart := false, narrowed := true }
def FnExactMsgSameUptoSaid : Prop := fnExactMsgSameUptoRow.holds Try.pinned (OpenSpec.upto fnExactMsgSameSpec)

/-- 'laws.FnExactSaidHas', WHERE WHAT IT READS IS OF BULK AT MOST 1048576: true; the input reads as it did. -/
def fnExactSaidHasUptoRow : OpenClaim := { program := "ytgdhieffjflejaa", sum := "012e541584fed4a777690eddd246a3d59467f1a9c68b9f876f293d2b1a3accd2", func := "loop.example/wapentake/laws.FnExactSaidHas", spec := "fnExactSaidHas", unfollowed := true, recurses := true, apart := false, narrowed := true }
def FnExactSaidHasUptoSaid : Prop := fnExactSaidHasUptoRow.holds Try.pinned (OpenSpec.upto fnExactSaidHasSpec)

/-- 'laws.FnSaidHas', WHERE WHAT IT READS IS OF BULK AT MOST 1048576: true; the input reads as it did. -/
def fnSaidHasUptoRow : OpenClaim := { program := "ytgdhieffjflejaa", sum := "012e541584fed4a777690eddd246a3d59467f1a9c68b9f876f293d2b1a3accd2", func := "loop.example/wapentake/laws.FnSaidHas", spec := "fnSaidHas", unfollowed := true, recurses := true, apart := false, narrowed := true }
def FnSaidHasUptoSaid : Prop := fnSaidHasUptoRow.holds Try.pinned (OpenSpec.upto fnSaidHasSpec)

/-- 'laws.FnExactWorldNew', WHERE WHAT IT READS IS OF BULK AT MOST 1048576: true; the input reads as it did. -/
def fnExactWorldNewUptoRow : OpenClaim := { program := "ytgdhieffjflejaa", sum := "012e541584fed4a777690eddd246a3d59467f1a9c68b9f876f293d2b1a3accd2", func := "loop.example/wapentake/laws.FnExactWorldNew", spec := "fnExactWorldNew", apart := false, narrowed := true }
def FnExactWorldNewUptoSaid : Prop := fnExactWorldNewUptoRow.holds Try.pinned (OpenSpec.upto fnExactWorldNewSpec)

end Rows
end Go.Proofs.Ytgdhieffjflejaa
