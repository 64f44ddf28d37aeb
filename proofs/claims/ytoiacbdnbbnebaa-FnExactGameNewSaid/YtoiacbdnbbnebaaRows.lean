/-
  No cell of these rows narrows 'for every input' (looked for: loops, veiled, ifaces, maps, wideKeys, modest, calm, conditions, laid).
  DERIVED. THE GIVEN ROWS OF THIS SEAT. 12 by the template 'for every input the law returns true; each argument reads behind the call as it read before'; 0 by the template 'total and deterministic' (their statements: YtoiacbdnbbnebaaTotals.lean).
  GIVEN WITH THE SEED: the statements are not yours to turn. If you find one false, say at which input.
  Laid BY PROGRAM, IN A SANDBOX (cutbox-rows.mjs): the forced cells as the released guide's own fill.sh prints them over the translation 5438b950c9f0b0f0… (all of the seat's roots in one cut). By AI agents, Wed Nov 11 2026. No macro, syntax, notation, axiom, sorry.
-/
import Derived.Test.YtoiacbdnbbnebaaChecked
import GoSem.Claim
import GoSem.ClaimJoined
import GoSem.ClaimMapViews
import Derived.JoinedTies
import Derived.KernelRfl
namespace Go.Proofs.Ytoiacbdnbbnebaa
/- THE CELL 'sum', in the pinned program and in every row, IS THE sha256 OF THE DUMP (.gsa) THAT YtoiacbdnbbnebaaProg.lean LOADS. Nothing in Lean hashes anything: it is a label: what it is worth is what the hold of that sum in a sandbox is worth. -/
noncomputable def Try.pinned : Pinned := { name := "ytoiacbdnbbnebaa", sum := "5438b950c9f0b0f04d43057f3e34561002446dd8c60d74397ee20be3fc4e62b0", checked := Try.checked }
namespace Rows
def none {H : Type} : Left H := { results := [], args := [] }

/-- 'laws.FnExactConstants': WHATEVER THE INPUT: true; the input reads as it did. -/
def fnExactConstantsSpec : ChangeSpec := { name := "fnExactConstants", fn := fun _ => fun
  | [] => { results := [.lit (.bool true)], args := [] }
  | _ => none }
def fnExactConstantsRow : OpenClaim := { program := "ytoiacbdnbbnebaa", sum := "5438b950c9f0b0f04d43057f3e34561002446dd8c60d74397ee20be3fc4e62b0", func := "loop.example/wapentake/laws.FnExactConstants", spec := "fnExactConstants", apart := false }
def FnExactConstantsSaid : Prop := fnExactConstantsRow.holds Try.pinned (OpenSpec.ofChange fnExactConstantsSpec)

/-- ITS FALSE NEIGHBOUR: 'it returns false'. Refute it at one input. -/
def fnExactConstantsWrong : ChangeSpec := { name := "fnExactConstants", fn := fun _ => fun
  | [] => { results := [.lit (.bool false)], args := [] }
  | _ => none }
def FnExactConstantsWrongFalsely : Prop := fnExactConstantsRow.holds Try.pinned (OpenSpec.ofChange fnExactConstantsWrong)

/-- 'laws.FnExactLeader': WHATEVER THE INPUT: true; the input reads as it did. -/
def fnExactLeaderSpec : ChangeSpec := { name := "fnExactLeader", fn := fun _ => fun
  | [d] => { results := [.lit (.bool true)], args := [d] }
  | _ => none }
def fnExactLeaderRow : OpenClaim := { program := "ytoiacbdnbbnebaa", sum := "5438b950c9f0b0f04d43057f3e34561002446dd8c60d74397ee20be3fc4e62b0", func := "loop.example/wapentake/laws.FnExactLeader", spec := "fnExactLeader", apart := false }
def FnExactLeaderSaid : Prop := fnExactLeaderRow.holds Try.pinned (OpenSpec.ofChange fnExactLeaderSpec)

/-- ITS FALSE NEIGHBOUR: 'it returns false'. Refute it at one input. -/
def fnExactLeaderWrong : ChangeSpec := { name := "fnExactLeader", fn := fun _ => fun
  | [d] => { results := [.lit (.bool false)], args := [d] }
  | _ => none }
def FnExactLeaderWrongFalsely : Prop := fnExactLeaderRow.holds Try.pinned (OpenSpec.ofChange fnExactLeaderWrong)

/-- 'laws.FnExactCrc': WHATEVER THE INPUT: true; the input reads as it did. -/
def fnExactCrcSpec : ChangeSpec := { name := "fnExactCrc", fn := fun _ => fun
  | [d] => { results := [.lit (.bool true)], args := [d] }
  | _ => none }
def fnExactCrcRow : OpenClaim := { program := "ytoiacbdnbbnebaa", sum := "5438b950c9f0b0f04d43057f3e34561002446dd8c60d74397ee20be3fc4e62b0", func := "loop.example/wapentake/laws.FnExactCrc", spec := "fnExactCrc", apart := false }
def FnExactCrcSaid : Prop := fnExactCrcRow.holds Try.pinned (OpenSpec.ofChange fnExactCrcSpec)

/-- ITS FALSE NEIGHBOUR: 'it returns false'. Refute it at one input. -/
def fnExactCrcWrong : ChangeSpec := { name := "fnExactCrc", fn := fun _ => fun
  | [d] => { results := [.lit (.bool false)], args := [d] }
  | _ => none }
def FnExactCrcWrongFalsely : Prop := fnExactCrcRow.holds Try.pinned (OpenSpec.ofChange fnExactCrcWrong)

/-- 'laws.FnLeader': WHATEVER THE INPUT: true; the input reads as it did. -/
def fnLeaderSpec : ChangeSpec := { name := "fnLeader", fn := fun _ => fun
  | [d] => { results := [.lit (.bool true)], args := [d] }
  | _ => none }
def fnLeaderRow : OpenClaim := { program := "ytoiacbdnbbnebaa", sum := "5438b950c9f0b0f04d43057f3e34561002446dd8c60d74397ee20be3fc4e62b0", func := "loop.example/wapentake/laws.FnLeader", spec := "fnLeader", apart := false }
def FnLeaderSaid : Prop := fnLeaderRow.holds Try.pinned (OpenSpec.ofChange fnLeaderSpec)

/-- ITS FALSE NEIGHBOUR: 'it returns false'. Refute it at one input. -/
def fnLeaderWrong : ChangeSpec := { name := "fnLeader", fn := fun _ => fun
  | [d] => { results := [.lit (.bool false)], args := [d] }
  | _ => none }
def FnLeaderWrongFalsely : Prop := fnLeaderRow.holds Try.pinned (OpenSpec.ofChange fnLeaderWrong)

/-- 'laws.FnExactReqOk': WHATEVER THE INPUT: true; the input reads as it did. -/
def fnExactReqOkSpec : ChangeSpec := { name := "fnExactReqOk", fn := fun _ => fun
  | [d] => { results := [.lit (.bool true)], args := [d] }
  | _ => none }
def fnExactReqOkRow : OpenClaim := { program := "ytoiacbdnbbnebaa", sum := "5438b950c9f0b0f04d43057f3e34561002446dd8c60d74397ee20be3fc4e62b0", func := "loop.example/wapentake/laws.FnExactReqOk", spec := "fnExactReqOk", apart := false }
def FnExactReqOkSaid : Prop := fnExactReqOkRow.holds Try.pinned (OpenSpec.ofChange fnExactReqOkSpec)

/-- ITS FALSE NEIGHBOUR: 'it returns false'. Refute it at one input. -/
def fnExactReqOkWrong : ChangeSpec := { name := "fnExactReqOk", fn := fun _ => fun
  | [d] => { results := [.lit (.bool false)], args := [d] }
  | _ => none }
def FnExactReqOkWrongFalsely : Prop := fnExactReqOkRow.holds Try.pinned (OpenSpec.ofChange fnExactReqOkWrong)

/-- 'laws.FnExactReqLess': WHATEVER THE INPUT: true; the input reads as it did. -/
def fnExactReqLessSpec : ChangeSpec := { name := "fnExactReqLess", fn := fun _ => fun
  | [d1, d2] => { results := [.lit (.bool true)], args := [d1, d2] }
  | _ => none }
def fnExactReqLessRow : OpenClaim := { program := "ytoiacbdnbbnebaa", sum := "5438b950c9f0b0f04d43057f3e34561002446dd8c60d74397ee20be3fc4e62b0", func := "loop.example/wapentake/laws.FnExactReqLess", spec := "fnExactReqLess", apart := false }
def FnExactReqLessSaid : Prop := fnExactReqLessRow.holds Try.pinned (OpenSpec.ofChange fnExactReqLessSpec)

/-- ITS FALSE NEIGHBOUR: 'it returns false'. Refute it at one input. -/
def fnExactReqLessWrong : ChangeSpec := { name := "fnExactReqLess", fn := fun _ => fun
  | [d1, d2] => { results := [.lit (.bool false)], args := [d1, d2] }
  | _ => none }
def FnExactReqLessWrongFalsely : Prop := fnExactReqLessRow.holds Try.pinned (OpenSpec.ofChange fnExactReqLessWrong)

/-- 'laws.FnReqLess': WHATEVER THE INPUT: true; the input reads as it did. -/
def fnReqLessSpec : ChangeSpec := { name := "fnReqLess", fn := fun _ => fun
  | [d1, d2] => { results := [.lit (.bool true)], args := [d1, d2] }
  | _ => none }
def fnReqLessRow : OpenClaim := { program := "ytoiacbdnbbnebaa", sum := "5438b950c9f0b0f04d43057f3e34561002446dd8c60d74397ee20be3fc4e62b0", func := "loop.example/wapentake/laws.FnReqLess", spec := "fnReqLess", apart := false }
def FnReqLessSaid : Prop := fnReqLessRow.holds Try.pinned (OpenSpec.ofChange fnReqLessSpec)

/-- ITS FALSE NEIGHBOUR: 'it returns false'. Refute it at one input. -/
def fnReqLessWrong : ChangeSpec := { name := "fnReqLess", fn := fun _ => fun
  | [d1, d2] => { results := [.lit (.bool false)], args := [d1, d2] }
  | _ => none }
def FnReqLessWrongFalsely : Prop := fnReqLessRow.holds Try.pinned (OpenSpec.ofChange fnReqLessWrong)

/-- 'laws.FnCrc': WHATEVER THE INPUT: true; the input reads as it did. -/
def fnCrcSpec : ChangeSpec := { name := "fnCrc", fn := fun _ => fun
  | [d1, d2] => { results := [.lit (.bool true)], args := [d1, d2] }
  | _ => none }
def fnCrcRow : OpenClaim := { program := "ytoiacbdnbbnebaa", sum := "5438b950c9f0b0f04d43057f3e34561002446dd8c60d74397ee20be3fc4e62b0", func := "loop.example/wapentake/laws.FnCrc", spec := "fnCrc", recurses := true, apart := false }
def FnCrcSaid : Prop := fnCrcRow.holds Try.pinned (OpenSpec.ofChange fnCrcSpec)

/-- ITS FALSE NEIGHBOUR: 'it returns false'. Refute it at one input. -/
def fnCrcWrong : ChangeSpec := { name := "fnCrc", fn := fun _ => fun
  | [d1, d2] => { results := [.lit (.bool false)], args := [d1, d2] }
  | _ => none }
def FnCrcWrongFalsely : Prop := fnCrcRow.holds Try.pinned (OpenSpec.ofChange fnCrcWrong)

/-- 'laws.FnExactGameNew': WHATEVER THE INPUT: true; the input reads as it did. -/
def fnExactGameNewSpec : ChangeSpec := { name := "fnExactGameNew", fn := fun _ => fun
  | [] => { results := [.lit (.bool true)], args := [] }
  | _ => none }
def fnExactGameNewRow : OpenClaim := { program := "ytoiacbdnbbnebaa", sum := "5438b950c9f0b0f04d43057f3e34561002446dd8c60d74397ee20be3fc4e62b0", func := "loop.example/wapentake/laws.FnExactGameNew", spec := "fnExactGameNew", apart := false }
def FnExactGameNewSaid : Prop := fnExactGameNewRow.holds Try.pinned (OpenSpec.ofChange fnExactGameNewSpec)

/-- ITS FALSE NEIGHBOUR: 'it returns false'. Refute it at one input. -/
def fnExactGameNewWrong : ChangeSpec := { name := "fnExactGameNew", fn := fun _ => fun
  | [] => { results := [.lit (.bool false)], args := [] }
  | _ => none }
def FnExactGameNewWrongFalsely : Prop := fnExactGameNewRow.holds Try.pinned (OpenSpec.ofChange fnExactGameNewWrong)

/-- 'laws.FnExactAheadOk': WHATEVER THE INPUT: true; the input reads as it did. -/
def fnExactAheadOkSpec : ChangeSpec := { name := "fnExactAheadOk", fn := fun _ => fun
  | [d] => { results := [.lit (.bool true)], args := [d] }
  | _ => none }
def fnExactAheadOkRow : OpenClaim := { program := "ytoiacbdnbbnebaa", sum := "5438b950c9f0b0f04d43057f3e34561002446dd8c60d74397ee20be3fc4e62b0", func := "loop.example/wapentake/laws.FnExactAheadOk", spec := "fnExactAheadOk", unfollowed := true, recurses := true, apart := false }
def FnExactAheadOkSaid : Prop := fnExactAheadOkRow.holds Try.pinned (OpenSpec.ofChange fnExactAheadOkSpec)

/-- ITS FALSE NEIGHBOUR: 'it returns false'. Refute it at one input. -/
def fnExactAheadOkWrong : ChangeSpec := { name := "fnExactAheadOk", fn := fun _ => fun
  | [d] => { results := [.lit (.bool false)], args := [d] }
  | _ => none }
def FnExactAheadOkWrongFalsely : Prop := fnExactAheadOkRow.holds Try.pinned (OpenSpec.ofChange fnExactAheadOkWrong)

/-- 'laws.FnExactGameOk': WHATEVER THE INPUT: true; the input reads as it did. -/
def fnExactGameOkSpec : ChangeSpec := { name := "fnExactGameOk", fn := fun _ => fun
  | [d] => { results := [.lit (.bool true)], args := [d] }
  | _ => none }
def fnExactGameOkRow : OpenClaim := { program := "ytoiacbdnbbnebaa", sum := "5438b950c9f0b0f04d43057f3e34561002446dd8c60d74397ee20be3fc4e62b0", func := "loop.example/wapentake/laws.FnExactGameOk", spec := "fnExactGameOk", unfollowed := true, recurses := true, apart := false }
def FnExactGameOkSaid : Prop := fnExactGameOkRow.holds Try.pinned (OpenSpec.ofChange fnExactGameOkSpec)

/-- ITS FALSE NEIGHBOUR: 'it returns false'. Refute it at one input. -/
def fnExactGameOkWrong : ChangeSpec := { name := "fnExactGameOk", fn := fun _ => fun
  | [d] => { results := [.lit (.bool false)], args := [d] }
  | _ => none }
def FnExactGameOkWrongFalsely : Prop := fnExactGameOkRow.holds Try.pinned (OpenSpec.ofChange fnExactGameOkWrong)

/-- 'laws.FnExactMsgSame': WHATEVER THE INPUT: true; the input reads as it did. -/
def fnExactMsgSameSpec : ChangeSpec := { name := "fnExactMsgSame", fn := fun _ => fun
  | [d1, d2] => { results := [.lit (.bool true)], args := [d1, d2] }
  | _ => none }
def fnExactMsgSameRow : OpenClaim := { program := "ytoiacbdnbbnebaa", sum := "5438b950c9f0b0f04d43057f3e34561002446dd8c60d74397ee20be3fc4e62b0", func := "loop.example/wapentake/laws.FnExactMsgSame", spec := "fnExactMsgSame", unfollowed := true, recurses := true, apart := false }
def FnExactMsgSameSaid : Prop := fnExactMsgSameRow.holds Try.pinned (OpenSpec.ofChange fnExactMsgSameSpec)

/-- ITS FALSE NEIGHBOUR: 'it returns false'. Refute it at one input. -/
def fnExactMsgSameWrong : ChangeSpec := { name := "fnExactMsgSame", fn := fun _ => fun
  | [d1, d2] => { results := [.lit (.bool false)], args := [d1, d2] }
  | _ => none }
def FnExactMsgSameWrongFalsely : Prop := fnExactMsgSameRow.holds Try.pinned (OpenSpec.ofChange fnExactMsgSameWrong)

/- THE SECOND FORM. 'bulk': how many values and letters a reading holds, each counted each time it is reached (what is shared counts as often as it is met; a slice's spare places count too). A statement '..UptoSaid' is the law's where the arguments, and the package variables that the reading takes, are together of bulk at most 1048576: NARROWER than '..Said'. Prove '..Said' where nothing that the law and all that it calls make is longer than what came in: it says more and counts as full. Else prove '..UptoSaid'. A law counts once. -/
mutual
def uptoBulk {H : Type} : DataW H → Nat
  | .lit (.string bytes) => bytes.length + 1
  | .lit _ => 1
  | .nil => 1
  | .ptr d => uptoBulk d + 1
  | .slice elems spare => uptoBulkAll elems + uptoBulkAll spare + 1
  | .agg parts => uptoBulkAll parts + 1
  | .iface _ d => uptoBulk d + 1
  | .map entries => uptoBulkEntries entries + 1
  | .held _ => 1
def uptoBulkAll {H : Type} : List (DataW H) → Nat
  | [] => 0
  | d :: r => uptoBulk d + uptoBulkAll r
def uptoBulkEntries {H : Type} : List (Lit × DataW H) → Nat
  | [] => 0
  | x :: r => uptoBulkEntry x + uptoBulkEntries r
def uptoBulkEntry {H : Type} : Lit × DataW H → Nat
  | (.string bytes, d) => bytes.length + uptoBulk d + 1
  | (_, d) => uptoBulk d + 1
 end
def uptoSmall : (H : Type) → List (DataW H) → Bool := fun _ ds => decide (uptoBulkAll ds ≤ 1048576)
def OpenSpec.upto (s : _root_.Go.ChangeSpec) : _root_.Go.OpenSpec := { _root_.Go.OpenSpec.ofChange s with cond := some uptoSmall }

/-- 'laws.FnExactConstants', WHERE WHAT IT READS IS OF BULK AT MOST 1048576: true; the input reads as it did. -/
def fnExactConstantsUptoRow : OpenClaim := { program := "ytoiacbdnbbnebaa", sum := "5438b950c9f0b0f04d43057f3e34561002446dd8c60d74397ee20be3fc4e62b0", func := "loop.example/wapentake/laws.FnExactConstants", spec := "fnExactConstants", apart := false, narrowed := true }
def FnExactConstantsUptoSaid : Prop := fnExactConstantsUptoRow.holds Try.pinned (OpenSpec.upto fnExactConstantsSpec)

/-- 'laws.FnExactLeader', WHERE WHAT IT READS IS OF BULK AT MOST 1048576: true; the input reads as it did. -/
def fnExactLeaderUptoRow : OpenClaim := { program := "ytoiacbdnbbnebaa", sum := "5438b950c9f0b0f04d43057f3e34561002446dd8c60d74397ee20be3fc4e62b0", func := "loop.example/wapentake/laws.FnExactLeader", spec := "fnExactLeader", apart := false, narrowed := true }
def FnExactLeaderUptoSaid : Prop := fnExactLeaderUptoRow.holds Try.pinned (OpenSpec.upto fnExactLeaderSpec)

/-- 'laws.FnExactCrc', WHERE WHAT IT READS IS OF BULK AT MOST 1048576: true; the input reads as it did. -/
def fnExactCrcUptoRow : OpenClaim := { program := "ytoiacbdnbbnebaa", sum := "5438b950c9f0b0f04d43057f3e34561002446dd8c60d74397ee20be3fc4e62b0", func := "loop.example/wapentake/laws.FnExactCrc", spec := "fnExactCrc", apart := false, narrowed := true }
def FnExactCrcUptoSaid : Prop := fnExactCrcUptoRow.holds Try.pinned (OpenSpec.upto fnExactCrcSpec)

/-- 'laws.FnLeader', WHERE WHAT IT READS IS OF BULK AT MOST 1048576: true; the input reads as it did. -/
def fnLeaderUptoRow : OpenClaim := { program := "ytoiacbdnbbnebaa", sum := "5438b950c9f0b0f04d43057f3e34561002446dd8c60d74397ee20be3fc4e62b0", func := "loop.example/wapentake/laws.FnLeader", spec := "fnLeader", apart := false, narrowed := true }
def FnLeaderUptoSaid : Prop := fnLeaderUptoRow.holds Try.pinned (OpenSpec.upto fnLeaderSpec)

/-- 'laws.FnExactReqOk', WHERE WHAT IT READS IS OF BULK AT MOST 1048576: true; the input reads as it did. -/
def fnExactReqOkUptoRow : OpenClaim := { program := "ytoiacbdnbbnebaa", sum := "5438b950c9f0b0f04d43057f3e34561002446dd8c60d74397ee20be3fc4e62b0", func := "loop.example/wapentake/laws.FnExactReqOk", spec := "fnExactReqOk", apart := false, narrowed := true }
def FnExactReqOkUptoSaid : Prop := fnExactReqOkUptoRow.holds Try.pinned (OpenSpec.upto fnExactReqOkSpec)

/-- 'laws.FnExactReqLess', WHERE WHAT IT READS IS OF BULK AT MOST 1048576: true; the input reads as it did. -/
def fnExactReqLessUptoRow : OpenClaim := { program := "ytoiacbdnbbnebaa", sum := "5438b950c9f0b0f04d43057f3e34561002446dd8c60d74397ee20be3fc4e62b0", func := "loop.example/wapentake/laws.FnExactReqLess", spec := "fnExactReqLess", apart := false, narrowed := true }
def FnExactReqLessUptoSaid : Prop := fnExactReqLessUptoRow.holds Try.pinned (OpenSpec.upto fnExactReqLessSpec)

/-- 'laws.FnReqLess', WHERE WHAT IT READS IS OF BULK AT MOST 1048576: true; the input reads as it did. -/
def fnReqLessUptoRow : OpenClaim := { program := "ytoiacbdnbbnebaa", sum := "5438b950c9f0b0f04d43057f3e34561002446dd8c60d74397ee20be3fc4e62b0", func := "loop.example/wapentake/laws.FnReqLess", spec := "fnReqLess", apart := false, narrowed := true }
def FnReqLessUptoSaid : Prop := fnReqLessUptoRow.holds Try.pinned (OpenSpec.upto fnReqLessSpec)

/-- 'laws.FnCrc', WHERE WHAT IT READS IS OF BULK AT MOST 1048576: true; the input reads as it did. -/
def fnCrcUptoRow : OpenClaim := { program := "ytoiacbdnbbnebaa", sum := "5438b950c9f0b0f04d43057f3e34561002446dd8c60d74397ee20be3fc4e62b0", func := "loop.example/wapentake/laws.FnCrc", spec := "fnCrc", recurses := true, apart := false, narrowed := true }
def FnCrcUptoSaid : Prop := fnCrcUptoRow.holds Try.pinned (OpenSpec.upto fnCrcSpec)

/-- 'laws.FnExactGameNew', WHERE WHAT IT READS IS OF BULK AT MOST 1048576: true; the input reads as it did. -/
def fnExactGameNewUptoRow : OpenClaim := { program := "ytoiacbdnbbnebaa", sum := "5438b950c9f0b0f04d43057f3e34561002446dd8c60d74397ee20be3fc4e62b0", func := "loop.example/wapentake/laws.FnExactGameNew", spec := "fnExactGameNew", apart := false, narrowed := true }
def FnExactGameNewUptoSaid : Prop := fnExactGameNewUptoRow.holds Try.pinned (OpenSpec.upto fnExactGameNewSpec)

/-- 'laws.FnExactAheadOk', WHERE WHAT IT READS IS OF BULK AT MOST 1048576: true; the input reads as it did. -/
def fnExactAheadOkUptoRow : OpenClaim := { program := "ytoiacbdnbbnebaa", sum := "5438b950c9f0b0f04d43057f3e34561002446dd8c60d74397ee20be3fc4e62b0", func := "loop.example/wapentake/laws.FnExactAheadOk", spec := "fnExactAheadOk", unfollowed := true, recurses := true, apart := false, narrowed := true }
def FnExactAheadOkUptoSaid : Prop := fnExactAheadOkUptoRow.holds Try.pinned (OpenSpec.upto fnExactAheadOkSpec)

/-- 'laws.FnExactGameOk', WHERE WHAT IT READS IS OF BULK AT MOST 1048576: true; the input reads as it did. -/
def fnExactGameOkUptoRow : OpenClaim := { program := "ytoiacbdnbbnebaa", sum := "5438b950c9f0b0f04d43057f3e34561002446dd8c60d74397ee20be3fc4e62b0", func := "loop.example/wapentake/laws.FnExactGameOk", spec := "fnExactGameOk", unfollowed := true, recurses := true, apart := false, narrowed := true }
def FnExactGameOkUptoSaid : Prop := fnExactGameOkUptoRow.holds Try.pinned (OpenSpec.upto fnExactGameOkSpec)

/-- 'laws.FnExactMsgSame', WHERE WHAT IT READS IS OF BULK AT MOST 1048576: true; the input reads as it did. -/
def fnExactMsgSameUptoRow : OpenClaim := { program := "ytoiacbdnbbnebaa", sum := "5438b950c9f0b0f04d43057f3e34561002446dd8c60d74397ee20be3fc4e62b0", func := "loop.example/wapentake/laws.FnExactMsgSame", spec := "fnExactMsgSame", unfollowed := true, recurses := true, apart := false, narrowed := true }
def FnExactMsgSameUptoSaid : Prop := fnExactMsgSameUptoRow.holds Try.pinned (OpenSpec.upto fnExactMsgSameSpec)

end Rows
end Go.Proofs.Ytoiacbdnbbnebaa
