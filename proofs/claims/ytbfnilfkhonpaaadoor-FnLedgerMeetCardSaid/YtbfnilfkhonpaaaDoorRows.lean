/-
  NARROWER THAN 'FOR EVERY INPUT', by the rows' own cells (each row's printed sentence says how): FnExactLedgerGet: laid · FnLedgerGet: laid · FnExactLedgerFar: laid · FnExactLedgerMeet: laid · FnExactLedgerPut: laid · FnLedgerMeet: laid · FnLedgerFar: laid · FnLedgerOf: laid · FnExactLedgerAdd: laid · FnLedgerAdd: laid · FnExactLedgerOf: laid · FnLedgerPut: laid.
  DERIVED. THE GIVEN ROWS OF THIS SEAT. 12 by the template 'for every input the law returns true; each argument reads behind the call as it read before'; 0 by the template 'total and deterministic' (their statements: YtbfnilfkhonpaaaDoorTotals.lean).
  GIVEN WITH THE SEED: the statements are not yours to turn. If you find one false, say at which input.
  Laid BY PROGRAM, IN A SANDBOX (cutbox-rows.mjs): the forced cells as the released guide's own fill.sh prints them over the translation 9cd6ab9be6556bb0… (all of the seat's roots in one cut). By AI agents, Wed Nov 11 2026. No macro, syntax, notation, axiom, sorry.
-/
import Derived.Test.YtbfnilfkhonpaaaDoorChecked
import GoSem.PinnedTables
import GoSem.Claim
import GoSem.ClaimJoined
import GoSem.ClaimMapViews
import Derived.JoinedTies
import Derived.KernelRfl
namespace Go.Proofs.YtbfnilfkhonpaaaDoor
/- THE CELL 'sum', in the pinned program and in every row, IS THE sha256 OF THE DUMP (.gsa) THAT YtbfnilfkhonpaaaDoorProg.lean LOADS. Nothing in Lean hashes anything: it is a label: what it is worth is what the hold of that sum in a sandbox is worth. -/
noncomputable def Tryd.pinned : Pinned := { name := "ytbfnilfkhonpaaadoor", sum := "9cd6ab9be6556bb0a28ddc0c84d039cf729f3dae50c3ad026eb6ea3b871f2e0c", checked := Tryd.checked }
namespace Rows
def none {H : Type} : Left H := { results := [], args := [] }

/- WHAT THE LISTED PACKAGE-LEVEL VARIABLES READ AS WHEN THE CALL BEGINS. Each datum BY PROGRAM (the guide's laid-datum.mjs) off the statement by which the dump's own 'gosem.cut.vars' lays the variable. In a bare row this is a premise. The card (YtbfnilfkhonpaaaDoorCards.lean) ties it to the program's text. -/
def laid_math_bits_deBruijn32tab {H : Type} : DataW H := .agg [.lit (.int .u8 0), .lit (.int .u8 1), .lit (.int .u8 28), .lit (.int .u8 2), .lit (.int .u8 29), .lit (.int .u8 14), .lit (.int .u8 24), .lit (.int .u8 3), .lit (.int .u8 30), .lit (.int .u8 22), .lit (.int .u8 20), .lit (.int .u8 15), .lit (.int .u8 25), .lit (.int .u8 17), .lit (.int .u8 4), .lit (.int .u8 8), .lit (.int .u8 31), .lit (.int .u8 27), .lit (.int .u8 13), .lit (.int .u8 23), .lit (.int .u8 21), .lit (.int .u8 19), .lit (.int .u8 16), .lit (.int .u8 7), .lit (.int .u8 26), .lit (.int .u8 12), .lit (.int .u8 18), .lit (.int .u8 6), .lit (.int .u8 11), .lit (.int .u8 5), .lit (.int .u8 10), .lit (.int .u8 9)]
def laid_math_bits_deBruijn64tab {H : Type} : DataW H := .agg [.lit (.int .u8 0), .lit (.int .u8 1), .lit (.int .u8 56), .lit (.int .u8 2), .lit (.int .u8 57), .lit (.int .u8 49), .lit (.int .u8 28), .lit (.int .u8 3), .lit (.int .u8 61), .lit (.int .u8 58), .lit (.int .u8 42), .lit (.int .u8 50), .lit (.int .u8 38), .lit (.int .u8 29), .lit (.int .u8 17), .lit (.int .u8 4), .lit (.int .u8 62), .lit (.int .u8 47), .lit (.int .u8 59), .lit (.int .u8 36), .lit (.int .u8 45), .lit (.int .u8 43), .lit (.int .u8 51), .lit (.int .u8 22), .lit (.int .u8 53), .lit (.int .u8 39), .lit (.int .u8 33), .lit (.int .u8 30), .lit (.int .u8 24), .lit (.int .u8 18), .lit (.int .u8 12), .lit (.int .u8 5), .lit (.int .u8 63), .lit (.int .u8 55), .lit (.int .u8 48), .lit (.int .u8 27), .lit (.int .u8 60), .lit (.int .u8 41), .lit (.int .u8 37), .lit (.int .u8 16), .lit (.int .u8 46), .lit (.int .u8 35), .lit (.int .u8 44), .lit (.int .u8 21), .lit (.int .u8 52), .lit (.int .u8 32), .lit (.int .u8 23), .lit (.int .u8 11), .lit (.int .u8 54), .lit (.int .u8 26), .lit (.int .u8 40), .lit (.int .u8 15), .lit (.int .u8 34), .lit (.int .u8 20), .lit (.int .u8 31), .lit (.int .u8 10), .lit (.int .u8 25), .lit (.int .u8 14), .lit (.int .u8 19), .lit (.int .u8 9), .lit (.int .u8 13), .lit (.int .u8 8), .lit (.int .u8 7), .lit (.int .u8 6)]
def laid_internal_strconv_uint64pow10 {H : Type} : DataW H := .agg [.lit (.int .u64 1), .lit (.int .u64 10), .lit (.int .u64 100), .lit (.int .u64 1000), .lit (.int .u64 10000), .lit (.int .u64 100000), .lit (.int .u64 1000000), .lit (.int .u64 10000000), .lit (.int .u64 100000000), .lit (.int .u64 1000000000), .lit (.int .u64 10000000000), .lit (.int .u64 100000000000), .lit (.int .u64 1000000000000), .lit (.int .u64 10000000000000), .lit (.int .u64 100000000000000), .lit (.int .u64 1000000000000000), .lit (.int .u64 10000000000000000), .lit (.int .u64 100000000000000000), .lit (.int .u64 1000000000000000000), .lit (.int .u64 10000000000000000000)]
def laid_unicode_utf8_acceptRanges {H : Type} : DataW H := .agg [.agg [.lit (.int .u8 128), .lit (.int .u8 191)], .agg [.lit (.int .u8 160), .lit (.int .u8 191)], .agg [.lit (.int .u8 128), .lit (.int .u8 159)], .agg [.lit (.int .u8 144), .lit (.int .u8 191)], .agg [.lit (.int .u8 128), .lit (.int .u8 143)], .agg [.lit (.int .u8 0), .lit (.int .u8 0)], .agg [.lit (.int .u8 0), .lit (.int .u8 0)], .agg [.lit (.int .u8 0), .lit (.int .u8 0)], .agg [.lit (.int .u8 0), .lit (.int .u8 0)], .agg [.lit (.int .u8 0), .lit (.int .u8 0)], .agg [.lit (.int .u8 0), .lit (.int .u8 0)], .agg [.lit (.int .u8 0), .lit (.int .u8 0)], .agg [.lit (.int .u8 0), .lit (.int .u8 0)], .agg [.lit (.int .u8 0), .lit (.int .u8 0)], .agg [.lit (.int .u8 0), .lit (.int .u8 0)], .agg [.lit (.int .u8 0), .lit (.int .u8 0)]]
def laid_strconv_ErrRange {H : Type} : DataW H := .iface "*errors.errorString" (.ptr (.agg [.lit (.string [118, 97, 108, 117, 101, 32, 111, 117, 116, 32, 111, 102, 32, 114, 97, 110, 103, 101])]))
def laid_strconv_ErrSyntax {H : Type} : DataW H := .iface "*errors.errorString" (.ptr (.agg [.lit (.string [105, 110, 118, 97, 108, 105, 100, 32, 115, 121, 110, 116, 97, 120])]))
def laid_loop_example_wapentake_impl_words {H : Type} : DataW H := .slice [.lit (.string []), .lit (.string [106, 111, 105, 110]), .lit (.string [109, 111, 118, 101]), .lit (.string [116, 97, 107, 101]), .lit (.string [104, 105, 116]), .lit (.string [103, 105, 118, 101])] []
/-- One of Go's own tables, pinned by name: the form's constant. -/
def laid_unicode_utf8_first : DataW Unit := Go.Pinned.utf8First

/-- 'laws.FnExactLedgerGet': WHATEVER THE INPUT: true; the input reads as it did. -/
def fnExactLedgerGetSpec : ChangeSpec := { name := "fnExactLedgerGet", vars := ["loop.example/wapentake/impl.words"], fn := fun _ => fun
  | [d, g1] => { results := [.lit (.bool true)], args := [d], vars := [g1] }
  | _ => none }
def fnExactLedgerGetRow : OpenClaim := { program := "ytbfnilfkhonpaaadoor", sum := "9cd6ab9be6556bb0a28ddc0c84d039cf729f3dae50c3ad026eb6ea3b871f2e0c", func := "loop.example/wapentake/laws.FnExactLedgerGet", spec := "fnExactLedgerGet", inPlace := ["internal/bytealg.IndexByteString", "internal/bytealg.IndexString", "internal/bytealg.CountString", "internal/abi.NoEscape", "internal/bytealg.MakeNoZero"], recurses := true, named := ["internal/bytealg.MaxLen", "loop.example/wapentake/impl.words", "unicode/utf8.first", "unicode/utf8.acceptRanges", "strconv.ErrSyntax", "strconv.ErrRange", "internal/strconv.uint64pow10", "math/bits.deBruijn32tab", "math/bits.deBruijn64tab"], apart := false, laid := [("math/bits.deBruijn32tab", laid_math_bits_deBruijn32tab), ("math/bits.deBruijn64tab", laid_math_bits_deBruijn64tab), ("internal/strconv.uint64pow10", laid_internal_strconv_uint64pow10), ("unicode/utf8.acceptRanges", laid_unicode_utf8_acceptRanges), ("strconv.ErrRange", laid_strconv_ErrRange), ("strconv.ErrSyntax", laid_strconv_ErrSyntax), ("loop.example/wapentake/impl.words", laid_loop_example_wapentake_impl_words), ("unicode/utf8.first", laid_unicode_utf8_first)] }
def FnExactLedgerGetSaid : Prop := fnExactLedgerGetRow.holds Tryd.pinned (OpenSpec.ofChange fnExactLedgerGetSpec)

/-- ITS FALSE NEIGHBOUR: 'it returns false'. Refute it at one input. -/
def fnExactLedgerGetWrong : ChangeSpec := { name := "fnExactLedgerGet", vars := ["loop.example/wapentake/impl.words"], fn := fun _ => fun
  | [d, g1] => { results := [.lit (.bool false)], args := [d], vars := [g1] }
  | _ => none }
def FnExactLedgerGetWrongFalsely : Prop := fnExactLedgerGetRow.holds Tryd.pinned (OpenSpec.ofChange fnExactLedgerGetWrong)

/-- 'laws.FnLedgerGet': WHATEVER THE INPUT: true; the input reads as it did. -/
def fnLedgerGetSpec : ChangeSpec := { name := "fnLedgerGet", vars := ["loop.example/wapentake/impl.words"], fn := fun _ => fun
  | [d, g1] => { results := [.lit (.bool true)], args := [d], vars := [g1] }
  | _ => none }
def fnLedgerGetRow : OpenClaim := { program := "ytbfnilfkhonpaaadoor", sum := "9cd6ab9be6556bb0a28ddc0c84d039cf729f3dae50c3ad026eb6ea3b871f2e0c", func := "loop.example/wapentake/laws.FnLedgerGet", spec := "fnLedgerGet", inPlace := ["internal/bytealg.IndexByteString", "internal/bytealg.IndexString", "internal/bytealg.CountString", "internal/abi.NoEscape", "internal/bytealg.MakeNoZero"], recurses := true, named := ["internal/bytealg.MaxLen", "loop.example/wapentake/impl.words", "unicode/utf8.first", "unicode/utf8.acceptRanges", "strconv.ErrSyntax", "strconv.ErrRange", "internal/strconv.uint64pow10", "math/bits.deBruijn32tab", "math/bits.deBruijn64tab"], apart := false, laid := [("math/bits.deBruijn32tab", laid_math_bits_deBruijn32tab), ("math/bits.deBruijn64tab", laid_math_bits_deBruijn64tab), ("internal/strconv.uint64pow10", laid_internal_strconv_uint64pow10), ("unicode/utf8.acceptRanges", laid_unicode_utf8_acceptRanges), ("strconv.ErrRange", laid_strconv_ErrRange), ("strconv.ErrSyntax", laid_strconv_ErrSyntax), ("loop.example/wapentake/impl.words", laid_loop_example_wapentake_impl_words), ("unicode/utf8.first", laid_unicode_utf8_first)] }
def FnLedgerGetSaid : Prop := fnLedgerGetRow.holds Tryd.pinned (OpenSpec.ofChange fnLedgerGetSpec)

/-- ITS FALSE NEIGHBOUR: 'it returns false'. Refute it at one input. -/
def fnLedgerGetWrong : ChangeSpec := { name := "fnLedgerGet", vars := ["loop.example/wapentake/impl.words"], fn := fun _ => fun
  | [d, g1] => { results := [.lit (.bool false)], args := [d], vars := [g1] }
  | _ => none }
def FnLedgerGetWrongFalsely : Prop := fnLedgerGetRow.holds Tryd.pinned (OpenSpec.ofChange fnLedgerGetWrong)

/-- 'laws.FnExactLedgerFar': WHATEVER THE INPUT: true; the input reads as it did. -/
def fnExactLedgerFarSpec : ChangeSpec := { name := "fnExactLedgerFar", vars := ["loop.example/wapentake/impl.words"], fn := fun _ => fun
  | [d, g1] => { results := [.lit (.bool true)], args := [d], vars := [g1] }
  | _ => none }
def fnExactLedgerFarRow : OpenClaim := { program := "ytbfnilfkhonpaaadoor", sum := "9cd6ab9be6556bb0a28ddc0c84d039cf729f3dae50c3ad026eb6ea3b871f2e0c", func := "loop.example/wapentake/laws.FnExactLedgerFar", spec := "fnExactLedgerFar", inPlace := ["internal/abi.NoEscape", "internal/bytealg.MakeNoZero"], recurses := true, named := ["internal/strconv.uint64pow10", "math/bits.deBruijn32tab", "math/bits.deBruijn64tab", "loop.example/wapentake/impl.words"], apart := false, laid := [("math/bits.deBruijn32tab", laid_math_bits_deBruijn32tab), ("math/bits.deBruijn64tab", laid_math_bits_deBruijn64tab), ("internal/strconv.uint64pow10", laid_internal_strconv_uint64pow10), ("loop.example/wapentake/impl.words", laid_loop_example_wapentake_impl_words)] }
def FnExactLedgerFarSaid : Prop := fnExactLedgerFarRow.holds Tryd.pinned (OpenSpec.ofChange fnExactLedgerFarSpec)

/-- ITS FALSE NEIGHBOUR: 'it returns false'. Refute it at one input. -/
def fnExactLedgerFarWrong : ChangeSpec := { name := "fnExactLedgerFar", vars := ["loop.example/wapentake/impl.words"], fn := fun _ => fun
  | [d, g1] => { results := [.lit (.bool false)], args := [d], vars := [g1] }
  | _ => none }
def FnExactLedgerFarWrongFalsely : Prop := fnExactLedgerFarRow.holds Tryd.pinned (OpenSpec.ofChange fnExactLedgerFarWrong)

/-- 'laws.FnExactLedgerMeet': WHATEVER THE INPUT: true; the input reads as it did. -/
def fnExactLedgerMeetSpec : ChangeSpec := { name := "fnExactLedgerMeet", vars := ["loop.example/wapentake/impl.words"], fn := fun _ => fun
  | [d1, d2, g1] => { results := [.lit (.bool true)], args := [d1, d2], vars := [g1] }
  | _ => none }
def fnExactLedgerMeetRow : OpenClaim := { program := "ytbfnilfkhonpaaadoor", sum := "9cd6ab9be6556bb0a28ddc0c84d039cf729f3dae50c3ad026eb6ea3b871f2e0c", func := "loop.example/wapentake/laws.FnExactLedgerMeet", spec := "fnExactLedgerMeet", inPlace := ["internal/abi.NoEscape", "internal/bytealg.MakeNoZero"], recurses := true, named := ["internal/strconv.uint64pow10", "math/bits.deBruijn32tab", "math/bits.deBruijn64tab", "loop.example/wapentake/impl.words"], apart := false, laid := [("math/bits.deBruijn32tab", laid_math_bits_deBruijn32tab), ("math/bits.deBruijn64tab", laid_math_bits_deBruijn64tab), ("internal/strconv.uint64pow10", laid_internal_strconv_uint64pow10), ("loop.example/wapentake/impl.words", laid_loop_example_wapentake_impl_words)] }
def FnExactLedgerMeetSaid : Prop := fnExactLedgerMeetRow.holds Tryd.pinned (OpenSpec.ofChange fnExactLedgerMeetSpec)

/-- ITS FALSE NEIGHBOUR: 'it returns false'. Refute it at one input. -/
def fnExactLedgerMeetWrong : ChangeSpec := { name := "fnExactLedgerMeet", vars := ["loop.example/wapentake/impl.words"], fn := fun _ => fun
  | [d1, d2, g1] => { results := [.lit (.bool false)], args := [d1, d2], vars := [g1] }
  | _ => none }
def FnExactLedgerMeetWrongFalsely : Prop := fnExactLedgerMeetRow.holds Tryd.pinned (OpenSpec.ofChange fnExactLedgerMeetWrong)

/-- 'laws.FnExactLedgerPut': WHATEVER THE INPUT: true; the input reads as it did. -/
def fnExactLedgerPutSpec : ChangeSpec := { name := "fnExactLedgerPut", vars := ["loop.example/wapentake/impl.words"], fn := fun _ => fun
  | [d, g1] => { results := [.lit (.bool true)], args := [d], vars := [g1] }
  | _ => none }
def fnExactLedgerPutRow : OpenClaim := { program := "ytbfnilfkhonpaaadoor", sum := "9cd6ab9be6556bb0a28ddc0c84d039cf729f3dae50c3ad026eb6ea3b871f2e0c", func := "loop.example/wapentake/laws.FnExactLedgerPut", spec := "fnExactLedgerPut", inPlace := ["internal/abi.NoEscape", "internal/bytealg.MakeNoZero"], recurses := true, named := ["internal/strconv.uint64pow10", "math/bits.deBruijn32tab", "math/bits.deBruijn64tab", "loop.example/wapentake/impl.words"], apart := false, laid := [("math/bits.deBruijn32tab", laid_math_bits_deBruijn32tab), ("math/bits.deBruijn64tab", laid_math_bits_deBruijn64tab), ("internal/strconv.uint64pow10", laid_internal_strconv_uint64pow10), ("loop.example/wapentake/impl.words", laid_loop_example_wapentake_impl_words)] }
def FnExactLedgerPutSaid : Prop := fnExactLedgerPutRow.holds Tryd.pinned (OpenSpec.ofChange fnExactLedgerPutSpec)

/-- ITS FALSE NEIGHBOUR: 'it returns false'. Refute it at one input. -/
def fnExactLedgerPutWrong : ChangeSpec := { name := "fnExactLedgerPut", vars := ["loop.example/wapentake/impl.words"], fn := fun _ => fun
  | [d, g1] => { results := [.lit (.bool false)], args := [d], vars := [g1] }
  | _ => none }
def FnExactLedgerPutWrongFalsely : Prop := fnExactLedgerPutRow.holds Tryd.pinned (OpenSpec.ofChange fnExactLedgerPutWrong)

/-- 'laws.FnLedgerMeet': WHATEVER THE INPUT: true; the input reads as it did. -/
def fnLedgerMeetSpec : ChangeSpec := { name := "fnLedgerMeet", vars := ["loop.example/wapentake/impl.words"], fn := fun _ => fun
  | [d, g1] => { results := [.lit (.bool true)], args := [d], vars := [g1] }
  | _ => none }
def fnLedgerMeetRow : OpenClaim := { program := "ytbfnilfkhonpaaadoor", sum := "9cd6ab9be6556bb0a28ddc0c84d039cf729f3dae50c3ad026eb6ea3b871f2e0c", func := "loop.example/wapentake/laws.FnLedgerMeet", spec := "fnLedgerMeet", inPlace := ["internal/abi.NoEscape", "internal/bytealg.MakeNoZero"], recurses := true, named := ["internal/strconv.uint64pow10", "math/bits.deBruijn32tab", "math/bits.deBruijn64tab", "loop.example/wapentake/impl.words"], apart := false, laid := [("math/bits.deBruijn32tab", laid_math_bits_deBruijn32tab), ("math/bits.deBruijn64tab", laid_math_bits_deBruijn64tab), ("internal/strconv.uint64pow10", laid_internal_strconv_uint64pow10), ("loop.example/wapentake/impl.words", laid_loop_example_wapentake_impl_words)] }
def FnLedgerMeetSaid : Prop := fnLedgerMeetRow.holds Tryd.pinned (OpenSpec.ofChange fnLedgerMeetSpec)

/-- ITS FALSE NEIGHBOUR: 'it returns false'. Refute it at one input. -/
def fnLedgerMeetWrong : ChangeSpec := { name := "fnLedgerMeet", vars := ["loop.example/wapentake/impl.words"], fn := fun _ => fun
  | [d, g1] => { results := [.lit (.bool false)], args := [d], vars := [g1] }
  | _ => none }
def FnLedgerMeetWrongFalsely : Prop := fnLedgerMeetRow.holds Tryd.pinned (OpenSpec.ofChange fnLedgerMeetWrong)

/-- 'laws.FnLedgerFar': WHATEVER THE INPUT: true; the input reads as it did. -/
def fnLedgerFarSpec : ChangeSpec := { name := "fnLedgerFar", vars := ["loop.example/wapentake/impl.words"], fn := fun _ => fun
  | [d1, d2, g1] => { results := [.lit (.bool true)], args := [d1, d2], vars := [g1] }
  | _ => none }
def fnLedgerFarRow : OpenClaim := { program := "ytbfnilfkhonpaaadoor", sum := "9cd6ab9be6556bb0a28ddc0c84d039cf729f3dae50c3ad026eb6ea3b871f2e0c", func := "loop.example/wapentake/laws.FnLedgerFar", spec := "fnLedgerFar", inPlace := ["internal/abi.NoEscape", "internal/bytealg.MakeNoZero"], recurses := true, named := ["internal/strconv.uint64pow10", "math/bits.deBruijn32tab", "math/bits.deBruijn64tab", "loop.example/wapentake/impl.words"], apart := false, laid := [("math/bits.deBruijn32tab", laid_math_bits_deBruijn32tab), ("math/bits.deBruijn64tab", laid_math_bits_deBruijn64tab), ("internal/strconv.uint64pow10", laid_internal_strconv_uint64pow10), ("loop.example/wapentake/impl.words", laid_loop_example_wapentake_impl_words)] }
def FnLedgerFarSaid : Prop := fnLedgerFarRow.holds Tryd.pinned (OpenSpec.ofChange fnLedgerFarSpec)

/-- ITS FALSE NEIGHBOUR: 'it returns false'. Refute it at one input. -/
def fnLedgerFarWrong : ChangeSpec := { name := "fnLedgerFar", vars := ["loop.example/wapentake/impl.words"], fn := fun _ => fun
  | [d1, d2, g1] => { results := [.lit (.bool false)], args := [d1, d2], vars := [g1] }
  | _ => none }
def FnLedgerFarWrongFalsely : Prop := fnLedgerFarRow.holds Tryd.pinned (OpenSpec.ofChange fnLedgerFarWrong)

/-- 'laws.FnLedgerOf': WHATEVER THE INPUT: true; the input reads as it did. -/
def fnLedgerOfSpec : ChangeSpec := { name := "fnLedgerOf", vars := ["loop.example/wapentake/impl.words"], fn := fun _ => fun
  | [d, g1] => { results := [.lit (.bool true)], args := [d], vars := [g1] }
  | _ => none }
def fnLedgerOfRow : OpenClaim := { program := "ytbfnilfkhonpaaadoor", sum := "9cd6ab9be6556bb0a28ddc0c84d039cf729f3dae50c3ad026eb6ea3b871f2e0c", func := "loop.example/wapentake/laws.FnLedgerOf", spec := "fnLedgerOf", inPlace := ["internal/abi.NoEscape", "internal/bytealg.MakeNoZero"], unfollowed := true, recurses := true, named := ["internal/strconv.uint64pow10", "math/bits.deBruijn32tab", "math/bits.deBruijn64tab", "loop.example/wapentake/impl.words"], apart := false, laid := [("math/bits.deBruijn32tab", laid_math_bits_deBruijn32tab), ("math/bits.deBruijn64tab", laid_math_bits_deBruijn64tab), ("internal/strconv.uint64pow10", laid_internal_strconv_uint64pow10), ("loop.example/wapentake/impl.words", laid_loop_example_wapentake_impl_words)] }
def FnLedgerOfSaid : Prop := fnLedgerOfRow.holds Tryd.pinned (OpenSpec.ofChange fnLedgerOfSpec)

/-- ITS FALSE NEIGHBOUR: 'it returns false'. Refute it at one input. -/
def fnLedgerOfWrong : ChangeSpec := { name := "fnLedgerOf", vars := ["loop.example/wapentake/impl.words"], fn := fun _ => fun
  | [d, g1] => { results := [.lit (.bool false)], args := [d], vars := [g1] }
  | _ => none }
def FnLedgerOfWrongFalsely : Prop := fnLedgerOfRow.holds Tryd.pinned (OpenSpec.ofChange fnLedgerOfWrong)

/-- 'laws.FnExactLedgerAdd': WHATEVER THE INPUT: true; the input reads as it did. -/
def fnExactLedgerAddSpec : ChangeSpec := { name := "fnExactLedgerAdd", vars := ["loop.example/wapentake/impl.words"], fn := fun _ => fun
  | [d1, d2, g1] => { results := [.lit (.bool true)], args := [d1, d2], vars := [g1] }
  | _ => none }
def fnExactLedgerAddRow : OpenClaim := { program := "ytbfnilfkhonpaaadoor", sum := "9cd6ab9be6556bb0a28ddc0c84d039cf729f3dae50c3ad026eb6ea3b871f2e0c", func := "loop.example/wapentake/laws.FnExactLedgerAdd", spec := "fnExactLedgerAdd", inPlace := ["internal/abi.NoEscape", "internal/bytealg.MakeNoZero"], recurses := true, named := ["internal/strconv.uint64pow10", "math/bits.deBruijn32tab", "math/bits.deBruijn64tab", "loop.example/wapentake/impl.words"], apart := false, laid := [("math/bits.deBruijn32tab", laid_math_bits_deBruijn32tab), ("math/bits.deBruijn64tab", laid_math_bits_deBruijn64tab), ("internal/strconv.uint64pow10", laid_internal_strconv_uint64pow10), ("loop.example/wapentake/impl.words", laid_loop_example_wapentake_impl_words)] }
def FnExactLedgerAddSaid : Prop := fnExactLedgerAddRow.holds Tryd.pinned (OpenSpec.ofChange fnExactLedgerAddSpec)

/-- ITS FALSE NEIGHBOUR: 'it returns false'. Refute it at one input. -/
def fnExactLedgerAddWrong : ChangeSpec := { name := "fnExactLedgerAdd", vars := ["loop.example/wapentake/impl.words"], fn := fun _ => fun
  | [d1, d2, g1] => { results := [.lit (.bool false)], args := [d1, d2], vars := [g1] }
  | _ => none }
def FnExactLedgerAddWrongFalsely : Prop := fnExactLedgerAddRow.holds Tryd.pinned (OpenSpec.ofChange fnExactLedgerAddWrong)

/-- 'laws.FnLedgerAdd': WHATEVER THE INPUT: true; the input reads as it did. -/
def fnLedgerAddSpec : ChangeSpec := { name := "fnLedgerAdd", vars := ["loop.example/wapentake/impl.words"], fn := fun _ => fun
  | [d, g1] => { results := [.lit (.bool true)], args := [d], vars := [g1] }
  | _ => none }
def fnLedgerAddRow : OpenClaim := { program := "ytbfnilfkhonpaaadoor", sum := "9cd6ab9be6556bb0a28ddc0c84d039cf729f3dae50c3ad026eb6ea3b871f2e0c", func := "loop.example/wapentake/laws.FnLedgerAdd", spec := "fnLedgerAdd", inPlace := ["internal/abi.NoEscape", "internal/bytealg.MakeNoZero"], recurses := true, named := ["internal/strconv.uint64pow10", "math/bits.deBruijn32tab", "math/bits.deBruijn64tab", "loop.example/wapentake/impl.words"], apart := false, laid := [("math/bits.deBruijn32tab", laid_math_bits_deBruijn32tab), ("math/bits.deBruijn64tab", laid_math_bits_deBruijn64tab), ("internal/strconv.uint64pow10", laid_internal_strconv_uint64pow10), ("loop.example/wapentake/impl.words", laid_loop_example_wapentake_impl_words)] }
def FnLedgerAddSaid : Prop := fnLedgerAddRow.holds Tryd.pinned (OpenSpec.ofChange fnLedgerAddSpec)

/-- ITS FALSE NEIGHBOUR: 'it returns false'. Refute it at one input. -/
def fnLedgerAddWrong : ChangeSpec := { name := "fnLedgerAdd", vars := ["loop.example/wapentake/impl.words"], fn := fun _ => fun
  | [d, g1] => { results := [.lit (.bool false)], args := [d], vars := [g1] }
  | _ => none }
def FnLedgerAddWrongFalsely : Prop := fnLedgerAddRow.holds Tryd.pinned (OpenSpec.ofChange fnLedgerAddWrong)

/-- 'laws.FnExactLedgerOf': WHATEVER THE INPUT: true; the input reads as it did. -/
def fnExactLedgerOfSpec : ChangeSpec := { name := "fnExactLedgerOf", vars := ["loop.example/wapentake/impl.words"], fn := fun _ => fun
  | [d, g1] => { results := [.lit (.bool true)], args := [d], vars := [g1] }
  | _ => none }
def fnExactLedgerOfRow : OpenClaim := { program := "ytbfnilfkhonpaaadoor", sum := "9cd6ab9be6556bb0a28ddc0c84d039cf729f3dae50c3ad026eb6ea3b871f2e0c", func := "loop.example/wapentake/laws.FnExactLedgerOf", spec := "fnExactLedgerOf", inPlace := ["internal/abi.NoEscape", "internal/bytealg.MakeNoZero"], unfollowed := true, recurses := true, named := ["internal/strconv.uint64pow10", "math/bits.deBruijn32tab", "math/bits.deBruijn64tab", "loop.example/wapentake/impl.words"], apart := false, laid := [("math/bits.deBruijn32tab", laid_math_bits_deBruijn32tab), ("math/bits.deBruijn64tab", laid_math_bits_deBruijn64tab), ("internal/strconv.uint64pow10", laid_internal_strconv_uint64pow10), ("loop.example/wapentake/impl.words", laid_loop_example_wapentake_impl_words)] }
def FnExactLedgerOfSaid : Prop := fnExactLedgerOfRow.holds Tryd.pinned (OpenSpec.ofChange fnExactLedgerOfSpec)

/-- ITS FALSE NEIGHBOUR: 'it returns false'. Refute it at one input. -/
def fnExactLedgerOfWrong : ChangeSpec := { name := "fnExactLedgerOf", vars := ["loop.example/wapentake/impl.words"], fn := fun _ => fun
  | [d, g1] => { results := [.lit (.bool false)], args := [d], vars := [g1] }
  | _ => none }
def FnExactLedgerOfWrongFalsely : Prop := fnExactLedgerOfRow.holds Tryd.pinned (OpenSpec.ofChange fnExactLedgerOfWrong)

/-- 'laws.FnLedgerPut': WHATEVER THE INPUT: true; the input reads as it did. -/
def fnLedgerPutSpec : ChangeSpec := { name := "fnLedgerPut", vars := ["loop.example/wapentake/impl.words"], fn := fun _ => fun
  | [d, g1] => { results := [.lit (.bool true)], args := [d], vars := [g1] }
  | _ => none }
def fnLedgerPutRow : OpenClaim := { program := "ytbfnilfkhonpaaadoor", sum := "9cd6ab9be6556bb0a28ddc0c84d039cf729f3dae50c3ad026eb6ea3b871f2e0c", func := "loop.example/wapentake/laws.FnLedgerPut", spec := "fnLedgerPut", inPlace := ["internal/abi.NoEscape", "internal/bytealg.MakeNoZero", "internal/bytealg.IndexByteString", "internal/bytealg.IndexString", "internal/bytealg.CountString"], recurses := true, named := ["internal/strconv.uint64pow10", "math/bits.deBruijn32tab", "math/bits.deBruijn64tab", "loop.example/wapentake/impl.words", "internal/bytealg.MaxLen", "unicode/utf8.first", "unicode/utf8.acceptRanges", "strconv.ErrSyntax", "strconv.ErrRange"], apart := false, laid := [("math/bits.deBruijn32tab", laid_math_bits_deBruijn32tab), ("math/bits.deBruijn64tab", laid_math_bits_deBruijn64tab), ("internal/strconv.uint64pow10", laid_internal_strconv_uint64pow10), ("unicode/utf8.acceptRanges", laid_unicode_utf8_acceptRanges), ("strconv.ErrRange", laid_strconv_ErrRange), ("strconv.ErrSyntax", laid_strconv_ErrSyntax), ("loop.example/wapentake/impl.words", laid_loop_example_wapentake_impl_words), ("unicode/utf8.first", laid_unicode_utf8_first)] }
def FnLedgerPutSaid : Prop := fnLedgerPutRow.holds Tryd.pinned (OpenSpec.ofChange fnLedgerPutSpec)

/-- ITS FALSE NEIGHBOUR: 'it returns false'. Refute it at one input. -/
def fnLedgerPutWrong : ChangeSpec := { name := "fnLedgerPut", vars := ["loop.example/wapentake/impl.words"], fn := fun _ => fun
  | [d, g1] => { results := [.lit (.bool false)], args := [d], vars := [g1] }
  | _ => none }
def FnLedgerPutWrongFalsely : Prop := fnLedgerPutRow.holds Tryd.pinned (OpenSpec.ofChange fnLedgerPutWrong)

/- THE SECOND FORM. 'bulk': how many values and letters a reading holds, each counted each time it is reached (what is shared counts as often as it is met; a slice's spare places count too). A statement '..UptoSaid' is the law's where the arguments, and the package variables that the reading takes, are together of bulk at most 1048576: NARROWER than '..Said'. Prove '..Said' where nothing that the law and all that it calls make is longer than what came in: it says more and counts as full. Else prove '..UptoSaid'. A law counts once. -/
mutual
def uptoBulk {H : Type} : DataW H → Nat
  | .lit (.string bytes) => bytes.length + 1
  | .lit _ => 1
  | .nil => 1
  | .ptr d => uptoBulk d + 1
  | .slice elems spare => uptoBulkAll elems + uptoBulkAll spare + 1
  | .agg parts => uptoBulkAll parts + 1
  | .iface _ d => uptoBulk d + 1
  | .map entries => uptoBulkEntries entries + 1
  | .held _ => 1
def uptoBulkAll {H : Type} : List (DataW H) → Nat
  | [] => 0
  | d :: r => uptoBulk d + uptoBulkAll r
def uptoBulkEntries {H : Type} : List (Lit × DataW H) → Nat
  | [] => 0
  | x :: r => uptoBulkEntry x + uptoBulkEntries r
def uptoBulkEntry {H : Type} : Lit × DataW H → Nat
  | (.string bytes, d) => bytes.length + uptoBulk d + 1
  | (_, d) => uptoBulk d + 1
 end
def uptoSmall : (H : Type) → List (DataW H) → Bool := fun _ ds => decide (uptoBulkAll ds ≤ 1048576)
def OpenSpec.upto (s : _root_.Go.ChangeSpec) : _root_.Go.OpenSpec := { _root_.Go.OpenSpec.ofChange s with cond := some uptoSmall }

/-- 'laws.FnExactLedgerGet', WHERE WHAT IT READS IS OF BULK AT MOST 1048576: true; the input reads as it did. -/
def fnExactLedgerGetUptoRow : OpenClaim := { program := "ytbfnilfkhonpaaadoor", sum := "9cd6ab9be6556bb0a28ddc0c84d039cf729f3dae50c3ad026eb6ea3b871f2e0c", func := "loop.example/wapentake/laws.FnExactLedgerGet", spec := "fnExactLedgerGet", inPlace := ["internal/bytealg.IndexByteString", "internal/bytealg.IndexString", "internal/bytealg.CountString", "internal/abi.NoEscape", "internal/bytealg.MakeNoZero"], recurses := true, named := ["internal/bytealg.MaxLen", "loop.example/wapentake/impl.words", "unicode/utf8.first", "unicode/utf8.acceptRanges", "strconv.ErrSyntax", "strconv.ErrRange", "internal/strconv.uint64pow10", "math/bits.deBruijn32tab", "math/bits.deBruijn64tab"], apart := false, laid := [("math/bits.deBruijn32tab", laid_math_bits_deBruijn32tab), ("math/bits.deBruijn64tab", laid_math_bits_deBruijn64tab), ("internal/strconv.uint64pow10", laid_internal_strconv_uint64pow10), ("unicode/utf8.acceptRanges", laid_unicode_utf8_acceptRanges), ("strconv.ErrRange", laid_strconv_ErrRange), ("strconv.ErrSyntax", laid_strconv_ErrSyntax), ("loop.example/wapentake/impl.words", laid_loop_example_wapentake_impl_words), ("unicode/utf8.first", laid_unicode_utf8_first)], narrowed := true }
def FnExactLedgerGetUptoSaid : Prop := fnExactLedgerGetUptoRow.holds Tryd.pinned (OpenSpec.upto fnExactLedgerGetSpec)

/-- 'laws.FnLedgerGet', WHERE WHAT IT READS IS OF BULK AT MOST 1048576: true; the input reads as it did. -/
def fnLedgerGetUptoRow : OpenClaim := { program := "ytbfnilfkhonpaaadoor", sum := "9cd6ab9be6556bb0a28ddc0c84d039cf729f3dae50c3ad026eb6ea3b871f2e0c", func := "loop.example/wapentake/laws.FnLedgerGet", spec := "fnLedgerGet", inPlace := ["internal/bytealg.IndexByteString", "internal/bytealg.IndexString", "internal/bytealg.CountString", "internal/abi.NoEscape", "internal/bytealg.MakeNoZero"], recurses := true, named := ["internal/bytealg.MaxLen", "loop.example/wapentake/impl.words", "unicode/utf8.first", "unicode/utf8.acceptRanges", "strconv.ErrSyntax", "strconv.ErrRange", "internal/strconv.uint64pow10", "math/bits.deBruijn32tab", "math/bits.deBruijn64tab"], apart := false, laid := [("math/bits.deBruijn32tab", laid_math_bits_deBruijn32tab), ("math/bits.deBruijn64tab", laid_math_bits_deBruijn64tab), ("internal/strconv.uint64pow10", laid_internal_strconv_uint64pow10), ("unicode/utf8.acceptRanges", laid_unicode_utf8_acceptRanges), ("strconv.ErrRange", laid_strconv_ErrRange), ("strconv.ErrSyntax", laid_strconv_ErrSyntax), ("loop.example/wapentake/impl.words", laid_loop_example_wapentake_impl_words), ("unicode/utf8.first", laid_unicode_utf8_first)], narrowed := true }
def FnLedgerGetUptoSaid : Prop := fnLedgerGetUptoRow.holds Tryd.pinned (OpenSpec.upto fnLedgerGetSpec)

/-- 'laws.FnExactLedgerFar', WHERE WHAT IT READS IS OF BULK AT MOST 1048576: true; the input reads as it did. -/
def fnExactLedgerFarUptoRow : OpenClaim := { program := "ytbfnilfkhonpaaadoor", sum := "9cd6ab9be6556bb0a28ddc0c84d039cf729f3dae50c3ad026eb6ea3b871f2e0c", func := "loop.example/wapentake/laws.FnExactLedgerFar", spec := "fnExactLedgerFar", inPlace := ["internal/abi.NoEscape", "internal/bytealg.MakeNoZero"], recurses := true, named := ["internal/strconv.uint64pow10", "math/bits.deBruijn32tab", "math/bits.deBruijn64tab", "loop.example/wapentake/impl.words"], apart := false, laid := [("math/bits.deBruijn32tab", laid_math_bits_deBruijn32tab), ("math/bits.deBruijn64tab", laid_math_bits_deBruijn64tab), ("internal/strconv.uint64pow10", laid_internal_strconv_uint64pow10), ("loop.example/wapentake/impl.words", laid_loop_example_wapentake_impl_words)], narrowed := true }
def FnExactLedgerFarUptoSaid : Prop := fnExactLedgerFarUptoRow.holds Tryd.pinned (OpenSpec.upto fnExactLedgerFarSpec)

/-- 'laws.FnExactLedgerMeet', WHERE WHAT IT READS IS OF BULK AT MOST 1048576: true; the input reads as it did. -/
def fnExactLedgerMeetUptoRow : OpenClaim := { program := "ytbfnilfkhonpaaadoor", sum := "9cd6ab9be6556bb0a28ddc0c84d039cf729f3dae50c3ad026eb6ea3b871f2e0c", func := "loop.example/wapentake/laws.FnExactLedgerMeet", spec := "fnExactLedgerMeet", inPlace := ["internal/abi.NoEscape", "internal/bytealg.MakeNoZero"], recurses := true, named := ["internal/strconv.uint64pow10", "math/bits.deBruijn32tab", "math/bits.deBruijn64tab", "loop.example/wapentake/impl.words"], apart := false, laid := [("math/bits.deBruijn32tab", laid_math_bits_deBruijn32tab), ("math/bits.deBruijn64tab", laid_math_bits_deBruijn64tab), ("internal/strconv.uint64pow10", laid_internal_strconv_uint64pow10), ("loop.example/wapentake/impl.words", laid_loop_example_wapentake_impl_words)], narrowed := true }
def FnExactLedgerMeetUptoSaid : Prop := fnExactLedgerMeetUptoRow.holds Tryd.pinned (OpenSpec.upto fnExactLedgerMeetSpec)

/-- 'laws.FnExactLedgerPut', WHERE WHAT IT READS IS OF BULK AT MOST 1048576: true; the input reads as it did. -/
def fnExactLedgerPutUptoRow : OpenClaim := { program := "ytbfnilfkhonpaaadoor", sum := "9cd6ab9be6556bb0a28ddc0c84d039cf729f3dae50c3ad026eb6ea3b871f2e0c", func := "loop.example/wapentake/laws.FnExactLedgerPut", spec := "fnExactLedgerPut", inPlace := ["internal/abi.NoEscape", "internal/bytealg.MakeNoZero"], recurses := true, named := ["internal/strconv.uint64pow10", "math/bits.deBruijn32tab", "math/bits.deBruijn64tab", "loop.example/wapentake/impl.words"], apart := false, laid := [("math/bits.deBruijn32tab", laid_math_bits_deBruijn32tab), ("math/bits.deBruijn64tab", laid_math_bits_deBruijn64tab), ("internal/strconv.uint64pow10", laid_internal_strconv_uint64pow10), ("loop.example/wapentake/impl.words", laid_loop_example_wapentake_impl_words)], narrowed := true }
def FnExactLedgerPutUptoSaid : Prop := fnExactLedgerPutUptoRow.holds Tryd.pinned (OpenSpec.upto fnExactLedgerPutSpec)

/-- 'laws.FnLedgerMeet', WHERE WHAT IT READS IS OF BULK AT MOST 1048576: true; the input reads as it did. -/
def fnLedgerMeetUptoRow : OpenClaim := { program := "ytbfnilfkhonpaaadoor", sum := "9cd6ab9be6556bb0a28ddc0c84d039cf729f3dae50c3ad026eb6ea3b871f2e0c", func := "loop.example/wapentake/laws.FnLedgerMeet", spec := "fnLedgerMeet", inPlace := ["internal/abi.NoEscape", "internal/bytealg.MakeNoZero"], recurses := true, named := ["internal/strconv.uint64pow10", "math/bits.deBruijn32tab", "math/bits.deBruijn64tab", "loop.example/wapentake/impl.words"], apart := false, laid := [("math/bits.deBruijn32tab", laid_math_bits_deBruijn32tab), ("math/bits.deBruijn64tab", laid_math_bits_deBruijn64tab), ("internal/strconv.uint64pow10", laid_internal_strconv_uint64pow10), ("loop.example/wapentake/impl.words", laid_loop_example_wapentake_impl_words)], narrowed := true }
def FnLedgerMeetUptoSaid : Prop := fnLedgerMeetUptoRow.holds Tryd.pinned (OpenSpec.upto fnLedgerMeetSpec)

/-- 'laws.FnLedgerFar', WHERE WHAT IT READS IS OF BULK AT MOST 1048576: true; the input reads as it did. -/
def fnLedgerFarUptoRow : OpenClaim := { program := "ytbfnilfkhonpaaadoor", sum := "9cd6ab9be6556bb0a28ddc0c84d039cf729f3dae50c3ad026eb6ea3b871f2e0c", func := "loop.example/wapentake/laws.FnLedgerFar", spec := "fnLedgerFar", inPlace := ["internal/abi.NoEscape", "internal/bytealg.MakeNoZero"], recurses := true, named := ["internal/strconv.uint64pow10", "math/bits.deBruijn32tab", "math/bits.deBruijn64tab", "loop.example/wapentake/impl.words"], apart := false, laid := [("math/bits.deBruijn32tab", laid_math_bits_deBruijn32tab), ("math/bits.deBruijn64tab", laid_math_bits_deBruijn64tab), ("internal/strconv.uint64pow10", laid_internal_strconv_uint64pow10), ("loop.example/wapentake/impl.words", laid_loop_example_wapentake_impl_words)], narrowed := true }
def FnLedgerFarUptoSaid : Prop := fnLedgerFarUptoRow.holds Tryd.pinned (OpenSpec.upto fnLedgerFarSpec)

/-- 'laws.FnLedgerOf', WHERE WHAT IT READS IS OF BULK AT MOST 1048576: true; the input reads as it did. -/
def fnLedgerOfUptoRow : OpenClaim := { program := "ytbfnilfkhonpaaadoor", sum := "9cd6ab9be6556bb0a28ddc0c84d039cf729f3dae50c3ad026eb6ea3b871f2e0c", func := "loop.example/wapentake/laws.FnLedgerOf", spec := "fnLedgerOf", inPlace := ["internal/abi.NoEscape", "internal/bytealg.MakeNoZero"], unfollowed := true, recurses := true, named := ["internal/strconv.uint64pow10", "math/bits.deBruijn32tab", "math/bits.deBruijn64tab", "loop.example/wapentake/impl.words"], apart := false, laid := [("math/bits.deBruijn32tab", laid_math_bits_deBruijn32tab), ("math/bits.deBruijn64tab", laid_math_bits_deBruijn64tab), ("internal/strconv.uint64pow10", laid_internal_strconv_uint64pow10), ("loop.example/wapentake/impl.words", laid_loop_example_wapentake_impl_words)], narrowed := true }
def FnLedgerOfUptoSaid : Prop := fnLedgerOfUptoRow.holds Tryd.pinned (OpenSpec.upto fnLedgerOfSpec)

/-- 'laws.FnExactLedgerAdd', WHERE WHAT IT READS IS OF BULK AT MOST 1048576: true; the input reads as it did. -/
def fnExactLedgerAddUptoRow : OpenClaim := { program := "ytbfnilfkhonpaaadoor", sum := "9cd6ab9be6556bb0a28ddc0c84d039cf729f3dae50c3ad026eb6ea3b871f2e0c", func := "loop.example/wapentake/laws.FnExactLedgerAdd", spec := "fnExactLedgerAdd", inPlace := ["internal/abi.NoEscape", "internal/bytealg.MakeNoZero"], recurses := true, named := ["internal/strconv.uint64pow10", "math/bits.deBruijn32tab", "math/bits.deBruijn64tab", "loop.example/wapentake/impl.words"], apart := false, laid := [("math/bits.deBruijn32tab", laid_math_bits_deBruijn32tab), ("math/bits.deBruijn64tab", laid_math_bits_deBruijn64tab), ("internal/strconv.uint64pow10", laid_internal_strconv_uint64pow10), ("loop.example/wapentake/impl.words", laid_loop_example_wapentake_impl_words)], narrowed := true }
def FnExactLedgerAddUptoSaid : Prop := fnExactLedgerAddUptoRow.holds Tryd.pinned (OpenSpec.upto fnExactLedgerAddSpec)

/-- 'laws.FnLedgerAdd', WHERE WHAT IT READS IS OF BULK AT MOST 1048576: true; the input reads as it did. -/
def fnLedgerAddUptoRow : OpenClaim := { program := "ytbfnilfkhonpaaadoor", sum := "9cd6ab9be6556bb0a28ddc0c84d039cf729f3dae50c3ad026eb6ea3b871f2e0c", func := "loop.example/wapentake/laws.FnLedgerAdd", spec := "fnLedgerAdd", inPlace := ["internal/abi.NoEscape", "internal/bytealg.MakeNoZero"], recurses := true, named := ["internal/strconv.uint64pow10", "math/bits.deBruijn32tab", "math/bits.deBruijn64tab", "loop.example/wapentake/impl.words"], apart := false, laid := [("math/bits.deBruijn32tab", laid_math_bits_deBruijn32tab), ("math/bits.deBruijn64tab", laid_math_bits_deBruijn64tab), ("internal/strconv.uint64pow10", laid_internal_strconv_uint64pow10), ("loop.example/wapentake/impl.words", laid_loop_example_wapentake_impl_words)], narrowed := true }
def FnLedgerAddUptoSaid : Prop := fnLedgerAddUptoRow.holds Tryd.pinned (OpenSpec.upto fnLedgerAddSpec)

/-- 'laws.FnExactLedgerOf', WHERE WHAT IT READS IS OF BULK AT MOST 1048576: true; the input reads as it did. -/
def fnExactLedgerOfUptoRow : OpenClaim := { program := "ytbfnilfkhonpaaadoor", sum := "9cd6ab9be6556bb0a28ddc0c84d039cf729f3dae50c3ad026eb6ea3b871f2e0c", func := "loop.example/wapentake/laws.FnExactLedgerOf", spec := "fnExactLedgerOf", inPlace := ["internal/abi.NoEscape", "internal/bytealg.MakeNoZero"], unfollowed := true, recurses := true, named := ["internal/strconv.uint64pow10", "math/bits.deBruijn32tab", "math/bits.deBruijn64tab", "loop.example/wapentake/impl.words"], apart := false, laid := [("math/bits.deBruijn32tab", laid_math_bits_deBruijn32tab), ("math/bits.deBruijn64tab", laid_math_bits_deBruijn64tab), ("internal/strconv.uint64pow10", laid_internal_strconv_uint64pow10), ("loop.example/wapentake/impl.words", laid_loop_example_wapentake_impl_words)], narrowed := true }
def FnExactLedgerOfUptoSaid : Prop := fnExactLedgerOfUptoRow.holds Tryd.pinned (OpenSpec.upto fnExactLedgerOfSpec)

/-- 'laws.FnLedgerPut', WHERE WHAT IT READS IS OF BULK AT MOST 1048576: true; the input reads as it did. -/
def fnLedgerPutUptoRow : OpenClaim := { program := "ytbfnilfkhonpaaadoor", sum := "9cd6ab9be6556bb0a28ddc0c84d039cf729f3dae50c3ad026eb6ea3b871f2e0c", func := "loop.example/wapentake/laws.FnLedgerPut", spec := "fnLedgerPut", inPlace := ["internal/abi.NoEscape", "internal/bytealg.MakeNoZero", "internal/bytealg.IndexByteString", "internal/bytealg.IndexString", "internal/bytealg.CountString"], recurses := true, named := ["internal/strconv.uint64pow10", "math/bits.deBruijn32tab", "math/bits.deBruijn64tab", "loop.example/wapentake/impl.words", "internal/bytealg.MaxLen", "unicode/utf8.first", "unicode/utf8.acceptRanges", "strconv.ErrSyntax", "strconv.ErrRange"], apart := false, laid := [("math/bits.deBruijn32tab", laid_math_bits_deBruijn32tab), ("math/bits.deBruijn64tab", laid_math_bits_deBruijn64tab), ("internal/strconv.uint64pow10", laid_internal_strconv_uint64pow10), ("unicode/utf8.acceptRanges", laid_unicode_utf8_acceptRanges), ("strconv.ErrRange", laid_strconv_ErrRange), ("strconv.ErrSyntax", laid_strconv_ErrSyntax), ("loop.example/wapentake/impl.words", laid_loop_example_wapentake_impl_words), ("unicode/utf8.first", laid_unicode_utf8_first)], narrowed := true }
def FnLedgerPutUptoSaid : Prop := fnLedgerPutUptoRow.holds Tryd.pinned (OpenSpec.upto fnLedgerPutSpec)

end Rows
end Go.Proofs.YtbfnilfkhonpaaaDoor
