/-
  NARROWER THAN 'FOR EVERY INPUT', by the rows' own cells (each row's printed sentence says how): FnExactLedgerGet: laid · FnLedgerGet: laid · FnExactGamePut: laid · FnExactReqGet: laid · FnReqPut: laid · FnReqGet: laid · FnExactGameGet: laid · FnLedgerPut: laid · FnGamePut: laid.
  DERIVED. THE GIVEN ROWS OF THIS SEAT. 9 by the template 'for every input the law returns true; each argument reads behind the call as it read before'; 0 by the template 'total and deterministic' (their statements: YtilldpoleiippaaDoorTotals.lean).
  GIVEN WITH THE SEED: the statements are not yours to turn. If you find one false, say at which input.
  Laid BY PROGRAM, IN A SANDBOX (cutbox-rows.mjs): the forced cells as the released guide's own fill.sh prints them over the translation 20d234490c57237b… (all of the seat's roots in one cut). By AI agents, Wed Nov 11 2026. No macro, syntax, notation, axiom, sorry.
-/
import Derived.Test.YtilldpoleiippaaDoorChecked
import GoSem.PinnedTables
import GoSem.Claim
import GoSem.ClaimJoined
import GoSem.ClaimMapViews
import Derived.JoinedTies
import Derived.KernelRfl
namespace Go.Proofs.YtilldpoleiippaaDoor
/- THE CELL 'sum', in the pinned program and in every row, IS THE sha256 OF THE DUMP (.gsa) THAT YtilldpoleiippaaDoorProg.lean LOADS. Nothing in Lean hashes anything: it is a label: what it is worth is what the hold of that sum in a sandbox is worth. -/
noncomputable def Tryd.pinned : Pinned := { name := "ytilldpoleiippaadoor", sum := "20d234490c57237b93e97dfce170539add02c1fd98c20a511459811175e0d836", checked := Tryd.checked }
namespace Rows
def none {H : Type} : Left H := { results := [], args := [] }

/- WHAT THE LISTED PACKAGE-LEVEL VARIABLES READ AS WHEN THE CALL BEGINS. Each datum BY PROGRAM (the guide's laid-datum.mjs) off the statement by which the dump's own 'gosem.cut.vars' lays the variable. In a bare row this is a premise. The card (YtilldpoleiippaaDoorCards.lean) ties it to the program's text. -/
def laid_math_bits_deBruijn32tab {H : Type} : DataW H := .agg [.lit (.int .u8 0), .lit (.int .u8 1), .lit (.int .u8 28), .lit (.int .u8 2), .lit (.int .u8 29), .lit (.int .u8 14), .lit (.int .u8 24), .lit (.int .u8 3), .lit (.int .u8 30), .lit (.int .u8 22), .lit (.int .u8 20), .lit (.int .u8 15), .lit (.int .u8 25), .lit (.int .u8 17), .lit (.int .u8 4), .lit (.int .u8 8), .lit (.int .u8 31), .lit (.int .u8 27), .lit (.int .u8 13), .lit (.int .u8 23), .lit (.int .u8 21), .lit (.int .u8 19), .lit (.int .u8 16), .lit (.int .u8 7), .lit (.int .u8 26), .lit (.int .u8 12), .lit (.int .u8 18), .lit (.int .u8 6), .lit (.int .u8 11), .lit (.int .u8 5), .lit (.int .u8 10), .lit (.int .u8 9)]
def laid_math_bits_deBruijn64tab {H : Type} : DataW H := .agg [.lit (.int .u8 0), .lit (.int .u8 1), .lit (.int .u8 56), .lit (.int .u8 2), .lit (.int .u8 57), .lit (.int .u8 49), .lit (.int .u8 28), .lit (.int .u8 3), .lit (.int .u8 61), .lit (.int .u8 58), .lit (.int .u8 42), .lit (.int .u8 50), .lit (.int .u8 38), .lit (.int .u8 29), .lit (.int .u8 17), .lit (.int .u8 4), .lit (.int .u8 62), .lit (.int .u8 47), .lit (.int .u8 59), .lit (.int .u8 36), .lit (.int .u8 45), .lit (.int .u8 43), .lit (.int .u8 51), .lit (.int .u8 22), .lit (.int .u8 53), .lit (.int .u8 39), .lit (.int .u8 33), .lit (.int .u8 30), .lit (.int .u8 24), .lit (.int .u8 18), .lit (.int .u8 12), .lit (.int .u8 5), .lit (.int .u8 63), .lit (.int .u8 55), .lit (.int .u8 48), .lit (.int .u8 27), .lit (.int .u8 60), .lit (.int .u8 41), .lit (.int .u8 37), .lit (.int .u8 16), .lit (.int .u8 46), .lit (.int .u8 35), .lit (.int .u8 44), .lit (.int .u8 21), .lit (.int .u8 52), .lit (.int .u8 32), .lit (.int .u8 23), .lit (.int .u8 11), .lit (.int .u8 54), .lit (.int .u8 26), .lit (.int .u8 40), .lit (.int .u8 15), .lit (.int .u8 34), .lit (.int .u8 20), .lit (.int .u8 31), .lit (.int .u8 10), .lit (.int .u8 25), .lit (.int .u8 14), .lit (.int .u8 19), .lit (.int .u8 9), .lit (.int .u8 13), .lit (.int .u8 8), .lit (.int .u8 7), .lit (.int .u8 6)]
def laid_internal_strconv_uint64pow10 {H : Type} : DataW H := .agg [.lit (.int .u64 1), .lit (.int .u64 10), .lit (.int .u64 100), .lit (.int .u64 1000), .lit (.int .u64 10000), .lit (.int .u64 100000), .lit (.int .u64 1000000), .lit (.int .u64 10000000), .lit (.int .u64 100000000), .lit (.int .u64 1000000000), .lit (.int .u64 10000000000), .lit (.int .u64 100000000000), .lit (.int .u64 1000000000000), .lit (.int .u64 10000000000000), .lit (.int .u64 100000000000000), .lit (.int .u64 1000000000000000), .lit (.int .u64 10000000000000000), .lit (.int .u64 100000000000000000), .lit (.int .u64 1000000000000000000), .lit (.int .u64 10000000000000000000)]
def laid_unicode_utf8_acceptRanges {H : Type} : DataW H := .agg [.agg [.lit (.int .u8 128), .lit (.int .u8 191)], .agg [.lit (.int .u8 160), .lit (.int .u8 191)], .agg [.lit (.int .u8 128), .lit (.int .u8 159)], .agg [.lit (.int .u8 144), .lit (.int .u8 191)], .agg [.lit (.int .u8 128), .lit (.int .u8 143)], .agg [.lit (.int .u8 0), .lit (.int .u8 0)], .agg [.lit (.int .u8 0), .lit (.int .u8 0)], .agg [.lit (.int .u8 0), .lit (.int .u8 0)], .agg [.lit (.int .u8 0), .lit (.int .u8 0)], .agg [.lit (.int .u8 0), .lit (.int .u8 0)], .agg [.lit (.int .u8 0), .lit (.int .u8 0)], .agg [.lit (.int .u8 0), .lit (.int .u8 0)], .agg [.lit (.int .u8 0), .lit (.int .u8 0)], .agg [.lit (.int .u8 0), .lit (.int .u8 0)], .agg [.lit (.int .u8 0), .lit (.int .u8 0)], .agg [.lit (.int .u8 0), .lit (.int .u8 0)]]
def laid_strconv_ErrRange {H : Type} : DataW H := .iface "*errors.errorString" (.ptr (.agg [.lit (.string [118, 97, 108, 117, 101, 32, 111, 117, 116, 32, 111, 102, 32, 114, 97, 110, 103, 101])]))
def laid_strconv_ErrSyntax {H : Type} : DataW H := .iface "*errors.errorString" (.ptr (.agg [.lit (.string [105, 110, 118, 97, 108, 105, 100, 32, 115, 121, 110, 116, 97, 120])]))
def laid_loop_example_wapentake_impl_words {H : Type} : DataW H := .slice [.lit (.string []), .lit (.string [106, 111, 105, 110]), .lit (.string [109, 111, 118, 101]), .lit (.string [116, 97, 107, 101]), .lit (.string [104, 105, 116]), .lit (.string [103, 105, 118, 101])] []
/-- One of Go's own tables, pinned by name: the form's constant. -/
def laid_unicode_utf8_first : DataW Unit := Go.Pinned.utf8First

/-- 'laws.FnExactLedgerGet': WHATEVER THE INPUT: true; the input reads as it did. -/
def fnExactLedgerGetSpec : ChangeSpec := { name := "fnExactLedgerGet", vars := ["loop.example/wapentake/impl.words"], fn := fun _ => fun
  | [d, g1] => { results := [.lit (.bool true)], args := [d], vars := [g1] }
  | _ => none }
def fnExactLedgerGetRow : OpenClaim := { program := "ytilldpoleiippaadoor", sum := "20d234490c57237b93e97dfce170539add02c1fd98c20a511459811175e0d836", func := "loop.example/wapentake/laws.FnExactLedgerGet", spec := "fnExactLedgerGet", inPlace := ["internal/bytealg.IndexByteString", "internal/bytealg.IndexString", "internal/bytealg.CountString", "internal/abi.NoEscape", "internal/bytealg.MakeNoZero"], recurses := true, named := ["internal/bytealg.MaxLen", "loop.example/wapentake/impl.words", "unicode/utf8.first", "unicode/utf8.acceptRanges", "strconv.ErrSyntax", "strconv.ErrRange", "internal/strconv.uint64pow10", "math/bits.deBruijn32tab", "math/bits.deBruijn64tab"], apart := false, laid := [("math/bits.deBruijn32tab", laid_math_bits_deBruijn32tab), ("math/bits.deBruijn64tab", laid_math_bits_deBruijn64tab), ("internal/strconv.uint64pow10", laid_internal_strconv_uint64pow10), ("unicode/utf8.acceptRanges", laid_unicode_utf8_acceptRanges), ("strconv.ErrRange", laid_strconv_ErrRange), ("strconv.ErrSyntax", laid_strconv_ErrSyntax), ("loop.example/wapentake/impl.words", laid_loop_example_wapentake_impl_words), ("unicode/utf8.first", laid_unicode_utf8_first)] }
def FnExactLedgerGetSaid : Prop := fnExactLedgerGetRow.holds Tryd.pinned (OpenSpec.ofChange fnExactLedgerGetSpec)

/-- ITS FALSE NEIGHBOUR: 'it returns false'. Refute it at one input. -/
def fnExactLedgerGetWrong : ChangeSpec := { name := "fnExactLedgerGet", vars := ["loop.example/wapentake/impl.words"], fn := fun _ => fun
  | [d, g1] => { results := [.lit (.bool false)], args := [d], vars := [g1] }
  | _ => none }
def FnExactLedgerGetWrongFalsely : Prop := fnExactLedgerGetRow.holds Tryd.pinned (OpenSpec.ofChange fnExactLedgerGetWrong)

/-- 'laws.FnLedgerGet': WHATEVER THE INPUT: true; the input reads as it did. -/
def fnLedgerGetSpec : ChangeSpec := { name := "fnLedgerGet", vars := ["loop.example/wapentake/impl.words"], fn := fun _ => fun
  | [d, g1] => { results := [.lit (.bool true)], args := [d], vars := [g1] }
  | _ => none }
def fnLedgerGetRow : OpenClaim := { program := "ytilldpoleiippaadoor", sum := "20d234490c57237b93e97dfce170539add02c1fd98c20a511459811175e0d836", func := "loop.example/wapentake/laws.FnLedgerGet", spec := "fnLedgerGet", inPlace := ["internal/bytealg.IndexByteString", "internal/bytealg.IndexString", "internal/bytealg.CountString", "internal/abi.NoEscape", "internal/bytealg.MakeNoZero"], recurses := true, named := ["internal/bytealg.MaxLen", "loop.example/wapentake/impl.words", "unicode/utf8.first", "unicode/utf8.acceptRanges", "strconv.ErrSyntax", "strconv.ErrRange", "internal/strconv.uint64pow10", "math/bits.deBruijn32tab", "math/bits.deBruijn64tab"], apart := false, laid := [("math/bits.deBruijn32tab", laid_math_bits_deBruijn32tab), ("math/bits.deBruijn64tab", laid_math_bits_deBruijn64tab), ("internal/strconv.uint64pow10", laid_internal_strconv_uint64pow10), ("unicode/utf8.acceptRanges", laid_unicode_utf8_acceptRanges), ("strconv.ErrRange", laid_strconv_ErrRange), ("strconv.ErrSyntax", laid_strconv_ErrSyntax), ("loop.example/wapentake/impl.words", laid_loop_example_wapentake_impl_words), ("unicode/utf8.first", laid_unicode_utf8_first)] }
def FnLedgerGetSaid : Prop := fnLedgerGetRow.holds Tryd.pinned (OpenSpec.ofChange fnLedgerGetSpec)

/-- ITS FALSE NEIGHBOUR: 'it returns false'. Refute it at one input. -/
def fnLedgerGetWrong : ChangeSpec := { name := "fnLedgerGet", vars := ["loop.example/wapentake/impl.words"], fn := fun _ => fun
  | [d, g1] => { results := [.lit (.bool false)], args := [d], vars := [g1] }
  | _ => none }
def FnLedgerGetWrongFalsely : Prop := fnLedgerGetRow.holds Tryd.pinned (OpenSpec.ofChange fnLedgerGetWrong)

/-- 'laws.FnExactGamePut': WHATEVER THE INPUT: true; the input reads as it did. -/
def fnExactGamePutSpec : ChangeSpec := { name := "fnExactGamePut", fn := fun _ => fun
  | [d] => { results := [.lit (.bool true)], args := [d] }
  | _ => none }
def fnExactGamePutRow : OpenClaim := { program := "ytilldpoleiippaadoor", sum := "20d234490c57237b93e97dfce170539add02c1fd98c20a511459811175e0d836", func := "loop.example/wapentake/laws.FnExactGamePut", spec := "fnExactGamePut", inPlace := ["internal/abi.NoEscape"], unfollowed := true, recurses := true, named := ["internal/strconv.uint64pow10", "math/bits.deBruijn32tab", "math/bits.deBruijn64tab"], apart := false, laid := [("math/bits.deBruijn32tab", laid_math_bits_deBruijn32tab), ("math/bits.deBruijn64tab", laid_math_bits_deBruijn64tab), ("internal/strconv.uint64pow10", laid_internal_strconv_uint64pow10)] }
def FnExactGamePutSaid : Prop := fnExactGamePutRow.holds Tryd.pinned (OpenSpec.ofChange fnExactGamePutSpec)

/-- ITS FALSE NEIGHBOUR: 'it returns false'. Refute it at one input. -/
def fnExactGamePutWrong : ChangeSpec := { name := "fnExactGamePut", fn := fun _ => fun
  | [d] => { results := [.lit (.bool false)], args := [d] }
  | _ => none }
def FnExactGamePutWrongFalsely : Prop := fnExactGamePutRow.holds Tryd.pinned (OpenSpec.ofChange fnExactGamePutWrong)

/-- 'laws.FnExactReqGet': WHATEVER THE INPUT: true; the input reads as it did. -/
def fnExactReqGetSpec : ChangeSpec := { name := "fnExactReqGet", vars := ["loop.example/wapentake/impl.words"], fn := fun _ => fun
  | [d, g1] => { results := [.lit (.bool true)], args := [d], vars := [g1] }
  | _ => none }
def fnExactReqGetRow : OpenClaim := { program := "ytilldpoleiippaadoor", sum := "20d234490c57237b93e97dfce170539add02c1fd98c20a511459811175e0d836", func := "loop.example/wapentake/laws.FnExactReqGet", spec := "fnExactReqGet", inPlace := ["internal/bytealg.CountString", "internal/bytealg.IndexByteString", "internal/bytealg.IndexString", "internal/abi.NoEscape", "internal/bytealg.MakeNoZero"], recurses := true, named := ["loop.example/wapentake/impl.words", "unicode/utf8.first", "unicode/utf8.acceptRanges", "internal/bytealg.MaxLen", "strconv.ErrSyntax", "strconv.ErrRange", "internal/strconv.uint64pow10", "math/bits.deBruijn32tab", "math/bits.deBruijn64tab"], apart := false, laid := [("math/bits.deBruijn32tab", laid_math_bits_deBruijn32tab), ("math/bits.deBruijn64tab", laid_math_bits_deBruijn64tab), ("internal/strconv.uint64pow10", laid_internal_strconv_uint64pow10), ("unicode/utf8.acceptRanges", laid_unicode_utf8_acceptRanges), ("strconv.ErrRange", laid_strconv_ErrRange), ("strconv.ErrSyntax", laid_strconv_ErrSyntax), ("loop.example/wapentake/impl.words", laid_loop_example_wapentake_impl_words), ("unicode/utf8.first", laid_unicode_utf8_first)] }
def FnExactReqGetSaid : Prop := fnExactReqGetRow.holds Tryd.pinned (OpenSpec.ofChange fnExactReqGetSpec)

/-- ITS FALSE NEIGHBOUR: 'it returns false'. Refute it at one input. -/
def fnExactReqGetWrong : ChangeSpec := { name := "fnExactReqGet", vars := ["loop.example/wapentake/impl.words"], fn := fun _ => fun
  | [d, g1] => { results := [.lit (.bool false)], args := [d], vars := [g1] }
  | _ => none }
def FnExactReqGetWrongFalsely : Prop := fnExactReqGetRow.holds Tryd.pinned (OpenSpec.ofChange fnExactReqGetWrong)

/-- 'laws.FnReqPut': WHATEVER THE INPUT: true; the input reads as it did. -/
def fnReqPutSpec : ChangeSpec := { name := "fnReqPut", vars := ["loop.example/wapentake/impl.words"], fn := fun _ => fun
  | [d, g1] => { results := [.lit (.bool true)], args := [d], vars := [g1] }
  | _ => none }
def fnReqPutRow : OpenClaim := { program := "ytilldpoleiippaadoor", sum := "20d234490c57237b93e97dfce170539add02c1fd98c20a511459811175e0d836", func := "loop.example/wapentake/laws.FnReqPut", spec := "fnReqPut", inPlace := ["internal/abi.NoEscape", "internal/bytealg.MakeNoZero", "internal/bytealg.CountString", "internal/bytealg.IndexByteString", "internal/bytealg.IndexString"], recurses := true, named := ["loop.example/wapentake/impl.words", "internal/strconv.uint64pow10", "math/bits.deBruijn32tab", "math/bits.deBruijn64tab", "unicode/utf8.first", "unicode/utf8.acceptRanges", "internal/bytealg.MaxLen", "strconv.ErrSyntax", "strconv.ErrRange"], apart := false, laid := [("math/bits.deBruijn32tab", laid_math_bits_deBruijn32tab), ("math/bits.deBruijn64tab", laid_math_bits_deBruijn64tab), ("internal/strconv.uint64pow10", laid_internal_strconv_uint64pow10), ("unicode/utf8.acceptRanges", laid_unicode_utf8_acceptRanges), ("strconv.ErrRange", laid_strconv_ErrRange), ("strconv.ErrSyntax", laid_strconv_ErrSyntax), ("loop.example/wapentake/impl.words", laid_loop_example_wapentake_impl_words), ("unicode/utf8.first", laid_unicode_utf8_first)] }
def FnReqPutSaid : Prop := fnReqPutRow.holds Tryd.pinned (OpenSpec.ofChange fnReqPutSpec)

/-- ITS FALSE NEIGHBOUR: 'it returns false'. Refute it at one input. -/
def fnReqPutWrong : ChangeSpec := { name := "fnReqPut", vars := ["loop.example/wapentake/impl.words"], fn := fun _ => fun
  | [d, g1] => { results := [.lit (.bool false)], args := [d], vars := [g1] }
  | _ => none }
def FnReqPutWrongFalsely : Prop := fnReqPutRow.holds Tryd.pinned (OpenSpec.ofChange fnReqPutWrong)

/-- 'laws.FnReqGet': WHATEVER THE INPUT: true; the input reads as it did. -/
def fnReqGetSpec : ChangeSpec := { name := "fnReqGet", vars := ["loop.example/wapentake/impl.words"], fn := fun _ => fun
  | [d, g1] => { results := [.lit (.bool true)], args := [d], vars := [g1] }
  | _ => none }
def fnReqGetRow : OpenClaim := { program := "ytilldpoleiippaadoor", sum := "20d234490c57237b93e97dfce170539add02c1fd98c20a511459811175e0d836", func := "loop.example/wapentake/laws.FnReqGet", spec := "fnReqGet", inPlace := ["internal/bytealg.CountString", "internal/bytealg.IndexByteString", "internal/bytealg.IndexString", "internal/abi.NoEscape", "internal/bytealg.MakeNoZero"], recurses := true, named := ["loop.example/wapentake/impl.words", "unicode/utf8.first", "unicode/utf8.acceptRanges", "internal/bytealg.MaxLen", "strconv.ErrSyntax", "strconv.ErrRange", "internal/strconv.uint64pow10", "math/bits.deBruijn32tab", "math/bits.deBruijn64tab"], apart := false, laid := [("math/bits.deBruijn32tab", laid_math_bits_deBruijn32tab), ("math/bits.deBruijn64tab", laid_math_bits_deBruijn64tab), ("internal/strconv.uint64pow10", laid_internal_strconv_uint64pow10), ("unicode/utf8.acceptRanges", laid_unicode_utf8_acceptRanges), ("strconv.ErrRange", laid_strconv_ErrRange), ("strconv.ErrSyntax", laid_strconv_ErrSyntax), ("loop.example/wapentake/impl.words", laid_loop_example_wapentake_impl_words), ("unicode/utf8.first", laid_unicode_utf8_first)] }
def FnReqGetSaid : Prop := fnReqGetRow.holds Tryd.pinned (OpenSpec.ofChange fnReqGetSpec)

/-- ITS FALSE NEIGHBOUR: 'it returns false'. Refute it at one input. -/
def fnReqGetWrong : ChangeSpec := { name := "fnReqGet", vars := ["loop.example/wapentake/impl.words"], fn := fun _ => fun
  | [d, g1] => { results := [.lit (.bool false)], args := [d], vars := [g1] }
  | _ => none }
def FnReqGetWrongFalsely : Prop := fnReqGetRow.holds Tryd.pinned (OpenSpec.ofChange fnReqGetWrong)

/-- 'laws.FnExactGameGet': WHATEVER THE INPUT: true; the input reads as it did. -/
def fnExactGameGetSpec : ChangeSpec := { name := "fnExactGameGet", fn := fun _ => fun
  | [d] => { results := [.lit (.bool true)], args := [d] }
  | _ => none }
def fnExactGameGetRow : OpenClaim := { program := "ytilldpoleiippaadoor", sum := "20d234490c57237b93e97dfce170539add02c1fd98c20a511459811175e0d836", func := "loop.example/wapentake/laws.FnExactGameGet", spec := "fnExactGameGet", inPlace := ["internal/bytealg.CountString", "internal/bytealg.IndexByteString", "internal/bytealg.IndexString", "internal/abi.NoEscape"], unfollowed := true, recurses := true, named := ["unicode/utf8.first", "unicode/utf8.acceptRanges", "internal/bytealg.MaxLen", "strconv.ErrSyntax", "strconv.ErrRange", "internal/strconv.uint64pow10", "math/bits.deBruijn32tab", "math/bits.deBruijn64tab"], apart := false, laid := [("math/bits.deBruijn32tab", laid_math_bits_deBruijn32tab), ("math/bits.deBruijn64tab", laid_math_bits_deBruijn64tab), ("internal/strconv.uint64pow10", laid_internal_strconv_uint64pow10), ("unicode/utf8.acceptRanges", laid_unicode_utf8_acceptRanges), ("strconv.ErrRange", laid_strconv_ErrRange), ("strconv.ErrSyntax", laid_strconv_ErrSyntax), ("unicode/utf8.first", laid_unicode_utf8_first)] }
def FnExactGameGetSaid : Prop := fnExactGameGetRow.holds Tryd.pinned (OpenSpec.ofChange fnExactGameGetSpec)

/-- ITS FALSE NEIGHBOUR: 'it returns false'. Refute it at one input. -/
def fnExactGameGetWrong : ChangeSpec := { name := "fnExactGameGet", fn := fun _ => fun
  | [d] => { results := [.lit (.bool false)], args := [d] }
  | _ => none }
def FnExactGameGetWrongFalsely : Prop := fnExactGameGetRow.holds Tryd.pinned (OpenSpec.ofChange fnExactGameGetWrong)

/-- 'laws.FnLedgerPut': WHATEVER THE INPUT: true; the input reads as it did. -/
def fnLedgerPutSpec : ChangeSpec := { name := "fnLedgerPut", vars := ["loop.example/wapentake/impl.words"], fn := fun _ => fun
  | [d, g1] => { results := [.lit (.bool true)], args := [d], vars := [g1] }
  | _ => none }
def fnLedgerPutRow : OpenClaim := { program := "ytilldpoleiippaadoor", sum := "20d234490c57237b93e97dfce170539add02c1fd98c20a511459811175e0d836", func := "loop.example/wapentake/laws.FnLedgerPut", spec := "fnLedgerPut", inPlace := ["internal/abi.NoEscape", "internal/bytealg.MakeNoZero", "internal/bytealg.IndexByteString", "internal/bytealg.IndexString", "internal/bytealg.CountString"], recurses := true, named := ["internal/strconv.uint64pow10", "math/bits.deBruijn32tab", "math/bits.deBruijn64tab", "loop.example/wapentake/impl.words", "internal/bytealg.MaxLen", "unicode/utf8.first", "unicode/utf8.acceptRanges", "strconv.ErrSyntax", "strconv.ErrRange"], apart := false, laid := [("math/bits.deBruijn32tab", laid_math_bits_deBruijn32tab), ("math/bits.deBruijn64tab", laid_math_bits_deBruijn64tab), ("internal/strconv.uint64pow10", laid_internal_strconv_uint64pow10), ("unicode/utf8.acceptRanges", laid_unicode_utf8_acceptRanges), ("strconv.ErrRange", laid_strconv_ErrRange), ("strconv.ErrSyntax", laid_strconv_ErrSyntax), ("loop.example/wapentake/impl.words", laid_loop_example_wapentake_impl_words), ("unicode/utf8.first", laid_unicode_utf8_first)] }
def FnLedgerPutSaid : Prop := fnLedgerPutRow.holds Tryd.pinned (OpenSpec.ofChange fnLedgerPutSpec)

/-- ITS FALSE NEIGHBOUR: 'it returns false'. Refute it at one input. -/
def fnLedgerPutWrong : ChangeSpec := { name := "fnLedgerPut", vars := ["loop.example/wapentake/impl.words"], fn := fun _ => fun
  | [d, g1] => { results := [.lit (.bool false)], args := [d], vars := [g1] }
  | _ => none }
def FnLedgerPutWrongFalsely : Prop := fnLedgerPutRow.holds Tryd.pinned (OpenSpec.ofChange fnLedgerPutWrong)

/-- 'laws.FnGamePut': WHATEVER THE INPUT: true; the input reads as it did. -/
def fnGamePutSpec : ChangeSpec := { name := "fnGamePut", fn := fun _ => fun
  | [d] => { results := [.lit (.bool true)], args := [d] }
  | _ => none }
def fnGamePutRow : OpenClaim := { program := "ytilldpoleiippaadoor", sum := "20d234490c57237b93e97dfce170539add02c1fd98c20a511459811175e0d836", func := "loop.example/wapentake/laws.FnGamePut", spec := "fnGamePut", inPlace := ["internal/abi.NoEscape", "internal/bytealg.CountString", "internal/bytealg.IndexByteString", "internal/bytealg.IndexString"], unfollowed := true, recurses := true, named := ["internal/strconv.uint64pow10", "math/bits.deBruijn32tab", "math/bits.deBruijn64tab", "unicode/utf8.first", "unicode/utf8.acceptRanges", "internal/bytealg.MaxLen", "strconv.ErrSyntax", "strconv.ErrRange"], apart := false, laid := [("math/bits.deBruijn32tab", laid_math_bits_deBruijn32tab), ("math/bits.deBruijn64tab", laid_math_bits_deBruijn64tab), ("internal/strconv.uint64pow10", laid_internal_strconv_uint64pow10), ("unicode/utf8.acceptRanges", laid_unicode_utf8_acceptRanges), ("strconv.ErrRange", laid_strconv_ErrRange), ("strconv.ErrSyntax", laid_strconv_ErrSyntax), ("unicode/utf8.first", laid_unicode_utf8_first)] }
def FnGamePutSaid : Prop := fnGamePutRow.holds Tryd.pinned (OpenSpec.ofChange fnGamePutSpec)

/-- ITS FALSE NEIGHBOUR: 'it returns false'. Refute it at one input. -/
def fnGamePutWrong : ChangeSpec := { name := "fnGamePut", fn := fun _ => fun
  | [d] => { results := [.lit (.bool false)], args := [d] }
  | _ => none }
def FnGamePutWrongFalsely : Prop := fnGamePutRow.holds Tryd.pinned (OpenSpec.ofChange fnGamePutWrong)

/- THE SECOND FORM. 'bulk': how many values and letters a reading holds, each counted each time it is reached (what is shared counts as often as it is met; a slice's spare places count too). A statement '..UptoSaid' is the law's where the arguments, and the package variables that the reading takes, are together of bulk at most 1048576: NARROWER than '..Said'. Prove '..Said' where nothing that the law and all that it calls make is longer than what came in: it says more and counts as full. Else prove '..UptoSaid'. A law counts once. -/
mutual
def uptoBulk {H : Type} : DataW H → Nat
  | .lit (.string bytes) => bytes.length + 1
  | .lit _ => 1
  | .nil => 1
  | .ptr d => uptoBulk d + 1
  | .slice elems spare => uptoBulkAll elems + uptoBulkAll spare + 1
  | .agg parts => uptoBulkAll parts + 1
  | .iface _ d => uptoBulk d + 1
  | .map entries => uptoBulkEntries entries + 1
  | .held _ => 1
def uptoBulkAll {H : Type} : List (DataW H) → Nat
  | [] => 0
  | d :: r => uptoBulk d + uptoBulkAll r
def uptoBulkEntries {H : Type} : List (Lit × DataW H) → Nat
  | [] => 0
  | x :: r => uptoBulkEntry x + uptoBulkEntries r
def uptoBulkEntry {H : Type} : Lit × DataW H → Nat
  | (.string bytes, d) => bytes.length + uptoBulk d + 1
  | (_, d) => uptoBulk d + 1
 end
def uptoSmall : (H : Type) → List (DataW H) → Bool := fun _ ds => decide (uptoBulkAll ds ≤ 1048576)
def OpenSpec.upto (s : _root_.Go.ChangeSpec) : _root_.Go.OpenSpec := { _root_.Go.OpenSpec.ofChange s with cond := some uptoSmall }

/-- 'laws.FnExactLedgerGet', WHERE WHAT IT READS IS OF BULK AT MOST 1048576: true; the input reads as it did. -/
def fnExactLedgerGetUptoRow : OpenClaim := { program := "ytilldpoleiippaadoor", sum := "20d234490c57237b93e97dfce170539add02c1fd98c20a511459811175e0d836", func := "loop.example/wapentake/laws.FnExactLedgerGet", spec := "fnExactLedgerGet", inPlace := ["internal/bytealg.IndexByteString", "internal/bytealg.IndexString", "internal/bytealg.CountString", "internal/abi.NoEscape", "internal/bytealg.MakeNoZero"], recurses := true, named := ["internal/bytealg.MaxLen", "loop.example/wapentake/impl.words", "unicode/utf8.first", "unicode/utf8.acceptRanges", "strconv.ErrSyntax", "strconv.ErrRange", "internal/strconv.uint64pow10", "math/bits.deBruijn32tab", "math/bits.deBruijn64tab"], apart := false, laid := [("math/bits.deBruijn32tab", laid_math_bits_deBruijn32tab), ("math/bits.deBruijn64tab", laid_math_bits_deBruijn64tab), ("internal/strconv.uint64pow10", laid_internal_strconv_uint64pow10), ("unicode/utf8.acceptRanges", laid_unicode_utf8_acceptRanges), ("strconv.ErrRange", laid_strconv_ErrRange), ("strconv.ErrSyntax", laid_strconv_ErrSyntax), ("loop.example/wapentake/impl.words", laid_loop_example_wapentake_impl_words), ("unicode/utf8.first", laid_unicode_utf8_first)], narrowed := true }
def FnExactLedgerGetUptoSaid : Prop := fnExactLedgerGetUptoRow.holds Tryd.pinned (OpenSpec.upto fnExactLedgerGetSpec)

/-- 'laws.FnLedgerGet', WHERE WHAT IT READS IS OF BULK AT MOST 1048576: true; the input reads as it did. -/
def fnLedgerGetUptoRow : OpenClaim := { program := "ytilldpoleiippaadoor", sum := "20d234490c57237b93e97dfce170539add02c1fd98c20a511459811175e0d836", func := "loop.example/wapentake/laws.FnLedgerGet", spec := "fnLedgerGet", inPlace := ["internal/bytealg.IndexByteString", "internal/bytealg.IndexString", "internal/bytealg.CountString", "internal/abi.NoEscape", "internal/bytealg.MakeNoZero"], recurses := true, named := ["internal/bytealg.MaxLen", "loop.example/wapentake/impl.words", "unicode/utf8.first", "unicode/utf8.acceptRanges", "strconv.ErrSyntax", "strconv.ErrRange", "internal/strconv.uint64pow10", "math/bits.deBruijn32tab", "math/bits.deBruijn64tab"], apart := false, laid := [("math/bits.deBruijn32tab", laid_math_bits_deBruijn32tab), ("math/bits.deBruijn64tab", laid_math_bits_deBruijn64tab), ("internal/strconv.uint64pow10", laid_internal_strconv_uint64pow10), ("unicode/utf8.acceptRanges", laid_unicode_utf8_acceptRanges), ("strconv.ErrRange", laid_strconv_ErrRange), ("strconv.ErrSyntax", laid_strconv_ErrSyntax), ("loop.example/wapentake/impl.words", laid_loop_example_wapentake_impl_words), ("unicode/utf8.first", laid_unicode_utf8_first)], narrowed := true }
def FnLedgerGetUptoSaid : Prop := fnLedgerGetUptoRow.holds Tryd.pinned (OpenSpec.upto fnLedgerGetSpec)

/-- 'laws.FnExactGamePut', WHERE WHAT IT READS IS OF BULK AT MOST 1048576: true; the input reads as it did. -/
def fnExactGamePutUptoRow : OpenClaim := { program := "ytilldpoleiippaadoor", sum := "20d234490c57237b93e97dfce170539add02c1fd98c20a511459811175e0d836", func := "loop.example/wapentake/laws.FnExactGamePut", spec := "fnExactGamePut", inPlace := ["internal/abi.NoEscape"], unfollowed := true, recurses := true, named := ["internal/strconv.uint64pow10", "math/bits.deBruijn32tab", "math/bits.deBruijn64tab"], apart := false, laid := [("math/bits.deBruijn32tab", laid_math_bits_deBruijn32tab), ("math/bits.deBruijn64tab", laid_math_bits_deBruijn64tab), ("internal/strconv.uint64pow10", laid_internal_strconv_uint64pow10)], narrowed := true }
def FnExactGamePutUptoSaid : Prop := fnExactGamePutUptoRow.holds Tryd.pinned (OpenSpec.upto fnExactGamePutSpec)

/-- 'laws.FnExactReqGet', WHERE WHAT IT READS IS OF BULK AT MOST 1048576: true; the input reads as it did. -/
def fnExactReqGetUptoRow : OpenClaim := { program := "ytilldpoleiippaadoor", sum := "20d234490c57237b93e97dfce170539add02c1fd98c20a511459811175e0d836", func := "loop.example/wapentake/laws.FnExactReqGet", spec := "fnExactReqGet", inPlace := ["internal/bytealg.CountString", "internal/bytealg.IndexByteString", "internal/bytealg.IndexString", "internal/abi.NoEscape", "internal/bytealg.MakeNoZero"], recurses := true, named := ["loop.example/wapentake/impl.words", "unicode/utf8.first", "unicode/utf8.acceptRanges", "internal/bytealg.MaxLen", "strconv.ErrSyntax", "strconv.ErrRange", "internal/strconv.uint64pow10", "math/bits.deBruijn32tab", "math/bits.deBruijn64tab"], apart := false, laid := [("math/bits.deBruijn32tab", laid_math_bits_deBruijn32tab), ("math/bits.deBruijn64tab", laid_math_bits_deBruijn64tab), ("internal/strconv.uint64pow10", laid_internal_strconv_uint64pow10), ("unicode/utf8.acceptRanges", laid_unicode_utf8_acceptRanges), ("strconv.ErrRange", laid_strconv_ErrRange), ("strconv.ErrSyntax", laid_strconv_ErrSyntax), ("loop.example/wapentake/impl.words", laid_loop_example_wapentake_impl_words), ("unicode/utf8.first", laid_unicode_utf8_first)], narrowed := true }
def FnExactReqGetUptoSaid : Prop := fnExactReqGetUptoRow.holds Tryd.pinned (OpenSpec.upto fnExactReqGetSpec)

/-- 'laws.FnReqPut', WHERE WHAT IT READS IS OF BULK AT MOST 1048576: true; the input reads as it did. -/
def fnReqPutUptoRow : OpenClaim := { program := "ytilldpoleiippaadoor", sum := "20d234490c57237b93e97dfce170539add02c1fd98c20a511459811175e0d836", func := "loop.example/wapentake/laws.FnReqPut", spec := "fnReqPut", inPlace := ["internal/abi.NoEscape", "internal/bytealg.MakeNoZero", "internal/bytealg.CountString", "internal/bytealg.IndexByteString", "internal/bytealg.IndexString"], recurses := true, named := ["loop.example/wapentake/impl.words", "internal/strconv.uint64pow10", "math/bits.deBruijn32tab", "math/bits.deBruijn64tab", "unicode/utf8.first", "unicode/utf8.acceptRanges", "internal/bytealg.MaxLen", "strconv.ErrSyntax", "strconv.ErrRange"], apart := false, laid := [("math/bits.deBruijn32tab", laid_math_bits_deBruijn32tab), ("math/bits.deBruijn64tab", laid_math_bits_deBruijn64tab), ("internal/strconv.uint64pow10", laid_internal_strconv_uint64pow10), ("unicode/utf8.acceptRanges", laid_unicode_utf8_acceptRanges), ("strconv.ErrRange", laid_strconv_ErrRange), ("strconv.ErrSyntax", laid_strconv_ErrSyntax), ("loop.example/wapentake/impl.words", laid_loop_example_wapentake_impl_words), ("unicode/utf8.first", laid_unicode_utf8_first)], narrowed := true }
def FnReqPutUptoSaid : Prop := fnReqPutUptoRow.holds Tryd.pinned (OpenSpec.upto fnReqPutSpec)

/-- 'laws.FnReqGet', WHERE WHAT IT READS IS OF BULK AT MOST 1048576: true; the input reads as it did. -/
def fnReqGetUptoRow : OpenClaim := { program := "ytilldpoleiippaadoor", sum := "20d234490c57237b93e97dfce170539add02c1fd98c20a511459811175e0d836", func := "loop.example/wapentake/laws.FnReqGet", spec := "fnReqGet", inPlace := ["internal/bytealg.CountString", "internal/bytealg.IndexByteString", "internal/bytealg.IndexString", "internal/abi.NoEscape", "internal/bytealg.MakeNoZero"], recurses := true, named := ["loop.example/wapentake/impl.words", "unicode/utf8.first", "unicode/utf8.acceptRanges", "internal/bytealg.MaxLen", "strconv.ErrSyntax", "strconv.ErrRange", "internal/strconv.uint64pow10", "math/bits.deBruijn32tab", "math/bits.deBruijn64tab"], apart := false, laid := [("math/bits.deBruijn32tab", laid_math_bits_deBruijn32tab), ("math/bits.deBruijn64tab", laid_math_bits_deBruijn64tab), ("internal/strconv.uint64pow10", laid_internal_strconv_uint64pow10), ("unicode/utf8.acceptRanges", laid_unicode_utf8_acceptRanges), ("strconv.ErrRange", laid_strconv_ErrRange), ("strconv.ErrSyntax", laid_strconv_ErrSyntax), ("loop.example/wapentake/impl.words", laid_loop_example_wapentake_impl_words), ("unicode/utf8.first", laid_unicode_utf8_first)], narrowed := true }
def FnReqGetUptoSaid : Prop := fnReqGetUptoRow.holds Tryd.pinned (OpenSpec.upto fnReqGetSpec)

/-- 'laws.FnExactGameGet', WHERE WHAT IT READS IS OF BULK AT MOST 1048576: true; the input reads as it did. -/
def fnExactGameGetUptoRow : OpenClaim := { program := "ytilldpoleiippaadoor", sum := "20d234490c57237b93e97dfce170539add02c1fd98c20a511459811175e0d836", func := "loop.example/wapentake/laws.FnExactGameGet", spec := "fnExactGameGet", inPlace := ["internal/bytealg.CountString", "internal/bytealg.IndexByteString", "internal/bytealg.IndexString", "internal/abi.NoEscape"], unfollowed := true, recurses := true, named := ["unicode/utf8.first", "unicode/utf8.acceptRanges", "internal/bytealg.MaxLen", "strconv.ErrSyntax", "strconv.ErrRange", "internal/strconv.uint64pow10", "math/bits.deBruijn32tab", "math/bits.deBruijn64tab"], apart := false, laid := [("math/bits.deBruijn32tab", laid_math_bits_deBruijn32tab), ("math/bits.deBruijn64tab", laid_math_bits_deBruijn64tab), ("internal/strconv.uint64pow10", laid_internal_strconv_uint64pow10), ("unicode/utf8.acceptRanges", laid_unicode_utf8_acceptRanges), ("strconv.ErrRange", laid_strconv_ErrRange), ("strconv.ErrSyntax", laid_strconv_ErrSyntax), ("unicode/utf8.first", laid_unicode_utf8_first)], narrowed := true }
def FnExactGameGetUptoSaid : Prop := fnExactGameGetUptoRow.holds Tryd.pinned (OpenSpec.upto fnExactGameGetSpec)

/-- 'laws.FnLedgerPut', WHERE WHAT IT READS IS OF BULK AT MOST 1048576: true; the input reads as it did. -/
def fnLedgerPutUptoRow : OpenClaim := { program := "ytilldpoleiippaadoor", sum := "20d234490c57237b93e97dfce170539add02c1fd98c20a511459811175e0d836", func := "loop.example/wapentake/laws.FnLedgerPut", spec := "fnLedgerPut", inPlace := ["internal/abi.NoEscape", "internal/bytealg.MakeNoZero", "internal/bytealg.IndexByteString", "internal/bytealg.IndexString", "internal/bytealg.CountString"], recurses := true, named := ["internal/strconv.uint64pow10", "math/bits.deBruijn32tab", "math/bits.deBruijn64tab", "loop.example/wapentake/impl.words", "internal/bytealg.MaxLen", "unicode/utf8.first", "unicode/utf8.acceptRanges", "strconv.ErrSyntax", "strconv.ErrRange"], apart := false, laid := [("math/bits.deBruijn32tab", laid_math_bits_deBruijn32tab), ("math/bits.deBruijn64tab", laid_math_bits_deBruijn64tab), ("internal/strconv.uint64pow10", laid_internal_strconv_uint64pow10), ("unicode/utf8.acceptRanges", laid_unicode_utf8_acceptRanges), ("strconv.ErrRange", laid_strconv_ErrRange), ("strconv.ErrSyntax", laid_strconv_ErrSyntax), ("loop.example/wapentake/impl.words", laid_loop_example_wapentake_impl_words), ("unicode/utf8.first", laid_unicode_utf8_first)], narrowed := true }
def FnLedgerPutUptoSaid : Prop := fnLedgerPutUptoRow.holds Tryd.pinned (OpenSpec.upto fnLedgerPutSpec)

/-- 'laws.FnGamePut', WHERE WHAT IT READS IS OF BULK AT MOST 1048576: true; the input reads as it did. -/
def fnGamePutUptoRow : OpenClaim := { program := "ytilldpoleiippaadoor", sum := "20d234490c57237b93e97dfce170539add02c1fd98c20a511459811175e0d836", func := "loop.example/wapentake/laws.FnGamePut", spec := "fnGamePut", inPlace := ["internal/abi.NoEscape", "internal/bytealg.CountString", "internal/bytealg.IndexByteString", "internal/bytealg.IndexString"], unfollowed := true, recurses := true, named := ["internal/strconv.uint64pow10", "math/bits.deBruijn32tab", "math/bits.deBruijn64tab", "unicode/utf8.first", "unicode/utf8.acceptRanges", "internal/bytealg.MaxLen", "strconv.ErrSyntax", "strconv.ErrRange"], apart := false, laid := [("math/bits.deBruijn32tab", laid_math_bits_deBruijn32tab), ("math/bits.deBruijn64tab", laid_math_bits_deBruijn64tab), ("internal/strconv.uint64pow10", laid_internal_strconv_uint64pow10), ("unicode/utf8.acceptRanges", laid_unicode_utf8_acceptRanges), ("strconv.ErrRange", laid_strconv_ErrRange), ("strconv.ErrSyntax", laid_strconv_ErrSyntax), ("unicode/utf8.first", laid_unicode_utf8_first)], narrowed := true }
def FnGamePutUptoSaid : Prop := fnGamePutUptoRow.holds Tryd.pinned (OpenSpec.upto fnGamePutSpec)

end Rows
end Go.Proofs.YtilldpoleiippaaDoor
