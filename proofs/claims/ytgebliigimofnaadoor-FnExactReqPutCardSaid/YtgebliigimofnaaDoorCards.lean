/-
  DERIVED. GIVEN WITH THE SEED: THE CARDS: each row of YtgebliigimofnaaDoorRows.lean that lists a variable, with what it lists TIED to the program's text (the seventh form; the later family's looks); each row that meets fmt, with fmt's text TOLD by the authors' own Lean function (tested against real Go, not proved from fmt's source: count such statements apart). THE CARD IS WHAT COUNTS. Prove the row's statement (the work); the ties are given (YtgebliigimofnaaDoorTie.lean); close each card by the builder's one call (the guide's Derived/Test/ToyasCard.lean, 'card_holds'). Laid BY PROGRAM, IN A SANDBOX (cutbox-door.mjs). By AI agents, Wed Nov 11 2026. No macro, syntax, notation, axiom, sorry.
-/
import Derived.Test.YtgebliigimofnaaDoorRows
import GoSem.ClaimSeven
namespace Go.Proofs.YtgebliigimofnaaDoor
namespace Rows

/-- THE TIED CARD OF 'laws.FnExactReqPut'. -/
def fnExactReqPutCard : Claim7 := { stood := { row := fnExactReqPutRow, standIns := [], harness := (true, "c29c88289c4ed906421263e2f6ea80c26e514a4962d3005d7580427f91975367"), looks := false }, kinds := [], alts := [], laidByText := true, laidKinds := [.data, .data, .data, .widerDeep], laidTests := true, laidLooks := .later }
def FnExactReqPutCardSaid : Prop := Claim7.holds Tryd.pinned (.plain (OpenSpec.ofChange fnExactReqPutSpec)) fnExactReqPutCard

/-- THE SECOND FORM's CARD OF 'laws.FnExactReqPut'. -/
def fnExactReqPutUptoCard : Claim7 := { stood := { row := fnExactReqPutUptoRow, standIns := [], harness := (true, "c29c88289c4ed906421263e2f6ea80c26e514a4962d3005d7580427f91975367"), looks := false }, kinds := [], alts := [], laidByText := true, laidKinds := [.data, .data, .data, .widerDeep], laidTests := true, laidLooks := .later }
def FnExactReqPutUptoCardSaid : Prop := Claim7.holds Tryd.pinned (.plain (OpenSpec.upto fnExactReqPutSpec)) fnExactReqPutUptoCard
end Rows
end Go.Proofs.YtgebliigimofnaaDoor
