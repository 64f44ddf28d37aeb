/-
  DERIVED. GIVEN WITH THE SEED: THE CARDS: each row of YtilldpoleiippaaGreatDoorRows.lean that lists a variable, with what it lists TIED to the program's text (the seventh form; the later family's looks); each row that meets fmt, with fmt's text TOLD by the authors' own Lean function (tested against real Go, not proved from fmt's source: count such statements apart). THE CARD IS WHAT COUNTS. Prove the row's statement (the work); the ties are given (YtilldpoleiippaaGreatDoorTie.lean); close each card by the builder's one call (the guide's Derived/Test/ToyasCard.lean, 'card_holds'). Laid BY PROGRAM, IN A SANDBOX (cutbox-door.mjs). By AI agents, Wed Nov 11 2026. No macro, syntax, notation, axiom, sorry.
-/
import Derived.Test.YtilldpoleiippaaGreatDoorRows
import GoSem.ClaimSeven
namespace Go.Proofs.YtilldpoleiippaaGreatDoor
namespace Rows

/-- THE TIED CARD OF 'laws.FnGameGet'. -/
def fnGameGetCard : Claim7 := { stood := { row := fnGameGetRow, standIns := [], harness := (true, "0c4bc223b949f8364f28a03b47ad9751b0baeabd79e07dd4086a5f67899899f2"), looks := true }, kinds := [], alts := [], laidByText := true, laidKinds := [.data, .data, .data, .data, .sentinel, .sentinel, .pinned], laidTests := true, laidLooks := .later }
def FnGameGetCardSaid : Prop := Claim7.holds Tryz.pinned (.plain (OpenSpec.ofChange fnGameGetSpec)) fnGameGetCard

/-- THE SECOND FORM's CARD OF 'laws.FnGameGet'. -/
def fnGameGetUptoCard : Claim7 := { stood := { row := fnGameGetUptoRow, standIns := [], harness := (true, "0c4bc223b949f8364f28a03b47ad9751b0baeabd79e07dd4086a5f67899899f2"), looks := true }, kinds := [], alts := [], laidByText := true, laidKinds := [.data, .data, .data, .data, .sentinel, .sentinel, .pinned], laidTests := true, laidLooks := .later }
def FnGameGetUptoCardSaid : Prop := Claim7.holds Tryz.pinned (.plain (OpenSpec.upto fnGameGetSpec)) fnGameGetUptoCard
end Rows
end Go.Proofs.YtilldpoleiippaaGreatDoor
