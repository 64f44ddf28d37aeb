/-
  DERIVED. GIVEN WITH THE SEED: THE CARDS: each row of YtilldpoleiippaaDoorRows.lean that lists a variable, with what it lists TIED to the program's text (the seventh form; the later family's looks); each row that meets fmt, with fmt's text TOLD by the authors' own Lean function (tested against real Go, not proved from fmt's source: count such statements apart). THE CARD IS WHAT COUNTS. Prove the row's statement (the work); the ties are given (YtilldpoleiippaaDoorTie.lean); close each card by the builder's one call (the guide's Derived/Test/ToyasCard.lean, 'card_holds'). Laid BY PROGRAM, IN A SANDBOX (cutbox-door.mjs). By AI agents, Wed Nov 11 2026. No macro, syntax, notation, axiom, sorry.
-/
import Derived.Test.YtilldpoleiippaaDoorRows
import GoSem.ClaimSeven
namespace Go.Proofs.YtilldpoleiippaaDoor
namespace Rows

/-- THE TIED CARD OF 'laws.FnExactLedgerGet'. -/
def fnExactLedgerGetCard : Claim7 := { stood := { row := fnExactLedgerGetRow, standIns := [], harness := (true, "ac902b8e5e1cd178fe34a2ec0f9446ada89ba0588c5693855406839240b38492"), looks := true }, kinds := [], alts := [], laidByText := true, laidKinds := [.data, .data, .data, .data, .sentinel, .sentinel, .widerDeep, .pinned], laidTests := true, laidLooks := .later }
def FnExactLedgerGetCardSaid : Prop := Claim7.holds Tryd.pinned (.plain (OpenSpec.ofChange fnExactLedgerGetSpec)) fnExactLedgerGetCard

/-- THE TIED CARD OF 'laws.FnLedgerGet'. -/
def fnLedgerGetCard : Claim7 := { stood := { row := fnLedgerGetRow, standIns := [], harness := (true, "ac902b8e5e1cd178fe34a2ec0f9446ada89ba0588c5693855406839240b38492"), looks := true }, kinds := [], alts := [], laidByText := true, laidKinds := [.data, .data, .data, .data, .sentinel, .sentinel, .widerDeep, .pinned], laidTests := true, laidLooks := .later }
def FnLedgerGetCardSaid : Prop := Claim7.holds Tryd.pinned (.plain (OpenSpec.ofChange fnLedgerGetSpec)) fnLedgerGetCard

/-- THE TIED CARD OF 'laws.FnExactGamePut'. -/
def fnExactGamePutCard : Claim7 := { stood := { row := fnExactGamePutRow, standIns := [], harness := (true, "ac902b8e5e1cd178fe34a2ec0f9446ada89ba0588c5693855406839240b38492"), looks := true }, kinds := [], alts := [], laidByText := true, laidKinds := [.data, .data, .data], laidTests := true, laidLooks := .later }
def FnExactGamePutCardSaid : Prop := Claim7.holds Tryd.pinned (.plain (OpenSpec.ofChange fnExactGamePutSpec)) fnExactGamePutCard

/-- THE TIED CARD OF 'laws.FnExactReqGet'. -/
def fnExactReqGetCard : Claim7 := { stood := { row := fnExactReqGetRow, standIns := [], harness := (true, "ac902b8e5e1cd178fe34a2ec0f9446ada89ba0588c5693855406839240b38492"), looks := true }, kinds := [], alts := [], laidByText := true, laidKinds := [.data, .data, .data, .data, .sentinel, .sentinel, .widerDeep, .pinned], laidTests := true, laidLooks := .later }
def FnExactReqGetCardSaid : Prop := Claim7.holds Tryd.pinned (.plain (OpenSpec.ofChange fnExactReqGetSpec)) fnExactReqGetCard

/-- THE TIED CARD OF 'laws.FnReqPut'. -/
def fnReqPutCard : Claim7 := { stood := { row := fnReqPutRow, standIns := [], harness := (true, "ac902b8e5e1cd178fe34a2ec0f9446ada89ba0588c5693855406839240b38492"), looks := true }, kinds := [], alts := [], laidByText := true, laidKinds := [.data, .data, .data, .data, .sentinel, .sentinel, .widerDeep, .pinned], laidTests := true, laidLooks := .later }
def FnReqPutCardSaid : Prop := Claim7.holds Tryd.pinned (.plain (OpenSpec.ofChange fnReqPutSpec)) fnReqPutCard

/-- THE TIED CARD OF 'laws.FnReqGet'. -/
def fnReqGetCard : Claim7 := { stood := { row := fnReqGetRow, standIns := [], harness := (true, "ac902b8e5e1cd178fe34a2ec0f9446ada89ba0588c5693855406839240b38492"), looks := true }, kinds := [], alts := [], laidByText := true, laidKinds := [.data, .data, .data, .data, .sentinel, .sentinel, .widerDeep, .pinned], laidTests := true, laidLooks := .later }
def FnReqGetCardSaid : Prop := Claim7.holds Tryd.pinned (.plain (OpenSpec.ofChange fnReqGetSpec)) fnReqGetCard

/-- THE TIED CARD OF 'laws.FnExactGameGet'. -/
def fnExactGameGetCard : Claim7 := { stood := { row := fnExactGameGetRow, standIns := [], harness := (true, "ac902b8e5e1cd178fe34a2ec0f9446ada89ba0588c5693855406839240b38492"), looks := true }, kinds := [], alts := [], laidByText := true, laidKinds := [.data, .data, .data, .data, .sentinel, .sentinel, .pinned], laidTests := true, laidLooks := .later }
def FnExactGameGetCardSaid : Prop := Claim7.holds Tryd.pinned (.plain (OpenSpec.ofChange fnExactGameGetSpec)) fnExactGameGetCard

/-- THE TIED CARD OF 'laws.FnLedgerPut'. -/
def fnLedgerPutCard : Claim7 := { stood := { row := fnLedgerPutRow, standIns := [], harness := (true, "ac902b8e5e1cd178fe34a2ec0f9446ada89ba0588c5693855406839240b38492"), looks := true }, kinds := [], alts := [], laidByText := true, laidKinds := [.data, .data, .data, .data, .sentinel, .sentinel, .widerDeep, .pinned], laidTests := true, laidLooks := .later }
def FnLedgerPutCardSaid : Prop := Claim7.holds Tryd.pinned (.plain (OpenSpec.ofChange fnLedgerPutSpec)) fnLedgerPutCard

/-- THE TIED CARD OF 'laws.FnGamePut'. -/
def fnGamePutCard : Claim7 := { stood := { row := fnGamePutRow, standIns := [], harness := (true, "ac902b8e5e1cd178fe34a2ec0f9446ada89ba0588c5693855406839240b38492"), looks := true }, kinds := [], alts := [], laidByText := true, laidKinds := [.data, .data, .data, .data, .sentinel, .sentinel, .pinned], laidTests := true, laidLooks := .later }
def FnGamePutCardSaid : Prop := Claim7.holds Tryd.pinned (.plain (OpenSpec.ofChange fnGamePutSpec)) fnGamePutCard

/-- THE SECOND FORM's CARD OF 'laws.FnExactLedgerGet'. -/
def fnExactLedgerGetUptoCard : Claim7 := { stood := { row := fnExactLedgerGetUptoRow, standIns := [], harness := (true, "ac902b8e5e1cd178fe34a2ec0f9446ada89ba0588c5693855406839240b38492"), looks := true }, kinds := [], alts := [], laidByText := true, laidKinds := [.data, .data, .data, .data, .sentinel, .sentinel, .widerDeep, .pinned], laidTests := true, laidLooks := .later }
def FnExactLedgerGetUptoCardSaid : Prop := Claim7.holds Tryd.pinned (.plain (OpenSpec.upto fnExactLedgerGetSpec)) fnExactLedgerGetUptoCard

/-- THE SECOND FORM's CARD OF 'laws.FnLedgerGet'. -/
def fnLedgerGetUptoCard : Claim7 := { stood := { row := fnLedgerGetUptoRow, standIns := [], harness := (true, "ac902b8e5e1cd178fe34a2ec0f9446ada89ba0588c5693855406839240b38492"), looks := true }, kinds := [], alts := [], laidByText := true, laidKinds := [.data, .data, .data, .data, .sentinel, .sentinel, .widerDeep, .pinned], laidTests := true, laidLooks := .later }
def FnLedgerGetUptoCardSaid : Prop := Claim7.holds Tryd.pinned (.plain (OpenSpec.upto fnLedgerGetSpec)) fnLedgerGetUptoCard

/-- THE SECOND FORM's CARD OF 'laws.FnExactGamePut'. -/
def fnExactGamePutUptoCard : Claim7 := { stood := { row := fnExactGamePutUptoRow, standIns := [], harness := (true, "ac902b8e5e1cd178fe34a2ec0f9446ada89ba0588c5693855406839240b38492"), looks := true }, kinds := [], alts := [], laidByText := true, laidKinds := [.data, .data, .data], laidTests := true, laidLooks := .later }
def FnExactGamePutUptoCardSaid : Prop := Claim7.holds Tryd.pinned (.plain (OpenSpec.upto fnExactGamePutSpec)) fnExactGamePutUptoCard

/-- THE SECOND FORM's CARD OF 'laws.FnExactReqGet'. -/
def fnExactReqGetUptoCard : Claim7 := { stood := { row := fnExactReqGetUptoRow, standIns := [], harness := (true, "ac902b8e5e1cd178fe34a2ec0f9446ada89ba0588c5693855406839240b38492"), looks := true }, kinds := [], alts := [], laidByText := true, laidKinds := [.data, .data, .data, .data, .sentinel, .sentinel, .widerDeep, .pinned], laidTests := true, laidLooks := .later }
def FnExactReqGetUptoCardSaid : Prop := Claim7.holds Tryd.pinned (.plain (OpenSpec.upto fnExactReqGetSpec)) fnExactReqGetUptoCard

/-- THE SECOND FORM's CARD OF 'laws.FnReqPut'. -/
def fnReqPutUptoCard : Claim7 := { stood := { row := fnReqPutUptoRow, standIns := [], harness := (true, "ac902b8e5e1cd178fe34a2ec0f9446ada89ba0588c5693855406839240b38492"), looks := true }, kinds := [], alts := [], laidByText := true, laidKinds := [.data, .data, .data, .data, .sentinel, .sentinel, .widerDeep, .pinned], laidTests := true, laidLooks := .later }
def FnReqPutUptoCardSaid : Prop := Claim7.holds Tryd.pinned (.plain (OpenSpec.upto fnReqPutSpec)) fnReqPutUptoCard

/-- THE SECOND FORM's CARD OF 'laws.FnReqGet'. -/
def fnReqGetUptoCard : Claim7 := { stood := { row := fnReqGetUptoRow, standIns := [], harness := (true, "ac902b8e5e1cd178fe34a2ec0f9446ada89ba0588c5693855406839240b38492"), looks := true }, kinds := [], alts := [], laidByText := true, laidKinds := [.data, .data, .data, .data, .sentinel, .sentinel, .widerDeep, .pinned], laidTests := true, laidLooks := .later }
def FnReqGetUptoCardSaid : Prop := Claim7.holds Tryd.pinned (.plain (OpenSpec.upto fnReqGetSpec)) fnReqGetUptoCard

/-- THE SECOND FORM's CARD OF 'laws.FnExactGameGet'. -/
def fnExactGameGetUptoCard : Claim7 := { stood := { row := fnExactGameGetUptoRow, standIns := [], harness := (true, "ac902b8e5e1cd178fe34a2ec0f9446ada89ba0588c5693855406839240b38492"), looks := true }, kinds := [], alts := [], laidByText := true, laidKinds := [.data, .data, .data, .data, .sentinel, .sentinel, .pinned], laidTests := true, laidLooks := .later }
def FnExactGameGetUptoCardSaid : Prop := Claim7.holds Tryd.pinned (.plain (OpenSpec.upto fnExactGameGetSpec)) fnExactGameGetUptoCard

/-- THE SECOND FORM's CARD OF 'laws.FnLedgerPut'. -/
def fnLedgerPutUptoCard : Claim7 := { stood := { row := fnLedgerPutUptoRow, standIns := [], harness := (true, "ac902b8e5e1cd178fe34a2ec0f9446ada89ba0588c5693855406839240b38492"), looks := true }, kinds := [], alts := [], laidByText := true, laidKinds := [.data, .data, .data, .data, .sentinel, .sentinel, .widerDeep, .pinned], laidTests := true, laidLooks := .later }
def FnLedgerPutUptoCardSaid : Prop := Claim7.holds Tryd.pinned (.plain (OpenSpec.upto fnLedgerPutSpec)) fnLedgerPutUptoCard

/-- THE SECOND FORM's CARD OF 'laws.FnGamePut'. -/
def fnGamePutUptoCard : Claim7 := { stood := { row := fnGamePutUptoRow, standIns := [], harness := (true, "ac902b8e5e1cd178fe34a2ec0f9446ada89ba0588c5693855406839240b38492"), looks := true }, kinds := [], alts := [], laidByText := true, laidKinds := [.data, .data, .data, .data, .sentinel, .sentinel, .pinned], laidTests := true, laidLooks := .later }
def FnGamePutUptoCardSaid : Prop := Claim7.holds Tryd.pinned (.plain (OpenSpec.upto fnGamePutSpec)) fnGamePutUptoCard
end Rows
end Go.Proofs.YtilldpoleiippaaDoor
