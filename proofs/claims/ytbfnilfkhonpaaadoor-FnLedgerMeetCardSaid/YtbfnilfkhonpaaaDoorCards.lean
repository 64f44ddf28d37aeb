/-
  DERIVED. GIVEN WITH THE SEED: THE CARDS: each row of YtbfnilfkhonpaaaDoorRows.lean that lists a variable, with what it lists TIED to the program's text (the seventh form; the later family's looks); each row that meets fmt, with fmt's text TOLD by the authors' own Lean function (tested against real Go, not proved from fmt's source: count such statements apart). THE CARD IS WHAT COUNTS. Prove the row's statement (the work); the ties are given (YtbfnilfkhonpaaaDoorTie.lean); close each card by the builder's one call (the guide's Derived/Test/ToyasCard.lean, 'card_holds'). Laid BY PROGRAM, IN A SANDBOX (cutbox-door.mjs). By AI agents, Wed Nov 11 2026. No macro, syntax, notation, axiom, sorry.
-/
import Derived.Test.YtbfnilfkhonpaaaDoorRows
import GoSem.ClaimSeven
namespace Go.Proofs.YtbfnilfkhonpaaaDoor
namespace Rows

/-- THE TIED CARD OF 'laws.FnExactLedgerGet'. -/
def fnExactLedgerGetCard : Claim7 := { stood := { row := fnExactLedgerGetRow, standIns := [], harness := (true, "26b90478468a8982576aaa0bb504069e3f51fb21cb1e4fcbfb3f861f9dc5d5a7"), looks := true }, kinds := [], alts := [], laidByText := true, laidKinds := [.data, .data, .data, .data, .sentinel, .sentinel, .widerDeep, .pinned], laidTests := true, laidLooks := .later }
def FnExactLedgerGetCardSaid : Prop := Claim7.holds Tryd.pinned (.plain (OpenSpec.ofChange fnExactLedgerGetSpec)) fnExactLedgerGetCard

/-- THE TIED CARD OF 'laws.FnLedgerGet'. -/
def fnLedgerGetCard : Claim7 := { stood := { row := fnLedgerGetRow, standIns := [], harness := (true, "26b90478468a8982576aaa0bb504069e3f51fb21cb1e4fcbfb3f861f9dc5d5a7"), looks := true }, kinds := [], alts := [], laidByText := true, laidKinds := [.data, .data, .data, .data, .sentinel, .sentinel, .widerDeep, .pinned], laidTests := true, laidLooks := .later }
def FnLedgerGetCardSaid : Prop := Claim7.holds Tryd.pinned (.plain (OpenSpec.ofChange fnLedgerGetSpec)) fnLedgerGetCard

/-- THE TIED CARD OF 'laws.FnExactLedgerFar'. -/
def fnExactLedgerFarCard : Claim7 := { stood := { row := fnExactLedgerFarRow, standIns := [], harness := (true, "26b90478468a8982576aaa0bb504069e3f51fb21cb1e4fcbfb3f861f9dc5d5a7"), looks := true }, kinds := [], alts := [], laidByText := true, laidKinds := [.data, .data, .data, .widerDeep], laidTests := true, laidLooks := .later }
def FnExactLedgerFarCardSaid : Prop := Claim7.holds Tryd.pinned (.plain (OpenSpec.ofChange fnExactLedgerFarSpec)) fnExactLedgerFarCard

/-- THE TIED CARD OF 'laws.FnExactLedgerMeet'. -/
def fnExactLedgerMeetCard : Claim7 := { stood := { row := fnExactLedgerMeetRow, standIns := [], harness := (true, "26b90478468a8982576aaa0bb504069e3f51fb21cb1e4fcbfb3f861f9dc5d5a7"), looks := true }, kinds := [], alts := [], laidByText := true, laidKinds := [.data, .data, .data, .widerDeep], laidTests := true, laidLooks := .later }
def FnExactLedgerMeetCardSaid : Prop := Claim7.holds Tryd.pinned (.plain (OpenSpec.ofChange fnExactLedgerMeetSpec)) fnExactLedgerMeetCard

/-- THE TIED CARD OF 'laws.FnExactLedgerPut'. -/
def fnExactLedgerPutCard : Claim7 := { stood := { row := fnExactLedgerPutRow, standIns := [], harness := (true, "26b90478468a8982576aaa0bb504069e3f51fb21cb1e4fcbfb3f861f9dc5d5a7"), looks := true }, kinds := [], alts := [], laidByText := true, laidKinds := [.data, .data, .data, .widerDeep], laidTests := true, laidLooks := .later }
def FnExactLedgerPutCardSaid : Prop := Claim7.holds Tryd.pinned (.plain (OpenSpec.ofChange fnExactLedgerPutSpec)) fnExactLedgerPutCard

/-- THE TIED CARD OF 'laws.FnLedgerMeet'. -/
def fnLedgerMeetCard : Claim7 := { stood := { row := fnLedgerMeetRow, standIns := [], harness := (true, "26b90478468a8982576aaa0bb504069e3f51fb21cb1e4fcbfb3f861f9dc5d5a7"), looks := true }, kinds := [], alts := [], laidByText := true, laidKinds := [.data, .data, .data, .widerDeep], laidTests := true, laidLooks := .later }
def FnLedgerMeetCardSaid : Prop := Claim7.holds Tryd.pinned (.plain (OpenSpec.ofChange fnLedgerMeetSpec)) fnLedgerMeetCard

/-- THE TIED CARD OF 'laws.FnLedgerFar'. -/
def fnLedgerFarCard : Claim7 := { stood := { row := fnLedgerFarRow, standIns := [], harness := (true, "26b90478468a8982576aaa0bb504069e3f51fb21cb1e4fcbfb3f861f9dc5d5a7"), looks := true }, kinds := [], alts := [], laidByText := true, laidKinds := [.data, .data, .data, .widerDeep], laidTests := true, laidLooks := .later }
def FnLedgerFarCardSaid : Prop := Claim7.holds Tryd.pinned (.plain (OpenSpec.ofChange fnLedgerFarSpec)) fnLedgerFarCard

/-- THE TIED CARD OF 'laws.FnLedgerOf'. -/
def fnLedgerOfCard : Claim7 := { stood := { row := fnLedgerOfRow, standIns := [], harness := (true, "26b90478468a8982576aaa0bb504069e3f51fb21cb1e4fcbfb3f861f9dc5d5a7"), looks := true }, kinds := [], alts := [], laidByText := true, laidKinds := [.data, .data, .data, .widerDeep], laidTests := true, laidLooks := .later }
def FnLedgerOfCardSaid : Prop := Claim7.holds Tryd.pinned (.plain (OpenSpec.ofChange fnLedgerOfSpec)) fnLedgerOfCard

/-- THE TIED CARD OF 'laws.FnExactLedgerAdd'. -/
def fnExactLedgerAddCard : Claim7 := { stood := { row := fnExactLedgerAddRow, standIns := [], harness := (true, "26b90478468a8982576aaa0bb504069e3f51fb21cb1e4fcbfb3f861f9dc5d5a7"), looks := true }, kinds := [], alts := [], laidByText := true, laidKinds := [.data, .data, .data, .widerDeep], laidTests := true, laidLooks := .later }
def FnExactLedgerAddCardSaid : Prop := Claim7.holds Tryd.pinned (.plain (OpenSpec.ofChange fnExactLedgerAddSpec)) fnExactLedgerAddCard

/-- THE TIED CARD OF 'laws.FnLedgerAdd'. -/
def fnLedgerAddCard : Claim7 := { stood := { row := fnLedgerAddRow, standIns := [], harness := (true, "26b90478468a8982576aaa0bb504069e3f51fb21cb1e4fcbfb3f861f9dc5d5a7"), looks := true }, kinds := [], alts := [], laidByText := true, laidKinds := [.data, .data, .data, .widerDeep], laidTests := true, laidLooks := .later }
def FnLedgerAddCardSaid : Prop := Claim7.holds Tryd.pinned (.plain (OpenSpec.ofChange fnLedgerAddSpec)) fnLedgerAddCard

/-- THE TIED CARD OF 'laws.FnExactLedgerOf'. -/
def fnExactLedgerOfCard : Claim7 := { stood := { row := fnExactLedgerOfRow, standIns := [], harness := (true, "26b90478468a8982576aaa0bb504069e3f51fb21cb1e4fcbfb3f861f9dc5d5a7"), looks := true }, kinds := [], alts := [], laidByText := true, laidKinds := [.data, .data, .data, .widerDeep], laidTests := true, laidLooks := .later }
def FnExactLedgerOfCardSaid : Prop := Claim7.holds Tryd.pinned (.plain (OpenSpec.ofChange fnExactLedgerOfSpec)) fnExactLedgerOfCard

/-- THE TIED CARD OF 'laws.FnLedgerPut'. -/
def fnLedgerPutCard : Claim7 := { stood := { row := fnLedgerPutRow, standIns := [], harness := (true, "26b90478468a8982576aaa0bb504069e3f51fb21cb1e4fcbfb3f861f9dc5d5a7"), looks := true }, kinds := [], alts := [], laidByText := true, laidKinds := [.data, .data, .data, .data, .sentinel, .sentinel, .widerDeep, .pinned], laidTests := true, laidLooks := .later }
def FnLedgerPutCardSaid : Prop := Claim7.holds Tryd.pinned (.plain (OpenSpec.ofChange fnLedgerPutSpec)) fnLedgerPutCard

/-- THE SECOND FORM's CARD OF 'laws.FnExactLedgerGet'. -/
def fnExactLedgerGetUptoCard : Claim7 := { stood := { row := fnExactLedgerGetUptoRow, standIns := [], harness := (true, "26b90478468a8982576aaa0bb504069e3f51fb21cb1e4fcbfb3f861f9dc5d5a7"), looks := true }, kinds := [], alts := [], laidByText := true, laidKinds := [.data, .data, .data, .data, .sentinel, .sentinel, .widerDeep, .pinned], laidTests := true, laidLooks := .later }
def FnExactLedgerGetUptoCardSaid : Prop := Claim7.holds Tryd.pinned (.plain (OpenSpec.upto fnExactLedgerGetSpec)) fnExactLedgerGetUptoCard

/-- THE SECOND FORM's CARD OF 'laws.FnLedgerGet'. -/
def fnLedgerGetUptoCard : Claim7 := { stood := { row := fnLedgerGetUptoRow, standIns := [], harness := (true, "26b90478468a8982576aaa0bb504069e3f51fb21cb1e4fcbfb3f861f9dc5d5a7"), looks := true }, kinds := [], alts := [], laidByText := true, laidKinds := [.data, .data, .data, .data, .sentinel, .sentinel, .widerDeep, .pinned], laidTests := true, laidLooks := .later }
def FnLedgerGetUptoCardSaid : Prop := Claim7.holds Tryd.pinned (.plain (OpenSpec.upto fnLedgerGetSpec)) fnLedgerGetUptoCard

/-- THE SECOND FORM's CARD OF 'laws.FnExactLedgerFar'. -/
def fnExactLedgerFarUptoCard : Claim7 := { stood := { row := fnExactLedgerFarUptoRow, standIns := [], harness := (true, "26b90478468a8982576aaa0bb504069e3f51fb21cb1e4fcbfb3f861f9dc5d5a7"), looks := true }, kinds := [], alts := [], laidByText := true, laidKinds := [.data, .data, .data, .widerDeep], laidTests := true, laidLooks := .later }
def FnExactLedgerFarUptoCardSaid : Prop := Claim7.holds Tryd.pinned (.plain (OpenSpec.upto fnExactLedgerFarSpec)) fnExactLedgerFarUptoCard

/-- THE SECOND FORM's CARD OF 'laws.FnExactLedgerMeet'. -/
def fnExactLedgerMeetUptoCard : Claim7 := { stood := { row := fnExactLedgerMeetUptoRow, standIns := [], harness := (true, "26b90478468a8982576aaa0bb504069e3f51fb21cb1e4fcbfb3f861f9dc5d5a7"), looks := true }, kinds := [], alts := [], laidByText := true, laidKinds := [.data, .data, .data, .widerDeep], laidTests := true, laidLooks := .later }
def FnExactLedgerMeetUptoCardSaid : Prop := Claim7.holds Tryd.pinned (.plain (OpenSpec.upto fnExactLedgerMeetSpec)) fnExactLedgerMeetUptoCard

/-- THE SECOND FORM's CARD OF 'laws.FnExactLedgerPut'. -/
def fnExactLedgerPutUptoCard : Claim7 := { stood := { row := fnExactLedgerPutUptoRow, standIns := [], harness := (true, "26b90478468a8982576aaa0bb504069e3f51fb21cb1e4fcbfb3f861f9dc5d5a7"), looks := true }, kinds := [], alts := [], laidByText := true, laidKinds := [.data, .data, .data, .widerDeep], laidTests := true, laidLooks := .later }
def FnExactLedgerPutUptoCardSaid : Prop := Claim7.holds Tryd.pinned (.plain (OpenSpec.upto fnExactLedgerPutSpec)) fnExactLedgerPutUptoCard

/-- THE SECOND FORM's CARD OF 'laws.FnLedgerMeet'. -/
def fnLedgerMeetUptoCard : Claim7 := { stood := { row := fnLedgerMeetUptoRow, standIns := [], harness := (true, "26b90478468a8982576aaa0bb504069e3f51fb21cb1e4fcbfb3f861f9dc5d5a7"), looks := true }, kinds := [], alts := [], laidByText := true, laidKinds := [.data, .data, .data, .widerDeep], laidTests := true, laidLooks := .later }
def FnLedgerMeetUptoCardSaid : Prop := Claim7.holds Tryd.pinned (.plain (OpenSpec.upto fnLedgerMeetSpec)) fnLedgerMeetUptoCard

/-- THE SECOND FORM's CARD OF 'laws.FnLedgerFar'. -/
def fnLedgerFarUptoCard : Claim7 := { stood := { row := fnLedgerFarUptoRow, standIns := [], harness := (true, "26b90478468a8982576aaa0bb504069e3f51fb21cb1e4fcbfb3f861f9dc5d5a7"), looks := true }, kinds := [], alts := [], laidByText := true, laidKinds := [.data, .data, .data, .widerDeep], laidTests := true, laidLooks := .later }
def FnLedgerFarUptoCardSaid : Prop := Claim7.holds Tryd.pinned (.plain (OpenSpec.upto fnLedgerFarSpec)) fnLedgerFarUptoCard

/-- THE SECOND FORM's CARD OF 'laws.FnLedgerOf'. -/
def fnLedgerOfUptoCard : Claim7 := { stood := { row := fnLedgerOfUptoRow, standIns := [], harness := (true, "26b90478468a8982576aaa0bb504069e3f51fb21cb1e4fcbfb3f861f9dc5d5a7"), looks := true }, kinds := [], alts := [], laidByText := true, laidKinds := [.data, .data, .data, .widerDeep], laidTests := true, laidLooks := .later }
def FnLedgerOfUptoCardSaid : Prop := Claim7.holds Tryd.pinned (.plain (OpenSpec.upto fnLedgerOfSpec)) fnLedgerOfUptoCard

/-- THE SECOND FORM's CARD OF 'laws.FnExactLedgerAdd'. -/
def fnExactLedgerAddUptoCard : Claim7 := { stood := { row := fnExactLedgerAddUptoRow, standIns := [], harness := (true, "26b90478468a8982576aaa0bb504069e3f51fb21cb1e4fcbfb3f861f9dc5d5a7"), looks := true }, kinds := [], alts := [], laidByText := true, laidKinds := [.data, .data, .data, .widerDeep], laidTests := true, laidLooks := .later }
def FnExactLedgerAddUptoCardSaid : Prop := Claim7.holds Tryd.pinned (.plain (OpenSpec.upto fnExactLedgerAddSpec)) fnExactLedgerAddUptoCard

/-- THE SECOND FORM's CARD OF 'laws.FnLedgerAdd'. -/
def fnLedgerAddUptoCard : Claim7 := { stood := { row := fnLedgerAddUptoRow, standIns := [], harness := (true, "26b90478468a8982576aaa0bb504069e3f51fb21cb1e4fcbfb3f861f9dc5d5a7"), looks := true }, kinds := [], alts := [], laidByText := true, laidKinds := [.data, .data, .data, .widerDeep], laidTests := true, laidLooks := .later }
def FnLedgerAddUptoCardSaid : Prop := Claim7.holds Tryd.pinned (.plain (OpenSpec.upto fnLedgerAddSpec)) fnLedgerAddUptoCard

/-- THE SECOND FORM's CARD OF 'laws.FnExactLedgerOf'. -/
def fnExactLedgerOfUptoCard : Claim7 := { stood := { row := fnExactLedgerOfUptoRow, standIns := [], harness := (true, "26b90478468a8982576aaa0bb504069e3f51fb21cb1e4fcbfb3f861f9dc5d5a7"), looks := true }, kinds := [], alts := [], laidByText := true, laidKinds := [.data, .data, .data, .widerDeep], laidTests := true, laidLooks := .later }
def FnExactLedgerOfUptoCardSaid : Prop := Claim7.holds Tryd.pinned (.plain (OpenSpec.upto fnExactLedgerOfSpec)) fnExactLedgerOfUptoCard

/-- THE SECOND FORM's CARD OF 'laws.FnLedgerPut'. -/
def fnLedgerPutUptoCard : Claim7 := { stood := { row := fnLedgerPutUptoRow, standIns := [], harness := (true, "26b90478468a8982576aaa0bb504069e3f51fb21cb1e4fcbfb3f861f9dc5d5a7"), looks := true }, kinds := [], alts := [], laidByText := true, laidKinds := [.data, .data, .data, .data, .sentinel, .sentinel, .widerDeep, .pinned], laidTests := true, laidLooks := .later }
def FnLedgerPutUptoCardSaid : Prop := Claim7.holds Tryd.pinned (.plain (OpenSpec.upto fnLedgerPutSpec)) fnLedgerPutUptoCard
end Rows
end Go.Proofs.YtbfnilfkhonpaaaDoor
