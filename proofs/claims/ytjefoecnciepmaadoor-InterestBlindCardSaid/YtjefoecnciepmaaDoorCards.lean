/-
  DERIVED. GIVEN WITH THE SEED: THE CARDS: each row of YtjefoecnciepmaaDoorRows.lean that lists a variable, with what it lists TIED to the program's text (the seventh form; the later family's looks); each row that meets fmt, with fmt's text TOLD by the authors' own Lean function (tested against real Go, not proved from fmt's source: count such statements apart). THE CARD IS WHAT COUNTS. Prove the row's statement (the work); the ties are given (YtjefoecnciepmaaDoorTie.lean); close each card by the builder's one call (the guide's Derived/Test/ToyasCard.lean, 'card_holds'). Laid BY PROGRAM, IN A SANDBOX (cutbox-door.mjs). By AI agents, Wed Nov 11 2026. No macro, syntax, notation, axiom, sorry.
-/
import Derived.Test.YtjefoecnciepmaaDoorRows
import GoSem.ClaimSeven
namespace Go.Proofs.YtjefoecnciepmaaDoor
namespace Rows

/-- THE TIED CARD OF 'marcheslaw24.InterestBlind'. -/
def interestBlindCard : Claim7 := { stood := { row := interestBlindRow, standIns := [], harness := (true, "3a3ccb4bca6276954f2d0c3c7a329a48124410a7c56bfd100cf424aadeeec912"), looks := false }, kinds := [], alts := [], laidByText := true, laidKinds := [.data], laidTests := true, laidLooks := .later }
def InterestBlindCardSaid : Prop := Claim7.holds Tryd.pinned (.plain (OpenSpec.ofChange interestBlindSpec)) interestBlindCard

/-- THE TIED CARD OF 'marcheslaw24.InterestEach'. -/
def interestEachCard : Claim7 := { stood := { row := interestEachRow, standIns := [], harness := (true, "3a3ccb4bca6276954f2d0c3c7a329a48124410a7c56bfd100cf424aadeeec912"), looks := false }, kinds := [], alts := [], laidByText := true, laidKinds := [.data], laidTests := true, laidLooks := .later }
def InterestEachCardSaid : Prop := Claim7.holds Tryd.pinned (.plain (OpenSpec.ofChange interestEachSpec)) interestEachCard

/-- THE TIED CARD OF 'marcheslaw24.InterestParts'. -/
def interestPartsCard : Claim7 := { stood := { row := interestPartsRow, standIns := [], harness := (true, "3a3ccb4bca6276954f2d0c3c7a329a48124410a7c56bfd100cf424aadeeec912"), looks := false }, kinds := [], alts := [], laidByText := true, laidKinds := [.data], laidTests := true, laidLooks := .later }
def InterestPartsCardSaid : Prop := Claim7.holds Tryd.pinned (.plain (OpenSpec.ofChange interestPartsSpec)) interestPartsCard

/-- THE TIED CARD OF 'marcheslaw24.InterestMoves'. -/
def interestMovesCard : Claim7 := { stood := { row := interestMovesRow, standIns := [], harness := (true, "3a3ccb4bca6276954f2d0c3c7a329a48124410a7c56bfd100cf424aadeeec912"), looks := false }, kinds := [], alts := [], laidByText := true, laidKinds := [.data], laidTests := true, laidLooks := .later }
def InterestMovesCardSaid : Prop := Claim7.holds Tryd.pinned (.plain (OpenSpec.ofChange interestMovesSpec)) interestMovesCard

/-- THE TIED CARD OF 'marcheslaw24.InterestHides'. -/
def interestHidesCard : Claim7 := { stood := { row := interestHidesRow, standIns := [], harness := (true, "3a3ccb4bca6276954f2d0c3c7a329a48124410a7c56bfd100cf424aadeeec912"), looks := false }, kinds := [], alts := [], laidByText := true, laidKinds := [.data], laidTests := true, laidLooks := .later }
def InterestHidesCardSaid : Prop := Claim7.holds Tryd.pinned (.plain (OpenSpec.ofChange interestHidesSpec)) interestHidesCard

/-- THE TIED CARD OF 'marcheslaw24.InterestWrong'. -/
def interestWrongCard : Claim7 := { stood := { row := interestWrongRow, standIns := [], harness := (true, "3a3ccb4bca6276954f2d0c3c7a329a48124410a7c56bfd100cf424aadeeec912"), looks := false }, kinds := [], alts := [], laidByText := true, laidKinds := [.data], laidTests := true, laidLooks := .later }
def InterestWrongCardSaid : Prop := Claim7.holds Tryd.pinned (.plain (OpenSpec.ofChange interestWrongSpec)) interestWrongCard

/-- THE SECOND FORM's CARD OF 'marcheslaw24.InterestBlind'. -/
def interestBlindUptoCard : Claim7 := { stood := { row := interestBlindUptoRow, standIns := [], harness := (true, "3a3ccb4bca6276954f2d0c3c7a329a48124410a7c56bfd100cf424aadeeec912"), looks := false }, kinds := [], alts := [], laidByText := true, laidKinds := [.data], laidTests := true, laidLooks := .later }
def InterestBlindUptoCardSaid : Prop := Claim7.holds Tryd.pinned (.plain (OpenSpec.upto interestBlindSpec)) interestBlindUptoCard

/-- THE SECOND FORM's CARD OF 'marcheslaw24.InterestEach'. -/
def interestEachUptoCard : Claim7 := { stood := { row := interestEachUptoRow, standIns := [], harness := (true, "3a3ccb4bca6276954f2d0c3c7a329a48124410a7c56bfd100cf424aadeeec912"), looks := false }, kinds := [], alts := [], laidByText := true, laidKinds := [.data], laidTests := true, laidLooks := .later }
def InterestEachUptoCardSaid : Prop := Claim7.holds Tryd.pinned (.plain (OpenSpec.upto interestEachSpec)) interestEachUptoCard

/-- THE SECOND FORM's CARD OF 'marcheslaw24.InterestParts'. -/
def interestPartsUptoCard : Claim7 := { stood := { row := interestPartsUptoRow, standIns := [], harness := (true, "3a3ccb4bca6276954f2d0c3c7a329a48124410a7c56bfd100cf424aadeeec912"), looks := false }, kinds := [], alts := [], laidByText := true, laidKinds := [.data], laidTests := true, laidLooks := .later }
def InterestPartsUptoCardSaid : Prop := Claim7.holds Tryd.pinned (.plain (OpenSpec.upto interestPartsSpec)) interestPartsUptoCard

/-- THE SECOND FORM's CARD OF 'marcheslaw24.InterestMoves'. -/
def interestMovesUptoCard : Claim7 := { stood := { row := interestMovesUptoRow, standIns := [], harness := (true, "3a3ccb4bca6276954f2d0c3c7a329a48124410a7c56bfd100cf424aadeeec912"), looks := false }, kinds := [], alts := [], laidByText := true, laidKinds := [.data], laidTests := true, laidLooks := .later }
def InterestMovesUptoCardSaid : Prop := Claim7.holds Tryd.pinned (.plain (OpenSpec.upto interestMovesSpec)) interestMovesUptoCard

/-- THE SECOND FORM's CARD OF 'marcheslaw24.InterestHides'. -/
def interestHidesUptoCard : Claim7 := { stood := { row := interestHidesUptoRow, standIns := [], harness := (true, "3a3ccb4bca6276954f2d0c3c7a329a48124410a7c56bfd100cf424aadeeec912"), looks := false }, kinds := [], alts := [], laidByText := true, laidKinds := [.data], laidTests := true, laidLooks := .later }
def InterestHidesUptoCardSaid : Prop := Claim7.holds Tryd.pinned (.plain (OpenSpec.upto interestHidesSpec)) interestHidesUptoCard

/-- THE SECOND FORM's CARD OF 'marcheslaw24.InterestWrong'. -/
def interestWrongUptoCard : Claim7 := { stood := { row := interestWrongUptoRow, standIns := [], harness := (true, "3a3ccb4bca6276954f2d0c3c7a329a48124410a7c56bfd100cf424aadeeec912"), looks := false }, kinds := [], alts := [], laidByText := true, laidKinds := [.data], laidTests := true, laidLooks := .later }
def InterestWrongUptoCardSaid : Prop := Claim7.holds Tryd.pinned (.plain (OpenSpec.upto interestWrongSpec)) interestWrongUptoCard
end Rows
end Go.Proofs.YtjefoecnciepmaaDoor
