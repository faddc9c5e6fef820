/-
  DERIVED. GIVEN WITH THE SEED: THE CARDS: each row of YtjefoecnciepmaaGreatDoorRows.lean that lists a variable, with what it lists TIED to the program's text (the seventh form; the later family's looks); each row that meets fmt, with fmt's text TOLD by the authors' own Lean function (tested against real Go, not proved from fmt's source: count such statements apart). THE CARD IS WHAT COUNTS. Prove the row's statement (the work); the ties are given (YtjefoecnciepmaaGreatDoorTie.lean); close each card by the builder's one call (the guide's Derived/Test/ToyasCard.lean, 'card_holds'). Laid BY PROGRAM, IN A SANDBOX (cutbox-door.mjs). By AI agents, Wed Nov 11 2026. No macro, syntax, notation, axiom, sorry.
-/
import Derived.Test.YtjefoecnciepmaaGreatDoorRows
import GoSem.ClaimSeven
namespace Go.Proofs.YtjefoecnciepmaaGreatDoor
namespace Rows

/-- THE TIED CARD OF 'marcheslaw24.InterestTells'. -/
def interestTellsCard : Claim7 := { stood := { row := interestTellsRow, standIns := [], harness := (true, "0482b422069a9a34dbdb0c296f5b58092532491fc7c0a61cf399d3dba1acda25"), looks := false }, kinds := [], alts := [], laidByText := true, laidKinds := [.data], laidTests := true, laidLooks := .later }
def InterestTellsCardSaid : Prop := Claim7.holds Tryz.pinned (.plain (OpenSpec.ofChange interestTellsSpec)) interestTellsCard

/-- THE TIED CARD OF 'marcheslaw24.InterestSmall'. -/
def interestSmallCard : Claim7 := { stood := { row := interestSmallRow, standIns := [], harness := (true, "0482b422069a9a34dbdb0c296f5b58092532491fc7c0a61cf399d3dba1acda25"), looks := false }, kinds := [], alts := [], laidByText := true, laidKinds := [.data], laidTests := true, laidLooks := .later }
def InterestSmallCardSaid : Prop := Claim7.holds Tryz.pinned (.plain (OpenSpec.ofChange interestSmallSpec)) interestSmallCard

/-- THE SECOND FORM's CARD OF 'marcheslaw24.InterestTells'. -/
def interestTellsUptoCard : Claim7 := { stood := { row := interestTellsUptoRow, standIns := [], harness := (true, "0482b422069a9a34dbdb0c296f5b58092532491fc7c0a61cf399d3dba1acda25"), looks := false }, kinds := [], alts := [], laidByText := true, laidKinds := [.data], laidTests := true, laidLooks := .later }
def InterestTellsUptoCardSaid : Prop := Claim7.holds Tryz.pinned (.plain (OpenSpec.upto interestTellsSpec)) interestTellsUptoCard

/-- THE SECOND FORM's CARD OF 'marcheslaw24.InterestSmall'. -/
def interestSmallUptoCard : Claim7 := { stood := { row := interestSmallUptoRow, standIns := [], harness := (true, "0482b422069a9a34dbdb0c296f5b58092532491fc7c0a61cf399d3dba1acda25"), looks := false }, kinds := [], alts := [], laidByText := true, laidKinds := [.data], laidTests := true, laidLooks := .later }
def InterestSmallUptoCardSaid : Prop := Claim7.holds Tryz.pinned (.plain (OpenSpec.upto interestSmallSpec)) interestSmallUptoCard
end Rows
end Go.Proofs.YtjefoecnciepmaaGreatDoor
