/-
  DERIVED. GIVEN WITH THE SEED: THE CARDS: each row of YtfodpcpclmnbkaaDoorRows.lean that lists a variable, with what it lists TIED to the program's text (the seventh form; the later family's looks); each row that meets fmt, with fmt's text TOLD by the authors' own Lean function (tested against real Go, not proved from fmt's source: count such statements apart). THE CARD IS WHAT COUNTS. Prove the row's statement (the work); the ties are given (YtfodpcpclmnbkaaDoorTie.lean); close each card by the builder's one call (the guide's Derived/Test/ToyasCard.lean, 'card_holds'). Laid BY PROGRAM, IN A SANDBOX (cutbox-door.mjs). By AI agents, Wed Nov 11 2026. No macro, syntax, notation, axiom, sorry.
-/
import Derived.Test.YtfodpcpclmnbkaaDoorRows
import GoSem.ClaimSeven
namespace Go.Proofs.YtfodpcpclmnbkaaDoor
namespace Rows

/-- THE TIED CARD OF 'marcheslaw15.StoreNext'. -/
def storeNextCard : Claim7 := { stood := { row := storeNextRow, standIns := [], harness := (true, "8a15afc173f1ea55de7c9656fa84f281c03e27b1717f856d7856a3df3eea4ae7"), looks := false }, kinds := [], alts := [], laidByText := true, laidKinds := [.data], laidTests := true, laidLooks := .later }
def StoreNextCardSaid : Prop := Claim7.holds Tryd.pinned (.plain (OpenSpec.ofChange storeNextSpec)) storeNextCard

/-- THE TIED CARD OF 'marcheslaw15.StoreGets'. -/
def storeGetsCard : Claim7 := { stood := { row := storeGetsRow, standIns := [], harness := (true, "8a15afc173f1ea55de7c9656fa84f281c03e27b1717f856d7856a3df3eea4ae7"), looks := false }, kinds := [], alts := [], laidByText := true, laidKinds := [.data], laidTests := true, laidLooks := .later }
def StoreGetsCardSaid : Prop := Claim7.holds Tryd.pinned (.plain (OpenSpec.ofChange storeGetsSpec)) storeGetsCard

/-- THE TIED CARD OF 'marcheslaw15.StoreMasks'. -/
def storeMasksCard : Claim7 := { stood := { row := storeMasksRow, standIns := [], harness := (true, "8a15afc173f1ea55de7c9656fa84f281c03e27b1717f856d7856a3df3eea4ae7"), looks := false }, kinds := [], alts := [], laidByText := true, laidKinds := [.data], laidTests := true, laidLooks := .later }
def StoreMasksCardSaid : Prop := Claim7.holds Tryd.pinned (.plain (OpenSpec.ofChange storeMasksSpec)) storeMasksCard

/-- THE TIED CARD OF 'marcheslaw15.StoreTells'. -/
def storeTellsCard : Claim7 := { stood := { row := storeTellsRow, standIns := [], harness := (true, "8a15afc173f1ea55de7c9656fa84f281c03e27b1717f856d7856a3df3eea4ae7"), looks := false }, kinds := [], alts := [], laidByText := true, laidKinds := [.data], laidTests := true, laidLooks := .later }
def StoreTellsCardSaid : Prop := Claim7.holds Tryd.pinned (.plain (OpenSpec.ofChange storeTellsSpec)) storeTellsCard

/-- THE TIED CARD OF 'marcheslaw15.StoreChanges'. -/
def storeChangesCard : Claim7 := { stood := { row := storeChangesRow, standIns := [], harness := (true, "8a15afc173f1ea55de7c9656fa84f281c03e27b1717f856d7856a3df3eea4ae7"), looks := false }, kinds := [], alts := [], laidByText := true, laidKinds := [.data], laidTests := true, laidLooks := .later }
def StoreChangesCardSaid : Prop := Claim7.holds Tryd.pinned (.plain (OpenSpec.ofChange storeChangesSpec)) storeChangesCard

/-- THE TIED CARD OF 'marcheslaw15.StoreUndoes'. -/
def storeUndoesCard : Claim7 := { stood := { row := storeUndoesRow, standIns := [], harness := (true, "8a15afc173f1ea55de7c9656fa84f281c03e27b1717f856d7856a3df3eea4ae7"), looks := false }, kinds := [], alts := [], laidByText := true, laidKinds := [.data], laidTests := true, laidLooks := .later }
def StoreUndoesCardSaid : Prop := Claim7.holds Tryd.pinned (.plain (OpenSpec.ofChange storeUndoesSpec)) storeUndoesCard

/-- THE TIED CARD OF 'marcheslaw15.StoreWrong'. -/
def storeWrongCard : Claim7 := { stood := { row := storeWrongRow, standIns := [], harness := (true, "8a15afc173f1ea55de7c9656fa84f281c03e27b1717f856d7856a3df3eea4ae7"), looks := false }, kinds := [], alts := [], laidByText := true, laidKinds := [.data], laidTests := true, laidLooks := .later }
def StoreWrongCardSaid : Prop := Claim7.holds Tryd.pinned (.plain (OpenSpec.ofChange storeWrongSpec)) storeWrongCard

/-- THE SECOND FORM's CARD OF 'marcheslaw15.StoreNext'. -/
def storeNextUptoCard : Claim7 := { stood := { row := storeNextUptoRow, standIns := [], harness := (true, "8a15afc173f1ea55de7c9656fa84f281c03e27b1717f856d7856a3df3eea4ae7"), looks := false }, kinds := [], alts := [], laidByText := true, laidKinds := [.data], laidTests := true, laidLooks := .later }
def StoreNextUptoCardSaid : Prop := Claim7.holds Tryd.pinned (.plain (OpenSpec.upto storeNextSpec)) storeNextUptoCard

/-- THE SECOND FORM's CARD OF 'marcheslaw15.StoreGets'. -/
def storeGetsUptoCard : Claim7 := { stood := { row := storeGetsUptoRow, standIns := [], harness := (true, "8a15afc173f1ea55de7c9656fa84f281c03e27b1717f856d7856a3df3eea4ae7"), looks := false }, kinds := [], alts := [], laidByText := true, laidKinds := [.data], laidTests := true, laidLooks := .later }
def StoreGetsUptoCardSaid : Prop := Claim7.holds Tryd.pinned (.plain (OpenSpec.upto storeGetsSpec)) storeGetsUptoCard

/-- THE SECOND FORM's CARD OF 'marcheslaw15.StoreMasks'. -/
def storeMasksUptoCard : Claim7 := { stood := { row := storeMasksUptoRow, standIns := [], harness := (true, "8a15afc173f1ea55de7c9656fa84f281c03e27b1717f856d7856a3df3eea4ae7"), looks := false }, kinds := [], alts := [], laidByText := true, laidKinds := [.data], laidTests := true, laidLooks := .later }
def StoreMasksUptoCardSaid : Prop := Claim7.holds Tryd.pinned (.plain (OpenSpec.upto storeMasksSpec)) storeMasksUptoCard

/-- THE SECOND FORM's CARD OF 'marcheslaw15.StoreTells'. -/
def storeTellsUptoCard : Claim7 := { stood := { row := storeTellsUptoRow, standIns := [], harness := (true, "8a15afc173f1ea55de7c9656fa84f281c03e27b1717f856d7856a3df3eea4ae7"), looks := false }, kinds := [], alts := [], laidByText := true, laidKinds := [.data], laidTests := true, laidLooks := .later }
def StoreTellsUptoCardSaid : Prop := Claim7.holds Tryd.pinned (.plain (OpenSpec.upto storeTellsSpec)) storeTellsUptoCard

/-- THE SECOND FORM's CARD OF 'marcheslaw15.StoreChanges'. -/
def storeChangesUptoCard : Claim7 := { stood := { row := storeChangesUptoRow, standIns := [], harness := (true, "8a15afc173f1ea55de7c9656fa84f281c03e27b1717f856d7856a3df3eea4ae7"), looks := false }, kinds := [], alts := [], laidByText := true, laidKinds := [.data], laidTests := true, laidLooks := .later }
def StoreChangesUptoCardSaid : Prop := Claim7.holds Tryd.pinned (.plain (OpenSpec.upto storeChangesSpec)) storeChangesUptoCard

/-- THE SECOND FORM's CARD OF 'marcheslaw15.StoreUndoes'. -/
def storeUndoesUptoCard : Claim7 := { stood := { row := storeUndoesUptoRow, standIns := [], harness := (true, "8a15afc173f1ea55de7c9656fa84f281c03e27b1717f856d7856a3df3eea4ae7"), looks := false }, kinds := [], alts := [], laidByText := true, laidKinds := [.data], laidTests := true, laidLooks := .later }
def StoreUndoesUptoCardSaid : Prop := Claim7.holds Tryd.pinned (.plain (OpenSpec.upto storeUndoesSpec)) storeUndoesUptoCard

/-- THE SECOND FORM's CARD OF 'marcheslaw15.StoreWrong'. -/
def storeWrongUptoCard : Claim7 := { stood := { row := storeWrongUptoRow, standIns := [], harness := (true, "8a15afc173f1ea55de7c9656fa84f281c03e27b1717f856d7856a3df3eea4ae7"), looks := false }, kinds := [], alts := [], laidByText := true, laidKinds := [.data], laidTests := true, laidLooks := .later }
def StoreWrongUptoCardSaid : Prop := Claim7.holds Tryd.pinned (.plain (OpenSpec.upto storeWrongSpec)) storeWrongUptoCard
end Rows
end Go.Proofs.YtfodpcpclmnbkaaDoor
