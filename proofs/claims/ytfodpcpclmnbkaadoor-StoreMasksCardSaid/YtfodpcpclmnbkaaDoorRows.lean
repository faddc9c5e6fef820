/-
  NARROWER THAN 'FOR EVERY INPUT', by the rows' own cells (each row's printed sentence says how): StoreNext: laid · StoreGets: laid · StoreMasks: laid · StoreTells: laid · StoreChanges: laid · StoreUndoes: laid · StoreWrong: laid.
  DERIVED. THE GIVEN ROWS OF THIS SEAT. 7 by the template 'for every input the law returns true; each argument reads behind the call as it read before'; 0 by the template 'total and deterministic' (their statements: YtfodpcpclmnbkaaDoorTotals.lean).
  GIVEN WITH THE SEED: the statements are not yours to turn. If you find one false, say at which input.
  Laid BY PROGRAM, IN A SANDBOX (cutbox-rows.mjs): the forced cells as the released guide's own fill.sh prints them over the translation 53aa2d783bb43252… (all of the seat's roots in one cut). By AI agents, Wed Nov 11 2026. No macro, syntax, notation, axiom, sorry.
-/
import Derived.Test.YtfodpcpclmnbkaaDoorChecked
import GoSem.Claim
import GoSem.ClaimJoined
import GoSem.ClaimMapViews
import Derived.JoinedTies
import Derived.KernelRfl
namespace Go.Proofs.YtfodpcpclmnbkaaDoor
/- THE CELL 'sum', in the pinned program and in every row, IS THE sha256 OF THE DUMP (.gsa) THAT YtfodpcpclmnbkaaDoorProg.lean LOADS. Nothing in Lean hashes anything: it is a label: what it is worth is what the hold of that sum in a sandbox is worth. -/
noncomputable def Tryd.pinned : Pinned := { name := "ytfodpcpclmnbkaadoor", sum := "53aa2d783bb4325288575b23bddef218b8b8f2333a61cc6877d3217446dc66b1", checked := Tryd.checked }
namespace Rows
def none {H : Type} : Left H := { results := [], args := [] }

/- WHAT THE LISTED PACKAGE-LEVEL VARIABLES READ AS WHEN THE CALL BEGINS. Each datum BY PROGRAM (the guide's laid-datum.mjs) off the statement by which the dump's own 'gosem.cut.vars' lays the variable. In a bare row this is a premise. The card (YtfodpcpclmnbkaaDoorCards.lean) ties it to the program's text. -/
def laid_marches_store_ranges {H : Type} : DataW H := .agg [.agg [.agg [.lit (.int .i64 0), .lit (.int .i64 0)], .agg [.lit (.int .i64 0), .lit (.int .i64 0)], .agg [.lit (.int .i64 0), .lit (.int .i64 0)], .agg [.lit (.int .i64 0), .lit (.int .i64 0)]], .agg [.agg [.lit (.int .i64 (-1048576)), .lit (.int .i64 1048576)], .agg [.lit (.int .i64 (-1048576)), .lit (.int .i64 1048576)], .agg [.lit (.int .i64 0), .lit (.int .i64 0)], .agg [.lit (.int .i64 0), .lit (.int .i64 0)]], .agg [.agg [.lit (.int .i64 (-4096)), .lit (.int .i64 4096)], .agg [.lit (.int .i64 (-4096)), .lit (.int .i64 4096)], .agg [.lit (.int .i64 0), .lit (.int .i64 0)], .agg [.lit (.int .i64 0), .lit (.int .i64 0)]], .agg [.agg [.lit (.int .i64 1), .lit (.int .i64 16384)], .agg [.lit (.int .i64 1), .lit (.int .i64 16384)], .agg [.lit (.int .i64 0), .lit (.int .i64 1)], .agg [.lit (.int .i64 0), .lit (.int .i64 1)]], .agg [.agg [.lit (.int .i64 1), .lit (.int .i64 8)], .agg [.lit (.int .i64 0), .lit (.int .i64 0)], .agg [.lit (.int .i64 0), .lit (.int .i64 0)], .agg [.lit (.int .i64 0), .lit (.int .i64 0)]], .agg [.agg [.lit (.int .i64 0), .lit (.int .i64 510)], .agg [.lit (.int .i64 0), .lit (.int .i64 0)], .agg [.lit (.int .i64 0), .lit (.int .i64 0)], .agg [.lit (.int .i64 0), .lit (.int .i64 0)]], .agg [.agg [.lit (.int .i64 0), .lit (.int .i64 15)], .agg [.lit (.int .i64 0), .lit (.int .i64 0)], .agg [.lit (.int .i64 0), .lit (.int .i64 0)], .agg [.lit (.int .i64 0), .lit (.int .i64 0)]], .agg [.agg [.lit (.int .i64 (-2147483648)), .lit (.int .i64 2147483647)], .agg [.lit (.int .i64 (-2147483648)), .lit (.int .i64 2147483647)], .agg [.lit (.int .i64 (-2147483648)), .lit (.int .i64 2147483647)], .agg [.lit (.int .i64 (-2147483648)), .lit (.int .i64 2147483647)]], .agg [.agg [.lit (.int .i64 0), .lit (.int .i64 1048576)], .agg [.lit (.int .i64 0), .lit (.int .i64 1048576)], .agg [.lit (.int .i64 0), .lit (.int .i64 0)], .agg [.lit (.int .i64 0), .lit (.int .i64 0)]], .agg [.agg [.lit (.int .i64 0), .lit (.int .i64 2147483647)], .agg [.lit (.int .i64 0), .lit (.int .i64 2147483647)], .agg [.lit (.int .i64 0), .lit (.int .i64 2147483647)], .agg [.lit (.int .i64 0), .lit (.int .i64 2147483647)]], .agg [.agg [.lit (.int .i64 (-2147483648)), .lit (.int .i64 2147483647)], .agg [.lit (.int .i64 (-2147483648)), .lit (.int .i64 2147483647)], .agg [.lit (.int .i64 (-2147483648)), .lit (.int .i64 2147483647)], .agg [.lit (.int .i64 (-2147483648)), .lit (.int .i64 2147483647)]]]

/-- 'marcheslaw15.StoreNext': WHATEVER THE INPUT: true; the input reads as it did. -/
def storeNextSpec : ChangeSpec := { name := "storeNext", fn := fun _ => fun
  | [d1, d2] => { results := [.lit (.bool true)], args := [d1, d2] }
  | _ => none }
def storeNextRow : OpenClaim := { program := "ytfodpcpclmnbkaadoor", sum := "53aa2d783bb4325288575b23bddef218b8b8f2333a61cc6877d3217446dc66b1", func := "marches/marcheslaw15.StoreNext", spec := "storeNext", inPlace := ["slices.overlaps[marches/api.Entity]", "slices.overlaps[marches/api.Comp]"], unfollowed := true, recurses := true, named := ["marches/store.ranges"], apart := false, laid := [("marches/store.ranges", laid_marches_store_ranges)] }
def StoreNextSaid : Prop := storeNextRow.holds Tryd.pinned (OpenSpec.ofChange storeNextSpec)

/-- ITS FALSE NEIGHBOUR: 'it returns false'. Refute it at one input. -/
def storeNextWrong : ChangeSpec := { name := "storeNext", fn := fun _ => fun
  | [d1, d2] => { results := [.lit (.bool false)], args := [d1, d2] }
  | _ => none }
def StoreNextWrongFalsely : Prop := storeNextRow.holds Tryd.pinned (OpenSpec.ofChange storeNextWrong)

/-- 'marcheslaw15.StoreGets': WHATEVER THE INPUT: true; the input reads as it did. -/
def storeGetsSpec : ChangeSpec := { name := "storeGets", fn := fun _ => fun
  | [d1, d2, d3, d4] => { results := [.lit (.bool true)], args := [d1, d2, d3, d4] }
  | _ => none }
def storeGetsRow : OpenClaim := { program := "ytfodpcpclmnbkaadoor", sum := "53aa2d783bb4325288575b23bddef218b8b8f2333a61cc6877d3217446dc66b1", func := "marches/marcheslaw15.StoreGets", spec := "storeGets", inPlace := ["slices.overlaps[marches/api.Comp]", "slices.overlaps[marches/api.Entity]"], unfollowed := true, recurses := true, named := ["marches/store.ranges"], apart := false, laid := [("marches/store.ranges", laid_marches_store_ranges)] }
def StoreGetsSaid : Prop := storeGetsRow.holds Tryd.pinned (OpenSpec.ofChange storeGetsSpec)

/-- ITS FALSE NEIGHBOUR: 'it returns false'. Refute it at one input. -/
def storeGetsWrong : ChangeSpec := { name := "storeGets", fn := fun _ => fun
  | [d1, d2, d3, d4] => { results := [.lit (.bool false)], args := [d1, d2, d3, d4] }
  | _ => none }
def StoreGetsWrongFalsely : Prop := storeGetsRow.holds Tryd.pinned (OpenSpec.ofChange storeGetsWrong)

/-- 'marcheslaw15.StoreMasks': WHATEVER THE INPUT: true; the input reads as it did. -/
def storeMasksSpec : ChangeSpec := { name := "storeMasks", fn := fun _ => fun
  | [d1, d2, d3] => { results := [.lit (.bool true)], args := [d1, d2, d3] }
  | _ => none }
def storeMasksRow : OpenClaim := { program := "ytfodpcpclmnbkaadoor", sum := "53aa2d783bb4325288575b23bddef218b8b8f2333a61cc6877d3217446dc66b1", func := "marches/marcheslaw15.StoreMasks", spec := "storeMasks", inPlace := ["slices.overlaps[marches/api.Comp]", "slices.overlaps[marches/api.Entity]"], unfollowed := true, recurses := true, named := ["marches/store.ranges"], apart := false, laid := [("marches/store.ranges", laid_marches_store_ranges)] }
def StoreMasksSaid : Prop := storeMasksRow.holds Tryd.pinned (OpenSpec.ofChange storeMasksSpec)

/-- ITS FALSE NEIGHBOUR: 'it returns false'. Refute it at one input. -/
def storeMasksWrong : ChangeSpec := { name := "storeMasks", fn := fun _ => fun
  | [d1, d2, d3] => { results := [.lit (.bool false)], args := [d1, d2, d3] }
  | _ => none }
def StoreMasksWrongFalsely : Prop := storeMasksRow.holds Tryd.pinned (OpenSpec.ofChange storeMasksWrong)

/-- 'marcheslaw15.StoreTells': WHATEVER THE INPUT: true; the input reads as it did. -/
def storeTellsSpec : ChangeSpec := { name := "storeTells", fn := fun _ => fun
  | [d1, d2, d3, d4, d5, d6] => { results := [.lit (.bool true)], args := [d1, d2, d3, d4, d5, d6] }
  | _ => none }
def storeTellsRow : OpenClaim := { program := "ytfodpcpclmnbkaadoor", sum := "53aa2d783bb4325288575b23bddef218b8b8f2333a61cc6877d3217446dc66b1", func := "marches/marcheslaw15.StoreTells", spec := "storeTells", inPlace := ["slices.overlaps[marches/api.Comp]", "slices.overlaps[marches/api.Entity]"], unfollowed := true, recurses := true, named := ["marches/store.ranges"], apart := false, laid := [("marches/store.ranges", laid_marches_store_ranges)] }
def StoreTellsSaid : Prop := storeTellsRow.holds Tryd.pinned (OpenSpec.ofChange storeTellsSpec)

/-- ITS FALSE NEIGHBOUR: 'it returns false'. Refute it at one input. -/
def storeTellsWrong : ChangeSpec := { name := "storeTells", fn := fun _ => fun
  | [d1, d2, d3, d4, d5, d6] => { results := [.lit (.bool false)], args := [d1, d2, d3, d4, d5, d6] }
  | _ => none }
def StoreTellsWrongFalsely : Prop := storeTellsRow.holds Tryd.pinned (OpenSpec.ofChange storeTellsWrong)

/-- 'marcheslaw15.StoreChanges': WHATEVER THE INPUT: true; the input reads as it did. -/
def storeChangesSpec : ChangeSpec := { name := "storeChanges", fn := fun _ => fun
  | [d1, d2, d3, d4, d5] => { results := [.lit (.bool true)], args := [d1, d2, d3, d4, d5] }
  | _ => none }
def storeChangesRow : OpenClaim := { program := "ytfodpcpclmnbkaadoor", sum := "53aa2d783bb4325288575b23bddef218b8b8f2333a61cc6877d3217446dc66b1", func := "marches/marcheslaw15.StoreChanges", spec := "storeChanges", inPlace := ["slices.overlaps[marches/api.Comp]", "slices.overlaps[marches/api.Entity]"], unfollowed := true, recurses := true, named := ["marches/store.ranges"], apart := false, laid := [("marches/store.ranges", laid_marches_store_ranges)] }
def StoreChangesSaid : Prop := storeChangesRow.holds Tryd.pinned (OpenSpec.ofChange storeChangesSpec)

/-- ITS FALSE NEIGHBOUR: 'it returns false'. Refute it at one input. -/
def storeChangesWrong : ChangeSpec := { name := "storeChanges", fn := fun _ => fun
  | [d1, d2, d3, d4, d5] => { results := [.lit (.bool false)], args := [d1, d2, d3, d4, d5] }
  | _ => none }
def StoreChangesWrongFalsely : Prop := storeChangesRow.holds Tryd.pinned (OpenSpec.ofChange storeChangesWrong)

/-- 'marcheslaw15.StoreUndoes': WHATEVER THE INPUT: true; the input reads as it did. -/
def storeUndoesSpec : ChangeSpec := { name := "storeUndoes", fn := fun _ => fun
  | [d1, d2, d3, d4] => { results := [.lit (.bool true)], args := [d1, d2, d3, d4] }
  | _ => none }
def storeUndoesRow : OpenClaim := { program := "ytfodpcpclmnbkaadoor", sum := "53aa2d783bb4325288575b23bddef218b8b8f2333a61cc6877d3217446dc66b1", func := "marches/marcheslaw15.StoreUndoes", spec := "storeUndoes", inPlace := ["slices.overlaps[marches/api.Comp]", "slices.overlaps[marches/api.Entity]"], unfollowed := true, recurses := true, named := ["marches/store.ranges"], apart := false, laid := [("marches/store.ranges", laid_marches_store_ranges)] }
def StoreUndoesSaid : Prop := storeUndoesRow.holds Tryd.pinned (OpenSpec.ofChange storeUndoesSpec)

/-- ITS FALSE NEIGHBOUR: 'it returns false'. Refute it at one input. -/
def storeUndoesWrong : ChangeSpec := { name := "storeUndoes", fn := fun _ => fun
  | [d1, d2, d3, d4] => { results := [.lit (.bool false)], args := [d1, d2, d3, d4] }
  | _ => none }
def StoreUndoesWrongFalsely : Prop := storeUndoesRow.holds Tryd.pinned (OpenSpec.ofChange storeUndoesWrong)

/-- 'marcheslaw15.StoreWrong': WHATEVER THE INPUT: true; the input reads as it did. -/
def storeWrongSpec : ChangeSpec := { name := "storeWrong", fn := fun _ => fun
  | [d1, d2] => { results := [.lit (.bool true)], args := [d1, d2] }
  | _ => none }
def storeWrongRow : OpenClaim := { program := "ytfodpcpclmnbkaadoor", sum := "53aa2d783bb4325288575b23bddef218b8b8f2333a61cc6877d3217446dc66b1", func := "marches/marcheslaw15.StoreWrong", spec := "storeWrong", inPlace := ["slices.overlaps[marches/api.Comp]", "slices.overlaps[marches/api.Entity]"], unfollowed := true, recurses := true, named := ["marches/store.ranges"], apart := false, laid := [("marches/store.ranges", laid_marches_store_ranges)] }
def StoreWrongSaid : Prop := storeWrongRow.holds Tryd.pinned (OpenSpec.ofChange storeWrongSpec)

/-- ITS FALSE NEIGHBOUR: 'it returns false'. Refute it at one input. -/
def storeWrongWrong : ChangeSpec := { name := "storeWrong", fn := fun _ => fun
  | [d1, d2] => { results := [.lit (.bool false)], args := [d1, d2] }
  | _ => none }
def StoreWrongWrongFalsely : Prop := storeWrongRow.holds Tryd.pinned (OpenSpec.ofChange storeWrongWrong)

/- THE SECOND FORM. 'bulk': how many values and letters a reading holds, each counted each time it is reached (what is shared counts as often as it is met; a slice's spare places count too). A statement '..UptoSaid' is the law's where the arguments, and the package variables that the reading takes, are together of bulk at most 1048576: NARROWER than '..Said'. Prove '..Said' where nothing that the law and all that it calls make is longer than what came in: it says more and counts as full. Else prove '..UptoSaid'. A law counts once. -/
mutual
def uptoBulk {H : Type} : DataW H → Nat
  | .lit (.string bytes) => bytes.length + 1
  | .lit _ => 1
  | .nil => 1
  | .ptr d => uptoBulk d + 1
  | .slice elems spare => uptoBulkAll elems + uptoBulkAll spare + 1
  | .agg parts => uptoBulkAll parts + 1
  | .iface _ d => uptoBulk d + 1
  | .map entries => uptoBulkEntries entries + 1
  | .held _ => 1
def uptoBulkAll {H : Type} : List (DataW H) → Nat
  | [] => 0
  | d :: r => uptoBulk d + uptoBulkAll r
def uptoBulkEntries {H : Type} : List (Lit × DataW H) → Nat
  | [] => 0
  | x :: r => uptoBulkEntry x + uptoBulkEntries r
def uptoBulkEntry {H : Type} : Lit × DataW H → Nat
  | (.string bytes, d) => bytes.length + uptoBulk d + 1
  | (_, d) => uptoBulk d + 1
 end
def uptoSmall : (H : Type) → List (DataW H) → Bool := fun _ ds => decide (uptoBulkAll ds ≤ 1048576)
def OpenSpec.upto (s : _root_.Go.ChangeSpec) : _root_.Go.OpenSpec := { _root_.Go.OpenSpec.ofChange s with cond := some uptoSmall }

/-- 'marcheslaw15.StoreNext', WHERE WHAT IT READS IS OF BULK AT MOST 1048576: true; the input reads as it did. -/
def storeNextUptoRow : OpenClaim := { program := "ytfodpcpclmnbkaadoor", sum := "53aa2d783bb4325288575b23bddef218b8b8f2333a61cc6877d3217446dc66b1", func := "marches/marcheslaw15.StoreNext", spec := "storeNext", inPlace := ["slices.overlaps[marches/api.Entity]", "slices.overlaps[marches/api.Comp]"], unfollowed := true, recurses := true, named := ["marches/store.ranges"], apart := false, laid := [("marches/store.ranges", laid_marches_store_ranges)], narrowed := true }
def StoreNextUptoSaid : Prop := storeNextUptoRow.holds Tryd.pinned (OpenSpec.upto storeNextSpec)

/-- 'marcheslaw15.StoreGets', WHERE WHAT IT READS IS OF BULK AT MOST 1048576: true; the input reads as it did. -/
def storeGetsUptoRow : OpenClaim := { program := "ytfodpcpclmnbkaadoor", sum := "53aa2d783bb4325288575b23bddef218b8b8f2333a61cc6877d3217446dc66b1", func := "marches/marcheslaw15.StoreGets", spec := "storeGets", inPlace := ["slices.overlaps[marches/api.Comp]", "slices.overlaps[marches/api.Entity]"], unfollowed := true, recurses := true, named := ["marches/store.ranges"], apart := false, laid := [("marches/store.ranges", laid_marches_store_ranges)], narrowed := true }
def StoreGetsUptoSaid : Prop := storeGetsUptoRow.holds Tryd.pinned (OpenSpec.upto storeGetsSpec)

/-- 'marcheslaw15.StoreMasks', WHERE WHAT IT READS IS OF BULK AT MOST 1048576: true; the input reads as it did. -/
def storeMasksUptoRow : OpenClaim := { program := "ytfodpcpclmnbkaadoor", sum := "53aa2d783bb4325288575b23bddef218b8b8f2333a61cc6877d3217446dc66b1", func := "marches/marcheslaw15.StoreMasks", spec := "storeMasks", inPlace := ["slices.overlaps[marches/api.Comp]", "slices.overlaps[marches/api.Entity]"], unfollowed := true, recurses := true, named := ["marches/store.ranges"], apart := false, laid := [("marches/store.ranges", laid_marches_store_ranges)], narrowed := true }
def StoreMasksUptoSaid : Prop := storeMasksUptoRow.holds Tryd.pinned (OpenSpec.upto storeMasksSpec)

/-- 'marcheslaw15.StoreTells', WHERE WHAT IT READS IS OF BULK AT MOST 1048576: true; the input reads as it did. -/
def storeTellsUptoRow : OpenClaim := { program := "ytfodpcpclmnbkaadoor", sum := "53aa2d783bb4325288575b23bddef218b8b8f2333a61cc6877d3217446dc66b1", func := "marches/marcheslaw15.StoreTells", spec := "storeTells", inPlace := ["slices.overlaps[marches/api.Comp]", "slices.overlaps[marches/api.Entity]"], unfollowed := true, recurses := true, named := ["marches/store.ranges"], apart := false, laid := [("marches/store.ranges", laid_marches_store_ranges)], narrowed := true }
def StoreTellsUptoSaid : Prop := storeTellsUptoRow.holds Tryd.pinned (OpenSpec.upto storeTellsSpec)

/-- 'marcheslaw15.StoreChanges', WHERE WHAT IT READS IS OF BULK AT MOST 1048576: true; the input reads as it did. -/
def storeChangesUptoRow : OpenClaim := { program := "ytfodpcpclmnbkaadoor", sum := "53aa2d783bb4325288575b23bddef218b8b8f2333a61cc6877d3217446dc66b1", func := "marches/marcheslaw15.StoreChanges", spec := "storeChanges", inPlace := ["slices.overlaps[marches/api.Comp]", "slices.overlaps[marches/api.Entity]"], unfollowed := true, recurses := true, named := ["marches/store.ranges"], apart := false, laid := [("marches/store.ranges", laid_marches_store_ranges)], narrowed := true }
def StoreChangesUptoSaid : Prop := storeChangesUptoRow.holds Tryd.pinned (OpenSpec.upto storeChangesSpec)

/-- 'marcheslaw15.StoreUndoes', WHERE WHAT IT READS IS OF BULK AT MOST 1048576: true; the input reads as it did. -/
def storeUndoesUptoRow : OpenClaim := { program := "ytfodpcpclmnbkaadoor", sum := "53aa2d783bb4325288575b23bddef218b8b8f2333a61cc6877d3217446dc66b1", func := "marches/marcheslaw15.StoreUndoes", spec := "storeUndoes", inPlace := ["slices.overlaps[marches/api.Comp]", "slices.overlaps[marches/api.Entity]"], unfollowed := true, recurses := true, named := ["marches/store.ranges"], apart := false, laid := [("marches/store.ranges", laid_marches_store_ranges)], narrowed := true }
def StoreUndoesUptoSaid : Prop := storeUndoesUptoRow.holds Tryd.pinned (OpenSpec.upto storeUndoesSpec)

/-- 'marcheslaw15.StoreWrong', WHERE WHAT IT READS IS OF BULK AT MOST 1048576: true; the input reads as it did. -/
def storeWrongUptoRow : OpenClaim := { program := "ytfodpcpclmnbkaadoor", sum := "53aa2d783bb4325288575b23bddef218b8b8f2333a61cc6877d3217446dc66b1", func := "marches/marcheslaw15.StoreWrong", spec := "storeWrong", inPlace := ["slices.overlaps[marches/api.Comp]", "slices.overlaps[marches/api.Entity]"], unfollowed := true, recurses := true, named := ["marches/store.ranges"], apart := false, laid := [("marches/store.ranges", laid_marches_store_ranges)], narrowed := true }
def StoreWrongUptoSaid : Prop := storeWrongUptoRow.holds Tryd.pinned (OpenSpec.upto storeWrongSpec)

end Rows
end Go.Proofs.YtfodpcpclmnbkaaDoor
