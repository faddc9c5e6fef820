/-
  No cell of these rows narrows 'for every input' (looked for: loops, veiled, ifaces, maps, wideKeys, modest, calm, conditions, laid).
  DERIVED. THE GIVEN ROWS OF THIS SEAT. 9 by the template 'for every input the law returns true; each argument reads behind the call as it read before'; 0 by the template 'total and deterministic' (their statements: YtehjdbgijibmcaaTotals.lean).
  GIVEN WITH THE SEED: the statements are not yours to turn. If you find one false, say at which input.
  Laid BY PROGRAM, IN A SANDBOX (cutbox-rows.mjs): the forced cells as the released guide's own fill.sh prints them over the translation 4344843f8a902240… (all of the seat's roots in one cut). By AI agents, Wed Nov 11 2026. No macro, syntax, notation, axiom, sorry.
-/
import Derived.Test.YtehjdbgijibmcaaChecked
import GoSem.Claim
import GoSem.ClaimJoined
import GoSem.ClaimMapViews
import Derived.JoinedTies
import Derived.KernelRfl
namespace Go.Proofs.Ytehjdbgijibmcaa
/- THE CELL 'sum', in the pinned program and in every row, IS THE sha256 OF THE DUMP (.gsa) THAT YtehjdbgijibmcaaProg.lean LOADS. Nothing in Lean hashes anything: it is a label: what it is worth is what the hold of that sum in a sandbox is worth. -/
noncomputable def Try.pinned : Pinned := { name := "ytehjdbgijibmcaa", sum := "4344843f8a9022402626e199447b1e0c8aa83bfa5742bc01f86516645cc64b60", checked := Try.checked }
namespace Rows
def none {H : Type} : Left H := { results := [], args := [] }

/-- 'marcheslaw34.AuctionBest': WHATEVER THE INPUT: true; the input reads as it did. -/
def auctionBestSpec : ChangeSpec := { name := "auctionBest", fn := fun _ => fun
  | [d1, d2] => { results := [.lit (.bool true)], args := [d1, d2] }
  | _ => none }
def auctionBestRow : OpenClaim := { program := "ytehjdbgijibmcaa", sum := "4344843f8a9022402626e199447b1e0c8aa83bfa5742bc01f86516645cc64b60", func := "marches/marcheslaw34.AuctionBest", spec := "auctionBest", unfollowed := true, recurses := true, apart := false }
def AuctionBestSaid : Prop := auctionBestRow.holds Try.pinned (OpenSpec.ofChange auctionBestSpec)

/-- ITS FALSE NEIGHBOUR: 'it returns false'. Refute it at one input. -/
def auctionBestWrong : ChangeSpec := { name := "auctionBest", fn := fun _ => fun
  | [d1, d2] => { results := [.lit (.bool false)], args := [d1, d2] }
  | _ => none }
def AuctionBestWrongFalsely : Prop := auctionBestRow.holds Try.pinned (OpenSpec.ofChange auctionBestWrong)

/-- 'marcheslaw34.AuctionTime': WHATEVER THE INPUT: true; the input reads as it did. -/
def auctionTimeSpec : ChangeSpec := { name := "auctionTime", fn := fun _ => fun
  | [d1, d2, d3] => { results := [.lit (.bool true)], args := [d1, d2, d3] }
  | _ => none }
def auctionTimeRow : OpenClaim := { program := "ytehjdbgijibmcaa", sum := "4344843f8a9022402626e199447b1e0c8aa83bfa5742bc01f86516645cc64b60", func := "marches/marcheslaw34.AuctionTime", spec := "auctionTime", unfollowed := true, recurses := true, apart := false }
def AuctionTimeSaid : Prop := auctionTimeRow.holds Try.pinned (OpenSpec.ofChange auctionTimeSpec)

/-- ITS FALSE NEIGHBOUR: 'it returns false'. Refute it at one input. -/
def auctionTimeWrong : ChangeSpec := { name := "auctionTime", fn := fun _ => fun
  | [d1, d2, d3] => { results := [.lit (.bool false)], args := [d1, d2, d3] }
  | _ => none }
def AuctionTimeWrongFalsely : Prop := auctionTimeRow.holds Try.pinned (OpenSpec.ofChange auctionTimeWrong)

/-- 'marcheslaw34.AuctionOthers': WHATEVER THE INPUT: true; the input reads as it did. -/
def auctionOthersSpec : ChangeSpec := { name := "auctionOthers", fn := fun _ => fun
  | [d1, d2, d3, d4] => { results := [.lit (.bool true)], args := [d1, d2, d3, d4] }
  | _ => none }
def auctionOthersRow : OpenClaim := { program := "ytehjdbgijibmcaa", sum := "4344843f8a9022402626e199447b1e0c8aa83bfa5742bc01f86516645cc64b60", func := "marches/marcheslaw34.AuctionOthers", spec := "auctionOthers", unfollowed := true, recurses := true, apart := false }
def AuctionOthersSaid : Prop := auctionOthersRow.holds Try.pinned (OpenSpec.ofChange auctionOthersSpec)

/-- ITS FALSE NEIGHBOUR: 'it returns false'. Refute it at one input. -/
def auctionOthersWrong : ChangeSpec := { name := "auctionOthers", fn := fun _ => fun
  | [d1, d2, d3, d4] => { results := [.lit (.bool false)], args := [d1, d2, d3, d4] }
  | _ => none }
def AuctionOthersWrongFalsely : Prop := auctionOthersRow.holds Try.pinned (OpenSpec.ofChange auctionOthersWrong)

/-- 'marcheslaw34.AuctionNext': WHATEVER THE INPUT: true; the input reads as it did. -/
def auctionNextSpec : ChangeSpec := { name := "auctionNext", fn := fun _ => fun
  | [d] => { results := [.lit (.bool true)], args := [d] }
  | _ => none }
def auctionNextRow : OpenClaim := { program := "ytehjdbgijibmcaa", sum := "4344843f8a9022402626e199447b1e0c8aa83bfa5742bc01f86516645cc64b60", func := "marches/marcheslaw34.AuctionNext", spec := "auctionNext", unfollowed := true, recurses := true, apart := false }
def AuctionNextSaid : Prop := auctionNextRow.holds Try.pinned (OpenSpec.ofChange auctionNextSpec)

/-- ITS FALSE NEIGHBOUR: 'it returns false'. Refute it at one input. -/
def auctionNextWrong : ChangeSpec := { name := "auctionNext", fn := fun _ => fun
  | [d] => { results := [.lit (.bool false)], args := [d] }
  | _ => none }
def AuctionNextWrongFalsely : Prop := auctionNextRow.holds Try.pinned (OpenSpec.ofChange auctionNextWrong)

/-- 'marcheslaw34.AuctionTells': WHATEVER THE INPUT: true; the input reads as it did. -/
def auctionTellsSpec : ChangeSpec := { name := "auctionTells", fn := fun _ => fun
  | [d1, d2] => { results := [.lit (.bool true)], args := [d1, d2] }
  | _ => none }
def auctionTellsRow : OpenClaim := { program := "ytehjdbgijibmcaa", sum := "4344843f8a9022402626e199447b1e0c8aa83bfa5742bc01f86516645cc64b60", func := "marches/marcheslaw34.AuctionTells", spec := "auctionTells", unfollowed := true, recurses := true, apart := false }
def AuctionTellsSaid : Prop := auctionTellsRow.holds Try.pinned (OpenSpec.ofChange auctionTellsSpec)

/-- ITS FALSE NEIGHBOUR: 'it returns false'. Refute it at one input. -/
def auctionTellsWrong : ChangeSpec := { name := "auctionTells", fn := fun _ => fun
  | [d1, d2] => { results := [.lit (.bool false)], args := [d1, d2] }
  | _ => none }
def AuctionTellsWrongFalsely : Prop := auctionTellsRow.holds Try.pinned (OpenSpec.ofChange auctionTellsWrong)

/-- 'marcheslaw34.AuctionSmall': WHATEVER THE INPUT: true; the input reads as it did. -/
def auctionSmallSpec : ChangeSpec := { name := "auctionSmall", fn := fun _ => fun
  | [] => { results := [.lit (.bool true)], args := [] }
  | _ => none }
def auctionSmallRow : OpenClaim := { program := "ytehjdbgijibmcaa", sum := "4344843f8a9022402626e199447b1e0c8aa83bfa5742bc01f86516645cc64b60", func := "marches/marcheslaw34.AuctionSmall", spec := "auctionSmall", unfollowed := true, recurses := true, apart := false }
def AuctionSmallSaid : Prop := auctionSmallRow.holds Try.pinned (OpenSpec.ofChange auctionSmallSpec)

/-- ITS FALSE NEIGHBOUR: 'it returns false'. Refute it at one input. -/
def auctionSmallWrong : ChangeSpec := { name := "auctionSmall", fn := fun _ => fun
  | [] => { results := [.lit (.bool false)], args := [] }
  | _ => none }
def AuctionSmallWrongFalsely : Prop := auctionSmallRow.holds Try.pinned (OpenSpec.ofChange auctionSmallWrong)

/-- 'marcheslaw34.AuctionKept': WHATEVER THE INPUT: true; the input reads as it did. -/
def auctionKeptSpec : ChangeSpec := { name := "auctionKept", fn := fun _ => fun
  | [d1, d2] => { results := [.lit (.bool true)], args := [d1, d2] }
  | _ => none }
def auctionKeptRow : OpenClaim := { program := "ytehjdbgijibmcaa", sum := "4344843f8a9022402626e199447b1e0c8aa83bfa5742bc01f86516645cc64b60", func := "marches/marcheslaw34.AuctionKept", spec := "auctionKept", unfollowed := true, recurses := true, apart := false }
def AuctionKeptSaid : Prop := auctionKeptRow.holds Try.pinned (OpenSpec.ofChange auctionKeptSpec)

/-- ITS FALSE NEIGHBOUR: 'it returns false'. Refute it at one input. -/
def auctionKeptWrong : ChangeSpec := { name := "auctionKept", fn := fun _ => fun
  | [d1, d2] => { results := [.lit (.bool false)], args := [d1, d2] }
  | _ => none }
def AuctionKeptWrongFalsely : Prop := auctionKeptRow.holds Try.pinned (OpenSpec.ofChange auctionKeptWrong)

/-- 'marcheslaw34.AuctionCancel': WHATEVER THE INPUT: true; the input reads as it did. -/
def auctionCancelSpec : ChangeSpec := { name := "auctionCancel", fn := fun _ => fun
  | [d1, d2, d3] => { results := [.lit (.bool true)], args := [d1, d2, d3] }
  | _ => none }
def auctionCancelRow : OpenClaim := { program := "ytehjdbgijibmcaa", sum := "4344843f8a9022402626e199447b1e0c8aa83bfa5742bc01f86516645cc64b60", func := "marches/marcheslaw34.AuctionCancel", spec := "auctionCancel", unfollowed := true, recurses := true, apart := false }
def AuctionCancelSaid : Prop := auctionCancelRow.holds Try.pinned (OpenSpec.ofChange auctionCancelSpec)

/-- ITS FALSE NEIGHBOUR: 'it returns false'. Refute it at one input. -/
def auctionCancelWrong : ChangeSpec := { name := "auctionCancel", fn := fun _ => fun
  | [d1, d2, d3] => { results := [.lit (.bool false)], args := [d1, d2, d3] }
  | _ => none }
def AuctionCancelWrongFalsely : Prop := auctionCancelRow.holds Try.pinned (OpenSpec.ofChange auctionCancelWrong)

/-- 'marcheslaw34.AuctionWrong': WHATEVER THE INPUT: true; the input reads as it did. -/
def auctionWrongSpec : ChangeSpec := { name := "auctionWrong", fn := fun _ => fun
  | [d1, d2, d3] => { results := [.lit (.bool true)], args := [d1, d2, d3] }
  | _ => none }
def auctionWrongRow : OpenClaim := { program := "ytehjdbgijibmcaa", sum := "4344843f8a9022402626e199447b1e0c8aa83bfa5742bc01f86516645cc64b60", func := "marches/marcheslaw34.AuctionWrong", spec := "auctionWrong", unfollowed := true, recurses := true, apart := false }
def AuctionWrongSaid : Prop := auctionWrongRow.holds Try.pinned (OpenSpec.ofChange auctionWrongSpec)

/-- ITS FALSE NEIGHBOUR: 'it returns false'. Refute it at one input. -/
def auctionWrongWrong : ChangeSpec := { name := "auctionWrong", fn := fun _ => fun
  | [d1, d2, d3] => { results := [.lit (.bool false)], args := [d1, d2, d3] }
  | _ => none }
def AuctionWrongWrongFalsely : Prop := auctionWrongRow.holds Try.pinned (OpenSpec.ofChange auctionWrongWrong)

/- THE SECOND FORM. 'bulk': how many values and letters a reading holds, each counted each time it is reached (what is shared counts as often as it is met; a slice's spare places count too). A statement '..UptoSaid' is the law's where the arguments, and the package variables that the reading takes, are together of bulk at most 1048576: NARROWER than '..Said'. Prove '..Said' where nothing that the law and all that it calls make is longer than what came in: it says more and counts as full. Else prove '..UptoSaid'. A law counts once. -/
mutual
def uptoBulk {H : Type} : DataW H → Nat
  | .lit (.string bytes) => bytes.length + 1
  | .lit _ => 1
  | .nil => 1
  | .ptr d => uptoBulk d + 1
  | .slice elems spare => uptoBulkAll elems + uptoBulkAll spare + 1
  | .agg parts => uptoBulkAll parts + 1
  | .iface _ d => uptoBulk d + 1
  | .map entries => uptoBulkEntries entries + 1
  | .held _ => 1
def uptoBulkAll {H : Type} : List (DataW H) → Nat
  | [] => 0
  | d :: r => uptoBulk d + uptoBulkAll r
def uptoBulkEntries {H : Type} : List (Lit × DataW H) → Nat
  | [] => 0
  | x :: r => uptoBulkEntry x + uptoBulkEntries r
def uptoBulkEntry {H : Type} : Lit × DataW H → Nat
  | (.string bytes, d) => bytes.length + uptoBulk d + 1
  | (_, d) => uptoBulk d + 1
 end
def uptoSmall : (H : Type) → List (DataW H) → Bool := fun _ ds => decide (uptoBulkAll ds ≤ 1048576)
def OpenSpec.upto (s : _root_.Go.ChangeSpec) : _root_.Go.OpenSpec := { _root_.Go.OpenSpec.ofChange s with cond := some uptoSmall }

/-- 'marcheslaw34.AuctionBest', WHERE WHAT IT READS IS OF BULK AT MOST 1048576: true; the input reads as it did. -/
def auctionBestUptoRow : OpenClaim := { program := "ytehjdbgijibmcaa", sum := "4344843f8a9022402626e199447b1e0c8aa83bfa5742bc01f86516645cc64b60", func := "marches/marcheslaw34.AuctionBest", spec := "auctionBest", unfollowed := true, recurses := true, apart := false, narrowed := true }
def AuctionBestUptoSaid : Prop := auctionBestUptoRow.holds Try.pinned (OpenSpec.upto auctionBestSpec)

/-- 'marcheslaw34.AuctionTime', WHERE WHAT IT READS IS OF BULK AT MOST 1048576: true; the input reads as it did. -/
def auctionTimeUptoRow : OpenClaim := { program := "ytehjdbgijibmcaa", sum := "4344843f8a9022402626e199447b1e0c8aa83bfa5742bc01f86516645cc64b60", func := "marches/marcheslaw34.AuctionTime", spec := "auctionTime", unfollowed := true, recurses := true, apart := false, narrowed := true }
def AuctionTimeUptoSaid : Prop := auctionTimeUptoRow.holds Try.pinned (OpenSpec.upto auctionTimeSpec)

/-- 'marcheslaw34.AuctionOthers', WHERE WHAT IT READS IS OF BULK AT MOST 1048576: true; the input reads as it did. -/
def auctionOthersUptoRow : OpenClaim := { program := "ytehjdbgijibmcaa", sum := "4344843f8a9022402626e199447b1e0c8aa83bfa5742bc01f86516645cc64b60", func := "marches/marcheslaw34.AuctionOthers", spec := "auctionOthers", unfollowed := true, recurses := true, apart := false, narrowed := true }
def AuctionOthersUptoSaid : Prop := auctionOthersUptoRow.holds Try.pinned (OpenSpec.upto auctionOthersSpec)

/-- 'marcheslaw34.AuctionNext', WHERE WHAT IT READS IS OF BULK AT MOST 1048576: true; the input reads as it did. -/
def auctionNextUptoRow : OpenClaim := { program := "ytehjdbgijibmcaa", sum := "4344843f8a9022402626e199447b1e0c8aa83bfa5742bc01f86516645cc64b60", func := "marches/marcheslaw34.AuctionNext", spec := "auctionNext", unfollowed := true, recurses := true, apart := false, narrowed := true }
def AuctionNextUptoSaid : Prop := auctionNextUptoRow.holds Try.pinned (OpenSpec.upto auctionNextSpec)

/-- 'marcheslaw34.AuctionTells', WHERE WHAT IT READS IS OF BULK AT MOST 1048576: true; the input reads as it did. -/
def auctionTellsUptoRow : OpenClaim := { program := "ytehjdbgijibmcaa", sum := "4344843f8a9022402626e199447b1e0c8aa83bfa5742bc01f86516645cc64b60", func := "marches/marcheslaw34.AuctionTells", spec := "auctionTells", unfollowed := true, recurses := true, apart := false, narrowed := true }
def AuctionTellsUptoSaid : Prop := auctionTellsUptoRow.holds Try.pinned (OpenSpec.upto auctionTellsSpec)

/-- 'marcheslaw34.AuctionSmall', WHERE WHAT IT READS IS OF BULK AT MOST 1048576: true; the input reads as it did. -/
def auctionSmallUptoRow : OpenClaim := { program := "ytehjdbgijibmcaa", sum := "4344843f8a9022402626e199447b1e0c8aa83bfa5742bc01f86516645cc64b60", func := "marches/marcheslaw34.AuctionSmall", spec := "auctionSmall", unfollowed := true, recurses := true, apart := false, narrowed := true }
def AuctionSmallUptoSaid : Prop := auctionSmallUptoRow.holds Try.pinned (OpenSpec.upto auctionSmallSpec)

/-- 'marcheslaw34.AuctionKept', WHERE WHAT IT READS IS OF BULK AT MOST 1048576: true; the input reads as it did. -/
def auctionKeptUptoRow : OpenClaim := { program := "ytehjdbgijibmcaa", sum := "4344843f8a9022402626e199447b1e0c8aa83bfa5742bc01f86516645cc64b60", func := "marches/marcheslaw34.AuctionKept", spec := "auctionKept", unfollowed := true, recurses := true, apart := false, narrowed := true }
def AuctionKeptUptoSaid : Prop := auctionKeptUptoRow.holds Try.pinned (OpenSpec.upto auctionKeptSpec)

/-- 'marcheslaw34.AuctionCancel', WHERE WHAT IT READS IS OF BULK AT MOST 1048576: true; the input reads as it did. -/
def auctionCancelUptoRow : OpenClaim := { program := "ytehjdbgijibmcaa", sum := "4344843f8a9022402626e199447b1e0c8aa83bfa5742bc01f86516645cc64b60", func := "marches/marcheslaw34.AuctionCancel", spec := "auctionCancel", unfollowed := true, recurses := true, apart := false, narrowed := true }
def AuctionCancelUptoSaid : Prop := auctionCancelUptoRow.holds Try.pinned (OpenSpec.upto auctionCancelSpec)

/-- 'marcheslaw34.AuctionWrong', WHERE WHAT IT READS IS OF BULK AT MOST 1048576: true; the input reads as it did. -/
def auctionWrongUptoRow : OpenClaim := { program := "ytehjdbgijibmcaa", sum := "4344843f8a9022402626e199447b1e0c8aa83bfa5742bc01f86516645cc64b60", func := "marches/marcheslaw34.AuctionWrong", spec := "auctionWrong", unfollowed := true, recurses := true, apart := false, narrowed := true }
def AuctionWrongUptoSaid : Prop := auctionWrongUptoRow.holds Try.pinned (OpenSpec.upto auctionWrongSpec)

end Rows
end Go.Proofs.Ytehjdbgijibmcaa
