/-
  NARROWER THAN 'FOR EVERY INPUT', by the rows' own cells (each row's printed sentence says how): InterestTells: laid · InterestSmall: laid.
  DERIVED. THE GIVEN ROWS OF THIS SEAT. 2 by the template 'for every input the law returns true; each argument reads behind the call as it read before'; 0 by the template 'total and deterministic' (their statements: YtjefoecnciepmaaGreatDoorTotals.lean).
  GIVEN WITH THE SEED: the statements are not yours to turn. If you find one false, say at which input.
  Laid BY PROGRAM, IN A SANDBOX (cutbox-rows.mjs): the forced cells as the released guide's own fill.sh prints them over the translation 59ef3e68d9597d9d… (all of the seat's roots in one cut). By AI agents, Wed Nov 11 2026. No macro, syntax, notation, axiom, sorry.
-/
import Derived.Test.YtjefoecnciepmaaGreatDoorChecked
import GoSem.Claim
import GoSem.ClaimJoined
import GoSem.ClaimMapViews
import Derived.JoinedTies
import Derived.KernelRfl
namespace Go.Proofs.YtjefoecnciepmaaGreatDoor
/- THE CELL 'sum', in the pinned program and in every row, IS THE sha256 OF THE DUMP (.gsa) THAT YtjefoecnciepmaaGreatDoorProg.lean LOADS. Nothing in Lean hashes anything: it is a label: what it is worth is what the hold of that sum in a sandbox is worth. -/
noncomputable def Tryz.pinned : Pinned := { name := "ytjefoecnciepmaagreatdoor", sum := "59ef3e68d9597d9d986b05acf5ac9d747803afba52897f50624cbc651f88f564", checked := Tryz.checked }
namespace Rows
def none {H : Type} : Left H := { results := [], args := [] }

/- WHAT THE LISTED PACKAGE-LEVEL VARIABLES READ AS WHEN THE CALL BEGINS. Each datum BY PROGRAM (the guide's laid-datum.mjs) off the statement by which the dump's own 'gosem.cut.vars' lays the variable. In a bare row this is a premise. The card (YtjefoecnciepmaaGreatDoorCards.lean) ties it to the program's text. -/
def laid_marches_store_ranges {H : Type} : DataW H := .agg [.agg [.agg [.lit (.int .i64 0), .lit (.int .i64 0)], .agg [.lit (.int .i64 0), .lit (.int .i64 0)], .agg [.lit (.int .i64 0), .lit (.int .i64 0)], .agg [.lit (.int .i64 0), .lit (.int .i64 0)]], .agg [.agg [.lit (.int .i64 (-1048576)), .lit (.int .i64 1048576)], .agg [.lit (.int .i64 (-1048576)), .lit (.int .i64 1048576)], .agg [.lit (.int .i64 0), .lit (.int .i64 0)], .agg [.lit (.int .i64 0), .lit (.int .i64 0)]], .agg [.agg [.lit (.int .i64 (-4096)), .lit (.int .i64 4096)], .agg [.lit (.int .i64 (-4096)), .lit (.int .i64 4096)], .agg [.lit (.int .i64 0), .lit (.int .i64 0)], .agg [.lit (.int .i64 0), .lit (.int .i64 0)]], .agg [.agg [.lit (.int .i64 1), .lit (.int .i64 16384)], .agg [.lit (.int .i64 1), .lit (.int .i64 16384)], .agg [.lit (.int .i64 0), .lit (.int .i64 1)], .agg [.lit (.int .i64 0), .lit (.int .i64 1)]], .agg [.agg [.lit (.int .i64 1), .lit (.int .i64 8)], .agg [.lit (.int .i64 0), .lit (.int .i64 0)], .agg [.lit (.int .i64 0), .lit (.int .i64 0)], .agg [.lit (.int .i64 0), .lit (.int .i64 0)]], .agg [.agg [.lit (.int .i64 0), .lit (.int .i64 510)], .agg [.lit (.int .i64 0), .lit (.int .i64 0)], .agg [.lit (.int .i64 0), .lit (.int .i64 0)], .agg [.lit (.int .i64 0), .lit (.int .i64 0)]], .agg [.agg [.lit (.int .i64 0), .lit (.int .i64 15)], .agg [.lit (.int .i64 0), .lit (.int .i64 0)], .agg [.lit (.int .i64 0), .lit (.int .i64 0)], .agg [.lit (.int .i64 0), .lit (.int .i64 0)]], .agg [.agg [.lit (.int .i64 (-2147483648)), .lit (.int .i64 2147483647)], .agg [.lit (.int .i64 (-2147483648)), .lit (.int .i64 2147483647)], .agg [.lit (.int .i64 (-2147483648)), .lit (.int .i64 2147483647)], .agg [.lit (.int .i64 (-2147483648)), .lit (.int .i64 2147483647)]], .agg [.agg [.lit (.int .i64 0), .lit (.int .i64 1048576)], .agg [.lit (.int .i64 0), .lit (.int .i64 1048576)], .agg [.lit (.int .i64 0), .lit (.int .i64 0)], .agg [.lit (.int .i64 0), .lit (.int .i64 0)]], .agg [.agg [.lit (.int .i64 0), .lit (.int .i64 2147483647)], .agg [.lit (.int .i64 0), .lit (.int .i64 2147483647)], .agg [.lit (.int .i64 0), .lit (.int .i64 2147483647)], .agg [.lit (.int .i64 0), .lit (.int .i64 2147483647)]], .agg [.agg [.lit (.int .i64 (-2147483648)), .lit (.int .i64 2147483647)], .agg [.lit (.int .i64 (-2147483648)), .lit (.int .i64 2147483647)], .agg [.lit (.int .i64 (-2147483648)), .lit (.int .i64 2147483647)], .agg [.lit (.int .i64 (-2147483648)), .lit (.int .i64 2147483647)]]]

/-- 'marcheslaw24.InterestTells': WHATEVER THE INPUT: true; the input reads as it did. -/
def interestTellsSpec : ChangeSpec := { name := "interestTells", fn := fun _ => fun
  | [d1, d2, d3] => { results := [.lit (.bool true)], args := [d1, d2, d3] }
  | _ => none }
def interestTellsRow : OpenClaim := { program := "ytjefoecnciepmaagreatdoor", sum := "59ef3e68d9597d9d986b05acf5ac9d747803afba52897f50624cbc651f88f564", func := "marches/marcheslaw24.InterestTells", spec := "interestTells", unfollowed := true, recurses := true, named := ["marches/store.ranges"], apart := false, laid := [("marches/store.ranges", laid_marches_store_ranges)] }
def InterestTellsSaid : Prop := interestTellsRow.holds Tryz.pinned (OpenSpec.ofChange interestTellsSpec)

/-- ITS FALSE NEIGHBOUR: 'it returns false'. Refute it at one input. -/
def interestTellsWrong : ChangeSpec := { name := "interestTells", fn := fun _ => fun
  | [d1, d2, d3] => { results := [.lit (.bool false)], args := [d1, d2, d3] }
  | _ => none }
def InterestTellsWrongFalsely : Prop := interestTellsRow.holds Tryz.pinned (OpenSpec.ofChange interestTellsWrong)

/-- 'marcheslaw24.InterestSmall': WHATEVER THE INPUT: true; the input reads as it did. -/
def interestSmallSpec : ChangeSpec := { name := "interestSmall", fn := fun _ => fun
  | [] => { results := [.lit (.bool true)], args := [] }
  | _ => none }
def interestSmallRow : OpenClaim := { program := "ytjefoecnciepmaagreatdoor", sum := "59ef3e68d9597d9d986b05acf5ac9d747803afba52897f50624cbc651f88f564", func := "marches/marcheslaw24.InterestSmall", spec := "interestSmall", unfollowed := true, recurses := true, named := ["marches/store.ranges"], apart := false, laid := [("marches/store.ranges", laid_marches_store_ranges)] }
def InterestSmallSaid : Prop := interestSmallRow.holds Tryz.pinned (OpenSpec.ofChange interestSmallSpec)

/-- ITS FALSE NEIGHBOUR: 'it returns false'. Refute it at one input. -/
def interestSmallWrong : ChangeSpec := { name := "interestSmall", fn := fun _ => fun
  | [] => { results := [.lit (.bool false)], args := [] }
  | _ => none }
def InterestSmallWrongFalsely : Prop := interestSmallRow.holds Tryz.pinned (OpenSpec.ofChange interestSmallWrong)

/- THE SECOND FORM. 'bulk': how many values and letters a reading holds, each counted each time it is reached (what is shared counts as often as it is met; a slice's spare places count too). A statement '..UptoSaid' is the law's where the arguments, and the package variables that the reading takes, are together of bulk at most 1048576: NARROWER than '..Said'. Prove '..Said' where nothing that the law and all that it calls make is longer than what came in: it says more and counts as full. Else prove '..UptoSaid'. A law counts once. -/
mutual
def uptoBulk {H : Type} : DataW H → Nat
  | .lit (.string bytes) => bytes.length + 1
  | .lit _ => 1
  | .nil => 1
  | .ptr d => uptoBulk d + 1
  | .slice elems spare => uptoBulkAll elems + uptoBulkAll spare + 1
  | .agg parts => uptoBulkAll parts + 1
  | .iface _ d => uptoBulk d + 1
  | .map entries => uptoBulkEntries entries + 1
  | .held _ => 1
def uptoBulkAll {H : Type} : List (DataW H) → Nat
  | [] => 0
  | d :: r => uptoBulk d + uptoBulkAll r
def uptoBulkEntries {H : Type} : List (Lit × DataW H) → Nat
  | [] => 0
  | x :: r => uptoBulkEntry x + uptoBulkEntries r
def uptoBulkEntry {H : Type} : Lit × DataW H → Nat
  | (.string bytes, d) => bytes.length + uptoBulk d + 1
  | (_, d) => uptoBulk d + 1
 end
def uptoSmall : (H : Type) → List (DataW H) → Bool := fun _ ds => decide (uptoBulkAll ds ≤ 1048576)
def OpenSpec.upto (s : _root_.Go.ChangeSpec) : _root_.Go.OpenSpec := { _root_.Go.OpenSpec.ofChange s with cond := some uptoSmall }

/-- 'marcheslaw24.InterestTells', WHERE WHAT IT READS IS OF BULK AT MOST 1048576: true; the input reads as it did. -/
def interestTellsUptoRow : OpenClaim := { program := "ytjefoecnciepmaagreatdoor", sum := "59ef3e68d9597d9d986b05acf5ac9d747803afba52897f50624cbc651f88f564", func := "marches/marcheslaw24.InterestTells", spec := "interestTells", unfollowed := true, recurses := true, named := ["marches/store.ranges"], apart := false, laid := [("marches/store.ranges", laid_marches_store_ranges)], narrowed := true }
def InterestTellsUptoSaid : Prop := interestTellsUptoRow.holds Tryz.pinned (OpenSpec.upto interestTellsSpec)

/-- 'marcheslaw24.InterestSmall', WHERE WHAT IT READS IS OF BULK AT MOST 1048576: true; the input reads as it did. -/
def interestSmallUptoRow : OpenClaim := { program := "ytjefoecnciepmaagreatdoor", sum := "59ef3e68d9597d9d986b05acf5ac9d747803afba52897f50624cbc651f88f564", func := "marches/marcheslaw24.InterestSmall", spec := "interestSmall", unfollowed := true, recurses := true, named := ["marches/store.ranges"], apart := false, laid := [("marches/store.ranges", laid_marches_store_ranges)], narrowed := true }
def InterestSmallUptoSaid : Prop := interestSmallUptoRow.holds Tryz.pinned (OpenSpec.upto interestSmallSpec)

end Rows
end Go.Proofs.YtjefoecnciepmaaGreatDoor
