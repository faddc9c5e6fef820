/-
  NARROWER THAN 'FOR EVERY INPUT', by the rows' own cells (each row's printed sentence says how): InterestBlind: laid · InterestEach: laid · InterestParts: laid · InterestMoves: laid · InterestHides: laid · InterestWrong: laid.
  DERIVED. THE GIVEN ROWS OF THIS SEAT. 6 by the template 'for every input the law returns true; each argument reads behind the call as it read before'; 0 by the template 'total and deterministic' (their statements: YtjefoecnciepmaaDoorTotals.lean).
  GIVEN WITH THE SEED: the statements are not yours to turn. If you find one false, say at which input.
  Laid BY PROGRAM, IN A SANDBOX (cutbox-rows.mjs): the forced cells as the released guide's own fill.sh prints them over the translation 0563306b6cd7afc1… (all of the seat's roots in one cut). By AI agents, Wed Nov 11 2026. No macro, syntax, notation, axiom, sorry.
-/
import Derived.Test.YtjefoecnciepmaaDoorChecked
import GoSem.Claim
import GoSem.ClaimJoined
import GoSem.ClaimMapViews
import Derived.JoinedTies
import Derived.KernelRfl
namespace Go.Proofs.YtjefoecnciepmaaDoor
/- THE CELL 'sum', in the pinned program and in every row, IS THE sha256 OF THE DUMP (.gsa) THAT YtjefoecnciepmaaDoorProg.lean LOADS. Nothing in Lean hashes anything: it is a label: what it is worth is what the hold of that sum in a sandbox is worth. -/
noncomputable def Tryd.pinned : Pinned := { name := "ytjefoecnciepmaadoor", sum := "0563306b6cd7afc1764065b5e3074aac106af406ff49403aa4cc068730678ab9", checked := Tryd.checked }
namespace Rows
def none {H : Type} : Left H := { results := [], args := [] }

/- WHAT THE LISTED PACKAGE-LEVEL VARIABLES READ AS WHEN THE CALL BEGINS. Each datum BY PROGRAM (the guide's laid-datum.mjs) off the statement by which the dump's own 'gosem.cut.vars' lays the variable. In a bare row this is a premise. The card (YtjefoecnciepmaaDoorCards.lean) ties it to the program's text. -/
def laid_marches_store_ranges {H : Type} : DataW H := .agg [.agg [.agg [.lit (.int .i64 0), .lit (.int .i64 0)], .agg [.lit (.int .i64 0), .lit (.int .i64 0)], .agg [.lit (.int .i64 0), .lit (.int .i64 0)], .agg [.lit (.int .i64 0), .lit (.int .i64 0)]], .agg [.agg [.lit (.int .i64 (-1048576)), .lit (.int .i64 1048576)], .agg [.lit (.int .i64 (-1048576)), .lit (.int .i64 1048576)], .agg [.lit (.int .i64 0), .lit (.int .i64 0)], .agg [.lit (.int .i64 0), .lit (.int .i64 0)]], .agg [.agg [.lit (.int .i64 (-4096)), .lit (.int .i64 4096)], .agg [.lit (.int .i64 (-4096)), .lit (.int .i64 4096)], .agg [.lit (.int .i64 0), .lit (.int .i64 0)], .agg [.lit (.int .i64 0), .lit (.int .i64 0)]], .agg [.agg [.lit (.int .i64 1), .lit (.int .i64 16384)], .agg [.lit (.int .i64 1), .lit (.int .i64 16384)], .agg [.lit (.int .i64 0), .lit (.int .i64 1)], .agg [.lit (.int .i64 0), .lit (.int .i64 1)]], .agg [.agg [.lit (.int .i64 1), .lit (.int .i64 8)], .agg [.lit (.int .i64 0), .lit (.int .i64 0)], .agg [.lit (.int .i64 0), .lit (.int .i64 0)], .agg [.lit (.int .i64 0), .lit (.int .i64 0)]], .agg [.agg [.lit (.int .i64 0), .lit (.int .i64 510)], .agg [.lit (.int .i64 0), .lit (.int .i64 0)], .agg [.lit (.int .i64 0), .lit (.int .i64 0)], .agg [.lit (.int .i64 0), .lit (.int .i64 0)]], .agg [.agg [.lit (.int .i64 0), .lit (.int .i64 15)], .agg [.lit (.int .i64 0), .lit (.int .i64 0)], .agg [.lit (.int .i64 0), .lit (.int .i64 0)], .agg [.lit (.int .i64 0), .lit (.int .i64 0)]], .agg [.agg [.lit (.int .i64 (-2147483648)), .lit (.int .i64 2147483647)], .agg [.lit (.int .i64 (-2147483648)), .lit (.int .i64 2147483647)], .agg [.lit (.int .i64 (-2147483648)), .lit (.int .i64 2147483647)], .agg [.lit (.int .i64 (-2147483648)), .lit (.int .i64 2147483647)]], .agg [.agg [.lit (.int .i64 0), .lit (.int .i64 1048576)], .agg [.lit (.int .i64 0), .lit (.int .i64 1048576)], .agg [.lit (.int .i64 0), .lit (.int .i64 0)], .agg [.lit (.int .i64 0), .lit (.int .i64 0)]], .agg [.agg [.lit (.int .i64 0), .lit (.int .i64 2147483647)], .agg [.lit (.int .i64 0), .lit (.int .i64 2147483647)], .agg [.lit (.int .i64 0), .lit (.int .i64 2147483647)], .agg [.lit (.int .i64 0), .lit (.int .i64 2147483647)]], .agg [.agg [.lit (.int .i64 (-2147483648)), .lit (.int .i64 2147483647)], .agg [.lit (.int .i64 (-2147483648)), .lit (.int .i64 2147483647)], .agg [.lit (.int .i64 (-2147483648)), .lit (.int .i64 2147483647)], .agg [.lit (.int .i64 (-2147483648)), .lit (.int .i64 2147483647)]]]

/-- 'marcheslaw24.InterestBlind': WHATEVER THE INPUT: true; the input reads as it did. -/
def interestBlindSpec : ChangeSpec := { name := "interestBlind", fn := fun _ => fun
  | [d1, d2, d3, d4] => { results := [.lit (.bool true)], args := [d1, d2, d3, d4] }
  | _ => none }
def interestBlindRow : OpenClaim := { program := "ytjefoecnciepmaadoor", sum := "0563306b6cd7afc1764065b5e3074aac106af406ff49403aa4cc068730678ab9", func := "marches/marcheslaw24.InterestBlind", spec := "interestBlind", unfollowed := true, recurses := true, named := ["marches/store.ranges"], apart := false, laid := [("marches/store.ranges", laid_marches_store_ranges)] }
def InterestBlindSaid : Prop := interestBlindRow.holds Tryd.pinned (OpenSpec.ofChange interestBlindSpec)

/-- ITS FALSE NEIGHBOUR: 'it returns false'. Refute it at one input. -/
def interestBlindWrong : ChangeSpec := { name := "interestBlind", fn := fun _ => fun
  | [d1, d2, d3, d4] => { results := [.lit (.bool false)], args := [d1, d2, d3, d4] }
  | _ => none }
def InterestBlindWrongFalsely : Prop := interestBlindRow.holds Tryd.pinned (OpenSpec.ofChange interestBlindWrong)

/-- 'marcheslaw24.InterestEach': WHATEVER THE INPUT: true; the input reads as it did. -/
def interestEachSpec : ChangeSpec := { name := "interestEach", fn := fun _ => fun
  | [d1, d2] => { results := [.lit (.bool true)], args := [d1, d2] }
  | _ => none }
def interestEachRow : OpenClaim := { program := "ytjefoecnciepmaadoor", sum := "0563306b6cd7afc1764065b5e3074aac106af406ff49403aa4cc068730678ab9", func := "marches/marcheslaw24.InterestEach", spec := "interestEach", unfollowed := true, recurses := true, named := ["marches/store.ranges"], apart := false, laid := [("marches/store.ranges", laid_marches_store_ranges)] }
def InterestEachSaid : Prop := interestEachRow.holds Tryd.pinned (OpenSpec.ofChange interestEachSpec)

/-- ITS FALSE NEIGHBOUR: 'it returns false'. Refute it at one input. -/
def interestEachWrong : ChangeSpec := { name := "interestEach", fn := fun _ => fun
  | [d1, d2] => { results := [.lit (.bool false)], args := [d1, d2] }
  | _ => none }
def InterestEachWrongFalsely : Prop := interestEachRow.holds Tryd.pinned (OpenSpec.ofChange interestEachWrong)

/-- 'marcheslaw24.InterestParts': WHATEVER THE INPUT: true; the input reads as it did. -/
def interestPartsSpec : ChangeSpec := { name := "interestParts", fn := fun _ => fun
  | [d1, d2] => { results := [.lit (.bool true)], args := [d1, d2] }
  | _ => none }
def interestPartsRow : OpenClaim := { program := "ytjefoecnciepmaadoor", sum := "0563306b6cd7afc1764065b5e3074aac106af406ff49403aa4cc068730678ab9", func := "marches/marcheslaw24.InterestParts", spec := "interestParts", unfollowed := true, recurses := true, named := ["marches/store.ranges"], apart := false, laid := [("marches/store.ranges", laid_marches_store_ranges)] }
def InterestPartsSaid : Prop := interestPartsRow.holds Tryd.pinned (OpenSpec.ofChange interestPartsSpec)

/-- ITS FALSE NEIGHBOUR: 'it returns false'. Refute it at one input. -/
def interestPartsWrong : ChangeSpec := { name := "interestParts", fn := fun _ => fun
  | [d1, d2] => { results := [.lit (.bool false)], args := [d1, d2] }
  | _ => none }
def InterestPartsWrongFalsely : Prop := interestPartsRow.holds Tryd.pinned (OpenSpec.ofChange interestPartsWrong)

/-- 'marcheslaw24.InterestMoves': WHATEVER THE INPUT: true; the input reads as it did. -/
def interestMovesSpec : ChangeSpec := { name := "interestMoves", fn := fun _ => fun
  | [d1, d2, d3, d4, d5] => { results := [.lit (.bool true)], args := [d1, d2, d3, d4, d5] }
  | _ => none }
def interestMovesRow : OpenClaim := { program := "ytjefoecnciepmaadoor", sum := "0563306b6cd7afc1764065b5e3074aac106af406ff49403aa4cc068730678ab9", func := "marches/marcheslaw24.InterestMoves", spec := "interestMoves", unfollowed := true, recurses := true, named := ["marches/store.ranges"], apart := false, laid := [("marches/store.ranges", laid_marches_store_ranges)] }
def InterestMovesSaid : Prop := interestMovesRow.holds Tryd.pinned (OpenSpec.ofChange interestMovesSpec)

/-- ITS FALSE NEIGHBOUR: 'it returns false'. Refute it at one input. -/
def interestMovesWrong : ChangeSpec := { name := "interestMoves", fn := fun _ => fun
  | [d1, d2, d3, d4, d5] => { results := [.lit (.bool false)], args := [d1, d2, d3, d4, d5] }
  | _ => none }
def InterestMovesWrongFalsely : Prop := interestMovesRow.holds Tryd.pinned (OpenSpec.ofChange interestMovesWrong)

/-- 'marcheslaw24.InterestHides': WHATEVER THE INPUT: true; the input reads as it did. -/
def interestHidesSpec : ChangeSpec := { name := "interestHides", fn := fun _ => fun
  | [d1, d2, d3] => { results := [.lit (.bool true)], args := [d1, d2, d3] }
  | _ => none }
def interestHidesRow : OpenClaim := { program := "ytjefoecnciepmaadoor", sum := "0563306b6cd7afc1764065b5e3074aac106af406ff49403aa4cc068730678ab9", func := "marches/marcheslaw24.InterestHides", spec := "interestHides", unfollowed := true, recurses := true, named := ["marches/store.ranges"], apart := false, laid := [("marches/store.ranges", laid_marches_store_ranges)] }
def InterestHidesSaid : Prop := interestHidesRow.holds Tryd.pinned (OpenSpec.ofChange interestHidesSpec)

/-- ITS FALSE NEIGHBOUR: 'it returns false'. Refute it at one input. -/
def interestHidesWrong : ChangeSpec := { name := "interestHides", fn := fun _ => fun
  | [d1, d2, d3] => { results := [.lit (.bool false)], args := [d1, d2, d3] }
  | _ => none }
def InterestHidesWrongFalsely : Prop := interestHidesRow.holds Tryd.pinned (OpenSpec.ofChange interestHidesWrong)

/-- 'marcheslaw24.InterestWrong': WHATEVER THE INPUT: true; the input reads as it did. -/
def interestWrongSpec : ChangeSpec := { name := "interestWrong", fn := fun _ => fun
  | [d1, d2, d3] => { results := [.lit (.bool true)], args := [d1, d2, d3] }
  | _ => none }
def interestWrongRow : OpenClaim := { program := "ytjefoecnciepmaadoor", sum := "0563306b6cd7afc1764065b5e3074aac106af406ff49403aa4cc068730678ab9", func := "marches/marcheslaw24.InterestWrong", spec := "interestWrong", unfollowed := true, recurses := true, named := ["marches/store.ranges"], apart := false, laid := [("marches/store.ranges", laid_marches_store_ranges)] }
def InterestWrongSaid : Prop := interestWrongRow.holds Tryd.pinned (OpenSpec.ofChange interestWrongSpec)

/-- ITS FALSE NEIGHBOUR: 'it returns false'. Refute it at one input. -/
def interestWrongWrong : ChangeSpec := { name := "interestWrong", fn := fun _ => fun
  | [d1, d2, d3] => { results := [.lit (.bool false)], args := [d1, d2, d3] }
  | _ => none }
def InterestWrongWrongFalsely : Prop := interestWrongRow.holds Tryd.pinned (OpenSpec.ofChange interestWrongWrong)

/- THE SECOND FORM. 'bulk': how many values and letters a reading holds, each counted each time it is reached (what is shared counts as often as it is met; a slice's spare places count too). A statement '..UptoSaid' is the law's where the arguments, and the package variables that the reading takes, are together of bulk at most 1048576: NARROWER than '..Said'. Prove '..Said' where nothing that the law and all that it calls make is longer than what came in: it says more and counts as full. Else prove '..UptoSaid'. A law counts once. -/
mutual
def uptoBulk {H : Type} : DataW H → Nat
  | .lit (.string bytes) => bytes.length + 1
  | .lit _ => 1
  | .nil => 1
  | .ptr d => uptoBulk d + 1
  | .slice elems spare => uptoBulkAll elems + uptoBulkAll spare + 1
  | .agg parts => uptoBulkAll parts + 1
  | .iface _ d => uptoBulk d + 1
  | .map entries => uptoBulkEntries entries + 1
  | .held _ => 1
def uptoBulkAll {H : Type} : List (DataW H) → Nat
  | [] => 0
  | d :: r => uptoBulk d + uptoBulkAll r
def uptoBulkEntries {H : Type} : List (Lit × DataW H) → Nat
  | [] => 0
  | x :: r => uptoBulkEntry x + uptoBulkEntries r
def uptoBulkEntry {H : Type} : Lit × DataW H → Nat
  | (.string bytes, d) => bytes.length + uptoBulk d + 1
  | (_, d) => uptoBulk d + 1
 end
def uptoSmall : (H : Type) → List (DataW H) → Bool := fun _ ds => decide (uptoBulkAll ds ≤ 1048576)
def OpenSpec.upto (s : _root_.Go.ChangeSpec) : _root_.Go.OpenSpec := { _root_.Go.OpenSpec.ofChange s with cond := some uptoSmall }

/-- 'marcheslaw24.InterestBlind', WHERE WHAT IT READS IS OF BULK AT MOST 1048576: true; the input reads as it did. -/
def interestBlindUptoRow : OpenClaim := { program := "ytjefoecnciepmaadoor", sum := "0563306b6cd7afc1764065b5e3074aac106af406ff49403aa4cc068730678ab9", func := "marches/marcheslaw24.InterestBlind", spec := "interestBlind", unfollowed := true, recurses := true, named := ["marches/store.ranges"], apart := false, laid := [("marches/store.ranges", laid_marches_store_ranges)], narrowed := true }
def InterestBlindUptoSaid : Prop := interestBlindUptoRow.holds Tryd.pinned (OpenSpec.upto interestBlindSpec)

/-- 'marcheslaw24.InterestEach', WHERE WHAT IT READS IS OF BULK AT MOST 1048576: true; the input reads as it did. -/
def interestEachUptoRow : OpenClaim := { program := "ytjefoecnciepmaadoor", sum := "0563306b6cd7afc1764065b5e3074aac106af406ff49403aa4cc068730678ab9", func := "marches/marcheslaw24.InterestEach", spec := "interestEach", unfollowed := true, recurses := true, named := ["marches/store.ranges"], apart := false, laid := [("marches/store.ranges", laid_marches_store_ranges)], narrowed := true }
def InterestEachUptoSaid : Prop := interestEachUptoRow.holds Tryd.pinned (OpenSpec.upto interestEachSpec)

/-- 'marcheslaw24.InterestParts', WHERE WHAT IT READS IS OF BULK AT MOST 1048576: true; the input reads as it did. -/
def interestPartsUptoRow : OpenClaim := { program := "ytjefoecnciepmaadoor", sum := "0563306b6cd7afc1764065b5e3074aac106af406ff49403aa4cc068730678ab9", func := "marches/marcheslaw24.InterestParts", spec := "interestParts", unfollowed := true, recurses := true, named := ["marches/store.ranges"], apart := false, laid := [("marches/store.ranges", laid_marches_store_ranges)], narrowed := true }
def InterestPartsUptoSaid : Prop := interestPartsUptoRow.holds Tryd.pinned (OpenSpec.upto interestPartsSpec)

/-- 'marcheslaw24.InterestMoves', WHERE WHAT IT READS IS OF BULK AT MOST 1048576: true; the input reads as it did. -/
def interestMovesUptoRow : OpenClaim := { program := "ytjefoecnciepmaadoor", sum := "0563306b6cd7afc1764065b5e3074aac106af406ff49403aa4cc068730678ab9", func := "marches/marcheslaw24.InterestMoves", spec := "interestMoves", unfollowed := true, recurses := true, named := ["marches/store.ranges"], apart := false, laid := [("marches/store.ranges", laid_marches_store_ranges)], narrowed := true }
def InterestMovesUptoSaid : Prop := interestMovesUptoRow.holds Tryd.pinned (OpenSpec.upto interestMovesSpec)

/-- 'marcheslaw24.InterestHides', WHERE WHAT IT READS IS OF BULK AT MOST 1048576: true; the input reads as it did. -/
def interestHidesUptoRow : OpenClaim := { program := "ytjefoecnciepmaadoor", sum := "0563306b6cd7afc1764065b5e3074aac106af406ff49403aa4cc068730678ab9", func := "marches/marcheslaw24.InterestHides", spec := "interestHides", unfollowed := true, recurses := true, named := ["marches/store.ranges"], apart := false, laid := [("marches/store.ranges", laid_marches_store_ranges)], narrowed := true }
def InterestHidesUptoSaid : Prop := interestHidesUptoRow.holds Tryd.pinned (OpenSpec.upto interestHidesSpec)

/-- 'marcheslaw24.InterestWrong', WHERE WHAT IT READS IS OF BULK AT MOST 1048576: true; the input reads as it did. -/
def interestWrongUptoRow : OpenClaim := { program := "ytjefoecnciepmaadoor", sum := "0563306b6cd7afc1764065b5e3074aac106af406ff49403aa4cc068730678ab9", func := "marches/marcheslaw24.InterestWrong", spec := "interestWrong", unfollowed := true, recurses := true, named := ["marches/store.ranges"], apart := false, laid := [("marches/store.ranges", laid_marches_store_ranges)], narrowed := true }
def InterestWrongUptoSaid : Prop := interestWrongUptoRow.holds Tryd.pinned (OpenSpec.upto interestWrongSpec)

end Rows
end Go.Proofs.YtjefoecnciepmaaDoor
