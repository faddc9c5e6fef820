/-
  No cell of these rows narrows 'for every input' (looked for: loops, veiled, ifaces, maps, wideKeys, modest, calm, conditions, laid).
  DERIVED. THE GIVEN ROWS OF THIS SEAT. 8 by the template 'for every input the law returns true; each argument reads behind the call as it read before'; 0 by the template 'total and deterministic' (their statements: YtdlpnjofdpcjjaaTotals.lean).
  GIVEN WITH THE SEED: the statements are not yours to turn. If you find one false, say at which input.
  Laid BY PROGRAM, IN A SANDBOX (cutbox-rows.mjs): the forced cells as the released guide's own fill.sh prints them over the translation 5765efae315631cd… (all of the seat's roots in one cut). By AI agents, Wed Nov 11 2026. No macro, syntax, notation, axiom, sorry.
-/
import Derived.Test.YtdlpnjofdpcjjaaChecked
import GoSem.Claim
import GoSem.ClaimJoined
import GoSem.ClaimMapViews
import Derived.JoinedTies
import Derived.KernelRfl
namespace Go.Proofs.Ytdlpnjofdpcjjaa
/- THE CELL 'sum', in the pinned program and in every row, IS THE sha256 OF THE DUMP (.gsa) THAT YtdlpnjofdpcjjaaProg.lean LOADS. Nothing in Lean hashes anything: it is a label: what it is worth is what the hold of that sum in a sandbox is worth. -/
noncomputable def Try.pinned : Pinned := { name := "ytdlpnjofdpcjjaa", sum := "5765efae315631cd595f4abf0b8a5e9419fd8b8cd223a60d77a06df439cd3ffd", checked := Try.checked }
namespace Rows
def none {H : Type} : Left H := { results := [], args := [] }

/-- 'marcheslaw41.BalanceTells': WHATEVER THE INPUT: true; the input reads as it did. -/
def balanceTellsSpec : ChangeSpec := { name := "balanceTells", fn := fun _ => fun
  | [d1, d2, d3, d4, d5] => { results := [.lit (.bool true)], args := [d1, d2, d3, d4, d5] }
  | _ => none }
def balanceTellsRow : OpenClaim := { program := "ytdlpnjofdpcjjaa", sum := "5765efae315631cd595f4abf0b8a5e9419fd8b8cd223a60d77a06df439cd3ffd", func := "marches/marcheslaw41.BalanceTells", spec := "balanceTells", unfollowed := true, recurses := true, apart := false }
def BalanceTellsSaid : Prop := balanceTellsRow.holds Try.pinned (OpenSpec.ofChange balanceTellsSpec)

/-- ITS FALSE NEIGHBOUR: 'it returns false'. Refute it at one input. -/
def balanceTellsWrong : ChangeSpec := { name := "balanceTells", fn := fun _ => fun
  | [d1, d2, d3, d4, d5] => { results := [.lit (.bool false)], args := [d1, d2, d3, d4, d5] }
  | _ => none }
def BalanceTellsWrongFalsely : Prop := balanceTellsRow.holds Try.pinned (OpenSpec.ofChange balanceTellsWrong)

/-- 'marcheslaw41.BalanceMoves': WHATEVER THE INPUT: true; the input reads as it did. -/
def balanceMovesSpec : ChangeSpec := { name := "balanceMoves", fn := fun _ => fun
  | [d1, d2, d3, d4] => { results := [.lit (.bool true)], args := [d1, d2, d3, d4] }
  | _ => none }
def balanceMovesRow : OpenClaim := { program := "ytdlpnjofdpcjjaa", sum := "5765efae315631cd595f4abf0b8a5e9419fd8b8cd223a60d77a06df439cd3ffd", func := "marches/marcheslaw41.BalanceMoves", spec := "balanceMoves", unfollowed := true, recurses := true, apart := false }
def BalanceMovesSaid : Prop := balanceMovesRow.holds Try.pinned (OpenSpec.ofChange balanceMovesSpec)

/-- ITS FALSE NEIGHBOUR: 'it returns false'. Refute it at one input. -/
def balanceMovesWrong : ChangeSpec := { name := "balanceMoves", fn := fun _ => fun
  | [d1, d2, d3, d4] => { results := [.lit (.bool false)], args := [d1, d2, d3, d4] }
  | _ => none }
def BalanceMovesWrongFalsely : Prop := balanceMovesRow.holds Try.pinned (OpenSpec.ofChange balanceMovesWrong)

/-- 'marcheslaw41.BalanceEven': WHATEVER THE INPUT: true; the input reads as it did. -/
def balanceEvenSpec : ChangeSpec := { name := "balanceEven", fn := fun _ => fun
  | [d1, d2, d3, d4, d5] => { results := [.lit (.bool true)], args := [d1, d2, d3, d4, d5] }
  | _ => none }
def balanceEvenRow : OpenClaim := { program := "ytdlpnjofdpcjjaa", sum := "5765efae315631cd595f4abf0b8a5e9419fd8b8cd223a60d77a06df439cd3ffd", func := "marches/marcheslaw41.BalanceEven", spec := "balanceEven", unfollowed := true, recurses := true, apart := false }
def BalanceEvenSaid : Prop := balanceEvenRow.holds Try.pinned (OpenSpec.ofChange balanceEvenSpec)

/-- ITS FALSE NEIGHBOUR: 'it returns false'. Refute it at one input. -/
def balanceEvenWrong : ChangeSpec := { name := "balanceEven", fn := fun _ => fun
  | [d1, d2, d3, d4, d5] => { results := [.lit (.bool false)], args := [d1, d2, d3, d4, d5] }
  | _ => none }
def BalanceEvenWrongFalsely : Prop := balanceEvenRow.holds Try.pinned (OpenSpec.ofChange balanceEvenWrong)

/-- 'marcheslaw41.BalanceZones': WHATEVER THE INPUT: true; the input reads as it did. -/
def balanceZonesSpec : ChangeSpec := { name := "balanceZones", fn := fun _ => fun
  | [d1, d2, d3, d4] => { results := [.lit (.bool true)], args := [d1, d2, d3, d4] }
  | _ => none }
def balanceZonesRow : OpenClaim := { program := "ytdlpnjofdpcjjaa", sum := "5765efae315631cd595f4abf0b8a5e9419fd8b8cd223a60d77a06df439cd3ffd", func := "marches/marcheslaw41.BalanceZones", spec := "balanceZones", unfollowed := true, recurses := true, apart := false }
def BalanceZonesSaid : Prop := balanceZonesRow.holds Try.pinned (OpenSpec.ofChange balanceZonesSpec)

/-- ITS FALSE NEIGHBOUR: 'it returns false'. Refute it at one input. -/
def balanceZonesWrong : ChangeSpec := { name := "balanceZones", fn := fun _ => fun
  | [d1, d2, d3, d4] => { results := [.lit (.bool false)], args := [d1, d2, d3, d4] }
  | _ => none }
def BalanceZonesWrongFalsely : Prop := balanceZonesRow.holds Try.pinned (OpenSpec.ofChange balanceZonesWrong)

/-- 'marcheslaw41.BalanceOne': WHATEVER THE INPUT: true; the input reads as it did. -/
def balanceOneSpec : ChangeSpec := { name := "balanceOne", fn := fun _ => fun
  | [d1, d2, d3, d4] => { results := [.lit (.bool true)], args := [d1, d2, d3, d4] }
  | _ => none }
def balanceOneRow : OpenClaim := { program := "ytdlpnjofdpcjjaa", sum := "5765efae315631cd595f4abf0b8a5e9419fd8b8cd223a60d77a06df439cd3ffd", func := "marches/marcheslaw41.BalanceOne", spec := "balanceOne", unfollowed := true, recurses := true, apart := false }
def BalanceOneSaid : Prop := balanceOneRow.holds Try.pinned (OpenSpec.ofChange balanceOneSpec)

/-- ITS FALSE NEIGHBOUR: 'it returns false'. Refute it at one input. -/
def balanceOneWrong : ChangeSpec := { name := "balanceOne", fn := fun _ => fun
  | [d1, d2, d3, d4] => { results := [.lit (.bool false)], args := [d1, d2, d3, d4] }
  | _ => none }
def BalanceOneWrongFalsely : Prop := balanceOneRow.holds Try.pinned (OpenSpec.ofChange balanceOneWrong)

/-- 'marcheslaw41.BalanceMoved': WHATEVER THE INPUT: true; the input reads as it did. -/
def balanceMovedSpec : ChangeSpec := { name := "balanceMoved", fn := fun _ => fun
  | [d1, d2, d3, d4, d5] => { results := [.lit (.bool true)], args := [d1, d2, d3, d4, d5] }
  | _ => none }
def balanceMovedRow : OpenClaim := { program := "ytdlpnjofdpcjjaa", sum := "5765efae315631cd595f4abf0b8a5e9419fd8b8cd223a60d77a06df439cd3ffd", func := "marches/marcheslaw41.BalanceMoved", spec := "balanceMoved", unfollowed := true, recurses := true, apart := false }
def BalanceMovedSaid : Prop := balanceMovedRow.holds Try.pinned (OpenSpec.ofChange balanceMovedSpec)

/-- ITS FALSE NEIGHBOUR: 'it returns false'. Refute it at one input. -/
def balanceMovedWrong : ChangeSpec := { name := "balanceMoved", fn := fun _ => fun
  | [d1, d2, d3, d4, d5] => { results := [.lit (.bool false)], args := [d1, d2, d3, d4, d5] }
  | _ => none }
def BalanceMovedWrongFalsely : Prop := balanceMovedRow.holds Try.pinned (OpenSpec.ofChange balanceMovedWrong)

/-- 'marcheslaw41.BalanceSettles': WHATEVER THE INPUT: true; the input reads as it did. -/
def balanceSettlesSpec : ChangeSpec := { name := "balanceSettles", fn := fun _ => fun
  | [d1, d2, d3, d4, d5, d6] => { results := [.lit (.bool true)], args := [d1, d2, d3, d4, d5, d6] }
  | _ => none }
def balanceSettlesRow : OpenClaim := { program := "ytdlpnjofdpcjjaa", sum := "5765efae315631cd595f4abf0b8a5e9419fd8b8cd223a60d77a06df439cd3ffd", func := "marches/marcheslaw41.BalanceSettles", spec := "balanceSettles", unfollowed := true, recurses := true, apart := false }
def BalanceSettlesSaid : Prop := balanceSettlesRow.holds Try.pinned (OpenSpec.ofChange balanceSettlesSpec)

/-- ITS FALSE NEIGHBOUR: 'it returns false'. Refute it at one input. -/
def balanceSettlesWrong : ChangeSpec := { name := "balanceSettles", fn := fun _ => fun
  | [d1, d2, d3, d4, d5, d6] => { results := [.lit (.bool false)], args := [d1, d2, d3, d4, d5, d6] }
  | _ => none }
def BalanceSettlesWrongFalsely : Prop := balanceSettlesRow.holds Try.pinned (OpenSpec.ofChange balanceSettlesWrong)

/-- 'marcheslaw41.BalanceWrong': WHATEVER THE INPUT: true; the input reads as it did. -/
def balanceWrongSpec : ChangeSpec := { name := "balanceWrong", fn := fun _ => fun
  | [d1, d2, d3, d4, d5, d6] => { results := [.lit (.bool true)], args := [d1, d2, d3, d4, d5, d6] }
  | _ => none }
def balanceWrongRow : OpenClaim := { program := "ytdlpnjofdpcjjaa", sum := "5765efae315631cd595f4abf0b8a5e9419fd8b8cd223a60d77a06df439cd3ffd", func := "marches/marcheslaw41.BalanceWrong", spec := "balanceWrong", unfollowed := true, recurses := true, apart := false }
def BalanceWrongSaid : Prop := balanceWrongRow.holds Try.pinned (OpenSpec.ofChange balanceWrongSpec)

/-- ITS FALSE NEIGHBOUR: 'it returns false'. Refute it at one input. -/
def balanceWrongWrong : ChangeSpec := { name := "balanceWrong", fn := fun _ => fun
  | [d1, d2, d3, d4, d5, d6] => { results := [.lit (.bool false)], args := [d1, d2, d3, d4, d5, d6] }
  | _ => none }
def BalanceWrongWrongFalsely : Prop := balanceWrongRow.holds Try.pinned (OpenSpec.ofChange balanceWrongWrong)

/- THE SECOND FORM. 'bulk': how many values and letters a reading holds, each counted each time it is reached (what is shared counts as often as it is met; a slice's spare places count too). A statement '..UptoSaid' is the law's where the arguments, and the package variables that the reading takes, are together of bulk at most 1048576: NARROWER than '..Said'. Prove '..Said' where nothing that the law and all that it calls make is longer than what came in: it says more and counts as full. Else prove '..UptoSaid'. A law counts once. -/
mutual
def uptoBulk {H : Type} : DataW H → Nat
  | .lit (.string bytes) => bytes.length + 1
  | .lit _ => 1
  | .nil => 1
  | .ptr d => uptoBulk d + 1
  | .slice elems spare => uptoBulkAll elems + uptoBulkAll spare + 1
  | .agg parts => uptoBulkAll parts + 1
  | .iface _ d => uptoBulk d + 1
  | .map entries => uptoBulkEntries entries + 1
  | .held _ => 1
def uptoBulkAll {H : Type} : List (DataW H) → Nat
  | [] => 0
  | d :: r => uptoBulk d + uptoBulkAll r
def uptoBulkEntries {H : Type} : List (Lit × DataW H) → Nat
  | [] => 0
  | x :: r => uptoBulkEntry x + uptoBulkEntries r
def uptoBulkEntry {H : Type} : Lit × DataW H → Nat
  | (.string bytes, d) => bytes.length + uptoBulk d + 1
  | (_, d) => uptoBulk d + 1
 end
def uptoSmall : (H : Type) → List (DataW H) → Bool := fun _ ds => decide (uptoBulkAll ds ≤ 1048576)
def OpenSpec.upto (s : _root_.Go.ChangeSpec) : _root_.Go.OpenSpec := { _root_.Go.OpenSpec.ofChange s with cond := some uptoSmall }

/-- 'marcheslaw41.BalanceTells', WHERE WHAT IT READS IS OF BULK AT MOST 1048576: true; the input reads as it did. -/
def balanceTellsUptoRow : OpenClaim := { program := "ytdlpnjofdpcjjaa", sum := "5765efae315631cd595f4abf0b8a5e9419fd8b8cd223a60d77a06df439cd3ffd", func := "marches/marcheslaw41.BalanceTells", spec := "balanceTells", unfollowed := true, recurses := true, apart := false, narrowed := true }
def BalanceTellsUptoSaid : Prop := balanceTellsUptoRow.holds Try.pinned (OpenSpec.upto balanceTellsSpec)

/-- 'marcheslaw41.BalanceMoves', WHERE WHAT IT READS IS OF BULK AT MOST 1048576: true; the input reads as it did. -/
def balanceMovesUptoRow : OpenClaim := { program := "ytdlpnjofdpcjjaa", sum := "5765efae315631cd595f4abf0b8a5e9419fd8b8cd223a60d77a06df439cd3ffd", func := "marches/marcheslaw41.BalanceMoves", spec := "balanceMoves", unfollowed := true, recurses := true, apart := false, narrowed := true }
def BalanceMovesUptoSaid : Prop := balanceMovesUptoRow.holds Try.pinned (OpenSpec.upto balanceMovesSpec)

/-- 'marcheslaw41.BalanceEven', WHERE WHAT IT READS IS OF BULK AT MOST 1048576: true; the input reads as it did. -/
def balanceEvenUptoRow : OpenClaim := { program := "ytdlpnjofdpcjjaa", sum := "5765efae315631cd595f4abf0b8a5e9419fd8b8cd223a60d77a06df439cd3ffd", func := "marches/marcheslaw41.BalanceEven", spec := "balanceEven", unfollowed := true, recurses := true, apart := false, narrowed := true }
def BalanceEvenUptoSaid : Prop := balanceEvenUptoRow.holds Try.pinned (OpenSpec.upto balanceEvenSpec)

/-- 'marcheslaw41.BalanceZones', WHERE WHAT IT READS IS OF BULK AT MOST 1048576: true; the input reads as it did. -/
def balanceZonesUptoRow : OpenClaim := { program := "ytdlpnjofdpcjjaa", sum := "5765efae315631cd595f4abf0b8a5e9419fd8b8cd223a60d77a06df439cd3ffd", func := "marches/marcheslaw41.BalanceZones", spec := "balanceZones", unfollowed := true, recurses := true, apart := false, narrowed := true }
def BalanceZonesUptoSaid : Prop := balanceZonesUptoRow.holds Try.pinned (OpenSpec.upto balanceZonesSpec)

/-- 'marcheslaw41.BalanceOne', WHERE WHAT IT READS IS OF BULK AT MOST 1048576: true; the input reads as it did. -/
def balanceOneUptoRow : OpenClaim := { program := "ytdlpnjofdpcjjaa", sum := "5765efae315631cd595f4abf0b8a5e9419fd8b8cd223a60d77a06df439cd3ffd", func := "marches/marcheslaw41.BalanceOne", spec := "balanceOne", unfollowed := true, recurses := true, apart := false, narrowed := true }
def BalanceOneUptoSaid : Prop := balanceOneUptoRow.holds Try.pinned (OpenSpec.upto balanceOneSpec)

/-- 'marcheslaw41.BalanceMoved', WHERE WHAT IT READS IS OF BULK AT MOST 1048576: true; the input reads as it did. -/
def balanceMovedUptoRow : OpenClaim := { program := "ytdlpnjofdpcjjaa", sum := "5765efae315631cd595f4abf0b8a5e9419fd8b8cd223a60d77a06df439cd3ffd", func := "marches/marcheslaw41.BalanceMoved", spec := "balanceMoved", unfollowed := true, recurses := true, apart := false, narrowed := true }
def BalanceMovedUptoSaid : Prop := balanceMovedUptoRow.holds Try.pinned (OpenSpec.upto balanceMovedSpec)

/-- 'marcheslaw41.BalanceSettles', WHERE WHAT IT READS IS OF BULK AT MOST 1048576: true; the input reads as it did. -/
def balanceSettlesUptoRow : OpenClaim := { program := "ytdlpnjofdpcjjaa", sum := "5765efae315631cd595f4abf0b8a5e9419fd8b8cd223a60d77a06df439cd3ffd", func := "marches/marcheslaw41.BalanceSettles", spec := "balanceSettles", unfollowed := true, recurses := true, apart := false, narrowed := true }
def BalanceSettlesUptoSaid : Prop := balanceSettlesUptoRow.holds Try.pinned (OpenSpec.upto balanceSettlesSpec)

/-- 'marcheslaw41.BalanceWrong', WHERE WHAT IT READS IS OF BULK AT MOST 1048576: true; the input reads as it did. -/
def balanceWrongUptoRow : OpenClaim := { program := "ytdlpnjofdpcjjaa", sum := "5765efae315631cd595f4abf0b8a5e9419fd8b8cd223a60d77a06df439cd3ffd", func := "marches/marcheslaw41.BalanceWrong", spec := "balanceWrong", unfollowed := true, recurses := true, apart := false, narrowed := true }
def BalanceWrongUptoSaid : Prop := balanceWrongUptoRow.holds Try.pinned (OpenSpec.upto balanceWrongSpec)

end Rows
end Go.Proofs.Ytdlpnjofdpcjjaa
