/-
  No cell of these rows narrows 'for every input' (looked for: loops, veiled, ifaces, maps, wideKeys, modest, calm, conditions, laid).
  DERIVED. THE GIVEN ROWS OF THIS SEAT. 7 by the template 'for every input the law returns true; each argument reads behind the call as it read before'; 0 by the template 'total and deterministic' (their statements: YtlfbcoohfnoacaaTotals.lean).
  GIVEN WITH THE SEED: the statements are not yours to turn. If you find one false, say at which input.
  Laid BY PROGRAM, IN A SANDBOX (cutbox-rows.mjs): the forced cells as the released guide's own fill.sh prints them over the translation 1e8551f0d4f24566… (all of the seat's roots in one cut). By AI agents, Wed Nov 11 2026. No macro, syntax, notation, axiom, sorry.
-/
import Derived.Test.YtlfbcoohfnoacaaChecked
import GoSem.Claim
import GoSem.ClaimJoined
import GoSem.ClaimMapViews
import Derived.JoinedTies
import Derived.KernelRfl
namespace Go.Proofs.Ytlfbcoohfnoacaa
/- THE CELL 'sum', in the pinned program and in every row, IS THE sha256 OF THE DUMP (.gsa) THAT YtlfbcoohfnoacaaProg.lean LOADS. Nothing in Lean hashes anything: it is a label: what it is worth is what the hold of that sum in a sandbox is worth. -/
noncomputable def Try.pinned : Pinned := { name := "ytlfbcoohfnoacaa", sum := "1e8551f0d4f245664e0b99865ffac6f030b1254782ea519b3273fb725e8c7a79", checked := Try.checked }
namespace Rows
def none {H : Type} : Left H := { results := [], args := [] }

/-- 'marcheslaw36.PartyOne': WHATEVER THE INPUT: true; the input reads as it did. -/
def partyOneSpec : ChangeSpec := { name := "partyOne", fn := fun _ => fun
  | [d1, d2] => { results := [.lit (.bool true)], args := [d1, d2] }
  | _ => none }
def partyOneRow : OpenClaim := { program := "ytlfbcoohfnoacaa", sum := "1e8551f0d4f245664e0b99865ffac6f030b1254782ea519b3273fb725e8c7a79", func := "marches/marcheslaw36.PartyOne", spec := "partyOne", inPlace := ["slices.overlaps[marches/party.Invite]"], unfollowed := true, recurses := true, apart := false }
def PartyOneSaid : Prop := partyOneRow.holds Try.pinned (OpenSpec.ofChange partyOneSpec)

/-- ITS FALSE NEIGHBOUR: 'it returns false'. Refute it at one input. -/
def partyOneWrong : ChangeSpec := { name := "partyOne", fn := fun _ => fun
  | [d1, d2] => { results := [.lit (.bool false)], args := [d1, d2] }
  | _ => none }
def PartyOneWrongFalsely : Prop := partyOneRow.holds Try.pinned (OpenSpec.ofChange partyOneWrong)

/-- 'marcheslaw36.PartyOthers': WHATEVER THE INPUT: true; the input reads as it did. -/
def partyOthersSpec : ChangeSpec := { name := "partyOthers", fn := fun _ => fun
  | [d1, d2] => { results := [.lit (.bool true)], args := [d1, d2] }
  | _ => none }
def partyOthersRow : OpenClaim := { program := "ytlfbcoohfnoacaa", sum := "1e8551f0d4f245664e0b99865ffac6f030b1254782ea519b3273fb725e8c7a79", func := "marches/marcheslaw36.PartyOthers", spec := "partyOthers", inPlace := ["slices.overlaps[marches/party.Invite]"], unfollowed := true, recurses := true, apart := false }
def PartyOthersSaid : Prop := partyOthersRow.holds Try.pinned (OpenSpec.ofChange partyOthersSpec)

/-- ITS FALSE NEIGHBOUR: 'it returns false'. Refute it at one input. -/
def partyOthersWrong : ChangeSpec := { name := "partyOthers", fn := fun _ => fun
  | [d1, d2] => { results := [.lit (.bool false)], args := [d1, d2] }
  | _ => none }
def PartyOthersWrongFalsely : Prop := partyOthersRow.holds Try.pinned (OpenSpec.ofChange partyOthersWrong)

/-- 'marcheslaw36.PartyJoins': WHATEVER THE INPUT: true; the input reads as it did. -/
def partyJoinsSpec : ChangeSpec := { name := "partyJoins", fn := fun _ => fun
  | [d1, d2, d3] => { results := [.lit (.bool true)], args := [d1, d2, d3] }
  | _ => none }
def partyJoinsRow : OpenClaim := { program := "ytlfbcoohfnoacaa", sum := "1e8551f0d4f245664e0b99865ffac6f030b1254782ea519b3273fb725e8c7a79", func := "marches/marcheslaw36.PartyJoins", spec := "partyJoins", inPlace := ["slices.overlaps[marches/party.Invite]"], unfollowed := true, recurses := true, apart := false }
def PartyJoinsSaid : Prop := partyJoinsRow.holds Try.pinned (OpenSpec.ofChange partyJoinsSpec)

/-- ITS FALSE NEIGHBOUR: 'it returns false'. Refute it at one input. -/
def partyJoinsWrong : ChangeSpec := { name := "partyJoins", fn := fun _ => fun
  | [d1, d2, d3] => { results := [.lit (.bool false)], args := [d1, d2, d3] }
  | _ => none }
def PartyJoinsWrongFalsely : Prop := partyJoinsRow.holds Try.pinned (OpenSpec.ofChange partyJoinsWrong)

/-- 'marcheslaw36.PartyLeaves': WHATEVER THE INPUT: true; the input reads as it did. -/
def partyLeavesSpec : ChangeSpec := { name := "partyLeaves", fn := fun _ => fun
  | [d1, d2] => { results := [.lit (.bool true)], args := [d1, d2] }
  | _ => none }
def partyLeavesRow : OpenClaim := { program := "ytlfbcoohfnoacaa", sum := "1e8551f0d4f245664e0b99865ffac6f030b1254782ea519b3273fb725e8c7a79", func := "marches/marcheslaw36.PartyLeaves", spec := "partyLeaves", inPlace := ["slices.overlaps[marches/party.Invite]"], unfollowed := true, recurses := true, apart := false }
def PartyLeavesSaid : Prop := partyLeavesRow.holds Try.pinned (OpenSpec.ofChange partyLeavesSpec)

/-- ITS FALSE NEIGHBOUR: 'it returns false'. Refute it at one input. -/
def partyLeavesWrong : ChangeSpec := { name := "partyLeaves", fn := fun _ => fun
  | [d1, d2] => { results := [.lit (.bool false)], args := [d1, d2] }
  | _ => none }
def PartyLeavesWrongFalsely : Prop := partyLeavesRow.holds Try.pinned (OpenSpec.ofChange partyLeavesWrong)

/-- 'marcheslaw36.PartyTime': WHATEVER THE INPUT: true; the input reads as it did. -/
def partyTimeSpec : ChangeSpec := { name := "partyTime", fn := fun _ => fun
  | [d1, d2, d3] => { results := [.lit (.bool true)], args := [d1, d2, d3] }
  | _ => none }
def partyTimeRow : OpenClaim := { program := "ytlfbcoohfnoacaa", sum := "1e8551f0d4f245664e0b99865ffac6f030b1254782ea519b3273fb725e8c7a79", func := "marches/marcheslaw36.PartyTime", spec := "partyTime", inPlace := ["slices.overlaps[marches/party.Invite]"], unfollowed := true, recurses := true, apart := false }
def PartyTimeSaid : Prop := partyTimeRow.holds Try.pinned (OpenSpec.ofChange partyTimeSpec)

/-- ITS FALSE NEIGHBOUR: 'it returns false'. Refute it at one input. -/
def partyTimeWrong : ChangeSpec := { name := "partyTime", fn := fun _ => fun
  | [d1, d2, d3] => { results := [.lit (.bool false)], args := [d1, d2, d3] }
  | _ => none }
def PartyTimeWrongFalsely : Prop := partyTimeRow.holds Try.pinned (OpenSpec.ofChange partyTimeWrong)

/-- 'marcheslaw36.PartyShares': WHATEVER THE INPUT: true; the input reads as it did. -/
def partySharesSpec : ChangeSpec := { name := "partyShares", fn := fun _ => fun
  | [d1, d2, d3] => { results := [.lit (.bool true)], args := [d1, d2, d3] }
  | _ => none }
def partySharesRow : OpenClaim := { program := "ytlfbcoohfnoacaa", sum := "1e8551f0d4f245664e0b99865ffac6f030b1254782ea519b3273fb725e8c7a79", func := "marches/marcheslaw36.PartyShares", spec := "partyShares", inPlace := ["slices.overlaps[marches/party.Invite]"], unfollowed := true, recurses := true, apart := false }
def PartySharesSaid : Prop := partySharesRow.holds Try.pinned (OpenSpec.ofChange partySharesSpec)

/-- ITS FALSE NEIGHBOUR: 'it returns false'. Refute it at one input. -/
def partySharesWrong : ChangeSpec := { name := "partyShares", fn := fun _ => fun
  | [d1, d2, d3] => { results := [.lit (.bool false)], args := [d1, d2, d3] }
  | _ => none }
def PartySharesWrongFalsely : Prop := partySharesRow.holds Try.pinned (OpenSpec.ofChange partySharesWrong)

/-- 'marcheslaw36.PartyWrong': WHATEVER THE INPUT: true; the input reads as it did. -/
def partyWrongSpec : ChangeSpec := { name := "partyWrong", fn := fun _ => fun
  | [d1, d2, d3] => { results := [.lit (.bool true)], args := [d1, d2, d3] }
  | _ => none }
def partyWrongRow : OpenClaim := { program := "ytlfbcoohfnoacaa", sum := "1e8551f0d4f245664e0b99865ffac6f030b1254782ea519b3273fb725e8c7a79", func := "marches/marcheslaw36.PartyWrong", spec := "partyWrong", inPlace := ["slices.overlaps[marches/party.Invite]"], unfollowed := true, recurses := true, apart := false }
def PartyWrongSaid : Prop := partyWrongRow.holds Try.pinned (OpenSpec.ofChange partyWrongSpec)

/-- ITS FALSE NEIGHBOUR: 'it returns false'. Refute it at one input. -/
def partyWrongWrong : ChangeSpec := { name := "partyWrong", fn := fun _ => fun
  | [d1, d2, d3] => { results := [.lit (.bool false)], args := [d1, d2, d3] }
  | _ => none }
def PartyWrongWrongFalsely : Prop := partyWrongRow.holds Try.pinned (OpenSpec.ofChange partyWrongWrong)

/- THE SECOND FORM. 'bulk': how many values and letters a reading holds, each counted each time it is reached (what is shared counts as often as it is met; a slice's spare places count too). A statement '..UptoSaid' is the law's where the arguments, and the package variables that the reading takes, are together of bulk at most 1048576: NARROWER than '..Said'. Prove '..Said' where nothing that the law and all that it calls make is longer than what came in: it says more and counts as full. Else prove '..UptoSaid'. A law counts once. -/
mutual
def uptoBulk {H : Type} : DataW H → Nat
  | .lit (.string bytes) => bytes.length + 1
  | .lit _ => 1
  | .nil => 1
  | .ptr d => uptoBulk d + 1
  | .slice elems spare => uptoBulkAll elems + uptoBulkAll spare + 1
  | .agg parts => uptoBulkAll parts + 1
  | .iface _ d => uptoBulk d + 1
  | .map entries => uptoBulkEntries entries + 1
  | .held _ => 1
def uptoBulkAll {H : Type} : List (DataW H) → Nat
  | [] => 0
  | d :: r => uptoBulk d + uptoBulkAll r
def uptoBulkEntries {H : Type} : List (Lit × DataW H) → Nat
  | [] => 0
  | x :: r => uptoBulkEntry x + uptoBulkEntries r
def uptoBulkEntry {H : Type} : Lit × DataW H → Nat
  | (.string bytes, d) => bytes.length + uptoBulk d + 1
  | (_, d) => uptoBulk d + 1
 end
def uptoSmall : (H : Type) → List (DataW H) → Bool := fun _ ds => decide (uptoBulkAll ds ≤ 1048576)
def OpenSpec.upto (s : _root_.Go.ChangeSpec) : _root_.Go.OpenSpec := { _root_.Go.OpenSpec.ofChange s with cond := some uptoSmall }

/-- 'marcheslaw36.PartyOne', WHERE WHAT IT READS IS OF BULK AT MOST 1048576: true; the input reads as it did. -/
def partyOneUptoRow : OpenClaim := { program := "ytlfbcoohfnoacaa", sum := "1e8551f0d4f245664e0b99865ffac6f030b1254782ea519b3273fb725e8c7a79", func := "marches/marcheslaw36.PartyOne", spec := "partyOne", inPlace := ["slices.overlaps[marches/party.Invite]"], unfollowed := true, recurses := true, apart := false, narrowed := true }
def PartyOneUptoSaid : Prop := partyOneUptoRow.holds Try.pinned (OpenSpec.upto partyOneSpec)

/-- 'marcheslaw36.PartyOthers', WHERE WHAT IT READS IS OF BULK AT MOST 1048576: true; the input reads as it did. -/
def partyOthersUptoRow : OpenClaim := { program := "ytlfbcoohfnoacaa", sum := "1e8551f0d4f245664e0b99865ffac6f030b1254782ea519b3273fb725e8c7a79", func := "marches/marcheslaw36.PartyOthers", spec := "partyOthers", inPlace := ["slices.overlaps[marches/party.Invite]"], unfollowed := true, recurses := true, apart := false, narrowed := true }
def PartyOthersUptoSaid : Prop := partyOthersUptoRow.holds Try.pinned (OpenSpec.upto partyOthersSpec)

/-- 'marcheslaw36.PartyJoins', WHERE WHAT IT READS IS OF BULK AT MOST 1048576: true; the input reads as it did. -/
def partyJoinsUptoRow : OpenClaim := { program := "ytlfbcoohfnoacaa", sum := "1e8551f0d4f245664e0b99865ffac6f030b1254782ea519b3273fb725e8c7a79", func := "marches/marcheslaw36.PartyJoins", spec := "partyJoins", inPlace := ["slices.overlaps[marches/party.Invite]"], unfollowed := true, recurses := true, apart := false, narrowed := true }
def PartyJoinsUptoSaid : Prop := partyJoinsUptoRow.holds Try.pinned (OpenSpec.upto partyJoinsSpec)

/-- 'marcheslaw36.PartyLeaves', WHERE WHAT IT READS IS OF BULK AT MOST 1048576: true; the input reads as it did. -/
def partyLeavesUptoRow : OpenClaim := { program := "ytlfbcoohfnoacaa", sum := "1e8551f0d4f245664e0b99865ffac6f030b1254782ea519b3273fb725e8c7a79", func := "marches/marcheslaw36.PartyLeaves", spec := "partyLeaves", inPlace := ["slices.overlaps[marches/party.Invite]"], unfollowed := true, recurses := true, apart := false, narrowed := true }
def PartyLeavesUptoSaid : Prop := partyLeavesUptoRow.holds Try.pinned (OpenSpec.upto partyLeavesSpec)

/-- 'marcheslaw36.PartyTime', WHERE WHAT IT READS IS OF BULK AT MOST 1048576: true; the input reads as it did. -/
def partyTimeUptoRow : OpenClaim := { program := "ytlfbcoohfnoacaa", sum := "1e8551f0d4f245664e0b99865ffac6f030b1254782ea519b3273fb725e8c7a79", func := "marches/marcheslaw36.PartyTime", spec := "partyTime", inPlace := ["slices.overlaps[marches/party.Invite]"], unfollowed := true, recurses := true, apart := false, narrowed := true }
def PartyTimeUptoSaid : Prop := partyTimeUptoRow.holds Try.pinned (OpenSpec.upto partyTimeSpec)

/-- 'marcheslaw36.PartyShares', WHERE WHAT IT READS IS OF BULK AT MOST 1048576: true; the input reads as it did. -/
def partySharesUptoRow : OpenClaim := { program := "ytlfbcoohfnoacaa", sum := "1e8551f0d4f245664e0b99865ffac6f030b1254782ea519b3273fb725e8c7a79", func := "marches/marcheslaw36.PartyShares", spec := "partyShares", inPlace := ["slices.overlaps[marches/party.Invite]"], unfollowed := true, recurses := true, apart := false, narrowed := true }
def PartySharesUptoSaid : Prop := partySharesUptoRow.holds Try.pinned (OpenSpec.upto partySharesSpec)

/-- 'marcheslaw36.PartyWrong', WHERE WHAT IT READS IS OF BULK AT MOST 1048576: true; the input reads as it did. -/
def partyWrongUptoRow : OpenClaim := { program := "ytlfbcoohfnoacaa", sum := "1e8551f0d4f245664e0b99865ffac6f030b1254782ea519b3273fb725e8c7a79", func := "marches/marcheslaw36.PartyWrong", spec := "partyWrong", inPlace := ["slices.overlaps[marches/party.Invite]"], unfollowed := true, recurses := true, apart := false, narrowed := true }
def PartyWrongUptoSaid : Prop := partyWrongUptoRow.holds Try.pinned (OpenSpec.upto partyWrongSpec)

end Rows
end Go.Proofs.Ytlfbcoohfnoacaa
