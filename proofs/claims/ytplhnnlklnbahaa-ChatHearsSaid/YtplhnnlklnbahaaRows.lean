/-
  No cell of these rows narrows 'for every input' (looked for: loops, veiled, ifaces, maps, wideKeys, modest, calm, conditions, laid).
  DERIVED. THE GIVEN ROWS OF THIS SEAT. 8 by the template 'for every input the law returns true; each argument reads behind the call as it read before'; 0 by the template 'total and deterministic' (their statements: YtplhnnlklnbahaaTotals.lean).
  GIVEN WITH THE SEED: the statements are not yours to turn. If you find one false, say at which input.
  Laid BY PROGRAM, IN A SANDBOX (cutbox-rows.mjs): the forced cells as the released guide's own fill.sh prints them over the translation 18bc66450b51a5c6… (all of the seat's roots in one cut). By AI agents, Wed Nov 11 2026. No macro, syntax, notation, axiom, sorry.
-/
import Derived.Test.YtplhnnlklnbahaaChecked
import GoSem.Claim
import GoSem.ClaimJoined
import GoSem.ClaimMapViews
import Derived.JoinedTies
import Derived.KernelRfl
namespace Go.Proofs.Ytplhnnlklnbahaa
/- THE CELL 'sum', in the pinned program and in every row, IS THE sha256 OF THE DUMP (.gsa) THAT YtplhnnlklnbahaaProg.lean LOADS. Nothing in Lean hashes anything: it is a label: what it is worth is what the hold of that sum in a sandbox is worth. -/
noncomputable def Try.pinned : Pinned := { name := "ytplhnnlklnbahaa", sum := "18bc66450b51a5c6d0a489c27998320f811b571ffaf420637a99e80a82740953", checked := Try.checked }
namespace Rows
def none {H : Type} : Left H := { results := [], args := [] }

/-- 'marcheslaw37.ChatHears': WHATEVER THE INPUT: true; the input reads as it did. -/
def chatHearsSpec : ChangeSpec := { name := "chatHears", fn := fun _ => fun
  | [d1, d2, d3] => { results := [.lit (.bool true)], args := [d1, d2, d3] }
  | _ => none }
def chatHearsRow : OpenClaim := { program := "ytplhnnlklnbahaa", sum := "18bc66450b51a5c6d0a489c27998320f811b571ffaf420637a99e80a82740953", func := "marches/marcheslaw37.ChatHears", spec := "chatHears", inPlace := ["internal/bytealg.IndexByteString", "internal/bytealg.IndexString", "slices.overlaps[marches/chat.Member]", "slices.overlaps[int]"], unfollowed := true, recurses := true, named := ["internal/bytealg.MaxLen"], apart := false }
def ChatHearsSaid : Prop := chatHearsRow.holds Try.pinned (OpenSpec.ofChange chatHearsSpec)

/-- ITS FALSE NEIGHBOUR: 'it returns false'. Refute it at one input. -/
def chatHearsWrong : ChangeSpec := { name := "chatHears", fn := fun _ => fun
  | [d1, d2, d3] => { results := [.lit (.bool false)], args := [d1, d2, d3] }
  | _ => none }
def ChatHearsWrongFalsely : Prop := chatHearsRow.holds Try.pinned (OpenSpec.ofChange chatHearsWrong)

/-- 'marcheslaw37.ChatTwice': WHATEVER THE INPUT: true; the input reads as it did. -/
def chatTwiceSpec : ChangeSpec := { name := "chatTwice", fn := fun _ => fun
  | [d1, d2, d3] => { results := [.lit (.bool true)], args := [d1, d2, d3] }
  | _ => none }
def chatTwiceRow : OpenClaim := { program := "ytplhnnlklnbahaa", sum := "18bc66450b51a5c6d0a489c27998320f811b571ffaf420637a99e80a82740953", func := "marches/marcheslaw37.ChatTwice", spec := "chatTwice", inPlace := ["internal/bytealg.IndexByteString", "internal/bytealg.IndexString", "slices.overlaps[marches/chat.Member]", "slices.overlaps[int]"], unfollowed := true, recurses := true, named := ["internal/bytealg.MaxLen"], apart := false }
def ChatTwiceSaid : Prop := chatTwiceRow.holds Try.pinned (OpenSpec.ofChange chatTwiceSpec)

/-- ITS FALSE NEIGHBOUR: 'it returns false'. Refute it at one input. -/
def chatTwiceWrong : ChangeSpec := { name := "chatTwice", fn := fun _ => fun
  | [d1, d2, d3] => { results := [.lit (.bool false)], args := [d1, d2, d3] }
  | _ => none }
def ChatTwiceWrongFalsely : Prop := chatTwiceRow.holds Try.pinned (OpenSpec.ofChange chatTwiceWrong)

/-- 'marcheslaw37.ChatFilters': WHATEVER THE INPUT: true; the input reads as it did. -/
def chatFiltersSpec : ChangeSpec := { name := "chatFilters", fn := fun _ => fun
  | [d1, d2] => { results := [.lit (.bool true)], args := [d1, d2] }
  | _ => none }
def chatFiltersRow : OpenClaim := { program := "ytplhnnlklnbahaa", sum := "18bc66450b51a5c6d0a489c27998320f811b571ffaf420637a99e80a82740953", func := "marches/marcheslaw37.ChatFilters", spec := "chatFilters", inPlace := ["internal/bytealg.IndexByteString", "internal/bytealg.IndexString", "slices.overlaps[marches/chat.Member]", "slices.overlaps[int]"], unfollowed := true, recurses := true, named := ["internal/bytealg.MaxLen"], apart := false }
def ChatFiltersSaid : Prop := chatFiltersRow.holds Try.pinned (OpenSpec.ofChange chatFiltersSpec)

/-- ITS FALSE NEIGHBOUR: 'it returns false'. Refute it at one input. -/
def chatFiltersWrong : ChangeSpec := { name := "chatFilters", fn := fun _ => fun
  | [d1, d2] => { results := [.lit (.bool false)], args := [d1, d2] }
  | _ => none }
def ChatFiltersWrongFalsely : Prop := chatFiltersRow.holds Try.pinned (OpenSpec.ofChange chatFiltersWrong)

/-- 'marcheslaw37.ChatMasked': WHATEVER THE INPUT: true; the input reads as it did. -/
def chatMaskedSpec : ChangeSpec := { name := "chatMasked", fn := fun _ => fun
  | [d1, d2] => { results := [.lit (.bool true)], args := [d1, d2] }
  | _ => none }
def chatMaskedRow : OpenClaim := { program := "ytplhnnlklnbahaa", sum := "18bc66450b51a5c6d0a489c27998320f811b571ffaf420637a99e80a82740953", func := "marches/marcheslaw37.ChatMasked", spec := "chatMasked", inPlace := ["internal/bytealg.IndexByteString", "internal/bytealg.IndexString", "slices.overlaps[marches/chat.Member]", "slices.overlaps[int]"], unfollowed := true, recurses := true, named := ["internal/bytealg.MaxLen"], apart := false }
def ChatMaskedSaid : Prop := chatMaskedRow.holds Try.pinned (OpenSpec.ofChange chatMaskedSpec)

/-- ITS FALSE NEIGHBOUR: 'it returns false'. Refute it at one input. -/
def chatMaskedWrong : ChangeSpec := { name := "chatMasked", fn := fun _ => fun
  | [d1, d2] => { results := [.lit (.bool false)], args := [d1, d2] }
  | _ => none }
def ChatMaskedWrongFalsely : Prop := chatMaskedRow.holds Try.pinned (OpenSpec.ofChange chatMaskedWrong)

/-- 'marcheslaw37.ChatPieces': WHATEVER THE INPUT: true; the input reads as it did. -/
def chatPiecesSpec : ChangeSpec := { name := "chatPieces", fn := fun _ => fun
  | [d1, d2, d3] => { results := [.lit (.bool true)], args := [d1, d2, d3] }
  | _ => none }
def chatPiecesRow : OpenClaim := { program := "ytplhnnlklnbahaa", sum := "18bc66450b51a5c6d0a489c27998320f811b571ffaf420637a99e80a82740953", func := "marches/marcheslaw37.ChatPieces", spec := "chatPieces", inPlace := ["internal/bytealg.IndexByteString", "internal/bytealg.IndexString", "slices.overlaps[marches/chat.Member]", "slices.overlaps[int]"], unfollowed := true, recurses := true, named := ["internal/bytealg.MaxLen"], apart := false }
def ChatPiecesSaid : Prop := chatPiecesRow.holds Try.pinned (OpenSpec.ofChange chatPiecesSpec)

/-- ITS FALSE NEIGHBOUR: 'it returns false'. Refute it at one input. -/
def chatPiecesWrong : ChangeSpec := { name := "chatPieces", fn := fun _ => fun
  | [d1, d2, d3] => { results := [.lit (.bool false)], args := [d1, d2, d3] }
  | _ => none }
def ChatPiecesWrongFalsely : Prop := chatPiecesRow.holds Try.pinned (OpenSpec.ofChange chatPiecesWrong)

/-- 'marcheslaw37.ChatLast': WHATEVER THE INPUT: true; the input reads as it did. -/
def chatLastSpec : ChangeSpec := { name := "chatLast", fn := fun _ => fun
  | [d1, d2] => { results := [.lit (.bool true)], args := [d1, d2] }
  | _ => none }
def chatLastRow : OpenClaim := { program := "ytplhnnlklnbahaa", sum := "18bc66450b51a5c6d0a489c27998320f811b571ffaf420637a99e80a82740953", func := "marches/marcheslaw37.ChatLast", spec := "chatLast", inPlace := ["internal/bytealg.IndexByteString", "internal/bytealg.IndexString", "slices.overlaps[marches/chat.Member]", "slices.overlaps[int]"], unfollowed := true, recurses := true, named := ["internal/bytealg.MaxLen"], apart := false }
def ChatLastSaid : Prop := chatLastRow.holds Try.pinned (OpenSpec.ofChange chatLastSpec)

/-- ITS FALSE NEIGHBOUR: 'it returns false'. Refute it at one input. -/
def chatLastWrong : ChangeSpec := { name := "chatLast", fn := fun _ => fun
  | [d1, d2] => { results := [.lit (.bool false)], args := [d1, d2] }
  | _ => none }
def ChatLastWrongFalsely : Prop := chatLastRow.holds Try.pinned (OpenSpec.ofChange chatLastWrong)

/-- 'marcheslaw37.ChatWrong': WHATEVER THE INPUT: true; the input reads as it did. -/
def chatWrongSpec : ChangeSpec := { name := "chatWrong", fn := fun _ => fun
  | [d1, d2, d3] => { results := [.lit (.bool true)], args := [d1, d2, d3] }
  | _ => none }
def chatWrongRow : OpenClaim := { program := "ytplhnnlklnbahaa", sum := "18bc66450b51a5c6d0a489c27998320f811b571ffaf420637a99e80a82740953", func := "marches/marcheslaw37.ChatWrong", spec := "chatWrong", inPlace := ["internal/bytealg.IndexByteString", "internal/bytealg.IndexString", "slices.overlaps[marches/chat.Member]", "slices.overlaps[int]"], unfollowed := true, recurses := true, named := ["internal/bytealg.MaxLen"], apart := false }
def ChatWrongSaid : Prop := chatWrongRow.holds Try.pinned (OpenSpec.ofChange chatWrongSpec)

/-- ITS FALSE NEIGHBOUR: 'it returns false'. Refute it at one input. -/
def chatWrongWrong : ChangeSpec := { name := "chatWrong", fn := fun _ => fun
  | [d1, d2, d3] => { results := [.lit (.bool false)], args := [d1, d2, d3] }
  | _ => none }
def ChatWrongWrongFalsely : Prop := chatWrongRow.holds Try.pinned (OpenSpec.ofChange chatWrongWrong)

/-- 'marcheslaw37.ChatQuiet': WHATEVER THE INPUT: true; the input reads as it did. -/
def chatQuietSpec : ChangeSpec := { name := "chatQuiet", fn := fun _ => fun
  | [d1, d2] => { results := [.lit (.bool true)], args := [d1, d2] }
  | _ => none }
def chatQuietRow : OpenClaim := { program := "ytplhnnlklnbahaa", sum := "18bc66450b51a5c6d0a489c27998320f811b571ffaf420637a99e80a82740953", func := "marches/marcheslaw37.ChatQuiet", spec := "chatQuiet", inPlace := ["internal/bytealg.IndexByteString", "internal/bytealg.IndexString", "slices.overlaps[marches/chat.Member]", "slices.overlaps[int]"], unfollowed := true, recurses := true, named := ["internal/bytealg.MaxLen"], apart := false }
def ChatQuietSaid : Prop := chatQuietRow.holds Try.pinned (OpenSpec.ofChange chatQuietSpec)

/-- ITS FALSE NEIGHBOUR: 'it returns false'. Refute it at one input. -/
def chatQuietWrong : ChangeSpec := { name := "chatQuiet", fn := fun _ => fun
  | [d1, d2] => { results := [.lit (.bool false)], args := [d1, d2] }
  | _ => none }
def ChatQuietWrongFalsely : Prop := chatQuietRow.holds Try.pinned (OpenSpec.ofChange chatQuietWrong)

/- THE SECOND FORM. 'bulk': how many values and letters a reading holds, each counted each time it is reached (what is shared counts as often as it is met; a slice's spare places count too). A statement '..UptoSaid' is the law's where the arguments, and the package variables that the reading takes, are together of bulk at most 1048576: NARROWER than '..Said'. Prove '..Said' where nothing that the law and all that it calls make is longer than what came in: it says more and counts as full. Else prove '..UptoSaid'. A law counts once. -/
mutual
def uptoBulk {H : Type} : DataW H → Nat
  | .lit (.string bytes) => bytes.length + 1
  | .lit _ => 1
  | .nil => 1
  | .ptr d => uptoBulk d + 1
  | .slice elems spare => uptoBulkAll elems + uptoBulkAll spare + 1
  | .agg parts => uptoBulkAll parts + 1
  | .iface _ d => uptoBulk d + 1
  | .map entries => uptoBulkEntries entries + 1
  | .held _ => 1
def uptoBulkAll {H : Type} : List (DataW H) → Nat
  | [] => 0
  | d :: r => uptoBulk d + uptoBulkAll r
def uptoBulkEntries {H : Type} : List (Lit × DataW H) → Nat
  | [] => 0
  | x :: r => uptoBulkEntry x + uptoBulkEntries r
def uptoBulkEntry {H : Type} : Lit × DataW H → Nat
  | (.string bytes, d) => bytes.length + uptoBulk d + 1
  | (_, d) => uptoBulk d + 1
 end
def uptoSmall : (H : Type) → List (DataW H) → Bool := fun _ ds => decide (uptoBulkAll ds ≤ 1048576)
def OpenSpec.upto (s : _root_.Go.ChangeSpec) : _root_.Go.OpenSpec := { _root_.Go.OpenSpec.ofChange s with cond := some uptoSmall }

/-- 'marcheslaw37.ChatHears', WHERE WHAT IT READS IS OF BULK AT MOST 1048576: true; the input reads as it did. -/
def chatHearsUptoRow : OpenClaim := { program := "ytplhnnlklnbahaa", sum := "18bc66450b51a5c6d0a489c27998320f811b571ffaf420637a99e80a82740953", func := "marches/marcheslaw37.ChatHears", spec := "chatHears", inPlace := ["internal/bytealg.IndexByteString", "internal/bytealg.IndexString", "slices.overlaps[marches/chat.Member]", "slices.overlaps[int]"], unfollowed := true, recurses := true, named := ["internal/bytealg.MaxLen"], apart := false, narrowed := true }
def ChatHearsUptoSaid : Prop := chatHearsUptoRow.holds Try.pinned (OpenSpec.upto chatHearsSpec)

/-- 'marcheslaw37.ChatTwice', WHERE WHAT IT READS IS OF BULK AT MOST 1048576: true; the input reads as it did. -/
def chatTwiceUptoRow : OpenClaim := { program := "ytplhnnlklnbahaa", sum := "18bc66450b51a5c6d0a489c27998320f811b571ffaf420637a99e80a82740953", func := "marches/marcheslaw37.ChatTwice", spec := "chatTwice", inPlace := ["internal/bytealg.IndexByteString", "internal/bytealg.IndexString", "slices.overlaps[marches/chat.Member]", "slices.overlaps[int]"], unfollowed := true, recurses := true, named := ["internal/bytealg.MaxLen"], apart := false, narrowed := true }
def ChatTwiceUptoSaid : Prop := chatTwiceUptoRow.holds Try.pinned (OpenSpec.upto chatTwiceSpec)

/-- 'marcheslaw37.ChatFilters', WHERE WHAT IT READS IS OF BULK AT MOST 1048576: true; the input reads as it did. -/
def chatFiltersUptoRow : OpenClaim := { program := "ytplhnnlklnbahaa", sum := "18bc66450b51a5c6d0a489c27998320f811b571ffaf420637a99e80a82740953", func := "marches/marcheslaw37.ChatFilters", spec := "chatFilters", inPlace := ["internal/bytealg.IndexByteString", "internal/bytealg.IndexString", "slices.overlaps[marches/chat.Member]", "slices.overlaps[int]"], unfollowed := true, recurses := true, named := ["internal/bytealg.MaxLen"], apart := false, narrowed := true }
def ChatFiltersUptoSaid : Prop := chatFiltersUptoRow.holds Try.pinned (OpenSpec.upto chatFiltersSpec)

/-- 'marcheslaw37.ChatMasked', WHERE WHAT IT READS IS OF BULK AT MOST 1048576: true; the input reads as it did. -/
def chatMaskedUptoRow : OpenClaim := { program := "ytplhnnlklnbahaa", sum := "18bc66450b51a5c6d0a489c27998320f811b571ffaf420637a99e80a82740953", func := "marches/marcheslaw37.ChatMasked", spec := "chatMasked", inPlace := ["internal/bytealg.IndexByteString", "internal/bytealg.IndexString", "slices.overlaps[marches/chat.Member]", "slices.overlaps[int]"], unfollowed := true, recurses := true, named := ["internal/bytealg.MaxLen"], apart := false, narrowed := true }
def ChatMaskedUptoSaid : Prop := chatMaskedUptoRow.holds Try.pinned (OpenSpec.upto chatMaskedSpec)

/-- 'marcheslaw37.ChatPieces', WHERE WHAT IT READS IS OF BULK AT MOST 1048576: true; the input reads as it did. -/
def chatPiecesUptoRow : OpenClaim := { program := "ytplhnnlklnbahaa", sum := "18bc66450b51a5c6d0a489c27998320f811b571ffaf420637a99e80a82740953", func := "marches/marcheslaw37.ChatPieces", spec := "chatPieces", inPlace := ["internal/bytealg.IndexByteString", "internal/bytealg.IndexString", "slices.overlaps[marches/chat.Member]", "slices.overlaps[int]"], unfollowed := true, recurses := true, named := ["internal/bytealg.MaxLen"], apart := false, narrowed := true }
def ChatPiecesUptoSaid : Prop := chatPiecesUptoRow.holds Try.pinned (OpenSpec.upto chatPiecesSpec)

/-- 'marcheslaw37.ChatLast', WHERE WHAT IT READS IS OF BULK AT MOST 1048576: true; the input reads as it did. -/
def chatLastUptoRow : OpenClaim := { program := "ytplhnnlklnbahaa", sum := "18bc66450b51a5c6d0a489c27998320f811b571ffaf420637a99e80a82740953", func := "marches/marcheslaw37.ChatLast", spec := "chatLast", inPlace := ["internal/bytealg.IndexByteString", "internal/bytealg.IndexString", "slices.overlaps[marches/chat.Member]", "slices.overlaps[int]"], unfollowed := true, recurses := true, named := ["internal/bytealg.MaxLen"], apart := false, narrowed := true }
def ChatLastUptoSaid : Prop := chatLastUptoRow.holds Try.pinned (OpenSpec.upto chatLastSpec)

/-- 'marcheslaw37.ChatWrong', WHERE WHAT IT READS IS OF BULK AT MOST 1048576: true; the input reads as it did. -/
def chatWrongUptoRow : OpenClaim := { program := "ytplhnnlklnbahaa", sum := "18bc66450b51a5c6d0a489c27998320f811b571ffaf420637a99e80a82740953", func := "marches/marcheslaw37.ChatWrong", spec := "chatWrong", inPlace := ["internal/bytealg.IndexByteString", "internal/bytealg.IndexString", "slices.overlaps[marches/chat.Member]", "slices.overlaps[int]"], unfollowed := true, recurses := true, named := ["internal/bytealg.MaxLen"], apart := false, narrowed := true }
def ChatWrongUptoSaid : Prop := chatWrongUptoRow.holds Try.pinned (OpenSpec.upto chatWrongSpec)

/-- 'marcheslaw37.ChatQuiet', WHERE WHAT IT READS IS OF BULK AT MOST 1048576: true; the input reads as it did. -/
def chatQuietUptoRow : OpenClaim := { program := "ytplhnnlklnbahaa", sum := "18bc66450b51a5c6d0a489c27998320f811b571ffaf420637a99e80a82740953", func := "marches/marcheslaw37.ChatQuiet", spec := "chatQuiet", inPlace := ["internal/bytealg.IndexByteString", "internal/bytealg.IndexString", "slices.overlaps[marches/chat.Member]", "slices.overlaps[int]"], unfollowed := true, recurses := true, named := ["internal/bytealg.MaxLen"], apart := false, narrowed := true }
def ChatQuietUptoSaid : Prop := chatQuietUptoRow.holds Try.pinned (OpenSpec.upto chatQuietSpec)

end Rows
end Go.Proofs.Ytplhnnlklnbahaa
