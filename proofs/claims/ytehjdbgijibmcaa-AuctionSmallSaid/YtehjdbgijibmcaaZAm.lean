/- Layer 34 (auction): what the functions compute. Plain Lean. -/
import Derived.Test.YtehjdbgijibmcaaZAs
set_option linter.unusedSimpArgs false
set_option linter.unusedVariables false
namespace Go.Proofs.Ytehjdbgijibmcaa
open Go.Fw Go.RowKit
/-- A lot. -/
structure Lot where
  id : Int
  seller : Int
  item : Int
  count : Int
  reserve : Int
  till : Int
  leader : Int
  most : Int
  price : Int
  deriving DecidableEq
instance : Flat Lot := ⟨9, fun x => [.int .i64 x.id, .int .i64 x.seller, .int .i64 x.item, .int .i64 x.count, .int .i64 x.reserve, .int .i64 x.till, .int .i64 x.leader, .int .i64 x.most, .int .i64 x.price], ⟨0, 0, 0, 0, 0, 0, 0, 0, 0⟩, fun _ => rfl, fun x v hv => by
  simp at hv; rcases hv with rfl | rfl | rfl | rfl | rfl | rfl | rfl | rfl | rfl <;> rfl, by omega⟩
/-- A move. -/
structure Mv where
  src : Int
  dst : Int
  item : Int
  n : Int
  deriving DecidableEq
instance : Flat Mv := ⟨4, fun x => [.int .i64 x.src, .int .i64 x.dst, .int .i64 x.item, .int .i64 x.n], ⟨0, 0, 0, 0⟩, fun _ => rfl, fun x v hv => by simp at hv; rcases hv with rfl | rfl | rfl | rfl <;> rfl, by omega⟩
structure House where
  tick : Int
  last : Int
  lots : List Lot
  deriving DecidableEq
def house0 : House := ⟨0, 0, []⟩
def inB (n lo hi : Int) : Bool := decide (lo ≤ n) && decide (n ≤ hi)
def GOLD : Int := 2147483647
def rightL (l : Lot) (tick : Int) : Bool :=
  inB l.seller 1 65536 && inB l.item 1 3 && inB l.count 1 1000 && inB l.reserve 1 2147483647 && inB l.till (tick + 1) (tick + 10000) &&
    (if l.leader = 0 then decide (l.most = 0) && decide (l.price = 0) else inB l.leader 1 65536 && !decide (l.leader = l.seller) && inB l.price l.reserve l.most && decide (l.most ≤ 2147483647))
def risingL (last top tick : Int) : List Lot → Bool
  | [] => true
  | l :: r => decide (last < l.id) && decide (l.id ≤ top) && rightL l tick && risingL l.id top tick r
def validH (h : House) : Bool := inB h.tick 0 1073741824 && inB h.last 0 1048576 && decide (h.lots.length ≤ 32) && risingL 0 h.last h.tick h.lots
def nextP (p : Int) : Int := if inB p 0 2147483647 then p + p / 16 + 1 else 0
def movesN (l : List Mv) : List Mv := l.filter fun m => !decide (m.n = 0)
def bump4 (out : List Int) (l : Lot) : List Int := (out.set 0 (out.getD 0 0 + l.most)).set l.item.toNat ((out.set 0 (out.getD 0 0 + l.most)).getD l.item.toNat 0 + l.count)
def holdsH (h : House) : List Int := if validH h then h.lots.foldl bump4 [0, 0, 0, 0] else [0, 0, 0, 0]
abbrev Res := House × List Mv × Int
def newLot (h : House) (seller item count reserve ticks : Int) : Lot := ⟨h.last + 1, seller, item, count, reserve, h.tick + ticks, 0, 0, 0⟩
def openH (h : House) (seller item count reserve ticks : Int) : Res :=
  if validH h && inB ticks 1 10000 then
    if rightL (newLot h seller item count reserve ticks) h.tick then
      if h.lots.length < 32 ∧ h.last < 1048576 then (⟨h.tick, h.last + 1, h.lots ++ [newLot h seller item count reserve ticks]⟩, movesN [⟨seller, 0, item, count⟩], 0)
      else (house0, [], 4)
    else (house0, [], 2)
  else (house0, [], 2)
def idxL (p : Lot → Bool) : List Lot → Option Nat
  | [] => none
  | l :: r => if p l then some 0 else (idxL p r).map (· + 1)
/-- What an offer makes of a lot; none: it is too low. -/
def bidLot (l : Lot) (who most : Int) : Option (Lot × List Mv) :=
  if l.leader = 0 then
    if most < l.reserve then none else some ({ l with leader := who, most := most, price := l.reserve }, movesN [⟨who, 0, 0, most⟩])
  else if l.leader = who then
    if most ≤ l.most then none else some ({ l with most := most }, movesN [⟨who, 0, 0, most - l.most⟩])
  else if l.most < most then some ({ l with leader := who, most := most, price := min most (nextP l.most) }, movesN [⟨who, 0, 0, most⟩, ⟨0, l.leader, 0, l.most⟩])
  else if most < nextP l.price then none else some ({ l with price := min l.most (nextP most) }, [])
def bidH (h : House) (id who most : Int) : Res :=
  if validH h then
    match idxL (fun l => decide (l.id = id)) h.lots with
    | none => (house0, [], 6)
    | some at_ =>
      if inB who 1 65536 && inB most 1 2147483647 then
        if (h.lots.getD at_ Flat.dflt).seller = who then (house0, [], 340)
        else match bidLot (h.lots.getD at_ Flat.dflt) who most with
          | none => (house0, [], 341)
          | some (l, m) => (⟨h.tick, h.last, h.lots.set at_ { l with till := max l.till (h.tick + 20) }⟩, m, 0)
      else (house0, [], 2)
  else (house0, [], 2)
def cancelH (h : House) (id who : Int) : Res :=
  if validH h then
    match idxL (fun l => decide (l.id = id)) h.lots with
    | none => (house0, [], 6)
    | some at_ =>
      if (h.lots.getD at_ Flat.dflt).seller = who then
        if (h.lots.getD at_ Flat.dflt).leader = 0 then (⟨h.tick, h.last, h.lots.eraseIdx at_⟩, movesN [⟨0, (h.lots.getD at_ Flat.dflt).seller, (h.lots.getD at_ Flat.dflt).item, (h.lots.getD at_ Flat.dflt).count⟩], 0)
        else (house0, [], 343)
      else (house0, [], 344)
  else (house0, [], 2)
def sortL (l : List Lot) : List Lot := sortK Lot.till l
def endMoves (l : Lot) : List Mv := movesN [⟨0, l.seller, 0, l.price⟩, ⟨0, l.leader, 0, l.most - l.price⟩, ⟨0, if l.leader = 0 then l.seller else l.leader, l.item, l.count⟩]
def advH (h : House) (tick : Int) : Res :=
  if validH h && inB tick 0 1073741824 then
    if tick < h.tick then (house0, [], 342)
    else (⟨tick, h.last, h.lots.filter fun l => !decide (l.till ≤ tick)⟩, ((sortL h.lots).takeWhile fun l => decide (l.till ≤ tick)).flatMap endMoves, 0)
  else (house0, [], 2)
end Go.Proofs.Ytehjdbgijibmcaa
