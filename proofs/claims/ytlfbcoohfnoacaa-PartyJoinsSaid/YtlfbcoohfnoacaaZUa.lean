/- Layer 36 (party): what the functions compute. Plain Lean. -/
import Derived.Test.YtlfbcoohfnoacaaZMp
set_option linter.unusedSimpArgs false
set_option linter.unusedVariables false
namespace Go.Proofs.Ytlfbcoohfnoacaa
open Go.Fw Go.RowKit
/-- An invitation. -/
structure Inv where
  who : Int
  till : Int
  deriving DecidableEq
/-- A party. -/
structure Pty where
  id : Int
  leader : Int
  mem : List Int
  inv : List Inv
  deriving DecidableEq
structure Hal where
  tick : Int
  last : Int
  ps : List Pty
  deriving DecidableEq
def hal0 : Hal := ⟨0, 0, []⟩
def pty0 : Pty := ⟨0, 0, [], []⟩
def isIdB (n : Int) : Bool := decide (1 ≤ n) && decide (n ≤ 65536)
def allM (ps : List Pty) : List Int := ps.flatMap Pty.mem
/-- The players of a list of players, put into a map with the place of their party, plus one. -/
def putM (at' : Int) : List Int → List (Int × Int) → List (Int × Int)
  | [], m => m
  | x :: l, m => putM at' l (mput m x (at' + 1))
/-- What places() makes, from party number at' on. -/
def placesFrom : Nat → List Pty → List (Int × Int) → List (Int × Int)
  | _, [], m => m
  | k, p :: r, m => placesFrom (k + 1) r (putM k p.mem m)
def placesM (ps : List Pty) : List (Int × Int) := placesFrom 0 ps []
/-- The first party of which a player is a member. -/
def findM (who : Int) : List Pty → Option Nat
  | [] => none
  | p :: r => if who ∈ p.mem then some 0 else (findM who r).map (· + 1)
def invB (tick : Int) (all : List Int) : Int → List Inv → Bool
  | _, [] => true
  | w, i :: r => decide (w < i.who) && isIdB i.who && !decide (i.who ∈ all) && decide (tick < i.till) && decide (i.till ≤ tick + 600) && invB tick all i.who r
def ptyB (last top tick : Int) (all : List Int) (p : Pty) : Bool :=
  decide (last < p.id) && decide (p.id ≤ top) && decide (1 ≤ p.mem.length) && decide (p.mem.length + p.inv.length ≤ 5) && decide (p.leader ∈ p.mem) && invB tick all 0 p.inv && p.mem.all isIdB
def risingP (top tick : Int) (all : List Int) : Int → List Pty → Bool
  | _, [] => true
  | last, p :: r => ptyB last top tick all p && risingP top tick all p.id r
def validHal (h : Hal) : Bool :=
  decide (0 ≤ h.tick) && decide (h.tick ≤ 1073741824) && decide (0 ≤ h.last) && decide (h.last ≤ 1048576) && decide (h.ps.length ≤ 32) && risingP h.last h.tick (allM h.ps) 0 h.ps && decide (allM h.ps).Nodup
/-- All parties with the invitations only of which 'is' is false. -/
def uninvM (is : Pty → Inv → Bool) (ps : List Pty) : List Pty := ps.map fun p => { p with inv := p.inv.filter fun i => !is p i }
abbrev ResP := Hal × Int
def changeM (h : Hal) (f : Hal → ResP) : ResP :=
  if validHal h then (if (f h).2 = 0 then f h else (hal0, (f h).2)) else (hal0, 2)
def advM (h : Hal) (t : Int) : ResP :=
  if validHal h then
    if 0 ≤ t ∧ t ≤ 1073741824 then
      if t < h.tick then (hal0, 360) else (⟨t, h.last, uninvM (fun _ i => decide (i.till ≤ t)) h.ps⟩, 0)
    else (hal0, 2)
  else (hal0, 2)
def createM (h : Hal) (who : Int) : ResP :=
  if validHal h then
    if isIdB who = true then
      if who ∈ allM h.ps then (hal0, 361)
      else if h.ps.length < 32 ∧ h.last < 1048576 then (⟨h.tick, h.last + 1, uninvM (fun _ i => decide (i.who = who)) h.ps ++ [⟨h.last + 1, who, [who], []⟩]⟩, 0)
      else (hal0, 4)
    else (hal0, 2)
  else (hal0, 2)
/-- What a leader does: the place of the party, or the error. -/
def leadM (h : Hal) (by' : Int) (f : Nat → ResP) : ResP :=
  if validHal h then
    match findM by' h.ps with
    | none => (hal0, 6)
    | some k => if (h.ps.getD k pty0).leader = by' then f k else (hal0, 362)
  else (hal0, 2)
def insI (x : Inv) : List Inv → List Inv
  | [] => [x]
  | i :: r => if x.who ≤ i.who then x :: i :: r else i :: insI x r
def invitedM (h : Hal) (by' who : Int) : ResP :=
  leadM h by' fun k =>
    if isIdB who = true then
      if who ∈ allM h.ps then (hal0, 361)
      else if who ∈ (h.ps.getD k pty0).inv.map Inv.who then (hal0, 363)
      else if (h.ps.getD k pty0).mem.length + (h.ps.getD k pty0).inv.length < 5 then
        (⟨h.tick, h.last, h.ps.set k { h.ps.getD k pty0 with inv := insI ⟨who, h.tick + 600⟩ (h.ps.getD k pty0).inv }⟩, 0)
      else (hal0, 4)
    else (hal0, 2)
/-- The first party with this ID to which the player is invited. -/
def askedM (who id : Int) : List Pty → Option Nat
  | [] => none
  | p :: r => if p.id = id ∧ who ∈ p.inv.map Inv.who then some 0 else (askedM who id r).map (· + 1)
def answerM (h : Hal) (who id : Int) (yes : Bool) : ResP :=
  if validHal h then
    match askedM who id h.ps with
    | none => (hal0, 6)
    | some k =>
      let ps := uninvM (fun p i => decide (i.who = who) && (yes || decide (p.id = id))) h.ps
      (⟨h.tick, h.last, if yes then ps.set k { ps.getD k pty0 with mem := (ps.getD k pty0).mem ++ [who] } else ps⟩, 0)
  else (hal0, 2)
/-- A party without a member; none: it is empty then. -/
def leftM (who : Int) (p : Pty) : Option Pty :=
  match p.mem.filter fun n => !decide (n = who) with
  | [] => none
  | x :: r => some { p with mem := x :: r, leader := if p.leader = who then x else p.leader }
def leaveAt (h : Hal) (k : Nat) (who : Int) : Hal :=
  match leftM who (h.ps.getD k pty0) with
  | none => ⟨h.tick, h.last, h.ps.eraseIdx k⟩
  | some p => ⟨h.tick, h.last, h.ps.set k p⟩
def leaveM (h : Hal) (who : Int) : ResP :=
  if validHal h then
    match findM who h.ps with
    | none => (hal0, 6)
    | some k => (leaveAt h k who, 0)
  else (hal0, 2)
def kickM (h : Hal) (by' who : Int) : ResP :=
  leadM h by' fun k => if findM who h.ps = some k then (if who = by' then (hal0, 2) else (leaveAt h k who, 0)) else (hal0, 6)
def promoteM (h : Hal) (by' who : Int) : ResP :=
  leadM h by' fun k => if findM who h.ps = some k then (⟨h.tick, h.last, h.ps.set k { h.ps.getD k pty0 with leader := who }⟩, 0) else (hal0, 6)
def disbandM (h : Hal) (by' : Int) : ResP := leadM h by' fun k => (⟨h.tick, h.last, h.ps.eraseIdx k⟩, 0)
def ofM (h : Hal) (who : Int) : Option Pty := if validHal h then (findM who h.ps).map fun k => h.ps.getD k pty0 else none
def idxP (id : Int) : List Pty → Option Nat
  | [] => none
  | p :: r => if p.id = id then some 0 else (idxP id r).map (· + 1)
def sharesM (amount : Int) (n : Nat) : List Int := (List.range n).map fun (i : Nat) => amount / (n : Int) + (if (i : Int) < amount % (n : Int) then 1 else 0)
def shareM (h : Hal) (id amount : Int) : List Int × Int :=
  if validHal h then
    match idxP id h.ps with
    | none => ([], 6)
    | some k => if 0 ≤ amount ∧ amount ≤ 1099511627776 then (sharesM amount (h.ps.getD k pty0).mem.length, 0) else ([], 2)
  else ([], 2)
/-! The map of the places. -/
theorem putM_find (a : Int) (l : List Int) : ∀ (m : List (Int × Int)) (who : Int), mfind (putM a l m) who = if who ∈ l then some (a + 1) else mfind m who := by
  induction l with
  | nil => intro m who; simp [putM]
  | cons x l ih =>
    intro m who
    simp only [putM]
    rw [ih, mfind_put]
    by_cases h : who ∈ l
    · rw [if_pos h, if_pos (List.mem_cons_of_mem _ h)]
    · rw [if_neg h]
      by_cases hx : x = who
      · rw [if_pos hx, if_pos (by rw [hx]; exact List.mem_cons_self)]
      · rw [if_neg hx, if_neg (fun hm => (List.mem_cons.mp hm).elim (fun e => hx e.symm) h)]
theorem mfind_keys (l : List (Int × Int)) (k : Int) : (mfind l k).isSome = decide (k ∈ l.map (·.1)) := by
  induction l with
  | nil => simp [mfind]
  | cons x l ih =>
    simp only [mfind]
    by_cases h : x.1 = k
    · rw [if_pos h]; simp [h]
    · rw [if_neg h, ih]
      have h' : ¬ k = x.1 := fun e => h e.symm
      simp [h']
theorem putM_nodup (a : Int) (l : List Int) : ∀ (m : List (Int × Int)), (m.map (·.1)).Nodup → ((putM a l m).map (·.1)).Nodup := by
  induction l with
  | nil => intro m h; exact h
  | cons x l ih =>
    intro m h
    refine ih _ ?_
    rw [mput_keys]
    split
    · exact h
    · rename_i hx
      rw [List.nodup_append]
      exact ⟨h, by simp, fun a ha b hb => by rw [List.mem_singleton.mp hb]; exact fun e => hx (e ▸ ha)⟩
/-- How long the map is: it is as long as the list only if no player comes twice. -/
theorem putM_len (a : Int) (l : List Int) : ∀ (m : List (Int × Int)), (putM a l m).length ≤ m.length + l.length ∧ ((putM a l m).length = m.length + l.length ↔ l.Nodup ∧ ∀ x ∈ l, x ∉ m.map (·.1)) := by
  induction l with
  | nil => intro m; simp [putM]
  | cons x l ih =>
    intro m
    simp only [putM]
    obtain ⟨h1, h2⟩ := ih (mput m x (a + 1))
    have hk := mput_keys m x (a + 1)
    by_cases hx : x ∈ m.map (·.1)
    · rw [if_pos hx] at hk
      have hl := congrArg List.length hk
      simp only [List.length_map] at hl
      refine ⟨by rw [List.length_cons]; omega, ⟨fun e => ?_, fun e => absurd hx (e.2 x List.mem_cons_self)⟩⟩
      rw [List.length_cons] at e; omega
    · rw [if_neg hx] at hk
      have hl := congrArg List.length hk
      simp only [List.length_map, List.length_append, List.length_singleton] at hl
      refine ⟨by rw [List.length_cons]; omega, ?_⟩
      rw [List.length_cons, show m.length + (l.length + 1) = (mput m x (a + 1)).length + l.length by omega, h2, hk, List.nodup_cons]
      constructor
      · rintro ⟨hn, hd⟩
        refine ⟨⟨fun hm => hd x hm (List.mem_append_right _ List.mem_cons_self), hn⟩, fun y hy => ?_⟩
        rcases List.mem_cons.mp hy with rfl | hy
        · exact hx
        · exact fun hm => hd y hy (List.mem_append_left _ hm)
      · rintro ⟨⟨hxl, hn⟩, hd⟩
        refine ⟨hn, fun y hy hm => ?_⟩
        rcases List.mem_append.mp hm with hm | hm
        · exact hd y (List.mem_cons_of_mem _ hy) hm
        · rw [List.mem_singleton.mp hm] at hy; exact hxl hy
end Go.Proofs.Ytlfbcoohfnoacaa
