/- Rules of the walk. -/
import Derived.Test.YtlfbcoohfnoacaaGreatYMp
set_option linter.unusedSimpArgs false
set_option linter.unusedVariables false
/- Layer 36 (party): what the functions compute. Plain Lean. -/
namespace Go.Proofs.YtlfbcoohfnoacaaGreat
open Go.Fw Go.RowKit
/-- An invitation. -/
structure Inv where
  who : Int
  till : Int
  deriving DecidableEq
/-- A party. -/
structure Pty where
  id : Int
  leader : Int
  mem : List Int
  inv : List Inv
  deriving DecidableEq
structure Hal where
  tick : Int
  last : Int
  ps : List Pty
  deriving DecidableEq
def hal0 : Hal := ⟨0, 0, []⟩
def pty0 : Pty := ⟨0, 0, [], []⟩
def isIdB (n : Int) : Bool := decide (1 ≤ n) && decide (n ≤ 65536)
def allM (ps : List Pty) : List Int := ps.flatMap Pty.mem
/-- The players of a list of players, put into a map with the place of their party, plus one. -/
def putM (at' : Int) : List Int → List (Int × Int) → List (Int × Int)
  | [], m => m
  | x :: l, m => putM at' l (mput m x (at' + 1))
/-- What places() makes, from party number at' on. -/
def placesFrom : Nat → List Pty → List (Int × Int) → List (Int × Int)
  | _, [], m => m
  | k, p :: r, m => placesFrom (k + 1) r (putM k p.mem m)
def placesM (ps : List Pty) : List (Int × Int) := placesFrom 0 ps []
/-- The first party of which a player is a member. -/
def findM (who : Int) : List Pty → Option Nat
  | [] => none
  | p :: r => if who ∈ p.mem then some 0 else (findM who r).map (· + 1)
def invB (tick : Int) (all : List Int) : Int → List Inv → Bool
  | _, [] => true
  | w, i :: r => decide (w < i.who) && isIdB i.who && !decide (i.who ∈ all) && decide (tick < i.till) && decide (i.till ≤ tick + 600) && invB tick all i.who r
def ptyB (last top tick : Int) (all : List Int) (p : Pty) : Bool :=
  decide (last < p.id) && decide (p.id ≤ top) && decide (1 ≤ p.mem.length) && decide (p.mem.length + p.inv.length ≤ 5) && decide (p.leader ∈ p.mem) && invB tick all 0 p.inv && p.mem.all isIdB
def risingP (top tick : Int) (all : List Int) : Int → List Pty → Bool
  | _, [] => true
  | last, p :: r => ptyB last top tick all p && risingP top tick all p.id r
def validHal (h : Hal) : Bool :=
  decide (0 ≤ h.tick) && decide (h.tick ≤ 1073741824) && decide (0 ≤ h.last) && decide (h.last ≤ 1048576) && decide (h.ps.length ≤ 32) && risingP h.last h.tick (allM h.ps) 0 h.ps && decide (allM h.ps).Nodup
/-- All parties with the invitations only of which 'is' is false. -/
def uninvM (is : Pty → Inv → Bool) (ps : List Pty) : List Pty := ps.map fun p => { p with inv := p.inv.filter fun i => !is p i }
abbrev ResP := Hal × Int
def changeM (h : Hal) (f : Hal → ResP) : ResP :=
  if validHal h then (if (f h).2 = 0 then f h else (hal0, (f h).2)) else (hal0, 2)
def advM (h : Hal) (t : Int) : ResP :=
  if validHal h then
    if 0 ≤ t ∧ t ≤ 1073741824 then
      if t < h.tick then (hal0, 360) else (⟨t, h.last, uninvM (fun _ i => decide (i.till ≤ t)) h.ps⟩, 0)
    else (hal0, 2)
  else (hal0, 2)
def createM (h : Hal) (who : Int) : ResP :=
  if validHal h then
    if isIdB who = true then
      if who ∈ allM h.ps then (hal0, 361)
      else if h.ps.length < 32 ∧ h.last < 1048576 then (⟨h.tick, h.last + 1, uninvM (fun _ i => decide (i.who = who)) h.ps ++ [⟨h.last + 1, who, [who], []⟩]⟩, 0)
      else (hal0, 4)
    else (hal0, 2)
  else (hal0, 2)
/-- What a leader does: the place of the party, or the error. -/
def leadM (h : Hal) (by' : Int) (f : Nat → ResP) : ResP :=
  if validHal h then
    match findM by' h.ps with
    | none => (hal0, 6)
    | some k => if (h.ps.getD k pty0).leader = by' then f k else (hal0, 362)
  else (hal0, 2)
def insI (x : Inv) : List Inv → List Inv
  | [] => [x]
  | i :: r => if x.who ≤ i.who then x :: i :: r else i :: insI x r
def invitedM (h : Hal) (by' who : Int) : ResP :=
  leadM h by' fun k =>
    if isIdB who = true then
      if who ∈ allM h.ps then (hal0, 361)
      else if who ∈ (h.ps.getD k pty0).inv.map Inv.who then (hal0, 363)
      else if (h.ps.getD k pty0).mem.length + (h.ps.getD k pty0).inv.length < 5 then
        (⟨h.tick, h.last, h.ps.set k { h.ps.getD k pty0 with inv := insI ⟨who, h.tick + 600⟩ (h.ps.getD k pty0).inv }⟩, 0)
      else (hal0, 4)
    else (hal0, 2)
/-- The first party with this ID to which the player is invited. -/
def askedM (who id : Int) : List Pty → Option Nat
  | [] => none
  | p :: r => if p.id = id ∧ who ∈ p.inv.map Inv.who then some 0 else (askedM who id r).map (· + 1)
def answerM (h : Hal) (who id : Int) (yes : Bool) : ResP :=
  if validHal h then
    match askedM who id h.ps with
    | none => (hal0, 6)
    | some k =>
      let ps := uninvM (fun p i => decide (i.who = who) && (yes || decide (p.id = id))) h.ps
      (⟨h.tick, h.last, if yes then ps.set k { ps.getD k pty0 with mem := (ps.getD k pty0).mem ++ [who] } else ps⟩, 0)
  else (hal0, 2)
/-- A party without a member; none: it is empty then. -/
def leftM (who : Int) (p : Pty) : Option Pty :=
  match p.mem.filter fun n => !decide (n = who) with
  | [] => none
  | x :: r => some { p with mem := x :: r, leader := if p.leader = who then x else p.leader }
def leaveAt (h : Hal) (k : Nat) (who : Int) : Hal :=
  match leftM who (h.ps.getD k pty0) with
  | none => ⟨h.tick, h.last, h.ps.eraseIdx k⟩
  | some p => ⟨h.tick, h.last, h.ps.set k p⟩
def leaveM (h : Hal) (who : Int) : ResP :=
  if validHal h then
    match findM who h.ps with
    | none => (hal0, 6)
    | some k => (leaveAt h k who, 0)
  else (hal0, 2)
def kickM (h : Hal) (by' who : Int) : ResP :=
  leadM h by' fun k => if findM who h.ps = some k then (if who = by' then (hal0, 2) else (leaveAt h k who, 0)) else (hal0, 6)
def promoteM (h : Hal) (by' who : Int) : ResP :=
  leadM h by' fun k => if findM who h.ps = some k then (⟨h.tick, h.last, h.ps.set k { h.ps.getD k pty0 with leader := who }⟩, 0) else (hal0, 6)
def disbandM (h : Hal) (by' : Int) : ResP := leadM h by' fun k => (⟨h.tick, h.last, h.ps.eraseIdx k⟩, 0)
def ofM (h : Hal) (who : Int) : Option Pty := if validHal h then (findM who h.ps).map fun k => h.ps.getD k pty0 else none
def idxP (id : Int) : List Pty → Option Nat
  | [] => none
  | p :: r => if p.id = id then some 0 else (idxP id r).map (· + 1)
def sharesM (amount : Int) (n : Nat) : List Int := (List.range n).map fun (i : Nat) => amount / (n : Int) + (if (i : Int) < amount % (n : Int) then 1 else 0)
def shareM (h : Hal) (id amount : Int) : List Int × Int :=
  if validHal h then
    match idxP id h.ps with
    | none => ([], 6)
    | some k => if 0 ≤ amount ∧ amount ≤ 1099511627776 then (sharesM amount (h.ps.getD k pty0).mem.length, 0) else ([], 2)
  else ([], 2)
/-! The map of the places. -/
theorem putM_find (a : Int) (l : List Int) : ∀ (m : List (Int × Int)) (who : Int), mfind (putM a l m) who = if who ∈ l then some (a + 1) else mfind m who := by
  induction l with
  | nil => intro m who; simp [putM]
  | cons x l ih =>
    intro m who
    simp only [putM]
    rw [ih, mfind_put]
    by_cases h : who ∈ l
    · rw [if_pos h, if_pos (List.mem_cons_of_mem _ h)]
    · rw [if_neg h]
      by_cases hx : x = who
      · rw [if_pos hx, if_pos (by rw [hx]; exact List.mem_cons_self)]
      · rw [if_neg hx, if_neg (fun hm => (List.mem_cons.mp hm).elim (fun e => hx e.symm) h)]
theorem mfind_keys (l : List (Int × Int)) (k : Int) : (mfind l k).isSome = decide (k ∈ l.map (·.1)) := by
  induction l with
  | nil => simp [mfind]
  | cons x l ih =>
    simp only [mfind]
    by_cases h : x.1 = k
    · rw [if_pos h]; simp [h]
    · rw [if_neg h, ih]
      have h' : ¬ k = x.1 := fun e => h e.symm
      simp [h']
theorem putM_nodup (a : Int) (l : List Int) : ∀ (m : List (Int × Int)), (m.map (·.1)).Nodup → ((putM a l m).map (·.1)).Nodup := by
  induction l with
  | nil => intro m h; exact h
  | cons x l ih =>
    intro m h
    refine ih _ ?_
    rw [mput_keys]
    split
    · exact h
    · rename_i hx
      rw [List.nodup_append]
      exact ⟨h, by simp, fun a ha b hb => by rw [List.mem_singleton.mp hb]; exact fun e => hx (e ▸ ha)⟩
/-- How long the map is: it is as long as the list only if no player comes twice. -/
theorem putM_len (a : Int) (l : List Int) : ∀ (m : List (Int × Int)), (putM a l m).length ≤ m.length + l.length ∧ ((putM a l m).length = m.length + l.length ↔ l.Nodup ∧ ∀ x ∈ l, x ∉ m.map (·.1)) := by
  induction l with
  | nil => intro m; simp [putM]
  | cons x l ih =>
    intro m
    simp only [putM]
    obtain ⟨h1, h2⟩ := ih (mput m x (a + 1))
    have hk := mput_keys m x (a + 1)
    by_cases hx : x ∈ m.map (·.1)
    · rw [if_pos hx] at hk
      have hl := congrArg List.length hk
      simp only [List.length_map] at hl
      refine ⟨by rw [List.length_cons]; omega, ⟨fun e => ?_, fun e => absurd hx (e.2 x List.mem_cons_self)⟩⟩
      rw [List.length_cons] at e; omega
    · rw [if_neg hx] at hk
      have hl := congrArg List.length hk
      simp only [List.length_map, List.length_append, List.length_singleton] at hl
      refine ⟨by rw [List.length_cons]; omega, ?_⟩
      rw [List.length_cons, show m.length + (l.length + 1) = (mput m x (a + 1)).length + l.length by omega, h2, hk, List.nodup_cons]
      constructor
      · rintro ⟨hn, hd⟩
        refine ⟨⟨fun hm => hd x hm (List.mem_append_right _ List.mem_cons_self), hn⟩, fun y hy => ?_⟩
        rcases List.mem_cons.mp hy with rfl | hy
        · exact hx
        · exact fun hm => hd y hy (List.mem_append_left _ hm)
      · rintro ⟨⟨hxl, hn⟩, hd⟩
        refine ⟨hn, fun y hy hm => ?_⟩
        rcases List.mem_append.mp hm with hm | hm
        · exact hd y (List.mem_cons_of_mem _ hy) hm
        · rw [List.mem_singleton.mp hm] at hy; exact hxl hy
end Go.Proofs.YtlfbcoohfnoacaaGreat

/- Layer 36 (party): the map of the places. Plain Lean. -/
namespace Go.Proofs.YtlfbcoohfnoacaaGreat
open Go.Fw Go.RowKit
theorem allM_cons (p : Pty) (r : List Pty) : allM (p :: r) = p.mem ++ allM r := rfl
theorem putM_keys (a : Int) (l : List Int) : ∀ (m : List (Int × Int)) (x : Int), x ∈ (putM a l m).map (·.1) ↔ x ∈ l ∨ x ∈ m.map (·.1) := by
  intro m x
  have h1 := mfind_keys (putM a l m) x
  have h2 := mfind_keys m x
  rw [putM_find] at h1
  by_cases hx : x ∈ l
  · rw [if_pos hx] at h1
    have : x ∈ (putM a l m).map (·.1) := by simpa using h1.symm
    exact ⟨fun _ => Or.inl hx, fun _ => this⟩
  · rw [if_neg hx, h2] at h1
    have : (x ∈ m.map (·.1)) ↔ x ∈ (putM a l m).map (·.1) := by simpa using h1
    rw [← this]
    exact ⟨Or.inr, fun h => h.resolve_left hx⟩
theorem placesFrom_has (ps : List Pty) : ∀ (k : Nat) (m : List (Int × Int)) (who : Int), (mfind (placesFrom k ps m) who).isSome = (decide (who ∈ allM ps) || (mfind m who).isSome) := by
  induction ps with
  | nil => intro k m who; simp [placesFrom, allM]
  | cons p r ih =>
    intro k m who
    simp only [placesFrom]
    rw [ih, putM_find, allM_cons]
    by_cases h : who ∈ p.mem
    · rw [if_pos h]; simp [h]
    · rw [if_neg h]; simp [h]
theorem placesFrom_pos (ps : List Pty) : ∀ (k : Nat) (m : List (Int × Int)) (who : Int), (∀ v, mfind m who = some v → 0 < v) → ∀ v, mfind (placesFrom k ps m) who = some v → 0 < v := by
  induction ps with
  | nil => intro k m who h; exact h
  | cons p r ih =>
    intro k m who h
    refine ih (k + 1) _ who (fun v hv => ?_)
    rw [putM_find] at hv
    split at hv
    · cases hv; omega
    · exact h v hv
/-- A player has a place if it is a member of a party. -/
theorem places_pos (ps : List Pty) (who : Int) : decide (0 < mget (placesM ps) who) = decide (who ∈ allM ps) := by
  have h1 := placesFrom_has ps 0 [] who
  have h2 := placesFrom_pos ps 0 [] who (by simp [mfind])
  unfold mget placesM
  cases h : mfind (placesFrom 0 ps []) who with
  | none => rw [h] at h1; simp [mfind] at h1; simp [h1]
  | some v => rw [h] at h1; simp [mfind] at h1; have := h2 v h; simp [h1, this]
theorem places_nonneg (ps : List Pty) (who : Int) : 0 ≤ mget (placesM ps) who := by
  have h2 := placesFrom_pos ps 0 [] who (by simp [mfind])
  unfold mget placesM
  cases h : mfind (placesFrom 0 ps []) who with
  | none => simp
  | some v => have := h2 v h; simp; omega
theorem placesFrom_len (ps : List Pty) : ∀ (k : Nat) (m : List (Int × Int)), (placesFrom k ps m).length ≤ m.length + (allM ps).length ∧ ((placesFrom k ps m).length = m.length + (allM ps).length ↔ (allM ps).Nodup ∧ ∀ x ∈ allM ps, x ∉ m.map (·.1)) := by
  induction ps with
  | nil => intro k m; simp [placesFrom, allM]
  | cons p r ih =>
    intro k m
    simp only [placesFrom]
    obtain ⟨h1, h2⟩ := ih (k + 1) (putM k p.mem m)
    obtain ⟨h3, h4⟩ := putM_len k p.mem m
    rw [allM_cons, List.length_append]
    refine ⟨by omega, ?_⟩
    rw [List.nodup_append]
    constructor
    · intro e
      have e1 : (putM k p.mem m).length = m.length + p.mem.length := by omega
      obtain ⟨n1, d1⟩ := h4.1 e1
      obtain ⟨n2, d2⟩ := h2.1 (by omega)
      refine ⟨⟨n1, n2, fun a ha b hb he => d2 b hb ((putM_keys ..).2 (Or.inl (he ▸ ha)))⟩, fun x hx => ?_⟩
      rcases List.mem_append.mp hx with hx | hx
      · exact d1 x hx
      · exact fun hm => d2 x hx ((putM_keys ..).2 (Or.inr hm))
    · rintro ⟨⟨n1, n2, n3⟩, d⟩
      have e1 := h4.2 ⟨n1, fun x hx => d x (List.mem_append_left _ hx)⟩
      have e2 := h2.2 ⟨n2, fun x hx hm => ?_⟩
      · omega
      · rcases (putM_keys ..).1 hm with h | h
        · exact n3 x h x hx rfl
        · exact d x (List.mem_append_right _ hx) h
/-- The map is as long as the lists only if no player comes twice. -/
theorem places_len (ps : List Pty) : decide ((allM ps).length = (placesM ps).length) = decide (allM ps).Nodup := by
  have h := (placesFrom_len ps 0 []).2
  simp only [List.length_nil, Nat.zero_add, List.map_nil] at h
  unfold placesM
  by_cases hn : (allM ps).Nodup
  · simp [hn, h.2 ⟨hn, fun x _ => List.not_mem_nil⟩]
  · have : ¬ (allM ps).length = (placesFrom 0 ps []).length := fun e => hn (h.1 e.symm).1
    simp [hn, this]
theorem findM_none {who : Int} (ps : List Pty) : findM who ps = none ↔ who ∉ allM ps := by
  induction ps with
  | nil => simp [findM, allM]
  | cons p r ih =>
    simp only [findM]
    rw [allM_cons]
    by_cases h : who ∈ p.mem
    · rw [if_pos h]; simp [h]
    · rw [if_neg h]; simp [h, ih]
theorem findM_some {who : Int} (ps : List Pty) : ∀ {k : Nat}, findM who ps = some k → k < ps.length ∧ who ∈ (ps.getD k pty0).mem := by
  induction ps with
  | nil => intro k h; cases h
  | cons p r ih =>
    intro k h
    simp only [findM] at h
    split at h
    · rename_i hp; cases h; exact ⟨by simp, hp⟩
    · cases hf : findM who r with
      | none => rw [hf] at h; cases h
      | some j =>
        rw [hf] at h; cases h
        obtain ⟨h1, h2⟩ := ih hf
        exact ⟨by simp only [List.length_cons]; omega, by simpa using h2⟩
theorem placesFrom_find (ps : List Pty) : ∀ (k : Nat) (m : List (Int × Int)) (who : Int), (allM ps).Nodup → mfind (placesFrom k ps m) who = match findM who ps with | some j => some ((k : Int) + j + 1) | none => mfind m who := by
  induction ps with
  | nil => intro k m who _; rfl
  | cons p r ih =>
    intro k m who hn
    rw [allM_cons, List.nodup_append] at hn
    simp only [placesFrom, findM]
    rw [ih _ _ _ hn.2.1, putM_find]
    by_cases h : who ∈ p.mem
    · rw [if_pos h, if_pos h]
      rw [(findM_none r).2 (fun hm => hn.2.2 who h who hm rfl)]
      simp
    · rw [if_neg h, if_neg h]
      cases hf : findM who r with
      | none => rfl
      | some j => simp only [Option.map_some]; congr 1; push_cast; omega
/-- The place of a player, plus one; 0: it is in no party. -/
theorem places_find (ps : List Pty) (who : Int) (hn : (allM ps).Nodup) : mget (placesM ps) who = match findM who ps with | some j => (j : Int) + 1 | none => 0 := by
  unfold mget placesM
  rw [placesFrom_find ps 0 [] who hn]
  cases findM who ps with
  | none => rfl
  | some j => simp
/-- Members of two parties are not the same. -/
theorem findM_unique {ps : List Pty} (hn : (allM ps).Nodup) {k : Nat} (hk : k < ps.length) {who : Int} (hm : who ∈ (ps.getD k pty0).mem) : findM who ps = some k := by
  induction ps generalizing k with
  | nil => simp at hk
  | cons p r ih =>
    rw [allM_cons, List.nodup_append] at hn
    simp only [findM]
    cases k with
    | zero => rw [if_pos (by simpa using hm)]
    | succ k =>
      have hk' : k < r.length := by simpa using hk
      have hm' : who ∈ (r.getD k pty0).mem := by simpa using hm
      have hf := ih hn.2.1 hk' hm'
      have hw : who ∈ allM r := by
        refine Decidable.of_not_not fun hc => ?_
        rw [(findM_none r).2 hc] at hf; cases hf
      rw [if_neg (fun h => hn.2.2 who h who hw rfl), hf]; rfl
end Go.Proofs.YtlfbcoohfnoacaaGreat

/- Layer 36 (party): what is done in a valid hall gives a valid hall. Plain Lean. -/
namespace Go.Proofs.YtlfbcoohfnoacaaGreat
open Go.Fw Go.RowKit
theorem isIdB_iff {n : Int} : isIdB n = true ↔ 1 ≤ n ∧ n ≤ 65536 := by unfold isIdB; simp
/-- What is right about an invitation. -/
def okI (tick : Int) (all : List Int) (i : Inv) : Prop := 1 ≤ i.who ∧ i.who ≤ 65536 ∧ i.who ∉ all ∧ tick < i.till ∧ i.till ≤ tick + 600
theorem invB_iff {tick : Int} {all : List Int} (l : List Inv) : ∀ {w : Int}, invB tick all w l = true ↔ l.Pairwise (fun a b => a.who < b.who) ∧ ∀ i ∈ l, w < i.who ∧ okI tick all i := by
  induction l with
  | nil => intro w; simp [invB]
  | cons i r ih =>
    intro w
    simp only [invB, Bool.and_eq_true, decide_eq_true_eq, isIdB_iff, Bool.not_eq_true', decide_eq_false_iff_not, ih, List.pairwise_cons, List.mem_cons]
    unfold okI
    constructor
    · rintro ⟨⟨⟨⟨⟨h1, h2⟩, h3⟩, h4⟩, h5⟩, h6, h7⟩
      refine ⟨⟨fun j hj => (h7 j hj).1, h6⟩, ?_⟩
      rintro j (rfl | hj)
      · exact ⟨h1, h2.1, h2.2, h3, h4, h5⟩
      · exact ⟨by have := (h7 j hj).1; omega, (h7 j hj).2⟩
    · rintro ⟨⟨h6, h7⟩, h8⟩
      obtain ⟨h1, h2, h2', h3, h4, h5⟩ := h8 i (Or.inl rfl)
      exact ⟨⟨⟨⟨⟨h1, h2, h2'⟩, h3⟩, h4⟩, h5⟩, h7, fun j hj => ⟨h6 j hj, (h8 j (Or.inr hj)).2⟩⟩
/-- What is right about a party. -/
def okP (top tick : Int) (all : List Int) (p : Pty) : Prop :=
  p.id ≤ top ∧ 1 ≤ p.mem.length ∧ p.mem.length + p.inv.length ≤ 5 ∧ p.leader ∈ p.mem ∧ p.inv.Pairwise (fun a b => a.who < b.who) ∧ (∀ i ∈ p.inv, okI tick all i) ∧ ∀ n ∈ p.mem, 1 ≤ n ∧ n ≤ 65536
theorem ptyB_iff {last top tick : Int} {all : List Int} {p : Pty} : ptyB last top tick all p = true ↔ last < p.id ∧ okP top tick all p := by
  unfold ptyB okP
  simp only [Bool.and_eq_true, decide_eq_true_eq, List.all_eq_true, isIdB_iff, invB_iff]
  constructor
  · rintro ⟨⟨⟨⟨⟨⟨h1, h2⟩, h3⟩, h4⟩, h5⟩, h6, h7⟩, h8⟩
    exact ⟨h1, h2, h3, h4, h5, h6, fun i hi => (h7 i hi).2, h8⟩
  · rintro ⟨h1, h2, h3, h4, h5, h6, h7, h8⟩
    exact ⟨⟨⟨⟨⟨⟨h1, h2⟩, h3⟩, h4⟩, h5⟩, h6, fun i hi => ⟨by have := (h7 i hi).1; omega, h7 i hi⟩⟩, h8⟩
theorem risingP_iff {top tick : Int} {all : List Int} (ps : List Pty) : ∀ {last : Int}, risingP top tick all last ps = true ↔ ps.Pairwise (fun a b => a.id < b.id) ∧ ∀ p ∈ ps, last < p.id ∧ okP top tick all p := by
  induction ps with
  | nil => intro last; simp [risingP]
  | cons p r ih =>
    intro last
    simp only [risingP, Bool.and_eq_true, ptyB_iff, ih, List.pairwise_cons, List.mem_cons]
    constructor
    · rintro ⟨⟨h1, h2⟩, h3, h4⟩
      refine ⟨⟨fun q hq => (h4 q hq).1, h3⟩, ?_⟩
      rintro q (rfl | hq)
      · exact ⟨h1, h2⟩
      · exact ⟨by have := (h4 q hq).1; omega, (h4 q hq).2⟩
    · rintro ⟨⟨h1, h2⟩, h3⟩
      exact ⟨h3 p (Or.inl rfl), h2, fun q hq => ⟨h1 q hq, (h3 q (Or.inr hq)).2⟩⟩
/-- A valid hall. -/
structure VHal (h : Hal) : Prop where
  t0 : 0 ≤ h.tick
  t1 : h.tick ≤ 1073741824
  l0 : 0 ≤ h.last
  l1 : h.last ≤ 1048576
  len : h.ps.length ≤ 32
  ids : h.ps.Pairwise fun a b => a.id < b.id
  pos : ∀ p ∈ h.ps, 0 < p.id
  ok : ∀ p ∈ h.ps, okP h.last h.tick (allM h.ps) p
  nd : (allM h.ps).Nodup
theorem valid_iff {h : Hal} : validHal h = true ↔ VHal h := by
  unfold validHal
  simp only [Bool.and_eq_true, decide_eq_true_eq, risingP_iff]
  constructor
  · rintro ⟨⟨⟨⟨⟨⟨h1, h2⟩, h3⟩, h4⟩, h5⟩, h6, h7⟩, h8⟩
    exact ⟨h1, h2, h3, h4, h5, h6, fun p hp => (h7 p hp).1, fun p hp => (h7 p hp).2, h8⟩
  · rintro ⟨h1, h2, h3, h4, h5, h6, h7, h8, h9⟩
    exact ⟨⟨⟨⟨⟨⟨h1, h2⟩, h3⟩, h4⟩, h5⟩, h6, fun p hp => ⟨h7 p hp, h8 p hp⟩⟩, h9⟩
theorem mem_allM {ps : List Pty} {x : Int} : x ∈ allM ps ↔ ∃ p ∈ ps, x ∈ p.mem := List.mem_flatMap
theorem allM_append (a b : List Pty) : allM (a ++ b) = allM a ++ allM b := List.flatMap_append
theorem ps_split {ps : List Pty} {k : Nat} (hk : k < ps.length) : ps = ps.take k ++ ps.getD k pty0 :: ps.drop (k + 1) := by
  have h1 := List.take_append_drop k ps
  rw [List.drop_eq_getElem_cons hk] at h1
  rw [List.getD_eq_getElem?_getD, List.getElem?_eq_getElem hk]
  exact h1.symm
theorem ps_set {ps : List Pty} {k : Nat} (hk : k < ps.length) (p : Pty) : ps.set k p = ps.take k ++ p :: ps.drop (k + 1) := by
  rw [List.set_eq_take_append_cons_drop, if_pos hk]
theorem ps_erase (ps : List Pty) (k : Nat) : ps.eraseIdx k = ps.take k ++ ps.drop (k + 1) := List.eraseIdx_eq_take_drop_succ ps k
theorem allM_uninv (is : Pty → Inv → Bool) (ps : List Pty) : allM (uninvM is ps) = allM ps := by
  induction ps with
  | nil => rfl
  | cons p r ih => exact congrArg (p.mem ++ ·) ih
theorem uninv_len (is : Pty → Inv → Bool) (ps : List Pty) : (uninvM is ps).length = ps.length := List.length_map ..
theorem mem_uninv {is : Pty → Inv → Bool} {ps : List Pty} {p : Pty} : p ∈ uninvM is ps ↔ ∃ q ∈ ps, p = { q with inv := q.inv.filter fun i => !is q i } := by
  unfold uninvM
  rw [List.mem_map]
  exact ⟨fun ⟨q, h1, h2⟩ => ⟨q, h1, h2.symm⟩, fun ⟨q, h1, h2⟩ => ⟨q, h1, h2.symm⟩⟩
/-- Fewer invitations, a later tick, more members that are invited nowhere: a party stays right. -/
theorem okP_filter {top top' tick tick' : Int} {all all' : List Int} {p : Pty} (f : Inv → Bool) (h : okP top tick all p) (ht : top ≤ top') (hf : ∀ i ∈ p.inv, f i = true → okI tick all i → okI tick' all' i) :
    okP top' tick' all' { p with inv := p.inv.filter f } := by
  obtain ⟨h1, h2, h3, h4, h5, h6, h7⟩ := h
  have hl := List.length_filter_le f p.inv
  exact ⟨by show p.id ≤ top'; omega, h2, by show p.mem.length + (p.inv.filter f).length ≤ 5; omega, h4, h5.filter _, fun i hi => hf i (List.mem_filter.mp hi).1 (List.mem_filter.mp hi).2 (h6 i (List.mem_filter.mp hi).1), h7⟩
theorem uninv_ids {is : Pty → Inv → Bool} {ps : List Pty} (h : ps.Pairwise fun a b => a.id < b.id) : (uninvM is ps).Pairwise fun a b => a.id < b.id := by
  unfold uninvM
  rw [List.pairwise_map]
  exact h
theorem uninv_valid {h : Hal} (hv : VHal h) {is : Pty → Inv → Bool} {tick last : Int} (t0 : 0 ≤ tick) (t1 : tick ≤ 1073741824) (l0 : h.last ≤ last) (l1 : last ≤ 1048576)
    (hf : ∀ p ∈ h.ps, ∀ i ∈ p.inv, is p i = false → okI h.tick (allM h.ps) i → okI tick (allM h.ps) i) : VHal ⟨tick, last, uninvM is h.ps⟩ := by
  refine ⟨t0, t1, by show 0 ≤ last; have := hv.l0; omega, l1, by show (uninvM is h.ps).length ≤ 32; rw [uninv_len]; exact hv.len, uninv_ids hv.ids, fun p hp => ?_, fun p hp => ?_, by show (allM (uninvM is h.ps)).Nodup; rw [allM_uninv]; exact hv.nd⟩
  · obtain ⟨q, hq, rfl⟩ := mem_uninv.mp hp
    exact hv.pos q hq
  · obtain ⟨q, hq, rfl⟩ := mem_uninv.mp hp
    show okP last tick (allM (uninvM is h.ps)) _
    rw [allM_uninv]
    exact okP_filter _ (hv.ok q hq) l0 (fun i hi hfi ho => hf q hq i hi (by simpa using hfi) ho)
theorem adv_valid {h : Hal} {t : Int} (he : (advM h t).2 = 0) : VHal (advM h t).1 ∧ h.tick ≤ t ∧ advM h t = (⟨t, h.last, uninvM (fun _ i => decide (i.till ≤ t)) h.ps⟩, 0) := by
  unfold advM at he ⊢
  split at he
  · rename_i hv
    rw [if_pos hv]
    split at he
    · rename_i ht
      rw [if_pos ht]
      split at he
      · cases he
      · rename_i hlt
        rw [if_neg hlt]
        have hV := valid_iff.mp hv
        refine ⟨uninv_valid hV ht.1 ht.2 (Int.le_refl _) hV.l1 (fun p hp i hi hfi ho => ?_), by omega, rfl⟩
        obtain ⟨a, b, c, d, e⟩ := ho
        have : ¬ i.till ≤ t := by simpa using hfi
        exact ⟨a, b, c, by omega, by omega⟩
    · cases he
  · cases he
/-- A further party at the end. -/
theorem snoc_valid {h : Hal} (hv : VHal h) {p : Pty} (hlen : h.ps.length < 32) (hl : h.last < 1048576) (hid : p.id = h.last + 1) (hi : p.inv = []) (hm : 1 ≤ p.mem.length ∧ p.mem.length ≤ 5) (hld : p.leader ∈ p.mem) (hM : ∀ n ∈ p.mem, 1 ≤ n ∧ n ≤ 65536) (hnd : p.mem.Nodup)
    (hd : ∀ x ∈ p.mem, x ∉ allM h.ps) (hq : ∀ q ∈ h.ps, ∀ i ∈ q.inv, i.who ∉ p.mem) : VHal ⟨h.tick, h.last + 1, h.ps ++ [p]⟩ := by
  have hall : allM (h.ps ++ [p]) = allM h.ps ++ p.mem := by rw [allM_append]; simp [allM]
  refine ⟨hv.t0, hv.t1, by show 0 ≤ h.last + 1; have := hv.l0; omega, by show h.last + 1 ≤ _; omega, by show (h.ps ++ [p]).length ≤ 32; rw [List.length_append, List.length_singleton]; omega, ?_, fun q hq' => ?_, fun q hq' => ?_, ?_⟩
  · show (h.ps ++ [p]).Pairwise _
    rw [List.pairwise_append]
    exact ⟨hv.ids, List.pairwise_singleton _ _, fun a ha b hb => by rw [List.mem_singleton.mp hb, hid]; have := (hv.ok a ha).1; omega⟩
  · rcases List.mem_append.mp hq' with h1 | h1
    · exact hv.pos q h1
    · rw [List.mem_singleton.mp h1, hid]; have := hv.l0; omega
  · show okP (h.last + 1) h.tick (allM (h.ps ++ [p])) q
    rw [hall]
    rcases List.mem_append.mp hq' with h1 | h1
    · obtain ⟨a1, a2, a3, a4, a5, a6, a7⟩ := hv.ok q h1
      refine ⟨by omega, a2, a3, a4, a5, fun i hi' => ?_, a7⟩
      obtain ⟨b1, b2, b3, b4, b5⟩ := a6 i hi'
      exact ⟨b1, b2, fun hc => (List.mem_append.mp hc).elim b3 (hq q h1 i hi'), b4, b5⟩
    · rw [List.mem_singleton.mp h1]
      exact ⟨by omega, hm.1, by rw [hi]; exact hm.2, hld, by rw [hi]; exact List.Pairwise.nil, by rw [hi]; exact fun i hi' => absurd hi' List.not_mem_nil, hM⟩
  · show (allM (h.ps ++ [p])).Nodup
    rw [hall, List.nodup_append]
    exact ⟨hv.nd, hnd, fun a ha b hb e => hd b hb (e ▸ ha)⟩
theorem create_valid {h : Hal} {who : Int} (he : (createM h who).2 = 0) : VHal (createM h who).1 ∧ who ∉ allM h.ps ∧ createM h who = (⟨h.tick, h.last + 1, uninvM (fun _ i => decide (i.who = who)) h.ps ++ [⟨h.last + 1, who, [who], []⟩]⟩, 0) := by
  unfold createM at he ⊢
  split at he
  · rename_i hv
    rw [if_pos hv]
    split at he
    · rename_i hw
      rw [if_pos hw]
      split at he
      · cases he
      · rename_i hn
        rw [if_neg hn]
        split at he
        · rename_i hr
          rw [if_pos hr]
          have hV := valid_iff.mp hv
          have hU : VHal ⟨h.tick, h.last, uninvM (fun _ i => decide (i.who = who)) h.ps⟩ := uninv_valid hV hV.t0 hV.t1 (Int.le_refl _) hV.l1 (fun p hp i hi hfi ho => ho)
          refine ⟨snoc_valid hU (by show (uninvM _ h.ps).length < 32; rw [uninv_len]; exact hr.1) hr.2 rfl rfl ⟨by simp, by simp⟩ (by simp) (fun n hn' => by rw [List.mem_singleton.mp hn']; exact isIdB_iff.mp hw) (by simp) (fun x hx => by show x ∉ allM (uninvM _ h.ps); rw [allM_uninv, List.mem_singleton.mp hx]; exact hn) (fun q hq i hi hc => ?_), hn, rfl⟩
          obtain ⟨q', hq', rfl⟩ := mem_uninv.mp hq
          have := (List.mem_filter.mp hi).2
          simp at this
          exact this (List.mem_singleton.mp hc)
        · cases he
    · cases he
  · cases he
end Go.Proofs.YtlfbcoohfnoacaaGreat

/- Layer 36 (party): one party of a valid hall is changed, or goes. Plain Lean. -/
namespace Go.Proofs.YtlfbcoohfnoacaaGreat
open Go.Fw Go.RowKit
theorem getD_mem36 {ps : List Pty} {k : Nat} (hk : k < ps.length) : ps.getD k pty0 ∈ ps := by
  rw [List.getD_eq_getElem?_getD, List.getElem?_eq_getElem hk]
  exact List.getElem_mem hk
/-- One party in place of another with its ID. -/
theorem set_valid {h : Hal} (hv : VHal h) {k : Nat} (hk : k < h.ps.length) {p : Pty} (hid : p.id = (h.ps.getD k pty0).id) (hok : okP h.last h.tick (allM (h.ps.set k p)) p) (hnd : (allM (h.ps.set k p)).Nodup)
    (hq : ∀ q ∈ h.ps, ∀ i ∈ q.inv, i.who ∉ allM h.ps → i.who ∉ allM (h.ps.set k p)) : VHal ⟨h.tick, h.last, h.ps.set k p⟩ := by
  refine ⟨hv.t0, hv.t1, hv.l0, hv.l1, by show (h.ps.set k p).length ≤ 32; rw [List.length_set]; exact hv.len, ?_, fun q hqm => ?_, fun q hqm => ?_, hnd⟩
  · show (h.ps.set k p).Pairwise _
    have h1 := hv.ids
    rw [ps_split hk] at h1
    rw [ps_set hk]
    rw [List.pairwise_append, List.pairwise_cons] at h1 ⊢
    obtain ⟨a, ⟨b, c⟩, d⟩ := h1
    refine ⟨a, ⟨fun x hx => by rw [hid]; exact b x hx, c⟩, fun x hx y hy => ?_⟩
    rcases List.mem_cons.mp hy with rfl | hy
    · rw [hid]; exact d x hx _ List.mem_cons_self
    · exact d x hx y (List.mem_cons_of_mem _ hy)
  · rcases List.mem_or_eq_of_mem_set hqm with h1 | rfl
    · exact hv.pos q h1
    · rw [hid]; exact hv.pos _ (getD_mem36 hk)
  · rcases List.mem_or_eq_of_mem_set hqm with h1 | rfl
    · obtain ⟨a1, a2, a3, a4, a5, a6, a7⟩ := hv.ok q h1
      exact ⟨a1, a2, a3, a4, a5, fun i hi => by obtain ⟨b1, b2, b3, b4, b5⟩ := a6 i hi; exact ⟨b1, b2, hq q h1 i hi b3, b4, b5⟩, a7⟩
    · exact hok
theorem allM_sublist {a b : List Pty} (h : a.Sublist b) : (allM a).Sublist (allM b) := by
  induction h with
  | slnil => exact List.Sublist.refl _
  | cons x _ ih => rw [allM_cons]; exact ih.trans (List.sublist_append_right _ _)
  | cons_cons x _ ih => rw [allM_cons, allM_cons]; exact List.Sublist.append (List.Sublist.refl _) ih
/-- A party goes. -/
theorem erase_valid {h : Hal} (hv : VHal h) (k : Nat) : VHal ⟨h.tick, h.last, h.ps.eraseIdx k⟩ := by
  have hsub : (h.ps.eraseIdx k).Sublist h.ps := List.eraseIdx_sublist h.ps k
  have hall : (allM (h.ps.eraseIdx k)).Sublist (allM h.ps) := allM_sublist hsub
  refine ⟨hv.t0, hv.t1, hv.l0, hv.l1, Nat.le_trans hsub.length_le hv.len, hv.ids.sublist hsub, fun q hq => hv.pos q (hsub.subset hq), fun q hq => ?_, hv.nd.sublist hall⟩
  obtain ⟨a1, a2, a3, a4, a5, a6, a7⟩ := hv.ok q (hsub.subset hq)
  exact ⟨a1, a2, a3, a4, a5, fun i hi => by obtain ⟨b1, b2, b3, b4, b5⟩ := a6 i hi; exact ⟨b1, b2, fun hc => b3 (hall.subset hc), b4, b5⟩, a7⟩
theorem allM_set {ps : List Pty} {k : Nat} (hk : k < ps.length) (p : Pty) : allM (ps.set k p) = allM (ps.take k) ++ (p.mem ++ allM (ps.drop (k + 1))) := by
  rw [ps_set hk, allM_append, allM_cons]
theorem allM_split {ps : List Pty} {k : Nat} (hk : k < ps.length) : allM ps = allM (ps.take k) ++ ((ps.getD k pty0).mem ++ allM (ps.drop (k + 1))) := by
  have := congrArg allM (ps_split hk)
  rw [allM_append, allM_cons] at this
  exact this
/-- The same members: the same players. -/
theorem allM_same {ps : List Pty} {k : Nat} (hk : k < ps.length) {p : Pty} (hm : p.mem = (ps.getD k pty0).mem) : allM (ps.set k p) = allM ps := by
  rw [allM_set hk, hm, ← allM_split hk]
theorem allM_sub {ps : List Pty} {k : Nat} (hk : k < ps.length) {p : Pty} (hm : p.mem.Sublist (ps.getD k pty0).mem) : (allM (ps.set k p)).Sublist (allM ps) := by
  rw [allM_set hk, allM_split hk]
  exact List.Sublist.append (List.Sublist.refl _) (List.Sublist.append hm (List.Sublist.refl _))
/-- Another leader among the members. -/
theorem leader_valid {h : Hal} (hv : VHal h) {k : Nat} (hk : k < h.ps.length) {who : Int} (hw : who ∈ (h.ps.getD k pty0).mem) : VHal ⟨h.tick, h.last, h.ps.set k { h.ps.getD k pty0 with leader := who }⟩ := by
  have hs : allM (h.ps.set k { h.ps.getD k pty0 with leader := who }) = allM h.ps := allM_same hk rfl
  refine set_valid hv hk rfl ?_ (by rw [hs]; exact hv.nd) (fun q hq i hi hn => by rw [hs]; exact hn)
  rw [hs]
  obtain ⟨a1, a2, a3, a4, a5, a6, a7⟩ := hv.ok _ (getD_mem36 hk)
  exact ⟨a1, a2, a3, hw, a5, a6, a7⟩
/-- A member leaves. -/
theorem leave_valid {h : Hal} (hv : VHal h) {k : Nat} (hk : k < h.ps.length) (who : Int) : VHal (leaveAt h k who) := by
  unfold leaveAt
  cases hl : leftM who (h.ps.getD k pty0) with
  | none => exact erase_valid hv k
  | some p =>
    unfold leftM at hl
    split at hl
    · cases hl
    · rename_i x r hf
      cases hl
      have hsub : (x :: r).Sublist (h.ps.getD k pty0).mem := hf ▸ List.filter_sublist
      have hs := allM_sub (ps := h.ps) (k := k) (p := { h.ps.getD k pty0 with mem := x :: r, leader := if (h.ps.getD k pty0).leader = who then x else (h.ps.getD k pty0).leader }) hk hsub
      refine set_valid hv hk rfl ?_ (hv.nd.sublist hs) (fun q hq i hi hn hc => hn (hs.subset hc))
      obtain ⟨a1, a2, a3, a4, a5, a6, a7⟩ := hv.ok _ (getD_mem36 hk)
      refine ⟨a1, by simp, ?_, ?_, a5, fun i hi => ?_, fun n hn => a7 n (hsub.subset hn)⟩
      · have := hsub.length_le
        show (x :: r).length + _ ≤ 5
        exact Nat.le_trans (Nat.add_le_add_right this _) a3
      · show (if (h.ps.getD k pty0).leader = who then x else (h.ps.getD k pty0).leader) ∈ x :: r
        split
        · exact List.mem_cons_self
        · rename_i hne
          rw [← hf]
          exact List.mem_filter.mpr ⟨a4, by rw [decide_eq_false hne]; rfl⟩
      · obtain ⟨b1, b2, b3, b4, b5⟩ := a6 i hi
        exact ⟨b1, b2, fun hc => b3 (hs.subset hc), b4, b5⟩
theorem insI_mem {x j : Inv} {l : List Inv} : j ∈ insI x l ↔ j = x ∨ j ∈ l := by
  induction l with
  | nil => simp [insI]
  | cons i r ih =>
    simp only [insI]
    split
    · simp
    · simp only [List.mem_cons, ih]
      constructor
      · rintro (h | h | h)
        · exact Or.inr (Or.inl h)
        · exact Or.inl h
        · exact Or.inr (Or.inr h)
      · rintro (h | h | h)
        · exact Or.inr (Or.inl h)
        · exact Or.inl h
        · exact Or.inr (Or.inr h)
theorem insI_len (x : Inv) (l : List Inv) : (insI x l).length = l.length + 1 := by
  induction l with
  | nil => rfl
  | cons i r ih =>
    simp only [insI]
    split
    · rfl
    · simp [ih]
theorem insI_sorted {x : Inv} {l : List Inv} (hs : l.Pairwise fun a b => a.who < b.who) (hx : x.who ∉ l.map Inv.who) : (insI x l).Pairwise fun a b => a.who < b.who := by
  induction l with
  | nil => exact List.pairwise_singleton _ _
  | cons i r ih =>
    rw [List.pairwise_cons] at hs
    simp only [List.map_cons, List.mem_cons, not_or] at hx
    simp only [insI]
    split
    · rename_i hle
      rw [List.pairwise_cons, List.pairwise_cons]
      refine ⟨fun j hj => ?_, hs.1, hs.2⟩
      rcases List.mem_cons.mp hj with rfl | hj
      · omega
      · have := hs.1 j hj; omega
    · rename_i hle
      rw [List.pairwise_cons]
      refine ⟨fun j hj => ?_, ih hs.2 hx.2⟩
      rcases insI_mem.mp hj with rfl | hj
      · omega
      · exact hs.1 j hj
/-- A player is invited. -/
theorem invite_valid {h : Hal} (hv : VHal h) {k : Nat} (hk : k < h.ps.length) {who : Int} (hw : 1 ≤ who ∧ who ≤ 65536) (hn : who ∉ allM h.ps) (hi : who ∉ (h.ps.getD k pty0).inv.map Inv.who) (hl : (h.ps.getD k pty0).mem.length + (h.ps.getD k pty0).inv.length < 5) :
    VHal ⟨h.tick, h.last, h.ps.set k { h.ps.getD k pty0 with inv := insI ⟨who, h.tick + 600⟩ (h.ps.getD k pty0).inv }⟩ := by
  have hs : allM (h.ps.set k { h.ps.getD k pty0 with inv := insI ⟨who, h.tick + 600⟩ (h.ps.getD k pty0).inv }) = allM h.ps := allM_same hk rfl
  refine set_valid hv hk rfl ?_ (by rw [hs]; exact hv.nd) (fun q hq i hi hn => by rw [hs]; exact hn)
  rw [hs]
  obtain ⟨a1, a2, a3, a4, a5, a6, a7⟩ := hv.ok _ (getD_mem36 hk)
  refine ⟨a1, a2, ?_, a4, insI_sorted a5 hi, fun i hi' => ?_, a7⟩
  · show (h.ps.getD k pty0).mem.length + (insI _ (h.ps.getD k pty0).inv).length ≤ 5
    rw [insI_len]; omega
  · rcases insI_mem.mp hi' with rfl | hi'
    · exact ⟨hw.1, hw.2, hn, by show h.tick < h.tick + 600; omega, Int.le_refl _⟩
    · exact a6 i hi'
/-- A player that is invited nowhere any more joins a party. -/
theorem join_valid {h : Hal} (hv : VHal h) {k : Nat} (hk : k < h.ps.length) {who : Int} (hw : 1 ≤ who ∧ who ≤ 65536) (hn : who ∉ allM h.ps) (hq : ∀ q ∈ h.ps, ∀ i ∈ q.inv, i.who ≠ who) (hl : (h.ps.getD k pty0).mem.length + (h.ps.getD k pty0).inv.length < 5) :
    VHal ⟨h.tick, h.last, h.ps.set k { h.ps.getD k pty0 with mem := (h.ps.getD k pty0).mem ++ [who] }⟩ := by
  have hmem : ∀ x, x ∈ allM (h.ps.set k { h.ps.getD k pty0 with mem := (h.ps.getD k pty0).mem ++ [who] }) → x ∈ allM h.ps ∨ x = who := by
    intro x hx
    rw [allM_set hk] at hx
    rw [allM_split hk]
    simp only [List.mem_append, List.mem_singleton] at hx ⊢
    rcases hx with h | (h | h) | h
    · exact Or.inl (Or.inl h)
    · exact Or.inl (Or.inr (Or.inl h))
    · exact Or.inr h
    · exact Or.inl (Or.inr (Or.inr h))
  refine set_valid hv hk rfl ?_ ?_ (fun q hqm i hi hni hc => (hmem _ hc).elim hni (hq q hqm i hi))
  · obtain ⟨a1, a2, a3, a4, a5, a6, a7⟩ := hv.ok _ (getD_mem36 hk)
    refine ⟨a1, ?_, ?_, List.mem_append_left _ a4, a5, fun i hi => ?_, fun n hn' => ?_⟩
    · show 1 ≤ ((h.ps.getD k pty0).mem ++ [who]).length
      rw [List.length_append, List.length_singleton]; omega
    · show ((h.ps.getD k pty0).mem ++ [who]).length + _ ≤ 5
      rw [List.length_append, List.length_singleton]; show _ + 1 + (h.ps.getD k pty0).inv.length ≤ 5; omega
    · obtain ⟨b1, b2, b3, b4, b5⟩ := a6 i hi
      exact ⟨b1, b2, fun hc => (hmem _ hc).elim b3 (hq _ (getD_mem36 hk) i hi), b4, b5⟩
    · rcases List.mem_append.mp hn' with h1 | h1
      · exact a7 n h1
      · rw [List.mem_singleton.mp h1]; exact hw
  · have h1 := hv.nd
    have h2 := hn
    rw [allM_split hk] at h1 h2
    rw [allM_set hk]
    simp only [List.mem_append, not_or] at h2
    simp only [List.nodup_append, List.mem_append] at h1 ⊢
    obtain ⟨c1, ⟨c2, c3, c4⟩, c5⟩ := h1
    refine ⟨c1, ⟨⟨c2, by simp, fun a ha b hb e => ?_⟩, c3, fun a ha b hb e => ?_⟩, fun a ha b hb e => ?_⟩
    · rw [List.mem_singleton.mp hb] at e; exact h2.2.1 (e ▸ ha)
    · rcases ha with ha | ha
      · exact c4 a ha b hb e
      · rw [List.mem_singleton.mp ha] at e; exact h2.2.2 (e ▸ hb)
    · rcases hb with (hb | hb) | hb
      · exact c5 a ha b (Or.inl hb) e
      · rw [List.mem_singleton.mp hb] at e; exact h2.1 (e ▸ ha)
      · exact c5 a ha b (Or.inr hb) e
end Go.Proofs.YtlfbcoohfnoacaaGreat

/- Layer 36 (party): what is done gives a valid hall, or an error and nothing. Plain Lean. -/
namespace Go.Proofs.YtlfbcoohfnoacaaGreat
open Go.Fw Go.RowKit
/-- What is done: kinds 0 to 8. -/
def doM (h : Hal) (kind : Nat) (a b : Int) : ResP :=
  match kind with
  | 0 => advM h a
  | 1 => createM h a
  | 2 => invitedM h a b
  | 3 => answerM h a b true
  | 4 => answerM h a b false
  | 5 => leaveM h a
  | 6 => kickM h a b
  | 7 => promoteM h a b
  | _ => disbandM h a
/-- IDs of parties are never used again. -/
structure Fol (h n : Hal) : Prop where
  valid : VHal n
  last : h.last ≤ n.last
  tick : h.tick ≤ n.tick
  ids : ∀ p ∈ n.ps, (∃ q ∈ h.ps, q.id = p.id) ∨ (p.id = h.last + 1 ∧ n.last = p.id)
theorem fol_set {h : Hal} {k : Nat} {p : Pty} (hk : k < h.ps.length) (hid : p.id = (h.ps.getD k pty0).id) (hv : VHal ⟨h.tick, h.last, h.ps.set k p⟩) : Fol h ⟨h.tick, h.last, h.ps.set k p⟩ := by
  refine ⟨hv, Int.le_refl _, Int.le_refl _, fun q hq => Or.inl ?_⟩
  rcases List.mem_or_eq_of_mem_set hq with h1 | rfl
  · exact ⟨q, h1, rfl⟩
  · exact ⟨_, getD_mem36 hk, hid.symm⟩
theorem fol_erase {h : Hal} (hv : VHal h) (k : Nat) : Fol h ⟨h.tick, h.last, h.ps.eraseIdx k⟩ :=
  ⟨erase_valid hv k, Int.le_refl _, Int.le_refl _, fun q hq => Or.inl ⟨q, (List.eraseIdx_sublist h.ps k).subset hq, rfl⟩⟩
theorem fol_leave {h : Hal} (hv : VHal h) {k : Nat} (hk : k < h.ps.length) (who : Int) : Fol h (leaveAt h k who) := by
  have hl := leave_valid hv hk who
  unfold leaveAt at hl ⊢
  cases hm : leftM who (h.ps.getD k pty0) with
  | none => exact fol_erase hv k
  | some p =>
    rw [hm] at hl
    refine fol_set hk ?_ hl
    unfold leftM at hm
    split at hm
    · cases hm
    · cases hm; rfl
theorem leadM_cases (h : Hal) (by' : Int) (f : Nat → ResP) (P : ResP → Prop) (he : ∀ e, e ≠ 0 → P (hal0, e)) (hf : VHal h → ∀ k, k < h.ps.length → findM by' h.ps = some k → (h.ps.getD k pty0).leader = by' → P (f k)) : P (leadM h by' f) := by
  unfold leadM
  split
  · rename_i hv
    split
    · exact he 6 (by decide)
    · rename_i k hk
      split
      · rename_i hl
        exact hf (valid_iff.mp hv) k (findM_some _ hk).1 hk hl
      · exact he 362 (by decide)
  · exact he 2 (by decide)
theorem askedM_some {who id : Int} (ps : List Pty) : ∀ {k : Nat}, askedM who id ps = some k → k < ps.length ∧ (ps.getD k pty0).id = id ∧ who ∈ (ps.getD k pty0).inv.map Inv.who := by
  induction ps with
  | nil => intro k h; cases h
  | cons p r ih =>
    intro k h
    simp only [askedM] at h
    split at h
    · rename_i hp; cases h; exact ⟨by simp, by simpa using hp.1, by simpa using hp.2⟩
    · cases hf : askedM who id r with
      | none => rw [hf] at h; cases h
      | some j =>
        rw [hf] at h; cases h
        obtain ⟨h1, h2, h3⟩ := ih hf
        exact ⟨by simp only [List.length_cons]; omega, by simpa using h2, by simpa using h3⟩
theorem uninv_getD (is : Pty → Inv → Bool) {ps : List Pty} {k : Nat} (hk : k < ps.length) : (uninvM is ps).getD k pty0 = { ps.getD k pty0 with inv := (ps.getD k pty0).inv.filter fun i => !is (ps.getD k pty0) i } := by
  unfold uninvM
  rw [List.getD_eq_getElem?_getD, List.getElem?_map, List.getD_eq_getElem?_getD, List.getElem?_eq_getElem hk]
  rfl
theorem filter_less {f : Inv → Bool} {l : List Inv} {i : Inv} (hi : i ∈ l) (hf : f i = false) : (l.filter f).length < l.length := by
  induction l with
  | nil => cases hi
  | cons j r ih =>
    rcases List.mem_cons.mp hi with rfl | hi
    · rw [List.filter_cons_of_neg (by rw [hf]; decide)]
      have := List.length_filter_le f r
      simp only [List.length_cons]; omega
    · have := ih hi
      rw [List.filter_cons]
      split <;> simp only [List.length_cons] <;> omega
theorem answer_fol {h : Hal} (hv : VHal h) {who id : Int} {k : Nat} (ha : askedM who id h.ps = some k) (yes : Bool) : Fol h (answerM h who id yes).1 ∧ (answerM h who id yes).2 = 0 := by
  unfold answerM
  rw [if_pos (valid_iff.mpr hv), ha]
  obtain ⟨hk, hid, hw⟩ := askedM_some _ ha
  have hU : VHal ⟨h.tick, h.last, uninvM (fun p i => decide (i.who = who) && (yes || decide (p.id = id))) h.ps⟩ := uninv_valid hv hv.t0 hv.t1 (Int.le_refl _) hv.l1 (fun p hp i hi hfi ho => ho)
  have hids : ∀ p ∈ uninvM (fun p i => decide (i.who = who) && (yes || decide (p.id = id))) h.ps, ∃ q ∈ h.ps, q.id = p.id := by
    intro p hp
    obtain ⟨q, hq, rfl⟩ := mem_uninv.mp hp
    exact ⟨q, hq, rfl⟩
  refine ⟨?_, rfl⟩
  cases yes with
  | false => exact ⟨hU, Int.le_refl _, Int.le_refl _, fun p hp => Or.inl (hids p hp)⟩
  | true =>
    obtain ⟨i, hi, rfl⟩ := List.mem_map.mp hw
    have hoi := (hv.ok _ (getD_mem36 hk)).2.2.2.2.2.1 i hi
    have hk' : k < (uninvM (fun p j => decide (j.who = i.who) && (true || decide (p.id = id))) h.ps).length := by rw [uninv_len]; exact hk
    have hj := join_valid hU (k := k) (who := i.who) hk' ⟨hoi.1, hoi.2.1⟩ (by show _ ∉ allM (uninvM _ h.ps); rw [allM_uninv]; exact hoi.2.2.1) (fun q hq j hj => ?_) ?_
    · refine ⟨hj, Int.le_refl _, Int.le_refl _, fun p hp => Or.inl ?_⟩
      rcases List.mem_or_eq_of_mem_set hp with h1 | rfl
      · exact hids p h1
      · obtain ⟨q, hq, e⟩ := hids _ (getD_mem36 hk')
        exact ⟨q, hq, e⟩
    · obtain ⟨q', hq', rfl⟩ := mem_uninv.mp hq
      have := (List.mem_filter.mp hj).2
      simpa using this
    · show ((uninvM _ h.ps).getD k pty0).mem.length + ((uninvM _ h.ps).getD k pty0).inv.length < 5
      rw [uninv_getD _ hk]
      have h3 := (hv.ok _ (getD_mem36 hk)).2.2.1
      have h4 : ((h.ps.getD k pty0).inv.filter fun j => !(decide (j.who = i.who) && (true || decide ((h.ps.getD k pty0).id = id)))).length < (h.ps.getD k pty0).inv.length := filter_less hi (by simp)
      show (h.ps.getD k pty0).mem.length + _ < 5
      exact Nat.lt_of_lt_of_le (Nat.add_lt_add_left h4 _) h3
/-- The stage's theorem: an error gives nothing; otherwise the hall is valid, and IDs are never used again. -/
theorem do_fol (h : Hal) (kind : Nat) (a b : Int) : ((doM h kind a b).2 ≠ 0 ∧ (doM h kind a b).1 = hal0) ∨ ((doM h kind a b).2 = 0 ∧ VHal h ∧ Fol h (doM h kind a b).1) := by
  have he : ∀ e : Int, e ≠ 0 → ((hal0, e) : ResP).2 ≠ 0 ∧ ((hal0, e) : ResP).1 = hal0 := fun e h => ⟨h, rfl⟩
  unfold doM
  split
  · by_cases h0 : (advM h a).2 = 0
    · obtain ⟨h1, h2, h3⟩ := adv_valid h0
      have hv : VHal h := by
        refine valid_iff.mp (Decidable.of_not_not fun hc => ?_)
        unfold advM at h0; rw [if_neg hc] at h0; cases h0
      refine Or.inr ⟨h0, hv, ?_⟩
      rw [h3] at h1 ⊢
      refine ⟨h1, Int.le_refl _, h2, fun p hp => Or.inl ?_⟩
      obtain ⟨q, hq, rfl⟩ := mem_uninv.mp hp
      exact ⟨q, hq, rfl⟩
    · refine Or.inl ⟨h0, ?_⟩
      unfold advM at h0 ⊢
      repeat' split
      all_goals first | rfl | (simp_all)
  · by_cases h0 : (createM h a).2 = 0
    · obtain ⟨h1, h2, h3⟩ := create_valid h0
      have hv : VHal h := by
        refine valid_iff.mp (Decidable.of_not_not fun hc => ?_)
        unfold createM at h0; rw [if_neg hc] at h0; cases h0
      refine Or.inr ⟨h0, hv, ?_⟩
      rw [h3] at h1 ⊢
      refine ⟨h1, by show h.last ≤ h.last + 1; omega, Int.le_refl _, fun p hp => ?_⟩
      rcases List.mem_append.mp hp with hp | hp
      · obtain ⟨q, hq, rfl⟩ := mem_uninv.mp hp
        exact Or.inl ⟨q, hq, rfl⟩
      · rw [List.mem_singleton.mp hp]; exact Or.inr ⟨rfl, rfl⟩
    · refine Or.inl ⟨h0, ?_⟩
      unfold createM at h0 ⊢
      repeat' split
      all_goals first | rfl | (simp_all)
  · refine leadM_cases h a _ (fun r => (r.2 ≠ 0 ∧ r.1 = hal0) ∨ (r.2 = 0 ∧ VHal h ∧ Fol h r.1)) (fun e h => Or.inl (he e h)) (fun hv k hk hf hl => ?_)
    split
    · rename_i hw
      split
      · exact Or.inl (he _ (by decide))
      · rename_i hn
        split
        · exact Or.inl (he _ (by decide))
        · rename_i hi
          split
          · rename_i hlen
            exact Or.inr ⟨rfl, hv, fol_set hk rfl (invite_valid hv hk (isIdB_iff.mp hw) hn hi hlen)⟩
          · exact Or.inl (he _ (by decide))
    · exact Or.inl (he _ (by decide))
  · by_cases hv : validHal h = true
    · cases ha : askedM a b h.ps with
      | none => refine Or.inl ?_; unfold answerM; rw [if_pos hv, ha]; exact he _ (by decide)
      | some k => have := answer_fol (valid_iff.mp hv) ha true; exact Or.inr ⟨this.2, valid_iff.mp hv, this.1⟩
    · refine Or.inl ?_; unfold answerM; rw [if_neg hv]; exact he _ (by decide)
  · by_cases hv : validHal h = true
    · cases ha : askedM a b h.ps with
      | none => refine Or.inl ?_; unfold answerM; rw [if_pos hv, ha]; exact he _ (by decide)
      | some k => have := answer_fol (valid_iff.mp hv) ha false; exact Or.inr ⟨this.2, valid_iff.mp hv, this.1⟩
    · refine Or.inl ?_; unfold answerM; rw [if_neg hv]; exact he _ (by decide)
  · unfold leaveM
    split
    · rename_i hv
      split
      · exact Or.inl (he _ (by decide))
      · rename_i k hk
        exact Or.inr ⟨rfl, valid_iff.mp hv, fol_leave (valid_iff.mp hv) (findM_some _ hk).1 a⟩
    · exact Or.inl (he _ (by decide))
  · refine leadM_cases h a _ (fun r => (r.2 ≠ 0 ∧ r.1 = hal0) ∨ (r.2 = 0 ∧ VHal h ∧ Fol h r.1)) (fun e h => Or.inl (he e h)) (fun hv k hk hf hl => ?_)
    split
    · split
      · exact Or.inl (he _ (by decide))
      · exact Or.inr ⟨rfl, hv, fol_leave hv hk b⟩
    · exact Or.inl (he _ (by decide))
  · refine leadM_cases h a _ (fun r => (r.2 ≠ 0 ∧ r.1 = hal0) ∨ (r.2 = 0 ∧ VHal h ∧ Fol h r.1)) (fun e h => Or.inl (he e h)) (fun hv k hk hf hl => ?_)
    split
    · rename_i hb
      exact Or.inr ⟨rfl, hv, fol_set hk rfl (leader_valid hv hk (findM_some _ hb).2)⟩
    · exact Or.inl (he _ (by decide))
  · exact leadM_cases h a _ (fun r => (r.2 ≠ 0 ∧ r.1 = hal0) ∨ (r.2 = 0 ∧ VHal h ∧ Fol h r.1)) (fun e h => Or.inl (he e h)) (fun hv k hk hf hl => Or.inr ⟨rfl, hv, fol_erase hv k⟩)
end Go.Proofs.YtlfbcoohfnoacaaGreat

/- Layer 36 (party): time and shares. Plain Lean. -/
namespace Go.Proofs.YtlfbcoohfnoacaaGreat
open Go.Fw Go.RowKit
/-- The hall at a later tick. -/
def atM (h : Hal) (t : Int) : Hal := ⟨t, h.last, uninvM (fun _ i => decide (i.till ≤ t)) h.ps⟩
theorem advM_eq {h : Hal} (hv : VHal h) {t : Int} (h1 : h.tick ≤ t) (h2 : t ≤ 1073741824) : advM h t = (atM h t, 0) := by
  unfold advM
  have := hv.t0
  rw [if_pos (valid_iff.mpr hv), if_pos ⟨by omega, h2⟩, if_neg (by omega)]
  rfl
theorem at_valid {h : Hal} (hv : VHal h) {t : Int} (h1 : h.tick ≤ t) (h2 : t ≤ 1073741824) : VHal (atM h t) := by
  have := adv_valid (h := h) (t := t) (by rw [advM_eq hv h1 h2])
  rw [advM_eq hv h1 h2] at this
  exact this.1
theorem advM_back {h : Hal} (hv : VHal h) {t : Int} (h1 : t < h.tick) (h2 : 0 ≤ t) : advM h t = (hal0, 360) := by
  unfold advM
  have := hv.t1
  rw [if_pos (valid_iff.mpr hv), if_pos ⟨h2, by omega⟩, if_pos h1]
/-- Time in two parts is time at once. -/
theorem at_two (h : Hal) {s t : Int} (hst : s ≤ t) : atM (atM h s) t = atM h t := by
  unfold atM
  congr 1
  show uninvM _ (uninvM _ h.ps) = uninvM _ h.ps
  unfold uninvM
  rw [List.map_map]
  refine List.map_congr_left fun p _ => ?_
  show Pty.mk _ _ _ _ = Pty.mk _ _ _ _
  congr 1
  rw [List.filter_filter]
  refine List.filter_congr fun i _ => ?_
  by_cases h1 : i.till ≤ t
  · simp [h1]
  · have : ¬ i.till ≤ s := by omega
    simp [h1, this]
theorem shares_len (amount : Int) (n : Nat) : (sharesM amount n).length = n := by unfold sharesM; rw [List.length_map, List.length_range]
theorem shares_at (amount : Int) {n i : Nat} (hi : i < n) : (sharesM amount n).getD i 0 = amount / (n : Int) + (if (i : Int) < amount % (n : Int) then 1 else 0) := by
  unfold sharesM
  rw [List.getD_eq_getElem?_getD, List.getElem?_map, List.getElem?_range hi]
  rfl
/-- What is added up of the first shares. -/
theorem shares_take (amount : Int) (n : Nat) : ∀ k : Nat, (((List.range k).map fun (i : Nat) => amount / (n : Int) + (if (i : Int) < amount % (n : Int) then 1 else 0)).sum : Int) = k * (amount / n) + (if (k : Int) ≤ amount % n then (k : Int) else if 0 ≤ amount % n then amount % n else 0) := by
  intro k
  induction k with
  | zero => simp; omega
  | succ k ih =>
    rw [List.range_succ, List.map_append, List.sum_append, ih]
    simp only [List.map_cons, List.map_nil, List.sum_cons, List.sum_nil]
    have e : ((k + 1 : Nat) : Int) * (amount / n) = k * (amount / n) + amount / n := by rw [Int.natCast_add, Int.add_mul]; simp
    rw [e]
    generalize (k : Int) * (amount / n) = u
    generalize amount / (n : Int) = v
    generalize amount % (n : Int) = w
    push_cast
    split <;> split <;> split <;> (try split) <;> (try split) <;> omega
theorem shares_sum {amount : Int} {n : Nat} (hn : 0 < n) : ((sharesM amount n).sum : Int) = amount := by
  unfold sharesM
  rw [shares_take]
  have h1 := Int.emod_nonneg amount (b := (n : Int)) (by omega)
  have h2 := Int.emod_lt_of_pos amount (b := (n : Int)) (by omega)
  have h3 := Int.mul_ediv_add_emod amount n
  rw [if_neg (by omega), if_pos h1]
  exact h3
/-- Shares do not grow, differ by at most one, and are not negative. -/
theorem shares_prev {amount : Int} {n i : Nat} (hi : i + 1 < n) : (sharesM amount n).getD (i + 1) 0 ≤ (sharesM amount n).getD i 0 := by
  rw [shares_at amount hi, shares_at amount (by omega : i < n)]
  push_cast
  split <;> split <;> omega
theorem shares_first {amount : Int} {n i : Nat} (hi : i < n) : (sharesM amount n).getD 0 0 - (sharesM amount n).getD i 0 ≤ 1 := by
  rw [shares_at amount hi, shares_at amount (by omega : 0 < n)]
  split <;> split <;> omega
theorem shares_pos {amount : Int} (ha : 0 ≤ amount) {n i : Nat} (hi : i < n) : 0 ≤ (sharesM amount n).getD i 0 := by
  rw [shares_at amount hi]
  have := Int.ediv_nonneg ha (b := (n : Int)) (by omega)
  split <;> omega
end Go.Proofs.YtlfbcoohfnoacaaGreat

/- Layer 36 (party): leaving. Plain Lean. -/
namespace Go.Proofs.YtlfbcoohfnoacaaGreat
open Go.Fw Go.RowKit
theorem idxP_some {id : Int} (ps : List Pty) : ∀ {k : Nat}, idxP id ps = some k → k < ps.length ∧ (ps.getD k pty0).id = id := by
  induction ps with
  | nil => intro k h; cases h
  | cons p r ih =>
    intro k h
    simp only [idxP] at h
    split at h
    · rename_i hp; cases h; exact ⟨by simp, by simpa using hp⟩
    · cases hf : idxP id r with
      | none => rw [hf] at h; cases h
      | some j =>
        rw [hf] at h; cases h
        obtain ⟨h1, h2⟩ := ih hf
        exact ⟨by simp only [List.length_cons]; omega, by simpa using h2⟩
theorem idxP_none {id : Int} (ps : List Pty) : idxP id ps = none ↔ ∀ p ∈ ps, p.id ≠ id := by
  induction ps with
  | nil => simp [idxP]
  | cons p r ih =>
    simp only [idxP]
    by_cases h : p.id = id
    · rw [if_pos h]; simp [h]
    · rw [if_neg h]; simp only [Option.map_eq_none_iff, ih, List.mem_cons]
      constructor
      · rintro hh q (rfl | hq)
        · exact h
        · exact hh q hq
      · exact fun hh q hq => hh q (Or.inr hq)
/-- IDs are different: the party at k is the first one with its ID. -/
theorem idxP_at {ps : List Pty} (hs : ps.Pairwise fun a b => a.id < b.id) {k : Nat} (hk : k < ps.length) {id : Int} (hid : (ps.getD k pty0).id = id) : idxP id ps = some k := by
  induction ps generalizing k with
  | nil => simp at hk
  | cons p r ih =>
    rw [List.pairwise_cons] at hs
    simp only [idxP]
    cases k with
    | zero => rw [if_pos (by simpa using hid)]
    | succ k =>
      have hk' : k < r.length := by simpa using hk
      have hid' : (r.getD k pty0).id = id := by simpa using hid
      have := hs.1 _ (getD_mem36 hk')
      rw [if_neg (by omega), ih hs.2 hk' hid']
      rfl
theorem getD_set36 {ps : List Pty} {k : Nat} (hk : k < ps.length) (p : Pty) : (ps.set k p).getD k pty0 = p := by
  rw [List.getD_eq_getElem?_getD, List.getElem?_set_self hk]; rfl
/-- Members of a party are different. -/
theorem mem_nodup {h : Hal} (hv : VHal h) {k : Nat} (hk : k < h.ps.length) : (h.ps.getD k pty0).mem.Nodup := by
  have := hv.nd
  rw [allM_split hk, List.nodup_append, List.nodup_append] at this
  exact this.2.1.1
theorem filter_ne_len {l : List Int} {x : Int} (hn : l.Nodup) (hx : x ∈ l) : (l.filter fun n => !decide (n = x)).length + 1 = l.length := by
  induction l with
  | nil => cases hx
  | cons y r ih =>
    rw [List.nodup_cons] at hn
    rw [List.filter_cons]
    by_cases hy : y = x
    · rw [if_neg (by simp [hy])]
      have : (r.filter fun n => !decide (n = x)) = r := List.filter_eq_self.mpr fun a ha => by
        have : a ≠ x := fun e => hn.1 (by rw [hy, ← e]; exact ha)
        simp [this]
      rw [this]; rfl
    · rw [if_pos (by simp [hy])]
      have := ih hn.2 ((List.mem_cons.mp hx).resolve_left (fun e => hy e.symm))
      simp only [List.length_cons]; omega
/-- Who leaves is a member of no party any more. -/
theorem leave_gone {h : Hal} (hv : VHal h) {k : Nat} {who : Int} (hf : findM who h.ps = some k) : findM who (leaveAt h k who).ps = none := by
  have hk := (findM_some _ hf).1
  have hw := (findM_some _ hf).2
  rw [findM_none]
  have hn := hv.nd
  rw [allM_split hk] at hn
  simp only [List.nodup_append, List.mem_append] at hn
  obtain ⟨_, ⟨_, _, c4⟩, c5⟩ := hn
  have hA : who ∉ allM (h.ps.take k) := fun hc => c5 who hc who (Or.inl hw) rfl
  have hB : who ∉ allM (h.ps.drop (k + 1)) := fun hc => c4 who hw who hc rfl
  unfold leaveAt
  cases hm : leftM who (h.ps.getD k pty0) with
  | none =>
    show who ∉ allM (h.ps.eraseIdx k)
    rw [ps_erase, allM_append]
    exact fun hc => (List.mem_append.mp hc).elim hA hB
  | some p =>
    show who ∉ allM (h.ps.set k p)
    rw [allM_set hk]
    have hp : who ∉ p.mem := by
      unfold leftM at hm
      split at hm
      · cases hm
      · rename_i x r hfl
        cases hm
        show who ∉ x :: r
        rw [← hfl]
        intro hc
        have := (List.mem_filter.mp hc).2
        simp at this
    exact fun hc => (List.mem_append.mp hc).elim hA (fun hc => (List.mem_append.mp hc).elim hp hB)
/-- The party of the last one is gone. -/
theorem leave_last {h : Hal} (hv : VHal h) {k : Nat} {who : Int} (hf : findM who h.ps = some k) (h1 : (h.ps.getD k pty0).mem.length = 1) : idxP (h.ps.getD k pty0).id (leaveAt h k who).ps = none ∧ (leaveAt h k who).ps.length + 1 = h.ps.length := by
  have hk := (findM_some _ hf).1
  have hw := (findM_some _ hf).2
  have hl := filter_ne_len (mem_nodup hv hk) hw
  have he : leftM who (h.ps.getD k pty0) = none := by
    unfold leftM
    rw [List.eq_nil_of_length_eq_zero (by omega : ((h.ps.getD k pty0).mem.filter fun n => !decide (n = who)).length = 0)]
  unfold leaveAt
  rw [he]
  refine ⟨(idxP_none _).2 fun q hq hid => ?_, ?_⟩
  · have hs := hv.ids
    rw [ps_split hk, List.pairwise_append, List.pairwise_cons] at hs
    obtain ⟨_, ⟨b, _⟩, d⟩ := hs
    have hq' : q ∈ h.ps.take k ++ h.ps.drop (k + 1) := by rw [← ps_erase]; exact hq
    rcases List.mem_append.mp hq' with h2 | h2
    · have := d q h2 _ List.mem_cons_self; omega
    · have := b q h2; omega
  · show (h.ps.eraseIdx k).length + 1 = _
    rw [List.length_eraseIdx, if_pos hk]
    exact Nat.sub_add_cancel (Nat.lt_of_le_of_lt (Nat.zero_le _) hk)
/-- The others stay in their order; the leader stays, or is the first one of them. -/
theorem leave_rest {h : Hal} (hv : VHal h) {k : Nat} {who : Int} (hf : findM who h.ps = some k) (h1 : (h.ps.getD k pty0).mem.length ≠ 1) :
    ∃ q, leaveAt h k who = ⟨h.tick, h.last, h.ps.set k q⟩ ∧ idxP (h.ps.getD k pty0).id (leaveAt h k who).ps = some k ∧ (leaveAt h k who).ps.getD k pty0 = q ∧ q.id = (h.ps.getD k pty0).id ∧
      q.mem = ((h.ps.getD k pty0).mem.filter fun n => !decide (n = who)) ∧ q.inv = (h.ps.getD k pty0).inv ∧ q.leader = (if (h.ps.getD k pty0).leader = who then q.mem.getD 0 0 else (h.ps.getD k pty0).leader) := by
  have hk := (findM_some _ hf).1
  have hw := (findM_some _ hf).2
  have hl := filter_ne_len (mem_nodup hv hk) hw
  have hV := leave_valid hv hk who
  unfold leaveAt at hV ⊢
  unfold leftM at hV ⊢
  cases hm : (h.ps.getD k pty0).mem.filter fun n => !decide (n = who) with
  | nil => rw [hm, List.length_nil] at hl; omega
  | cons x r =>
    rw [hm] at hV
    simp only at hV ⊢
    exact ⟨_, rfl, idxP_at hV.ids (k := k) (by show k < (h.ps.set k _).length; rw [List.length_set]; exact hk) (by show ((h.ps.set k _).getD k pty0).id = _; rw [getD_set36 hk]), getD_set36 hk _, rfl, rfl, rfl, rfl⟩
/-- Who was kicked could as well have left. -/
theorem kick_leave {h : Hal} (hv : VHal h) {k : Nat} {who : Int} (hf : findM who h.ps = some k) : kickM h (h.ps.getD k pty0).leader who = if who = (h.ps.getD k pty0).leader then (hal0, 2) else (leaveAt h k who, 0) := by
  have hk := (findM_some _ hf).1
  unfold kickM leadM
  rw [if_pos (valid_iff.mpr hv), findM_unique hv.nd hk (hv.ok _ (getD_mem36 hk)).2.2.2.1]
  show (if (h.ps.getD k pty0).leader = (h.ps.getD k pty0).leader then _ else _) = _
  rw [if_pos rfl]
  show (if findM who h.ps = some k then _ else _) = _
  rw [if_pos hf]
end Go.Proofs.YtlfbcoohfnoacaaGreat

/- Layer 36 (party): halls with one fault. Plain Lean. -/
namespace Go.Proofs.YtlfbcoohfnoacaaGreat
open Go.Fw Go.RowKit
/-- In a hall that is not valid nothing can be done. -/
theorem do_bad {h : Hal} (hv : ¬ VHal h) (kind : Nat) (a b : Int) : doM h kind a b = (hal0, 2) := by
  have hn : ¬ validHal h = true := fun hc => hv (valid_iff.mp hc)
  have hl : ∀ x f, leadM h x f = (hal0, 2) := fun x f => by unfold leadM; rw [if_neg hn]
  unfold doM
  split
  · unfold advM; rw [if_neg hn]
  · unfold createM; rw [if_neg hn]
  · exact hl _ _
  · unfold answerM; rw [if_neg hn]
  · unfold answerM; rw [if_neg hn]
  · unfold leaveM; rw [if_neg hn]
  · exact hl _ _
  · exact hl _ _
  · exact hl _ _
theorem of_bad {h : Hal} (hv : ¬ VHal h) (who : Int) : ofM h who = none := by unfold ofM; rw [if_neg (fun hc => hv (valid_iff.mp hc))]
theorem share_bad {h : Hal} (hv : ¬ VHal h) (id amount : Int) : shareM h id amount = ([], 2) := by unfold shareM; rw [if_neg (fun hc => hv (valid_iff.mp hc))]
theorem set_mem36 {ps : List Pty} {k : Nat} (hk : k < ps.length) (p : Pty) : p ∈ ps.set k p := List.mem_set hk p
/-- The members of the first two parties are different. -/
theorem two_apart {h : Hal} (hv : VHal h) (h2 : 2 ≤ h.ps.length) {x : Int} (h0 : x ∈ (h.ps.getD 0 pty0).mem) (h1 : x ∈ (h.ps.getD 1 pty0).mem) : False := by
  have a := findM_unique hv.nd (k := 0) (by omega) h0
  have b := findM_unique hv.nd (k := 1) (by omega) h1
  rw [a] at b; cases b
theorem bad_leader {h : Hal} (hv : VHal h) (h2 : 2 ≤ h.ps.length) : ¬ VHal ⟨h.tick, h.last, h.ps.set 1 { h.ps.getD 1 pty0 with leader := (h.ps.getD 0 pty0).leader }⟩ := fun hc =>
  two_apart hv h2 (hv.ok _ (getD_mem36 (by omega))).2.2.2.1 (hc.ok _ (set_mem36 (by omega) _)).2.2.2.1
theorem bad_member {h : Hal} (hv : VHal h) (h2 : 2 ≤ h.ps.length) {x : Int} (hx : x ∈ (h.ps.getD 0 pty0).mem) : ¬ VHal ⟨h.tick, h.last, h.ps.set 1 { h.ps.getD 1 pty0 with mem := (h.ps.getD 1 pty0).mem ++ [x] }⟩ := by
  intro hc
  have hg : (h.ps.set 1 { h.ps.getD 1 pty0 with mem := (h.ps.getD 1 pty0).mem ++ [x] }).getD 0 pty0 = h.ps.getD 0 pty0 := by
    rw [List.getD_eq_getElem?_getD, List.getElem?_set_ne (by decide), List.getD_eq_getElem?_getD]
  refine two_apart hc (by show 2 ≤ (h.ps.set 1 _).length; rw [List.length_set]; exact h2) (x := x) ?_ ?_
  · show x ∈ ((h.ps.set 1 _).getD 0 pty0).mem
    rw [hg]; exact hx
  · show x ∈ ((h.ps.set 1 _).getD 1 pty0).mem
    rw [getD_set36 (by omega)]; exact List.mem_append_right _ List.mem_cons_self
theorem bad_id {h : Hal} (h2 : 2 ≤ h.ps.length) : ¬ VHal ⟨h.tick, h.last, h.ps.set 1 { h.ps.getD 1 pty0 with id := (h.ps.getD 0 pty0).id }⟩ := by
  intro hc
  have hg : (h.ps.set 1 { h.ps.getD 1 pty0 with id := (h.ps.getD 0 pty0).id }).getD 0 pty0 = h.ps.getD 0 pty0 := by
    rw [List.getD_eq_getElem?_getD, List.getElem?_set_ne (by decide), List.getD_eq_getElem?_getD]
  have hl : (h.ps.set 1 { h.ps.getD 1 pty0 with id := (h.ps.getD 0 pty0).id }).length = h.ps.length := List.length_set ..
  have a := idxP_at hc.ids (k := 0) (id := (h.ps.getD 0 pty0).id) (by show 0 < (h.ps.set 1 _).length; omega) (by show ((h.ps.set 1 _).getD 0 pty0).id = _; rw [hg])
  have b := idxP_at hc.ids (k := 1) (id := (h.ps.getD 0 pty0).id) (by show 1 < (h.ps.set 1 _).length; omega) (by show ((h.ps.set 1 _).getD 1 pty0).id = _; rw [getD_set36 (by omega)])
  rw [a] at b; cases b
theorem bad_last {h : Hal} {k : Nat} (hk : k < h.ps.length) : ¬ VHal ⟨h.tick, (h.ps.getD k pty0).id - 1, h.ps⟩ := fun hc => by
  have := (hc.ok _ (getD_mem36 hk)).1
  have h1 : (h.ps.getD k pty0).id ≤ (h.ps.getD k pty0).id - 1 := this
  omega
theorem bad_invited {h : Hal} (h2 : 2 ≤ h.ps.length) {x t : Int} (hx : x ∈ (h.ps.getD 1 pty0).mem) (l : List Inv) : ¬ VHal ⟨h.tick, h.last, h.ps.set 1 { h.ps.getD 1 pty0 with inv := ⟨x, t⟩ :: l }⟩ := by
  intro hc
  have := ((hc.ok _ (set_mem36 (by omega) _)).2.2.2.2.2.1 ⟨x, t⟩ List.mem_cons_self).2.2.1
  refine this ?_
  show x ∈ allM (h.ps.set 1 _)
  rw [allM_set (by omega)]
  exact List.mem_append_right _ (List.mem_append_left _ hx)
theorem bad_empty {h : Hal} (h2 : 2 ≤ h.ps.length) : ¬ VHal ⟨h.tick, h.last, h.ps.set 1 { h.ps.getD 1 pty0 with mem := [] }⟩ := fun hc => by
  have := (hc.ok _ (set_mem36 (by omega) _)).2.1
  have h1 : 1 ≤ ([] : List Int).length := this
  exact absurd h1 (by decide)
theorem bad_tick (last : Int) (ps : List Pty) : ¬ VHal ⟨-1, last, ps⟩ := fun hc => by
  have h1 : (0 : Int) ≤ -1 := hc.t0
  omega
theorem bad_until {h : Hal} (h2 : 2 ≤ h.ps.length) (x : Int) : ¬ VHal ⟨h.tick, h.last, h.ps.set 1 { h.ps.getD 1 pty0 with inv := [⟨x, h.tick⟩] }⟩ := fun hc => by
  have := ((hc.ok _ (set_mem36 (by omega) _)).2.2.2.2.2.1 ⟨x, h.tick⟩ List.mem_cons_self).2.2.2.1
  have h1 : h.tick < h.tick := this
  omega
end Go.Proofs.YtlfbcoohfnoacaaGreat

/- Layer 36 (party): accepting and declining. Plain Lean. -/
namespace Go.Proofs.YtlfbcoohfnoacaaGreat
open Go.Fw Go.RowKit
/-- How often a player is invited to the parties of which something is true. -/
def cntB (f : Pty → Bool) (who : Int) : List Pty → Nat
  | [] => 0
  | p :: r => (if f p then p.inv.countP (fun i => decide (i.who = who)) else 0) + cntB f who r
theorem cnt_asked (who id : Int) (ps : List Pty) : cntB (fun p => decide (p.id = id)) who ps = 0 ↔ askedM who id ps = none := by
  induction ps with
  | nil => simp [cntB, askedM]
  | cons p r ih =>
    simp only [cntB, askedM]
    have hc : p.inv.countP (fun i => decide (i.who = who)) = 0 ↔ who ∉ p.inv.map Inv.who := by
      rw [List.countP_eq_zero]
      simp only [decide_eq_true_eq, List.mem_map, not_exists, not_and]
    by_cases h1 : p.id = id
    · rw [if_pos (by simp [h1])]
      by_cases h2 : who ∈ p.inv.map Inv.who
      · rw [if_pos ⟨h1, h2⟩]
        constructor
        · intro e; exact absurd (hc.mp (by omega)) (fun hn => hn h2)
        · intro e; cases e
      · rw [if_neg (fun hh => h2 hh.2), hc.mpr h2]
        simp [ih]
    · rw [if_neg (by simp [h1]), if_neg (fun hh => h1 hh.1)]
      simp [ih]
theorem countP_filter36 (who : Int) (g : Inv → Bool) (l : List Inv) : (l.filter g).countP (fun i => decide (i.who = who)) = l.countP (fun i => decide (i.who = who) && g i) := List.countP_filter ..
/-- After declining a player is invited as often as it was to the others. -/
theorem cnt_left (who id : Int) (ps : List Pty) : cntB (fun _ => true) who (uninvM (fun p i => decide (i.who = who) && (false || decide (p.id = id))) ps) = cntB (fun p => !decide (p.id = id)) who ps := by
  induction ps with
  | nil => rfl
  | cons p r ih =>
    have e : uninvM (fun p i => decide (i.who = who) && (false || decide (p.id = id))) (p :: r) = { p with inv := p.inv.filter fun i => !(decide (i.who = who) && (false || decide (p.id = id))) } :: uninvM (fun p i => decide (i.who = who) && (false || decide (p.id = id))) r := rfl
    rw [e]
    simp only [cntB]
    rw [ih]
    congr 1
    rw [countP_filter36]
    by_cases h1 : p.id = id
    · rw [if_pos trivial, if_neg (by simp [h1]), List.countP_eq_zero]
      intro i _
      simp [h1]
    · rw [if_pos trivial, if_pos (by simp [h1])]
      refine List.countP_congr fun i _ => ?_
      simp [h1]
/-- Nobody is invited to a party twice. -/
theorem inv_less {l : List Inv} (hs : l.Pairwise fun a b => a.who < b.who) {who : Int} (hw : who ∈ l.map Inv.who) : (l.filter fun i => !decide (i.who = who)).length + 1 = l.length := by
  induction l with
  | nil => cases hw
  | cons j r ih =>
    rw [List.pairwise_cons] at hs
    rw [List.filter_cons]
    by_cases hj : j.who = who
    · rw [if_neg (by simp [hj])]
      have : (r.filter fun i => !decide (i.who = who)) = r := List.filter_eq_self.mpr fun a ha => by
        have := hs.1 a ha
        have : a.who ≠ who := by omega
        simp [this]
      rw [this]; rfl
    · rw [if_pos (by simp [hj])]
      have := ih hs.2 ((List.mem_cons.mp hw).resolve_left (fun e => hj e.symm))
      simp only [List.length_cons]; omega
theorem asked_unique {h : Hal} (hv : VHal h) {who id : Int} {k : Nat} (ha : askedM who id h.ps = some k) : idxP id h.ps = some k := by
  obtain ⟨hk, hid, _⟩ := askedM_some _ ha
  exact idxP_at hv.ids hk hid
/-- Who accepts is the last member. -/
theorem accept_in {h : Hal} (hv : VHal h) {who id : Int} {k : Nat} (ha : askedM who id h.ps = some k) :
    (answerM h who id true).2 = 0 ∧ ofM (answerM h who id true).1 who = some ⟨(h.ps.getD k pty0).id, (h.ps.getD k pty0).leader, (h.ps.getD k pty0).mem ++ [who], (h.ps.getD k pty0).inv.filter fun i => !decide (i.who = who)⟩ := by
  obtain ⟨hF, h0⟩ := answer_fol hv ha true
  refine ⟨h0, ?_⟩
  obtain ⟨hk, hid, hw⟩ := askedM_some _ ha
  have hV := hF.valid
  have hk' : k < (uninvM (fun p i => decide (i.who = who) && (true || decide (p.id = id))) h.ps).length := by rw [uninv_len]; exact hk
  have hps : (answerM h who id true).1.ps = (uninvM (fun p i => decide (i.who = who) && (true || decide (p.id = id))) h.ps).set k { (uninvM (fun p i => decide (i.who = who) && (true || decide (p.id = id))) h.ps).getD k pty0 with mem := ((uninvM (fun p i => decide (i.who = who) && (true || decide (p.id = id))) h.ps).getD k pty0).mem ++ [who] } := by
    unfold answerM
    rw [if_pos (valid_iff.mpr hv), ha]
    rfl
  have hg : (answerM h who id true).1.ps.getD k pty0 = ⟨(h.ps.getD k pty0).id, (h.ps.getD k pty0).leader, (h.ps.getD k pty0).mem ++ [who], (h.ps.getD k pty0).inv.filter fun i => !decide (i.who = who)⟩ := by
    rw [hps, getD_set36 hk', uninv_getD _ hk]
    show Pty.mk _ _ _ _ = Pty.mk _ _ _ _
    congr 1
    refine List.filter_congr fun i _ => ?_
    simp
  have hl : k < (answerM h who id true).1.ps.length := by rw [hps, List.length_set]; exact hk'
  have hf := findM_unique hV.nd hl (who := who) (by rw [hg]; exact List.mem_append_right _ List.mem_cons_self)
  unfold ofM
  rw [if_pos (valid_iff.mpr hV), hf]
  show some ((answerM h who id true).1.ps.getD k pty0) = _
  rw [hg]
/-- Who declines is not invited to that party any more. -/
theorem decline_out {h : Hal} (hv : VHal h) {who id : Int} {k : Nat} (ha : askedM who id h.ps = some k) :
    (answerM h who id false).2 = 0 ∧ (answerM h who id false).1.ps = uninvM (fun p i => decide (i.who = who) && (false || decide (p.id = id))) h.ps ∧ idxP id (answerM h who id false).1.ps = some k ∧
      (answerM h who id false).1.ps.getD k pty0 = ⟨(h.ps.getD k pty0).id, (h.ps.getD k pty0).leader, (h.ps.getD k pty0).mem, (h.ps.getD k pty0).inv.filter fun i => !decide (i.who = who)⟩ ∧
      ((h.ps.getD k pty0).inv.filter fun i => !decide (i.who = who)).length + 1 = (h.ps.getD k pty0).inv.length ∧ answerM (answerM h who id false).1 who id false = (hal0, 6) := by
  obtain ⟨hF, h0⟩ := answer_fol hv ha false
  obtain ⟨hk, hid, hw⟩ := askedM_some _ ha
  have hV := hF.valid
  have hps : (answerM h who id false).1.ps = uninvM (fun p i => decide (i.who = who) && (false || decide (p.id = id))) h.ps := by
    unfold answerM
    rw [if_pos (valid_iff.mpr hv), ha]
    rfl
  have hg : (answerM h who id false).1.ps.getD k pty0 = ⟨(h.ps.getD k pty0).id, (h.ps.getD k pty0).leader, (h.ps.getD k pty0).mem, (h.ps.getD k pty0).inv.filter fun i => !decide (i.who = who)⟩ := by
    rw [hps, uninv_getD _ hk]
    show Pty.mk _ _ _ _ = Pty.mk _ _ _ _
    congr 1
    refine List.filter_congr fun i _ => ?_
    rw [hid]
    simp
  have hl : k < (answerM h who id false).1.ps.length := by rw [hps, uninv_len]; exact hk
  refine ⟨h0, hps, idxP_at hV.ids hl (by rw [hg]; exact hid), hg, inv_less (hv.ok _ (getD_mem36 hk)).2.2.2.2.1 hw, ?_⟩
  have hn : askedM who id (answerM h who id false).1.ps = none := by
    cases hq : askedM who id (answerM h who id false).1.ps with
    | none => rfl
    | some j =>
      exfalso
      obtain ⟨j1, j2, j3⟩ := askedM_some _ hq
      obtain ⟨i, i1, i2⟩ := List.mem_map.mp j3
      rw [hps] at j1 j2 i1
      rw [uninv_len] at j1
      rw [uninv_getD _ j1] at j2 i1
      have := (List.mem_filter.mp i1).2
      have h3 : (h.ps.getD j pty0).id = id := j2
      rw [h3, i2] at this
      simp at this
  generalize (answerM h who id false).1 = n at hn hV ⊢
  unfold answerM
  rw [if_pos (valid_iff.mpr hV), hn]
end Go.Proofs.YtlfbcoohfnoacaaGreat

/- Layer 36 (party): the reference's ways of saying it. Plain Lean. -/
namespace Go.Proofs.YtlfbcoohfnoacaaGreat
open Go.Fw Go.RowKit
/-- The reference's 'kept'. -/
def keptR (tick who only : Int) (ps : List Pty) : List Pty := uninvM (fun p i => !(decide (tick < i.till) && !(decide (i.who = who) && (decide (only = 0) || decide (only = p.id))))) ps
theorem uninv_congr {f g : Pty → Inv → Bool} {ps : List Pty} (h : ∀ p ∈ ps, ∀ i ∈ p.inv, f p i = g p i) : uninvM f ps = uninvM g ps := by
  unfold uninvM
  refine List.map_congr_left fun p hp => ?_
  congr 1
  exact List.filter_congr fun i hi => by rw [h p hp i hi]
/-- The reference's Advance: nobody has the number 0. -/
theorem kept_adv {h : Hal} (hv : VHal h) (t : Int) : keptR t 0 0 h.ps = uninvM (fun _ i => decide (i.till ≤ t)) h.ps := by
  refine uninv_congr fun p hp i hi => ?_
  have h1 := ((hv.ok p hp).2.2.2.2.2.1 i hi).1
  have h2 : ¬ i.who = 0 := by omega
  by_cases h3 : i.till ≤ t
  · have : ¬ t < i.till := by omega
    simp [h3, this]
  · have : t < i.till := by omega
    simp [h2, h3, this]
/-- The reference's Create and Accept. -/
theorem kept_who {h : Hal} (hv : VHal h) (who : Int) : keptR h.tick who 0 h.ps = uninvM (fun _ i => decide (i.who = who)) h.ps := by
  refine uninv_congr fun p hp i hi => ?_
  have h1 := ((hv.ok p hp).2.2.2.2.2.1 i hi).2.2.2.1
  simp [h1]
theorem kept_yes {h : Hal} (hv : VHal h) (who id : Int) : keptR h.tick who 0 h.ps = uninvM (fun p i => decide (i.who = who) && (true || decide (p.id = id))) h.ps := by
  rw [kept_who hv]
  refine uninv_congr fun p hp i hi => ?_
  simp
/-- The reference's Decline: no party has the number 0. -/
theorem kept_no {h : Hal} (hv : VHal h) {who id : Int} {k : Nat} (ha : askedM who id h.ps = some k) : keptR h.tick who id h.ps = uninvM (fun p i => decide (i.who = who) && (false || decide (p.id = id))) h.ps := by
  obtain ⟨hk, hid, _⟩ := askedM_some _ ha
  have h0 : ¬ id = 0 := by have := hv.pos _ (getD_mem36 hk); omega
  refine uninv_congr fun p hp i hi => ?_
  have h1 := ((hv.ok p hp).2.2.2.2.2.1 i hi).2.2.2.1
  have h2 : decide (id = p.id) = decide (p.id = id) := by simp only [eq_comm]
  simp [h0, h1, h2]
/-- How often a player is a member. -/
def timesR (ps : List Pty) (who : Int) : Nat := (allM ps).count who
theorem times_zero {ps : List Pty} {who : Int} : timesR ps who = 0 ↔ who ∉ allM ps := List.count_eq_zero
/-- What the reference asks of party number i. -/
def invR (tick : Int) (ps : List Pty) (l : List Inv) (k : Nat) : Bool :=
  isIdB (l.getD k ⟨0, 0⟩).who && decide (timesR ps (l.getD k ⟨0, 0⟩).who = 0) && decide (tick < (l.getD k ⟨0, 0⟩).till) && decide ((l.getD k ⟨0, 0⟩).till ≤ tick + 600) && (decide (k = 0) || decide ((l.getD (k - 1) ⟨0, 0⟩).who < (l.getD k ⟨0, 0⟩).who))
def memR (ps : List Pty) (n : Int) : Bool := isIdB n && decide (timesR ps n = 1)
def ptyR (h : Hal) (i : Nat) : Bool :=
  decide (1 ≤ (h.ps.getD i pty0).id) && decide ((h.ps.getD i pty0).id ≤ h.last) && (decide (i = 0) || decide ((h.ps.getD (i - 1) pty0).id < (h.ps.getD i pty0).id)) && decide (1 ≤ (h.ps.getD i pty0).mem.length) && decide ((h.ps.getD i pty0).mem.length + (h.ps.getD i pty0).inv.length ≤ 5) &&
    (h.ps.getD i pty0).mem.all (memR h.ps) && (List.range (h.ps.getD i pty0).inv.length).all (invR h.tick h.ps (h.ps.getD i pty0).inv) && decide ((h.ps.getD i pty0).leader ∈ (h.ps.getD i pty0).mem)
def validR (h : Hal) : Bool :=
  decide (0 ≤ h.tick) && decide (h.tick ≤ 1073741824) && decide (0 ≤ h.last) && decide (h.last ≤ 1048576) && decide (h.ps.length ≤ 32) && (List.range h.ps.length).all (ptyR h)
/-- A list rises if each rises above the one ahead of it. -/
theorem rises {α : Type} (key : α → Int) (d : α) : ∀ (l : List α), (l.Pairwise fun a b => key a < key b) ↔ ∀ k, k + 1 < l.length → key (l.getD k d) < key (l.getD (k + 1) d) := by
  intro l
  induction l with
  | nil => simp
  | cons x r ih =>
    rw [List.pairwise_cons, ih]
    constructor
    · rintro ⟨h1, h2⟩ k hk
      cases k with
      | zero =>
        have hr : 0 < r.length := by simp only [List.length_cons] at hk; omega
        have : r.getD 0 d ∈ r := by rw [List.getD_eq_getElem?_getD, List.getElem?_eq_getElem hr]; exact List.getElem_mem hr
        exact h1 _ this
      | succ k => exact h2 k (by simp only [List.length_cons] at hk; omega)
    · intro h
      have h2 : ∀ k, k + 1 < r.length → key (r.getD k d) < key (r.getD (k + 1) d) := fun k hk => h (k + 1) (by simp only [List.length_cons]; omega)
      refine ⟨?_, h2⟩
      have h3 : ∀ k, k < r.length → key x < key (r.getD k d) := by
        intro k
        induction k with
        | zero => intro hk; exact h 0 (by simp only [List.length_cons]; omega)
        | succ k ihk => intro hk; have a := ihk (by omega); have b := h2 k hk; omega
      intro y hy
      obtain ⟨k, hk, rfl⟩ := List.mem_iff_getElem.mp hy
      have := h3 k hk
      rwa [List.getD_eq_getElem?_getD, List.getElem?_eq_getElem hk] at this
theorem all_getD {α : Type} (d : α) (P : α → Prop) (l : List α) : (∀ x ∈ l, P x) ↔ ∀ k, k < l.length → P (l.getD k d) := by
  constructor
  · intro h k hk
    refine h _ ?_
    rw [List.getD_eq_getElem?_getD, List.getElem?_eq_getElem hk]; exact List.getElem_mem hk
  · intro h y hy
    obtain ⟨k, hk, rfl⟩ := List.mem_iff_getElem.mp hy
    have := h k hk
    rwa [List.getD_eq_getElem?_getD, List.getElem?_eq_getElem hk] at this
theorem invR_iff {tick : Int} {ps : List Pty} (l : List Inv) : (List.range l.length).all (invR tick ps l) = true ↔ (l.Pairwise fun a b => a.who < b.who) ∧ ∀ i ∈ l, okI tick (allM ps) i := by
  rw [rises Inv.who ⟨0, 0⟩, all_getD ⟨0, 0⟩ (okI tick (allM ps)), List.all_eq_true]
  simp only [List.mem_range]
  unfold invR okI
  simp only [Bool.and_eq_true, decide_eq_true_eq, Bool.or_eq_true, isIdB_iff, times_zero]
  constructor
  · intro h
    refine ⟨fun k hk => ?_, fun k hk => ?_⟩
    · rcases (h (k + 1) hk).2 with e | e
      · omega
      · exact e
    · obtain ⟨⟨⟨⟨⟨a, b⟩, c⟩, d⟩, e⟩, _⟩ := h k hk
      exact ⟨a, b, c, d, e⟩
  · rintro ⟨h1, h2⟩ k hk
    obtain ⟨a, b, c, d, e⟩ := h2 k hk
    refine ⟨⟨⟨⟨⟨a, b⟩, c⟩, d⟩, e⟩, ?_⟩
    cases k with
    | zero => exact Or.inl rfl
    | succ k => exact Or.inr (h1 k hk)
theorem nodup_count {l : List Int} : l.Nodup ↔ ∀ x ∈ l, l.count x = 1 := by
  induction l with
  | nil => simp
  | cons y r ih =>
    rw [List.nodup_cons, ih]
    constructor
    · rintro ⟨h1, h2⟩ x hx
      by_cases hxy : y = x
      · subst hxy
        rw [List.count_cons_self, List.count_eq_zero.mpr h1]
      · rw [List.count_cons_of_ne hxy]
        exact h2 x ((List.mem_cons.mp hx).resolve_left fun e => hxy e.symm)
    · intro h
      have h1 : y ∉ r := by
        have := h y List.mem_cons_self
        rw [List.count_cons_self] at this
        exact List.count_eq_zero.mp (by omega)
      refine ⟨h1, fun x hx => ?_⟩
      have := h x (List.mem_cons_of_mem _ hx)
      have hyx : y ≠ x := fun e => h1 (by rw [e]; exact hx)
      rwa [List.count_cons_of_ne hyx] at this
/-- The reference's Valid is the program's. -/
theorem validR_iff {h : Hal} : validR h = true ↔ VHal h := by
  have hp : (List.range h.ps.length).all (ptyR h) = true ↔ (h.ps.Pairwise fun a b => a.id < b.id) ∧ (∀ p ∈ h.ps, 1 ≤ p.id ∧ okP h.last h.tick (allM h.ps) p ∧ ∀ n ∈ p.mem, (allM h.ps).count n = 1) := by
    rw [rises Pty.id pty0, all_getD pty0 (fun p => 1 ≤ p.id ∧ okP h.last h.tick (allM h.ps) p ∧ ∀ n ∈ p.mem, (allM h.ps).count n = 1), List.all_eq_true]
    simp only [List.mem_range]
    unfold ptyR okP memR timesR
    simp only [Bool.and_eq_true, decide_eq_true_eq, Bool.or_eq_true, invR_iff]
    simp only [List.all_eq_true, Bool.and_eq_true, decide_eq_true_eq, isIdB_iff]
    constructor
    · intro hh
      refine ⟨fun k hk => ?_, fun k hk => ?_⟩
      · rcases (hh (k + 1) hk).1.1.1.1.1.2 with e | e
        · omega
        · exact e
      · obtain ⟨⟨⟨⟨⟨⟨⟨a, b⟩, _⟩, c⟩, d⟩, e⟩, f⟩, g⟩ := hh k hk
        exact ⟨a, ⟨b, c, d, g, f.1, f.2, fun n hn => (e n hn).1⟩, fun n hn => (e n hn).2⟩
    · rintro ⟨h1, h2⟩ k hk
      obtain ⟨a, ⟨b, c, d, g, f1, f2, e1⟩, e2⟩ := h2 k hk
      refine ⟨⟨⟨⟨⟨⟨⟨a, b⟩, ?_⟩, c⟩, d⟩, fun n hn => ⟨e1 n hn, e2 n hn⟩⟩, f1, f2⟩, g⟩
      cases k with
      | zero => exact Or.inl rfl
      | succ k => exact Or.inr (h1 k hk)
  unfold validR
  simp only [Bool.and_eq_true, decide_eq_true_eq, hp]
  constructor
  · rintro ⟨⟨⟨⟨⟨h1, h2⟩, h3⟩, h4⟩, h5⟩, h6, h7⟩
    refine ⟨h1, h2, h3, h4, h5, h6, fun p hp => (h7 p hp).1, fun p hp => (h7 p hp).2.1, nodup_count.mpr fun x hx => ?_⟩
    obtain ⟨p, hp, hm⟩ := mem_allM.mp hx
    exact (h7 p hp).2.2 x hm
  · rintro ⟨h1, h2, h3, h4, h5, h6, h7, h8, h9⟩
    exact ⟨⟨⟨⟨⟨h1, h2⟩, h3⟩, h4⟩, h5⟩, h6, fun p hp => ⟨h7 p hp, h8 p hp, fun n hn => nodup_count.mp h9 n (mem_allM.mpr ⟨p, hp, hn⟩)⟩⟩
theorem validR_eq (h : Hal) : validR h = validHal h := by
  rw [Bool.eq_iff_iff, validR_iff, valid_iff]
end Go.Proofs.YtlfbcoohfnoacaaGreat

/- Layer 36 (party): other parties. Plain Lean. -/
namespace Go.Proofs.YtlfbcoohfnoacaaGreat
open Go.Fw Go.RowKit
/-- What another party may lose: the invitations of a player. -/
def othOK (a : Int) (p q : Pty) : Prop := q.id = p.id ∧ q.leader = p.leader ∧ q.mem = p.mem ∧ (q.inv = p.inv ∨ q.inv = p.inv.filter fun i => !decide (i.who = a))
def idOf (o : Option Pty) : Int := (o.getD pty0).id
theorem oth_same (a : Int) (p : Pty) : othOK a p p := ⟨rfl, rfl, rfl, Or.inl rfl⟩
theorem mem_set_ne {ps : List Pty} {k : Nat} {p x : Pty} (hk : k < ps.length) (hp : p ∈ ps) (hne : p ≠ ps.getD k pty0) : p ∈ ps.set k x := by
  rw [ps_set hk]
  rw [ps_split hk] at hp
  rcases List.mem_append.mp hp with h | h
  · exact List.mem_append_left _ h
  · rcases List.mem_cons.mp h with e | h
    · exact absurd e hne
    · exact List.mem_append_right _ (List.mem_cons_of_mem _ h)
theorem mem_erase_ne {ps : List Pty} {k : Nat} {p : Pty} (hk : k < ps.length) (hp : p ∈ ps) (hne : p ≠ ps.getD k pty0) : p ∈ ps.eraseIdx k := by
  rw [ps_erase]
  rw [ps_split hk] at hp
  rcases List.mem_append.mp hp with h | h
  · exact List.mem_append_left _ h
  · rcases List.mem_cons.mp h with e | h
    · exact absurd e hne
    · exact List.mem_append_right _ h
theorem idOf_find {h : Hal} (hv : VHal h) {a : Int} {k : Nat} (hf : findM a h.ps = some k) : idOf (ofM h a) = (h.ps.getD k pty0).id := by
  unfold idOf ofM
  rw [if_pos (valid_iff.mpr hv), hf]
  rfl
theorem ne_of_id {p q : Pty} (h : p.id ≠ q.id) : p ≠ q := fun e => h (by rw [e])
/-- The hall behind it, as it lies to the one ahead of it. -/
structure Oth (h n : Hal) (a : Int) : Prop where
  oth : ∀ p ∈ h.ps, p.id ≠ idOf (ofM h a) → p.id ≠ idOf (ofM n a) → ∃ q ∈ n.ps, othOK a p q
  up : n.ps.length ≤ h.ps.length + 1
  down : h.ps.length ≤ n.ps.length + 1
theorem oth_set {h : Hal} (hv : VHal h) {a : Int} {k : Nat} (hf : findM a h.ps = some k) (x : Pty) : Oth h ⟨h.tick, h.last, h.ps.set k x⟩ a := by
  have hk := (findM_some _ hf).1
  have hl : (h.ps.set k x).length = h.ps.length := List.length_set ..
  refine ⟨fun p hp h1 _ => ⟨p, mem_set_ne hk hp (ne_of_id (by rw [idOf_find hv hf] at h1; exact h1)), oth_same a p⟩, ?_, ?_⟩
  · show (h.ps.set k x).length ≤ _; omega
  · show _ ≤ (h.ps.set k x).length + 1; omega
theorem oth_erase {h : Hal} (hv : VHal h) {a : Int} {k : Nat} (hf : findM a h.ps = some k) : Oth h ⟨h.tick, h.last, h.ps.eraseIdx k⟩ a := by
  have hk := (findM_some _ hf).1
  have hl : (h.ps.eraseIdx k).length = h.ps.length - 1 := by rw [List.length_eraseIdx, if_pos hk]
  refine ⟨fun p hp h1 _ => ⟨p, mem_erase_ne hk hp (ne_of_id (by rw [idOf_find hv hf] at h1; exact h1)), oth_same a p⟩, ?_, ?_⟩
  · show (h.ps.eraseIdx k).length ≤ _; omega
  · show _ ≤ (h.ps.eraseIdx k).length + 1; omega
theorem oth_leave {h : Hal} (hv : VHal h) {a : Int} {k : Nat} (hf : findM a h.ps = some k) (who : Int) : Oth h (leaveAt h k who) a := by
  unfold leaveAt
  split
  · exact oth_erase hv hf
  · exact oth_set hv hf _
theorem oth_uninv {ps : List Pty} {is : Pty → Inv → Bool} {a : Int} (hi : ∀ p, (∀ i, is p i = decide (i.who = a)) ∨ ∀ i, is p i = false) {p : Pty} (hp : p ∈ ps) : ∃ q ∈ uninvM is ps, othOK a p q := by
  refine ⟨_, mem_uninv.mpr ⟨p, hp, rfl⟩, rfl, rfl, rfl, ?_⟩
  rcases hi p with h | h
  · exact Or.inr (List.filter_congr fun i _ => by rw [h i])
  · exact Or.inl (List.filter_eq_self.mpr fun i _ => by rw [h i]; rfl)
/-- What is done (but Advance) leaves other parties as they are. -/
theorem do_oth {h : Hal} {kind : Nat} {a b : Int} (hk0 : kind ≠ 0) (h0 : (doM h kind a b).2 = 0) : Oth h (doM h kind a b).1 a := by
  have hlead : ∀ f : Nat → ResP, (∀ k, VHal h → findM a h.ps = some k → (f k).2 = 0 → Oth h (f k).1 a) → (leadM h a f).2 = 0 → Oth h (leadM h a f).1 a := fun f hf =>
    leadM_cases h a f (fun r => r.2 = 0 → Oth h r.1 a) (fun e he hc => absurd hc he) (fun hv k hk hfd hl hc => hf k hv hfd hc)
  have hfol := do_fol h kind a b
  unfold doM at h0 hfol ⊢
  split at h0
  · exact absurd rfl hk0
  · obtain ⟨h1, h2, h3⟩ := create_valid h0
    rw [h3]
    refine ⟨fun p hp _ _ => ?_, ?_, ?_⟩
    · obtain ⟨q, hq, ho⟩ := oth_uninv (is := fun _ i => decide (i.who = a)) (a := a) (fun p => Or.inl fun i => rfl) hp
      exact ⟨q, List.mem_append_left _ hq, ho⟩
    · show (_ ++ [_] : List Pty).length ≤ _
      rw [List.length_append, uninv_len]; exact Nat.le_refl _
    · show _ ≤ (_ ++ [_] : List Pty).length + 1
      rw [List.length_append, uninv_len]; omega
  · refine hlead _ (fun k hv hf hc => ?_) h0
    try simp only at hc
    try simp only
    split at hc
    · rename_i c1
      rw [if_pos c1]
      split at hc
      · cases hc
      · rename_i c2
        rw [if_neg c2]
        split at hc
        · cases hc
        · rename_i c3
          rw [if_neg c3]
          split at hc
          · rename_i c4; rw [if_pos c4]; exact oth_set hv hf _
          · cases hc
    · cases hc
  · have hv : VHal h := by
      refine valid_iff.mp (Decidable.of_not_not fun hc => ?_)
      unfold answerM at h0; rw [if_neg hc] at h0; cases h0
    cases ha : askedM a b h.ps with
    | none => unfold answerM at h0; rw [if_pos (valid_iff.mpr hv), ha] at h0; cases h0
    | some k =>
      obtain ⟨g1, g2⟩ := accept_in hv ha
      obtain ⟨hk, hid, hw⟩ := askedM_some _ ha
      have hk' : k < (uninvM (fun p i => decide (i.who = a) && (true || decide (p.id = b))) h.ps).length := by rw [uninv_len]; exact hk
      have hps : (answerM h a b true).1.ps = (uninvM (fun p i => decide (i.who = a) && (true || decide (p.id = b))) h.ps).set k { (uninvM (fun p i => decide (i.who = a) && (true || decide (p.id = b))) h.ps).getD k pty0 with mem := ((uninvM (fun p i => decide (i.who = a) && (true || decide (p.id = b))) h.ps).getD k pty0).mem ++ [a] } := by
        unfold answerM
        rw [if_pos (valid_iff.mpr hv), ha]
        rfl
      refine ⟨fun p hp _ hn => ?_, ?_, ?_⟩
      · have hn' : p.id ≠ (h.ps.getD k pty0).id := by
          unfold idOf at hn
          rw [g2] at hn
          exact hn
        obtain ⟨q, hq, ho⟩ := oth_uninv (is := fun p i => decide (i.who = a) && (true || decide (p.id = b))) (a := a) (fun p => Or.inl fun i => by simp) hp
        rw [hps]
        refine ⟨q, mem_set_ne hk' hq (ne_of_id ?_), ho⟩
        rw [uninv_getD _ hk, ho.1]
        exact hn'
      · rw [hps, List.length_set, uninv_len]; omega
      · rw [hps, List.length_set, uninv_len]; omega
  · have hv : VHal h := by
      refine valid_iff.mp (Decidable.of_not_not fun hc => ?_)
      unfold answerM at h0; rw [if_neg hc] at h0; cases h0
    cases ha : askedM a b h.ps with
    | none => unfold answerM at h0; rw [if_pos (valid_iff.mpr hv), ha] at h0; cases h0
    | some k =>
      obtain ⟨_, hps, _⟩ := decline_out hv ha
      refine ⟨fun p hp _ hn => ?_, ?_, ?_⟩
      · rw [hps]
        refine oth_uninv (fun p => ?_) hp
        by_cases hid : p.id = b
        · exact Or.inl fun i => by simp [hid]
        · exact Or.inr fun i => by simp [hid]
      · rw [hps, uninv_len]; omega
      · rw [hps, uninv_len]; omega
  · unfold leaveM at h0 ⊢
    split at h0
    · rename_i hv
      rw [if_pos hv]
      split at h0
      · cases h0
      · rename_i k hf
        exact oth_leave (valid_iff.mp hv) hf a
    · cases h0
  · refine hlead _ (fun k hv hf hc => ?_) h0
    try simp only at hc
    try simp only
    split at hc
    · rename_i c1
      rw [if_pos c1]
      split at hc
      · cases hc
      · rename_i c2; rw [if_neg c2]; exact oth_leave hv hf b
    · cases hc
  · refine hlead _ (fun k hv hf hc => ?_) h0
    try simp only at hc
    try simp only
    split at hc
    · rename_i c1; rw [if_pos c1]; exact oth_set hv hf _
    · cases hc
  · exact hlead _ (fun k hv hf hc => oth_erase hv hf) h0
/-- In a valid hall a party is found by its ID. -/
theorem find_mem {h : Hal} (hv : VHal h) {q : Pty} (hq : q ∈ h.ps) : ∃ j, j < h.ps.length ∧ idxP q.id h.ps = some j ∧ h.ps.getD j pty0 = q := by
  obtain ⟨j, hj, rfl⟩ := List.mem_iff_getElem.mp hq
  have hg : h.ps.getD j pty0 = h.ps[j] := by rw [List.getD_eq_getElem?_getD, List.getElem?_eq_getElem hj]; rfl
  exact ⟨j, hj, idxP_at hv.ids hj (by rw [hg]), hg⟩
end Go.Proofs.YtlfbcoohfnoacaaGreat

/- Layer 36 (party): lists with something left out or put in, step by step. Plain Lean. -/
namespace Go.Proofs.YtlfbcoohfnoacaaGreat
open Go.Fw Go.RowKit
theorem list_split {α : Type} (d : α) {l : List α} {k : Nat} (hk : k < l.length) : l = l.take k ++ l.getD k d :: l.drop (k + 1) := by
  have h1 := List.take_append_drop k l
  rw [List.drop_eq_getElem_cons hk] at h1
  rw [List.getD_eq_getElem?_getD, List.getElem?_eq_getElem hk]
  exact h1.symm
theorem take_snoc36 {α : Type} (d : α) {l : List α} {k : Nat} (hk : k < l.length) : l.take (k + 1) = l.take k ++ [l.getD k d] := by
  rw [List.take_add_one, List.getD_eq_getElem?_getD, List.getElem?_eq_getElem hk]
  rfl
/-- A list beside the list of those of which something is true: here the next of both are the same. -/
theorem beside_yes {α : Type} (d : α) (g : α → Bool) {l : List α} {k : Nat} (hk : k < l.length) (hg : g (l.getD k d) = true) :
    ((l.take k).filter g).length < (l.filter g).length ∧ (l.filter g).getD ((l.take k).filter g).length d = l.getD k d ∧ ((l.take (k + 1)).filter g).length = ((l.take k).filter g).length + 1 := by
  have h1 : l.filter g = (l.take k).filter g ++ l.getD k d :: (l.drop (k + 1)).filter g := by
    have := congrArg (List.filter g) (list_split d hk)
    rw [List.filter_append, List.filter_cons, if_pos hg] at this
    exact this
  refine ⟨?_, ?_, ?_⟩
  · rw [h1, List.length_append, List.length_cons]; omega
  · rw [h1, List.getD_eq_getElem?_getD, List.getElem?_append_right (Nat.le_refl _), Nat.sub_self]; rfl
  · rw [take_snoc36 d hk, List.filter_append, List.length_append, List.filter_cons, if_pos hg]; rfl
/-- .. and here they are not. -/
theorem beside_no {α : Type} (d : α) (g : α → Bool) {l : List α} (hn : l.Nodup) {k : Nat} (hk : k < l.length) (hg : g (l.getD k d) = false) :
    (((l.take k).filter g).length < (l.filter g).length → (l.filter g).getD ((l.take k).filter g).length d ≠ l.getD k d) ∧ ((l.take (k + 1)).filter g).length = ((l.take k).filter g).length := by
  have h1 : l.filter g = (l.take k).filter g ++ (l.drop (k + 1)).filter g := by
    have := congrArg (List.filter g) (list_split d hk)
    rw [List.filter_append, List.filter_cons, if_neg (by rw [hg]; decide)] at this
    exact this
  refine ⟨fun hl => ?_, ?_⟩
  · rw [h1, List.length_append] at hl
    rw [h1, List.getD_eq_getElem?_getD, List.getElem?_append_right (Nat.le_refl _), Nat.sub_self]
    rw [list_split d hk, List.nodup_append, List.nodup_cons] at hn
    have h0 : 0 < ((l.drop (k + 1)).filter g).length := by omega
    rw [List.getElem?_eq_getElem h0]
    intro e
    have hm : ((l.drop (k + 1)).filter g)[0] ∈ l.drop (k + 1) := (List.mem_filter.mp (List.getElem_mem h0)).1
    have e' : ((l.drop (k + 1)).filter g)[0] = l.getD k d := e
    rw [e'] at hm
    exact hn.2.1.1 hm
  · rw [take_snoc36 d hk, List.filter_append, List.length_append, List.filter_cons, if_neg (by rw [hg]; decide)]; rfl
theorem inv_nodup {l : List Inv} (hs : l.Pairwise fun a b => a.who < b.who) : l.Nodup := hs.imp fun h e => by rw [e] at h; omega
/-! The reference's loop that puts an invitation in. -/
theorem insI_in {x y : Inv} {l : List Inv} (h : ∃ z ∈ l, x.who ≤ z.who) : insI x (l ++ [y]) = insI x l ++ [y] := by
  induction l with
  | nil => obtain ⟨z, hz, _⟩ := h; cases hz
  | cons i r ih =>
    show insI x (i :: (r ++ [y])) = insI x (i :: r) ++ [y]
    simp only [insI]
    split
    · rfl
    · rename_i hi
      obtain ⟨z, hz, hle⟩ := h
      have hz' : z ∈ r := (List.mem_cons.mp hz).resolve_left fun e => hi (by rw [← e]; exact hle)
      rw [ih ⟨z, hz', hle⟩]
      rfl
theorem insI_end {x : Inv} {l : List Inv} (h : ∀ z ∈ l, z.who < x.who) : insI x l = l ++ [x] := by
  induction l with
  | nil => rfl
  | cons i r ih =>
    have := h i List.mem_cons_self
    simp only [insI]
    rw [if_neg (by omega), ih fun z hz => h z (List.mem_cons_of_mem _ hz)]
    rfl
theorem insI_at {x y : Inv} {l : List Inv} (h : ∀ z ∈ l, z.who < x.who) (hy : x.who ≤ y.who) : insI x (l ++ [y]) = l ++ [x, y] := by
  induction l with
  | nil =>
    show insI x [y] = [x, y]
    simp only [insI]
    rw [if_pos hy]
  | cons i r ih =>
    have := h i List.mem_cons_self
    show insI x (i :: (r ++ [y])) = i :: r ++ [x, y]
    simp only [insI]
    rw [if_neg (by omega), ih fun z hz => h z (List.mem_cons_of_mem _ hz)]
    rfl
/-- The program's: put in at the place that a binary search finds. -/
theorem insI_place {x : Inv} : ∀ {l : List Inv} {k : Nat}, k ≤ l.length → (∀ j, j < k → (l.getD j ⟨0, 0⟩).who < x.who) → (∀ j, k ≤ j → j < l.length → x.who ≤ (l.getD j ⟨0, 0⟩).who) → insI x l = l.take k ++ x :: l.drop k := by
  intro l
  induction l with
  | nil => intro k hk _ _; have : k = 0 := by simpa using hk
           subst this; rfl
  | cons i r ih =>
    intro k hk h1 h2
    simp only [insI]
    cases k with
    | zero =>
      have := h2 0 (Nat.le_refl _) (by simp only [List.length_cons]; omega)
      rw [if_pos (show x.who ≤ i.who from this)]
      rfl
    | succ k =>
      have h0 : i.who < x.who := h1 0 (by omega)
      rw [if_neg (by omega), ih (k := k) (by simp only [List.length_cons] at hk; omega) (fun j hj => h1 (j + 1) (by omega)) (fun j hj hl => h2 (j + 1) (by omega) (by simp only [List.length_cons]; omega))]
      rfl
/-- Who leaves, in the reference: a list of those that stay. -/
theorem filter_take36 {α : Type} (d : α) (g : α → Bool) {l : List α} {k : Nat} (hk : k < l.length) : (l.take (k + 1)).filter g = (l.take k).filter g ++ (if g (l.getD k d) then [l.getD k d] else []) := by
  rw [take_snoc36 d hk, List.filter_append]
  congr 1
  rw [List.filter_cons]
  split <;> rfl
end Go.Proofs.YtlfbcoohfnoacaaGreat

/- Layer 36 (party): a valid hall is sound, as the law looks at it. Plain Lean. -/
namespace Go.Proofs.YtlfbcoohfnoacaaGreat
open Go.Fw Go.RowKit
theorem getD_in36 {α : Type} (d : α) {l : List α} {k : Nat} (hk : k < l.length) : l.getD k d ∈ l := by
  rw [List.getD_eq_getElem?_getD, List.getElem?_eq_getElem hk]; exact List.getElem_mem hk
/-- The players that came up ahead of member k of party i. -/
def ahead36 (ps : List Pty) (i k : Nat) : List Int := allM (ps.take i) ++ (ps.getD i pty0).mem.take k
theorem ahead_next {ps : List Pty} {i k : Nat} (hk : k < (ps.getD i pty0).mem.length) : ahead36 ps i (k + 1) = ahead36 ps i k ++ [(ps.getD i pty0).mem.getD k 0] := by
  unfold ahead36
  rw [take_snoc36 0 hk, List.append_assoc]
theorem ahead_all {ps : List Pty} {i : Nat} (hi : i < ps.length) : ahead36 ps i (ps.getD i pty0).mem.length = ahead36 ps (i + 1) 0 := by
  unfold ahead36
  rw [List.take_length, List.take_zero, List.append_nil, take_snoc36 pty0 hi, allM_append, allM_cons]
  show _ = allM (ps.take i) ++ (_ ++ [])
  rw [List.append_nil]
theorem ahead_zero (ps : List Pty) : ahead36 ps 0 0 = [] := rfl
/-- Everybody comes up once. -/
theorem ahead_new {h : Hal} (hv : VHal h) {i k : Nat} (hi : i < h.ps.length) (hk : k < (h.ps.getD i pty0).mem.length) : (h.ps.getD i pty0).mem.getD k 0 ∉ ahead36 h.ps i k := by
  have hn := hv.nd
  rw [allM_split hi] at hn
  have hs := list_split (0 : Int) hk
  intro hm
  unfold ahead36 at hm
  rw [List.nodup_append] at hn
  obtain ⟨_, hn2, hd⟩ := hn
  have hin : (h.ps.getD i pty0).mem.getD k 0 ∈ (h.ps.getD i pty0).mem := by
    exact getD_in36 0 hk
  rcases List.mem_append.mp hm with h1 | h1
  · exact hd _ h1 _ (List.mem_append_left _ hin) rfl
  · rw [List.nodup_append] at hn2
    have hmm := hn2.1
    rw [hs, List.nodup_append] at hmm
    exact hmm.2.2 _ h1 _ List.mem_cons_self rfl
/-- All have come up. -/
theorem ahead_end (ps : List Pty) : ahead36 ps ps.length 0 = allM ps := by
  unfold ahead36
  rw [List.take_length, List.take_zero, List.append_nil]
/-- A leader is a member once. -/
theorem led_one {h : Hal} (hv : VHal h) {i : Nat} (hi : i < h.ps.length) : (h.ps.getD i pty0).mem.count (h.ps.getD i pty0).leader = 1 :=
  nodup_count.mp (mem_nodup hv hi) _ (hv.ok _ (getD_mem36 hi)).2.2.2.1
theorem led_next {l : List Int} {k : Nat} (hk : k < l.length) (x : Int) : (l.take (k + 1)).count x = (l.take k).count x + (if l.getD k 0 = x then 1 else 0) := by
  rw [take_snoc36 0 hk, List.count_append]
  congr 1
  by_cases h : l.getD k 0 = x
  · rw [if_pos h, h, List.count_singleton_self]
  · rw [if_neg h, List.count_eq_zero]
    exact fun hm => h (List.mem_singleton.mp hm).symm
/-- An invitation, as the law looks at it. -/
theorem inv_sound {h : Hal} (hv : VHal h) {i k : Nat} (hi : i < h.ps.length) (hk : k < (h.ps.getD i pty0).inv.length) : ((h.ps.getD i pty0).inv.getD k ⟨0, 0⟩).who ∉ allM h.ps ∧ h.tick < ((h.ps.getD i pty0).inv.getD k ⟨0, 0⟩).till := by
  have hm : (h.ps.getD i pty0).inv.getD k ⟨0, 0⟩ ∈ (h.ps.getD i pty0).inv := by
    exact getD_in36 _ hk
  have := (hv.ok _ (getD_mem36 hi)).2.2.2.2.2.1 _ hm
  exact ⟨this.2.2.1, this.2.2.2.1⟩
end Go.Proofs.YtlfbcoohfnoacaaGreat

