/- Rules for slices.Insert and slices.Delete: appends into one's own row, copies, rows with room, appends of zeros. -/
import Derived.Test.YtlfbcoohfnoacaaGreatSAa
import Derived.Test.YtlfbcoohfnoacaaGreatSAb
import Derived.Lib.Overlaps
import Derived.Lib.AppendZerosOnto
import Derived.Laws.Externs
set_option linter.unusedSimpArgs false
set_option linter.unusedVariables false
/- Maps from numbers to numbers. -/
namespace Go.Fw
open Go.RowKit
/-- What a map holds, in the order in which it came in. -/
def mfind : List (Int × Int) → Int → Option Int
  | [], _ => none
  | x :: l, k => if x.1 = k then some x.2 else mfind l k
def mget (l : List (Int × Int)) (k : Int) : Int := (mfind l k).getD 0
def mput : List (Int × Int) → Int → Int → List (Int × Int)
  | [], k, v => [(k, v)]
  | x :: l, k, v => if x.1 = k then (x.1, v) :: l else x :: mput l k v
theorem mfind_put (l : List (Int × Int)) (k v j : Int) : mfind (mput l k v) j = if k = j then some v else mfind l j := by
  induction l with
  | nil => simp [mput, mfind]
  | cons x l ih =>
    simp only [mput]
    by_cases h : x.1 = k
    · rw [if_pos h]
      simp only [mfind]
      by_cases hj : x.1 = j
      · rw [if_pos hj, if_pos (by omega)]
      · rw [if_neg hj, if_neg (by omega), if_neg hj]
    · rw [if_neg h]
      simp only [mfind]
      by_cases hj : x.1 = j
      · rw [if_pos hj, if_neg (by omega), if_pos hj]
      · rw [if_neg hj, ih, if_neg hj]
theorem mput_keys (l : List (Int × Int)) (k v : Int) : (mput l k v).map (·.1) = if k ∈ l.map (·.1) then l.map (·.1) else l.map (·.1) ++ [k] := by
  induction l with
  | nil => simp [mput]
  | cons x l ih =>
    simp only [mput]
    by_cases h : x.1 = k
    · rw [if_pos h]; simp [h]
    · rw [if_neg h]
      have h' : ¬ k = x.1 := fun e => h e.symm
      simp only [List.map_cons, ih, List.mem_cons, h', false_or]
      split <;> rfl
/-- Where the key stands. -/
def midx : List (Int × Int) → Int → Nat
  | [], _ => 0
  | x :: l, k => if x.1 = k then 0 else midx l k + 1
/-- The entries es are l. -/
def Mat (es : List MapEntry) (l : List (Int × Int)) : Prop := es.map (fun e => (e.key, e.val)) = l.map fun x => (Value.int .i64 x.1, Value.int .i64 x.2)
def Births (es : List MapEntry) (c : Nat) : Prop := (∀ e ∈ es, e.born < c) ∧ (es.map (·.born)).Nodup
/-- A map. -/
def mpp (r : Nat) (l : List (Int × Int)) : HP := .oth fun p => ∃ es c, p = pone r (.map es c) ∧ Mat es.toList l ∧ Births es.toList c
theorem Mat.len {es : List MapEntry} {l : List (Int × Int)} (h : Mat es l) : es.length = l.length := by simpa using congrArg List.length h
theorem mat_cons {e : MapEntry} {es : List MapEntry} {x : Int × Int} {l : List (Int × Int)} : Mat (e :: es) (x :: l) ↔ e.key = .int .i64 x.1 ∧ e.val = .int .i64 x.2 ∧ Mat es l := by
  simp [Mat, and_assoc]
theorem find_none : ∀ {es : List MapEntry} {l : List (Int × Int)} {k : Int} (n : Nat), Mat es l → mfind l k = none → Instr.findNow (.int .i64) (.int .i64 k) es n = some none ∧ mput l k = fun v => l ++ [(k, v)]
  | [], [], k, n, _, _ => ⟨rfl, by funext v; rfl⟩
  | [], _ :: _, _, _, h, _ => by simp [Mat] at h
  | _ :: _, [], _, _, h, _ => by simp [Mat] at h
  | e :: es, x :: l, k, n, h, hf => by
    obtain ⟨h1, h2, h3⟩ := mat_cons.1 h
    simp only [mfind] at hf
    split at hf
    · cases hf
    · rename_i hx
      obtain ⟨a, b⟩ := find_none (n + 1) h3 hf
      refine ⟨?_, ?_⟩
      · simp only [Instr.findNow, h1, Instr.sameNow, if_true]
        rw [show (k == x.1) = false from beq_eq_false_iff_ne.2 (fun e => hx e.symm)]
        exact a
      · funext v
        simp only [mput, if_neg hx, b, List.cons_append]
theorem find_some : ∀ {es : List MapEntry} {l : List (Int × Int)} {k v : Int} (n : Nat), Mat es l → mfind l k = some v → ∃ e, Instr.findNow (.int .i64) (.int .i64 k) es n = some (some (n + midx l k, .int .i64 v)) ∧ es[midx l k]? = some e ∧ e.key = .int .i64 k ∧ e.val = .int .i64 v ∧ ∀ u (g : MapEntry → MapEntry), (g e).key = .int .i64 k → (g e).val = .int .i64 u → Mat (es.modify (midx l k) g) (mput l k u)
  | [], [], k, v, n, _, hf => by cases hf
  | [], _ :: _, _, _, _, h, _ => by simp [Mat] at h
  | _ :: _, [], _, _, _, h, _ => by simp [Mat] at h
  | e :: es, x :: l, k, v, n, h, hf => by
    obtain ⟨h1, h2, h3⟩ := mat_cons.1 h
    simp only [mfind] at hf
    split at hf
    · rename_i hx
      injection hf with hf
      rw [show midx (x :: l) k = 0 by simp [midx, hx]]
      refine ⟨e, ?_, rfl, by rw [h1, hx], by rw [h2, hf], fun u g hk hv => ?_⟩
      · simp only [Instr.findNow, h1, Instr.sameNow, if_true]
        rw [show (k == x.1) = true from beq_iff_eq.2 hx.symm, h2, hf]; rfl
      · simp only [mput, if_pos hx, List.modify_zero_cons]
        exact mat_cons.2 ⟨by rw [hk, hx], hv, h3⟩
    · rename_i hx
      rw [show midx (x :: l) k = midx l k + 1 by simp [midx, hx]]
      obtain ⟨e', a, b, c, c2, d⟩ := find_some (n + 1) h3 hf
      refine ⟨e', ?_, b, c, c2, fun u g hk hv => ?_⟩
      · simp only [Instr.findNow, h1, Instr.sameNow, if_true]
        rw [show (k == x.1) = false from beq_eq_false_iff_ne.2 (fun e => hx e.symm)]
        show Instr.findNow _ _ es (n + 1) = _
        rw [a]; congr 3; omega
      · simp only [mput, if_neg hx, List.modify_succ_cons]
        exact mat_cons.2 ⟨h1, h2, d u g hk hv⟩
theorem births_push {es : List MapEntry} {c : Nat} (h : Births es c) {e : MapEntry} (he : e.born = c) : Births (es ++ [e]) (c + 1) := by
  refine ⟨fun x hx => ?_, ?_⟩
  · rcases List.mem_append.1 hx with hx | hx
    · have := h.1 x hx; omega
    · rw [List.mem_singleton.1 hx]; omega
  · rw [List.map_append, List.nodup_append]
    refine ⟨h.2, by simp, fun a ha b hb => ?_⟩
    obtain ⟨x, hx, rfl⟩ := List.mem_map.1 ha
    simp at hb
    have := h.1 x hx; omega
theorem born_modify {g : MapEntry → MapEntry} (hg : ∀ e, (g e).born = e.born) : ∀ (es : List MapEntry) (i : Nat), (es.modify i g).map (·.born) = es.map (·.born)
  | [], i => by cases i <;> simp
  | e :: es, 0 => by simp [hg]
  | e :: es, i + 1 => by simp [born_modify hg es i]
theorem births_modify {es : List MapEntry} {c i : Nat} {g : MapEntry → MapEntry} (hg : ∀ e, (g e).born = e.born) (h : Births es c) : Births (es.modify i g) c := by
  have hb := born_modify hg es i
  refine ⟨fun x hx => ?_, by rw [hb]; exact h.2⟩
  have h1 : x.born ∈ (es.modify i g).map (·.born) := List.mem_map_of_mem hx
  rw [hb] at h1
  obtain ⟨y, hy, he⟩ := List.mem_map.1 h1
  rw [← he]; exact h.1 y hy
theorem mat_snoc {es : List MapEntry} {l : List (Int × Int)} (h : Mat es l) {e : MapEntry} {k v : Int} (hk : e.key = .int .i64 k) (hv : e.val = .int .i64 v) : Mat (es ++ [e]) (l ++ [(k, v)]) := by
  unfold Mat at *
  rw [List.map_append, List.map_append, h]
  simp [hk, hv]

/-- t is map[int]int. -/
class TMap (P : Program) (t : TypeId) : Prop where
  und : ∃ kt et, P.underlying t = some (.map kt et) ∧ P.underlying kt = some (.int .i64) ∧ ∀ w, (zeroValue et).run P w = .ok (.int .i64 0) w
section
variable {P : Program} {w : World} {r : Nat} {es : Array MapEntry} {c : Nat}
theorem run_getM (h : w.heap[r]? = some (.map es c)) : (getObj r).run P w = .ok (.map es c) w := by simp [getObj, Sem.run, h]
theorem run_setM (h : w.heap[r]? = some (.map es c)) (o : Obj) : (setObj r o).run P w = .ok () (w.putObj r o) := by simp [setObj, Sem.run, h, World.putObj]
theorem run_checkN {kt : TypeId} (hk : P.underlying kt = some (.int .i64)) (b : Bool) (k : Int) (m : Nat) : (Instr.checkKey b (m + 1) kt (.int .i64 k)).run P w = .ok () w := by
  simp [Instr.checkKey, run_underlying hk]
theorem run_checkM {kt : TypeId} (hk : P.underlying kt = some (.int .i64)) (b : Bool) (k : Int) : (Instr.checkKey b 10000 kt (.int .i64 k)).run P w = .ok () w := run_checkN hk b k 9999
theorem same_bits (k : Int) (m : Nat) : Instr.sameBits (m + 1) (.int .i64 k) (.int .i64 k) = true := by simp [Instr.sameBits]
theorem run_staysM (k : Int) : (Instr.keyThatStays (.int .i64 k) (.int .i64 k)).run P w = .ok (.int .i64 k) w := by
  have : Instr.sameBits 10000 (.int .i64 k) (.int .i64 k) = true := same_bits k 9999
  simp [Instr.keyThatStays, this]
theorem run_findM {kt : TypeId} (hk : P.underlying kt = some (.int .i64)) (k : Int) {l : List MapEntry} {x : Option (Nat × Value)} (h : Instr.findNow (.int .i64) (.int .i64 k) l 0 = some x) : (Instr.findKey kt (.int .i64 k) l).run P w = .ok x w := by
  simp [Instr.findKey, run_underlying hk, h]
end
section
variable {md : Md} {P : Program} {n : Nat} {Q : HQ} {f : Fr} {w0 : World} {H R : List HP} {ops : Array Oper} {rest : List Oper} {d : Nat} {op : Op} {ty : TypeId} {pos : String} {aft : Array Edge} {v : Value} {x y z : Operand}
theorem mpp_open {w : World} {r : Nat} {l : List (Int × Int)} (h : Wd w0 (mpp r l :: R) w) : ∃ es c, w.heap[r]? = some (.map es c) ∧ Mat es.toList l ∧ Births es.toList c ∧ Wd w0 (.oth (fun p => p = pone r (.map es c)) :: R) w := by
  obtain ⟨he, q, ⟨p1, p2, hx0, hs, hd, hp⟩, hi⟩ := h
  have hx1 : ∃ es c, p1 = pone r (.map es c) ∧ Mat es.toList l ∧ Births es.toList c := hx0
  obtain ⟨es, c, hx, h1, h2⟩ := hx1
  have hw : Wd w0 (.oth (fun p => p = pone r (.map es c)) :: R) w := ⟨he, q, ⟨p1, p2, hx, hs, hd, hp⟩, hi⟩
  exact ⟨es, c, (one_open hw).1, h1, h2, hw⟩
theorem mpp_shut {w : World} {r : Nat} {l : List (Int × Int)} {es : Array MapEntry} {c : Nat} (h1 : Mat es.toList l) (h2 : Births es.toList c) (h : Wd w0 (.oth (fun p => p = pone r (.map es c)) :: R) w) : Wd w0 (mpp r l :: R) w :=
  Ent.wd (ent_imp (X := .oth fun p => p = pone r (.map es c)) (Y := mpp r l) fun _ hp => ⟨es, c, hp, h1, h2⟩) h
/-- A map is made. -/
theorem mkm {t : TypeId} [ht : TMap P t] (hm : addOK md = true) (k : ∀ r, SH (nx md) P n ops Q rest (upd f d (.map (some r))) w0 (mpp r [] :: H)) : SH md P n ops Q (⟨some d, .makeMap t none, ty, pos, aft, none⟩ :: rest) f w0 H :=
  s_add hm fun w hw => wl_val (v := .map (some w.heap.size)) (w' := w.alloc (.map #[] 0)) (by
    intro d pos aft g
    simp [execOp, Instr.makeMap, newObj, Sem.run]) (wl_nil ⟨rfl, Ext.alloc w _, _, k w.heap.size, mpp_shut (by simp [Mat]) ⟨by simp, by simp⟩ (one_new (.map #[] 0) hw)⟩)
/-- What the map has under a key. -/
theorem lkm {t : TypeId} {r : Nat} {l : List (Int × Int)} {j : Int} [ht : TMap P t] (hx : ev n f x = .map (some r)) (hy : ev n f y = .int .i64 j) (hs : Split (vis md H) (mpp r l) R)
    (k : SH (nx md) P n ops Q rest (upd f d (.int .i64 (mget l j))) w0 H) : SH md P n ops Q (⟨some d, .lookup t x y false, ty, pos, aft, none⟩ :: rest) f w0 H := s_val (fun w hw => by
  obtain ⟨kt, et, h1, h2, h3⟩ := ht.und
  obtain ⟨es, c, hb, hM, _, _⟩ := mpp_open (hs.wd hw)
  intro d pos aft g
  unfold mget
  cases hf : mfind l j with
  | none => simp [execOp, Instr.lookup, hx, hy, run_underlying h1, run_getM hb, run_checkM h2, run_findM h2 j (find_none 0 hM hf).1, h3]
  | some u =>
    obtain ⟨e, he, _⟩ := find_some 0 hM hf
    simp [execOp, Instr.lookup, hx, hy, run_underlying h1, run_getM hb, run_checkM h2, run_findM h2 j he]) k
/-- How many keys a map has. -/
theorem lnm {t : TypeId} {r : Nat} {l : List (Int × Int)} [ht : TMap P t] (hx : ev n f x = .map (some r)) (hs : Split (vis md H) (mpp r l) R)
    (k : SH (nx md) P n ops Q rest (upd f d (.int .i64 l.length)) w0 H) : SH md P n ops Q (⟨some d, .call { callee := .builtin .len, args := #[x], argTypes := #[t] }, ty, pos, aft, none⟩ :: rest) f w0 H := s_val (fun w hw => by
  obtain ⟨kt, et, h1, h2, h3⟩ := ht.und
  obtain ⟨es, c, hb, hM, _, _⟩ := mpp_open (hs.wd hw)
  have hl := hM.len
  rw [Array.length_toList] at hl
  intro d pos aft g
  simp [execOp, resolve, invoke, builtin, Builtin.len_, hx, run_underlying h1, run_getM hb, goInt, hl]) k
/-- A key is put. -/
theorem mup {t : TypeId} {r : Nat} {l : List (Int × Int)} {j u : Int} [ht : TMap P t] (hm : addOK md = true) (hx : ev n f x = .map (some r)) (hy : ev n f y = .int .i64 j) (hz : ev n f z = .int .i64 u) (hs : Split H (mpp r l) R)
    (hk : keeps md (mpp r (mput l j u) :: R)) (k : SH (nx md) P n ops Q rest f w0 (mpp r (mput l j u) :: R)) : SH md P n ops Q (⟨none, .mapUpdate t x y z, ty, pos, aft, none⟩ :: rest) f w0 H :=
  s_mut hm fun w hw => by
    obtain ⟨kt, et, h1, h2, h3⟩ := ht.und
    obtain ⟨es, c, hb, hM, hB, hw1⟩ := mpp_open (hs.wd hw)
    cases hf : mfind l j with
    | none =>
      obtain ⟨ha, hp⟩ := find_none 0 hM hf
      refine wl_skip (w' := w.putObj r (.map (es.push ⟨.int .i64 j, .int .i64 u, c⟩) (c + 1))) ?_ (wl_nil ⟨rfl, _, hk, k, mpp_shut ?_ ?_ (one_put _ hw1)⟩)
      · intro d pos aft g
        simp [execOp, Instr.mapUpdate, hx, hy, hz, run_underlying h1, run_getM hb, run_checkM h2, run_findM h2 j ha, run_setM hb]
      · rw [Array.toList_push, hp]; exact mat_snoc hM rfl rfl
      · rw [Array.toList_push]; exact births_push hB rfl
    | some u0 =>
      obtain ⟨e, ha, he, hkey, hval, hmod⟩ := find_some 0 hM hf
      rw [Nat.zero_add] at ha
      have he' : es[midx l j]? = some e := by rw [← Array.getElem?_toList]; exact he
      refine wl_skip (w' := w.putObj r (.map (es.modify (midx l j) fun e => { e with key := .int .i64 j, val := .int .i64 u }) c)) ?_ (wl_nil ⟨rfl, _, hk, k, mpp_shut ?_ ?_ (one_put _ hw1)⟩)
      · intro d pos aft g
        simp [execOp, Instr.mapUpdate, hx, hy, hz, run_underlying h1, run_getM hb, run_checkM h2, run_findM h2 j ha, he', hkey, run_staysM, run_setM hb]
      · rw [Array.toList_modify]; exact hmod u _ rfl rfl
      · rw [Array.toList_modify]; exact births_modify (fun _ => rfl) hB
end
end Go.Fw

/- Layer 36 (party): what the functions compute. Plain Lean. -/
namespace Go.Proofs.YtlfbcoohfnoacaaGreat
open Go.Fw Go.RowKit
/-- An invitation. -/
structure Inv where
  who : Int
  till : Int
  deriving DecidableEq
/-- A party. -/
structure Pty where
  id : Int
  leader : Int
  mem : List Int
  inv : List Inv
  deriving DecidableEq
structure Hal where
  tick : Int
  last : Int
  ps : List Pty
  deriving DecidableEq
def hal0 : Hal := ⟨0, 0, []⟩
def pty0 : Pty := ⟨0, 0, [], []⟩
def isIdB (n : Int) : Bool := decide (1 ≤ n) && decide (n ≤ 65536)
def allM (ps : List Pty) : List Int := ps.flatMap Pty.mem
/-- The players of a list of players, put into a map with the place of their party, plus one. -/
def putM (at' : Int) : List Int → List (Int × Int) → List (Int × Int)
  | [], m => m
  | x :: l, m => putM at' l (mput m x (at' + 1))
/-- What places() makes, from party number at' on. -/
def placesFrom : Nat → List Pty → List (Int × Int) → List (Int × Int)
  | _, [], m => m
  | k, p :: r, m => placesFrom (k + 1) r (putM k p.mem m)
def placesM (ps : List Pty) : List (Int × Int) := placesFrom 0 ps []
/-- The first party of which a player is a member. -/
def findM (who : Int) : List Pty → Option Nat
  | [] => none
  | p :: r => if who ∈ p.mem then some 0 else (findM who r).map (· + 1)
def invB (tick : Int) (all : List Int) : Int → List Inv → Bool
  | _, [] => true
  | w, i :: r => decide (w < i.who) && isIdB i.who && !decide (i.who ∈ all) && decide (tick < i.till) && decide (i.till ≤ tick + 600) && invB tick all i.who r
def ptyB (last top tick : Int) (all : List Int) (p : Pty) : Bool :=
  decide (last < p.id) && decide (p.id ≤ top) && decide (1 ≤ p.mem.length) && decide (p.mem.length + p.inv.length ≤ 5) && decide (p.leader ∈ p.mem) && invB tick all 0 p.inv && p.mem.all isIdB
def risingP (top tick : Int) (all : List Int) : Int → List Pty → Bool
  | _, [] => true
  | last, p :: r => ptyB last top tick all p && risingP top tick all p.id r
def validHal (h : Hal) : Bool :=
  decide (0 ≤ h.tick) && decide (h.tick ≤ 1073741824) && decide (0 ≤ h.last) && decide (h.last ≤ 1048576) && decide (h.ps.length ≤ 32) && risingP h.last h.tick (allM h.ps) 0 h.ps && decide (allM h.ps).Nodup
/-- All parties with the invitations only of which 'is' is false. -/
def uninvM (is : Pty → Inv → Bool) (ps : List Pty) : List Pty := ps.map fun p => { p with inv := p.inv.filter fun i => !is p i }
abbrev ResP := Hal × Int
def advM (h : Hal) (t : Int) : ResP :=
  if validHal h then
    if 0 ≤ t ∧ t ≤ 1073741824 then
      if t < h.tick then (hal0, 360) else (⟨t, h.last, uninvM (fun _ i => decide (i.till ≤ t)) h.ps⟩, 0)
    else (hal0, 2)
  else (hal0, 2)
def createM (h : Hal) (who : Int) : ResP :=
  if validHal h then
    if isIdB who = true then
      if who ∈ allM h.ps then (hal0, 361)
      else if h.ps.length < 32 ∧ h.last < 1048576 then (⟨h.tick, h.last + 1, uninvM (fun _ i => decide (i.who = who)) h.ps ++ [⟨h.last + 1, who, [who], []⟩]⟩, 0)
      else (hal0, 4)
    else (hal0, 2)
  else (hal0, 2)
/-- What a leader does: the place of the party, or the error. -/
def leadM (h : Hal) (by' : Int) (f : Nat → ResP) : ResP :=
  if validHal h then
    match findM by' h.ps with
    | none => (hal0, 6)
    | some k => if (h.ps.getD k pty0).leader = by' then f k else (hal0, 362)
  else (hal0, 2)
def insI (x : Inv) : List Inv → List Inv
  | [] => [x]
  | i :: r => if x.who ≤ i.who then x :: i :: r else i :: insI x r
def invitedM (h : Hal) (by' who : Int) : ResP :=
  leadM h by' fun k =>
    if isIdB who = true then
      if who ∈ allM h.ps then (hal0, 361)
      else if who ∈ (h.ps.getD k pty0).inv.map Inv.who then (hal0, 363)
      else if (h.ps.getD k pty0).mem.length + (h.ps.getD k pty0).inv.length < 5 then
        (⟨h.tick, h.last, h.ps.set k { h.ps.getD k pty0 with inv := insI ⟨who, h.tick + 600⟩ (h.ps.getD k pty0).inv }⟩, 0)
      else (hal0, 4)
    else (hal0, 2)
/-- The first party with this ID to which the player is invited. -/
def askedM (who id : Int) : List Pty → Option Nat
  | [] => none
  | p :: r => if p.id = id ∧ who ∈ p.inv.map Inv.who then some 0 else (askedM who id r).map (· + 1)
def answerM (h : Hal) (who id : Int) (yes : Bool) : ResP :=
  if validHal h then
    match askedM who id h.ps with
    | none => (hal0, 6)
    | some k =>
      let ps := uninvM (fun p i => decide (i.who = who) && (yes || decide (p.id = id))) h.ps
      (⟨h.tick, h.last, if yes then ps.set k { ps.getD k pty0 with mem := (ps.getD k pty0).mem ++ [who] } else ps⟩, 0)
  else (hal0, 2)
/-- A party without a member; none: it is empty then. -/
def leftM (who : Int) (p : Pty) : Option Pty :=
  match p.mem.filter fun n => !decide (n = who) with
  | [] => none
  | x :: r => some { p with mem := x :: r, leader := if p.leader = who then x else p.leader }
def leaveAt (h : Hal) (k : Nat) (who : Int) : Hal :=
  match leftM who (h.ps.getD k pty0) with
  | none => ⟨h.tick, h.last, h.ps.eraseIdx k⟩
  | some p => ⟨h.tick, h.last, h.ps.set k p⟩
def leaveM (h : Hal) (who : Int) : ResP :=
  if validHal h then
    match findM who h.ps with
    | none => (hal0, 6)
    | some k => (leaveAt h k who, 0)
  else (hal0, 2)
def kickM (h : Hal) (by' who : Int) : ResP :=
  leadM h by' fun k => if findM who h.ps = some k then (if who = by' then (hal0, 2) else (leaveAt h k who, 0)) else (hal0, 6)
def promoteM (h : Hal) (by' who : Int) : ResP :=
  leadM h by' fun k => if findM who h.ps = some k then (⟨h.tick, h.last, h.ps.set k { h.ps.getD k pty0 with leader := who }⟩, 0) else (hal0, 6)
def disbandM (h : Hal) (by' : Int) : ResP := leadM h by' fun k => (⟨h.tick, h.last, h.ps.eraseIdx k⟩, 0)
def ofM (h : Hal) (who : Int) : Option Pty := if validHal h then (findM who h.ps).map fun k => h.ps.getD k pty0 else none
def idxP (id : Int) : List Pty → Option Nat
  | [] => none
  | p :: r => if p.id = id then some 0 else (idxP id r).map (· + 1)
def sharesM (amount : Int) (n : Nat) : List Int := (List.range n).map fun (i : Nat) => amount / (n : Int) + (if (i : Int) < amount % (n : Int) then 1 else 0)
def shareM (h : Hal) (id amount : Int) : List Int × Int :=
  if validHal h then
    match idxP id h.ps with
    | none => ([], 6)
    | some k => if 0 ≤ amount ∧ amount ≤ 1099511627776 then (sharesM amount (h.ps.getD k pty0).mem.length, 0) else ([], 2)
  else ([], 2)
/-! The map of the places. -/
theorem putM_find (a : Int) (l : List Int) : ∀ (m : List (Int × Int)) (who : Int), mfind (putM a l m) who = if who ∈ l then some (a + 1) else mfind m who := by
  induction l with
  | nil => intro m who; simp [putM]
  | cons x l ih =>
    intro m who
    simp only [putM]
    rw [ih, mfind_put]
    by_cases h : who ∈ l
    · rw [if_pos h, if_pos (List.mem_cons_of_mem _ h)]
    · rw [if_neg h]
      by_cases hx : x = who
      · rw [if_pos hx, if_pos (by rw [hx]; exact List.mem_cons_self)]
      · rw [if_neg hx, if_neg (fun hm => (List.mem_cons.mp hm).elim (fun e => hx e.symm) h)]
theorem mfind_keys (l : List (Int × Int)) (k : Int) : (mfind l k).isSome = decide (k ∈ l.map (·.1)) := by
  induction l with
  | nil => simp [mfind]
  | cons x l ih =>
    simp only [mfind]
    by_cases h : x.1 = k
    · rw [if_pos h]; simp [h]
    · rw [if_neg h, ih]
      have h' : ¬ k = x.1 := fun e => h e.symm
      simp [h']
/-- How long the map is: it is as long as the list only if no player comes twice. -/
theorem putM_len (a : Int) (l : List Int) : ∀ (m : List (Int × Int)), (putM a l m).length ≤ m.length + l.length ∧ ((putM a l m).length = m.length + l.length ↔ l.Nodup ∧ ∀ x ∈ l, x ∉ m.map (·.1)) := by
  induction l with
  | nil => intro m; simp [putM]
  | cons x l ih =>
    intro m
    simp only [putM]
    obtain ⟨h1, h2⟩ := ih (mput m x (a + 1))
    have hk := mput_keys m x (a + 1)
    by_cases hx : x ∈ m.map (·.1)
    · rw [if_pos hx] at hk
      have hl := congrArg List.length hk
      simp only [List.length_map] at hl
      refine ⟨by rw [List.length_cons]; omega, ⟨fun e => ?_, fun e => absurd hx (e.2 x List.mem_cons_self)⟩⟩
      rw [List.length_cons] at e; omega
    · rw [if_neg hx] at hk
      have hl := congrArg List.length hk
      simp only [List.length_map, List.length_append, List.length_singleton] at hl
      refine ⟨by rw [List.length_cons]; omega, ?_⟩
      rw [List.length_cons, show m.length + (l.length + 1) = (mput m x (a + 1)).length + l.length by omega, h2, hk, List.nodup_cons]
      constructor
      · rintro ⟨hn, hd⟩
        refine ⟨⟨fun hm => hd x hm (List.mem_append_right _ List.mem_cons_self), hn⟩, fun y hy => ?_⟩
        rcases List.mem_cons.mp hy with rfl | hy
        · exact hx
        · exact fun hm => hd y hy (List.mem_append_left _ hm)
      · rintro ⟨⟨hxl, hn⟩, hd⟩
        refine ⟨hn, fun y hy hm => ?_⟩
        rcases List.mem_append.mp hm with hm | hm
        · exact hd y (List.mem_cons_of_mem _ hy) hm
        · rw [List.mem_singleton.mp hm] at hy; exact hxl hy
end Go.Proofs.YtlfbcoohfnoacaaGreat

/- Layer 36 (party): the map of the places. Plain Lean. -/
namespace Go.Proofs.YtlfbcoohfnoacaaGreat
open Go.Fw Go.RowKit
theorem allM_cons (p : Pty) (r : List Pty) : allM (p :: r) = p.mem ++ allM r := rfl
theorem putM_keys (a : Int) (l : List Int) : ∀ (m : List (Int × Int)) (x : Int), x ∈ (putM a l m).map (·.1) ↔ x ∈ l ∨ x ∈ m.map (·.1) := by
  intro m x
  have h1 := mfind_keys (putM a l m) x
  have h2 := mfind_keys m x
  rw [putM_find] at h1
  by_cases hx : x ∈ l
  · rw [if_pos hx] at h1
    have : x ∈ (putM a l m).map (·.1) := by simpa using h1.symm
    exact ⟨fun _ => Or.inl hx, fun _ => this⟩
  · rw [if_neg hx, h2] at h1
    have : (x ∈ m.map (·.1)) ↔ x ∈ (putM a l m).map (·.1) := by simpa using h1
    rw [← this]
    exact ⟨Or.inr, fun h => h.resolve_left hx⟩
theorem placesFrom_has (ps : List Pty) : ∀ (k : Nat) (m : List (Int × Int)) (who : Int), (mfind (placesFrom k ps m) who).isSome = (decide (who ∈ allM ps) || (mfind m who).isSome) := by
  induction ps with
  | nil => intro k m who; simp [placesFrom, allM]
  | cons p r ih =>
    intro k m who
    simp only [placesFrom]
    rw [ih, putM_find, allM_cons]
    by_cases h : who ∈ p.mem
    · rw [if_pos h]; simp [h]
    · rw [if_neg h]; simp [h]
theorem placesFrom_pos (ps : List Pty) : ∀ (k : Nat) (m : List (Int × Int)) (who : Int), (∀ v, mfind m who = some v → 0 < v) → ∀ v, mfind (placesFrom k ps m) who = some v → 0 < v := by
  induction ps with
  | nil => intro k m who h; exact h
  | cons p r ih =>
    intro k m who h
    refine ih (k + 1) _ who (fun v hv => ?_)
    rw [putM_find] at hv
    split at hv
    · cases hv; omega
    · exact h v hv
/-- A player has a place if it is a member of a party. -/
theorem places_pos (ps : List Pty) (who : Int) : decide (0 < mget (placesM ps) who) = decide (who ∈ allM ps) := by
  have h1 := placesFrom_has ps 0 [] who
  have h2 := placesFrom_pos ps 0 [] who (by simp [mfind])
  unfold mget placesM
  cases h : mfind (placesFrom 0 ps []) who with
  | none => rw [h] at h1; simp [mfind] at h1; simp [h1]
  | some v => rw [h] at h1; simp [mfind] at h1; have := h2 v h; simp [h1, this]
theorem placesFrom_len (ps : List Pty) : ∀ (k : Nat) (m : List (Int × Int)), (placesFrom k ps m).length ≤ m.length + (allM ps).length ∧ ((placesFrom k ps m).length = m.length + (allM ps).length ↔ (allM ps).Nodup ∧ ∀ x ∈ allM ps, x ∉ m.map (·.1)) := by
  induction ps with
  | nil => intro k m; simp [placesFrom, allM]
  | cons p r ih =>
    intro k m
    simp only [placesFrom]
    obtain ⟨h1, h2⟩ := ih (k + 1) (putM k p.mem m)
    obtain ⟨h3, h4⟩ := putM_len k p.mem m
    rw [allM_cons, List.length_append]
    refine ⟨by omega, ?_⟩
    rw [List.nodup_append]
    constructor
    · intro e
      have e1 : (putM k p.mem m).length = m.length + p.mem.length := by omega
      obtain ⟨n1, d1⟩ := h4.1 e1
      obtain ⟨n2, d2⟩ := h2.1 (by omega)
      refine ⟨⟨n1, n2, fun a ha b hb he => d2 b hb ((putM_keys ..).2 (Or.inl (he ▸ ha)))⟩, fun x hx => ?_⟩
      rcases List.mem_append.mp hx with hx | hx
      · exact d1 x hx
      · exact fun hm => d2 x hx ((putM_keys ..).2 (Or.inr hm))
    · rintro ⟨⟨n1, n2, n3⟩, d⟩
      have e1 := h4.2 ⟨n1, fun x hx => d x (List.mem_append_left _ hx)⟩
      have e2 := h2.2 ⟨n2, fun x hx hm => ?_⟩
      · omega
      · rcases (putM_keys ..).1 hm with h | h
        · exact n3 x h x hx rfl
        · exact d x (List.mem_append_right _ hx) h
/-- The map is as long as the lists only if no player comes twice. -/
theorem places_len (ps : List Pty) : decide ((allM ps).length = (placesM ps).length) = decide (allM ps).Nodup := by
  have h := (placesFrom_len ps 0 []).2
  simp only [List.length_nil, Nat.zero_add, List.map_nil] at h
  unfold placesM
  by_cases hn : (allM ps).Nodup
  · simp [hn, h.2 ⟨hn, fun x _ => List.not_mem_nil⟩]
  · have : ¬ (allM ps).length = (placesFrom 0 ps []).length := fun e => hn (h.1 e.symm).1
    simp [hn, this]
theorem findM_none {who : Int} (ps : List Pty) : findM who ps = none ↔ who ∉ allM ps := by
  induction ps with
  | nil => simp [findM, allM]
  | cons p r ih =>
    simp only [findM]
    rw [allM_cons]
    by_cases h : who ∈ p.mem
    · rw [if_pos h]; simp [h]
    · rw [if_neg h]; simp [h, ih]
theorem findM_some {who : Int} (ps : List Pty) : ∀ {k : Nat}, findM who ps = some k → k < ps.length ∧ who ∈ (ps.getD k pty0).mem := by
  induction ps with
  | nil => intro k h; cases h
  | cons p r ih =>
    intro k h
    simp only [findM] at h
    split at h
    · rename_i hp; cases h; exact ⟨by simp, hp⟩
    · cases hf : findM who r with
      | none => rw [hf] at h; cases h
      | some j =>
        rw [hf] at h; cases h
        obtain ⟨h1, h2⟩ := ih hf
        exact ⟨by simp only [List.length_cons]; omega, by simpa using h2⟩
theorem placesFrom_find (ps : List Pty) : ∀ (k : Nat) (m : List (Int × Int)) (who : Int), (allM ps).Nodup → mfind (placesFrom k ps m) who = match findM who ps with | some j => some ((k : Int) + j + 1) | none => mfind m who := by
  induction ps with
  | nil => intro k m who _; rfl
  | cons p r ih =>
    intro k m who hn
    rw [allM_cons, List.nodup_append] at hn
    simp only [placesFrom, findM]
    rw [ih _ _ _ hn.2.1, putM_find]
    by_cases h : who ∈ p.mem
    · rw [if_pos h, if_pos h]
      rw [(findM_none r).2 (fun hm => hn.2.2 who h who hm rfl)]
      simp
    · rw [if_neg h, if_neg h]
      cases hf : findM who r with
      | none => rfl
      | some j => simp only [Option.map_some]; congr 1; push_cast; omega
/-- The place of a player, plus one; 0: it is in no party. -/
theorem places_find (ps : List Pty) (who : Int) (hn : (allM ps).Nodup) : mget (placesM ps) who = match findM who ps with | some j => (j : Int) + 1 | none => 0 := by
  unfold mget placesM
  rw [placesFrom_find ps 0 [] who hn]
  cases findM who ps with
  | none => rfl
  | some j => simp
end Go.Proofs.YtlfbcoohfnoacaaGreat

/- Layer 36 (party): what is done in a valid hall gives a valid hall. Plain Lean. -/
namespace Go.Proofs.YtlfbcoohfnoacaaGreat
open Go.Fw Go.RowKit
theorem isIdB_iff {n : Int} : isIdB n = true ↔ 1 ≤ n ∧ n ≤ 65536 := by unfold isIdB; simp
/-- What is right about an invitation. -/
def okI (tick : Int) (all : List Int) (i : Inv) : Prop := 1 ≤ i.who ∧ i.who ≤ 65536 ∧ i.who ∉ all ∧ tick < i.till ∧ i.till ≤ tick + 600
theorem invB_iff {tick : Int} {all : List Int} (l : List Inv) : ∀ {w : Int}, invB tick all w l = true ↔ l.Pairwise (fun a b => a.who < b.who) ∧ ∀ i ∈ l, w < i.who ∧ okI tick all i := by
  induction l with
  | nil => intro w; simp [invB]
  | cons i r ih =>
    intro w
    simp only [invB, Bool.and_eq_true, decide_eq_true_eq, isIdB_iff, Bool.not_eq_true', decide_eq_false_iff_not, ih, List.pairwise_cons, List.mem_cons]
    unfold okI
    constructor
    · rintro ⟨⟨⟨⟨⟨h1, h2⟩, h3⟩, h4⟩, h5⟩, h6, h7⟩
      refine ⟨⟨fun j hj => (h7 j hj).1, h6⟩, ?_⟩
      rintro j (rfl | hj)
      · exact ⟨h1, h2.1, h2.2, h3, h4, h5⟩
      · exact ⟨by have := (h7 j hj).1; omega, (h7 j hj).2⟩
    · rintro ⟨⟨h6, h7⟩, h8⟩
      obtain ⟨h1, h2, h2', h3, h4, h5⟩ := h8 i (Or.inl rfl)
      exact ⟨⟨⟨⟨⟨h1, h2, h2'⟩, h3⟩, h4⟩, h5⟩, h7, fun j hj => ⟨h6 j hj, (h8 j (Or.inr hj)).2⟩⟩
/-- What is right about a party. -/
def okP (top tick : Int) (all : List Int) (p : Pty) : Prop :=
  p.id ≤ top ∧ 1 ≤ p.mem.length ∧ p.mem.length + p.inv.length ≤ 5 ∧ p.leader ∈ p.mem ∧ p.inv.Pairwise (fun a b => a.who < b.who) ∧ (∀ i ∈ p.inv, okI tick all i) ∧ ∀ n ∈ p.mem, 1 ≤ n ∧ n ≤ 65536
theorem ptyB_iff {last top tick : Int} {all : List Int} {p : Pty} : ptyB last top tick all p = true ↔ last < p.id ∧ okP top tick all p := by
  unfold ptyB okP
  simp only [Bool.and_eq_true, decide_eq_true_eq, List.all_eq_true, isIdB_iff, invB_iff]
  constructor
  · rintro ⟨⟨⟨⟨⟨⟨h1, h2⟩, h3⟩, h4⟩, h5⟩, h6, h7⟩, h8⟩
    exact ⟨h1, h2, h3, h4, h5, h6, fun i hi => (h7 i hi).2, h8⟩
  · rintro ⟨h1, h2, h3, h4, h5, h6, h7, h8⟩
    exact ⟨⟨⟨⟨⟨⟨h1, h2⟩, h3⟩, h4⟩, h5⟩, h6, fun i hi => ⟨by have := (h7 i hi).1; omega, h7 i hi⟩⟩, h8⟩
theorem risingP_iff {top tick : Int} {all : List Int} (ps : List Pty) : ∀ {last : Int}, risingP top tick all last ps = true ↔ ps.Pairwise (fun a b => a.id < b.id) ∧ ∀ p ∈ ps, last < p.id ∧ okP top tick all p := by
  induction ps with
  | nil => intro last; simp [risingP]
  | cons p r ih =>
    intro last
    simp only [risingP, Bool.and_eq_true, ptyB_iff, ih, List.pairwise_cons, List.mem_cons]
    constructor
    · rintro ⟨⟨h1, h2⟩, h3, h4⟩
      refine ⟨⟨fun q hq => (h4 q hq).1, h3⟩, ?_⟩
      rintro q (rfl | hq)
      · exact ⟨h1, h2⟩
      · exact ⟨by have := (h4 q hq).1; omega, (h4 q hq).2⟩
    · rintro ⟨⟨h1, h2⟩, h3⟩
      exact ⟨h3 p (Or.inl rfl), h2, fun q hq => ⟨h1 q hq, (h3 q (Or.inr hq)).2⟩⟩
/-- A valid hall. -/
structure VHal (h : Hal) : Prop where
  t0 : 0 ≤ h.tick
  t1 : h.tick ≤ 1073741824
  l0 : 0 ≤ h.last
  l1 : h.last ≤ 1048576
  len : h.ps.length ≤ 32
  ids : h.ps.Pairwise fun a b => a.id < b.id
  pos : ∀ p ∈ h.ps, 0 < p.id
  ok : ∀ p ∈ h.ps, okP h.last h.tick (allM h.ps) p
  nd : (allM h.ps).Nodup
theorem valid_iff {h : Hal} : validHal h = true ↔ VHal h := by
  unfold validHal
  simp only [Bool.and_eq_true, decide_eq_true_eq, risingP_iff]
  constructor
  · rintro ⟨⟨⟨⟨⟨⟨h1, h2⟩, h3⟩, h4⟩, h5⟩, h6, h7⟩, h8⟩
    exact ⟨h1, h2, h3, h4, h5, h6, fun p hp => (h7 p hp).1, fun p hp => (h7 p hp).2, h8⟩
  · rintro ⟨h1, h2, h3, h4, h5, h6, h7, h8, h9⟩
    exact ⟨⟨⟨⟨⟨⟨h1, h2⟩, h3⟩, h4⟩, h5⟩, h6, fun p hp => ⟨h7 p hp, h8 p hp⟩⟩, h9⟩
theorem mem_allM {ps : List Pty} {x : Int} : x ∈ allM ps ↔ ∃ p ∈ ps, x ∈ p.mem := List.mem_flatMap
theorem allM_append (a b : List Pty) : allM (a ++ b) = allM a ++ allM b := List.flatMap_append
theorem ps_split {ps : List Pty} {k : Nat} (hk : k < ps.length) : ps = ps.take k ++ ps.getD k pty0 :: ps.drop (k + 1) := by
  have h1 := List.take_append_drop k ps
  rw [List.drop_eq_getElem_cons hk] at h1
  rw [List.getD_eq_getElem?_getD, List.getElem?_eq_getElem hk]
  exact h1.symm
theorem ps_set {ps : List Pty} {k : Nat} (hk : k < ps.length) (p : Pty) : ps.set k p = ps.take k ++ p :: ps.drop (k + 1) := by
  rw [List.set_eq_take_append_cons_drop, if_pos hk]
theorem allM_uninv (is : Pty → Inv → Bool) (ps : List Pty) : allM (uninvM is ps) = allM ps := by
  induction ps with
  | nil => rfl
  | cons p r ih => exact congrArg (p.mem ++ ·) ih
theorem uninv_len (is : Pty → Inv → Bool) (ps : List Pty) : (uninvM is ps).length = ps.length := List.length_map ..
theorem mem_uninv {is : Pty → Inv → Bool} {ps : List Pty} {p : Pty} : p ∈ uninvM is ps ↔ ∃ q ∈ ps, p = { q with inv := q.inv.filter fun i => !is q i } := by
  unfold uninvM
  rw [List.mem_map]
  exact ⟨fun ⟨q, h1, h2⟩ => ⟨q, h1, h2.symm⟩, fun ⟨q, h1, h2⟩ => ⟨q, h1, h2.symm⟩⟩
/-- Fewer invitations, a later tick, more members that are invited nowhere: a party stays right. -/
theorem okP_filter {top top' tick tick' : Int} {all all' : List Int} {p : Pty} (f : Inv → Bool) (h : okP top tick all p) (ht : top ≤ top') (hf : ∀ i ∈ p.inv, f i = true → okI tick all i → okI tick' all' i) :
    okP top' tick' all' { p with inv := p.inv.filter f } := by
  obtain ⟨h1, h2, h3, h4, h5, h6, h7⟩ := h
  have hl := List.length_filter_le f p.inv
  exact ⟨by show p.id ≤ top'; omega, h2, by show p.mem.length + (p.inv.filter f).length ≤ 5; omega, h4, h5.filter _, fun i hi => hf i (List.mem_filter.mp hi).1 (List.mem_filter.mp hi).2 (h6 i (List.mem_filter.mp hi).1), h7⟩
theorem uninv_ids {is : Pty → Inv → Bool} {ps : List Pty} (h : ps.Pairwise fun a b => a.id < b.id) : (uninvM is ps).Pairwise fun a b => a.id < b.id := by
  unfold uninvM
  rw [List.pairwise_map]
  exact h
theorem uninv_valid {h : Hal} (hv : VHal h) {is : Pty → Inv → Bool} {tick last : Int} (t0 : 0 ≤ tick) (t1 : tick ≤ 1073741824) (l0 : h.last ≤ last) (l1 : last ≤ 1048576)
    (hf : ∀ p ∈ h.ps, ∀ i ∈ p.inv, is p i = false → okI h.tick (allM h.ps) i → okI tick (allM h.ps) i) : VHal ⟨tick, last, uninvM is h.ps⟩ := by
  refine ⟨t0, t1, by show 0 ≤ last; have := hv.l0; omega, l1, by show (uninvM is h.ps).length ≤ 32; rw [uninv_len]; exact hv.len, uninv_ids hv.ids, fun p hp => ?_, fun p hp => ?_, by show (allM (uninvM is h.ps)).Nodup; rw [allM_uninv]; exact hv.nd⟩
  · obtain ⟨q, hq, rfl⟩ := mem_uninv.mp hp
    exact hv.pos q hq
  · obtain ⟨q, hq, rfl⟩ := mem_uninv.mp hp
    show okP last tick (allM (uninvM is h.ps)) _
    rw [allM_uninv]
    exact okP_filter _ (hv.ok q hq) l0 (fun i hi hfi ho => hf q hq i hi (by simpa using hfi) ho)
theorem adv_valid {h : Hal} {t : Int} (he : (advM h t).2 = 0) : VHal (advM h t).1 ∧ h.tick ≤ t ∧ advM h t = (⟨t, h.last, uninvM (fun _ i => decide (i.till ≤ t)) h.ps⟩, 0) := by
  unfold advM at he ⊢
  split at he
  · rename_i hv
    rw [if_pos hv]
    split at he
    · rename_i ht
      rw [if_pos ht]
      split at he
      · cases he
      · rename_i hlt
        rw [if_neg hlt]
        have hV := valid_iff.mp hv
        refine ⟨uninv_valid hV ht.1 ht.2 (Int.le_refl _) hV.l1 (fun p hp i hi hfi ho => ?_), by omega, rfl⟩
        obtain ⟨a, b, c, d, e⟩ := ho
        have : ¬ i.till ≤ t := by simpa using hfi
        exact ⟨a, b, c, by omega, by omega⟩
    · cases he
  · cases he
/-- A further party at the end. -/
theorem snoc_valid {h : Hal} (hv : VHal h) {p : Pty} (hlen : h.ps.length < 32) (hl : h.last < 1048576) (hid : p.id = h.last + 1) (hi : p.inv = []) (hm : 1 ≤ p.mem.length ∧ p.mem.length ≤ 5) (hld : p.leader ∈ p.mem) (hM : ∀ n ∈ p.mem, 1 ≤ n ∧ n ≤ 65536) (hnd : p.mem.Nodup)
    (hd : ∀ x ∈ p.mem, x ∉ allM h.ps) (hq : ∀ q ∈ h.ps, ∀ i ∈ q.inv, i.who ∉ p.mem) : VHal ⟨h.tick, h.last + 1, h.ps ++ [p]⟩ := by
  have hall : allM (h.ps ++ [p]) = allM h.ps ++ p.mem := by rw [allM_append]; simp [allM]
  refine ⟨hv.t0, hv.t1, by show 0 ≤ h.last + 1; have := hv.l0; omega, by show h.last + 1 ≤ _; omega, by show (h.ps ++ [p]).length ≤ 32; rw [List.length_append, List.length_singleton]; omega, ?_, fun q hq' => ?_, fun q hq' => ?_, ?_⟩
  · show (h.ps ++ [p]).Pairwise _
    rw [List.pairwise_append]
    exact ⟨hv.ids, List.pairwise_singleton _ _, fun a ha b hb => by rw [List.mem_singleton.mp hb, hid]; have := (hv.ok a ha).1; omega⟩
  · rcases List.mem_append.mp hq' with h1 | h1
    · exact hv.pos q h1
    · rw [List.mem_singleton.mp h1, hid]; have := hv.l0; omega
  · show okP (h.last + 1) h.tick (allM (h.ps ++ [p])) q
    rw [hall]
    rcases List.mem_append.mp hq' with h1 | h1
    · obtain ⟨a1, a2, a3, a4, a5, a6, a7⟩ := hv.ok q h1
      refine ⟨by omega, a2, a3, a4, a5, fun i hi' => ?_, a7⟩
      obtain ⟨b1, b2, b3, b4, b5⟩ := a6 i hi'
      exact ⟨b1, b2, fun hc => (List.mem_append.mp hc).elim b3 (hq q h1 i hi'), b4, b5⟩
    · rw [List.mem_singleton.mp h1]
      exact ⟨by omega, hm.1, by rw [hi]; exact hm.2, hld, by rw [hi]; exact List.Pairwise.nil, by rw [hi]; exact fun i hi' => absurd hi' List.not_mem_nil, hM⟩
  · show (allM (h.ps ++ [p])).Nodup
    rw [hall, List.nodup_append]
    exact ⟨hv.nd, hnd, fun a ha b hb e => hd b hb (e ▸ ha)⟩
theorem create_valid {h : Hal} {who : Int} (he : (createM h who).2 = 0) : VHal (createM h who).1 ∧ who ∉ allM h.ps ∧ createM h who = (⟨h.tick, h.last + 1, uninvM (fun _ i => decide (i.who = who)) h.ps ++ [⟨h.last + 1, who, [who], []⟩]⟩, 0) := by
  unfold createM at he ⊢
  split at he
  · rename_i hv
    rw [if_pos hv]
    split at he
    · rename_i hw
      rw [if_pos hw]
      split at he
      · cases he
      · rename_i hn
        rw [if_neg hn]
        split at he
        · rename_i hr
          rw [if_pos hr]
          have hV := valid_iff.mp hv
          have hU : VHal ⟨h.tick, h.last, uninvM (fun _ i => decide (i.who = who)) h.ps⟩ := uninv_valid hV hV.t0 hV.t1 (Int.le_refl _) hV.l1 (fun p hp i hi hfi ho => ho)
          refine ⟨snoc_valid hU (by show (uninvM _ h.ps).length < 32; rw [uninv_len]; exact hr.1) hr.2 rfl rfl ⟨by simp, by simp⟩ (by simp) (fun n hn' => by rw [List.mem_singleton.mp hn']; exact isIdB_iff.mp hw) (by simp) (fun x hx => by show x ∉ allM (uninvM _ h.ps); rw [allM_uninv, List.mem_singleton.mp hx]; exact hn) (fun q hq i hi hc => ?_), hn, rfl⟩
          obtain ⟨q', hq', rfl⟩ := mem_uninv.mp hq
          have := (List.mem_filter.mp hi).2
          simp at this
          exact this (List.mem_singleton.mp hc)
        · cases he
    · cases he
  · cases he
end Go.Proofs.YtlfbcoohfnoacaaGreat

/- Layer 36 (party): one party of a valid hall is changed, or goes. Plain Lean. -/
namespace Go.Proofs.YtlfbcoohfnoacaaGreat
open Go.Fw Go.RowKit
theorem getD_mem36 {ps : List Pty} {k : Nat} (hk : k < ps.length) : ps.getD k pty0 ∈ ps := by
  rw [List.getD_eq_getElem?_getD, List.getElem?_eq_getElem hk]
  exact List.getElem_mem hk
/-- One party in place of another with its ID. -/
theorem set_valid {h : Hal} (hv : VHal h) {k : Nat} (hk : k < h.ps.length) {p : Pty} (hid : p.id = (h.ps.getD k pty0).id) (hok : okP h.last h.tick (allM (h.ps.set k p)) p) (hnd : (allM (h.ps.set k p)).Nodup)
    (hq : ∀ q ∈ h.ps, ∀ i ∈ q.inv, i.who ∉ allM h.ps → i.who ∉ allM (h.ps.set k p)) : VHal ⟨h.tick, h.last, h.ps.set k p⟩ := by
  refine ⟨hv.t0, hv.t1, hv.l0, hv.l1, by show (h.ps.set k p).length ≤ 32; rw [List.length_set]; exact hv.len, ?_, fun q hqm => ?_, fun q hqm => ?_, hnd⟩
  · show (h.ps.set k p).Pairwise _
    have h1 := hv.ids
    rw [ps_split hk] at h1
    rw [ps_set hk]
    rw [List.pairwise_append, List.pairwise_cons] at h1 ⊢
    obtain ⟨a, ⟨b, c⟩, d⟩ := h1
    refine ⟨a, ⟨fun x hx => by rw [hid]; exact b x hx, c⟩, fun x hx y hy => ?_⟩
    rcases List.mem_cons.mp hy with rfl | hy
    · rw [hid]; exact d x hx _ List.mem_cons_self
    · exact d x hx y (List.mem_cons_of_mem _ hy)
  · rcases List.mem_or_eq_of_mem_set hqm with h1 | rfl
    · exact hv.pos q h1
    · rw [hid]; exact hv.pos _ (getD_mem36 hk)
  · rcases List.mem_or_eq_of_mem_set hqm with h1 | rfl
    · obtain ⟨a1, a2, a3, a4, a5, a6, a7⟩ := hv.ok q h1
      exact ⟨a1, a2, a3, a4, a5, fun i hi => by obtain ⟨b1, b2, b3, b4, b5⟩ := a6 i hi; exact ⟨b1, b2, hq q h1 i hi b3, b4, b5⟩, a7⟩
    · exact hok
theorem allM_sublist {a b : List Pty} (h : a.Sublist b) : (allM a).Sublist (allM b) := by
  induction h with
  | slnil => exact List.Sublist.refl _
  | cons x _ ih => rw [allM_cons]; exact ih.trans (List.sublist_append_right _ _)
  | cons_cons x _ ih => rw [allM_cons, allM_cons]; exact List.Sublist.append (List.Sublist.refl _) ih
/-- A party goes. -/
theorem erase_valid {h : Hal} (hv : VHal h) (k : Nat) : VHal ⟨h.tick, h.last, h.ps.eraseIdx k⟩ := by
  have hsub : (h.ps.eraseIdx k).Sublist h.ps := List.eraseIdx_sublist h.ps k
  have hall : (allM (h.ps.eraseIdx k)).Sublist (allM h.ps) := allM_sublist hsub
  refine ⟨hv.t0, hv.t1, hv.l0, hv.l1, Nat.le_trans hsub.length_le hv.len, hv.ids.sublist hsub, fun q hq => hv.pos q (hsub.subset hq), fun q hq => ?_, hv.nd.sublist hall⟩
  obtain ⟨a1, a2, a3, a4, a5, a6, a7⟩ := hv.ok q (hsub.subset hq)
  exact ⟨a1, a2, a3, a4, a5, fun i hi => by obtain ⟨b1, b2, b3, b4, b5⟩ := a6 i hi; exact ⟨b1, b2, fun hc => b3 (hall.subset hc), b4, b5⟩, a7⟩
theorem allM_set {ps : List Pty} {k : Nat} (hk : k < ps.length) (p : Pty) : allM (ps.set k p) = allM (ps.take k) ++ (p.mem ++ allM (ps.drop (k + 1))) := by
  rw [ps_set hk, allM_append, allM_cons]
theorem allM_split {ps : List Pty} {k : Nat} (hk : k < ps.length) : allM ps = allM (ps.take k) ++ ((ps.getD k pty0).mem ++ allM (ps.drop (k + 1))) := by
  have := congrArg allM (ps_split hk)
  rw [allM_append, allM_cons] at this
  exact this
/-- The same members: the same players. -/
theorem allM_same {ps : List Pty} {k : Nat} (hk : k < ps.length) {p : Pty} (hm : p.mem = (ps.getD k pty0).mem) : allM (ps.set k p) = allM ps := by
  rw [allM_set hk, hm, ← allM_split hk]
theorem allM_sub {ps : List Pty} {k : Nat} (hk : k < ps.length) {p : Pty} (hm : p.mem.Sublist (ps.getD k pty0).mem) : (allM (ps.set k p)).Sublist (allM ps) := by
  rw [allM_set hk, allM_split hk]
  exact List.Sublist.append (List.Sublist.refl _) (List.Sublist.append hm (List.Sublist.refl _))
/-- Another leader among the members. -/
theorem leader_valid {h : Hal} (hv : VHal h) {k : Nat} (hk : k < h.ps.length) {who : Int} (hw : who ∈ (h.ps.getD k pty0).mem) : VHal ⟨h.tick, h.last, h.ps.set k { h.ps.getD k pty0 with leader := who }⟩ := by
  have hs : allM (h.ps.set k { h.ps.getD k pty0 with leader := who }) = allM h.ps := allM_same hk rfl
  refine set_valid hv hk rfl ?_ (by rw [hs]; exact hv.nd) (fun q hq i hi hn => by rw [hs]; exact hn)
  rw [hs]
  obtain ⟨a1, a2, a3, a4, a5, a6, a7⟩ := hv.ok _ (getD_mem36 hk)
  exact ⟨a1, a2, a3, hw, a5, a6, a7⟩
/-- A member leaves. -/
theorem leave_valid {h : Hal} (hv : VHal h) {k : Nat} (hk : k < h.ps.length) (who : Int) : VHal (leaveAt h k who) := by
  unfold leaveAt
  cases hl : leftM who (h.ps.getD k pty0) with
  | none => exact erase_valid hv k
  | some p =>
    unfold leftM at hl
    split at hl
    · cases hl
    · rename_i x r hf
      cases hl
      have hsub : (x :: r).Sublist (h.ps.getD k pty0).mem := hf ▸ List.filter_sublist
      have hs := allM_sub (ps := h.ps) (k := k) (p := { h.ps.getD k pty0 with mem := x :: r, leader := if (h.ps.getD k pty0).leader = who then x else (h.ps.getD k pty0).leader }) hk hsub
      refine set_valid hv hk rfl ?_ (hv.nd.sublist hs) (fun q hq i hi hn hc => hn (hs.subset hc))
      obtain ⟨a1, a2, a3, a4, a5, a6, a7⟩ := hv.ok _ (getD_mem36 hk)
      refine ⟨a1, by simp, ?_, ?_, a5, fun i hi => ?_, fun n hn => a7 n (hsub.subset hn)⟩
      · have := hsub.length_le
        show (x :: r).length + _ ≤ 5
        exact Nat.le_trans (Nat.add_le_add_right this _) a3
      · show (if (h.ps.getD k pty0).leader = who then x else (h.ps.getD k pty0).leader) ∈ x :: r
        split
        · exact List.mem_cons_self
        · rename_i hne
          rw [← hf]
          exact List.mem_filter.mpr ⟨a4, by rw [decide_eq_false hne]; rfl⟩
      · obtain ⟨b1, b2, b3, b4, b5⟩ := a6 i hi
        exact ⟨b1, b2, fun hc => b3 (hs.subset hc), b4, b5⟩
theorem insI_mem {x j : Inv} {l : List Inv} : j ∈ insI x l ↔ j = x ∨ j ∈ l := by
  induction l with
  | nil => simp [insI]
  | cons i r ih =>
    simp only [insI]
    split
    · simp
    · simp only [List.mem_cons, ih]
      constructor
      · rintro (h | h | h)
        · exact Or.inr (Or.inl h)
        · exact Or.inl h
        · exact Or.inr (Or.inr h)
      · rintro (h | h | h)
        · exact Or.inr (Or.inl h)
        · exact Or.inl h
        · exact Or.inr (Or.inr h)
theorem insI_len (x : Inv) (l : List Inv) : (insI x l).length = l.length + 1 := by
  induction l with
  | nil => rfl
  | cons i r ih =>
    simp only [insI]
    split
    · rfl
    · simp [ih]
theorem insI_sorted {x : Inv} {l : List Inv} (hs : l.Pairwise fun a b => a.who < b.who) (hx : x.who ∉ l.map Inv.who) : (insI x l).Pairwise fun a b => a.who < b.who := by
  induction l with
  | nil => exact List.pairwise_singleton _ _
  | cons i r ih =>
    rw [List.pairwise_cons] at hs
    simp only [List.map_cons, List.mem_cons, not_or] at hx
    simp only [insI]
    split
    · rename_i hle
      rw [List.pairwise_cons, List.pairwise_cons]
      refine ⟨fun j hj => ?_, hs.1, hs.2⟩
      rcases List.mem_cons.mp hj with rfl | hj
      · omega
      · have := hs.1 j hj; omega
    · rename_i hle
      rw [List.pairwise_cons]
      refine ⟨fun j hj => ?_, ih hs.2 hx.2⟩
      rcases insI_mem.mp hj with rfl | hj
      · omega
      · exact hs.1 j hj
/-- A player is invited. -/
theorem invite_valid {h : Hal} (hv : VHal h) {k : Nat} (hk : k < h.ps.length) {who : Int} (hw : 1 ≤ who ∧ who ≤ 65536) (hn : who ∉ allM h.ps) (hi : who ∉ (h.ps.getD k pty0).inv.map Inv.who) (hl : (h.ps.getD k pty0).mem.length + (h.ps.getD k pty0).inv.length < 5) :
    VHal ⟨h.tick, h.last, h.ps.set k { h.ps.getD k pty0 with inv := insI ⟨who, h.tick + 600⟩ (h.ps.getD k pty0).inv }⟩ := by
  have hs : allM (h.ps.set k { h.ps.getD k pty0 with inv := insI ⟨who, h.tick + 600⟩ (h.ps.getD k pty0).inv }) = allM h.ps := allM_same hk rfl
  refine set_valid hv hk rfl ?_ (by rw [hs]; exact hv.nd) (fun q hq i hi hn => by rw [hs]; exact hn)
  rw [hs]
  obtain ⟨a1, a2, a3, a4, a5, a6, a7⟩ := hv.ok _ (getD_mem36 hk)
  refine ⟨a1, a2, ?_, a4, insI_sorted a5 hi, fun i hi' => ?_, a7⟩
  · show (h.ps.getD k pty0).mem.length + (insI _ (h.ps.getD k pty0).inv).length ≤ 5
    rw [insI_len]; omega
  · rcases insI_mem.mp hi' with rfl | hi'
    · exact ⟨hw.1, hw.2, hn, by show h.tick < h.tick + 600; omega, Int.le_refl _⟩
    · exact a6 i hi'
/-- A player that is invited nowhere any more joins a party. -/
theorem join_valid {h : Hal} (hv : VHal h) {k : Nat} (hk : k < h.ps.length) {who : Int} (hw : 1 ≤ who ∧ who ≤ 65536) (hn : who ∉ allM h.ps) (hq : ∀ q ∈ h.ps, ∀ i ∈ q.inv, i.who ≠ who) (hl : (h.ps.getD k pty0).mem.length + (h.ps.getD k pty0).inv.length < 5) :
    VHal ⟨h.tick, h.last, h.ps.set k { h.ps.getD k pty0 with mem := (h.ps.getD k pty0).mem ++ [who] }⟩ := by
  have hmem : ∀ x, x ∈ allM (h.ps.set k { h.ps.getD k pty0 with mem := (h.ps.getD k pty0).mem ++ [who] }) → x ∈ allM h.ps ∨ x = who := by
    intro x hx
    rw [allM_set hk] at hx
    rw [allM_split hk]
    simp only [List.mem_append, List.mem_singleton] at hx ⊢
    rcases hx with h | (h | h) | h
    · exact Or.inl (Or.inl h)
    · exact Or.inl (Or.inr (Or.inl h))
    · exact Or.inr h
    · exact Or.inl (Or.inr (Or.inr h))
  refine set_valid hv hk rfl ?_ ?_ (fun q hqm i hi hni hc => (hmem _ hc).elim hni (hq q hqm i hi))
  · obtain ⟨a1, a2, a3, a4, a5, a6, a7⟩ := hv.ok _ (getD_mem36 hk)
    refine ⟨a1, ?_, ?_, List.mem_append_left _ a4, a5, fun i hi => ?_, fun n hn' => ?_⟩
    · show 1 ≤ ((h.ps.getD k pty0).mem ++ [who]).length
      rw [List.length_append, List.length_singleton]; omega
    · show ((h.ps.getD k pty0).mem ++ [who]).length + _ ≤ 5
      rw [List.length_append, List.length_singleton]; show _ + 1 + (h.ps.getD k pty0).inv.length ≤ 5; omega
    · obtain ⟨b1, b2, b3, b4, b5⟩ := a6 i hi
      exact ⟨b1, b2, fun hc => (hmem _ hc).elim b3 (hq _ (getD_mem36 hk) i hi), b4, b5⟩
    · rcases List.mem_append.mp hn' with h1 | h1
      · exact a7 n h1
      · rw [List.mem_singleton.mp h1]; exact hw
  · have h1 := hv.nd
    have h2 := hn
    rw [allM_split hk] at h1 h2
    rw [allM_set hk]
    simp only [List.mem_append, not_or] at h2
    simp only [List.nodup_append, List.mem_append] at h1 ⊢
    obtain ⟨c1, ⟨c2, c3, c4⟩, c5⟩ := h1
    refine ⟨c1, ⟨⟨c2, by simp, fun a ha b hb e => ?_⟩, c3, fun a ha b hb e => ?_⟩, fun a ha b hb e => ?_⟩
    · rw [List.mem_singleton.mp hb] at e; exact h2.2.1 (e ▸ ha)
    · rcases ha with ha | ha
      · exact c4 a ha b hb e
      · rw [List.mem_singleton.mp ha] at e; exact h2.2.2 (e ▸ hb)
    · rcases hb with (hb | hb) | hb
      · exact c5 a ha b (Or.inl hb) e
      · rw [List.mem_singleton.mp hb] at e; exact h2.1 (e ▸ ha)
      · exact c5 a ha b (Or.inr hb) e
end Go.Proofs.YtlfbcoohfnoacaaGreat

/- Layer 36 (party): what is done gives a valid hall, or an error and nothing. Plain Lean. -/
namespace Go.Proofs.YtlfbcoohfnoacaaGreat
open Go.Fw Go.RowKit
/-- What is done: kinds 0 to 8. -/
def doM (h : Hal) (kind : Nat) (a b : Int) : ResP :=
  match kind with
  | 0 => advM h a
  | 1 => createM h a
  | 2 => invitedM h a b
  | 3 => answerM h a b true
  | 4 => answerM h a b false
  | 5 => leaveM h a
  | 6 => kickM h a b
  | 7 => promoteM h a b
  | _ => disbandM h a
/-- IDs of parties are never used again. -/
structure Fol (h n : Hal) : Prop where
  valid : VHal n
  last : h.last ≤ n.last
  tick : h.tick ≤ n.tick
  ids : ∀ p ∈ n.ps, (∃ q ∈ h.ps, q.id = p.id) ∨ (p.id = h.last + 1 ∧ n.last = p.id)
theorem fol_set {h : Hal} {k : Nat} {p : Pty} (hk : k < h.ps.length) (hid : p.id = (h.ps.getD k pty0).id) (hv : VHal ⟨h.tick, h.last, h.ps.set k p⟩) : Fol h ⟨h.tick, h.last, h.ps.set k p⟩ := by
  refine ⟨hv, Int.le_refl _, Int.le_refl _, fun q hq => Or.inl ?_⟩
  rcases List.mem_or_eq_of_mem_set hq with h1 | rfl
  · exact ⟨q, h1, rfl⟩
  · exact ⟨_, getD_mem36 hk, hid.symm⟩
theorem fol_erase {h : Hal} (hv : VHal h) (k : Nat) : Fol h ⟨h.tick, h.last, h.ps.eraseIdx k⟩ :=
  ⟨erase_valid hv k, Int.le_refl _, Int.le_refl _, fun q hq => Or.inl ⟨q, (List.eraseIdx_sublist h.ps k).subset hq, rfl⟩⟩
theorem fol_leave {h : Hal} (hv : VHal h) {k : Nat} (hk : k < h.ps.length) (who : Int) : Fol h (leaveAt h k who) := by
  have hl := leave_valid hv hk who
  unfold leaveAt at hl ⊢
  cases hm : leftM who (h.ps.getD k pty0) with
  | none => exact fol_erase hv k
  | some p =>
    rw [hm] at hl
    refine fol_set hk ?_ hl
    unfold leftM at hm
    split at hm
    · cases hm
    · cases hm; rfl
theorem leadM_cases (h : Hal) (by' : Int) (f : Nat → ResP) (P : ResP → Prop) (he : ∀ e, e ≠ 0 → P (hal0, e)) (hf : VHal h → ∀ k, k < h.ps.length → findM by' h.ps = some k → (h.ps.getD k pty0).leader = by' → P (f k)) : P (leadM h by' f) := by
  unfold leadM
  split
  · rename_i hv
    split
    · exact he 6 (by decide)
    · rename_i k hk
      split
      · rename_i hl
        exact hf (valid_iff.mp hv) k (findM_some _ hk).1 hk hl
      · exact he 362 (by decide)
  · exact he 2 (by decide)
theorem askedM_some {who id : Int} (ps : List Pty) : ∀ {k : Nat}, askedM who id ps = some k → k < ps.length ∧ (ps.getD k pty0).id = id ∧ who ∈ (ps.getD k pty0).inv.map Inv.who := by
  induction ps with
  | nil => intro k h; cases h
  | cons p r ih =>
    intro k h
    simp only [askedM] at h
    split at h
    · rename_i hp; cases h; exact ⟨by simp, by simpa using hp.1, by simpa using hp.2⟩
    · cases hf : askedM who id r with
      | none => rw [hf] at h; cases h
      | some j =>
        rw [hf] at h; cases h
        obtain ⟨h1, h2, h3⟩ := ih hf
        exact ⟨by simp only [List.length_cons]; omega, by simpa using h2, by simpa using h3⟩
theorem uninv_getD (is : Pty → Inv → Bool) {ps : List Pty} {k : Nat} (hk : k < ps.length) : (uninvM is ps).getD k pty0 = { ps.getD k pty0 with inv := (ps.getD k pty0).inv.filter fun i => !is (ps.getD k pty0) i } := by
  unfold uninvM
  rw [List.getD_eq_getElem?_getD, List.getElem?_map, List.getD_eq_getElem?_getD, List.getElem?_eq_getElem hk]
  rfl
theorem filter_less {f : Inv → Bool} {l : List Inv} {i : Inv} (hi : i ∈ l) (hf : f i = false) : (l.filter f).length < l.length := by
  induction l with
  | nil => cases hi
  | cons j r ih =>
    rcases List.mem_cons.mp hi with rfl | hi
    · rw [List.filter_cons_of_neg (by rw [hf]; decide)]
      have := List.length_filter_le f r
      simp only [List.length_cons]; omega
    · have := ih hi
      rw [List.filter_cons]
      split <;> simp only [List.length_cons] <;> omega
theorem answer_fol {h : Hal} (hv : VHal h) {who id : Int} {k : Nat} (ha : askedM who id h.ps = some k) (yes : Bool) : Fol h (answerM h who id yes).1 ∧ (answerM h who id yes).2 = 0 := by
  unfold answerM
  rw [if_pos (valid_iff.mpr hv), ha]
  obtain ⟨hk, hid, hw⟩ := askedM_some _ ha
  have hU : VHal ⟨h.tick, h.last, uninvM (fun p i => decide (i.who = who) && (yes || decide (p.id = id))) h.ps⟩ := uninv_valid hv hv.t0 hv.t1 (Int.le_refl _) hv.l1 (fun p hp i hi hfi ho => ho)
  have hids : ∀ p ∈ uninvM (fun p i => decide (i.who = who) && (yes || decide (p.id = id))) h.ps, ∃ q ∈ h.ps, q.id = p.id := by
    intro p hp
    obtain ⟨q, hq, rfl⟩ := mem_uninv.mp hp
    exact ⟨q, hq, rfl⟩
  refine ⟨?_, rfl⟩
  cases yes with
  | false => exact ⟨hU, Int.le_refl _, Int.le_refl _, fun p hp => Or.inl (hids p hp)⟩
  | true =>
    obtain ⟨i, hi, rfl⟩ := List.mem_map.mp hw
    have hoi := (hv.ok _ (getD_mem36 hk)).2.2.2.2.2.1 i hi
    have hk' : k < (uninvM (fun p j => decide (j.who = i.who) && (true || decide (p.id = id))) h.ps).length := by rw [uninv_len]; exact hk
    have hj := join_valid hU (k := k) (who := i.who) hk' ⟨hoi.1, hoi.2.1⟩ (by show _ ∉ allM (uninvM _ h.ps); rw [allM_uninv]; exact hoi.2.2.1) (fun q hq j hj => ?_) ?_
    · refine ⟨hj, Int.le_refl _, Int.le_refl _, fun p hp => Or.inl ?_⟩
      rcases List.mem_or_eq_of_mem_set hp with h1 | rfl
      · exact hids p h1
      · obtain ⟨q, hq, e⟩ := hids _ (getD_mem36 hk')
        exact ⟨q, hq, e⟩
    · obtain ⟨q', hq', rfl⟩ := mem_uninv.mp hq
      have := (List.mem_filter.mp hj).2
      simpa using this
    · show ((uninvM _ h.ps).getD k pty0).mem.length + ((uninvM _ h.ps).getD k pty0).inv.length < 5
      rw [uninv_getD _ hk]
      have h3 := (hv.ok _ (getD_mem36 hk)).2.2.1
      have h4 : ((h.ps.getD k pty0).inv.filter fun j => !(decide (j.who = i.who) && (true || decide ((h.ps.getD k pty0).id = id)))).length < (h.ps.getD k pty0).inv.length := filter_less hi (by simp)
      show (h.ps.getD k pty0).mem.length + _ < 5
      exact Nat.lt_of_lt_of_le (Nat.add_lt_add_left h4 _) h3
/-- The stage's theorem: an error gives nothing; otherwise the hall is valid, and IDs are never used again. -/
theorem do_fol (h : Hal) (kind : Nat) (a b : Int) : ((doM h kind a b).2 ≠ 0 ∧ (doM h kind a b).1 = hal0) ∨ ((doM h kind a b).2 = 0 ∧ VHal h ∧ Fol h (doM h kind a b).1) := by
  have he : ∀ e : Int, e ≠ 0 → ((hal0, e) : ResP).2 ≠ 0 ∧ ((hal0, e) : ResP).1 = hal0 := fun e h => ⟨h, rfl⟩
  unfold doM
  split
  · by_cases h0 : (advM h a).2 = 0
    · obtain ⟨h1, h2, h3⟩ := adv_valid h0
      have hv : VHal h := by
        refine valid_iff.mp (Decidable.of_not_not fun hc => ?_)
        unfold advM at h0; rw [if_neg hc] at h0; cases h0
      refine Or.inr ⟨h0, hv, ?_⟩
      rw [h3] at h1 ⊢
      refine ⟨h1, Int.le_refl _, h2, fun p hp => Or.inl ?_⟩
      obtain ⟨q, hq, rfl⟩ := mem_uninv.mp hp
      exact ⟨q, hq, rfl⟩
    · refine Or.inl ⟨h0, ?_⟩
      unfold advM at h0 ⊢
      repeat' split
      all_goals first | rfl | (simp_all)
  · by_cases h0 : (createM h a).2 = 0
    · obtain ⟨h1, h2, h3⟩ := create_valid h0
      have hv : VHal h := by
        refine valid_iff.mp (Decidable.of_not_not fun hc => ?_)
        unfold createM at h0; rw [if_neg hc] at h0; cases h0
      refine Or.inr ⟨h0, hv, ?_⟩
      rw [h3] at h1 ⊢
      refine ⟨h1, by show h.last ≤ h.last + 1; omega, Int.le_refl _, fun p hp => ?_⟩
      rcases List.mem_append.mp hp with hp | hp
      · obtain ⟨q, hq, rfl⟩ := mem_uninv.mp hp
        exact Or.inl ⟨q, hq, rfl⟩
      · rw [List.mem_singleton.mp hp]; exact Or.inr ⟨rfl, rfl⟩
    · refine Or.inl ⟨h0, ?_⟩
      unfold createM at h0 ⊢
      repeat' split
      all_goals first | rfl | (simp_all)
  · refine leadM_cases h a _ (fun r => (r.2 ≠ 0 ∧ r.1 = hal0) ∨ (r.2 = 0 ∧ VHal h ∧ Fol h r.1)) (fun e h => Or.inl (he e h)) (fun hv k hk hf hl => ?_)
    split
    · rename_i hw
      split
      · exact Or.inl (he _ (by decide))
      · rename_i hn
        split
        · exact Or.inl (he _ (by decide))
        · rename_i hi
          split
          · rename_i hlen
            exact Or.inr ⟨rfl, hv, fol_set hk rfl (invite_valid hv hk (isIdB_iff.mp hw) hn hi hlen)⟩
          · exact Or.inl (he _ (by decide))
    · exact Or.inl (he _ (by decide))
  · by_cases hv : validHal h = true
    · cases ha : askedM a b h.ps with
      | none => refine Or.inl ?_; unfold answerM; rw [if_pos hv, ha]; exact he _ (by decide)
      | some k => have := answer_fol (valid_iff.mp hv) ha true; exact Or.inr ⟨this.2, valid_iff.mp hv, this.1⟩
    · refine Or.inl ?_; unfold answerM; rw [if_neg hv]; exact he _ (by decide)
  · by_cases hv : validHal h = true
    · cases ha : askedM a b h.ps with
      | none => refine Or.inl ?_; unfold answerM; rw [if_pos hv, ha]; exact he _ (by decide)
      | some k => have := answer_fol (valid_iff.mp hv) ha false; exact Or.inr ⟨this.2, valid_iff.mp hv, this.1⟩
    · refine Or.inl ?_; unfold answerM; rw [if_neg hv]; exact he _ (by decide)
  · unfold leaveM
    split
    · rename_i hv
      split
      · exact Or.inl (he _ (by decide))
      · rename_i k hk
        exact Or.inr ⟨rfl, valid_iff.mp hv, fol_leave (valid_iff.mp hv) (findM_some _ hk).1 a⟩
    · exact Or.inl (he _ (by decide))
  · refine leadM_cases h a _ (fun r => (r.2 ≠ 0 ∧ r.1 = hal0) ∨ (r.2 = 0 ∧ VHal h ∧ Fol h r.1)) (fun e h => Or.inl (he e h)) (fun hv k hk hf hl => ?_)
    split
    · split
      · exact Or.inl (he _ (by decide))
      · exact Or.inr ⟨rfl, hv, fol_leave hv hk b⟩
    · exact Or.inl (he _ (by decide))
  · refine leadM_cases h a _ (fun r => (r.2 ≠ 0 ∧ r.1 = hal0) ∨ (r.2 = 0 ∧ VHal h ∧ Fol h r.1)) (fun e h => Or.inl (he e h)) (fun hv k hk hf hl => ?_)
    split
    · rename_i hb
      exact Or.inr ⟨rfl, hv, fol_set hk rfl (leader_valid hv hk (findM_some _ hb).2)⟩
    · exact Or.inl (he _ (by decide))
  · exact leadM_cases h a _ (fun r => (r.2 ≠ 0 ∧ r.1 = hal0) ∨ (r.2 = 0 ∧ VHal h ∧ Fol h r.1)) (fun e h => Or.inl (he e h)) (fun hv k hk hf hl => Or.inr ⟨rfl, hv, fol_erase hv k⟩)
end Go.Proofs.YtlfbcoohfnoacaaGreat

/- Layer 36 (party): time and shares. Plain Lean. -/
namespace Go.Proofs.YtlfbcoohfnoacaaGreat
open Go.Fw Go.RowKit
end Go.Proofs.YtlfbcoohfnoacaaGreat

/- Layer 36 (party): leaving. Plain Lean. -/
namespace Go.Proofs.YtlfbcoohfnoacaaGreat
open Go.Fw Go.RowKit
theorem idxP_some {id : Int} (ps : List Pty) : ∀ {k : Nat}, idxP id ps = some k → k < ps.length ∧ (ps.getD k pty0).id = id := by
  induction ps with
  | nil => intro k h; cases h
  | cons p r ih =>
    intro k h
    simp only [idxP] at h
    split at h
    · rename_i hp; cases h; exact ⟨by simp, by simpa using hp⟩
    · cases hf : idxP id r with
      | none => rw [hf] at h; cases h
      | some j =>
        rw [hf] at h; cases h
        obtain ⟨h1, h2⟩ := ih hf
        exact ⟨by simp only [List.length_cons]; omega, by simpa using h2⟩
end Go.Proofs.YtlfbcoohfnoacaaGreat

/- Layer 36 (party): halls with one fault. Plain Lean. -/
namespace Go.Proofs.YtlfbcoohfnoacaaGreat
open Go.Fw Go.RowKit
end Go.Proofs.YtlfbcoohfnoacaaGreat

/- Layer 36 (party): accepting and declining. Plain Lean. -/
namespace Go.Proofs.YtlfbcoohfnoacaaGreat
open Go.Fw Go.RowKit
end Go.Proofs.YtlfbcoohfnoacaaGreat

/- Layer 36 (party): the reference's ways of saying it. Plain Lean. -/
namespace Go.Proofs.YtlfbcoohfnoacaaGreat
open Go.Fw Go.RowKit
/-- The reference's 'kept'. -/
def keptR (tick who only : Int) (ps : List Pty) : List Pty := uninvM (fun p i => !(decide (tick < i.till) && !(decide (i.who = who) && (decide (only = 0) || decide (only = p.id))))) ps
theorem uninv_congr {f g : Pty → Inv → Bool} {ps : List Pty} (h : ∀ p ∈ ps, ∀ i ∈ p.inv, f p i = g p i) : uninvM f ps = uninvM g ps := by
  unfold uninvM
  refine List.map_congr_left fun p hp => ?_
  congr 1
  exact List.filter_congr fun i hi => by rw [h p hp i hi]
/-- The reference's Advance: nobody has the number 0. -/
theorem kept_adv {h : Hal} (hv : VHal h) (t : Int) : keptR t 0 0 h.ps = uninvM (fun _ i => decide (i.till ≤ t)) h.ps := by
  refine uninv_congr fun p hp i hi => ?_
  have h1 := ((hv.ok p hp).2.2.2.2.2.1 i hi).1
  have h2 : ¬ i.who = 0 := by omega
  by_cases h3 : i.till ≤ t
  · have : ¬ t < i.till := by omega
    simp [h3, this]
  · have : t < i.till := by omega
    simp [h2, h3, this]
/-- The reference's Create and Accept. -/
theorem kept_who {h : Hal} (hv : VHal h) (who : Int) : keptR h.tick who 0 h.ps = uninvM (fun _ i => decide (i.who = who)) h.ps := by
  refine uninv_congr fun p hp i hi => ?_
  have h1 := ((hv.ok p hp).2.2.2.2.2.1 i hi).2.2.2.1
  simp [h1]
theorem kept_yes {h : Hal} (hv : VHal h) (who id : Int) : keptR h.tick who 0 h.ps = uninvM (fun p i => decide (i.who = who) && (true || decide (p.id = id))) h.ps := by
  rw [kept_who hv]
  refine uninv_congr fun p hp i hi => ?_
  simp
/-- The reference's Decline: no party has the number 0. -/
theorem kept_no {h : Hal} (hv : VHal h) {who id : Int} {k : Nat} (ha : askedM who id h.ps = some k) : keptR h.tick who id h.ps = uninvM (fun p i => decide (i.who = who) && (false || decide (p.id = id))) h.ps := by
  obtain ⟨hk, hid, _⟩ := askedM_some _ ha
  have h0 : ¬ id = 0 := by have := hv.pos _ (getD_mem36 hk); omega
  refine uninv_congr fun p hp i hi => ?_
  have h1 := ((hv.ok p hp).2.2.2.2.2.1 i hi).2.2.2.1
  have h2 : decide (id = p.id) = decide (p.id = id) := by simp only [eq_comm]
  simp [h0, h1, h2]
/-- How often a player is a member. -/
def timesR (ps : List Pty) (who : Int) : Nat := (allM ps).count who
theorem times_zero {ps : List Pty} {who : Int} : timesR ps who = 0 ↔ who ∉ allM ps := List.count_eq_zero
/-- What the reference asks of party number i. -/
def invR (tick : Int) (ps : List Pty) (l : List Inv) (k : Nat) : Bool :=
  isIdB (l.getD k ⟨0, 0⟩).who && decide (timesR ps (l.getD k ⟨0, 0⟩).who = 0) && decide (tick < (l.getD k ⟨0, 0⟩).till) && decide ((l.getD k ⟨0, 0⟩).till ≤ tick + 600) && (decide (k = 0) || decide ((l.getD (k - 1) ⟨0, 0⟩).who < (l.getD k ⟨0, 0⟩).who))
def memR (ps : List Pty) (n : Int) : Bool := isIdB n && decide (timesR ps n = 1)
def ptyR (h : Hal) (i : Nat) : Bool :=
  decide (1 ≤ (h.ps.getD i pty0).id) && decide ((h.ps.getD i pty0).id ≤ h.last) && (decide (i = 0) || decide ((h.ps.getD (i - 1) pty0).id < (h.ps.getD i pty0).id)) && decide (1 ≤ (h.ps.getD i pty0).mem.length) && decide ((h.ps.getD i pty0).mem.length + (h.ps.getD i pty0).inv.length ≤ 5) &&
    (h.ps.getD i pty0).mem.all (memR h.ps) && (List.range (h.ps.getD i pty0).inv.length).all (invR h.tick h.ps (h.ps.getD i pty0).inv) && decide ((h.ps.getD i pty0).leader ∈ (h.ps.getD i pty0).mem)
def validR (h : Hal) : Bool :=
  decide (0 ≤ h.tick) && decide (h.tick ≤ 1073741824) && decide (0 ≤ h.last) && decide (h.last ≤ 1048576) && decide (h.ps.length ≤ 32) && (List.range h.ps.length).all (ptyR h)
/-- A list rises if each rises above the one ahead of it. -/
theorem rises {α : Type} (key : α → Int) (d : α) : ∀ (l : List α), (l.Pairwise fun a b => key a < key b) ↔ ∀ k, k + 1 < l.length → key (l.getD k d) < key (l.getD (k + 1) d) := by
  intro l
  induction l with
  | nil => simp
  | cons x r ih =>
    rw [List.pairwise_cons, ih]
    constructor
    · rintro ⟨h1, h2⟩ k hk
      cases k with
      | zero =>
        have hr : 0 < r.length := by simp only [List.length_cons] at hk; omega
        have : r.getD 0 d ∈ r := by rw [List.getD_eq_getElem?_getD, List.getElem?_eq_getElem hr]; exact List.getElem_mem hr
        exact h1 _ this
      | succ k => exact h2 k (by simp only [List.length_cons] at hk; omega)
    · intro h
      have h2 : ∀ k, k + 1 < r.length → key (r.getD k d) < key (r.getD (k + 1) d) := fun k hk => h (k + 1) (by simp only [List.length_cons]; omega)
      refine ⟨?_, h2⟩
      have h3 : ∀ k, k < r.length → key x < key (r.getD k d) := by
        intro k
        induction k with
        | zero => intro hk; exact h 0 (by simp only [List.length_cons]; omega)
        | succ k ihk => intro hk; have a := ihk (by omega); have b := h2 k hk; omega
      intro y hy
      obtain ⟨k, hk, rfl⟩ := List.mem_iff_getElem.mp hy
      have := h3 k hk
      rwa [List.getD_eq_getElem?_getD, List.getElem?_eq_getElem hk] at this
theorem all_getD {α : Type} (d : α) (P : α → Prop) (l : List α) : (∀ x ∈ l, P x) ↔ ∀ k, k < l.length → P (l.getD k d) := by
  constructor
  · intro h k hk
    refine h _ ?_
    rw [List.getD_eq_getElem?_getD, List.getElem?_eq_getElem hk]; exact List.getElem_mem hk
  · intro h y hy
    obtain ⟨k, hk, rfl⟩ := List.mem_iff_getElem.mp hy
    have := h k hk
    rwa [List.getD_eq_getElem?_getD, List.getElem?_eq_getElem hk] at this
theorem invR_iff {tick : Int} {ps : List Pty} (l : List Inv) : (List.range l.length).all (invR tick ps l) = true ↔ (l.Pairwise fun a b => a.who < b.who) ∧ ∀ i ∈ l, okI tick (allM ps) i := by
  rw [rises Inv.who ⟨0, 0⟩, all_getD ⟨0, 0⟩ (okI tick (allM ps)), List.all_eq_true]
  simp only [List.mem_range]
  unfold invR okI
  simp only [Bool.and_eq_true, decide_eq_true_eq, Bool.or_eq_true, isIdB_iff, times_zero]
  constructor
  · intro h
    refine ⟨fun k hk => ?_, fun k hk => ?_⟩
    · rcases (h (k + 1) hk).2 with e | e
      · omega
      · exact e
    · obtain ⟨⟨⟨⟨⟨a, b⟩, c⟩, d⟩, e⟩, _⟩ := h k hk
      exact ⟨a, b, c, d, e⟩
  · rintro ⟨h1, h2⟩ k hk
    obtain ⟨a, b, c, d, e⟩ := h2 k hk
    refine ⟨⟨⟨⟨⟨a, b⟩, c⟩, d⟩, e⟩, ?_⟩
    cases k with
    | zero => exact Or.inl rfl
    | succ k => exact Or.inr (h1 k hk)
theorem nodup_count {l : List Int} : l.Nodup ↔ ∀ x ∈ l, l.count x = 1 := by
  induction l with
  | nil => simp
  | cons y r ih =>
    rw [List.nodup_cons, ih]
    constructor
    · rintro ⟨h1, h2⟩ x hx
      by_cases hxy : y = x
      · subst hxy
        rw [List.count_cons_self, List.count_eq_zero.mpr h1]
      · rw [List.count_cons_of_ne hxy]
        exact h2 x ((List.mem_cons.mp hx).resolve_left fun e => hxy e.symm)
    · intro h
      have h1 : y ∉ r := by
        have := h y List.mem_cons_self
        rw [List.count_cons_self] at this
        exact List.count_eq_zero.mp (by omega)
      refine ⟨h1, fun x hx => ?_⟩
      have := h x (List.mem_cons_of_mem _ hx)
      have hyx : y ≠ x := fun e => h1 (by rw [e]; exact hx)
      rwa [List.count_cons_of_ne hyx] at this
/-- The reference's Valid is the program's. -/
theorem validR_iff {h : Hal} : validR h = true ↔ VHal h := by
  have hp : (List.range h.ps.length).all (ptyR h) = true ↔ (h.ps.Pairwise fun a b => a.id < b.id) ∧ (∀ p ∈ h.ps, 1 ≤ p.id ∧ okP h.last h.tick (allM h.ps) p ∧ ∀ n ∈ p.mem, (allM h.ps).count n = 1) := by
    rw [rises Pty.id pty0, all_getD pty0 (fun p => 1 ≤ p.id ∧ okP h.last h.tick (allM h.ps) p ∧ ∀ n ∈ p.mem, (allM h.ps).count n = 1), List.all_eq_true]
    simp only [List.mem_range]
    unfold ptyR okP memR timesR
    simp only [Bool.and_eq_true, decide_eq_true_eq, Bool.or_eq_true, invR_iff]
    simp only [List.all_eq_true, Bool.and_eq_true, decide_eq_true_eq, isIdB_iff]
    constructor
    · intro hh
      refine ⟨fun k hk => ?_, fun k hk => ?_⟩
      · rcases (hh (k + 1) hk).1.1.1.1.1.2 with e | e
        · omega
        · exact e
      · obtain ⟨⟨⟨⟨⟨⟨⟨a, b⟩, _⟩, c⟩, d⟩, e⟩, f⟩, g⟩ := hh k hk
        exact ⟨a, ⟨b, c, d, g, f.1, f.2, fun n hn => (e n hn).1⟩, fun n hn => (e n hn).2⟩
    · rintro ⟨h1, h2⟩ k hk
      obtain ⟨a, ⟨b, c, d, g, f1, f2, e1⟩, e2⟩ := h2 k hk
      refine ⟨⟨⟨⟨⟨⟨⟨a, b⟩, ?_⟩, c⟩, d⟩, fun n hn => ⟨e1 n hn, e2 n hn⟩⟩, f1, f2⟩, g⟩
      cases k with
      | zero => exact Or.inl rfl
      | succ k => exact Or.inr (h1 k hk)
  unfold validR
  simp only [Bool.and_eq_true, decide_eq_true_eq, hp]
  constructor
  · rintro ⟨⟨⟨⟨⟨h1, h2⟩, h3⟩, h4⟩, h5⟩, h6, h7⟩
    refine ⟨h1, h2, h3, h4, h5, h6, fun p hp => (h7 p hp).1, fun p hp => (h7 p hp).2.1, nodup_count.mpr fun x hx => ?_⟩
    obtain ⟨p, hp, hm⟩ := mem_allM.mp hx
    exact (h7 p hp).2.2 x hm
  · rintro ⟨h1, h2, h3, h4, h5, h6, h7, h8, h9⟩
    exact ⟨⟨⟨⟨⟨h1, h2⟩, h3⟩, h4⟩, h5⟩, h6, fun p hp => ⟨h7 p hp, h8 p hp, fun n hn => nodup_count.mp h9 n (mem_allM.mpr ⟨p, hp, hn⟩)⟩⟩
theorem validR_eq (h : Hal) : validR h = validHal h := by
  rw [Bool.eq_iff_iff, validR_iff, valid_iff]
end Go.Proofs.YtlfbcoohfnoacaaGreat

/- Layer 36 (party): other parties. Plain Lean. -/
namespace Go.Proofs.YtlfbcoohfnoacaaGreat
open Go.Fw Go.RowKit
/-- What another party may lose: the invitations of a player. -/
def othOK (a : Int) (p q : Pty) : Prop := q.id = p.id ∧ q.leader = p.leader ∧ q.mem = p.mem ∧ (q.inv = p.inv ∨ q.inv = p.inv.filter fun i => !decide (i.who = a))
def idOf (o : Option Pty) : Int := (o.getD pty0).id
/-- The hall behind it, as it lies to the one ahead of it. -/
structure Oth (h n : Hal) (a : Int) : Prop where
  oth : ∀ p ∈ h.ps, p.id ≠ idOf (ofM h a) → p.id ≠ idOf (ofM n a) → ∃ q ∈ n.ps, othOK a p q
  up : n.ps.length ≤ h.ps.length + 1
  down : h.ps.length ≤ n.ps.length + 1
end Go.Proofs.YtlfbcoohfnoacaaGreat

/- Layer 36 (party): lists with something left out or put in, step by step. Plain Lean. -/
namespace Go.Proofs.YtlfbcoohfnoacaaGreat
open Go.Fw Go.RowKit
theorem take_snoc36 {α : Type} (d : α) {l : List α} {k : Nat} (hk : k < l.length) : l.take (k + 1) = l.take k ++ [l.getD k d] := by
  rw [List.take_add_one, List.getD_eq_getElem?_getD, List.getElem?_eq_getElem hk]
  rfl
/-! The reference's loop that puts an invitation in. -/
theorem insI_in {x y : Inv} {l : List Inv} (h : ∃ z ∈ l, x.who ≤ z.who) : insI x (l ++ [y]) = insI x l ++ [y] := by
  induction l with
  | nil => obtain ⟨z, hz, _⟩ := h; cases hz
  | cons i r ih =>
    show insI x (i :: (r ++ [y])) = insI x (i :: r) ++ [y]
    simp only [insI]
    split
    · rfl
    · rename_i hi
      obtain ⟨z, hz, hle⟩ := h
      have hz' : z ∈ r := (List.mem_cons.mp hz).resolve_left fun e => hi (by rw [← e]; exact hle)
      rw [ih ⟨z, hz', hle⟩]
      rfl
theorem insI_end {x : Inv} {l : List Inv} (h : ∀ z ∈ l, z.who < x.who) : insI x l = l ++ [x] := by
  induction l with
  | nil => rfl
  | cons i r ih =>
    have := h i List.mem_cons_self
    simp only [insI]
    rw [if_neg (by omega), ih fun z hz => h z (List.mem_cons_of_mem _ hz)]
    rfl
theorem insI_at {x y : Inv} {l : List Inv} (h : ∀ z ∈ l, z.who < x.who) (hy : x.who ≤ y.who) : insI x (l ++ [y]) = l ++ [x, y] := by
  induction l with
  | nil =>
    show insI x [y] = [x, y]
    simp only [insI]
    rw [if_pos hy]
  | cons i r ih =>
    have := h i List.mem_cons_self
    show insI x (i :: (r ++ [y])) = i :: r ++ [x, y]
    simp only [insI]
    rw [if_neg (by omega), ih fun z hz => h z (List.mem_cons_of_mem _ hz)]
    rfl
/-- The program's: put in at the place that a binary search finds. -/
theorem insI_place {x : Inv} : ∀ {l : List Inv} {k : Nat}, k ≤ l.length → (∀ j, j < k → (l.getD j ⟨0, 0⟩).who < x.who) → (∀ j, k ≤ j → j < l.length → x.who ≤ (l.getD j ⟨0, 0⟩).who) → insI x l = l.take k ++ x :: l.drop k := by
  intro l
  induction l with
  | nil => intro k hk _ _; have : k = 0 := by simpa using hk
           subst this; rfl
  | cons i r ih =>
    intro k hk h1 h2
    simp only [insI]
    cases k with
    | zero =>
      have := h2 0 (Nat.le_refl _) (by simp only [List.length_cons]; omega)
      rw [if_pos (show x.who ≤ i.who from this)]
      rfl
    | succ k =>
      have h0 : i.who < x.who := h1 0 (by omega)
      rw [if_neg (by omega), ih (k := k) (by simp only [List.length_cons] at hk; omega) (fun j hj => h1 (j + 1) (by omega)) (fun j hj hl => h2 (j + 1) (by omega) (by simp only [List.length_cons]; omega))]
      rfl
end Go.Proofs.YtlfbcoohfnoacaaGreat

/- Layer 36 (party): halls in memory: parties whose members and invitations lie in rows of their own. -/
namespace Go.Proofs.YtlfbcoohfnoacaaGreat
open Go.Fw Go.RowKit
instance : Flat Inv := ⟨2, fun x => [.int .i64 x.who, .int .i64 x.till], ⟨0, 0⟩, fun _ => rfl, fun x v hv => by
  simp at hv; rcases hv with rfl | rfl <;> rfl, by omega⟩
/-- A party, whose members lie at A and whose invitations lie at B. -/
structure PtyP where
  p : Pty
  A : Option Addr
  ca : Nat
  B : Option Addr
  cb : Nat
instance : Flat PtyP := ⟨4, fun x => [.int .i64 x.p.id, .int .i64 x.p.leader, .slice x.A x.p.mem.length x.ca, .slice x.B x.p.inv.length x.cb], ⟨pty0, none, 0, none, 0⟩, fun _ => rfl, fun x v hv => by
  simp at hv; rcases hv with rfl | rfl | rfl | rfl <;> rfl, by omega⟩
def ptys (l : List PtyP) : List Pty := l.map PtyP.p
theorem ptys_len (l : List PtyP) : (ptys l).length = l.length := List.length_map ..
theorem ptys_at {l : List PtyP} {k : Nat} (hk : k < l.length) : (ptys l).getD k pty0 = (l.getD k Flat.dflt).p := by
  unfold ptys
  rw [List.getD_eq_getElem?_getD, List.getElem?_map, List.getD_eq_getElem?_getD, List.getElem?_eq_getElem hk]
  rfl
theorem ptys_snoc (l : List PtyP) (x : PtyP) : ptys (l ++ [x]) = ptys l ++ [x.p] := List.map_append ..
theorem ptys_set (l : List PtyP) (k : Nat) (x : PtyP) : ptys (l.set k x) = (ptys l).set k x.p := List.map_set ..
/-- The parties at A, with their members and invitations. -/
def RdP (w : World) (A : Option Addr) (l : List PtyP) : Prop := Rd w A l ∧ ∀ x ∈ l, Rd w x.A x.p.mem ∧ Rd w x.B x.p.inv
theorem RdP.ext {w w' : World} {A : Option Addr} {l : List PtyP} (h : RdP w A l) (he : Ext w w') : RdP w' A l := ⟨h.1.ext he, fun x hx => ⟨(h.2 x hx).1.ext he, (h.2 x hx).2.ext he⟩⟩
theorem RdP.mem {w : World} {A : Option Addr} {l : List PtyP} (h : RdP w A l) {k : Nat} (hk : k < l.length) : Rd w (l.getD k Flat.dflt).A (l.getD k Flat.dflt).p.mem := (h.2 _ (getD_mem hk)).1
theorem RdP.inv {w : World} {A : Option Addr} {l : List PtyP} (h : RdP w A l) {k : Nat} (hk : k < l.length) : Rd w (l.getD k Flat.dflt).B (l.getD k Flat.dflt).p.inv := (h.2 _ (getD_mem hk)).2
def knp (A : Option Addr) (l : List PtyP) : HP := kno fun w => RdP w A l
section
variable {w0 w : World} {H R G : List HP} {A : Option Addr} {l : List PtyP}
theorem Wd.kp (h : Wd w0 H w) (hs : Split H (knp A l) R) : RdP w A l := h.kn hs
theorem Wd.kp1 (h : Wd w0 H w) (hs : Split H (knp A l) R) : Rd w A l := (h.kn hs).1
/-- A hall's own rows are known. -/
theorem ent_knp {e em ei : TypeId} {c : Nat} : Ent (orow e A c l :: allH (l.map fun x => orow em x.A x.ca x.p.mem) :: allH (l.map fun x => orow ei x.B x.cb x.p.inv) :: G) (knp A l :: G) := by
  have h1 : Ent (allH (l.map fun x => orow em x.A x.ca x.p.mem) :: allH (l.map fun x => orow ei x.B x.cb x.p.inv) :: G) (kno (fun w => ∀ x ∈ l, Rd w x.A x.p.mem) :: allH (l.map fun x => orow ei x.B x.cb x.p.inv) :: G) :=
    (ent_all_out _).trans (ent_kno_map (fun x G => ent_kno_row Split.head (ent_refl _)) l)
  have h2 : Ent (allH (l.map fun x => orow ei x.B x.cb x.p.inv) :: G) (kno (fun w => ∀ x ∈ l, Rd w x.B x.p.inv) :: G) :=
    (ent_all_out _).trans (ent_kno_map (fun x G => ent_kno_row Split.head (ent_refl _)) l)
  have h3 : Ent (orow e A c l :: allH (l.map fun x => orow em x.A x.ca x.p.mem) :: allH (l.map fun x => orow ei x.B x.cb x.p.inv) :: G) (kno (fun w => Rd w A l) :: kno (fun w => ∀ x ∈ l, Rd w x.A x.p.mem) :: kno (fun w => ∀ x ∈ l, Rd w x.B x.p.inv) :: G) :=
    ent_kno_row Split.head (h1.trans (ent_cons Split.head h2))
  refine h3.trans ((ent_cons Split.head ent_kno_and).trans (ent_kno_and.trans (ent_kno_imp (fun w h => ⟨h.1, fun x hx => ⟨h.2.1 x hx, h.2.2 x hx⟩⟩) Split.head (ent_refl _))))
end
/-- What is read through knowledge of a hall. -/
theorem rd_thp {α : Type} [Flat α] {w0 w : World} {H R : List HP} {A B : Option Addr} {L : List PtyP} {l : List α} (h : ∀ w, RdP w A L → Rd w B l) (hw : Wd w0 H w) (hs : Split H (knp A L) R) : Rd w B l := h w (Wd.kp hw hs)
attribute [irreducible] knp
theorem rdP {p : Prop} (h : p := by first | exact rd_via (by assumption) (by assumption) | exact Wd.kp1 (by assumption) spL | exact rd_thp (by assumption) (by assumption) spL | exact Wd.rd (by assumption) spL | exact Wd.rd1 (by assumption) spL | exact Wd.rd2 (by assumption) spL) : p := h
end Go.Proofs.YtlfbcoohfnoacaaGreat

/- More operations: parts of elements, nested structures, bits, numbers that wrap. -/
namespace Go.Fw
open Go.RowKit
section
variable {md : Md} {P : Program} {n : Nat} {Q : HQ} {f : Fr} {w0 : World} {H R : List HP} {ops : Array Oper} {rest : List Oper} {d : Nat} {op : Op} {ty : TypeId} {pos : String} {aft : Array Edge} {v : Value} {x y c : Operand}
/-! parts -/
theorem take_drop_get {α : Type} {l m : List α} {off sz j : Nat} {u : α} (h : (l.drop off).take sz = m) (hj : m[j]? = some u) : l[off + j]? = some u := by
  rw [← h, List.getElem?_take] at hj
  split at hj
  · rwa [List.getElem?_drop] at hj
  · cases hj
/-- Part of an element is loaded. -/
theorem lrs {α : Type} [F : Flat α] {t : TypeId} {S sz off i : Nat} {z cs : List Value} {A : Option Addr} {l : List α} [TAgg P t sz z] (hx : ev n f x = .pointer (some (((adr A).add (i * S)).add off))) (hr : ∀ w, Wd w0 (vis md H) w → Rd w A l) (hS : S = F.sz) (h1 : i < l.length)
    (hc : ((F.enc (l.getD i F.dflt)).drop off).take sz = cs) (hl : cs.length = sz) (k : SH (nx md) P n ops Q rest (upd f d (.agg cs.toArray)) w0 H) : SH md P n ops Q (⟨some d, .load t x, ty, pos, aft, none⟩ :: rest) f w0 H := s_val (fun w hw => ox_loadA hx (fun j u hj => by
      subst hS
      have := (hr w hw (i * F.sz + (off + j)) u (encs_get h1 (take_drop_get hc hj))).2
      rw [add_add, add_add]
      exact this) hl) k
/-- Part of a block is loaded. -/
theorem lbs {t te : TypeId} {sz b off : Nat} {z bs cs : List Value} [TAgg P t sz z] (hx : ev n f x = .pointer (some ⟨b, off, none⟩)) (hs : Split (vis md H) (bx b te bs) R) (hc : (bs.drop off).take sz = cs) (hl : cs.length = sz)
    (k : SH (nx md) P n ops Q rest (upd f d (.agg cs.toArray)) w0 H) : SH md P n ops Q (⟨some d, .load t x, ty, pos, aft, none⟩ :: rest) f w0 H := s_val (fun w hw => ox_loadA hx (fun j u hj => by
      have := hw.cell (off := off + j) hs (take_drop_get hc hj)
      have e : (⟨b, off, none⟩ : Addr).add j = ⟨b, off + j, none⟩ := by
        by_cases hj0 : j = 0
        · subst hj0; simp [Addr.add]
        · simp [Addr.add, hj0]
      rw [e]; exact this) hl) k
/-- Part of a block is stored. -/
theorem sbs {t te : TypeId} {sz b off : Nat} {z bs cs : List Value} [h : TAgg P t sz z] (hm : addOK md = true) (hx : ev n f x = .pointer (some ⟨b, off, none⟩)) (hy : ev n f y = .agg cs.toArray) (hs : Split H (bx b te bs) R) (hl : cs.length = sz) (hone : cs.all (·.oneCell') = true) (hoff : off + cs.length ≤ bs.length)
    (hk : keeps md (bx b te (bs.take off ++ cs ++ bs.drop (off + cs.length)) :: R)) (k : SH (nx md) P n ops Q rest f w0 (bx b te (bs.take off ++ cs ++ bs.drop (off + cs.length)) :: R)) : SH md P n ops Q (⟨none, .store t x y, ty, pos, aft, none⟩ :: rest) f w0 H :=
  s_mut hm fun w hw => wl_store (cs := cs) hx rfl hy (by simp [Value.cells]) (fun w => by rw [hl]; exact h.siz w) hone (hw.box hs).1 (by simpa using hoff) fun w1 hw1 hb => wl_nil ⟨rfl, _, hk, k, hw.setBox hs hw1 (by rw [hb])⟩
/-- A structure whose fields may have several cells each. -/
class TStN (P : Program) (t : TypeId) (pl : outParam (List (Nat × Nat))) (zs : outParam (List Value)) : Prop where
  und : ∃ fs, P.underlying t = some (.struct fs) ∧ ∀ w, (fs.mapM fun (f : Field) => do pure (f.offset, ← sizeOf f.type)).run P w = .ok pl.toArray w
  zer : ∀ w, (zeroValue t).run P w = .ok (.agg zs.toArray) w
theorem ox_buildN {w : World} {t : TypeId} {pl : List (Nat × Nat)} {zs cs : List Value} {parts : List (Nat × Operand)} [h : TStN P t pl zs] (hf : Instr.fill (pl.toArray[·]?) zs.toArray (parts.map fun p => (p.1, ev n f p.2)) = some cs.toArray) : OX P n f (.build t parts.toArray) ty w (.agg cs.toArray) w := by
  intro d pos aft g
  obtain ⟨fs, hu, hm⟩ := h.und
  have hp' : (parts.toArray.map fun (p : Nat × Operand) => (p.1, ev n f p.2)).toList = parts.map fun p => (p.1, ev n f p.2) := by simp
  simp only [execOp, Instr.build, h.zer, run_underlying hu, Sem.run_bind, Sem.run_pure, Result.andThen_ok, Value.cells, hm, hp']
  rw [hf]
  simp
theorem bldN {t : TypeId} {pl : List (Nat × Nat)} {zs cs : List Value} {parts : List (Nat × Operand)} [TStN P t pl zs] (hf : Instr.fill (pl.toArray[·]?) zs.toArray (parts.map fun p => (p.1, ev n f p.2)) = some cs.toArray)
    (k : SH (nx md) P n ops Q rest (upd f d (.agg cs.toArray)) w0 H) : SH md P n ops Q (⟨some d, .build t parts.toArray, ty, pos, aft, none⟩ :: rest) f w0 H := s_val (fun w hw => ox_buildN hf) k
/-- An array value, of elements of sz cells each. -/
class TArB (P : Program) (t : TypeId) (sz : outParam Nat) (zs : outParam (List Value)) : Prop where
  und : ∃ len e, P.underlying t = some (.array len e) ∧ ∀ w, (sizeOf e).run P w = .ok sz w
  zer : ∀ w, (zeroValue t).run P w = .ok (.agg zs.toArray) w
theorem ox_buildA {w : World} {t : TypeId} {sz : Nat} {zs cs : List Value} {parts : List (Nat × Operand)} [h : TArB P t sz zs] (hf : Instr.fill (fun i => some (i * sz, sz)) zs.toArray (parts.map fun p => (p.1, ev n f p.2)) = some cs.toArray) : OX P n f (.build t parts.toArray) ty w (.agg cs.toArray) w := by
  intro d pos aft g
  obtain ⟨len, e, hu, hm⟩ := h.und
  have hp' : (parts.toArray.map fun (p : Nat × Operand) => (p.1, ev n f p.2)).toList = parts.map fun p => (p.1, ev n f p.2) := by simp
  simp only [execOp, Instr.build, h.zer, run_underlying hu, Sem.run_bind, Sem.run_pure, Result.andThen_ok, Value.cells, hm, hp']
  rw [hf]
  simp
theorem bldA {t : TypeId} {sz : Nat} {zs cs : List Value} {parts : List (Nat × Operand)} [TArB P t sz zs] (hf : Instr.fill (fun i => some (i * sz, sz)) zs.toArray (parts.map fun p => (p.1, ev n f p.2)) = some cs.toArray)
    (k : SH (nx md) P n ops Q rest (upd f d (.agg cs.toArray)) w0 H) : SH md P n ops Q (⟨some d, .build t parts.toArray, ty, pos, aft, none⟩ :: rest) f w0 H := s_val (fun w hw => ox_buildA hf) k
/-- Zero values. -/
theorem bldZ {t : TypeId} {sz : Nat} {zs : List Value} [TArB P t sz zs] (k : SH (nx md) P n ops Q rest (upd f d (.agg zs.toArray)) w0 H) : SH md P n ops Q (⟨some d, .build t #[], ty, pos, aft, none⟩ :: rest) f w0 H := bldA (parts := []) (cs := zs) (by simp [Instr.fill]) k
theorem bldZN {t : TypeId} {pl : List (Nat × Nat)} {zs : List Value} [TStN P t pl zs] (k : SH (nx md) P n ops Q rest (upd f d (.agg zs.toArray)) w0 H) : SH md P n ops Q (⟨some d, .build t #[], ty, pos, aft, none⟩ :: rest) f w0 H := bldN (parts := []) (cs := zs) (by simp [Instr.fill]) k
/-- An element of an array value: an aggregate. -/
class TIdx (P : Program) (t : TypeId) (len sz : outParam Nat) (agg : outParam Bool) : Prop where
  und : ∃ e, P.underlying t = some (.array len e) ∧ (∀ w, (sizeOf e).run P w = .ok sz w) ∧ ∀ w, (isAgg e).run P w = .ok agg w
/-! function values -/
theorem fun1_of {α : Type} {P : Program} {w : World} {g : FuncId} {arg res : α → Value} {ok : α → Prop} (h : ∀ w', Ext w w' → ∀ x, ok x → Ret P g [arg x].toArray w' (Out w' (res x))) : Fun1 P w (.func (.func g) #[] #[]) arg res ok :=
  ⟨g, #[], #[], rfl, fun w' he x hx => by have := h w' he x hx; simpa using this⟩
theorem fun1_cap {α : Type} {P : Program} {w : World} {g : FuncId} {arg res : α → Value} {ok : α → Prop} {c : Value} (h : ∀ w', Ext w w' → ∀ x, ok x → Ret P g [arg x, c].toArray w' (Out w' (res x))) : Fun1 P w (.func (.func g) #[] #[c]) arg res ok :=
  ⟨g, #[], #[c], rfl, fun w' he x hx => by have := h w' he x hx; simpa using this⟩
/-! what lies at a place that is known: a captured or a package-level variable -/
theorem rd_one {α : Type} [F : Flat α] {w : World} {a : Addr} {u : α} {j : Nat} {v : Value} (h : Rd w (some a) [u]) (hj : (F.enc u)[j]? = some v) : w.cell? (a.add j) = some v := by
  have h1 := h j v (by rw [encs_cons, encs_nil, List.append_nil]; exact hj)
  exact h1.2
theorem lca {α : Type} [F : Flat α] {t : TypeId} {sz : Nat} {z : List Value} {a : Addr} {u : α} [TAgg P t sz z] (hx : ev n f x = .pointer (some a)) (hr : ∀ w, Wd w0 (vis md H) w → Rd w (some a) [u]) (hsz : sz = F.sz)
    (k : SH (nx md) P n ops Q rest (upd f d (.agg (F.enc u).toArray)) w0 H) : SH md P n ops Q (⟨some d, .load t x, ty, pos, aft, none⟩ :: rest) f w0 H := s_val (fun w hw => ox_loadA hx (fun j v hj => rd_one (hr w hw) hj) (by rw [F.len, hsz])) k
theorem lcs {α : Type} [F : Flat α] {t : TypeId} {z : Value} {a : Addr} {u : α} [TOne P t z] (hx : ev n f x = .pointer (some a)) (hr : ∀ w, Wd w0 (vis md H) w → Rd w (some a) [u]) (hv : F.enc u = [v])
    (k : SH (nx md) P n ops Q rest (upd f d v) w0 H) : SH md P n ops Q (⟨some d, .load t x, ty, pos, aft, none⟩ :: rest) f w0 H := lcell hx (fun w hw => by
      have := rd_one (hr w hw) (j := 0) (v := v) (by rw [hv]; rfl)
      simpa [Addr.add] using this) k
theorem lcf {α : Type} [F : Flat α] {t : TypeId} {z : Value} {a : Addr} {off : Nat} {u : α} [TOne P t z] (hx : ev n f x = .pointer (some (a.add off))) (hr : ∀ w, Wd w0 (vis md H) w → Rd w (some a) [u]) (hv : (F.enc u)[off]? = some v)
    (k : SH (nx md) P n ops Q rest (upd f d v) w0 H) : SH md P n ops Q (⟨some d, .load t x, ty, pos, aft, none⟩ :: rest) f w0 H := lcell hx (fun w hw => rd_one (hr w hw) hv) k
/-- What a block of one's own reads as. -/
theorem rd_box {α : Type} [F : Flat α] {w : World} {b : Nat} {t : TypeId} {cs : List Value} {u : α} (hw : Wd w0 H w) (hs : Split H (bx b t cs) R) (hc : cs = F.enc u) : Rd w (some ⟨b, 0, none⟩) [u] := fun j v hj => by
  rw [encs_cons, encs_nil, List.append_nil, ← hc] at hj
  have := hw.cell (off := j) hs hj
  refine ⟨rfl, ?_⟩
  have e : (adr (some (⟨b, 0, none⟩ : Addr))).add j = ⟨b, j, none⟩ := by
    show (⟨b, 0, none⟩ : Addr).add j = _
    by_cases hj0 : j = 0
    · subst hj0; simp [Addr.add]
    · simp [Addr.add, hj0]
  rw [e]; exact this
/-! numbers -/
theorem addw {K : IntKind} {a b : Int} {t1 t2 : TypeId} (hx : ev n f x = .int K a) (hy : ev n f y = .int K b) (r : Int) (hr : K.wrap (a + b) = r) (k : SH (nx md) P n ops Q rest (upd f d (.int K r)) w0 H) : SH md P n ops Q (⟨some d, .binOp .add t1 x y t2, ty, pos, aft, none⟩ :: rest) f w0 H := s_val (fun w hw => by
  intro d pos aft g; subst hr; simp [execOp, hx, hy, eqGuard, binOp, Op.intArith]) k
theorem mulw {K : IntKind} {a b : Int} {t1 t2 : TypeId} (hx : ev n f x = .int K a) (hy : ev n f y = .int K b) (r : Int) (hr : K.wrap (a * b) = r) (k : SH (nx md) P n ops Q rest (upd f d (.int K r)) w0 H) : SH md P n ops Q (⟨some d, .binOp .mul t1 x y t2, ty, pos, aft, none⟩ :: rest) f w0 H := s_val (fun w hw => by
  intro d pos aft g; subst hr; simp [execOp, hx, hy, eqGuard, binOp, Op.intArith]) k
theorem shrw {K kk : IntKind} {a b : Int} {t1 t2 : TypeId} (hx : ev n f x = .int K a) (hy : ev n f y = .int kk b) (h0 : 0 ≤ b) (r : Int) (hr : a.fdiv (2 ^ (min b.toNat K.bits)) = r) (k : SH (nx md) P n ops Q rest (upd f d (.int K r)) w0 H) : SH md P n ops Q (⟨some d, .binOp .shr t1 x y t2, ty, pos, aft, none⟩ :: rest) f w0 H := s_val (fun w hw => by
  subst hr; exact ox_shr hx hy h0) k
def bandK (K : IntKind) (a b : Int) : Int := K.wrap (BitVec.ofInt K.bits a &&& BitVec.ofInt K.bits b).toNat
theorem andw {K : IntKind} {a b : Int} {t1 t2 : TypeId} (hx : ev n f x = .int K a) (hy : ev n f y = .int K b) (r : Int) (hr : bandK K a b = r) (k : SH (nx md) P n ops Q rest (upd f d (.int K r)) w0 H) : SH md P n ops Q (⟨some d, .binOp .and t1 x y t2, ty, pos, aft, none⟩ :: rest) f w0 H := s_val (fun w hw => by
  intro d pos aft g; subst hr; simp [execOp, hx, hy, eqGuard, binOp, Op.intBits, bandK]) k
/-- An array that lies anywhere is indexed. -/
theorem ixA {t e : TypeId} {len sz : Nat} {a : Addr} {K : IntKind} {i : Int} (j : Nat) [TArr P t len e sz] (hx : ev n f x = .pointer (some a)) (hy : ev n f y = .int K i) (hj : i = (j : Int)) (h1 : j < len) (k : SH (nx md) P n ops Q rest (upd f d (.pointer (some (a.add (j * sz))))) w0 H) :
    SH md P n ops Q (⟨some d, .indexAddr t x y, ty, pos, aft, none⟩ :: rest) f w0 H := s_val (fun w hw => by
      subst hj
      have := ox_indexArr (P := P) (t := t) (w := w) (ty := ty) hx hy (Int.natCast_nonneg _) (Int.ofNat_lt.2 h1)
      rwa [Int.toNat_natCast] at this) k
end
section
variable {P : Program} {n : Nat} {Q : HQ} {f : Fr} {w0 : World} {H H' : List HP} {fn : Func} {R : Value → List HP → Prop} {v1 v2 v3 : Value}
end
end Go.Fw

/- The types of parties (printed by gen_tp36.py). -/
namespace Go.Proofs.YtlfbcoohfnoacaaGreat
open Go.Fw Go.RowKit
instance : TMap Tryz.prog 58 := ⟨⟨3, 3, by kernel_rfl, by kernel_rfl, fun w => by kernel_rfl⟩⟩
instance : TOne Tryz.prog 58 (.map none) := ⟨fun w => by kernel_rfl, fun w => by kernel_rfl, fun w => by kernel_rfl, rfl⟩
instance : TOne Tryz.prog 92 .nilFunc := ⟨fun w => by kernel_rfl, fun w => by kernel_rfl, fun w => by kernel_rfl, rfl⟩
instance : TOne Tryz.prog 90 .nilFunc := ⟨fun w => by kernel_rfl, fun w => by kernel_rfl, fun w => by kernel_rfl, rfl⟩
instance : TOne Tryz.prog 86 .nilFunc := ⟨fun w => by kernel_rfl, fun w => by kernel_rfl, fun w => by kernel_rfl, rfl⟩
instance : TOne Tryz.prog 106 .nilFunc := ⟨fun w => by kernel_rfl, fun w => by kernel_rfl, fun w => by kernel_rfl, rfl⟩
instance : TOne Tryz.prog 94 .nilFunc := ⟨fun w => by kernel_rfl, fun w => by kernel_rfl, fun w => by kernel_rfl, rfl⟩
instance : TAgg Tryz.prog 61 2 [.int .i64 0, .int .i64 0] := ⟨fun w => by kernel_rfl, fun w => by kernel_rfl, fun w => by kernel_rfl⟩
instance : TSt Tryz.prog 61 2 [.int .i64 0, .int .i64 0] := tst_of Tryz.underlying61 (fun w => by kernel_rfl) (fun w => by kernel_rfl) rfl
instance : TFld Tryz.prog 61 0 0 := tfld_of 0 Tryz.underlying61 rfl rfl (fun w => by kernel_rfl)
instance : TFlv Tryz.prog 61 0 0 := tflv_of Tryz.underlying61 rfl rfl (fun w => by kernel_rfl)
instance : TFld Tryz.prog 61 1 1 := tfld_of 0 Tryz.underlying61 rfl rfl (fun w => by kernel_rfl)
instance : TFlv Tryz.prog 61 1 1 := tflv_of Tryz.underlying61 rfl rfl (fun w => by kernel_rfl)
instance : TSl Tryz.prog 44 61 2 16 := ⟨by kernel_rfl, by kernel_rfl⟩
instance : TEl Tryz.prog 61 2 16 := tel_of (z := .agg #[.int .i64 0, .int .i64 0]) (by kernel_rfl) rfl (by omega)
instance : TOne Tryz.prog 44 (.slice none 0 0) := ⟨fun w => by kernel_rfl, fun w => by kernel_rfl, fun w => by kernel_rfl, rfl⟩
instance : TAgg Tryz.prog 46 4 [.int .i64 0, .int .i64 0, .slice none 0 0, .slice none 0 0] := ⟨fun w => by kernel_rfl, fun w => by kernel_rfl, fun w => by kernel_rfl⟩
instance : TSt Tryz.prog 46 4 [.int .i64 0, .int .i64 0, .slice none 0 0, .slice none 0 0] := tst_of Tryz.underlying46 (fun w => by kernel_rfl) (fun w => by kernel_rfl) rfl
instance : TFld Tryz.prog 46 0 0 := tfld_of 0 Tryz.underlying46 rfl rfl (fun w => by kernel_rfl)
instance : TFlv Tryz.prog 46 0 0 := tflv_of Tryz.underlying46 rfl rfl (fun w => by kernel_rfl)
instance : TFld Tryz.prog 46 1 1 := tfld_of 0 Tryz.underlying46 rfl rfl (fun w => by kernel_rfl)
instance : TFlv Tryz.prog 46 1 1 := tflv_of Tryz.underlying46 rfl rfl (fun w => by kernel_rfl)
instance : TFld Tryz.prog 46 2 2 := tfld_of 0 Tryz.underlying46 rfl rfl (fun w => by kernel_rfl)
instance : TFlv Tryz.prog 46 2 2 := tflv_of Tryz.underlying46 rfl rfl (fun w => by kernel_rfl)
instance : TFld Tryz.prog 46 3 3 := tfld_of 0 Tryz.underlying46 rfl rfl (fun w => by kernel_rfl)
instance : TFlv Tryz.prog 46 3 3 := tflv_of Tryz.underlying46 rfl rfl (fun w => by kernel_rfl)
instance : TSl Tryz.prog 22 46 4 64 := ⟨by kernel_rfl, by kernel_rfl⟩
instance : TEl Tryz.prog 46 4 64 := tel_of (z := .agg #[.int .i64 0, .int .i64 0, .slice none 0 0, .slice none 0 0]) (by kernel_rfl) rfl (by omega)
instance : TOne Tryz.prog 22 (.slice none 0 0) := ⟨fun w => by kernel_rfl, fun w => by kernel_rfl, fun w => by kernel_rfl, rfl⟩
instance : TAgg Tryz.prog 24 3 [.int .i64 0, .int .i64 0, .slice none 0 0] := ⟨fun w => by kernel_rfl, fun w => by kernel_rfl, fun w => by kernel_rfl⟩
instance : TSt Tryz.prog 24 3 [.int .i64 0, .int .i64 0, .slice none 0 0] := tst_of Tryz.underlying24 (fun w => by kernel_rfl) (fun w => by kernel_rfl) rfl
instance : TFld Tryz.prog 24 0 0 := tfld_of 0 Tryz.underlying24 rfl rfl (fun w => by kernel_rfl)
instance : TFlv Tryz.prog 24 0 0 := tflv_of Tryz.underlying24 rfl rfl (fun w => by kernel_rfl)
instance : TFld Tryz.prog 24 1 1 := tfld_of 0 Tryz.underlying24 rfl rfl (fun w => by kernel_rfl)
instance : TFlv Tryz.prog 24 1 1 := tflv_of Tryz.underlying24 rfl rfl (fun w => by kernel_rfl)
instance : TFld Tryz.prog 24 2 2 := tfld_of 0 Tryz.underlying24 rfl rfl (fun w => by kernel_rfl)
instance : TFlv Tryz.prog 24 2 2 := tflv_of Tryz.underlying24 rfl rfl (fun w => by kernel_rfl)
instance : TAgg Tryz.prog 40 2 [.int .i64 0, .int .i64 0] := ⟨fun w => by kernel_rfl, fun w => by kernel_rfl, fun w => by kernel_rfl⟩
instance : TSt Tryz.prog 40 2 [.int .i64 0, .int .i64 0] := tst_of Tryz.underlying40 (fun w => by kernel_rfl) (fun w => by kernel_rfl) rfl
instance : TFld Tryz.prog 40 0 0 := tfld_of 0 Tryz.underlying40 rfl rfl (fun w => by kernel_rfl)
instance : TFlv Tryz.prog 40 0 0 := tflv_of Tryz.underlying40 rfl rfl (fun w => by kernel_rfl)
instance : TFld Tryz.prog 40 1 1 := tfld_of 0 Tryz.underlying40 rfl rfl (fun w => by kernel_rfl)
instance : TFlv Tryz.prog 40 1 1 := tflv_of Tryz.underlying40 rfl rfl (fun w => by kernel_rfl)
instance : TSl Tryz.prog 41 40 2 16 := ⟨by kernel_rfl, by kernel_rfl⟩
instance : TEl Tryz.prog 40 2 16 := tel_of (z := .agg #[.int .i64 0, .int .i64 0]) (by kernel_rfl) rfl (by omega)
instance : TOne Tryz.prog 41 (.slice none 0 0) := ⟨fun w => by kernel_rfl, fun w => by kernel_rfl, fun w => by kernel_rfl, rfl⟩
instance : TAgg Tryz.prog 43 4 [.int .i64 0, .int .i64 0, .slice none 0 0, .slice none 0 0] := ⟨fun w => by kernel_rfl, fun w => by kernel_rfl, fun w => by kernel_rfl⟩
instance : TSt Tryz.prog 43 4 [.int .i64 0, .int .i64 0, .slice none 0 0, .slice none 0 0] := tst_of Tryz.underlying43 (fun w => by kernel_rfl) (fun w => by kernel_rfl) rfl
instance : TFld Tryz.prog 43 0 0 := tfld_of 0 Tryz.underlying43 rfl rfl (fun w => by kernel_rfl)
instance : TFlv Tryz.prog 43 0 0 := tflv_of Tryz.underlying43 rfl rfl (fun w => by kernel_rfl)
instance : TFld Tryz.prog 43 1 1 := tfld_of 0 Tryz.underlying43 rfl rfl (fun w => by kernel_rfl)
instance : TFlv Tryz.prog 43 1 1 := tflv_of Tryz.underlying43 rfl rfl (fun w => by kernel_rfl)
instance : TFld Tryz.prog 43 2 2 := tfld_of 0 Tryz.underlying43 rfl rfl (fun w => by kernel_rfl)
instance : TFlv Tryz.prog 43 2 2 := tflv_of Tryz.underlying43 rfl rfl (fun w => by kernel_rfl)
instance : TFld Tryz.prog 43 3 3 := tfld_of 0 Tryz.underlying43 rfl rfl (fun w => by kernel_rfl)
instance : TFlv Tryz.prog 43 3 3 := tflv_of Tryz.underlying43 rfl rfl (fun w => by kernel_rfl)
instance : TSl Tryz.prog 28 43 4 64 := ⟨by kernel_rfl, by kernel_rfl⟩
instance : TEl Tryz.prog 43 4 64 := tel_of (z := .agg #[.int .i64 0, .int .i64 0, .slice none 0 0, .slice none 0 0]) (by kernel_rfl) rfl (by omega)
instance : TOne Tryz.prog 28 (.slice none 0 0) := ⟨fun w => by kernel_rfl, fun w => by kernel_rfl, fun w => by kernel_rfl, rfl⟩
instance : TAgg Tryz.prog 30 3 [.int .i64 0, .int .i64 0, .slice none 0 0] := ⟨fun w => by kernel_rfl, fun w => by kernel_rfl, fun w => by kernel_rfl⟩
instance : TSt Tryz.prog 30 3 [.int .i64 0, .int .i64 0, .slice none 0 0] := tst_of Tryz.underlying30 (fun w => by kernel_rfl) (fun w => by kernel_rfl) rfl
instance : TFld Tryz.prog 30 0 0 := tfld_of 0 Tryz.underlying30 rfl rfl (fun w => by kernel_rfl)
instance : TFlv Tryz.prog 30 0 0 := tflv_of Tryz.underlying30 rfl rfl (fun w => by kernel_rfl)
instance : TFld Tryz.prog 30 1 1 := tfld_of 0 Tryz.underlying30 rfl rfl (fun w => by kernel_rfl)
instance : TFlv Tryz.prog 30 1 1 := tflv_of Tryz.underlying30 rfl rfl (fun w => by kernel_rfl)
instance : TFld Tryz.prog 30 2 2 := tfld_of 0 Tryz.underlying30 rfl rfl (fun w => by kernel_rfl)
instance : TFlv Tryz.prog 30 2 2 := tflv_of Tryz.underlying30 rfl rfl (fun w => by kernel_rfl)
instance : TAgg Tryz.prog 36 3 [.int .i64 0, .int .i64 0, .int .i64 0] := ⟨fun w => by kernel_rfl, fun w => by kernel_rfl, fun w => by kernel_rfl⟩
instance : TSt Tryz.prog 36 3 [.int .i64 0, .int .i64 0, .int .i64 0] := tst_of Tryz.underlying36 (fun w => by kernel_rfl) (fun w => by kernel_rfl) rfl
instance : TFld Tryz.prog 36 0 0 := tfld_of 0 Tryz.underlying36 rfl rfl (fun w => by kernel_rfl)
instance : TFlv Tryz.prog 36 0 0 := tflv_of Tryz.underlying36 rfl rfl (fun w => by kernel_rfl)
instance : TFld Tryz.prog 36 1 1 := tfld_of 0 Tryz.underlying36 rfl rfl (fun w => by kernel_rfl)
instance : TFlv Tryz.prog 36 1 1 := tflv_of Tryz.underlying36 rfl rfl (fun w => by kernel_rfl)
instance : TFld Tryz.prog 36 2 2 := tfld_of 0 Tryz.underlying36 rfl rfl (fun w => by kernel_rfl)
instance : TFlv Tryz.prog 36 2 2 := tflv_of Tryz.underlying36 rfl rfl (fun w => by kernel_rfl)
instance : TSl Tryz.prog 25 36 3 24 := ⟨by kernel_rfl, by kernel_rfl⟩
instance : TEl Tryz.prog 36 3 24 := tel_of (z := .agg #[.int .i64 0, .int .i64 0, .int .i64 0]) (by kernel_rfl) rfl (by omega)
instance : TOne Tryz.prog 25 (.slice none 0 0) := ⟨fun w => by kernel_rfl, fun w => by kernel_rfl, fun w => by kernel_rfl, rfl⟩
instance : TCmp Tryz.prog 61 Inv := ⟨by kernel_rfl, fun x y w => by
  rw [show (10000 : Nat) = 9999 + 1 from rfl, run_equalIn_agg w 9999 _ _ _ (by kernel_rfl) (by kernel_rfl)]
  have ha : ∀ w, (isAgg 3).run Tryz.prog w = .ok false w := fun w => by kernel_rfl
  simp only [Program.fieldsOf, Tryz.underlying61, Op.eqFields, part, ha, Sem.run_bind, Result.andThen_ok]
  obtain ⟨a0, a1⟩ := x
  obtain ⟨b0, b1⟩ := y
  by_cases h0 : a0 = b0
  case neg => simp [Flat.enc, ha, run_equalIn_int w 9998 _ .i64 .i64 _ _ Tryz.underlying3, h0]
  by_cases h1 : a1 = b1
  case neg => simp [Flat.enc, ha, run_equalIn_int w 9998 _ .i64 .i64 _ _ Tryz.underlying3, h1]
  simp [Flat.enc, ha, run_equalIn_int w 9998 _ .i64 .i64 _ _ Tryz.underlying3, h0, h1]⟩
end Go.Proofs.YtlfbcoohfnoacaaGreat

/- What is read through knowledge of a world. -/
namespace Go.Fw
open Go.RowKit
section
variable {w0 w : World} {H R : List HP} {A B : Option Addr} {L : List EntP} {α : Type} [Flat α] {l : List α}
theorem rd_thk {Φ : World → Prop} (h : ∀ w, Φ w → Rd w B l) (hw : Wd w0 H w) (hs : Split H (kno Φ) R) : Rd w B l := h w (hw.kn hs)
end
section
variable {H G : List HP} {e ec : TypeId} {A : Option Addr} {c k : Nat} {l : List EntP} {y : EntP}
end
end Go.Fw

/- Elements are loaded, of which it is known what they are. -/
namespace Go.Fw
open Go.RowKit
section
variable {md : Md} {P : Program} {n : Nat} {Q : HQ} {f : Fr} {w0 : World} {H R : List HP} {ops : Array Oper} {rest : List Oper} {d : Nat} {op : Op} {ty : TypeId} {pos : String} {aft : Array Edge} {v : Value} {x y : Operand}
theorem lrg {α : Type} [F : Flat α] {t : TypeId} {z : Value} {sz off : Nat} {A : Option Addr} {i : Nat} {l : List α} {cs : List Value} [TOne P t z] (hx : ev n f x = .pointer (some (((adr A).add (i * sz)).add off))) (hr : ∀ w, Wd w0 (vis md H) w → Rd w A l) (hsz : sz = F.sz) (h1 : i < l.length) (hg : F.enc (l.getD i F.dflt) = cs) (hv : cs[off]? = some v)
    (k : SH (nx md) P n ops Q rest (upd f d v) w0 H) : SH md P n ops Q (⟨some d, .load t x, ty, pos, aft, none⟩ :: rest) f w0 H := lrf hx hr hsz h1 (by rw [hg]; exact hv) k
theorem lag {α : Type} [F : Flat α] {t : TypeId} {sz : Nat} {z : List Value} {A : Option Addr} {i : Nat} {l : List α} {cs : List Value} [TAgg P t sz z] (hx : ev n f x = .pointer (some ((adr A).add (i * sz)))) (hr : ∀ w, Wd w0 (vis md H) w → Rd w A l) (hsz : sz = F.sz) (h1 : i < l.length) (hg : F.enc (l.getD i F.dflt) = cs)
    (k : SH (nx md) P n ops Q rest (upd f d (.agg cs.toArray)) w0 H) : SH md P n ops Q (⟨some d, .load t x, ty, pos, aft, none⟩ :: rest) f w0 H := lra hx hr hsz h1 (by rw [hg]; exact k)
theorem lgi {t : TypeId} {z : Value} {A : Option Addr} {i : Nat} {l : List Int} {u : Int} [TOne P t z] (hx : ev n f x = .pointer (some ((adr A).add (i * 1)))) (hr : ∀ w, Wd w0 (vis md H) w → Rd w A l) (h1 : i < l.length) (hg : l.getD i 0 = u)
    (k : SH (nx md) P n ops Q rest (upd f d (.int .i64 u)) w0 H) : SH md P n ops Q (⟨some d, .load t x, ty, pos, aft, none⟩ :: rest) f w0 H := lin hx hr h1 (by rw [hg]; exact k)
end
end Go.Fw

/- Lists, for the functions of package slices. Plain Lean. -/
namespace Go.Proofs.YtlfbcoohfnoacaaGreat
open Go.Fw Go.RowKit
theorem idxFrom_spec {α : Type} (p : α → Bool) : ∀ (l : List α) (k : Int), idxFrom p k l = -1 ∧ l.any p = false ∨ ∃ i : Nat, i < l.length ∧ idxFrom p k l = k + i ∧ (l.take (i + 1)).filter (fun x => !p x) = l.take i
  | [], k => .inl ⟨rfl, rfl⟩
  | x :: l, k => by
    by_cases h : p x
    · exact .inr ⟨0, by simp, by simp [idxFrom, h], by simp [h]⟩
    · have h' : p x = false := by simpa using h
      rcases idxFrom_spec p l (k + 1) with ⟨h1, h2⟩ | ⟨i, h1, h2, h3⟩
      · exact .inl ⟨by simp only [idxFrom, h', h1]; simp, by simp [h', h2]⟩
      · refine .inr ⟨i + 1, by simp; omega, by simp only [idxFrom, h']; simp [h2]; omega, ?_⟩
        rw [List.take_succ_cons, List.filter_cons]
        simp only [h', Bool.not_false, if_true, h3, List.take_succ_cons]
theorem filter_none {α : Type} (p : α → Bool) (l : List α) (h : l.any p = false) : l.filter (fun x => !p x) = l := by
  rw [List.filter_eq_self]
  intro x hx
  have := List.any_eq_false.1 h x hx
  simpa using this
theorem take_set_self {α : Type} (L : List α) (i : Nat) (v : α) (h : i < L.length) : (L.set i v).take (i + 1) = L.take i ++ [v] := by
  rw [List.set_eq_take_append_cons_drop, if_pos h, List.take_append, List.length_take]
  have : min i L.length = i := by omega
  rw [this, List.take_of_length_le (by rw [List.length_take]; omega)]
  simp
theorem drop_set_later {α : Type} (L : List α) (i j : Nat) (v : α) (h : i < j) : (L.set i v).drop j = L.drop j := by
  rw [List.drop_set]; simp [h]
theorem getD_of_drop {α : Type} {L l : List α} {j : Nat} (d : α) (h : L.drop j = l.drop j) (hl : L.length = l.length) : L.getD j d = l.getD j d := by
  by_cases hj : j < l.length
  · have h1 := drop_cons (d := d) (l := L) (k := j) (by omega)
    have h2 := drop_cons (d := d) (l := l) (k := j) hj
    rw [h, h2] at h1
    injection h1 with h1 _
    exact h1.symm
  · simp [List.getElem?_eq_none (show l.length ≤ j by omega), List.getElem?_eq_none (show L.length ≤ j by omega)]
theorem drop_next {α : Type} {L l : List α} {j : Nat} (h : L.drop j = l.drop j) : L.drop (j + 1) = l.drop (j + 1) := by
  have := congrArg (List.drop 1) h
  simpa [List.drop_drop, Nat.add_comm] using this
end Go.Proofs.YtlfbcoohfnoacaaGreat

/- Rules for slices.Insert and slices.Delete: appends into one's own row, copies, rows with room, appends of zeros. -/
namespace Go.Fw
open Go.RowKit
section
variable {P : Program} {n : Nat} {f : Fr} {w w0 : World} {ops : Array Oper} {rest : List Oper} {d : Nat} {ty : TypeId} {pos : String} {aft : Array Edge} {v : Value} {x y : Operand} {md : Md} {Q : HQ} {H R : List HP}
theorem wl_appIn {Q' : Exit → Fr → World → Prop} {t e : TypeId} {sz by_ : Nat} {cs news : List Value} {base : Nat} {A B : Option Addr} {m cp i kk c2 : Nat} [ht : TSl P t e sz by_] (hp : 0 < sz) (ho : Go.Fw.Own w base e sz A m cp cs)
    (hsrc : Src w B news) (hx : ev n f x = .slice A i cp) (hy : ev n f y = .slice B kk c2) (hl : news.length = kk * sz) (h1 : ∀ u ∈ news, u.oneCell' = true) (hik : i + kk ≤ m) (hm : m ≠ 0)
    (k : ∀ w1, Go.Fw.Own w1 base e sz A m cp (cs.take (i * sz) ++ news ++ cs.drop (i * sz + kk * sz)) → w.grownBy w1 (blk A) → WL P n ops Q' rest (upd f d (.slice A (i + kk) cp)) w1) :
    WL P n ops Q' (⟨some d, .call { callee := .builtin .append, args := #[x, y], argTypes := #[t, t] }, ty, pos, aft, none⟩ :: rest) f w := by
  obtain ⟨g, cur, rfl, hg, hh, hc1, hc2, hc3, hc4⟩ := own_some ho (by omega)
  have hsz : ∀ w, (sizeOf e).run P w = .ok sz w := slice_size (P := P) (t := t)
  have hikm : i * sz + kk * sz ≤ m * sz := by rw [← Nat.add_mul]; exact Nat.mul_le_mul_right _ hik
  have hmc : m * sz ≤ cp * sz := Nat.mul_le_mul_right _ hc1
  have hst := run_storeCells_at P g (i * sz) e news 0 cur w hh (by rw [hl, hc3]; omega) h1
  have hload : (Builtin.firstCells sz kk (.slice B kk c2)).run P w = .ok news.toArray w := by
    cases B with
    | none =>
      have : news = [] := by
        cases news with
        | nil => rfl
        | cons u us => exact absurd (hsrc 0 u rfl).1 (by simp)
      subst this
      exact run_firstCells_none w sz kk kk c2
    | some b => exact run_firstCells_some w sz kk b kk c2 news hl fun j u hj => (hsrc j u hj).2
  refine wl_val (v := .slice (some ⟨g, 0, none⟩) (i + kk) cp) (w' := w.setRow g (cur.toList.take (i * sz) ++ news ++ cur.toList.drop (i * sz + news.length)).toArray) ?_ (k _ ?_ ?_)
  · intro d pos aft gg
    simp only [Nat.add_zero] at hst
    simp [execOp, resolve, invoke, builtin, Builtin.append_, hx, hy, run_underlying ht.und, hsz, Builtin.lenOf, show i + kk ≤ cp by omega, hload, Addr.add_lit]
    simp at hst
    rw [hst]
    simp
  · have hlen := ho.1
    refine ⟨by simp only [List.length_append, List.length_take, List.length_drop, hl, hlen]; omega, .inr ⟨g, cp, _, rfl, hg, setRow_heap w g cur _ e _ hh, by omega, hc2, ?_, ?_⟩⟩
    · simp only [List.size_toArray, List.length_append, List.length_take, List.length_drop, hl, Array.length_toList, hc3]; omega
    · have hcl : cur.toList.length = cp * sz := by rw [Array.length_toList, hc3]
      rw [← hc4, List.take_take, Nat.min_eq_left (by omega), hl, List.drop_take, List.append_assoc, List.append_assoc]
      show ((cur.toList.take (i * sz) ++ (news ++ cur.toList.drop (i * sz + kk * sz))).take (m * sz)) = _
      rw [List.take_append, List.take_append, List.length_take, hcl, Nat.min_eq_left (by omega), hl, List.take_of_length_le (by rw [List.length_take]; omega), List.take_of_length_le (l := news) (by omega)]
      congr 3
      omega
  · simpa [blk] using (Wrt.mk' w g _).grown
theorem appIn {α : Type} [F : Flat α] {t e : TypeId} {sz by_ : Nat} {A B : Option Addr} {cp i j kk c2 : Nat} {L : List α} [TSl P t e sz by_] (hsz : sz = F.sz) (hm : addOK md = true) (hx : ev n f x = .slice A i cp) (hy : ev n f y = .slice B kk c2) (hs : Split H (orow e A cp L) R)
    (hB : ∀ w, Wd w0 H w → Rd w B (L.drop j)) (hkk : kk = L.length - j) (hij : i ≤ j) (hj : j ≤ L.length) (hne : 0 < L.length)
    (hk : keeps md (orow e A cp (L.take i ++ L.drop j ++ L.drop (i + kk)) :: R)) (k : SH (nx md) P n ops Q rest (upd f d (.slice A (i + kk) cp)) w0 (orow e A cp (L.take i ++ L.drop j ++ L.drop (i + kk)) :: R)) :
    SH md P n ops Q (⟨some d, .call { callee := .builtin .append, args := #[x, y], argTypes := #[t, t] }, ty, pos, aft, none⟩ :: rest) f w0 H := by
  subst hsz
  have hlen : (L.take i ++ L.drop j ++ L.drop (i + kk)).length = L.length := by
    simp only [List.length_append, List.length_take, List.length_drop]; omega
  refine s_mut hm fun w hw => wl_appIn F.pos (hw.own hs) (hB w hw) hx hy (by rw [encs_len, List.length_drop, hkk]) (encs_one _) (by omega) (by omega) fun w1 ho1 hg => wl_nil ⟨rfl, _, hk, k, hw.row hs hg ?_ (fun k hk => .inl hk)⟩
  rw [encs_take, ← Nat.add_mul, encs_drop, ← encs_append, ← encs_append] at ho1
  rw [hlen]; exact ho1
theorem ox_slice_lh {t e : TypeId} {sz by_ : Nat} {A : Option Addr} {m cp : Nat} {k k2 : IntKind} {lo hi : Int} {y2 : Operand} [h : TSl P t e sz by_] (hx : ev n f x = .slice A m cp) (hy : ev n f y = .int k lo) (hz : ev n f y2 = .int k2 hi) (h0 : 0 ≤ lo) (h1 : lo ≤ hi) (h2 : hi ≤ cp) :
    OX P n f (.slice t x (some y) (some y2) none) ty w (.slice (if cp = lo.toNat then A else A.map (·.add (lo.toNat * sz))) (hi.toNat - lo.toNat) (cp - lo.toNat)) w := by
  intro d pos aft g
  have hsz := slice_size (P := P) (t := t) (e := e)
  simp [execOp, not_array h, Instr.slice, hx, hy, hz, run_underlying h.und, Instr.sliceBounds, Instr.sliceBound, asIntOf, h0, h1, h2, hsz, show 0 ≤ hi by omega, show max hi 0 = hi by omega, show ¬ hi < lo by omega]
theorem ox_slice_lhm {t e : TypeId} {sz by_ : Nat} {A : Option Addr} {m cp : Nat} {k k2 k3 : IntKind} {lo hi mx : Int} {y2 y3 : Operand} [h : TSl P t e sz by_] (hx : ev n f x = .slice A m cp) (hy : ev n f y = .int k lo) (hz : ev n f y2 = .int k2 hi) (hz3 : ev n f y3 = .int k3 mx) (h0 : 0 ≤ lo) (h1 : lo ≤ hi) (h2 : hi ≤ mx) (h3 : mx ≤ cp) :
    OX P n f (.slice t x (some y) (some y2) (some y3)) ty w (.slice (if mx.toNat = lo.toNat then A else A.map (·.add (lo.toNat * sz))) (hi.toNat - lo.toNat) (mx.toNat - lo.toNat)) w := by
  intro d pos aft g
  have hsz := slice_size (P := P) (t := t) (e := e)
  simp [execOp, not_array h, Instr.slice, hx, hy, hz, hz3, run_underlying h.und, Instr.sliceBounds, Instr.sliceBound, asIntOf, h0, h1, h2, h3, hsz, show 0 ≤ hi by omega, show 0 ≤ mx by omega, show max mx 0 = mx by omega, show max hi 0 = hi by omega, show ¬ mx < hi by omega, show ¬ hi < lo by omega]
theorem sl2 {t e : TypeId} {sz by_ : Nat} {A : Option Addr} {m cp : Nat} {K K2 : IntKind} {lo hi : Int} {y2 : Operand} [TSl P t e sz by_] (hx : ev n f x = .slice A m cp) (hy : ev n f y = .int K lo) (hz : ev n f y2 = .int K2 hi) (h0 : 0 ≤ lo) (h1 : lo ≤ hi) (h2 : hi ≤ cp)
    (k : SH (nx md) P n ops Q rest (upd f d (.slice (if cp = lo.toNat then A else A.map (·.add (lo.toNat * sz))) (hi.toNat - lo.toNat) (cp - lo.toNat))) w0 H) : SH md P n ops Q (⟨some d, .slice t x (some y) (some y2) none, ty, pos, aft, none⟩ :: rest) f w0 H := s_val (fun _ _ => ox_slice_lh hx hy hz h0 h1 h2) k
theorem sl3 {t e : TypeId} {sz by_ : Nat} {A : Option Addr} {m cp : Nat} {K K2 K3 : IntKind} {lo hi mx : Int} {y2 y3 : Operand} [TSl P t e sz by_] (hx : ev n f x = .slice A m cp) (hy : ev n f y = .int K lo) (hz : ev n f y2 = .int K2 hi) (hz3 : ev n f y3 = .int K3 mx) (h0 : 0 ≤ lo) (h1 : lo ≤ hi) (h2 : hi ≤ mx) (h3 : mx ≤ cp)
    (k : SH (nx md) P n ops Q rest (upd f d (.slice (if mx.toNat = lo.toNat then A else A.map (·.add (lo.toNat * sz))) (hi.toNat - lo.toNat) (mx.toNat - lo.toNat))) w0 H) : SH md P n ops Q (⟨some d, .slice t x (some y) (some y2) (some y3), ty, pos, aft, none⟩ :: rest) f w0 H := s_val (fun _ _ => ox_slice_lhm hx hy hz hz3 h0 h1 h2 h3) k
end

section
variable {w w0 : World} {H R : List HP} {e : TypeId} {sz : Nat} {A : Option Addr} {m cp : Nat} {cs vs : List Value}
theorem Src.drop (h : Src w A cs) (k : Nat) : Src w (A.map (·.add k)) (cs.drop k) := fun j u hj => by
  rw [List.getElem?_drop] at hj
  obtain ⟨h1, h2⟩ := h _ u hj
  rw [h1]
  refine ⟨rfl, ?_⟩
  show w.cell? (((adr A).add k).add j) = _
  rw [add_add]; exact h2
theorem Src.take (h : Src w A cs) (k : Nat) : Src w A (cs.take k) := fun j u hj => by
  rw [List.getElem?_take] at hj
  split at hj
  · exact h j u hj
  · cases hj
theorem Wd.src (h : Wd w0 H w) (hs : Split H (Go.Fw.row e sz A m cp cs) R) : Src w A cs := src_own (h.own hs)
end
section
variable {P : Program} {n : Nat} {f : Fr} {w w0 : World} {ops : Array Oper} {rest : List Oper} {d : Nat} {ty : TypeId} {pos : String} {aft : Array Edge} {v : Value} {x y : Operand} {md : Md} {Q : HQ} {H R : List HP}
theorem wl_copy {Q' : Exit → Fr → World → Prop} {t t2 e : TypeId} {sz by_ : Nat} {cs vs : List Value} {base : Nat} {A B D : Option Addr} {m cp o dLen dCap sLen sCap kk : Nat} [ht : TSl P t e sz by_] (ho : Go.Fw.Own w base e sz A m cp cs)
    (hsrc : Src w B vs) (hx : ev n f x = .slice D dLen dCap) (hy : ev n f y = .slice B sLen sCap) (hD : D = A.map (·.add (o * sz))) (hkk : min sLen dLen = kk) (hl : vs.length = kk * sz) (h1 : ∀ u ∈ vs, u.oneCell' = true) (hik : o + kk ≤ m) (hm : m ≠ 0)
    (k : ∀ w1, Go.Fw.Own w1 base e sz A m cp (cs.take (o * sz) ++ vs ++ cs.drop (o * sz + kk * sz)) → w.grownBy w1 (blk A) → WL P n ops Q' rest (upd f d (.int .i64 kk)) w1) :
    WL P n ops Q' (⟨some d, .call { callee := .builtin .copy, args := #[x, y], argTypes := #[t, t2] }, ty, pos, aft, none⟩ :: rest) f w := by
  obtain ⟨g, cur, rfl, hg, hh, hc1, hc2, hc3, hc4⟩ := own_some ho (by omega)
  subst hD
  have hsz : ∀ w, (sizeOf e).run P w = .ok sz w := slice_size (P := P) (t := t)
  have hikm : o * sz + kk * sz ≤ m * sz := by rw [← Nat.add_mul]; exact Nat.mul_le_mul_right _ hik
  have hmc : m * sz ≤ cp * sz := Nat.mul_le_mul_right _ hc1
  have hst := run_storeCells_at P g (o * sz) e vs 0 cur w hh (by rw [hl, hc3]; omega) h1
  have hload : (Builtin.firstCells sz kk (.slice B sLen sCap)).run P w = .ok vs.toArray w := by
    cases B with
    | none =>
      have : vs = [] := by
        cases vs with
        | nil => rfl
        | cons u us => exact absurd (hsrc 0 u rfl).1 (by simp)
      subst this
      exact run_firstCells_none w sz kk sLen sCap
    | some b => exact run_firstCells_some w sz kk b sLen sCap vs hl fun j u hj => (hsrc j u hj).2
  refine wl_val (v := .int .i64 kk) (w' := w.setRow g (cur.toList.take (o * sz) ++ vs ++ cur.toList.drop (o * sz + vs.length)).toArray) ?_ (k _ ?_ ?_)
  · intro d pos aft gg
    simp only [Nat.add_zero] at hst
    have hkk' : Nat.min sLen dLen = kk := hkk
    simp [execOp, resolve, invoke, builtin, Builtin.copy_, hx, hy, run_underlying ht.und, hsz, Builtin.lenOf, hkk', hload, Addr.add_lit]
    simp at hst
    rw [hst]
    simp [goInt]
  · have hlen := ho.1
    refine ⟨by simp only [List.length_append, List.length_take, List.length_drop, hl, hlen]; omega, .inr ⟨g, cp, _, rfl, hg, setRow_heap w g cur _ e _ hh, by omega, hc2, ?_, ?_⟩⟩
    · simp only [List.size_toArray, List.length_append, List.length_take, List.length_drop, hl, Array.length_toList, hc3]; omega
    · have hcl : cur.toList.length = cp * sz := by rw [Array.length_toList, hc3]
      rw [← hc4, List.take_take, Nat.min_eq_left (by omega), hl, List.drop_take, List.append_assoc, List.append_assoc]
      show ((cur.toList.take (o * sz) ++ (vs ++ cur.toList.drop (o * sz + kk * sz))).take (m * sz)) = _
      rw [List.take_append, List.take_append, List.length_take, hcl, Nat.min_eq_left (by omega), hl, List.take_of_length_le (by rw [List.length_take]; omega), List.take_of_length_le (l := vs) (by omega)]
      congr 3
      omega
  · simpa [blk] using (Wrt.mk' w g _).grown
/-- copy(d, s): into a part of a row of one's own. -/
theorem cpy {t t2 e : TypeId} {sz by_ : Nat} {cs vs : List Value} {A B D : Option Addr} {m cp o dLen dCap sLen sCap kk : Nat} [TSl P t e sz by_] (hm : addOK md = true) (hx : ev n f x = .slice D dLen dCap) (hy : ev n f y = .slice B sLen sCap) (hs : Split H (row e sz A m cp cs) R)
    (hD : D = A.map (·.add (o * sz))) (hsrc : ∀ w, Wd w0 H w → Src w B vs) (hkk : min sLen dLen = kk) (hl : vs.length = kk * sz) (h1 : ∀ u ∈ vs, u.oneCell' = true) (hik : o + kk ≤ m) (hne : m ≠ 0)
    (hk : keeps md (row e sz A m cp (cs.take (o * sz) ++ vs ++ cs.drop (o * sz + kk * sz)) :: R)) (k : SH (nx md) P n ops Q rest (upd f d (.int .i64 kk)) w0 (row e sz A m cp (cs.take (o * sz) ++ vs ++ cs.drop (o * sz + kk * sz)) :: R)) :
    SH md P n ops Q (⟨some d, .call { callee := .builtin .copy, args := #[x, y], argTypes := #[t, t2] }, ty, pos, aft, none⟩ :: rest) f w0 H :=
  s_mut hm fun w hw => wl_copy (hw.own hs) (hsrc w hw) hx hy hD hkk hl h1 hik hne fun w1 ho1 hg => wl_nil ⟨rfl, _, hk, k, hw.row hs hg ho1 (fun k hk => .inl hk)⟩
theorem cpyL {α : Type} [F : Flat α] {t t2 e : TypeId} {sz by_ : Nat} {L V : List α} {A B D : Option Addr} {cp o dLen dCap sLen sCap kk : Nat} [TSl P t e sz by_] (hsz : sz = F.sz) (hm : addOK md = true) (hx : ev n f x = .slice D dLen dCap) (hy : ev n f y = .slice B sLen sCap) (hs : Split H (orow e A cp L) R)
    (hD : D = A.map (·.add (o * sz))) (hsrc : ∀ w, Wd w0 H w → Rd w B V) (hkk : min sLen dLen = kk) (hl : V.length = kk) (hik : o + kk ≤ L.length) (hne : L.length ≠ 0)
    (hk : keeps md (orow e A cp (L.take o ++ V ++ L.drop (o + kk)) :: R)) (k : SH (nx md) P n ops Q rest (upd f d (.int .i64 kk)) w0 (orow e A cp (L.take o ++ V ++ L.drop (o + kk)) :: R)) :
    SH md P n ops Q (⟨some d, .call { callee := .builtin .copy, args := #[x, y], argTypes := #[t, t2] }, ty, pos, aft, none⟩ :: rest) f w0 H := by
  subst hsz
  have e : row e F.sz A L.length cp ((encs L).take (o * F.sz) ++ encs V ++ (encs L).drop (o * F.sz + kk * F.sz)) = orow e A cp (L.take o ++ V ++ L.drop (o + kk)) := by
    unfold orow
    rw [encs_take, ← Nat.add_mul, encs_drop, ← encs_append, ← encs_append]
    congr 1
    simp only [List.length_append, List.length_take, List.length_drop]; omega
  exact cpy hm hx hy hs hD hsrc hkk (by rw [encs_len, hl]) (encs_one _) hik hne (by rw [e]; exact hk) (by rw [e]; exact k)
/-- The elements from i on go one place further, into the room behind. -/
theorem cpyS {α : Type} [F : Flat α] {t t2 e : TypeId} {sz by_ : Nat} {l : List α} {xs : List Value} {A B D : Option Addr} {cp i dLen dCap sLen sCap : Nat} [TSl P t e sz by_] (hsz : sz = F.sz) (hm : addOK md = true) (hx : ev n f x = .slice D dLen dCap) (hy : ev n f y = .slice B sLen sCap)
    (hs : Split H (row e F.sz A (l.length + 1) cp (encs l ++ xs)) R) (hxs : xs.length = F.sz) (hi : i < l.length) (hD : D = A.map (·.add ((i + 1) * sz))) (hB : B = A.map (·.add (i * sz))) (hkk : min sLen dLen = l.length - i)
    (hk : keeps md (orow e A cp (l.take (i + 1) ++ l.drop i) :: R)) (k : SH (nx md) P n ops Q rest (upd f d (.int .i64 (l.length - i : Nat))) w0 (orow e A cp (l.take (i + 1) ++ l.drop i) :: R)) :
    SH md P n ops Q (⟨some d, .call { callee := .builtin .copy, args := #[x, y], argTypes := #[t, t2] }, ty, pos, aft, none⟩ :: rest) f w0 H := by
  subst hsz
  have hl := encs_len l
  have h1 : (i + 1) * F.sz ≤ l.length * F.sz := Nat.mul_le_mul_right _ hi
  have h2 : i * F.sz ≤ l.length * F.sz := Nat.mul_le_mul_right _ (by omega)
  have h3 : (i + 1) * F.sz + (l.length - i) * F.sz = l.length * F.sz + F.sz := by rw [← Nat.add_mul, show i + 1 + (l.length - i) = l.length + 1 by omega, Nat.succ_mul]
  have e : row e F.sz A (l.length + 1) cp ((encs l ++ xs).take ((i + 1) * F.sz) ++ encs (l.drop i) ++ (encs l ++ xs).drop ((i + 1) * F.sz + (l.length - i) * F.sz)) = orow e A cp (l.take (i + 1) ++ l.drop i) := by
    unfold orow
    have h4 : (encs l ++ xs).drop (l.length * F.sz + F.sz) = [] := List.drop_of_length_le (by rw [List.length_append, hl, hxs]; omega)
    rw [List.take_append_of_le_length (by omega), encs_take, h3, h4, List.append_nil, ← encs_append]
    congr 1
    simp only [List.length_append, List.length_take, List.length_drop]; omega
  refine cpy (vs := encs (l.drop i)) hm hx hy hs hD (fun w hw => ?_) hkk (by rw [encs_len, List.length_drop]) (encs_one _) (by omega) (by omega) (by rw [e]; exact hk) (by rw [e]; exact k)
  have h := (hw.src hs).drop (i * F.sz)
  rw [List.drop_append_of_le_length (by omega), encs_drop] at h
  rw [hB]
  intro j u hj
  exact h j u (by rw [List.getElem?_append_left ((List.getElem?_eq_some_iff.1 hj).1)]; exact hj)
/-- A row with room: the cells of one more element. -/
theorem v_room {α : Type} [F : Flat α] {c : Code} {A : Option Addr} {cp : Nat} {e : TypeId} {l : List α} (hs : Split H (orow e A cp l) R) (hc : l.length + 1 ≤ cp) (k : ∀ xs : List Value, xs.length = F.sz → VH P n c Q f w0 (row e F.sz A (l.length + 1) cp (encs l ++ xs) :: R)) : VH P n c Q f w0 H := ⟨fun w hw => by
  obtain ⟨p, q, hx, hq, hd, hp, hi⟩ := (hs.wd hw).open_
  obtain ⟨h0, h1⟩ := hx
  rcases h1 with ⟨_, _, h2⟩ | ⟨g, cur, rfl, rfl, h2, h3, h4, h5⟩
  · omega
  · have hml : (l.length + 1) * F.sz ≤ cp * F.sz := Nat.mul_le_mul_right _ hc
    have hsucc : (l.length + 1) * F.sz = l.length * F.sz + F.sz := Nat.succ_mul _ _
    have hxl : ((cur.toList.drop (l.length * F.sz)).take F.sz).length = F.sz := by rw [List.length_take, List.length_drop, Array.length_toList, h4]; omega
    refine (k ((cur.toList.drop (l.length * F.sz)).take F.sz) hxl).out w (Wd.close hw.ext (p := pone g (.cells cur e (0, 0))) ⟨?_, .inr ⟨g, cur, rfl, rfl, hc, h3, h4, ?_⟩⟩ hq hd hp hi)
    · rw [List.length_append, hxl, encs_len, hsucc]
    · rw [hsucc, List.take_add, h5]⟩
theorem encs_zero {α : Type} [F : Flat α] (z : Array Value) (hz : z.toList = F.enc F.dflt) : ∀ k : Nat, (Builtin.zeroCells z k).toList = encs (List.replicate k F.dflt)
  | 0 => by simp [Builtin.zeroCells, encs]
  | k + 1 => by
    have ih := encs_zero z hz k
    have hsz : z.size = F.sz := by rw [← Array.length_toList, hz, F.len]
    rw [List.replicate_succ', encs_append, ← ih]
    have he : encs [F.dflt] = z.toList := by rw [hz]; simp [encs]
    rw [he]
    refine List.ext_getElem? fun i => ?_
    have hp : 0 < z.size := by rw [hsz]; exact F.pos
    simp only [Builtin.zeroCells, Array.toList_map, Array.toList_range, List.getElem?_map, List.getElem?_append, List.length_map, List.length_range, Nat.succ_mul]
    by_cases h1 : i < k * z.size
    · rw [if_pos h1, List.getElem?_range (by omega), List.getElem?_range h1]
    · rw [if_neg h1]
      by_cases h2 : i < k * z.size + z.size
      · rw [List.getElem?_range h2]
        have e1 : i % z.size = i - k * z.size := by
          obtain ⟨r, rfl⟩ : ∃ r, i = r + k * z.size := ⟨i - k * z.size, by omega⟩
          rw [Nat.add_mul_mod_self_right, Nat.mod_eq_of_lt (by omega)]; omega
        simp only [Option.map_some, e1]
        rw [getElem!_pos z _ (by omega), List.getElem?_eq_getElem (by rw [Array.length_toList]; omega)]
        simp
      · rw [List.getElem?_eq_none (by rw [List.length_range]; omega), List.getElem?_eq_none (by rw [Array.length_toList]; omega)]; rfl
/-- append(s, make([]T, k)...), where s has no room. -/
theorem appz {α : Type} [F : Flat α] {t tn e : TypeId} {sz by_ : Nat} {A : Option Addr} {i cp k : Nat} {kq kn : IntKind} {l : List α} {z : Value} [ht : TSl P t e sz by_] [he : TEl P e sz by_] [hn : TInt P tn kn] (hm : addOK md = true)
    (hx : ev n f x = .slice A i cp) (hy : ev n f y = .int kq k) (hr : ∀ w, Wd w0 H w → Rd w A l) (hil : l.length = i) (hz : (P.info? e).bind (·.zero) = some z) (hzc : z.cells.toList = F.enc F.dflt) (hsz : sz = F.sz) (h0 : 0 < k) (hg : cp < i + k)
    (hbig : (i + k) * by_ ≤ 140737488355328) (h63 : i + k ≤ 140737488355328) (hcp : cp ≤ 140737488355328) (hcb : cp * by_ ≤ 140737488355328)
    (kont : ∀ A' cp', SH (nx md) P n ops Q rest (upd f d (.slice A' (i + k) cp')) w0 (orow e A' cp' (l ++ List.replicate k F.dflt) :: H)) :
    SH md P n ops Q (⟨some d, .call { callee := .builtin .append, args := #[x, y], argTypes := #[t, tn] }, ty, pos, aft, none⟩ :: rest) f w0 H := by
  subst hsz hil
  refine s_add hm fun w hw => ?_
  obtain ⟨inf, z', hi, hisz, hiby, hz', hzs⟩ := he.inf
  have e1 : z' = z := by rw [hi] at hz; simp only [Option.bind_some] at hz; rw [hz'] at hz; injection hz
  subst e1
  have hold : (Builtin.firstCells inf.size l.length (.slice A l.length cp)).run P w.drew = .ok (encs l).toArray w.drew := by
    have hrw := hr w hw
    cases A with
    | none =>
      have hl0 : l = [] := hrw.none
      subst hl0
      exact run_firstCells_none w.drew inf.size 0 0 cp
    | some b => exact run_firstCells_some w.drew inf.size l.length b l.length cp (encs l) (by rw [encs_len, hisz]) fun j u hj => (hrw j u hj).2
  have hrun := Lib.run_append_grow_zeros (P := P) w t tn ty e inf z' kq kn ht.und hn.und hi hz' A l.length cp (encs l) hold k h0 (by rw [hisz]; exact F.pos) hg (by omega)
    (by rw [hiby]; have : k * by_ ≤ (l.length + k) * by_ := Nat.mul_le_mul_right _ (by omega); omega) (growslice_fits (by omega) (by rw [hiby]; exact hbig))
  have hge := grownCap_ge w (l.length + k) cp e
  have hext : ∀ (o : Obj), Ext w (w.drew.alloc o) := fun o => Ext.grown0 ⟨rfl, rfl, rfl, by simp, fun k hk _ => Below.heap_alloc w.drew _ k hk⟩
  refine wl_val (v := .slice (some ⟨w.heap.size, 0, none⟩) (l.length + k) (grownCap w (l.length + k) cp e)) (w' := w.drew.alloc (.cells ((encs l).toArray ++ Builtin.zeroCells z'.cells k ++ Builtin.zeroCells z'.cells (grownCap w (l.length + k) cp e - (l.length + k))) e)) ?_ (wl_nil ⟨rfl, hext _, _, kont _ _, hw.newRow (hext _) ?_⟩)
  · intro d pos aft g
    simp [execOp, resolve, invoke, builtin, hx, hy, hrun]
  · have hll : (l ++ List.replicate k F.dflt).length = l.length + k := by rw [List.length_append, List.length_replicate]
    refine ⟨by rw [encs_len], .inr ⟨w.heap.size, _, _, by rw [hll], Nat.le_refl _, heap_alloc_new w.drew _, by rw [hll]; exact hge, grownCap_le_maxLen w _ cp e (by simp only [maxLen]; omega), ?_, ?_⟩⟩
    · simp only [Array.size_append, List.size_toArray, size_zeroCells, hzs, encs_len, ← Nat.add_mul]
      congr 1
      omega
    · simp only [Array.toList_append, List.append_assoc]
      rw [encs_zero z'.cells hzc, ← List.append_assoc, encs_append, show (l ++ List.replicate k F.dflt).length * F.sz = (encs l ++ encs (List.replicate k F.dflt)).length by rw [← encs_append, encs_len]]
      exact List.take_left
/-- slices.overlaps at two rows of one's own. -/
theorem ovl {t tR te e ev' : TypeId} {sz by_ : Nat} {g : FuncId} {fn : Func} {ats : Array TypeId} {bv lv cv la ca lb cb m cp o : Nat} {A B : Option Addr} {cs vs : List Value} {R R2 : List HP} {szv : Nat} [ht : TSl P t e sz by_] (hp : 0 < sz) (hf : P.funcs[g]? = some fn) (hname : (fn.name == "runtime.NumGoroutine") = false) (hb : fn.body.isNone = true) (hn : Extern.findNext fn = none)
    (he : Extern.find fn = some (Extern.SlicesOverlaps.overlaps #[t, t] #[tR])) (hx : ev n f x = .slice (some ⟨bv, 0, none⟩) la ca) (hy : ev n f y = .slice B lb cb) (hB : B = A.map (·.add o))
    (hs : Split (vis md H) (row te sz A m cp cs) R) (hs2 : Split R (row ev' szv (some ⟨bv, 0, none⟩) lv cv vs) R2) (hm : 0 < m) (k : SH (nx md) P n ops Q rest (upd f d (.bool false)) w0 H) :
    SH md P n ops Q (⟨some d, .call { callee := .value (.func g), args := #[x, y], argTypes := ats }, ty, pos, aft, none⟩ :: rest) f w0 H := s_val (fun w hw => by
  obtain ⟨p, q, hx1, hq, hd, hp1, hq1⟩ := (hs.wd hw).open_
  obtain ⟨p2, q2, hx2, _, _, rfl⟩ := hs2.sat hq
  obtain ⟨gA, cur, rfl, rfl, h2, h3, h4, h5⟩ := hx1.2.resolve_left (fun h => by omega)
  rcases hx2.2 with ⟨h, _⟩ | ⟨gB, cur2, e1, rfl, k2, k3, k4, k5⟩
  · cases h
  injection e1 with e1
  injection e1 with e1 _ _
  subst e1
  have hne : bv ≠ gA := fun e => by
    subst e
    rcases hd bv with h | h
    · rw [pone_at] at h; cases h
    · have := (pjoin_none.1 h).1
      rw [pone_at] at this; cases this
  have hA := (hp1 gA _ (pone_at _ _)).2
  have hV := (hq1 bv _ (by unfold pjoin; rw [pone_at])).2
  have hcp : 0 < cp * sz := Nat.mul_pos (by omega) hp
  subst hB
  have hfz : w.frozen? ⟨bv, 0, none⟩ = false ∧ w.frozen? { block := bv, off := cur2.size } = false := by
    simp [World.frozen?, hV]
  have hr := Lib.run_overlaps_apart (P := P) w t tR e ht.und sz (slice_size (P := P) (t := t)) ⟨bv, 0, none⟩ ((⟨gA, 0, none⟩ : Addr).add o) la ca lb cb (by show bv ≠ ((⟨gA, 0, none⟩ : Addr).add o).block; rw [Addr.add_lit]; exact hne) ev' te cur2.size cur.size (by simp [World.shape?, hV]) (by rw [Addr.add_lit]; simp [World.shape?, hA]) (by omega) hfz.1 hfz.2
  intro d pos aft gg
  have hcf := run_callFunc_extern hf hname hb hn he #[.slice (some ⟨bv, 0, none⟩) la ca, .slice ((some (⟨gA, 0, none⟩ : Addr)).map (·.add o)) lb cb] w
  simp only [Option.map_some] at hcf hy
  rw [hr] at hcf
  simp [execOp, resolve, invoke, hx, hy, show ev n f (.func g) = .func (.func g) #[] #[] from rfl, Deferred.ofValue, hcf, Result.andThen]) k
theorem bcp {t e : TypeId} {sz by_ : Nat} {A : Option Addr} {m cp : Nat} [ht : TSl P t e sz by_] (hx : ev n f x = .slice A m cp) (k : SH (nx md) P n ops Q rest (upd f d (.int .i64 cp)) w0 H) : SH md P n ops Q (⟨some d, .call { callee := .builtin .cap, args := #[x], argTypes := #[t] }, ty, pos, aft, none⟩ :: rest) f w0 H := s_val (fun w _ => by
  intro d pos aft g
  simp [execOp, resolve, invoke, builtin, hx, Builtin.cap_, goInt, run_underlying ht.und]) k
end
end Go.Fw

