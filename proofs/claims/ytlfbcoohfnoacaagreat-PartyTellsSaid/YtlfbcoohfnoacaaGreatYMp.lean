/- Maps from numbers to numbers. -/
import Derived.Test.YtlfbcoohfnoacaaGreatYVa
set_option linter.unusedSimpArgs false
set_option linter.unusedVariables false
namespace Go.Fw
open Go.RowKit
/-- What a map holds, in the order in which it came in. -/
def mfind : List (Int × Int) → Int → Option Int
  | [], _ => none
  | x :: l, k => if x.1 = k then some x.2 else mfind l k
def mget (l : List (Int × Int)) (k : Int) : Int := (mfind l k).getD 0
def mput : List (Int × Int) → Int → Int → List (Int × Int)
  | [], k, v => [(k, v)]
  | x :: l, k, v => if x.1 = k then (x.1, v) :: l else x :: mput l k v
theorem mfind_put (l : List (Int × Int)) (k v j : Int) : mfind (mput l k v) j = if k = j then some v else mfind l j := by
  induction l with
  | nil => simp [mput, mfind]
  | cons x l ih =>
    simp only [mput]
    by_cases h : x.1 = k
    · rw [if_pos h]
      simp only [mfind]
      by_cases hj : x.1 = j
      · rw [if_pos hj, if_pos (by omega)]
      · rw [if_neg hj, if_neg (by omega), if_neg hj]
    · rw [if_neg h]
      simp only [mfind]
      by_cases hj : x.1 = j
      · rw [if_pos hj, if_neg (by omega), if_pos hj]
      · rw [if_neg hj, ih, if_neg hj]
theorem mget_put (l : List (Int × Int)) (k v j : Int) : mget (mput l k v) j = if k = j then v else mget l j := by
  unfold mget
  rw [mfind_put]
  split <;> rfl
theorem mput_keys (l : List (Int × Int)) (k v : Int) : (mput l k v).map (·.1) = if k ∈ l.map (·.1) then l.map (·.1) else l.map (·.1) ++ [k] := by
  induction l with
  | nil => simp [mput]
  | cons x l ih =>
    simp only [mput]
    by_cases h : x.1 = k
    · rw [if_pos h]; simp [h]
    · rw [if_neg h]
      have h' : ¬ k = x.1 := fun e => h e.symm
      simp only [List.map_cons, ih, List.mem_cons, h', false_or]
      split <;> rfl
theorem mput_len (l : List (Int × Int)) (k v : Int) : (mput l k v).length ≤ l.length + 1 := by
  have := congrArg List.length (mput_keys l k v)
  rw [List.length_map] at this
  split at this
  · rw [List.length_map] at this; omega
  · rw [List.length_append, List.length_map, List.length_singleton] at this; omega
/-- Where the key stands. -/
def midx : List (Int × Int) → Int → Nat
  | [], _ => 0
  | x :: l, k => if x.1 = k then 0 else midx l k + 1
theorem midx_put (l : List (Int × Int)) (k v : Int) : midx (mput l k v) k = midx l k := by
  induction l with
  | nil => simp [mput, midx]
  | cons x l ih =>
    simp only [mput]
    by_cases h : x.1 = k
    · rw [if_pos h]; simp [midx, h]
    · rw [if_neg h]; simp [midx, h, ih]
theorem midx_none {l : List (Int × Int)} {k : Int} (h : mfind l k = none) : midx l k = l.length := by
  induction l with
  | nil => rfl
  | cons x l ih =>
    simp only [mfind] at h
    split at h
    · cases h
    · rename_i hx; simp [midx, hx, ih h]
theorem mput_put (l : List (Int × Int)) (k v u : Int) : mput (mput l k v) k u = mput l k u := by
  induction l with
  | nil => simp [mput]
  | cons x l ih =>
    simp only [mput]
    by_cases h : x.1 = k
    · rw [if_pos h, if_pos h]; simp [mput, h]
    · rw [if_neg h, if_neg h]; simp [mput, h, ih]
/-- The entries es are l. -/
def Mat (es : List MapEntry) (l : List (Int × Int)) : Prop := es.map (fun e => (e.key, e.val)) = l.map fun x => (Value.int .i64 x.1, Value.int .i64 x.2)
def Births (es : List MapEntry) (c : Nat) : Prop := (∀ e ∈ es, e.born < c) ∧ (es.map (·.born)).Nodup
/-- A map. -/
def mpp (r : Nat) (l : List (Int × Int)) : HP := .oth fun p => ∃ es c, p = pone r (.map es c) ∧ Mat es.toList l ∧ Births es.toList c
/-- The same; the entry of the key k was born at b. -/
def mpe (r : Nat) (l : List (Int × Int)) (k : Int) (b : Nat) : HP := .oth fun p => ∃ es c, p = pone r (.map es c) ∧ Mat es.toList l ∧ Births es.toList c ∧ ∃ e, es.toList[midx l k]? = some e ∧ e.born = b
theorem Mat.len {es : List MapEntry} {l : List (Int × Int)} (h : Mat es l) : es.length = l.length := by simpa using congrArg List.length h
theorem mat_cons {e : MapEntry} {es : List MapEntry} {x : Int × Int} {l : List (Int × Int)} : Mat (e :: es) (x :: l) ↔ e.key = .int .i64 x.1 ∧ e.val = .int .i64 x.2 ∧ Mat es l := by
  simp [Mat, and_assoc]
theorem find_none : ∀ {es : List MapEntry} {l : List (Int × Int)} {k : Int} (n : Nat), Mat es l → mfind l k = none → Instr.findNow (.int .i64) (.int .i64 k) es n = some none ∧ mput l k = fun v => l ++ [(k, v)]
  | [], [], k, n, _, _ => ⟨rfl, by funext v; rfl⟩
  | [], _ :: _, _, _, h, _ => by simp [Mat] at h
  | _ :: _, [], _, _, h, _ => by simp [Mat] at h
  | e :: es, x :: l, k, n, h, hf => by
    obtain ⟨h1, h2, h3⟩ := mat_cons.1 h
    simp only [mfind] at hf
    split at hf
    · cases hf
    · rename_i hx
      obtain ⟨a, b⟩ := find_none (n + 1) h3 hf
      refine ⟨?_, ?_⟩
      · simp only [Instr.findNow, h1, Instr.sameNow, if_true]
        rw [show (k == x.1) = false from beq_eq_false_iff_ne.2 (fun e => hx e.symm)]
        exact a
      · funext v
        simp only [mput, if_neg hx, b, List.cons_append]
theorem find_some : ∀ {es : List MapEntry} {l : List (Int × Int)} {k v : Int} (n : Nat), Mat es l → mfind l k = some v → ∃ e, Instr.findNow (.int .i64) (.int .i64 k) es n = some (some (n + midx l k, .int .i64 v)) ∧ es[midx l k]? = some e ∧ e.key = .int .i64 k ∧ e.val = .int .i64 v ∧ ∀ u (g : MapEntry → MapEntry), (g e).key = .int .i64 k → (g e).val = .int .i64 u → Mat (es.modify (midx l k) g) (mput l k u)
  | [], [], k, v, n, _, hf => by cases hf
  | [], _ :: _, _, _, _, h, _ => by simp [Mat] at h
  | _ :: _, [], _, _, _, h, _ => by simp [Mat] at h
  | e :: es, x :: l, k, v, n, h, hf => by
    obtain ⟨h1, h2, h3⟩ := mat_cons.1 h
    simp only [mfind] at hf
    split at hf
    · rename_i hx
      injection hf with hf
      rw [show midx (x :: l) k = 0 by simp [midx, hx]]
      refine ⟨e, ?_, rfl, by rw [h1, hx], by rw [h2, hf], fun u g hk hv => ?_⟩
      · simp only [Instr.findNow, h1, Instr.sameNow, if_true]
        rw [show (k == x.1) = true from beq_iff_eq.2 hx.symm, h2, hf]; rfl
      · simp only [mput, if_pos hx, List.modify_zero_cons]
        exact mat_cons.2 ⟨by rw [hk, hx], hv, h3⟩
    · rename_i hx
      rw [show midx (x :: l) k = midx l k + 1 by simp [midx, hx]]
      obtain ⟨e', a, b, c, c2, d⟩ := find_some (n + 1) h3 hf
      refine ⟨e', ?_, b, c, c2, fun u g hk hv => ?_⟩
      · simp only [Instr.findNow, h1, Instr.sameNow, if_true]
        rw [show (k == x.1) = false from beq_eq_false_iff_ne.2 (fun e => hx e.symm)]
        show Instr.findNow _ _ es (n + 1) = _
        rw [a]; congr 3; omega
      · simp only [mput, if_neg hx, List.modify_succ_cons]
        exact mat_cons.2 ⟨h1, h2, d u g hk hv⟩
theorem births_push {es : List MapEntry} {c : Nat} (h : Births es c) {e : MapEntry} (he : e.born = c) : Births (es ++ [e]) (c + 1) := by
  refine ⟨fun x hx => ?_, ?_⟩
  · rcases List.mem_append.1 hx with hx | hx
    · have := h.1 x hx; omega
    · rw [List.mem_singleton.1 hx]; omega
  · rw [List.map_append, List.nodup_append]
    refine ⟨h.2, by simp, fun a ha b hb => ?_⟩
    obtain ⟨x, hx, rfl⟩ := List.mem_map.1 ha
    simp at hb
    have := h.1 x hx; omega
theorem born_modify {g : MapEntry → MapEntry} (hg : ∀ e, (g e).born = e.born) : ∀ (es : List MapEntry) (i : Nat), (es.modify i g).map (·.born) = es.map (·.born)
  | [], i => by cases i <;> simp
  | e :: es, 0 => by simp [hg]
  | e :: es, i + 1 => by simp [born_modify hg es i]
theorem births_modify {es : List MapEntry} {c i : Nat} {g : MapEntry → MapEntry} (hg : ∀ e, (g e).born = e.born) (h : Births es c) : Births (es.modify i g) c := by
  have hb := born_modify hg es i
  refine ⟨fun x hx => ?_, by rw [hb]; exact h.2⟩
  have h1 : x.born ∈ (es.modify i g).map (·.born) := List.mem_map_of_mem hx
  rw [hb] at h1
  obtain ⟨y, hy, he⟩ := List.mem_map.1 h1
  rw [← he]; exact h.1 y hy
theorem mat_snoc {es : List MapEntry} {l : List (Int × Int)} (h : Mat es l) {e : MapEntry} {k v : Int} (hk : e.key = .int .i64 k) (hv : e.val = .int .i64 v) : Mat (es ++ [e]) (l ++ [(k, v)]) := by
  unfold Mat at *
  rw [List.map_append, List.map_append, h]
  simp [hk, hv]

/-- t is map[int]int. -/
class TMap (P : Program) (t : TypeId) : Prop where
  und : ∃ kt et, P.underlying t = some (.map kt et) ∧ P.underlying kt = some (.int .i64) ∧ ∀ w, (zeroValue et).run P w = .ok (.int .i64 0) w
section
variable {P : Program} {w : World} {r : Nat} {es : Array MapEntry} {c : Nat}
theorem run_getM (h : w.heap[r]? = some (.map es c)) : (getObj r).run P w = .ok (.map es c) w := by simp [getObj, Sem.run, h]
theorem run_setM (h : w.heap[r]? = some (.map es c)) (o : Obj) : (setObj r o).run P w = .ok () (w.putObj r o) := by simp [setObj, Sem.run, h, World.putObj]
theorem run_checkN {kt : TypeId} (hk : P.underlying kt = some (.int .i64)) (b : Bool) (k : Int) (m : Nat) : (Instr.checkKey b (m + 1) kt (.int .i64 k)).run P w = .ok () w := by
  simp [Instr.checkKey, run_underlying hk]
theorem run_checkM {kt : TypeId} (hk : P.underlying kt = some (.int .i64)) (b : Bool) (k : Int) : (Instr.checkKey b 10000 kt (.int .i64 k)).run P w = .ok () w := run_checkN hk b k 9999
theorem same_bits (k : Int) (m : Nat) : Instr.sameBits (m + 1) (.int .i64 k) (.int .i64 k) = true := by simp [Instr.sameBits]
theorem run_staysM (k : Int) : (Instr.keyThatStays (.int .i64 k) (.int .i64 k)).run P w = .ok (.int .i64 k) w := by
  have : Instr.sameBits 10000 (.int .i64 k) (.int .i64 k) = true := same_bits k 9999
  simp [Instr.keyThatStays, this]
theorem run_findM {kt : TypeId} (hk : P.underlying kt = some (.int .i64)) (k : Int) {l : List MapEntry} {x : Option (Nat × Value)} (h : Instr.findNow (.int .i64) (.int .i64 k) l 0 = some x) : (Instr.findKey kt (.int .i64 k) l).run P w = .ok x w := by
  simp [Instr.findKey, run_underlying hk, h]
end
section
variable {md : Md} {P : Program} {n : Nat} {Q : HQ} {f : Fr} {w0 : World} {H R : List HP} {ops : Array Oper} {rest : List Oper} {d : Nat} {op : Op} {ty : TypeId} {pos : String} {aft : Array Edge} {v : Value} {x y z : Operand}
theorem mpp_open {w : World} {r : Nat} {l : List (Int × Int)} (h : Wd w0 (mpp r l :: R) w) : ∃ es c, w.heap[r]? = some (.map es c) ∧ Mat es.toList l ∧ Births es.toList c ∧ Wd w0 (.oth (fun p => p = pone r (.map es c)) :: R) w := by
  obtain ⟨he, q, ⟨p1, p2, hx0, hs, hd, hp⟩, hi⟩ := h
  have hx1 : ∃ es c, p1 = pone r (.map es c) ∧ Mat es.toList l ∧ Births es.toList c := hx0
  obtain ⟨es, c, hx, h1, h2⟩ := hx1
  have hw : Wd w0 (.oth (fun p => p = pone r (.map es c)) :: R) w := ⟨he, q, ⟨p1, p2, hx, hs, hd, hp⟩, hi⟩
  exact ⟨es, c, (one_open hw).1, h1, h2, hw⟩
theorem mpe_open {w : World} {r : Nat} {l : List (Int × Int)} {k : Int} {b : Nat} (h : Wd w0 (mpe r l k b :: R) w) : ∃ es c, w.heap[r]? = some (.map es c) ∧ Mat es.toList l ∧ Births es.toList c ∧ (∃ e, es.toList[midx l k]? = some e ∧ e.born = b) ∧ Wd w0 (.oth (fun p => p = pone r (.map es c)) :: R) w := by
  obtain ⟨he, q, ⟨p1, p2, hx0, hs, hd, hp⟩, hi⟩ := h
  have hx1 : ∃ es c, p1 = pone r (.map es c) ∧ Mat es.toList l ∧ Births es.toList c ∧ ∃ e, es.toList[midx l k]? = some e ∧ e.born = b := hx0
  obtain ⟨es, c, hx, h1, h2, h3⟩ := hx1
  have hw : Wd w0 (.oth (fun p => p = pone r (.map es c)) :: R) w := ⟨he, q, ⟨p1, p2, hx, hs, hd, hp⟩, hi⟩
  exact ⟨es, c, (one_open hw).1, h1, h2, h3, hw⟩
theorem mpp_shut {w : World} {r : Nat} {l : List (Int × Int)} {es : Array MapEntry} {c : Nat} (h1 : Mat es.toList l) (h2 : Births es.toList c) (h : Wd w0 (.oth (fun p => p = pone r (.map es c)) :: R) w) : Wd w0 (mpp r l :: R) w :=
  Ent.wd (ent_imp (X := .oth fun p => p = pone r (.map es c)) (Y := mpp r l) fun _ hp => ⟨es, c, hp, h1, h2⟩) h
/-- .. of which the entry of a key is known. -/
theorem mpe_shut {w : World} {r : Nat} {l : List (Int × Int)} {k : Int} {b : Nat} {es : Array MapEntry} {c : Nat} {e : MapEntry} (h1 : Mat es.toList l) (h2 : Births es.toList c) (h3 : es.toList[midx l k]? = some e) (h4 : e.born = b) (h : Wd w0 (.oth (fun p => p = pone r (.map es c)) :: R) w) : Wd w0 (mpe r l k b :: R) w :=
  Ent.wd (ent_imp (X := .oth fun p => p = pone r (.map es c)) (Y := mpe r l k b) fun _ hp => ⟨es, c, hp, h1, h2, e, h3, h4⟩) h
/-- A map is made. -/
theorem mkm {t : TypeId} [ht : TMap P t] (hm : addOK md = true) (k : ∀ r, SH (nx md) P n ops Q rest (upd f d (.map (some r))) w0 (mpp r [] :: H)) : SH md P n ops Q (⟨some d, .makeMap t none, ty, pos, aft, none⟩ :: rest) f w0 H :=
  s_add hm fun w hw => wl_val (v := .map (some w.heap.size)) (w' := w.alloc (.map #[] 0)) (by
    intro d pos aft g
    simp [execOp, Instr.makeMap, newObj, Sem.run]) (wl_nil ⟨rfl, Ext.alloc w _, _, k w.heap.size, mpp_shut (by simp [Mat]) ⟨by simp, by simp⟩ (one_new (.map #[] 0) hw)⟩)
/-- What the map has under a key. -/
theorem lkm {t : TypeId} {r : Nat} {l : List (Int × Int)} {j : Int} [ht : TMap P t] (hx : ev n f x = .map (some r)) (hy : ev n f y = .int .i64 j) (hs : Split (vis md H) (mpp r l) R)
    (k : SH (nx md) P n ops Q rest (upd f d (.int .i64 (mget l j))) w0 H) : SH md P n ops Q (⟨some d, .lookup t x y false, ty, pos, aft, none⟩ :: rest) f w0 H := s_val (fun w hw => by
  obtain ⟨kt, et, h1, h2, h3⟩ := ht.und
  obtain ⟨es, c, hb, hM, _, _⟩ := mpp_open (hs.wd hw)
  intro d pos aft g
  unfold mget
  cases hf : mfind l j with
  | none => simp [execOp, Instr.lookup, hx, hy, run_underlying h1, run_getM hb, run_checkM h2, run_findM h2 j (find_none 0 hM hf).1, h3]
  | some u =>
    obtain ⟨e, he, _⟩ := find_some 0 hM hf
    simp [execOp, Instr.lookup, hx, hy, run_underlying h1, run_getM hb, run_checkM h2, run_findM h2 j he]) k
/-- How many keys a map has. -/
theorem lnm {t : TypeId} {r : Nat} {l : List (Int × Int)} [ht : TMap P t] (hx : ev n f x = .map (some r)) (hs : Split (vis md H) (mpp r l) R)
    (k : SH (nx md) P n ops Q rest (upd f d (.int .i64 l.length)) w0 H) : SH md P n ops Q (⟨some d, .call { callee := .builtin .len, args := #[x], argTypes := #[t] }, ty, pos, aft, none⟩ :: rest) f w0 H := s_val (fun w hw => by
  obtain ⟨kt, et, h1, h2, h3⟩ := ht.und
  obtain ⟨es, c, hb, hM, _, _⟩ := mpp_open (hs.wd hw)
  have hl := hM.len
  rw [Array.length_toList] at hl
  intro d pos aft g
  simp [execOp, resolve, invoke, builtin, Builtin.len_, hx, run_underlying h1, run_getM hb, goInt, hl]) k
/-- A key is put. -/
theorem mup {t : TypeId} {r : Nat} {l : List (Int × Int)} {j u : Int} [ht : TMap P t] (hm : addOK md = true) (hx : ev n f x = .map (some r)) (hy : ev n f y = .int .i64 j) (hz : ev n f z = .int .i64 u) (hs : Split H (mpp r l) R)
    (hk : keeps md (mpp r (mput l j u) :: R)) (k : SH (nx md) P n ops Q rest f w0 (mpp r (mput l j u) :: R)) : SH md P n ops Q (⟨none, .mapUpdate t x y z, ty, pos, aft, none⟩ :: rest) f w0 H :=
  s_mut hm fun w hw => by
    obtain ⟨kt, et, h1, h2, h3⟩ := ht.und
    obtain ⟨es, c, hb, hM, hB, hw1⟩ := mpp_open (hs.wd hw)
    cases hf : mfind l j with
    | none =>
      obtain ⟨ha, hp⟩ := find_none 0 hM hf
      refine wl_skip (w' := w.putObj r (.map (es.push ⟨.int .i64 j, .int .i64 u, c⟩) (c + 1))) ?_ (wl_nil ⟨rfl, _, hk, k, mpp_shut ?_ ?_ (one_put _ hw1)⟩)
      · intro d pos aft g
        simp [execOp, Instr.mapUpdate, hx, hy, hz, run_underlying h1, run_getM hb, run_checkM h2, run_findM h2 j ha, run_setM hb]
      · rw [Array.toList_push, hp]; exact mat_snoc hM rfl rfl
      · rw [Array.toList_push]; exact births_push hB rfl
    | some u0 =>
      obtain ⟨e, ha, he, hkey, hval, hmod⟩ := find_some 0 hM hf
      rw [Nat.zero_add] at ha
      have he' : es[midx l j]? = some e := by rw [← Array.getElem?_toList]; exact he
      refine wl_skip (w' := w.putObj r (.map (es.modify (midx l j) fun e => { e with key := .int .i64 j, val := .int .i64 u }) c)) ?_ (wl_nil ⟨rfl, _, hk, k, mpp_shut ?_ ?_ (one_put _ hw1)⟩)
      · intro d pos aft g
        simp [execOp, Instr.mapUpdate, hx, hy, hz, run_underlying h1, run_getM hb, run_checkM h2, run_findM h2 j ha, he', hkey, run_staysM, run_setM hb]
      · rw [Array.toList_modify]; exact hmod u _ rfl rfl
      · rw [Array.toList_modify]; exact births_modify (fun _ => rfl) hB
/-- m[k] op= ..: the entry is there, or is made. -/
theorem men {t : TypeId} {r : Nat} {l : List (Int × Int)} {j : Int} [ht : TMap P t] (hm : addOK md = true) (hx : ev n f x = .map (some r)) (hy : ev n f y = .int .i64 j) (hs : Split H (mpp r l) R)
    (hk : ∀ b, keeps md (mpe r (mput l j (mget l j)) j b :: R)) (k : ∀ b : Nat, SH (nx md) P n ops Q rest (upd f d (.tuple #[.int .i64 (mget l j), .int .i64 b])) w0 (mpe r (mput l j (mget l j)) j b :: R)) : SH md P n ops Q (⟨some d, .mapEntry t x y, ty, pos, aft, none⟩ :: rest) f w0 H :=
  s_mut hm fun w hw => by
    obtain ⟨kt, et, h1, h2, h3⟩ := ht.und
    obtain ⟨es, c, hb, hM, hB, hw1⟩ := mpp_open (hs.wd hw)
    unfold mget at hk k
    cases hf : mfind l j with
    | none =>
      rw [hf] at hk k
      simp only [Option.getD_none] at hk k
      obtain ⟨ha, hp⟩ := find_none 0 hM hf
      refine wl_val (v := .tuple #[.int .i64 0, .int .i64 c]) (w' := w.putObj r (.map (es.push ⟨.int .i64 j, .int .i64 0, c⟩) (c + 1))) ?_ (wl_nil ⟨rfl, _, hk c, k c, ?_⟩)
      · intro d pos aft g
        simp [execOp, Instr.mapEntry, hx, hy, run_underlying h1, run_getM hb, run_checkM h2, run_findM h2 j ha, run_setM hb, h3, goInt]
      · refine mpe_shut (e := ⟨.int .i64 j, .int .i64 0, c⟩) ?_ ?_ ?_ rfl (one_put _ hw1)
        · rw [Array.toList_push, hp]; exact mat_snoc hM rfl rfl
        · rw [Array.toList_push]; exact births_push hB rfl
        · rw [midx_put, midx_none hf, ← hM.len, Array.toList_push]; simp
    | some u0 =>
      rw [hf] at hk k
      simp only [Option.getD_some] at hk k
      obtain ⟨e, ha, he, hkey, hval, hmod⟩ := find_some 0 hM hf
      rw [Nat.zero_add] at ha
      have he' : es[midx l j]? = some e := by rw [← Array.getElem?_toList]; exact he
      refine wl_val (v := .tuple #[.int .i64 u0, .int .i64 e.born]) (w' := w.putObj r (.map (es.modify (midx l j) fun e => { e with key := .int .i64 j }) c)) ?_ (wl_nil ⟨rfl, _, hk e.born, k e.born, ?_⟩)
      · intro d pos aft g
        simp [execOp, Instr.mapEntry, hx, hy, run_underlying h1, run_getM hb, run_checkM h2, run_findM h2 j ha, he', hkey, run_staysM, run_setM hb, goInt]
      · refine mpe_shut (e := { e with key := .int .i64 j }) ?_ ?_ ?_ rfl (one_put _ hw1)
        · rw [Array.toList_modify]; exact hmod u0 _ rfl hval
        · rw [Array.toList_modify]; exact births_modify (fun _ => rfl) hB
        · rw [midx_put, Array.toList_modify, List.getElem?_modify, he]; simp
/-- .. and the entry is written. -/
theorem est {t : TypeId} {r b : Nat} {l : List (Int × Int)} {j v0 u : Int} [ht : TMap P t] (hm : addOK md = true) (hx : ev n f x = .map (some r)) (hy : ev n f y = .int .i64 b) (hz : ev n f z = .int .i64 u) (hs : Split H (mpe r (mput l j v0) j b) R)
    (hk : keeps md (mpp r (mput l j u) :: R)) (k : SH (nx md) P n ops Q rest f w0 (mpp r (mput l j u) :: R)) : SH md P n ops Q (⟨none, .entryStore t x y z, ty, pos, aft, none⟩ :: rest) f w0 H :=
  s_mut hm fun w hw => by
    obtain ⟨es, c, hb, hM, hB, ⟨e, he, hbn⟩, hw1⟩ := mpe_open (hs.wd hw)
    obtain ⟨e2, ha, he2, hkey, hval, hmod⟩ := find_some 0 hM (show mfind (mput l j v0) j = some v0 by rw [mfind_put, if_pos rfl])
    rw [he] at he2
    injection he2 with he2
    subst he2
    simp only [mput_put] at hmod
    have hlt : midx (mput l j v0) j < es.size := by
      have := (List.getElem?_eq_some_iff.1 he).1
      simpa using this
    have hfi : es.findIdx? (fun e => (e.born : Int) == (b : Int)) = some (midx (mput l j v0) j) := by
      rw [Array.findIdx?_eq_some_iff_getElem]
      have hge : es[midx (mput l j v0) j] = e := by
        have h1 := (List.getElem?_eq_some_iff.1 he).2
        simpa using h1
      refine ⟨hlt, ?_, fun i hi hc => ?_⟩
      · rw [hge, hbn]; simp
      · have hnd := List.pairwise_iff_getElem.1 hB.2 i (midx (mput l j v0) j) (by simp; omega) (by simpa using hlt) hi
        simp only [List.getElem_map, Array.getElem_toList] at hnd
        rw [hge, hbn] at hnd
        simp at hc
        exact hnd (by omega)
    refine wl_skip (w' := w.putObj r (.map (es.modify (midx (mput l j v0) j) fun e => { e with val := .int .i64 u }) c)) ?_ (wl_nil ⟨rfl, _, hk, k, mpp_shut ?_ ?_ (one_put _ hw1)⟩)
    · intro d pos aft g
      simp [execOp, Instr.entryStore, hx, hy, hz, run_getM hb, hfi, run_setM hb, asInt, asIntOf]
    · rw [Array.toList_modify]; exact hmod u _ hkey rfl
    · rw [Array.toList_modify]; exact births_modify (fun _ => rfl) hB
end
end Go.Fw
