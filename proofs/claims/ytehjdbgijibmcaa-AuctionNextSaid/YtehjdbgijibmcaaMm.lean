/- Rules for the operations that make memory or write to it. -/
import Derived.Test.YtehjdbgijibmcaaQt
set_option linter.unusedSimpArgs false
set_option linter.unusedVariables false
namespace Go.Fw
open Go.RowKit

/-- w1 is w and one block more, number b, which is o. -/
structure New (w w1 : World) (b : Nat) (o : Obj) : Prop where
  ext : Ext w w1
  at_ : w1.heap[b]? = some o
  num : b = w.heap.size
  size : w1.heap.size = b + 1
theorem New.mk' (w : World) (o : Obj) : New w (w.alloc o) w.heap.size o := ⟨Ext.alloc w o, heap_alloc_new w o, rfl, by simp⟩
/-- w1 is w with block g written. -/
structure Wrt (w w1 : World) (g : Nat) : Prop where
  grown : w.grownBy w1 (some g)
  size : w1.heap.size = w.heap.size
theorem Wrt.mk' (w : World) (g : Nat) (cs : Array Value) : Wrt w (w.setRow g cs) g :=
  ⟨⟨rfl, rfl, rfl, by simp, fun k _ hk => setRow_other w g k cs (fun e => hk (by rw [e]))⟩, by simp⟩
theorem Wrt.heap {w w1 : World} {g k : Nat} {o : Obj} (h : Wrt w w1 g) (hk : w.heap[k]? = some o) (hne : k ≠ g) : w1.heap[k]? = some o := by
  rw [h.grown.block k (Array.getElem?_eq_some_iff.1 hk).1 (fun e => hne (by injection e))]; exact hk
theorem Ext.wrt {w0 w w1 : World} {g : Nat} (h : Ext w0 w) (hw : Wrt w w1 g) (hg : w0.heap.size ≤ g) : Ext w0 w1 :=
  Below.grown h hw.grown h.size (fun k hk => by injection hk with hk; omega)
theorem Ext.grown {w0 w w1 : World} {row : Option Nat} (h : Ext w0 w) (hw : w.grownBy w1 row) (hg : ∀ k, row = some k → w0.heap.size ≤ k) : Ext w0 w1 :=
  Below.grown h hw h.size hg
theorem Ext.grown0 {w w1 : World} (hw : w.grownBy w1 none) : Ext w w1 := (Ext.refl w).grown hw (fun k hk => by cases hk)
theorem Ext.grownBy {w w1 : World} (h : Ext w w1) (row : Option Nat) : w.grownBy w1 row := ⟨h.os, h.tape, h.output, h.size, fun k hk _ => h.block hk⟩

/-- A row of the call's own: the slice's cells are cs. -/
abbrev Own (w : World) (base : Nat) (e : TypeId) (sz : Nat) (A : Option Addr) (m cp : Nat) (cs : List Value) : Prop := w.ownsRow base e sz (.slice A m cp) m cs
def blk (A : Option Addr) : Option Nat := A.map (·.block)
theorem ownBlock_eq (A : Option Addr) (m cp : Nat) : (Value.slice A m cp).ownBlock = blk A := by cases A <;> rfl
theorem own_blk {w : World} {base : Nat} {e : TypeId} {sz : Nat} {A : Option Addr} {m cp : Nat} {cs : List Value} (h : Own w base e sz A m cp cs) : ∀ k, blk A = some k → base ≤ k ∧ k < w.heap.size := by
  rw [← ownBlock_eq A m cp]; exact h.lt
theorem own_cap {w : World} {base : Nat} {e : TypeId} {sz : Nat} {A : Option Addr} {m cp : Nat} {cs : List Value} (h : Own w base e sz A m cp cs) : m ≤ cp ∧ cp ≤ maxLen := by
  rcases h.2 with ⟨hv, hm⟩ | ⟨g, cap, cur, hv, _, _, h1, h2, _⟩
  · injection hv with _ _ hc; subst hc; exact ⟨by omega, by simp [maxLen]⟩
  · injection hv with _ _ hc; subst hc; exact ⟨h1, h2⟩
theorem own_len {w : World} {base : Nat} {e : TypeId} {sz : Nat} {A : Option Addr} {m cp : Nat} {cs : List Value} (h : Own w base e sz A m cp cs) : cs.length = m * sz := h.1
theorem own_cell {w : World} {base : Nat} {e : TypeId} {sz : Nat} {A : Option Addr} {m cp : Nat} {cs : List Value} (h : Own w base e sz A m cp cs) {j : Nat} {u : Value} (hj : cs[j]? = some u) :
    A = some (adr A) ∧ w.cell? ((adr A).add j) = some u := by
  rcases h.2 with ⟨hv, hm⟩ | ⟨g, cap, cur, hv, _⟩
  · have := h.1; rw [hm] at this; simp at this; subst this; simp at hj
  · injection hv with hA _ _
    subst hA
    exact ⟨rfl, h.cells (g := g) rfl j u hj⟩
theorem own_ext {w w1 : World} {base : Nat} {e : TypeId} {sz : Nat} {A : Option Addr} {m cp : Nat} {cs : List Value} (h : Own w base e sz A m cp cs) (he : Ext w w1) : Own w1 base e sz A m cp cs :=
  h.kept (he.grownBy none) (by cases hv : (Value.slice A m cp).ownBlock <;> simp)
theorem own_kept {w w1 : World} {base : Nat} {e : TypeId} {sz : Nat} {A : Option Addr} {m cp : Nat} {cs : List Value} (h : Own w base e sz A m cp cs) {row : Option Nat} (hg : w.grownBy w1 row) (hne : ∀ k, blk A = some k → row ≠ some k) : Own w1 base e sz A m cp cs :=
  h.kept hg (by
    rw [ownBlock_eq]
    cases hb : blk A with
    | none => exact .inl rfl
    | some k => exact .inr fun e => hne k hb e.symm)
theorem own_base {w : World} {base base' : Nat} {e : TypeId} {sz : Nat} {A : Option Addr} {m cp : Nat} {cs : List Value} (h : Own w base e sz A m cp cs) (hb : base' ≤ base) : Own w base' e sz A m cp cs := by
  refine ⟨h.1, ?_⟩
  rcases h.2 with h2 | ⟨g, cap, cur, hv, hg, r⟩
  · exact .inl h2
  · exact .inr ⟨g, cap, cur, hv, Nat.le_trans hb hg, r⟩
theorem own_nil (w : World) (base : Nat) (e : TypeId) (sz : Nat) : Own w base e sz none 0 0 [] := World.ownsRow_nil w base e sz

def ints (l : List Int) : List Value := l.map (Value.int .i64)
theorem ints_get {l : List Int} {k : Nat} (hk : k < l.length) : (ints l)[k]? = some (.int .i64 (l.getD k 0)) := by simp [ints, hk]
theorem ints_len (l : List Int) : (ints l).length = l.length := by simp [ints]
theorem ints_one (l : List Int) : ∀ u ∈ ints l, u.oneCell' = true := by
  intro u hu
  obtain ⟨x, _, rfl⟩ := List.mem_map.1 hu
  rfl
theorem Ints.of_own {w : World} {base : Nat} {e : TypeId} {A : Option Addr} {m cp : Nat} {l : List Int} (h : Own w base e 1 A m cp (ints l)) (hr : ∀ x ∈ l, In64 x) : Ints w A l :=
  ⟨fun _ hk => own_cell h (ints_get hk), hr⟩
theorem own_ints_len {w : World} {base : Nat} {e : TypeId} {A : Option Addr} {m cp : Nat} {l : List Int} (h : Own w base e 1 A m cp (ints l)) : m = l.length := by
  have := h.1; rw [ints_len] at this; omega

/-! values put side by side -/
theorem foldl_seg (off : Nat) : ∀ (cs : List Value) (k : Nat) (a : Array Value), off + k + cs.length ≤ a.size →
    (cs.zipIdx k).foldl (fun (A : Array Value) (p : Value × Nat) => A.setIfInBounds (off + p.2) p.1) a = (a.toList.take (off + k) ++ cs ++ a.toList.drop (off + k + cs.length)).toArray
  | [], k, a, _ => by simp
  | c :: cs, k, a, h => by
    simp only [List.zipIdx_cons, List.foldl_cons]
    simp only [List.length_cons] at h
    rw [foldl_seg off cs (k + 1) _ (by simp; omega)]
    congr 1
    have := list_seg_step a.toList (off + k) c cs (by simp; omega)
    simp only [Array.toList_setIfInBounds, List.length_cons]
    rw [← Nat.add_assoc off k 1]
    exact this
theorem fill_seg (off : Nat) (cs : List Value) (a : Array Value) (h : off + cs.length ≤ a.size) :
    cs.toArray.zipIdx.foldl (fun (A : Array Value) (p : Value × Nat) => A.setIfInBounds (off + p.2) p.1) a = (a.toList.take off ++ cs ++ a.toList.drop (off + cs.length)).toArray := by
  have := foldl_seg off cs 0 a (by omega)
  rw [← Array.foldl_toList]
  simpa using this
def numbered (k : Nat) : List Value → List (Nat × Value)
  | [] => []
  | v :: vs => (k, v) :: numbered (k + 1) vs
theorem fill_all (sz : Nat) : ∀ (vs : List Value) (pre post : List Value) (k : Nat), pre.length = k * sz → post.length = vs.length * sz → (∀ v ∈ vs, v.cells.size = sz) →
    Instr.fill (fun i => some (i * sz, sz)) (pre ++ post).toArray (numbered k vs) = some (pre ++ vs.flatMap (·.cells.toList)).toArray
  | [], pre, post, k, _, hp, _ => by
    have : post = [] := List.eq_nil_of_length_eq_zero (by simpa using hp)
    subst this; simp [numbered, Instr.fill]
  | v :: vs, pre, post, k, hk, hp, hs => by
    have hv : v.cells.size = sz := hs v (by simp)
    simp only [List.length_cons, Nat.succ_mul] at hp
    have hc : ¬ ((v.cells.size ≠ sz || k * sz + v.cells.size > (pre ++ post).toArray.size) = true) := by
      simp only [hv, List.size_toArray, List.length_append, hk, hp]; simp
    have hf := fill_seg (k * sz) v.cells.toList (pre ++ post).toArray (by simp [hk, hp, hv])
    simp only [Array.toArray_toList] at hf
    simp only [numbered, Instr.fill, if_neg hc]
    rw [hf]
    have h1 : (pre ++ post).toArray.toList.take (k * sz) = pre := by simp [← hk]
    have h2 : (pre ++ post).toArray.toList.drop (k * sz + v.cells.toList.length) = post.drop sz := by
      simp [hv, ← hk, List.drop_append]
    rw [h1, h2]
    have := fill_all sz vs (pre ++ v.cells.toList) (post.drop sz) (k + 1) (by simp [hk, hv, Nat.succ_mul]) (by simp [hp]) (fun u hu => hs u (by simp [hu]))
    rw [this]
    simp

class TEl (P : Program) (e : TypeId) (sz by_ : outParam Nat) : Prop where
  inf : ∃ i z, P.info? e = some i ∧ i.size = sz ∧ i.bytes = by_ ∧ i.zero = some z ∧ z.cells.size = sz
  pos : 0 < sz

section
variable {P : Program} {n : Nat} {Q : Exit → Fr → World → Prop} {f : Fr} {w : World} {ops : Array Oper} {rest : List Oper} {d : Nat} {ty : TypeId} {pos : String} {aft : Array Edge} {v : Value} {x y : Operand}

theorem wl_alloc1 {t : TypeId} {z : Value} [h : TOne P t z] (k : ∀ w1 b, New w w1 b (.cells #[z] t (0, 0)) → WL P n ops Q rest (upd f d (.pointer (some ⟨b, 0, none⟩))) w1) :
    WL P n ops Q (⟨some d, .alloc t, ty, pos, aft, none⟩ :: rest) f w :=
  wl_val (v := .pointer (some ⟨w.heap.size, 0, none⟩)) (w' := w.alloc (.cells #[z] t (0, 0)))
    (by intro d pos aft g; simp [execOp, Instr.alloc, h.zer, newVar, newRow, newObj, Sem.run, h.one]) (k _ _ (New.mk' w _))
theorem wl_allocA {t : TypeId} {sz : Nat} {z : List Value} [h : TAgg P t sz z] (k : ∀ w1 b, New w w1 b (.cells z.toArray t (0, 0)) → WL P n ops Q rest (upd f d (.pointer (some ⟨b, 0, none⟩))) w1) :
    WL P n ops Q (⟨some d, .alloc t, ty, pos, aft, none⟩ :: rest) f w :=
  wl_val (v := .pointer (some ⟨w.heap.size, 0, none⟩)) (w' := w.alloc (.cells z.toArray t (0, 0)))
    (by intro d pos aft g; simp [execOp, Instr.alloc, h.zer, newVar, newRow, newObj, Sem.run, Value.cells]) (k _ _ (New.mk' w _))
theorem wl_box {t : TypeId} {cs : Array Value} (hx : ev n f x = v) (hv : v.cells = cs) (k : ∀ w1 b, New w w1 b (.cells cs t (0, 0)) → WL P n ops Q rest (upd f d (.pointer (some ⟨b, 0, none⟩))) w1) :
    WL P n ops Q (⟨some d, .box t x, ty, pos, aft, none⟩ :: rest) f w :=
  wl_val (v := .pointer (some ⟨w.heap.size, 0, none⟩)) (w' := w.alloc (.cells cs t (0, 0)))
    (by intro d pos aft g; simp [execOp, Instr.box, hx, newVar, newRow, newObj, Sem.run, hv]) (k _ _ (New.mk' w _))
/-- A store of cs into a block at off. -/
theorem wl_store {t te : TypeId} {g off : Nat} {a : Addr} {cur : Array Value} {cs : List Value} (hx : ev n f x = .pointer (some a)) (ha : a = ⟨g, off, none⟩) (hy : ev n f y = v) (hv : v.cells.toList = cs)
    (hsz : ∀ w, (sizeOf t).run P w = .ok cs.length w) (hone : cs.all (·.oneCell') = true) (hg : w.heap[g]? = some (.cells cur te (0, 0))) (hoff : off + cs.length ≤ cur.size)
    (k : ∀ w1, Wrt w w1 g → w1.heap[g]? = some (.cells (cur.toList.take off ++ cs ++ cur.toList.drop (off + cs.length)).toArray te (0, 0)) → WL P n ops Q rest f w1) :
    WL P n ops Q (⟨none, .store t x y, ty, pos, aft, none⟩ :: rest) f w :=
  wl_skip (w' := w.setRow g (cur.toList.take off ++ cs ++ cur.toList.drop (off + cs.length)).toArray)
    (by
      intro d pos aft gg
      have hst := run_storeCells_at P g off te cs 0 cur w hg (by omega) (fun v hv => List.all_eq_true.1 hone v hv)
      have hsz' : v.cells.size = cs.length := by rw [← hv]; simp
      simp [execOp, Instr.storeAt, Instr.sureAddr, storeVar, hx, hy, hsz, hsz', hv, ha, hst])
    (k _ (Wrt.mk' w g _) (setRow_heap w g cur _ te _ hg))
theorem wl_bslice {t e : TypeId} {sz by_ : Nat} {parts : List (Nat × Operand)} {vs : List Value} [ht : TSl P t e sz by_] [he : TEl P e sz by_] (len : Nat)
    (hp : parts.map (fun p => (p.1, ev n f p.2)) = numbered 0 vs) (hl : vs.length = len) (hs : ∀ v ∈ vs, v.cells.size = sz) (hsmall : len * sz ≤ 16777216)
    (k : ∀ w1 b, New w w1 b (.cells (vs.flatMap (·.cells.toList)).toArray e (0, 0)) → Own w1 b e sz (some ⟨b, 0, none⟩) len len (vs.flatMap (·.cells.toList)) → WL P n ops Q rest (upd f d (.slice (some ⟨b, 0, none⟩) len len)) w1) :
    WL P n ops Q (⟨some d, .buildSlice t len parts.toArray, ty, pos, aft, none⟩ :: rest) f w := by
  obtain ⟨i, z, hi, hisz, _, hz, hzs⟩ := he.inf
  have hpos := he.pos
  have hflen : (vs.flatMap (·.cells.toList)).length = len * sz := by
    subst hl
    clear hp k hsmall
    induction vs with
    | nil => simp
    | cons v vs ih => simp [Nat.succ_mul, hs v (by simp)]; have := ih (fun u hu => hs u (by simp [hu])); simp at this; omega
  refine wl_val (v := .slice (some ⟨w.heap.size, 0, none⟩) len len) (w' := w.alloc (.cells (vs.flatMap (·.cells.toList)).toArray e (0, 0))) ?_ (k _ _ (New.mk' w _) ?_)
  · intro d pos aft g
    have hfill : ∀ zs : Array Value, zs.size = len * sz → Instr.fill (fun i => some (i * sz, sz)) zs (numbered 0 vs) = some (vs.flatMap (·.cells.toList)).toArray := by
      intro zs hzs
      have := fill_all sz vs [] zs.toList 0 (by simp) (by simp [hzs, hl]) hs
      simpa using this
    have hp' : (parts.toArray.map fun (p : Nat × Operand) => (p.1, ev n f p.2)).toList = numbered 0 vs := by simpa using hp
    simp only [execOp, Instr.buildSlice, hp', run_underlying ht.und, sizeOf, typeInfo, program, Sem.run_bind, Sem.run, hi, Sem.run_pure, Result.andThen_ok, hisz]
    rw [if_neg (by omega)]
    by_cases h0 : len * sz = 0
    · rw [if_pos h0]
      have h2 := hfill ((Array.range (len * sz)).map ((#[] : Array Value)[· % (#[] : Array Value).size]!)) (by simp)
      simp only [Sem.run_bind, Sem.run_pure, Result.andThen_ok, pure, Sem.run]
      rw [h2]
      simp [newRow, newObj, Sem.run]
    · rw [if_neg h0]
      simp only [zeroValue, typeInfo, program, Sem.run_bind, Sem.run, hi, Sem.run_pure, Result.andThen_ok, hz]
      rw [hfill _ (by simp)]
      simp [newRow, newObj, Sem.run]
  · refine ⟨hflen, .inr ⟨w.heap.size, len, _, rfl, Nat.le_refl _, heap_alloc_new w _, Nat.le_refl _, ?_, by simpa using hflen, ?_⟩⟩
    · have : len ≤ len * sz := Nat.le_mul_of_pos_right _ hpos
      simp only [maxLen]; omega
    · exact List.take_of_length_le (by simp only [List.length_append, hflen]; omega)
/-- The source of an append. -/
def Src (w : World) (B : Option Addr) (news : List Value) : Prop := ∀ j u, news[j]? = some u → B = some (adr B) ∧ w.cell? ((adr B).add j) = some u
theorem src_ints {A : Option Addr} {l : List Int} (h : Ints w A l) : Src w A (ints l) := by
  intro j u hj
  have hlt : j < l.length := by
    have := (List.getElem?_eq_some_iff.1 hj).1
    rwa [ints_len] at this
  rw [ints_get hlt] at hj
  injection hj with hj
  subst hj
  exact h.get j hlt
theorem src_own {base : Nat} {e : TypeId} {sz : Nat} {A : Option Addr} {m cp : Nat} {cs : List Value} (h : Own w base e sz A m cp cs) : Src w A cs := fun _ _ hj => own_cell h hj
theorem wl_append {t e : TypeId} {sz by_ : Nat} {A B : Option Addr} {m cp kk c2 : Nat} {xs news : List Value} {base : Nat} [ht : TSl P t e sz by_] [he : TEl P e sz by_]
    (hown : Own w base e sz A m cp xs) (hsrc : Src w B news) (hx : ev n f x = .slice A m cp) (hy : ev n f y = .slice B kk c2)
    (hl : news.length = kk * sz) (h1 : ∀ u ∈ news, u.oneCell' = true) (hbig : (m + kk) * by_ ≤ 140737488355328) (h63 : m + kk ≤ 140737488355328) (hbase : base ≤ w.heap.size)
    (k : ∀ A' cp' w1, Own w1 base e sz A' (m + kk) cp' (xs ++ news) → w.grownBy w1 (blk A) → WL P n ops Q rest (upd f d (.slice A' (m + kk) cp')) w1) :
    WL P n ops Q (⟨some d, .call { callee := .builtin .append, args := #[x, y], argTypes := #[t, t] }, ty, pos, aft, none⟩ :: rest) f w := by
  obtain ⟨i, z, hi, hisz, hiby, hz, hzs⟩ := he.inf
  have main : ∃ A' cp' w1, (Builtin.append_ #[t, t] ty #[.slice A m cp, .slice B kk c2]).run P w = .ok (.slice A' (m + kk) cp') w1 ∧ Own w1 base e sz A' (m + kk) cp' (xs ++ news) ∧ w.grownBy w1 (blk A) := by
    by_cases h0 : kk = 0
    · subst h0
      have hn : news = [] := List.eq_nil_of_length_eq_zero (by simpa using hl)
      subst hn
      have hcap := (own_cap hown).1
      refine ⟨A, cp, w, ?_, by simpa using hown, ⟨rfl, rfl, rfl, Nat.le_refl _, fun _ _ _ => rfl⟩⟩
      cases B with
      | none =>
        cases A with
        | none => simp [Builtin.append_, run_underlying ht.und, sizeOf, typeInfo, program, Sem.run, hi, Builtin.lenOf, Builtin.firstCells, hcap, storeCells]
        | some a => simp [Builtin.append_, run_underlying ht.und, sizeOf, typeInfo, program, Sem.run, hi, Builtin.lenOf, Builtin.firstCells, hcap, storeCells]
      | some b =>
        cases A with
        | none => simp [Builtin.append_, run_underlying ht.und, sizeOf, typeInfo, program, Sem.run, hi, Builtin.lenOf, Builtin.firstCells, hcap, storeCells, loadCells, loadCellsFrom]
        | some a => simp [Builtin.append_, run_underlying ht.und, sizeOf, typeInfo, program, Sem.run, hi, Builtin.lenOf, Builtin.firstCells, hcap, storeCells, loadCells, loadCellsFrom]
    · have hpos := he.pos
      have hne : 0 < news.length := by rw [hl]; exact Nat.mul_pos (by omega) hpos
      obtain ⟨hB, _⟩ := hsrc 0 news[0] (by simp [hne])
      obtain ⟨v', w', hr, h2, h3, _⟩ := run_append_own (P := P) w base t ty e i z sz by_ ht.und hi hz hisz hiby hzs hpos (.slice A m cp) m xs hown (adr B) kk c2 news hl (fun j u hu => (hsrc j u hu).2) h1
        (by simp only [maxLen]; omega) hbig hbase
      rw [← hB] at hr
      rw [ownBlock_eq] at h3
      rcases h2.2 with ⟨_, hm⟩ | ⟨g, cap, cur, hv, _⟩
      · omega
      · subst hv
        exact ⟨_, _, _, hr, h2, h3⟩
  obtain ⟨A', cp', w1, hrun, ho, hg⟩ := main
  refine wl_val (v := .slice A' (m + kk) cp') (w' := w1) ?_ (k A' cp' w1 ho hg)
  intro d pos aft g
  simp [execOp, resolve, invoke, builtin, hx, hy, hrun]
end
end Go.Fw
