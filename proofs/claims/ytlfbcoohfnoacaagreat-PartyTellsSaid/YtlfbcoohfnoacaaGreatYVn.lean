/- More operations: parts of elements, nested structures, bits, numbers that wrap. -/
import Derived.Test.YtlfbcoohfnoacaaGreatYWo
set_option linter.unusedSimpArgs false
set_option linter.unusedVariables false
namespace Go.Fw
open Go.RowKit
section
variable {md : Md} {P : Program} {n : Nat} {Q : HQ} {f : Fr} {w0 : World} {H R : List HP} {ops : Array Oper} {rest : List Oper} {d : Nat} {op : Op} {ty : TypeId} {pos : String} {aft : Array Edge} {v : Value} {x y c : Operand}
/-! parts -/
theorem take_drop_get {α : Type} {l m : List α} {off sz j : Nat} {u : α} (h : (l.drop off).take sz = m) (hj : m[j]? = some u) : l[off + j]? = some u := by
  rw [← h, List.getElem?_take] at hj
  split at hj
  · rwa [List.getElem?_drop] at hj
  · cases hj
/-- Part of an element is loaded. -/
theorem lrs {α : Type} [F : Flat α] {t : TypeId} {S sz off i : Nat} {z cs : List Value} {A : Option Addr} {l : List α} [TAgg P t sz z] (hx : ev n f x = .pointer (some (((adr A).add (i * S)).add off))) (hr : ∀ w, Wd w0 (vis md H) w → Rd w A l) (hS : S = F.sz) (h1 : i < l.length)
    (hc : ((F.enc (l.getD i F.dflt)).drop off).take sz = cs) (hl : cs.length = sz) (k : SH (nx md) P n ops Q rest (upd f d (.agg cs.toArray)) w0 H) : SH md P n ops Q (⟨some d, .load t x, ty, pos, aft, none⟩ :: rest) f w0 H := s_val (fun w hw => ox_loadA hx (fun j u hj => by
      subst hS
      have := (hr w hw (i * F.sz + (off + j)) u (encs_get h1 (take_drop_get hc hj))).2
      rw [add_add, add_add]
      exact this) hl) k
/-- Part of a block is loaded. -/
theorem lbs {t te : TypeId} {sz b off : Nat} {z bs cs : List Value} [TAgg P t sz z] (hx : ev n f x = .pointer (some ⟨b, off, none⟩)) (hs : Split (vis md H) (bx b te bs) R) (hc : (bs.drop off).take sz = cs) (hl : cs.length = sz)
    (k : SH (nx md) P n ops Q rest (upd f d (.agg cs.toArray)) w0 H) : SH md P n ops Q (⟨some d, .load t x, ty, pos, aft, none⟩ :: rest) f w0 H := s_val (fun w hw => ox_loadA hx (fun j u hj => by
      have := hw.cell (off := off + j) hs (take_drop_get hc hj)
      have e : (⟨b, off, none⟩ : Addr).add j = ⟨b, off + j, none⟩ := by
        by_cases hj0 : j = 0
        · subst hj0; simp [Addr.add]
        · simp [Addr.add, hj0]
      rw [e]; exact this) hl) k
/-- Part of a block is stored. -/
theorem sbs {t te : TypeId} {sz b off : Nat} {z bs cs : List Value} [h : TAgg P t sz z] (hm : addOK md = true) (hx : ev n f x = .pointer (some ⟨b, off, none⟩)) (hy : ev n f y = .agg cs.toArray) (hs : Split H (bx b te bs) R) (hl : cs.length = sz) (hone : cs.all (·.oneCell') = true) (hoff : off + cs.length ≤ bs.length)
    (hk : keeps md (bx b te (bs.take off ++ cs ++ bs.drop (off + cs.length)) :: R)) (k : SH (nx md) P n ops Q rest f w0 (bx b te (bs.take off ++ cs ++ bs.drop (off + cs.length)) :: R)) : SH md P n ops Q (⟨none, .store t x y, ty, pos, aft, none⟩ :: rest) f w0 H :=
  s_mut hm fun w hw => wl_store (cs := cs) hx rfl hy (by simp [Value.cells]) (fun w => by rw [hl]; exact h.siz w) hone (hw.box hs).1 (by simpa using hoff) fun w1 hw1 hb => wl_nil ⟨rfl, _, hk, k, hw.setBox hs hw1 (by rw [hb])⟩
/-- Part of an element is stored. -/
theorem sts {α : Type} [F : Flat α] {t e : TypeId} {z cs : List Value} {sz S off : Nat} {A : Option Addr} {cp i : Nat} {l : List α} (x' : α) [h : TAgg P t sz z] (hm : addOK md = true) (hx : ev n f x = .pointer (some (((adr A).add (i * S)).add off))) (hy : ev n f y = .agg cs.toArray) (hs : Split H (orow e A cp l) R) (hS : S = F.sz) (hi : i < l.length) (hl : cs.length = sz) (hone : cs.all (·.oneCell') = true) (hoff : off + sz ≤ S)
    (hx' : F.enc x' = (F.enc (l.getD i F.dflt)).take off ++ cs ++ (F.enc (l.getD i F.dflt)).drop (off + cs.length)) (hk : keeps md (orow e A cp (l.set i x') :: R)) (k : SH (nx md) P n ops Q rest f w0 (orow e A cp (l.set i x') :: R)) : SH md P n ops Q (⟨none, .store t x y, ty, pos, aft, none⟩ :: rest) f w0 H :=
  s_wh hm (wh_setR (off := off) (cs := cs) (x' := x') (by rw [hx, add_add]) hy hs hS hi (by simp [Value.cells]) (fun w => by rw [hl]; exact h.siz w) hone (by rw [hl]; omega) (by rw [hx']) (wh_nil ⟨rfl, hk, k⟩))
/-- A structure whose fields may have several cells each. -/
class TStN (P : Program) (t : TypeId) (pl : outParam (List (Nat × Nat))) (zs : outParam (List Value)) : Prop where
  und : ∃ fs, P.underlying t = some (.struct fs) ∧ ∀ w, (fs.mapM fun (f : Field) => do pure (f.offset, ← sizeOf f.type)).run P w = .ok pl.toArray w
  zer : ∀ w, (zeroValue t).run P w = .ok (.agg zs.toArray) w
theorem ox_buildN {w : World} {t : TypeId} {pl : List (Nat × Nat)} {zs cs : List Value} {parts : List (Nat × Operand)} [h : TStN P t pl zs] (hf : Instr.fill (pl.toArray[·]?) zs.toArray (parts.map fun p => (p.1, ev n f p.2)) = some cs.toArray) : OX P n f (.build t parts.toArray) ty w (.agg cs.toArray) w := by
  intro d pos aft g
  obtain ⟨fs, hu, hm⟩ := h.und
  have hp' : (parts.toArray.map fun (p : Nat × Operand) => (p.1, ev n f p.2)).toList = parts.map fun p => (p.1, ev n f p.2) := by simp
  simp only [execOp, Instr.build, h.zer, run_underlying hu, Sem.run_bind, Sem.run_pure, Result.andThen_ok, Value.cells, hm, hp']
  rw [hf]
  simp
theorem bldN {t : TypeId} {pl : List (Nat × Nat)} {zs cs : List Value} {parts : List (Nat × Operand)} [TStN P t pl zs] (hf : Instr.fill (pl.toArray[·]?) zs.toArray (parts.map fun p => (p.1, ev n f p.2)) = some cs.toArray)
    (k : SH (nx md) P n ops Q rest (upd f d (.agg cs.toArray)) w0 H) : SH md P n ops Q (⟨some d, .build t parts.toArray, ty, pos, aft, none⟩ :: rest) f w0 H := s_val (fun w hw => ox_buildN hf) k
/-- An array value, of elements of sz cells each. -/
class TArB (P : Program) (t : TypeId) (sz : outParam Nat) (zs : outParam (List Value)) : Prop where
  und : ∃ len e, P.underlying t = some (.array len e) ∧ ∀ w, (sizeOf e).run P w = .ok sz w
  zer : ∀ w, (zeroValue t).run P w = .ok (.agg zs.toArray) w
theorem ox_buildA {w : World} {t : TypeId} {sz : Nat} {zs cs : List Value} {parts : List (Nat × Operand)} [h : TArB P t sz zs] (hf : Instr.fill (fun i => some (i * sz, sz)) zs.toArray (parts.map fun p => (p.1, ev n f p.2)) = some cs.toArray) : OX P n f (.build t parts.toArray) ty w (.agg cs.toArray) w := by
  intro d pos aft g
  obtain ⟨len, e, hu, hm⟩ := h.und
  have hp' : (parts.toArray.map fun (p : Nat × Operand) => (p.1, ev n f p.2)).toList = parts.map fun p => (p.1, ev n f p.2) := by simp
  simp only [execOp, Instr.build, h.zer, run_underlying hu, Sem.run_bind, Sem.run_pure, Result.andThen_ok, Value.cells, hm, hp']
  rw [hf]
  simp
theorem bldA {t : TypeId} {sz : Nat} {zs cs : List Value} {parts : List (Nat × Operand)} [TArB P t sz zs] (hf : Instr.fill (fun i => some (i * sz, sz)) zs.toArray (parts.map fun p => (p.1, ev n f p.2)) = some cs.toArray)
    (k : SH (nx md) P n ops Q rest (upd f d (.agg cs.toArray)) w0 H) : SH md P n ops Q (⟨some d, .build t parts.toArray, ty, pos, aft, none⟩ :: rest) f w0 H := s_val (fun w hw => ox_buildA hf) k
/-- Zero values. -/
theorem bldZ {t : TypeId} {sz : Nat} {zs : List Value} [TArB P t sz zs] (k : SH (nx md) P n ops Q rest (upd f d (.agg zs.toArray)) w0 H) : SH md P n ops Q (⟨some d, .build t #[], ty, pos, aft, none⟩ :: rest) f w0 H := bldA (parts := []) (cs := zs) (by simp [Instr.fill]) k
theorem bldZN {t : TypeId} {pl : List (Nat × Nat)} {zs : List Value} [TStN P t pl zs] (k : SH (nx md) P n ops Q rest (upd f d (.agg zs.toArray)) w0 H) : SH md P n ops Q (⟨some d, .build t #[], ty, pos, aft, none⟩ :: rest) f w0 H := bldN (parts := []) (cs := zs) (by simp [Instr.fill]) k
/-- An array value, of elements that are data. -/
theorem bldV {α : Type} [F : Flat α] {t : TypeId} {sz : Nat} {zs : List Value} {parts : List (Nat × Operand)} {l : List α} [TArB P t sz zs] (hp : parts.map (·.1) = List.range' 0 parts.length) (hl : Vals (parts.map fun p => ev n f p.2) l) (hsz : sz = F.sz) (hz : zs.length = l.length * sz)
    (k : SH (nx md) P n ops Q rest (upd f d (.agg (encs l).toArray)) w0 H) : SH md P n ops Q (⟨some d, .build t parts.toArray, ty, pos, aft, none⟩ :: rest) f w0 H := by
  obtain ⟨h1, h2, h3⟩ := hl.flat
  refine bldA (cs := encs l) ?_ k
  rw [numbered_of (ev n f) parts 0 hp]
  have := fill_all sz (parts.map fun p => ev n f p.2) [] zs 0 (by simp) (by rw [hz, h2]) (fun v hv => by rw [hsz]; exact h3 v hv)
  rw [h1] at this
  simpa using this
/-- An element of an array value: an aggregate. -/
class TIdx (P : Program) (t : TypeId) (len sz : outParam Nat) (agg : outParam Bool) : Prop where
  und : ∃ e, P.underlying t = some (.array len e) ∧ (∀ w, (sizeOf e).run P w = .ok sz w) ∧ ∀ w, (isAgg e).run P w = .ok agg w
theorem ox_idxA {w : World} {t : TypeId} {len sz i : Nat} {K : IntKind} {j : Int} {bs cs : List Value} [h : TIdx P t len sz true] (hx : ev n f x = .agg bs.toArray) (hy : ev n f y = .int K j) (hj : j = (i : Int)) (hi : i < len) (hc : (bs.drop (i * sz)).take sz = cs) (hl : cs.length = sz) :
    OX P n f (.index t x y) ty w (.agg cs.toArray) w := by
  intro d pos aft g
  subst hj
  obtain ⟨e, hu, hs, ha⟩ := h.und
  simp [execOp, hx, hy, Instr.index, asIntOf, run_underlying hu, hs, ha, part, show i < len from hi]
  exact hc
theorem idxA {t : TypeId} {len sz i : Nat} {K : IntKind} {j : Int} {bs cs : List Value} [TIdx P t len sz true] (hx : ev n f x = .agg bs.toArray) (hy : ev n f y = .int K j) (hj : j = (i : Int)) (hi : i < len) (hc : (bs.drop (i * sz)).take sz = cs) (hl : cs.length = sz)
    (k : SH (nx md) P n ops Q rest (upd f d (.agg cs.toArray)) w0 H) : SH md P n ops Q (⟨some d, .index t x y, ty, pos, aft, none⟩ :: rest) f w0 H := s_val (fun w hw => ox_idxA hx hy hj hi hc hl) k
/-! function values -/
theorem fun1_of {α : Type} {P : Program} {w : World} {g : FuncId} {arg res : α → Value} {ok : α → Prop} (h : ∀ w', Ext w w' → ∀ x, ok x → Ret P g [arg x].toArray w' (Out w' (res x))) : Fun1 P w (.func (.func g) #[] #[]) arg res ok :=
  ⟨g, #[], #[], rfl, fun w' he x hx => by have := h w' he x hx; simpa using this⟩
theorem fun1_cap {α : Type} {P : Program} {w : World} {g : FuncId} {arg res : α → Value} {ok : α → Prop} {c : Value} (h : ∀ w', Ext w w' → ∀ x, ok x → Ret P g [arg x, c].toArray w' (Out w' (res x))) : Fun1 P w (.func (.func g) #[] #[c]) arg res ok :=
  ⟨g, #[], #[c], rfl, fun w' he x hx => by have := h w' he x hx; simpa using this⟩
theorem fun1_fst {α : Type} {P : Program} {w : World} {g : FuncId} {arg res : α → Value} {ok : α → Prop} {c : Value} (h : ∀ w', Ext w w' → ∀ x, ok x → Ret P g [c, arg x].toArray w' (Out w' (res x))) : Fun1 P w (.func (.func g) #[c] #[]) arg res ok :=
  ⟨g, #[c], #[], rfl, fun w' he x hx => by have := h w' he x hx; simpa using this⟩
/-! what lies at a place that is known: a captured or a package-level variable -/
theorem rd_one {α : Type} [F : Flat α] {w : World} {a : Addr} {u : α} {j : Nat} {v : Value} (h : Rd w (some a) [u]) (hj : (F.enc u)[j]? = some v) : w.cell? (a.add j) = some v := by
  have h1 := h j v (by rw [encs_cons, encs_nil, List.append_nil]; exact hj)
  exact h1.2
theorem lca {α : Type} [F : Flat α] {t : TypeId} {sz : Nat} {z : List Value} {a : Addr} {u : α} [TAgg P t sz z] (hx : ev n f x = .pointer (some a)) (hr : ∀ w, Wd w0 (vis md H) w → Rd w (some a) [u]) (hsz : sz = F.sz)
    (k : SH (nx md) P n ops Q rest (upd f d (.agg (F.enc u).toArray)) w0 H) : SH md P n ops Q (⟨some d, .load t x, ty, pos, aft, none⟩ :: rest) f w0 H := s_val (fun w hw => ox_loadA hx (fun j v hj => rd_one (hr w hw) hj) (by rw [F.len, hsz])) k
theorem lcs {α : Type} [F : Flat α] {t : TypeId} {z : Value} {a : Addr} {u : α} [TOne P t z] (hx : ev n f x = .pointer (some a)) (hr : ∀ w, Wd w0 (vis md H) w → Rd w (some a) [u]) (hv : F.enc u = [v])
    (k : SH (nx md) P n ops Q rest (upd f d v) w0 H) : SH md P n ops Q (⟨some d, .load t x, ty, pos, aft, none⟩ :: rest) f w0 H := lcell hx (fun w hw => by
      have := rd_one (hr w hw) (j := 0) (v := v) (by rw [hv]; rfl)
      simpa [Addr.add] using this) k
theorem lcf {α : Type} [F : Flat α] {t : TypeId} {z : Value} {a : Addr} {off : Nat} {u : α} [TOne P t z] (hx : ev n f x = .pointer (some (a.add off))) (hr : ∀ w, Wd w0 (vis md H) w → Rd w (some a) [u]) (hv : (F.enc u)[off]? = some v)
    (k : SH (nx md) P n ops Q rest (upd f d v) w0 H) : SH md P n ops Q (⟨some d, .load t x, ty, pos, aft, none⟩ :: rest) f w0 H := lcell hx (fun w hw => rd_one (hr w hw) hv) k
/-- What a block of one's own reads as. -/
theorem rd_box {α : Type} [F : Flat α] {w : World} {b : Nat} {t : TypeId} {cs : List Value} {u : α} (hw : Wd w0 H w) (hs : Split H (bx b t cs) R) (hc : cs = F.enc u) : Rd w (some ⟨b, 0, none⟩) [u] := fun j v hj => by
  rw [encs_cons, encs_nil, List.append_nil, ← hc] at hj
  have := hw.cell (off := j) hs hj
  refine ⟨rfl, ?_⟩
  have e : (adr (some (⟨b, 0, none⟩ : Addr))).add j = ⟨b, j, none⟩ := by
    show (⟨b, 0, none⟩ : Addr).add j = _
    by_cases hj0 : j = 0
    · subst hj0; simp [Addr.add]
    · simp [Addr.add, hj0]
  rw [e]; exact this
/-! numbers -/
theorem addw {K : IntKind} {a b : Int} {t1 t2 : TypeId} (hx : ev n f x = .int K a) (hy : ev n f y = .int K b) (r : Int) (hr : K.wrap (a + b) = r) (k : SH (nx md) P n ops Q rest (upd f d (.int K r)) w0 H) : SH md P n ops Q (⟨some d, .binOp .add t1 x y t2, ty, pos, aft, none⟩ :: rest) f w0 H := s_val (fun w hw => by
  intro d pos aft g; subst hr; simp [execOp, hx, hy, eqGuard, binOp, Op.intArith]) k
theorem subw {K : IntKind} {a b : Int} {t1 t2 : TypeId} (hx : ev n f x = .int K a) (hy : ev n f y = .int K b) (r : Int) (hr : K.wrap (a - b) = r) (k : SH (nx md) P n ops Q rest (upd f d (.int K r)) w0 H) : SH md P n ops Q (⟨some d, .binOp .sub t1 x y t2, ty, pos, aft, none⟩ :: rest) f w0 H := s_val (fun w hw => by
  intro d pos aft g; subst hr; simp [execOp, hx, hy, eqGuard, binOp, Op.intArith]) k
theorem mulw {K : IntKind} {a b : Int} {t1 t2 : TypeId} (hx : ev n f x = .int K a) (hy : ev n f y = .int K b) (r : Int) (hr : K.wrap (a * b) = r) (k : SH (nx md) P n ops Q rest (upd f d (.int K r)) w0 H) : SH md P n ops Q (⟨some d, .binOp .mul t1 x y t2, ty, pos, aft, none⟩ :: rest) f w0 H := s_val (fun w hw => by
  intro d pos aft g; subst hr; simp [execOp, hx, hy, eqGuard, binOp, Op.intArith]) k
theorem negw {K : IntKind} {a : Int} {t1 : TypeId} (hx : ev n f x = .int K a) (r : Int) (hr : K.wrap (0 - a) = r) (k : SH (nx md) P n ops Q rest (upd f d (.int K r)) w0 H) : SH md P n ops Q (⟨some d, .unOp .neg t1 x, ty, pos, aft, none⟩ :: rest) f w0 H := s_val (fun w hw => by
  subst hr; exact ox_neg hx) k
theorem cnvw {s t : TypeId} {ks k0 : IntKind} {a : Int} [TInt P s ks] {K : IntKind} [TInt P t K] (hx : ev n f x = .int k0 a) (r : Int) (hr : K.wrap a = r) (k : SH (nx md) P n ops Q rest (upd f d (.int K r)) w0 H) : SH md P n ops Q (⟨some d, .convert s t x, ty, pos, aft, none⟩ :: rest) f w0 H := by subst hr; exact cnv hx k
theorem shlw {K kk : IntKind} {a b : Int} {t1 t2 : TypeId} (hx : ev n f x = .int K a) (hy : ev n f y = .int kk b) (h0 : 0 ≤ b) (r : Int) (hr : K.wrap (a * 2 ^ (min b.toNat K.bits)) = r) (k : SH (nx md) P n ops Q rest (upd f d (.int K r)) w0 H) : SH md P n ops Q (⟨some d, .binOp .shl t1 x y t2, ty, pos, aft, none⟩ :: rest) f w0 H := s_val (fun w hw => by
  intro d pos aft g; subst hr; simp [execOp, hx, hy, eqGuard, binOp, Op.shift, show ¬ b < 0 by omega]) k
theorem shrw {K kk : IntKind} {a b : Int} {t1 t2 : TypeId} (hx : ev n f x = .int K a) (hy : ev n f y = .int kk b) (h0 : 0 ≤ b) (r : Int) (hr : a.fdiv (2 ^ (min b.toNat K.bits)) = r) (k : SH (nx md) P n ops Q rest (upd f d (.int K r)) w0 H) : SH md P n ops Q (⟨some d, .binOp .shr t1 x y t2, ty, pos, aft, none⟩ :: rest) f w0 H := s_val (fun w hw => by
  subst hr; exact ox_shr hx hy h0) k
def bandK (K : IntKind) (a b : Int) : Int := K.wrap (BitVec.ofInt K.bits a &&& BitVec.ofInt K.bits b).toNat
def borK (K : IntKind) (a b : Int) : Int := K.wrap (BitVec.ofInt K.bits a ||| BitVec.ofInt K.bits b).toNat
def bxorK (K : IntKind) (a b : Int) : Int := K.wrap (BitVec.ofInt K.bits a ^^^ BitVec.ofInt K.bits b).toNat
def bclrK (K : IntKind) (a b : Int) : Int := K.wrap (BitVec.ofInt K.bits a &&& ~~~(BitVec.ofInt K.bits b)).toNat
theorem andw {K : IntKind} {a b : Int} {t1 t2 : TypeId} (hx : ev n f x = .int K a) (hy : ev n f y = .int K b) (r : Int) (hr : bandK K a b = r) (k : SH (nx md) P n ops Q rest (upd f d (.int K r)) w0 H) : SH md P n ops Q (⟨some d, .binOp .and t1 x y t2, ty, pos, aft, none⟩ :: rest) f w0 H := s_val (fun w hw => by
  intro d pos aft g; subst hr; simp [execOp, hx, hy, eqGuard, binOp, Op.intBits, bandK]) k
theorem orw {K : IntKind} {a b : Int} {t1 t2 : TypeId} (hx : ev n f x = .int K a) (hy : ev n f y = .int K b) (r : Int) (hr : borK K a b = r) (k : SH (nx md) P n ops Q rest (upd f d (.int K r)) w0 H) : SH md P n ops Q (⟨some d, .binOp .or t1 x y t2, ty, pos, aft, none⟩ :: rest) f w0 H := s_val (fun w hw => by
  intro d pos aft g; subst hr; simp [execOp, hx, hy, eqGuard, binOp, Op.intBits, borK]) k
theorem xorw {K : IntKind} {a b : Int} {t1 t2 : TypeId} (hx : ev n f x = .int K a) (hy : ev n f y = .int K b) (r : Int) (hr : bxorK K a b = r) (k : SH (nx md) P n ops Q rest (upd f d (.int K r)) w0 H) : SH md P n ops Q (⟨some d, .binOp .xor t1 x y t2, ty, pos, aft, none⟩ :: rest) f w0 H := s_val (fun w hw => by
  intro d pos aft g; subst hr; simp [execOp, hx, hy, eqGuard, binOp, Op.intBits, bxorK]) k
theorem clrw {K : IntKind} {a b : Int} {t1 t2 : TypeId} (hx : ev n f x = .int K a) (hy : ev n f y = .int K b) (r : Int) (hr : bclrK K a b = r) (k : SH (nx md) P n ops Q rest (upd f d (.int K r)) w0 H) : SH md P n ops Q (⟨some d, .binOp .andNot t1 x y t2, ty, pos, aft, none⟩ :: rest) f w0 H := s_val (fun w hw => by
  intro d pos aft g; subst hr; simp [execOp, hx, hy, eqGuard, binOp, Op.intBits, bclrK]) k
/-- An array that lies anywhere is indexed. -/
theorem ixA {t e : TypeId} {len sz : Nat} {a : Addr} {K : IntKind} {i : Int} (j : Nat) [TArr P t len e sz] (hx : ev n f x = .pointer (some a)) (hy : ev n f y = .int K i) (hj : i = (j : Int)) (h1 : j < len) (k : SH (nx md) P n ops Q rest (upd f d (.pointer (some (a.add (j * sz))))) w0 H) :
    SH md P n ops Q (⟨some d, .indexAddr t x y, ty, pos, aft, none⟩ :: rest) f w0 H := s_val (fun w hw => by
      subst hj
      have := ox_indexArr (P := P) (t := t) (w := w) (ty := ty) hx hy (Int.natCast_nonneg _) (Int.ofNat_lt.2 h1)
      rwa [Int.toNat_natCast] at this) k
/-- A function with one value bound ahead. -/
theorem mfw {fn : Fn} {c0 : Operand} {v0 : Value} (h0 : ev n f c0 = v0) (k : SH (nx md) P n ops Q rest (upd f d (.func fn #[v0] #[])) w0 H) : SH md P n ops Q (⟨some d, .makeFunc fn #[c0] #[], ty, pos, aft, none⟩ :: rest) f w0 H := s_val (fun w hw => ox_makeBound h0) k
end
section
variable {P : Program} {n : Nat} {Q : HQ} {f : Fr} {w0 : World} {H H' : List HP} {fn : Func} {R : Value → List HP → Prop} {v1 v2 v3 : Value}
/-- Three results that lie in memory. -/
theorem rhCCC {t u x : Nat} {T1 T2 T3 : TypeId} {a1 a2 a3 : Addr} (hr : fn.results = #[.cell t T1, .cell u T2, .cell x T3]) (ht : Nat.blt t n = true) (hu : Nat.blt u n = true) (hx : Nat.blt x n = true) (hp1 : f t = .pointer (some a1)) (hp2 : f u = .pointer (some a2)) (hp3 : f x = .pointer (some a3))
    (hl1 : ∀ w, Wd w0 H w → (loadVar T1 a1).run P w = .ok v1 w) (hl2 : ∀ w, Wd w0 H w → (loadVar T2 a2).run P w = .ok v2 w) (hl3 : ∀ w, Wd w0 H w → (loadVar T3 a3).run P w = .ok v3 w) (h : R (.tuple #[v1, v2, v3]) H') (he : Ent H H') (hd : f.c.ds = [] := by rfl) : retH P n fn w0 R .ret f H :=
  ret_plain (.inr rfl) hd fun w hw => ⟨_, by
    have h1 := rep_get (f := f) ht
    rw [hp1] at h1
    have h2 := rep_get (f := f) hu
    rw [hp2] at h2
    have h3 := rep_get (f := f) hx
    rw [hp3] at h3
    simp only [Array.getD_eq_getD_getElem?] at h1 h2 h3
    simp [results, hr, h1, h2, h3, asAddr, hl1 w hw, hl2 w hw, hl3 w hw], H', h, he⟩
end
end Go.Fw
