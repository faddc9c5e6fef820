/- Layer 24 (interest): what a client sees. Plain Lean. -/
import Derived.Test.YtjefoecnciepmaaGreatDoorYAa
import Derived.Test.YtjefoecnciepmaaGreatDoorYAb
set_option linter.unusedSimpArgs false
set_option linter.unusedVariables false
/- More operations: parts of elements, nested structures, bits, numbers that wrap. -/
namespace Go.Fw
open Go.RowKit
section
variable {md : Md} {P : Program} {n : Nat} {Q : HQ} {f : Fr} {w0 : World} {H R : List HP} {ops : Array Oper} {rest : List Oper} {d : Nat} {op : Op} {ty : TypeId} {pos : String} {aft : Array Edge} {v : Value} {x y c : Operand}
/-! parts -/
theorem take_drop_get {α : Type} {l m : List α} {off sz j : Nat} {u : α} (h : (l.drop off).take sz = m) (hj : m[j]? = some u) : l[off + j]? = some u := by
  rw [← h, List.getElem?_take] at hj
  split at hj
  · rwa [List.getElem?_drop] at hj
  · cases hj
/-- Part of an element is loaded. -/
theorem lrs {α : Type} [F : Flat α] {t : TypeId} {S sz off i : Nat} {z cs : List Value} {A : Option Addr} {l : List α} [TAgg P t sz z] (hx : ev n f x = .pointer (some (((adr A).add (i * S)).add off))) (hr : ∀ w, Wd w0 (vis md H) w → Rd w A l) (hS : S = F.sz) (h1 : i < l.length)
    (hc : ((F.enc (l.getD i F.dflt)).drop off).take sz = cs) (hl : cs.length = sz) (k : SH (nx md) P n ops Q rest (upd f d (.agg cs.toArray)) w0 H) : SH md P n ops Q (⟨some d, .load t x, ty, pos, aft, none⟩ :: rest) f w0 H := s_val (fun w hw => ox_loadA hx (fun j u hj => by
      subst hS
      have := (hr w hw (i * F.sz + (off + j)) u (encs_get h1 (take_drop_get hc hj))).2
      rw [add_add, add_add]
      exact this) hl) k
/-- Part of a block is loaded. -/
theorem lbs {t te : TypeId} {sz b off : Nat} {z bs cs : List Value} [TAgg P t sz z] (hx : ev n f x = .pointer (some ⟨b, off, none⟩)) (hs : Split (vis md H) (bx b te bs) R) (hc : (bs.drop off).take sz = cs) (hl : cs.length = sz)
    (k : SH (nx md) P n ops Q rest (upd f d (.agg cs.toArray)) w0 H) : SH md P n ops Q (⟨some d, .load t x, ty, pos, aft, none⟩ :: rest) f w0 H := s_val (fun w hw => ox_loadA hx (fun j u hj => by
      have := hw.cell (off := off + j) hs (take_drop_get hc hj)
      have e : (⟨b, off, none⟩ : Addr).add j = ⟨b, off + j, none⟩ := by
        by_cases hj0 : j = 0
        · subst hj0; simp [Addr.add]
        · simp [Addr.add, hj0]
      rw [e]; exact this) hl) k
/-- Part of a block is stored. -/
theorem sbs {t te : TypeId} {sz b off : Nat} {z bs cs : List Value} [h : TAgg P t sz z] (hm : addOK md = true) (hx : ev n f x = .pointer (some ⟨b, off, none⟩)) (hy : ev n f y = .agg cs.toArray) (hs : Split H (bx b te bs) R) (hl : cs.length = sz) (hone : cs.all (·.oneCell') = true) (hoff : off + cs.length ≤ bs.length)
    (hk : keeps md (bx b te (bs.take off ++ cs ++ bs.drop (off + cs.length)) :: R)) (k : SH (nx md) P n ops Q rest f w0 (bx b te (bs.take off ++ cs ++ bs.drop (off + cs.length)) :: R)) : SH md P n ops Q (⟨none, .store t x y, ty, pos, aft, none⟩ :: rest) f w0 H :=
  s_mut hm fun w hw => wl_store (cs := cs) hx rfl hy (by simp [Value.cells]) (fun w => by rw [hl]; exact h.siz w) hone (hw.box hs).1 (by simpa using hoff) fun w1 hw1 hb => wl_nil ⟨rfl, _, hk, k, hw.setBox hs hw1 (by rw [hb])⟩
/-- A structure whose fields may have several cells each. -/
class TStN (P : Program) (t : TypeId) (pl : outParam (List (Nat × Nat))) (zs : outParam (List Value)) : Prop where
  und : ∃ fs, P.underlying t = some (.struct fs) ∧ ∀ w, (fs.mapM fun (f : Field) => do pure (f.offset, ← sizeOf f.type)).run P w = .ok pl.toArray w
  zer : ∀ w, (zeroValue t).run P w = .ok (.agg zs.toArray) w
theorem ox_buildN {w : World} {t : TypeId} {pl : List (Nat × Nat)} {zs cs : List Value} {parts : List (Nat × Operand)} [h : TStN P t pl zs] (hf : Instr.fill (pl.toArray[·]?) zs.toArray (parts.map fun p => (p.1, ev n f p.2)) = some cs.toArray) : OX P n f (.build t parts.toArray) ty w (.agg cs.toArray) w := by
  intro d pos aft g
  obtain ⟨fs, hu, hm⟩ := h.und
  have hp' : (parts.toArray.map fun (p : Nat × Operand) => (p.1, ev n f p.2)).toList = parts.map fun p => (p.1, ev n f p.2) := by simp
  simp only [execOp, Instr.build, h.zer, run_underlying hu, Sem.run_bind, Sem.run_pure, Result.andThen_ok, Value.cells, hm, hp']
  rw [hf]
  simp
theorem bldN {t : TypeId} {pl : List (Nat × Nat)} {zs cs : List Value} {parts : List (Nat × Operand)} [TStN P t pl zs] (hf : Instr.fill (pl.toArray[·]?) zs.toArray (parts.map fun p => (p.1, ev n f p.2)) = some cs.toArray)
    (k : SH (nx md) P n ops Q rest (upd f d (.agg cs.toArray)) w0 H) : SH md P n ops Q (⟨some d, .build t parts.toArray, ty, pos, aft, none⟩ :: rest) f w0 H := s_val (fun w hw => ox_buildN hf) k
/-- An array value, of elements of sz cells each. -/
class TArB (P : Program) (t : TypeId) (sz : outParam Nat) (zs : outParam (List Value)) : Prop where
  und : ∃ len e, P.underlying t = some (.array len e) ∧ ∀ w, (sizeOf e).run P w = .ok sz w
  zer : ∀ w, (zeroValue t).run P w = .ok (.agg zs.toArray) w
theorem ox_buildA {w : World} {t : TypeId} {sz : Nat} {zs cs : List Value} {parts : List (Nat × Operand)} [h : TArB P t sz zs] (hf : Instr.fill (fun i => some (i * sz, sz)) zs.toArray (parts.map fun p => (p.1, ev n f p.2)) = some cs.toArray) : OX P n f (.build t parts.toArray) ty w (.agg cs.toArray) w := by
  intro d pos aft g
  obtain ⟨len, e, hu, hm⟩ := h.und
  have hp' : (parts.toArray.map fun (p : Nat × Operand) => (p.1, ev n f p.2)).toList = parts.map fun p => (p.1, ev n f p.2) := by simp
  simp only [execOp, Instr.build, h.zer, run_underlying hu, Sem.run_bind, Sem.run_pure, Result.andThen_ok, Value.cells, hm, hp']
  rw [hf]
  simp
theorem bldA {t : TypeId} {sz : Nat} {zs cs : List Value} {parts : List (Nat × Operand)} [TArB P t sz zs] (hf : Instr.fill (fun i => some (i * sz, sz)) zs.toArray (parts.map fun p => (p.1, ev n f p.2)) = some cs.toArray)
    (k : SH (nx md) P n ops Q rest (upd f d (.agg cs.toArray)) w0 H) : SH md P n ops Q (⟨some d, .build t parts.toArray, ty, pos, aft, none⟩ :: rest) f w0 H := s_val (fun w hw => ox_buildA hf) k
/-- Zero values. -/
theorem bldZ {t : TypeId} {sz : Nat} {zs : List Value} [TArB P t sz zs] (k : SH (nx md) P n ops Q rest (upd f d (.agg zs.toArray)) w0 H) : SH md P n ops Q (⟨some d, .build t #[], ty, pos, aft, none⟩ :: rest) f w0 H := bldA (parts := []) (cs := zs) (by simp [Instr.fill]) k
theorem bldZN {t : TypeId} {pl : List (Nat × Nat)} {zs : List Value} [TStN P t pl zs] (k : SH (nx md) P n ops Q rest (upd f d (.agg zs.toArray)) w0 H) : SH md P n ops Q (⟨some d, .build t #[], ty, pos, aft, none⟩ :: rest) f w0 H := bldN (parts := []) (cs := zs) (by simp [Instr.fill]) k
/-- An element of an array value: an aggregate. -/
class TIdx (P : Program) (t : TypeId) (len sz : outParam Nat) (agg : outParam Bool) : Prop where
  und : ∃ e, P.underlying t = some (.array len e) ∧ (∀ w, (sizeOf e).run P w = .ok sz w) ∧ ∀ w, (isAgg e).run P w = .ok agg w
theorem ox_idxA {w : World} {t : TypeId} {len sz i : Nat} {K : IntKind} {j : Int} {bs cs : List Value} [h : TIdx P t len sz true] (hx : ev n f x = .agg bs.toArray) (hy : ev n f y = .int K j) (hj : j = (i : Int)) (hi : i < len) (hc : (bs.drop (i * sz)).take sz = cs) (hl : cs.length = sz) :
    OX P n f (.index t x y) ty w (.agg cs.toArray) w := by
  intro d pos aft g
  subst hj
  obtain ⟨e, hu, hs, ha⟩ := h.und
  simp [execOp, hx, hy, Instr.index, asIntOf, run_underlying hu, hs, ha, part, show i < len from hi]
  exact hc
theorem idxA {t : TypeId} {len sz i : Nat} {K : IntKind} {j : Int} {bs cs : List Value} [TIdx P t len sz true] (hx : ev n f x = .agg bs.toArray) (hy : ev n f y = .int K j) (hj : j = (i : Int)) (hi : i < len) (hc : (bs.drop (i * sz)).take sz = cs) (hl : cs.length = sz)
    (k : SH (nx md) P n ops Q rest (upd f d (.agg cs.toArray)) w0 H) : SH md P n ops Q (⟨some d, .index t x y, ty, pos, aft, none⟩ :: rest) f w0 H := s_val (fun w hw => ox_idxA hx hy hj hi hc hl) k
/-! function values -/
theorem fun1_of {α : Type} {P : Program} {w : World} {g : FuncId} {arg res : α → Value} {ok : α → Prop} (h : ∀ w', Ext w w' → ∀ x, ok x → Ret P g [arg x].toArray w' (Out w' (res x))) : Fun1 P w (.func (.func g) #[] #[]) arg res ok :=
  ⟨g, #[], #[], rfl, fun w' he x hx => by have := h w' he x hx; simpa using this⟩
theorem fun1_cap {α : Type} {P : Program} {w : World} {g : FuncId} {arg res : α → Value} {ok : α → Prop} {c : Value} (h : ∀ w', Ext w w' → ∀ x, ok x → Ret P g [arg x, c].toArray w' (Out w' (res x))) : Fun1 P w (.func (.func g) #[] #[c]) arg res ok :=
  ⟨g, #[], #[c], rfl, fun w' he x hx => by have := h w' he x hx; simpa using this⟩
theorem fun1_fst {α : Type} {P : Program} {w : World} {g : FuncId} {arg res : α → Value} {ok : α → Prop} {c : Value} (h : ∀ w', Ext w w' → ∀ x, ok x → Ret P g [c, arg x].toArray w' (Out w' (res x))) : Fun1 P w (.func (.func g) #[c] #[]) arg res ok :=
  ⟨g, #[c], #[], rfl, fun w' he x hx => by have := h w' he x hx; simpa using this⟩
/-! what lies at a place that is known: a captured or a package-level variable -/
theorem rd_one {α : Type} [F : Flat α] {w : World} {a : Addr} {u : α} {j : Nat} {v : Value} (h : Rd w (some a) [u]) (hj : (F.enc u)[j]? = some v) : w.cell? (a.add j) = some v := by
  have h1 := h j v (by rw [encs_cons, encs_nil, List.append_nil]; exact hj)
  exact h1.2
theorem lca {α : Type} [F : Flat α] {t : TypeId} {sz : Nat} {z : List Value} {a : Addr} {u : α} [TAgg P t sz z] (hx : ev n f x = .pointer (some a)) (hr : ∀ w, Wd w0 (vis md H) w → Rd w (some a) [u]) (hsz : sz = F.sz)
    (k : SH (nx md) P n ops Q rest (upd f d (.agg (F.enc u).toArray)) w0 H) : SH md P n ops Q (⟨some d, .load t x, ty, pos, aft, none⟩ :: rest) f w0 H := s_val (fun w hw => ox_loadA hx (fun j v hj => rd_one (hr w hw) hj) (by rw [F.len, hsz])) k
theorem lcs {α : Type} [F : Flat α] {t : TypeId} {z : Value} {a : Addr} {u : α} [TOne P t z] (hx : ev n f x = .pointer (some a)) (hr : ∀ w, Wd w0 (vis md H) w → Rd w (some a) [u]) (hv : F.enc u = [v])
    (k : SH (nx md) P n ops Q rest (upd f d v) w0 H) : SH md P n ops Q (⟨some d, .load t x, ty, pos, aft, none⟩ :: rest) f w0 H := lcell hx (fun w hw => by
      have := rd_one (hr w hw) (j := 0) (v := v) (by rw [hv]; rfl)
      simpa [Addr.add] using this) k
theorem lcf {α : Type} [F : Flat α] {t : TypeId} {z : Value} {a : Addr} {off : Nat} {u : α} [TOne P t z] (hx : ev n f x = .pointer (some (a.add off))) (hr : ∀ w, Wd w0 (vis md H) w → Rd w (some a) [u]) (hv : (F.enc u)[off]? = some v)
    (k : SH (nx md) P n ops Q rest (upd f d v) w0 H) : SH md P n ops Q (⟨some d, .load t x, ty, pos, aft, none⟩ :: rest) f w0 H := lcell hx (fun w hw => rd_one (hr w hw) hv) k
/-- What a block of one's own reads as. -/
theorem rd_box {α : Type} [F : Flat α] {w : World} {b : Nat} {t : TypeId} {cs : List Value} {u : α} (hw : Wd w0 H w) (hs : Split H (bx b t cs) R) (hc : cs = F.enc u) : Rd w (some ⟨b, 0, none⟩) [u] := fun j v hj => by
  rw [encs_cons, encs_nil, List.append_nil, ← hc] at hj
  have := hw.cell (off := j) hs hj
  refine ⟨rfl, ?_⟩
  have e : (adr (some (⟨b, 0, none⟩ : Addr))).add j = ⟨b, j, none⟩ := by
    show (⟨b, 0, none⟩ : Addr).add j = _
    by_cases hj0 : j = 0
    · subst hj0; simp [Addr.add]
    · simp [Addr.add, hj0]
  rw [e]; exact this
/-! numbers -/
theorem subw {K : IntKind} {a b : Int} {t1 t2 : TypeId} (hx : ev n f x = .int K a) (hy : ev n f y = .int K b) (r : Int) (hr : K.wrap (a - b) = r) (k : SH (nx md) P n ops Q rest (upd f d (.int K r)) w0 H) : SH md P n ops Q (⟨some d, .binOp .sub t1 x y t2, ty, pos, aft, none⟩ :: rest) f w0 H := s_val (fun w hw => by
  intro d pos aft g; subst hr; simp [execOp, hx, hy, eqGuard, binOp, Op.intArith]) k
theorem shlw {K kk : IntKind} {a b : Int} {t1 t2 : TypeId} (hx : ev n f x = .int K a) (hy : ev n f y = .int kk b) (h0 : 0 ≤ b) (r : Int) (hr : K.wrap (a * 2 ^ (min b.toNat K.bits)) = r) (k : SH (nx md) P n ops Q rest (upd f d (.int K r)) w0 H) : SH md P n ops Q (⟨some d, .binOp .shl t1 x y t2, ty, pos, aft, none⟩ :: rest) f w0 H := s_val (fun w hw => by
  intro d pos aft g; subst hr; simp [execOp, hx, hy, eqGuard, binOp, Op.shift, show ¬ b < 0 by omega]) k
theorem shrw {K kk : IntKind} {a b : Int} {t1 t2 : TypeId} (hx : ev n f x = .int K a) (hy : ev n f y = .int kk b) (h0 : 0 ≤ b) (r : Int) (hr : a.fdiv (2 ^ (min b.toNat K.bits)) = r) (k : SH (nx md) P n ops Q rest (upd f d (.int K r)) w0 H) : SH md P n ops Q (⟨some d, .binOp .shr t1 x y t2, ty, pos, aft, none⟩ :: rest) f w0 H := s_val (fun w hw => by
  subst hr; exact ox_shr hx hy h0) k
def bandK (K : IntKind) (a b : Int) : Int := K.wrap (BitVec.ofInt K.bits a &&& BitVec.ofInt K.bits b).toNat
theorem andw {K : IntKind} {a b : Int} {t1 t2 : TypeId} (hx : ev n f x = .int K a) (hy : ev n f y = .int K b) (r : Int) (hr : bandK K a b = r) (k : SH (nx md) P n ops Q rest (upd f d (.int K r)) w0 H) : SH md P n ops Q (⟨some d, .binOp .and t1 x y t2, ty, pos, aft, none⟩ :: rest) f w0 H := s_val (fun w hw => by
  intro d pos aft g; subst hr; simp [execOp, hx, hy, eqGuard, binOp, Op.intBits, bandK]) k
/-- An array that lies anywhere is indexed. -/
theorem ixA {t e : TypeId} {len sz : Nat} {a : Addr} {K : IntKind} {i : Int} (j : Nat) [TArr P t len e sz] (hx : ev n f x = .pointer (some a)) (hy : ev n f y = .int K i) (hj : i = (j : Int)) (h1 : j < len) (k : SH (nx md) P n ops Q rest (upd f d (.pointer (some (a.add (j * sz))))) w0 H) :
    SH md P n ops Q (⟨some d, .indexAddr t x y, ty, pos, aft, none⟩ :: rest) f w0 H := s_val (fun w hw => by
      subst hj
      have := ox_indexArr (P := P) (t := t) (w := w) (ty := ty) hx hy (Int.natCast_nonneg _) (Int.ofNat_lt.2 h1)
      rwa [Int.toNat_natCast] at this) k
end
section
variable {P : Program} {n : Nat} {Q : HQ} {f : Fr} {w0 : World} {H H' : List HP} {fn : Func} {R : Value → List HP → Prop} {v1 v2 v3 : Value}
/-- Three results that lie in memory. -/
theorem rhCCC {t u x : Nat} {T1 T2 T3 : TypeId} {a1 a2 a3 : Addr} (hr : fn.results = #[.cell t T1, .cell u T2, .cell x T3]) (ht : Nat.blt t n = true) (hu : Nat.blt u n = true) (hx : Nat.blt x n = true) (hp1 : f t = .pointer (some a1)) (hp2 : f u = .pointer (some a2)) (hp3 : f x = .pointer (some a3))
    (hl1 : ∀ w, Wd w0 H w → (loadVar T1 a1).run P w = .ok v1 w) (hl2 : ∀ w, Wd w0 H w → (loadVar T2 a2).run P w = .ok v2 w) (hl3 : ∀ w, Wd w0 H w → (loadVar T3 a3).run P w = .ok v3 w) (h : R (.tuple #[v1, v2, v3]) H') (he : Ent H H') (hd : f.c.ds = [] := by rfl) : retH P n fn w0 R .ret f H :=
  ret_plain (.inr rfl) hd fun w hw => ⟨_, by
    have h1 := rep_get (f := f) ht
    rw [hp1] at h1
    have h2 := rep_get (f := f) hu
    rw [hp2] at h2
    have h3 := rep_get (f := f) hx
    rw [hp3] at h3
    simp only [Array.getD_eq_getD_getElem?] at h1 h2 h3
    simp [results, hr, h1, h2, h3, asAddr, hl1 w hw, hl2 w hw, hl3 w hw], H', h, he⟩
end
end Go.Fw

/- The types of worlds (printed by gen_tw.py). -/
namespace Go.Proofs.YtjefoecnciepmaaGreatDoor
open Go.Fw Go.RowKit
instance : TAgg Tryz.prog 37 5 [.int .u8 0, .int .i64 0, .int .i64 0, .int .i64 0, .int .i64 0] := ⟨fun w => by kernel_rfl, fun w => by kernel_rfl, fun w => by kernel_rfl⟩
instance : TStN Tryz.prog 37 [(0, 1), (1, 4)] [.int .u8 0, .int .i64 0, .int .i64 0, .int .i64 0, .int .i64 0] := ⟨⟨_, Tryz.underlying37, fun w => by kernel_rfl⟩, fun w => by kernel_rfl⟩
instance : TFld Tryz.prog 37 0 0 := tfld_of 0 Tryz.underlying37 rfl rfl (fun w => by kernel_rfl)
instance : TFld Tryz.prog 37 1 1 := tfld_of 3 Tryz.underlying37 rfl rfl (fun w => by kernel_rfl)
instance : TSl Tryz.prog 29 37 5 40 := ⟨by kernel_rfl, by kernel_rfl⟩
instance : TEl Tryz.prog 37 5 40 := tel_of (z := .agg #[.int .u8 0, .int .i64 0, .int .i64 0, .int .i64 0, .int .i64 0]) (by kernel_rfl) rfl (by omega)
instance : TOne Tryz.prog 29 (.slice none 0 0) := ⟨fun w => by kernel_rfl, fun w => by kernel_rfl, fun w => by kernel_rfl, rfl⟩
instance : TAgg Tryz.prog 31 2 [.int .i64 0, .slice none 0 0] := ⟨fun w => by kernel_rfl, fun w => by kernel_rfl, fun w => by kernel_rfl⟩
instance : TSt Tryz.prog 31 2 [.int .i64 0, .slice none 0 0] := tst_of Tryz.underlying31 (fun w => by kernel_rfl) (fun w => by kernel_rfl) rfl
instance : TFld Tryz.prog 31 0 0 := tfld_of 0 Tryz.underlying31 rfl rfl (fun w => by kernel_rfl)
instance : TFlv Tryz.prog 31 0 0 := tflv_of Tryz.underlying31 rfl rfl (fun w => by kernel_rfl)
instance : TFld Tryz.prog 31 1 1 := tfld_of 0 Tryz.underlying31 rfl rfl (fun w => by kernel_rfl)
instance : TFlv Tryz.prog 31 1 1 := tflv_of Tryz.underlying31 rfl rfl (fun w => by kernel_rfl)
instance : TSl Tryz.prog 22 31 2 32 := ⟨by kernel_rfl, by kernel_rfl⟩
instance : TEl Tryz.prog 31 2 32 := tel_of (z := .agg #[.int .i64 0, .slice none 0 0]) (by kernel_rfl) rfl (by omega)
instance : TOne Tryz.prog 22 (.slice none 0 0) := ⟨fun w => by kernel_rfl, fun w => by kernel_rfl, fun w => by kernel_rfl, rfl⟩
instance : TAgg Tryz.prog 24 2 [.int .i64 0, .slice none 0 0] := ⟨fun w => by kernel_rfl, fun w => by kernel_rfl, fun w => by kernel_rfl⟩
instance : TSt Tryz.prog 24 2 [.int .i64 0, .slice none 0 0] := tst_of Tryz.underlying24 (fun w => by kernel_rfl) (fun w => by kernel_rfl) rfl
instance : TFld Tryz.prog 24 0 0 := tfld_of 0 Tryz.underlying24 rfl rfl (fun w => by kernel_rfl)
instance : TFlv Tryz.prog 24 0 0 := tflv_of Tryz.underlying24 rfl rfl (fun w => by kernel_rfl)
instance : TFld Tryz.prog 24 1 1 := tfld_of 0 Tryz.underlying24 rfl rfl (fun w => by kernel_rfl)
instance : TFlv Tryz.prog 24 1 1 := tflv_of Tryz.underlying24 rfl rfl (fun w => by kernel_rfl)
instance : TAgg Tryz.prog 101 2 [.int .i64 0, .int .i64 0] := ⟨fun w => by kernel_rfl, fun w => by kernel_rfl, fun w => by kernel_rfl⟩
instance : TSt Tryz.prog 101 2 [.int .i64 0, .int .i64 0] := tst_of Tryz.underlying101 (fun w => by kernel_rfl) (fun w => by kernel_rfl) rfl
instance : TFld Tryz.prog 101 0 0 := tfld_of 0 Tryz.underlying101 rfl rfl (fun w => by kernel_rfl)
instance : TFlv Tryz.prog 101 0 0 := tflv_of Tryz.underlying101 rfl rfl (fun w => by kernel_rfl)
instance : TFld Tryz.prog 101 1 1 := tfld_of 0 Tryz.underlying101 rfl rfl (fun w => by kernel_rfl)
instance : TFlv Tryz.prog 101 1 1 := tflv_of Tryz.underlying101 rfl rfl (fun w => by kernel_rfl)
instance : TSl Tryz.prog 56 101 2 16 := ⟨by kernel_rfl, by kernel_rfl⟩
instance : TEl Tryz.prog 101 2 16 := tel_of (z := .agg #[.int .i64 0, .int .i64 0]) (by kernel_rfl) rfl (by omega)
instance : TOne Tryz.prog 56 (.slice none 0 0) := ⟨fun w => by kernel_rfl, fun w => by kernel_rfl, fun w => by kernel_rfl, rfl⟩
instance : TAgg Tryz.prog 58 2 [.int .i64 0, .slice none 0 0] := ⟨fun w => by kernel_rfl, fun w => by kernel_rfl, fun w => by kernel_rfl⟩
instance : TSt Tryz.prog 58 2 [.int .i64 0, .slice none 0 0] := tst_of Tryz.underlying58 (fun w => by kernel_rfl) (fun w => by kernel_rfl) rfl
instance : TFld Tryz.prog 58 0 0 := tfld_of 0 Tryz.underlying58 rfl rfl (fun w => by kernel_rfl)
instance : TFlv Tryz.prog 58 0 0 := tflv_of Tryz.underlying58 rfl rfl (fun w => by kernel_rfl)
instance : TFld Tryz.prog 58 1 1 := tfld_of 0 Tryz.underlying58 rfl rfl (fun w => by kernel_rfl)
instance : TFlv Tryz.prog 58 1 1 := tflv_of Tryz.underlying58 rfl rfl (fun w => by kernel_rfl)
instance : TAgg Tryz.prog 107 2 [.int .i64 0, .slice none 0 0] := ⟨fun w => by kernel_rfl, fun w => by kernel_rfl, fun w => by kernel_rfl⟩
instance : TSt Tryz.prog 107 2 [.int .i64 0, .slice none 0 0] := tst_of Tryz.underlying107 (fun w => by kernel_rfl) (fun w => by kernel_rfl) rfl
instance : TFld Tryz.prog 107 0 0 := tfld_of 0 Tryz.underlying107 rfl rfl (fun w => by kernel_rfl)
instance : TFlv Tryz.prog 107 0 0 := tflv_of Tryz.underlying107 rfl rfl (fun w => by kernel_rfl)
instance : TFld Tryz.prog 107 1 1 := tfld_of 0 Tryz.underlying107 rfl rfl (fun w => by kernel_rfl)
instance : TFlv Tryz.prog 107 1 1 := tflv_of Tryz.underlying107 rfl rfl (fun w => by kernel_rfl)
instance : TAgg Tryz.prog 147 2 [.int .u64 0, .int .u64 0] := ⟨fun w => by kernel_rfl, fun w => by kernel_rfl, fun w => by kernel_rfl⟩
instance : TSt Tryz.prog 147 2 [.int .u64 0, .int .u64 0] := tst_of Tryz.underlying147 (fun w => by kernel_rfl) (fun w => by kernel_rfl) rfl
instance : TFld Tryz.prog 147 0 0 := tfld_of 0 Tryz.underlying147 rfl rfl (fun w => by kernel_rfl)
instance : TFlv Tryz.prog 147 0 0 := tflv_of Tryz.underlying147 rfl rfl (fun w => by kernel_rfl)
instance : TFld Tryz.prog 147 1 1 := tfld_of 0 Tryz.underlying147 rfl rfl (fun w => by kernel_rfl)
instance : TFlv Tryz.prog 147 1 1 := tflv_of Tryz.underlying147 rfl rfl (fun w => by kernel_rfl)
instance : TAgg Tryz.prog 149 3 [.int .u64 0, .int .u64 0, .bool false] := ⟨fun w => by kernel_rfl, fun w => by kernel_rfl, fun w => by kernel_rfl⟩
instance : TStN Tryz.prog 149 [(0, 2), (2, 1)] [.int .u64 0, .int .u64 0, .bool false] := ⟨⟨_, Tryz.underlying149, fun w => by kernel_rfl⟩, fun w => by kernel_rfl⟩
instance : TFld Tryz.prog 149 0 0 := tfld_of 1 Tryz.underlying149 rfl rfl (fun w => by kernel_rfl)
instance : TFld Tryz.prog 149 1 2 := tfld_of 0 Tryz.underlying149 rfl rfl (fun w => by kernel_rfl)
instance : TAgg Tryz.prog 232 2 [.int .i64 0, .int .i64 0] := ⟨fun w => by kernel_rfl, fun w => by kernel_rfl, fun w => by kernel_rfl⟩
instance : TSt Tryz.prog 232 2 [.int .i64 0, .int .i64 0] := tst_of Tryz.underlying232 (fun w => by kernel_rfl) (fun w => by kernel_rfl) rfl
instance : TFld Tryz.prog 232 0 0 := tfld_of 0 Tryz.underlying232 rfl rfl (fun w => by kernel_rfl)
instance : TFlv Tryz.prog 232 0 0 := tflv_of Tryz.underlying232 rfl rfl (fun w => by kernel_rfl)
instance : TFld Tryz.prog 232 1 1 := tfld_of 0 Tryz.underlying232 rfl rfl (fun w => by kernel_rfl)
instance : TFlv Tryz.prog 232 1 1 := tflv_of Tryz.underlying232 rfl rfl (fun w => by kernel_rfl)
instance : TArr Tryz.prog 35 4 3 1 := ⟨by kernel_rfl, by kernel_rfl, by omega⟩
instance : TAgg Tryz.prog 35 4 [.int .i64 0, .int .i64 0, .int .i64 0, .int .i64 0] := ⟨fun w => by kernel_rfl, fun w => by kernel_rfl, fun w => by kernel_rfl⟩
instance : TArB Tryz.prog 35 1 [.int .i64 0, .int .i64 0, .int .i64 0, .int .i64 0] := ⟨⟨4, 3, by kernel_rfl, fun w => by kernel_rfl⟩, fun w => by kernel_rfl⟩
instance : TInt Tryz.prog 145 .u64 := ⟨by kernel_rfl⟩
instance : TOne Tryz.prog 145 (.int .u64 0) := ⟨fun w => by kernel_rfl, fun w => by kernel_rfl, fun w => by kernel_rfl, rfl⟩
instance : TArr Tryz.prog 234 11 233 8 := ⟨by kernel_rfl, by kernel_rfl, by omega⟩
instance : TAgg Tryz.prog 233 8 [.int .i64 0, .int .i64 0, .int .i64 0, .int .i64 0, .int .i64 0, .int .i64 0, .int .i64 0, .int .i64 0] := ⟨fun w => by kernel_rfl, fun w => by kernel_rfl, fun w => by kernel_rfl⟩
instance : TIdx Tryz.prog 233 4 2 true := ⟨232, by kernel_rfl, fun w => by kernel_rfl, fun w => by kernel_rfl⟩
end Go.Proofs.YtjefoecnciepmaaGreatDoor

/- Layer 15 (store): what is valid. Plain Lean. -/
namespace Go.Proofs.YtjefoecnciepmaaGreatDoor
open Go.Fw Go.RowKit
/-- The ranges of a component's four numbers. -/
structure Rng where
  l0 : Int
  h0 : Int
  l1 : Int
  h1 : Int
  l2 : Int
  h2 : Int
  l3 : Int
  h3 : Int
  deriving DecidableEq
instance : Flat Rng := ⟨8, fun x => [.int .i64 x.l0, .int .i64 x.h0, .int .i64 x.l1, .int .i64 x.h1, .int .i64 x.l2, .int .i64 x.h2, .int .i64 x.l3, .int .i64 x.h3], ⟨0, 0, 0, 0, 0, 0, 0, 0⟩, fun _ => rfl, fun x v hv => by
  simp at hv; rcases hv with rfl | rfl | rfl | rfl | rfl | rfl | rfl | rfl <;> rfl, by omega⟩
def RNG : List Rng := [⟨0, 0, 0, 0, 0, 0, 0, 0⟩, ⟨-1048576, 1048576, -1048576, 1048576, 0, 0, 0, 0⟩, ⟨-4096, 4096, -4096, 4096, 0, 0, 0, 0⟩, ⟨1, 16384, 1, 16384, 0, 1, 0, 1⟩, ⟨1, 8, 0, 0, 0, 0, 0, 0⟩, ⟨0, 510, 0, 0, 0, 0, 0, 0⟩, ⟨0, 15, 0, 0, 0, 0, 0, 0⟩,
  ⟨-2147483648, 2147483647, -2147483648, 2147483647, -2147483648, 2147483647, -2147483648, 2147483647⟩, ⟨0, 1048576, 0, 1048576, 0, 0, 0, 0⟩, ⟨0, 2147483647, 0, 2147483647, 0, 2147483647, 0, 2147483647⟩, ⟨-2147483648, 2147483647, -2147483648, 2147483647, -2147483648, 2147483647, -2147483648, 2147483647⟩]
/-- The numbers of the component fit into the ranges. -/
structure InR (r : Rng) (c : Comp) : Prop where
  r0 : r.l0 ≤ c.a ∧ c.a ≤ r.h0
  r1 : r.l1 ≤ c.b ∧ c.b ≤ r.h1
  r2 : r.l2 ≤ c.c ∧ c.c ≤ r.h2
  r3 : r.l3 ≤ c.d ∧ c.d ≤ r.h3
instance (r : Rng) (c : Comp) : Decidable (InR r c) := decidable_of_iff ((r.l0 ≤ c.a ∧ c.a ≤ r.h0) ∧ (r.l1 ≤ c.b ∧ c.b ≤ r.h1) ∧ (r.l2 ≤ c.c ∧ c.c ≤ r.h2) ∧ (r.l3 ≤ c.d ∧ c.d ≤ r.h3)) ⟨fun ⟨h1, h2, h3, h4⟩ => ⟨h1, h2, h3, h4⟩, fun ⟨h1, h2, h3, h4⟩ => ⟨h1, h2, h3, h4⟩⟩
/-- A component that is valid. -/
structure Fits (c : Comp) : Prop where
  kind : 1 ≤ c.kind ∧ c.kind ≤ 10
  rng : InR (RNG.getD c.kind.toNat Flat.dflt) c
  box : c.kind = 3 → c.c = 0 ∨ c.a = c.b
  hide : c.kind = 5 → c.a % 2 = 0
instance (c : Comp) : Decidable (Fits c) := decidable_of_iff ((1 ≤ c.kind ∧ c.kind ≤ 10) ∧ InR (RNG.getD c.kind.toNat Flat.dflt) c ∧ (c.kind = 3 → c.c = 0 ∨ c.a = c.b) ∧ (c.kind = 5 → c.a % 2 = 0)) ⟨fun ⟨h1, h2, h3, h4⟩ => ⟨h1, h2, h3, h4⟩, fun ⟨h1, h2, h3, h4⟩ => ⟨h1, h2, h3, h4⟩⟩
/-- Keys that strictly increase. -/
def Rising {α : Type} (key : α → Int) (l : List α) : Prop := l.Pairwise fun x y => key x < key y
instance {α : Type} (key : α → Int) (l : List α) : Decidable (Rising key l) := inferInstanceAs (Decidable (l.Pairwise _))
structure RightE (e : Ent1) : Prop where
  id : 1 ≤ e.id ∧ e.id ≤ 65536
  up : Rising Comp.kind e.comps
  fits : ∀ c ∈ e.comps, Fits c
instance (e : Ent1) : Decidable (RightE e) := decidable_of_iff ((1 ≤ e.id ∧ e.id ≤ 65536) ∧ Rising Comp.kind e.comps ∧ ∀ c ∈ e.comps, Fits c) ⟨fun ⟨h1, h2, h3⟩ => ⟨h1, h2, h3⟩, fun ⟨h1, h2, h3⟩ => ⟨h1, h2, h3⟩⟩
structure ValidW (tick : Int) (es : List Ent1) : Prop where
  tick : 0 ≤ tick ∧ tick ≤ 1073741824
  len : es.length ≤ 64
  up : Rising Ent1.id es
  right : ∀ e ∈ es, RightE e
instance (tick : Int) (es : List Ent1) : Decidable (ValidW tick es) := decidable_of_iff ((0 ≤ tick ∧ tick ≤ 1073741824) ∧ es.length ≤ 64 ∧ Rising Ent1.id es ∧ ∀ e ∈ es, RightE e) ⟨fun ⟨h1, h2, h3, h4⟩ => ⟨h1, h2, h3, h4⟩, fun ⟨h1, h2, h3, h4⟩ => ⟨h1, h2, h3, h4⟩⟩
section
variable {α : Type} (d : α) {key : α → Int} {l : List α}
theorem rising_at (h : Rising key l) {i j : Nat} (hij : i < j) (hj : j < l.length) : key (l.getD i d) < key (l.getD j d) := by
  have := List.pairwise_iff_getElem.1 h i j (by omega) hj hij
  simpa [List.getD_eq_getElem?_getD, hj, show i < l.length by omega] using this
theorem rising_of (h : ∀ i j, i < j → j < l.length → key (l.getD i d) < key (l.getD j d)) : Rising key l := by
  refine List.pairwise_iff_getElem.2 fun i j hi hj hij => ?_
  have := h i j hij hj
  simpa [List.getD_eq_getElem?_getD, hj, hi] using this
theorem rising_take {i : Nat} (h : Rising key (l.take (i + 1))) (hi : i + 1 < l.length) (hk : key (l.getD i d) < key (l.getD (i + 1) d)) : Rising key (l.take (i + 2)) := by
  refine rising_of d fun a b hab hb => ?_
  rw [List.length_take] at hb
  have e : ∀ m k, k < m → m ≤ l.length → (l.take m).getD k d = l.getD k d := fun m k hk hm => by
    simp [List.getD_eq_getElem?_getD, List.getElem?_take, hk]
  rw [e _ _ (by omega) (by omega), e _ _ (by omega) (by omega)]
  have hat : ∀ x y, x < y → y < i + 1 → key (l.getD x d) < key (l.getD y d) := fun x y hxy hy => by
    have := rising_at d h hxy (by rw [List.length_take]; omega)
    rwa [e _ _ (by omega) (by omega), e _ _ (by omega) (by omega)] at this
  by_cases hbi : b = i + 1
  · subst hbi
    by_cases hai : a = i
    · subst hai; exact hk
    · have := hat a i (by omega) (by omega); omega
  · exact hat a b hab (by omega)
theorem rising_one {m : Nat} (hm : m ≤ 1) : Rising key (l.take m) := List.pairwise_iff_getElem.2 fun a b ha hb hab => by rw [List.length_take] at hb; omega
end
end Go.Proofs.YtjefoecnciepmaaGreatDoor

/-  Functions of package slices at components, entities and points (printed by gen_sf.py). -/
namespace Go.Proofs.YtjefoecnciepmaaGreatDoor
open Go.Fw Go.RowKit
/-- A point. -/
structure Pt where
  x : Int
  y : Int
  deriving DecidableEq
instance : Flat Pt := ⟨2, fun p => [.int .i64 p.x, .int .i64 p.y], ⟨0, 0⟩, fun _ => rfl, fun x v hv => by simp at hv; rcases hv with rfl | rfl <;> rfl, by omega⟩
/-- A function value that answers p at the elements of a list. -/
abbrev AsksL {α : Type} [Flat α] (w : World) (fv : Value) (l : List α) (p : α → Bool) : Prop := Fun1 Tryz.prog w fv (fun x : α => .agg (Flat.enc x).toArray) (fun x => .bool (p x)) (· ∈ l)
set_option maxRecDepth 100000 in
theorem indexFuncC_spec (A : Option Addr) (l : List Comp) (cp : Nat) (fv : Value) (p : Comp → Bool) (w : World) (hl : l.length ≤ 140737488355328) (hr : Rd w A l) (hp : AsksL w fv l p) :
    Ret Tryz.prog 100 [.slice A l.length cp, fv].toArray w (Out w (.int .i64 (idxOf p l))) := by
  obtain ⟨g0, fst, cap, rfl, hp⟩ := hp
  refine enterH Tryz.func100 rfl rfl Tryz.ntmps100 rfl (Wd.refl _) ?_
  (repeat' (first | (show VH _ _ _ _ _ _ _; first | refine v_seq ?_ | refine r_seq ?_ | refine v_block ?_) | (show SH _ _ _ _ _ (_ :: _) _ _ _; first | (show SH _ _ _ _ _ (⟨_, .move _, _, _, _, _⟩ :: _) _ _ _; refine mov evL ?_) | (show SH _ _ _ _ _ (⟨_, .assign _, _, _, _, _⟩ :: _) _ _ _; refine asg evL ?_) | refine slen rfl ?_) | refine s_nil ?_ | refine kh_normal ?_))
  refine v_loop0 [(4,5),(8,18)] (fun k : Nat => [(8, .int .i64 k)]) (fun k => k ≤ l.length ∧ idxFrom p k (l.drop k) = idxOf p l) (fun k => l.length - k) 0 hsL ⟨Nat.zero_le _, rfl⟩ ?_
  rintro k g ⟨hk, hv⟩
  simp only [sets]
  by_cases hkl : k < l.length
  · have hp' := fun w he => hp w he (l.getD k Flat.dflt) (getD_mem hkl)
    rw [drop_cons (d := Flat.dflt) hkl, idxFrom] at hv
    cases hb : p (l.getD k Flat.dflt) with
    | true =>
      simp only [hb] at hp'
      rw [if_pos hb] at hv
      (repeat' (first | (show VH _ _ _ _ _ _ _; first | refine v_seq ?_ | refine r_seq ?_ | refine v_block ?_ | refine v_ret ?_ | refine v_skip ?_ | refine v_cond_t rfl tbL ?_) | (show SH _ _ _ _ _ (_ :: _) _ _ _; first | (show SH _ _ _ _ _ (⟨_, .move _, _, _, _, _⟩ :: _) _ _ _; refine mov evL ?_) | (show SH _ _ _ _ _ (⟨_, .assign _, _, _, _, _⟩ :: _) _ _ _; refine asg evL ?_) | (show SH _ _ _ _ _ (⟨_, .binOp .lss _ _ _ _, _, _, _, _⟩ :: _) _ _ _; refine lssT rfl rfl omD ?_) | (show SH _ _ _ _ _ (⟨_, .load _ _, _, _, _, _⟩ :: _) _ _ _; first | refine lra rfl (fun _ _ => rdX) (by rfl) omL ?_ | refine lra rfl (fun _ _ => rdX) (by rfl) (by simp only [List.length_cons, List.length_nil]; omega) ?_) | (show SH _ _ _ _ _ (⟨_, .indexAddr _ _ _, _, _, _, _⟩ :: _) _ _ _; refine ix rfl rfl (by with_reducible rfl) (fun _ _ => rdX) (by rfl) omL omL ?_) | (show SH _ _ _ _ _ (⟨_, .call ⟨.value (.tmp _), _, _⟩, _, _, _, _⟩ :: _) _ _ _; refine cl (callee := .tmp _) rfl (fun w hw => hp' _ hw.ext) rfl rfl ?_)) | refine s_nil ?_ | refine kh_normal ?_ | refine kh_ret ?_ | refine bh_ret ?_))
      exact rh1 rfl rfl ⟨congrArg (Value.int .i64) hv, rfl⟩ (ent_nil _)
    | false =>
      simp only [hb] at hp'
      rw [if_neg (by rw [hb]; simp)] at hv
      (repeat' (first | (show VH _ _ _ _ _ _ _; first | refine v_seq ?_ | refine r_seq ?_ | refine v_block ?_ | refine v_skip ?_ | refine v_cond_t rfl tbL ?_ | refine v_cond_f rfl tbL ?_) | (show SH _ _ _ _ _ (_ :: _) _ _ _; first | (show SH _ _ _ _ _ (⟨_, .move _, _, _, _, _⟩ :: _) _ _ _; refine mov evL ?_) | (show SH _ _ _ _ _ (⟨_, .assign _, _, _, _, _⟩ :: _) _ _ _; refine asg evL ?_) | (show SH _ _ _ _ _ (⟨_, .binOp .lss _ _ _ _, _, _, _, _⟩ :: _) _ _ _; refine lssT rfl rfl omD ?_) | (show SH _ _ _ _ _ (⟨_, .binOp .add _ _ _ _, _, _, _, _⟩ :: _) _ _ _; refine add rfl rfl inL ?_) | (show SH _ _ _ _ _ (⟨_, .load _ _, _, _, _, _⟩ :: _) _ _ _; first | refine lra rfl (fun _ _ => rdX) (by rfl) omL ?_ | refine lra rfl (fun _ _ => rdX) (by rfl) (by simp only [List.length_cons, List.length_nil]; omega) ?_) | (show SH _ _ _ _ _ (⟨_, .indexAddr _ _ _, _, _, _, _⟩ :: _) _ _ _; refine ix rfl rfl (by with_reducible rfl) (fun _ _ => rdX) (by rfl) omL omL ?_) | (show SH _ _ _ _ _ (⟨_, .call ⟨.value (.tmp _), _, _⟩, _, _, _, _⟩ :: _) _ _ _; refine cl (callee := .tmp _) rfl (fun w hw => hp' _ hw.ext) rfl rfl ?_)) | refine s_nil ?_ | refine kh_normal ?_ | refine bh_normal ?_))
      exact ⟨agL, k + 1, hsL, enL, ⟨by omega, hv⟩, by omega⟩
  · rw [List.drop_of_length_le (by omega), idxFrom] at hv
    (repeat' (first | (show VH _ _ _ _ _ _ _; first | refine v_seq ?_ | refine r_seq ?_ | refine v_ret ?_ | refine v_exit ?_ | refine v_cond_f rfl tbL ?_) | (show SH _ _ _ _ _ (_ :: _) _ _ _; first | (show SH _ _ _ _ _ (⟨_, .assign _, _, _, _, _⟩ :: _) _ _ _; refine asg evL ?_) | (show SH _ _ _ _ _ (⟨_, .binOp .lss _ _ _ _, _, _, _, _⟩ :: _) _ _ _; refine lssF rfl rfl omD ?_)) | refine s_nil ?_ | refine kh_normal ?_ | refine kh_exit ?_ | refine bh_exit ?_))
    exact rh1 rfl rfl ⟨congrArg (Value.int .i64) hv, rfl⟩ (ent_nil _)
set_option maxRecDepth 100000 in
theorem containsFuncC_spec (A : Option Addr) (l : List Comp) (cp : Nat) (fv : Value) (p : Comp → Bool) (w : World) (hl : l.length ≤ 140737488355328) (hr : Rd w A l) (hp : AsksL w fv l p) :
    Ret Tryz.prog 136 [.slice A l.length cp, fv].toArray w (Out w (.bool (l.any p))) := by
  refine enterH Tryz.func136 rfl rfl Tryz.ntmps136 rfl (Wd.refl _) ?_
  (repeat' (first | (show VH _ _ _ _ _ _ _; first | refine v_seq ?_ | refine r_seq ?_ | refine v_ret ?_) | (show SH _ _ _ _ _ (_ :: _) _ _ _; first | (show SH _ _ _ _ _ (⟨_, .move _, _, _, _, _⟩ :: _) _ _ _; refine mov evL ?_) | (show SH _ _ _ _ _ (⟨_, .assign _, _, _, _, _⟩ :: _) _ _ _; refine asg evL ?_) | refine geq rfl rfl ?_ | (show SH _ _ _ _ _ (⟨_, .call ⟨.value (.func 100), _, _⟩, _, _, _, _⟩ :: _) _ _ _; refine cl (callee := .func 100) rfl (fun w hw => indexFuncC_spec A l cp fv p w hl (hr.ext hw.ext) (hp.ext hw.ext)) rfl rfl ?_)) | refine s_nil ?_ | refine kh_normal ?_))
  exact rh1 rfl rfl ⟨congrArg Value.bool (idxFrom_any p l 0 (by omega)), rfl⟩ (ent_nil _)
set_option maxRecDepth 100000 in
theorem indexFuncE_spec (A : Option Addr) (l : List EntP) (cp : Nat) (fv : Value) (p : EntP → Bool) (w : World) (hl : l.length ≤ 140737488355328) (hr : Rd w A l) (hp : AsksL w fv l p) :
    Ret Tryz.prog 133 [.slice A l.length cp, fv].toArray w (Out w (.int .i64 (idxOf p l))) := by
  obtain ⟨g0, fst, cap, rfl, hp⟩ := hp
  refine enterH Tryz.func133 rfl rfl Tryz.ntmps133 rfl (Wd.refl _) ?_
  (repeat' (first | (show VH _ _ _ _ _ _ _; first | refine v_seq ?_ | refine r_seq ?_ | refine v_block ?_) | (show SH _ _ _ _ _ (_ :: _) _ _ _; first | (show SH _ _ _ _ _ (⟨_, .move _, _, _, _, _⟩ :: _) _ _ _; refine mov evL ?_) | (show SH _ _ _ _ _ (⟨_, .assign _, _, _, _, _⟩ :: _) _ _ _; refine asg evL ?_) | refine slen rfl ?_) | refine s_nil ?_ | refine kh_normal ?_))
  refine v_loop0 [(4,5),(8,18)] (fun k : Nat => [(8, .int .i64 k)]) (fun k => k ≤ l.length ∧ idxFrom p k (l.drop k) = idxOf p l) (fun k => l.length - k) 0 hsL ⟨Nat.zero_le _, rfl⟩ ?_
  rintro k g ⟨hk, hv⟩
  simp only [sets]
  by_cases hkl : k < l.length
  · have hp' := fun w he => hp w he (l.getD k Flat.dflt) (getD_mem hkl)
    rw [drop_cons (d := Flat.dflt) hkl, idxFrom] at hv
    cases hb : p (l.getD k Flat.dflt) with
    | true =>
      simp only [hb] at hp'
      rw [if_pos hb] at hv
      (repeat' (first | (show VH _ _ _ _ _ _ _; first | refine v_seq ?_ | refine r_seq ?_ | refine v_block ?_ | refine v_ret ?_ | refine v_skip ?_ | refine v_cond_t rfl tbL ?_) | (show SH _ _ _ _ _ (_ :: _) _ _ _; first | (show SH _ _ _ _ _ (⟨_, .move _, _, _, _, _⟩ :: _) _ _ _; refine mov evL ?_) | (show SH _ _ _ _ _ (⟨_, .assign _, _, _, _, _⟩ :: _) _ _ _; refine asg evL ?_) | (show SH _ _ _ _ _ (⟨_, .binOp .lss _ _ _ _, _, _, _, _⟩ :: _) _ _ _; refine lssT rfl rfl omD ?_) | (show SH _ _ _ _ _ (⟨_, .load _ _, _, _, _, _⟩ :: _) _ _ _; first | refine lra rfl (fun _ _ => rdX) (by rfl) omL ?_ | refine lra rfl (fun _ _ => rdX) (by rfl) (by simp only [List.length_cons, List.length_nil]; omega) ?_) | (show SH _ _ _ _ _ (⟨_, .indexAddr _ _ _, _, _, _, _⟩ :: _) _ _ _; refine ix rfl rfl (by with_reducible rfl) (fun _ _ => rdX) (by rfl) omL omL ?_) | (show SH _ _ _ _ _ (⟨_, .call ⟨.value (.tmp _), _, _⟩, _, _, _, _⟩ :: _) _ _ _; refine cl (callee := .tmp _) rfl (fun w hw => hp' _ hw.ext) rfl rfl ?_)) | refine s_nil ?_ | refine kh_normal ?_ | refine kh_ret ?_ | refine bh_ret ?_))
      exact rh1 rfl rfl ⟨congrArg (Value.int .i64) hv, rfl⟩ (ent_nil _)
    | false =>
      simp only [hb] at hp'
      rw [if_neg (by rw [hb]; simp)] at hv
      (repeat' (first | (show VH _ _ _ _ _ _ _; first | refine v_seq ?_ | refine r_seq ?_ | refine v_block ?_ | refine v_skip ?_ | refine v_cond_t rfl tbL ?_ | refine v_cond_f rfl tbL ?_) | (show SH _ _ _ _ _ (_ :: _) _ _ _; first | (show SH _ _ _ _ _ (⟨_, .move _, _, _, _, _⟩ :: _) _ _ _; refine mov evL ?_) | (show SH _ _ _ _ _ (⟨_, .assign _, _, _, _, _⟩ :: _) _ _ _; refine asg evL ?_) | (show SH _ _ _ _ _ (⟨_, .binOp .lss _ _ _ _, _, _, _, _⟩ :: _) _ _ _; refine lssT rfl rfl omD ?_) | (show SH _ _ _ _ _ (⟨_, .binOp .add _ _ _ _, _, _, _, _⟩ :: _) _ _ _; refine add rfl rfl inL ?_) | (show SH _ _ _ _ _ (⟨_, .load _ _, _, _, _, _⟩ :: _) _ _ _; first | refine lra rfl (fun _ _ => rdX) (by rfl) omL ?_ | refine lra rfl (fun _ _ => rdX) (by rfl) (by simp only [List.length_cons, List.length_nil]; omega) ?_) | (show SH _ _ _ _ _ (⟨_, .indexAddr _ _ _, _, _, _, _⟩ :: _) _ _ _; refine ix rfl rfl (by with_reducible rfl) (fun _ _ => rdX) (by rfl) omL omL ?_) | (show SH _ _ _ _ _ (⟨_, .call ⟨.value (.tmp _), _, _⟩, _, _, _, _⟩ :: _) _ _ _; refine cl (callee := .tmp _) rfl (fun w hw => hp' _ hw.ext) rfl rfl ?_)) | refine s_nil ?_ | refine kh_normal ?_ | refine bh_normal ?_))
      exact ⟨agL, k + 1, hsL, enL, ⟨by omega, hv⟩, by omega⟩
  · rw [List.drop_of_length_le (by omega), idxFrom] at hv
    (repeat' (first | (show VH _ _ _ _ _ _ _; first | refine v_seq ?_ | refine r_seq ?_ | refine v_ret ?_ | refine v_exit ?_ | refine v_cond_f rfl tbL ?_) | (show SH _ _ _ _ _ (_ :: _) _ _ _; first | (show SH _ _ _ _ _ (⟨_, .assign _, _, _, _, _⟩ :: _) _ _ _; refine asg evL ?_) | (show SH _ _ _ _ _ (⟨_, .binOp .lss _ _ _ _, _, _, _, _⟩ :: _) _ _ _; refine lssF rfl rfl omD ?_)) | refine s_nil ?_ | refine kh_normal ?_ | refine kh_exit ?_ | refine bh_exit ?_))
    exact rh1 rfl rfl ⟨congrArg (Value.int .i64) hv, rfl⟩ (ent_nil _)
set_option maxRecDepth 100000 in
theorem containsFuncE_spec (A : Option Addr) (l : List EntP) (cp : Nat) (fv : Value) (p : EntP → Bool) (w : World) (hl : l.length ≤ 140737488355328) (hr : Rd w A l) (hp : AsksL w fv l p) :
    Ret Tryz.prog 97 [.slice A l.length cp, fv].toArray w (Out w (.bool (l.any p))) := by
  refine enterH Tryz.func97 rfl rfl Tryz.ntmps97 rfl (Wd.refl _) ?_
  (repeat' (first | (show VH _ _ _ _ _ _ _; first | refine v_seq ?_ | refine r_seq ?_ | refine v_ret ?_) | (show SH _ _ _ _ _ (_ :: _) _ _ _; first | (show SH _ _ _ _ _ (⟨_, .move _, _, _, _, _⟩ :: _) _ _ _; refine mov evL ?_) | (show SH _ _ _ _ _ (⟨_, .assign _, _, _, _, _⟩ :: _) _ _ _; refine asg evL ?_) | refine geq rfl rfl ?_ | (show SH _ _ _ _ _ (⟨_, .call ⟨.value (.func 133), _, _⟩, _, _, _, _⟩ :: _) _ _ _; refine cl (callee := .func 133) rfl (fun w hw => indexFuncE_spec A l cp fv p w hl (hr.ext hw.ext) (hp.ext hw.ext)) rfl rfl ?_)) | refine s_nil ?_ | refine kh_normal ?_))
  exact rh1 rfl rfl ⟨congrArg Value.bool (idxFrom_any p l 0 (by omega)), rfl⟩ (ent_nil _)
set_option maxRecDepth 100000 in
theorem indexFuncV_spec (A : Option Addr) (l : List Pt) (cp : Nat) (fv : Value) (p : Pt → Bool) (w : World) (hl : l.length ≤ 140737488355328) (hr : Rd w A l) (hp : AsksL w fv l p) :
    Ret Tryz.prog 103 [.slice A l.length cp, fv].toArray w (Out w (.int .i64 (idxOf p l))) := by
  obtain ⟨g0, fst, cap, rfl, hp⟩ := hp
  refine enterH Tryz.func103 rfl rfl Tryz.ntmps103 rfl (Wd.refl _) ?_
  (repeat' (first | (show VH _ _ _ _ _ _ _; first | refine v_seq ?_ | refine r_seq ?_ | refine v_block ?_) | (show SH _ _ _ _ _ (_ :: _) _ _ _; first | (show SH _ _ _ _ _ (⟨_, .move _, _, _, _, _⟩ :: _) _ _ _; refine mov evL ?_) | (show SH _ _ _ _ _ (⟨_, .assign _, _, _, _, _⟩ :: _) _ _ _; refine asg evL ?_) | refine slen rfl ?_) | refine s_nil ?_ | refine kh_normal ?_))
  refine v_loop0 [(4,5),(8,18)] (fun k : Nat => [(8, .int .i64 k)]) (fun k => k ≤ l.length ∧ idxFrom p k (l.drop k) = idxOf p l) (fun k => l.length - k) 0 hsL ⟨Nat.zero_le _, rfl⟩ ?_
  rintro k g ⟨hk, hv⟩
  simp only [sets]
  by_cases hkl : k < l.length
  · have hp' := fun w he => hp w he (l.getD k Flat.dflt) (getD_mem hkl)
    rw [drop_cons (d := Flat.dflt) hkl, idxFrom] at hv
    cases hb : p (l.getD k Flat.dflt) with
    | true =>
      simp only [hb] at hp'
      rw [if_pos hb] at hv
      (repeat' (first | (show VH _ _ _ _ _ _ _; first | refine v_seq ?_ | refine r_seq ?_ | refine v_block ?_ | refine v_ret ?_ | refine v_skip ?_ | refine v_cond_t rfl tbL ?_) | (show SH _ _ _ _ _ (_ :: _) _ _ _; first | (show SH _ _ _ _ _ (⟨_, .move _, _, _, _, _⟩ :: _) _ _ _; refine mov evL ?_) | (show SH _ _ _ _ _ (⟨_, .assign _, _, _, _, _⟩ :: _) _ _ _; refine asg evL ?_) | (show SH _ _ _ _ _ (⟨_, .binOp .lss _ _ _ _, _, _, _, _⟩ :: _) _ _ _; refine lssT rfl rfl omD ?_) | (show SH _ _ _ _ _ (⟨_, .load _ _, _, _, _, _⟩ :: _) _ _ _; first | refine lra rfl (fun _ _ => rdX) (by rfl) omL ?_ | refine lra rfl (fun _ _ => rdX) (by rfl) (by simp only [List.length_cons, List.length_nil]; omega) ?_) | (show SH _ _ _ _ _ (⟨_, .indexAddr _ _ _, _, _, _, _⟩ :: _) _ _ _; refine ix rfl rfl (by with_reducible rfl) (fun _ _ => rdX) (by rfl) omL omL ?_) | (show SH _ _ _ _ _ (⟨_, .call ⟨.value (.tmp _), _, _⟩, _, _, _, _⟩ :: _) _ _ _; refine cl (callee := .tmp _) rfl (fun w hw => hp' _ hw.ext) rfl rfl ?_)) | refine s_nil ?_ | refine kh_normal ?_ | refine kh_ret ?_ | refine bh_ret ?_))
      exact rh1 rfl rfl ⟨congrArg (Value.int .i64) hv, rfl⟩ (ent_nil _)
    | false =>
      simp only [hb] at hp'
      rw [if_neg (by rw [hb]; simp)] at hv
      (repeat' (first | (show VH _ _ _ _ _ _ _; first | refine v_seq ?_ | refine r_seq ?_ | refine v_block ?_ | refine v_skip ?_ | refine v_cond_t rfl tbL ?_ | refine v_cond_f rfl tbL ?_) | (show SH _ _ _ _ _ (_ :: _) _ _ _; first | (show SH _ _ _ _ _ (⟨_, .move _, _, _, _, _⟩ :: _) _ _ _; refine mov evL ?_) | (show SH _ _ _ _ _ (⟨_, .assign _, _, _, _, _⟩ :: _) _ _ _; refine asg evL ?_) | (show SH _ _ _ _ _ (⟨_, .binOp .lss _ _ _ _, _, _, _, _⟩ :: _) _ _ _; refine lssT rfl rfl omD ?_) | (show SH _ _ _ _ _ (⟨_, .binOp .add _ _ _ _, _, _, _, _⟩ :: _) _ _ _; refine add rfl rfl inL ?_) | (show SH _ _ _ _ _ (⟨_, .load _ _, _, _, _, _⟩ :: _) _ _ _; first | refine lra rfl (fun _ _ => rdX) (by rfl) omL ?_ | refine lra rfl (fun _ _ => rdX) (by rfl) (by simp only [List.length_cons, List.length_nil]; omega) ?_) | (show SH _ _ _ _ _ (⟨_, .indexAddr _ _ _, _, _, _, _⟩ :: _) _ _ _; refine ix rfl rfl (by with_reducible rfl) (fun _ _ => rdX) (by rfl) omL omL ?_) | (show SH _ _ _ _ _ (⟨_, .call ⟨.value (.tmp _), _, _⟩, _, _, _, _⟩ :: _) _ _ _; refine cl (callee := .tmp _) rfl (fun w hw => hp' _ hw.ext) rfl rfl ?_)) | refine s_nil ?_ | refine kh_normal ?_ | refine bh_normal ?_))
      exact ⟨agL, k + 1, hsL, enL, ⟨by omega, hv⟩, by omega⟩
  · rw [List.drop_of_length_le (by omega), idxFrom] at hv
    (repeat' (first | (show VH _ _ _ _ _ _ _; first | refine v_seq ?_ | refine r_seq ?_ | refine v_ret ?_ | refine v_exit ?_ | refine v_cond_f rfl tbL ?_) | (show SH _ _ _ _ _ (_ :: _) _ _ _; first | (show SH _ _ _ _ _ (⟨_, .assign _, _, _, _, _⟩ :: _) _ _ _; refine asg evL ?_) | (show SH _ _ _ _ _ (⟨_, .binOp .lss _ _ _ _, _, _, _, _⟩ :: _) _ _ _; refine lssF rfl rfl omD ?_)) | refine s_nil ?_ | refine kh_normal ?_ | refine kh_exit ?_ | refine bh_exit ?_))
    exact rh1 rfl rfl ⟨congrArg (Value.int .i64) hv, rfl⟩ (ent_nil _)
set_option maxRecDepth 100000 in
theorem containsFuncV_spec (A : Option Addr) (l : List Pt) (cp : Nat) (fv : Value) (p : Pt → Bool) (w : World) (hl : l.length ≤ 140737488355328) (hr : Rd w A l) (hp : AsksL w fv l p) :
    Ret Tryz.prog 60 [.slice A l.length cp, fv].toArray w (Out w (.bool (l.any p))) := by
  refine enterH Tryz.func60 rfl rfl Tryz.ntmps60 rfl (Wd.refl _) ?_
  (repeat' (first | (show VH _ _ _ _ _ _ _; first | refine v_seq ?_ | refine r_seq ?_ | refine v_ret ?_) | (show SH _ _ _ _ _ (_ :: _) _ _ _; first | (show SH _ _ _ _ _ (⟨_, .move _, _, _, _, _⟩ :: _) _ _ _; refine mov evL ?_) | (show SH _ _ _ _ _ (⟨_, .assign _, _, _, _, _⟩ :: _) _ _ _; refine asg evL ?_) | refine geq rfl rfl ?_ | (show SH _ _ _ _ _ (⟨_, .call ⟨.value (.func 103), _, _⟩, _, _, _, _⟩ :: _) _ _ _; refine cl (callee := .func 103) rfl (fun w hw => indexFuncV_spec A l cp fv p w hl (hr.ext hw.ext) (hp.ext hw.ext)) rfl rfl ?_)) | refine s_nil ?_ | refine kh_normal ?_))
  exact rh1 rfl rfl ⟨congrArg Value.bool (idxFrom_any p l 0 (by omega)), rfl⟩ (ent_nil _)
end Go.Proofs.YtjefoecnciepmaaGreatDoor

/- Package store: what is valid. -/
namespace Go.Proofs.YtjefoecnciepmaaGreatDoor
open Go.Fw Go.RowKit
/-- The package-level table of ranges reads as it is laid. -/
abbrev Glob (w : World) : Prop := Rd w (some ⟨0, 0, none⟩) RNG
set_option maxHeartbeats 1000000 in
set_option maxRecDepth 100000 in
theorem fits_spec (c : Comp) (w : World) (hG : Glob w) : Ret Tryz.prog 138 [.agg (Flat.enc c).toArray].toArray w (Out w (.bool (decide (Fits c)))) := by
  obtain ⟨k, a, b, c, d⟩ := c
  rw [show Flat.enc (⟨k, a, b, c, d⟩ : Comp) = [.int .u8 k, .int .i64 a, .int .i64 b, .int .i64 c, .int .i64 d] from rfl]
  by_cases hk : 1 ≤ k ∧ k ≤ 10
  case neg =>
    have hF : ¬ Fits ⟨k, a, b, c, d⟩ := fun h => hk h.kind
    rw [decide_eq_false hF]
    refine enterH Tryz.func138 rfl rfl Tryz.ntmps138 rfl (Wd.refl _) ?_
    by_cases hk1 : k < 1
    · (repeat' (first | (show VH _ _ _ _ _ _ _; first | refine v_seq ?_ | refine r_seq ?_ | refine v_ret ?_ | refine v_cond_t rfl tbL ?_) | (show SH _ _ _ _ _ (_ :: _) _ _ _; first | (show SH _ _ _ _ _ (⟨_, _, _, _, _, some _⟩ :: _) _ _ _; (refine gif rfl rfl ?_; refine giFT tbL ?_)) | (show SH _ _ _ _ _ (⟨_, .move _, _, _, _, _⟩ :: _) _ _ _; refine mov evL ?_) | (show SH _ _ _ _ _ (⟨_, .assign _, _, _, _, _⟩ :: _) _ _ _; refine asg evL ?_) | (show SH _ _ _ _ _ (⟨_, .binOp .lss _ _ _ _, _, _, _, _⟩ :: _) _ _ _; refine lssT rfl rfl omD ?_) | (show SH _ _ _ _ _ (⟨_, .load _ _, _, _, _, _⟩ :: _) _ _ _; refine lbx rfl spL (by rfl) ?_) | (show SH _ _ _ _ _ (⟨_, .pick _ _ _, _, _, _, _⟩ :: _) _ _ _; refine pkt rfl tbL evL ?_) | refine fad rfl ?_ | (show SH _ _ _ _ _ (⟨_, .box _ _, _, _, _, _⟩ :: _) _ _ _; refine bxx rfl evL rfl (fun b => ?_))) | refine s_nil ?_ | refine kh_normal ?_ | refine kh_ret ?_))
      exact rh1 rfl rfl ⟨rfl, rfl⟩ (ent_nil _)
    · (repeat' (first | (show VH _ _ _ _ _ _ _; first | refine v_seq ?_ | refine r_seq ?_ | refine v_ret ?_ | refine v_cond_t rfl tbL ?_) | (show SH _ _ _ _ _ (_ :: _) _ _ _; first | (show SH _ _ _ _ _ (⟨_, _, _, _, _, some _⟩ :: _) _ _ _; (refine gif rfl rfl ?_; refine giFF tbL ?_)) | (show SH _ _ _ _ _ (⟨_, .move _, _, _, _, _⟩ :: _) _ _ _; refine mov evL ?_) | (show SH _ _ _ _ _ (⟨_, .assign _, _, _, _, _⟩ :: _) _ _ _; refine asg evL ?_) | (show SH _ _ _ _ _ (⟨_, .binOp .lss _ _ _ _, _, _, _, _⟩ :: _) _ _ _; refine lssF rfl rfl omD ?_) | (show SH _ _ _ _ _ (⟨_, .binOp .gtr _ _ _ _, _, _, _, _⟩ :: _) _ _ _; refine gtrT rfl rfl omD ?_) | (show SH _ _ _ _ _ (⟨_, .load _ _, _, _, _, _⟩ :: _) _ _ _; refine lbx rfl spL (by rfl) ?_) | (show SH _ _ _ _ _ (⟨_, .pick _ _ _, _, _, _, _⟩ :: _) _ _ _; refine pkf rfl tbL evL ?_) | refine fad rfl ?_ | (show SH _ _ _ _ _ (⟨_, .box _ _, _, _, _, _⟩ :: _) _ _ _; refine bxx rfl evL rfl (fun b => ?_))) | refine s_nil ?_ | refine kh_normal ?_ | refine kh_ret ?_))
      exact rh1 rfl rfl ⟨rfl, rfl⟩ (ent_nil _)
  obtain ⟨j, rfl⟩ : ∃ j : Nat, k = (j : Int) := ⟨k.toNat, by omega⟩
  have hj11 : j < RNG.length := by show j < 11; omega
  have hlen : RNG.length = 11 := rfl
  obtain ⟨R, hR⟩ : ∃ R, RNG = R := ⟨_, rfl⟩
  have hF : Fits ⟨(j : Int), a, b, c, d⟩ ↔ InR (R.getD j Flat.dflt) ⟨j, a, b, c, d⟩ ∧ (j = 3 → c = 0 ∨ a = b) ∧ (j = 5 → a % 2 = 0) := by
    have hj : ((j : Int)).toNat = j := Int.toNat_natCast j
    constructor
    · rintro ⟨_, h2, h3, h4⟩
      simp only [hj] at h2
      rw [← hR]
      exact ⟨h2, fun e => h3 (by show (j : Int) = 3; omega), fun e => h4 (by show (j : Int) = 5; omega)⟩
    · rintro ⟨h2, h3, h4⟩
      rw [← hR] at h2
      exact ⟨hk, by simp only [hj]; exact h2, fun e => h3 (by have e : (j : Int) = 3 := e; omega), fun e => h4 (by have e : (j : Int) = 5 := e; omega)⟩
  unfold Glob at hG
  rw [hR] at hG hj11 hlen
  refine enterH Tryz.func138 rfl rfl Tryz.ntmps138 rfl (Wd.refl _) ?_
  (repeat' (first | (show VH _ _ _ _ _ _ _; first | refine v_seq ?_ | refine r_seq ?_ | refine v_block ?_ | refine v_skip ?_ | refine v_cond_f rfl tbL ?_) | (show SH _ _ _ _ _ (_ :: _) _ _ _; first | (show SH _ _ _ _ _ (⟨_, _, _, _, _, some _⟩ :: _) _ _ _; (refine gif rfl rfl ?_; refine giFF tbL ?_)) | (show SH _ _ _ _ _ (⟨_, .move _, _, _, _, _⟩ :: _) _ _ _; refine mov evL ?_) | (show SH _ _ _ _ _ (⟨_, .assign _, _, _, _, _⟩ :: _) _ _ _; refine asg evL ?_) | (show SH _ _ _ _ _ (⟨_, .binOp .lss _ _ _ _, _, _, _, _⟩ :: _) _ _ _; refine lssF rfl rfl omD ?_) | (show SH _ _ _ _ _ (⟨_, .binOp .gtr _ _ _ _, _, _, _, _⟩ :: _) _ _ _; refine gtrF rfl rfl omD ?_) | (show SH _ _ _ _ _ (⟨_, .load _ _, _, _, _, _⟩ :: _) _ _ _; first | refine lbx rfl spL (by rfl) ?_ | refine lra rfl (fun _ _ => rdX) (by rfl) omL ?_ | refine lra rfl (fun _ _ => rdX) (by rfl) (by simp only [List.length_cons, List.length_nil]; omega) ?_) | (show SH _ _ _ _ _ (⟨_, .indexAddr _ _ _, _, _, _, _⟩ :: _) _ _ _; refine ixA _ rfl rfl rfl omL ?_) | (show SH _ _ _ _ _ (⟨_, .pick _ _ _, _, _, _, _⟩ :: _) _ _ _; refine pkf rfl tbL evL ?_) | refine fad rfl ?_ | (show SH _ _ _ _ _ (⟨_, .box _ _, _, _, _, _⟩ :: _) _ _ _; refine bxx rfl evL rfl (fun b => ?_))) | refine s_nil ?_ | refine kh_normal ?_))
  rename_i b1
  obtain ⟨r, hr⟩ : ∃ r, R.getD j Flat.dflt = r := ⟨_, rfl⟩
  rw [hr] at hF
  have hrow : (Flat.enc (R.getD j Flat.dflt)) = Flat.enc r := by rw [hr]
  rw [hrow]
  clear hrow
  obtain ⟨l0, h0, l1, h1, l2, h2, l3, h3⟩ := r
  refine v_norm [(1,_),(16,_),(17,_)] heL (fun g => ?_)
  refine v_loop0 [(2,4),(17,37)] (fun i : Nat => [(17, .int .i64 i)]) (fun i => i ≤ 4 ∧ (0 < i → l0 ≤ a ∧ a ≤ h0) ∧ (1 < i → l1 ≤ b1 ∧ b1 ≤ h1) ∧ (2 < i → l2 ≤ c ∧ c ≤ h2) ∧ (3 < i → l3 ≤ d ∧ d ≤ h3)) (fun i => 4 - i) 0 hsL ⟨Nat.zero_le _, fun h => absurd h (by omega), fun h => absurd h (by omega), fun h => absurd h (by omega), fun h => absurd h (by omega)⟩ ?_
  rintro i g1 ⟨hi, i0, i1, i2, i3⟩
  simp only [sets]
  obtain rfl | rfl | rfl | rfl | rfl : i = 0 ∨ i = 1 ∨ i = 2 ∨ i = 3 ∨ i = 4 := by omega
  · have r0 : InR ⟨l0, h0, l1, h1, l2, h2, l3, h3⟩ ⟨j, a, b1, c, d⟩ → l0 ≤ a ∧ a ≤ h0 := fun h => h.r0
    have hfits := hF
    by_cases ha : l0 ≤ a
    · by_cases hb : a ≤ h0
      · clear hF hfits r0
        (repeat' (first | (show VH _ _ _ _ _ _ _; first | refine v_seq ?_ | refine r_seq ?_ | refine v_block ?_ | refine v_skip ?_ | refine v_cond_t rfl tbL ?_) | (show SH _ _ _ _ _ (_ :: _) _ _ _; first | (show SH _ _ _ _ _ (⟨_, .move _, _, _, _, _⟩ :: _) _ _ _; refine mov evL ?_) | (show SH _ _ _ _ _ (⟨_, .binOp .lss _ _ _ _, _, _, _, _⟩ :: _) _ _ _; refine lssT rfl rfl omD ?_)) | refine s_nil ?_ | refine kh_normal ?_))
        refine idxA (i := 0) (cs := [.int .i64 l0, .int .i64 h0]) rfl rfl rfl (by decide) rfl rfl ?_
        (repeat' (first | (show VH _ _ _ _ _ _ _; first | refine v_seq ?_ | refine r_seq ?_ | refine r_quiet hmix (by kernel_rfl) ?_ | refine v_skip ?_ | refine v_cond_f rfl tbL ?_) | (show SH _ _ _ _ _ (_ :: _) _ _ _; first | (show SH _ _ _ _ _ (⟨_, _, _, _, _, some _⟩ :: _) _ _ _; (refine gif rfl rfl ?_; refine giFF tbL ?_)) | (show SH _ _ _ _ _ (⟨_, .move _, _, _, _, _⟩ :: _) _ _ _; refine mov evL ?_) | (show SH _ _ _ _ _ (⟨_, .assign _, _, _, _, _⟩ :: _) _ _ _; refine asg evL ?_) | (show SH _ _ _ _ _ (⟨_, .binOp .lss _ _ _ _, _, _, _, _⟩ :: _) _ _ _; refine lssF rfl rfl omD ?_) | (show SH _ _ _ _ _ (⟨_, .binOp .gtr _ _ _ _, _, _, _, _⟩ :: _) _ _ _; refine gtrF rfl rfl omD ?_) | (show SH _ _ _ _ _ (⟨_, .binOp .add _ _ _ _, _, _, _, _⟩ :: _) _ _ _; refine add rfl rfl inL ?_) | (show SH _ _ _ _ _ (⟨_, .load _ _, _, _, _, _⟩ :: _) _ _ _; refine lbx rfl spL (by rfl) ?_) | (show SH _ _ _ _ _ (⟨_, .indexAddr _ _ _, _, _, _, _⟩ :: _) _ _ _; refine ixA _ rfl rfl rfl omL ?_) | (show SH _ _ _ _ _ (⟨_, .pick _ _ _, _, _, _, _⟩ :: _) _ _ _; refine pkf rfl tbL evL ?_) | refine fad rfl ?_ | refine ala rfl (fun b => ?_) | (show SH _ _ _ _ _ (⟨_, .store _ _ _, _, _, _, _⟩ :: _) _ _ _; refine sta rfl rfl rfl spL (by rfl) (by rfl) (by rfl) kpL ?_)) | refine s_nil ?_ | refine kh_normal ?_ | refine bh_normal ?_))
        exact ⟨agL, 1, hsL, enL, ⟨by omega, fun _ => ⟨ha, hb⟩, fun h => absurd h (by omega), fun h => absurd h (by omega), fun h => absurd h (by omega)⟩, by omega⟩
      · rw [decide_eq_false (fun h => hb (r0 (hF.1 h).1).2)]
        clear hF hfits r0
        (repeat' (first | (show VH _ _ _ _ _ _ _; first | refine v_seq ?_ | refine r_seq ?_ | refine v_block ?_ | refine v_skip ?_ | refine v_cond_t rfl tbL ?_) | (show SH _ _ _ _ _ (_ :: _) _ _ _; first | (show SH _ _ _ _ _ (⟨_, .move _, _, _, _, _⟩ :: _) _ _ _; refine mov evL ?_) | (show SH _ _ _ _ _ (⟨_, .binOp .lss _ _ _ _, _, _, _, _⟩ :: _) _ _ _; refine lssT rfl rfl omD ?_)) | refine s_nil ?_ | refine kh_normal ?_))
        refine idxA (i := 0) (cs := [.int .i64 l0, .int .i64 h0]) rfl rfl rfl (by decide) rfl rfl ?_
        (repeat' (first | (show VH _ _ _ _ _ _ _; first | refine v_seq ?_ | refine r_seq ?_ | refine r_quiet hmix (by kernel_rfl) ?_ | refine v_ret ?_ | refine v_cond_t rfl tbL ?_) | (show SH _ _ _ _ _ (_ :: _) _ _ _; first | (show SH _ _ _ _ _ (⟨_, _, _, _, _, some _⟩ :: _) _ _ _; (refine gif rfl rfl ?_; refine giFF tbL ?_)) | (show SH _ _ _ _ _ (⟨_, .move _, _, _, _, _⟩ :: _) _ _ _; refine mov evL ?_) | (show SH _ _ _ _ _ (⟨_, .assign _, _, _, _, _⟩ :: _) _ _ _; refine asg evL ?_) | (show SH _ _ _ _ _ (⟨_, .binOp .lss _ _ _ _, _, _, _, _⟩ :: _) _ _ _; refine lssF rfl rfl omD ?_) | (show SH _ _ _ _ _ (⟨_, .binOp .gtr _ _ _ _, _, _, _, _⟩ :: _) _ _ _; refine gtrT rfl rfl omD ?_) | (show SH _ _ _ _ _ (⟨_, .load _ _, _, _, _, _⟩ :: _) _ _ _; refine lbx rfl spL (by rfl) ?_) | (show SH _ _ _ _ _ (⟨_, .indexAddr _ _ _, _, _, _, _⟩ :: _) _ _ _; refine ixA _ rfl rfl rfl omL ?_) | (show SH _ _ _ _ _ (⟨_, .pick _ _ _, _, _, _, _⟩ :: _) _ _ _; refine pkf rfl tbL evL ?_) | refine fad rfl ?_ | refine ala rfl (fun b => ?_) | (show SH _ _ _ _ _ (⟨_, .store _ _ _, _, _, _, _⟩ :: _) _ _ _; refine sta rfl rfl rfl spL (by rfl) (by rfl) (by rfl) kpL ?_)) | refine s_nil ?_ | refine kh_normal ?_ | refine kh_ret ?_ | refine bh_ret ?_))
        exact rh1 rfl rfl ⟨rfl, rfl⟩ (ent_nil _)
    · rw [decide_eq_false (fun h => ha (r0 (hF.1 h).1).1)]
      clear hF hfits r0
      (repeat' (first | (show VH _ _ _ _ _ _ _; first | refine v_seq ?_ | refine r_seq ?_ | refine v_block ?_ | refine v_skip ?_ | refine v_cond_t rfl tbL ?_) | (show SH _ _ _ _ _ (_ :: _) _ _ _; first | (show SH _ _ _ _ _ (⟨_, .move _, _, _, _, _⟩ :: _) _ _ _; refine mov evL ?_) | (show SH _ _ _ _ _ (⟨_, .binOp .lss _ _ _ _, _, _, _, _⟩ :: _) _ _ _; refine lssT rfl rfl omD ?_)) | refine s_nil ?_ | refine kh_normal ?_))
      refine idxA (i := 0) (cs := [.int .i64 l0, .int .i64 h0]) rfl rfl rfl (by decide) rfl rfl ?_
      (repeat' (first | (show VH _ _ _ _ _ _ _; first | refine v_seq ?_ | refine r_seq ?_ | refine r_quiet hmix (by kernel_rfl) ?_ | refine v_ret ?_ | refine v_cond_t rfl tbL ?_) | (show SH _ _ _ _ _ (_ :: _) _ _ _; first | (show SH _ _ _ _ _ (⟨_, _, _, _, _, some _⟩ :: _) _ _ _; (refine gif rfl rfl ?_; refine giFT tbL ?_)) | (show SH _ _ _ _ _ (⟨_, .move _, _, _, _, _⟩ :: _) _ _ _; refine mov evL ?_) | (show SH _ _ _ _ _ (⟨_, .assign _, _, _, _, _⟩ :: _) _ _ _; refine asg evL ?_) | (show SH _ _ _ _ _ (⟨_, .binOp .lss _ _ _ _, _, _, _, _⟩ :: _) _ _ _; refine lssT rfl rfl omD ?_) | (show SH _ _ _ _ _ (⟨_, .load _ _, _, _, _, _⟩ :: _) _ _ _; refine lbx rfl spL (by rfl) ?_) | (show SH _ _ _ _ _ (⟨_, .indexAddr _ _ _, _, _, _, _⟩ :: _) _ _ _; refine ixA _ rfl rfl rfl omL ?_) | (show SH _ _ _ _ _ (⟨_, .pick _ _ _, _, _, _, _⟩ :: _) _ _ _; refine pkt rfl tbL evL ?_) | refine fad rfl ?_ | refine ala rfl (fun b => ?_) | (show SH _ _ _ _ _ (⟨_, .store _ _ _, _, _, _, _⟩ :: _) _ _ _; refine sta rfl rfl rfl spL (by rfl) (by rfl) (by rfl) kpL ?_)) | refine s_nil ?_ | refine kh_normal ?_ | refine kh_ret ?_ | refine bh_ret ?_))
      exact rh1 rfl rfl ⟨rfl, rfl⟩ (ent_nil _)
  · have r0 : InR ⟨l0, h0, l1, h1, l2, h2, l3, h3⟩ ⟨j, a, b1, c, d⟩ → l1 ≤ b1 ∧ b1 ≤ h1 := fun h => h.r1
    have hfits := hF
    by_cases ha : l1 ≤ b1
    · by_cases hb : b1 ≤ h1
      · clear hF hfits r0
        (repeat' (first | (show VH _ _ _ _ _ _ _; first | refine v_seq ?_ | refine r_seq ?_ | refine v_block ?_ | refine v_skip ?_ | refine v_cond_t rfl tbL ?_) | (show SH _ _ _ _ _ (_ :: _) _ _ _; first | (show SH _ _ _ _ _ (⟨_, .move _, _, _, _, _⟩ :: _) _ _ _; refine mov evL ?_) | (show SH _ _ _ _ _ (⟨_, .binOp .lss _ _ _ _, _, _, _, _⟩ :: _) _ _ _; refine lssT rfl rfl omD ?_)) | refine s_nil ?_ | refine kh_normal ?_))
        refine idxA (i := 1) (cs := [.int .i64 l1, .int .i64 h1]) rfl rfl rfl (by decide) rfl rfl ?_
        (repeat' (first | (show VH _ _ _ _ _ _ _; first | refine v_seq ?_ | refine r_seq ?_ | refine r_quiet hmix (by kernel_rfl) ?_ | refine v_skip ?_ | refine v_cond_f rfl tbL ?_) | (show SH _ _ _ _ _ (_ :: _) _ _ _; first | (show SH _ _ _ _ _ (⟨_, _, _, _, _, some _⟩ :: _) _ _ _; (refine gif rfl rfl ?_; refine giFF tbL ?_)) | (show SH _ _ _ _ _ (⟨_, .move _, _, _, _, _⟩ :: _) _ _ _; refine mov evL ?_) | (show SH _ _ _ _ _ (⟨_, .assign _, _, _, _, _⟩ :: _) _ _ _; refine asg evL ?_) | (show SH _ _ _ _ _ (⟨_, .binOp .lss _ _ _ _, _, _, _, _⟩ :: _) _ _ _; refine lssF rfl rfl omD ?_) | (show SH _ _ _ _ _ (⟨_, .binOp .gtr _ _ _ _, _, _, _, _⟩ :: _) _ _ _; refine gtrF rfl rfl omD ?_) | (show SH _ _ _ _ _ (⟨_, .binOp .add _ _ _ _, _, _, _, _⟩ :: _) _ _ _; refine add rfl rfl inL ?_) | (show SH _ _ _ _ _ (⟨_, .load _ _, _, _, _, _⟩ :: _) _ _ _; refine lbx rfl spL (by rfl) ?_) | (show SH _ _ _ _ _ (⟨_, .indexAddr _ _ _, _, _, _, _⟩ :: _) _ _ _; refine ixA _ rfl rfl rfl omL ?_) | (show SH _ _ _ _ _ (⟨_, .pick _ _ _, _, _, _, _⟩ :: _) _ _ _; refine pkf rfl tbL evL ?_) | refine fad rfl ?_ | refine ala rfl (fun b => ?_) | (show SH _ _ _ _ _ (⟨_, .store _ _ _, _, _, _, _⟩ :: _) _ _ _; refine sta rfl rfl rfl spL (by rfl) (by rfl) (by rfl) kpL ?_)) | refine s_nil ?_ | refine kh_normal ?_ | refine bh_normal ?_))
        exact ⟨agL, 2, hsL, enL, ⟨by omega, fun _ => i0 (by omega), fun _ => ⟨ha, hb⟩, fun h => absurd h (by omega), fun h => absurd h (by omega)⟩, by omega⟩
      · rw [decide_eq_false (fun h => hb (r0 (hF.1 h).1).2)]
        clear hF hfits r0
        (repeat' (first | (show VH _ _ _ _ _ _ _; first | refine v_seq ?_ | refine r_seq ?_ | refine v_block ?_ | refine v_skip ?_ | refine v_cond_t rfl tbL ?_) | (show SH _ _ _ _ _ (_ :: _) _ _ _; first | (show SH _ _ _ _ _ (⟨_, .move _, _, _, _, _⟩ :: _) _ _ _; refine mov evL ?_) | (show SH _ _ _ _ _ (⟨_, .binOp .lss _ _ _ _, _, _, _, _⟩ :: _) _ _ _; refine lssT rfl rfl omD ?_)) | refine s_nil ?_ | refine kh_normal ?_))
        refine idxA (i := 1) (cs := [.int .i64 l1, .int .i64 h1]) rfl rfl rfl (by decide) rfl rfl ?_
        (repeat' (first | (show VH _ _ _ _ _ _ _; first | refine v_seq ?_ | refine r_seq ?_ | refine r_quiet hmix (by kernel_rfl) ?_ | refine v_ret ?_ | refine v_cond_t rfl tbL ?_) | (show SH _ _ _ _ _ (_ :: _) _ _ _; first | (show SH _ _ _ _ _ (⟨_, _, _, _, _, some _⟩ :: _) _ _ _; (refine gif rfl rfl ?_; refine giFF tbL ?_)) | (show SH _ _ _ _ _ (⟨_, .move _, _, _, _, _⟩ :: _) _ _ _; refine mov evL ?_) | (show SH _ _ _ _ _ (⟨_, .assign _, _, _, _, _⟩ :: _) _ _ _; refine asg evL ?_) | (show SH _ _ _ _ _ (⟨_, .binOp .lss _ _ _ _, _, _, _, _⟩ :: _) _ _ _; refine lssF rfl rfl omD ?_) | (show SH _ _ _ _ _ (⟨_, .binOp .gtr _ _ _ _, _, _, _, _⟩ :: _) _ _ _; refine gtrT rfl rfl omD ?_) | (show SH _ _ _ _ _ (⟨_, .load _ _, _, _, _, _⟩ :: _) _ _ _; refine lbx rfl spL (by rfl) ?_) | (show SH _ _ _ _ _ (⟨_, .indexAddr _ _ _, _, _, _, _⟩ :: _) _ _ _; refine ixA _ rfl rfl rfl omL ?_) | (show SH _ _ _ _ _ (⟨_, .pick _ _ _, _, _, _, _⟩ :: _) _ _ _; refine pkf rfl tbL evL ?_) | refine fad rfl ?_ | refine ala rfl (fun b => ?_) | (show SH _ _ _ _ _ (⟨_, .store _ _ _, _, _, _, _⟩ :: _) _ _ _; refine sta rfl rfl rfl spL (by rfl) (by rfl) (by rfl) kpL ?_)) | refine s_nil ?_ | refine kh_normal ?_ | refine kh_ret ?_ | refine bh_ret ?_))
        exact rh1 rfl rfl ⟨rfl, rfl⟩ (ent_nil _)
    · rw [decide_eq_false (fun h => ha (r0 (hF.1 h).1).1)]
      clear hF hfits r0
      (repeat' (first | (show VH _ _ _ _ _ _ _; first | refine v_seq ?_ | refine r_seq ?_ | refine v_block ?_ | refine v_skip ?_ | refine v_cond_t rfl tbL ?_) | (show SH _ _ _ _ _ (_ :: _) _ _ _; first | (show SH _ _ _ _ _ (⟨_, .move _, _, _, _, _⟩ :: _) _ _ _; refine mov evL ?_) | (show SH _ _ _ _ _ (⟨_, .binOp .lss _ _ _ _, _, _, _, _⟩ :: _) _ _ _; refine lssT rfl rfl omD ?_)) | refine s_nil ?_ | refine kh_normal ?_))
      refine idxA (i := 1) (cs := [.int .i64 l1, .int .i64 h1]) rfl rfl rfl (by decide) rfl rfl ?_
      (repeat' (first | (show VH _ _ _ _ _ _ _; first | refine v_seq ?_ | refine r_seq ?_ | refine r_quiet hmix (by kernel_rfl) ?_ | refine v_ret ?_ | refine v_cond_t rfl tbL ?_) | (show SH _ _ _ _ _ (_ :: _) _ _ _; first | (show SH _ _ _ _ _ (⟨_, _, _, _, _, some _⟩ :: _) _ _ _; (refine gif rfl rfl ?_; refine giFT tbL ?_)) | (show SH _ _ _ _ _ (⟨_, .move _, _, _, _, _⟩ :: _) _ _ _; refine mov evL ?_) | (show SH _ _ _ _ _ (⟨_, .assign _, _, _, _, _⟩ :: _) _ _ _; refine asg evL ?_) | (show SH _ _ _ _ _ (⟨_, .binOp .lss _ _ _ _, _, _, _, _⟩ :: _) _ _ _; refine lssT rfl rfl omD ?_) | (show SH _ _ _ _ _ (⟨_, .load _ _, _, _, _, _⟩ :: _) _ _ _; refine lbx rfl spL (by rfl) ?_) | (show SH _ _ _ _ _ (⟨_, .indexAddr _ _ _, _, _, _, _⟩ :: _) _ _ _; refine ixA _ rfl rfl rfl omL ?_) | (show SH _ _ _ _ _ (⟨_, .pick _ _ _, _, _, _, _⟩ :: _) _ _ _; refine pkt rfl tbL evL ?_) | refine fad rfl ?_ | refine ala rfl (fun b => ?_) | (show SH _ _ _ _ _ (⟨_, .store _ _ _, _, _, _, _⟩ :: _) _ _ _; refine sta rfl rfl rfl spL (by rfl) (by rfl) (by rfl) kpL ?_)) | refine s_nil ?_ | refine kh_normal ?_ | refine kh_ret ?_ | refine bh_ret ?_))
      exact rh1 rfl rfl ⟨rfl, rfl⟩ (ent_nil _)
  · have r0 : InR ⟨l0, h0, l1, h1, l2, h2, l3, h3⟩ ⟨j, a, b1, c, d⟩ → l2 ≤ c ∧ c ≤ h2 := fun h => h.r2
    have hfits := hF
    by_cases ha : l2 ≤ c
    · by_cases hb : c ≤ h2
      · clear hF hfits r0
        (repeat' (first | (show VH _ _ _ _ _ _ _; first | refine v_seq ?_ | refine r_seq ?_ | refine v_block ?_ | refine v_skip ?_ | refine v_cond_t rfl tbL ?_) | (show SH _ _ _ _ _ (_ :: _) _ _ _; first | (show SH _ _ _ _ _ (⟨_, .move _, _, _, _, _⟩ :: _) _ _ _; refine mov evL ?_) | (show SH _ _ _ _ _ (⟨_, .binOp .lss _ _ _ _, _, _, _, _⟩ :: _) _ _ _; refine lssT rfl rfl omD ?_)) | refine s_nil ?_ | refine kh_normal ?_))
        refine idxA (i := 2) (cs := [.int .i64 l2, .int .i64 h2]) rfl rfl rfl (by decide) rfl rfl ?_
        (repeat' (first | (show VH _ _ _ _ _ _ _; first | refine v_seq ?_ | refine r_seq ?_ | refine r_quiet hmix (by kernel_rfl) ?_ | refine v_skip ?_ | refine v_cond_f rfl tbL ?_) | (show SH _ _ _ _ _ (_ :: _) _ _ _; first | (show SH _ _ _ _ _ (⟨_, _, _, _, _, some _⟩ :: _) _ _ _; (refine gif rfl rfl ?_; refine giFF tbL ?_)) | (show SH _ _ _ _ _ (⟨_, .move _, _, _, _, _⟩ :: _) _ _ _; refine mov evL ?_) | (show SH _ _ _ _ _ (⟨_, .assign _, _, _, _, _⟩ :: _) _ _ _; refine asg evL ?_) | (show SH _ _ _ _ _ (⟨_, .binOp .lss _ _ _ _, _, _, _, _⟩ :: _) _ _ _; refine lssF rfl rfl omD ?_) | (show SH _ _ _ _ _ (⟨_, .binOp .gtr _ _ _ _, _, _, _, _⟩ :: _) _ _ _; refine gtrF rfl rfl omD ?_) | (show SH _ _ _ _ _ (⟨_, .binOp .add _ _ _ _, _, _, _, _⟩ :: _) _ _ _; refine add rfl rfl inL ?_) | (show SH _ _ _ _ _ (⟨_, .load _ _, _, _, _, _⟩ :: _) _ _ _; refine lbx rfl spL (by rfl) ?_) | (show SH _ _ _ _ _ (⟨_, .indexAddr _ _ _, _, _, _, _⟩ :: _) _ _ _; refine ixA _ rfl rfl rfl omL ?_) | (show SH _ _ _ _ _ (⟨_, .pick _ _ _, _, _, _, _⟩ :: _) _ _ _; refine pkf rfl tbL evL ?_) | refine fad rfl ?_ | refine ala rfl (fun b => ?_) | (show SH _ _ _ _ _ (⟨_, .store _ _ _, _, _, _, _⟩ :: _) _ _ _; refine sta rfl rfl rfl spL (by rfl) (by rfl) (by rfl) kpL ?_)) | refine s_nil ?_ | refine kh_normal ?_ | refine bh_normal ?_))
        exact ⟨agL, 3, hsL, enL, ⟨by omega, fun _ => i0 (by omega), fun _ => i1 (by omega), fun _ => ⟨ha, hb⟩, fun h => absurd h (by omega)⟩, by omega⟩
      · rw [decide_eq_false (fun h => hb (r0 (hF.1 h).1).2)]
        clear hF hfits r0
        (repeat' (first | (show VH _ _ _ _ _ _ _; first | refine v_seq ?_ | refine r_seq ?_ | refine v_block ?_ | refine v_skip ?_ | refine v_cond_t rfl tbL ?_) | (show SH _ _ _ _ _ (_ :: _) _ _ _; first | (show SH _ _ _ _ _ (⟨_, .move _, _, _, _, _⟩ :: _) _ _ _; refine mov evL ?_) | (show SH _ _ _ _ _ (⟨_, .binOp .lss _ _ _ _, _, _, _, _⟩ :: _) _ _ _; refine lssT rfl rfl omD ?_)) | refine s_nil ?_ | refine kh_normal ?_))
        refine idxA (i := 2) (cs := [.int .i64 l2, .int .i64 h2]) rfl rfl rfl (by decide) rfl rfl ?_
        (repeat' (first | (show VH _ _ _ _ _ _ _; first | refine v_seq ?_ | refine r_seq ?_ | refine r_quiet hmix (by kernel_rfl) ?_ | refine v_ret ?_ | refine v_cond_t rfl tbL ?_) | (show SH _ _ _ _ _ (_ :: _) _ _ _; first | (show SH _ _ _ _ _ (⟨_, _, _, _, _, some _⟩ :: _) _ _ _; (refine gif rfl rfl ?_; refine giFF tbL ?_)) | (show SH _ _ _ _ _ (⟨_, .move _, _, _, _, _⟩ :: _) _ _ _; refine mov evL ?_) | (show SH _ _ _ _ _ (⟨_, .assign _, _, _, _, _⟩ :: _) _ _ _; refine asg evL ?_) | (show SH _ _ _ _ _ (⟨_, .binOp .lss _ _ _ _, _, _, _, _⟩ :: _) _ _ _; refine lssF rfl rfl omD ?_) | (show SH _ _ _ _ _ (⟨_, .binOp .gtr _ _ _ _, _, _, _, _⟩ :: _) _ _ _; refine gtrT rfl rfl omD ?_) | (show SH _ _ _ _ _ (⟨_, .load _ _, _, _, _, _⟩ :: _) _ _ _; refine lbx rfl spL (by rfl) ?_) | (show SH _ _ _ _ _ (⟨_, .indexAddr _ _ _, _, _, _, _⟩ :: _) _ _ _; refine ixA _ rfl rfl rfl omL ?_) | (show SH _ _ _ _ _ (⟨_, .pick _ _ _, _, _, _, _⟩ :: _) _ _ _; refine pkf rfl tbL evL ?_) | refine fad rfl ?_ | refine ala rfl (fun b => ?_) | (show SH _ _ _ _ _ (⟨_, .store _ _ _, _, _, _, _⟩ :: _) _ _ _; refine sta rfl rfl rfl spL (by rfl) (by rfl) (by rfl) kpL ?_)) | refine s_nil ?_ | refine kh_normal ?_ | refine kh_ret ?_ | refine bh_ret ?_))
        exact rh1 rfl rfl ⟨rfl, rfl⟩ (ent_nil _)
    · rw [decide_eq_false (fun h => ha (r0 (hF.1 h).1).1)]
      clear hF hfits r0
      (repeat' (first | (show VH _ _ _ _ _ _ _; first | refine v_seq ?_ | refine r_seq ?_ | refine v_block ?_ | refine v_skip ?_ | refine v_cond_t rfl tbL ?_) | (show SH _ _ _ _ _ (_ :: _) _ _ _; first | (show SH _ _ _ _ _ (⟨_, .move _, _, _, _, _⟩ :: _) _ _ _; refine mov evL ?_) | (show SH _ _ _ _ _ (⟨_, .binOp .lss _ _ _ _, _, _, _, _⟩ :: _) _ _ _; refine lssT rfl rfl omD ?_)) | refine s_nil ?_ | refine kh_normal ?_))
      refine idxA (i := 2) (cs := [.int .i64 l2, .int .i64 h2]) rfl rfl rfl (by decide) rfl rfl ?_
      (repeat' (first | (show VH _ _ _ _ _ _ _; first | refine v_seq ?_ | refine r_seq ?_ | refine r_quiet hmix (by kernel_rfl) ?_ | refine v_ret ?_ | refine v_cond_t rfl tbL ?_) | (show SH _ _ _ _ _ (_ :: _) _ _ _; first | (show SH _ _ _ _ _ (⟨_, _, _, _, _, some _⟩ :: _) _ _ _; (refine gif rfl rfl ?_; refine giFT tbL ?_)) | (show SH _ _ _ _ _ (⟨_, .move _, _, _, _, _⟩ :: _) _ _ _; refine mov evL ?_) | (show SH _ _ _ _ _ (⟨_, .assign _, _, _, _, _⟩ :: _) _ _ _; refine asg evL ?_) | (show SH _ _ _ _ _ (⟨_, .binOp .lss _ _ _ _, _, _, _, _⟩ :: _) _ _ _; refine lssT rfl rfl omD ?_) | (show SH _ _ _ _ _ (⟨_, .load _ _, _, _, _, _⟩ :: _) _ _ _; refine lbx rfl spL (by rfl) ?_) | (show SH _ _ _ _ _ (⟨_, .indexAddr _ _ _, _, _, _, _⟩ :: _) _ _ _; refine ixA _ rfl rfl rfl omL ?_) | (show SH _ _ _ _ _ (⟨_, .pick _ _ _, _, _, _, _⟩ :: _) _ _ _; refine pkt rfl tbL evL ?_) | refine fad rfl ?_ | refine ala rfl (fun b => ?_) | (show SH _ _ _ _ _ (⟨_, .store _ _ _, _, _, _, _⟩ :: _) _ _ _; refine sta rfl rfl rfl spL (by rfl) (by rfl) (by rfl) kpL ?_)) | refine s_nil ?_ | refine kh_normal ?_ | refine kh_ret ?_ | refine bh_ret ?_))
      exact rh1 rfl rfl ⟨rfl, rfl⟩ (ent_nil _)
  · have r0 : InR ⟨l0, h0, l1, h1, l2, h2, l3, h3⟩ ⟨j, a, b1, c, d⟩ → l3 ≤ d ∧ d ≤ h3 := fun h => h.r3
    have hfits := hF
    by_cases ha : l3 ≤ d
    · by_cases hb : d ≤ h3
      · clear hF hfits r0
        (repeat' (first | (show VH _ _ _ _ _ _ _; first | refine v_seq ?_ | refine r_seq ?_ | refine v_block ?_ | refine v_skip ?_ | refine v_cond_t rfl tbL ?_) | (show SH _ _ _ _ _ (_ :: _) _ _ _; first | (show SH _ _ _ _ _ (⟨_, .move _, _, _, _, _⟩ :: _) _ _ _; refine mov evL ?_) | (show SH _ _ _ _ _ (⟨_, .binOp .lss _ _ _ _, _, _, _, _⟩ :: _) _ _ _; refine lssT rfl rfl omD ?_)) | refine s_nil ?_ | refine kh_normal ?_))
        refine idxA (i := 3) (cs := [.int .i64 l3, .int .i64 h3]) rfl rfl rfl (by decide) rfl rfl ?_
        (repeat' (first | (show VH _ _ _ _ _ _ _; first | refine v_seq ?_ | refine r_seq ?_ | refine r_quiet hmix (by kernel_rfl) ?_ | refine v_skip ?_ | refine v_cond_f rfl tbL ?_) | (show SH _ _ _ _ _ (_ :: _) _ _ _; first | (show SH _ _ _ _ _ (⟨_, _, _, _, _, some _⟩ :: _) _ _ _; (refine gif rfl rfl ?_; refine giFF tbL ?_)) | (show SH _ _ _ _ _ (⟨_, .move _, _, _, _, _⟩ :: _) _ _ _; refine mov evL ?_) | (show SH _ _ _ _ _ (⟨_, .assign _, _, _, _, _⟩ :: _) _ _ _; refine asg evL ?_) | (show SH _ _ _ _ _ (⟨_, .binOp .lss _ _ _ _, _, _, _, _⟩ :: _) _ _ _; refine lssF rfl rfl omD ?_) | (show SH _ _ _ _ _ (⟨_, .binOp .gtr _ _ _ _, _, _, _, _⟩ :: _) _ _ _; refine gtrF rfl rfl omD ?_) | (show SH _ _ _ _ _ (⟨_, .binOp .add _ _ _ _, _, _, _, _⟩ :: _) _ _ _; refine add rfl rfl inL ?_) | (show SH _ _ _ _ _ (⟨_, .load _ _, _, _, _, _⟩ :: _) _ _ _; refine lbx rfl spL (by rfl) ?_) | (show SH _ _ _ _ _ (⟨_, .indexAddr _ _ _, _, _, _, _⟩ :: _) _ _ _; refine ixA _ rfl rfl rfl omL ?_) | (show SH _ _ _ _ _ (⟨_, .pick _ _ _, _, _, _, _⟩ :: _) _ _ _; refine pkf rfl tbL evL ?_) | refine fad rfl ?_ | refine ala rfl (fun b => ?_) | (show SH _ _ _ _ _ (⟨_, .store _ _ _, _, _, _, _⟩ :: _) _ _ _; refine sta rfl rfl rfl spL (by rfl) (by rfl) (by rfl) kpL ?_)) | refine s_nil ?_ | refine kh_normal ?_ | refine bh_normal ?_))
        exact ⟨agL, 4, hsL, enL, ⟨by omega, fun _ => i0 (by omega), fun _ => i1 (by omega), fun _ => i2 (by omega), fun _ => ⟨ha, hb⟩⟩, by omega⟩
      · rw [decide_eq_false (fun h => hb (r0 (hF.1 h).1).2)]
        clear hF hfits r0
        (repeat' (first | (show VH _ _ _ _ _ _ _; first | refine v_seq ?_ | refine r_seq ?_ | refine v_block ?_ | refine v_skip ?_ | refine v_cond_t rfl tbL ?_) | (show SH _ _ _ _ _ (_ :: _) _ _ _; first | (show SH _ _ _ _ _ (⟨_, .move _, _, _, _, _⟩ :: _) _ _ _; refine mov evL ?_) | (show SH _ _ _ _ _ (⟨_, .binOp .lss _ _ _ _, _, _, _, _⟩ :: _) _ _ _; refine lssT rfl rfl omD ?_)) | refine s_nil ?_ | refine kh_normal ?_))
        refine idxA (i := 3) (cs := [.int .i64 l3, .int .i64 h3]) rfl rfl rfl (by decide) rfl rfl ?_
        (repeat' (first | (show VH _ _ _ _ _ _ _; first | refine v_seq ?_ | refine r_seq ?_ | refine r_quiet hmix (by kernel_rfl) ?_ | refine v_ret ?_ | refine v_cond_t rfl tbL ?_) | (show SH _ _ _ _ _ (_ :: _) _ _ _; first | (show SH _ _ _ _ _ (⟨_, _, _, _, _, some _⟩ :: _) _ _ _; (refine gif rfl rfl ?_; refine giFF tbL ?_)) | (show SH _ _ _ _ _ (⟨_, .move _, _, _, _, _⟩ :: _) _ _ _; refine mov evL ?_) | (show SH _ _ _ _ _ (⟨_, .assign _, _, _, _, _⟩ :: _) _ _ _; refine asg evL ?_) | (show SH _ _ _ _ _ (⟨_, .binOp .lss _ _ _ _, _, _, _, _⟩ :: _) _ _ _; refine lssF rfl rfl omD ?_) | (show SH _ _ _ _ _ (⟨_, .binOp .gtr _ _ _ _, _, _, _, _⟩ :: _) _ _ _; refine gtrT rfl rfl omD ?_) | (show SH _ _ _ _ _ (⟨_, .load _ _, _, _, _, _⟩ :: _) _ _ _; refine lbx rfl spL (by rfl) ?_) | (show SH _ _ _ _ _ (⟨_, .indexAddr _ _ _, _, _, _, _⟩ :: _) _ _ _; refine ixA _ rfl rfl rfl omL ?_) | (show SH _ _ _ _ _ (⟨_, .pick _ _ _, _, _, _, _⟩ :: _) _ _ _; refine pkf rfl tbL evL ?_) | refine fad rfl ?_ | refine ala rfl (fun b => ?_) | (show SH _ _ _ _ _ (⟨_, .store _ _ _, _, _, _, _⟩ :: _) _ _ _; refine sta rfl rfl rfl spL (by rfl) (by rfl) (by rfl) kpL ?_)) | refine s_nil ?_ | refine kh_normal ?_ | refine kh_ret ?_ | refine bh_ret ?_))
        exact rh1 rfl rfl ⟨rfl, rfl⟩ (ent_nil _)
    · rw [decide_eq_false (fun h => ha (r0 (hF.1 h).1).1)]
      clear hF hfits r0
      (repeat' (first | (show VH _ _ _ _ _ _ _; first | refine v_seq ?_ | refine r_seq ?_ | refine v_block ?_ | refine v_skip ?_ | refine v_cond_t rfl tbL ?_) | (show SH _ _ _ _ _ (_ :: _) _ _ _; first | (show SH _ _ _ _ _ (⟨_, .move _, _, _, _, _⟩ :: _) _ _ _; refine mov evL ?_) | (show SH _ _ _ _ _ (⟨_, .binOp .lss _ _ _ _, _, _, _, _⟩ :: _) _ _ _; refine lssT rfl rfl omD ?_)) | refine s_nil ?_ | refine kh_normal ?_))
      refine idxA (i := 3) (cs := [.int .i64 l3, .int .i64 h3]) rfl rfl rfl (by decide) rfl rfl ?_
      (repeat' (first | (show VH _ _ _ _ _ _ _; first | refine v_seq ?_ | refine r_seq ?_ | refine r_quiet hmix (by kernel_rfl) ?_ | refine v_ret ?_ | refine v_cond_t rfl tbL ?_) | (show SH _ _ _ _ _ (_ :: _) _ _ _; first | (show SH _ _ _ _ _ (⟨_, _, _, _, _, some _⟩ :: _) _ _ _; (refine gif rfl rfl ?_; refine giFT tbL ?_)) | (show SH _ _ _ _ _ (⟨_, .move _, _, _, _, _⟩ :: _) _ _ _; refine mov evL ?_) | (show SH _ _ _ _ _ (⟨_, .assign _, _, _, _, _⟩ :: _) _ _ _; refine asg evL ?_) | (show SH _ _ _ _ _ (⟨_, .binOp .lss _ _ _ _, _, _, _, _⟩ :: _) _ _ _; refine lssT rfl rfl omD ?_) | (show SH _ _ _ _ _ (⟨_, .load _ _, _, _, _, _⟩ :: _) _ _ _; refine lbx rfl spL (by rfl) ?_) | (show SH _ _ _ _ _ (⟨_, .indexAddr _ _ _, _, _, _, _⟩ :: _) _ _ _; refine ixA _ rfl rfl rfl omL ?_) | (show SH _ _ _ _ _ (⟨_, .pick _ _ _, _, _, _, _⟩ :: _) _ _ _; refine pkt rfl tbL evL ?_) | refine fad rfl ?_ | refine ala rfl (fun b => ?_) | (show SH _ _ _ _ _ (⟨_, .store _ _ _, _, _, _, _⟩ :: _) _ _ _; refine sta rfl rfl rfl spL (by rfl) (by rfl) (by rfl) kpL ?_)) | refine s_nil ?_ | refine kh_normal ?_ | refine kh_ret ?_ | refine bh_ret ?_))
      exact rh1 rfl rfl ⟨rfl, rfl⟩ (ent_nil _)
  · have hin : InR ⟨l0, h0, l1, h1, l2, h2, l3, h3⟩ ⟨j, a, b1, c, d⟩ := ⟨i0 (by omega), i1 (by omega), i2 (by omega), i3 (by omega)⟩
    clear i0 i1 i2 i3 hi
    by_cases j3 : j = 3
    · by_cases hc : c = 0
      · rw [decide_eq_true (hF.2 ⟨hin, fun _ => .inl hc, fun e => absurd e (by omega)⟩)]
        clear hF hin
        (repeat' (first | (show VH _ _ _ _ _ _ _; first | refine v_seq ?_ | refine r_seq ?_ | refine v_block ?_ | refine v_ret ?_ | refine v_exit ?_ | refine v_cond_t rfl tbL ?_ | refine v_cond_f rfl tbL ?_) | (show SH _ _ _ _ _ (_ :: _) _ _ _; first | (show SH _ _ _ _ _ (⟨_, _, _, _, _, some _⟩ :: _) _ _ _; (refine gif rfl rfl ?_; refine giFT tbL ?_)) | (show SH _ _ _ _ _ (⟨_, .move _, _, _, _, _⟩ :: _) _ _ _; refine mov evL ?_) | (show SH _ _ _ _ _ (⟨_, .assign _, _, _, _, _⟩ :: _) _ _ _; refine asg evL ?_) | (show SH _ _ _ _ _ (⟨_, .binOp .lss _ _ _ _, _, _, _, _⟩ :: _) _ _ _; refine lssF rfl rfl omD ?_) | (show SH _ _ _ _ _ (⟨_, .binOp .eql _ _ _ _, _, _, _, _⟩ :: _) _ _ _; refine eqlT rfl rfl omD ?_) | (show SH _ _ _ _ _ (⟨_, .load _ _, _, _, _, _⟩ :: _) _ _ _; refine lbx rfl spL (by rfl) ?_) | (show SH _ _ _ _ _ (⟨_, .indexAddr _ _ _, _, _, _, _⟩ :: _) _ _ _; refine ixA _ rfl rfl rfl omL ?_) | (show SH _ _ _ _ _ (⟨_, .pick _ _ _, _, _, _, _⟩ :: _) _ _ _; refine pkt rfl tbL evL ?_) | refine fad rfl ?_) | refine s_nil ?_ | refine kh_normal ?_ | refine kh_ret ?_ | refine kh_exit ?_ | refine bh_ret ?_ | refine bh_exit ?_))
        exact rh1 rfl rfl ⟨rfl, rfl⟩ (ent_nil _)
      · by_cases hab : a = b1
        · rw [decide_eq_true (hF.2 ⟨hin, fun _ => .inr hab, fun e => absurd e (by omega)⟩)]
          clear hF hin
          (repeat' (first | (show VH _ _ _ _ _ _ _; first | refine v_seq ?_ | refine r_seq ?_ | refine v_block ?_ | refine v_ret ?_ | refine v_exit ?_ | refine v_cond_t rfl tbL ?_ | refine v_cond_f rfl tbL ?_) | (show SH _ _ _ _ _ (_ :: _) _ _ _; first | (show SH _ _ _ _ _ (⟨_, _, _, _, _, some _⟩ :: _) _ _ _; (refine gif rfl rfl ?_; refine giFF tbL ?_)) | (show SH _ _ _ _ _ (⟨_, .move _, _, _, _, _⟩ :: _) _ _ _; refine mov evL ?_) | (show SH _ _ _ _ _ (⟨_, .assign _, _, _, _, _⟩ :: _) _ _ _; refine asg evL ?_) | (show SH _ _ _ _ _ (⟨_, .binOp .lss _ _ _ _, _, _, _, _⟩ :: _) _ _ _; refine lssF rfl rfl omD ?_) | (show SH _ _ _ _ _ (⟨_, .binOp .eql _ _ _ _, _, _, _, _⟩ :: _) _ _ _; first | refine eqlT rfl rfl omD ?_ | refine eqlF rfl rfl omD ?_) | (show SH _ _ _ _ _ (⟨_, .load _ _, _, _, _, _⟩ :: _) _ _ _; refine lbx rfl spL (by rfl) ?_) | (show SH _ _ _ _ _ (⟨_, .indexAddr _ _ _, _, _, _, _⟩ :: _) _ _ _; refine ixA _ rfl rfl rfl omL ?_) | (show SH _ _ _ _ _ (⟨_, .pick _ _ _, _, _, _, _⟩ :: _) _ _ _; refine pkf rfl tbL evL ?_) | refine fad rfl ?_) | refine s_nil ?_ | refine kh_normal ?_ | refine kh_ret ?_ | refine kh_exit ?_ | refine bh_ret ?_ | refine bh_exit ?_))
          exact rh1 rfl rfl ⟨rfl, rfl⟩ (ent_nil _)
        · rw [decide_eq_false (fun h => ((hF.1 h).2.1 j3).elim hc hab)]
          clear hF hin
          (repeat' (first | (show VH _ _ _ _ _ _ _; first | refine v_seq ?_ | refine r_seq ?_ | refine v_block ?_ | refine v_ret ?_ | refine v_exit ?_ | refine v_cond_t rfl tbL ?_ | refine v_cond_f rfl tbL ?_) | (show SH _ _ _ _ _ (_ :: _) _ _ _; first | (show SH _ _ _ _ _ (⟨_, _, _, _, _, some _⟩ :: _) _ _ _; (refine gif rfl rfl ?_; refine giFF tbL ?_)) | (show SH _ _ _ _ _ (⟨_, .move _, _, _, _, _⟩ :: _) _ _ _; refine mov evL ?_) | (show SH _ _ _ _ _ (⟨_, .assign _, _, _, _, _⟩ :: _) _ _ _; refine asg evL ?_) | (show SH _ _ _ _ _ (⟨_, .binOp .lss _ _ _ _, _, _, _, _⟩ :: _) _ _ _; refine lssF rfl rfl omD ?_) | (show SH _ _ _ _ _ (⟨_, .binOp .eql _ _ _ _, _, _, _, _⟩ :: _) _ _ _; first | refine eqlT rfl rfl omD ?_ | refine eqlF rfl rfl omD ?_) | (show SH _ _ _ _ _ (⟨_, .load _ _, _, _, _, _⟩ :: _) _ _ _; refine lbx rfl spL (by rfl) ?_) | (show SH _ _ _ _ _ (⟨_, .indexAddr _ _ _, _, _, _, _⟩ :: _) _ _ _; refine ixA _ rfl rfl rfl omL ?_) | (show SH _ _ _ _ _ (⟨_, .pick _ _ _, _, _, _, _⟩ :: _) _ _ _; refine pkf rfl tbL evL ?_) | refine fad rfl ?_) | refine s_nil ?_ | refine kh_normal ?_ | refine kh_ret ?_ | refine kh_exit ?_ | refine bh_ret ?_ | refine bh_exit ?_))
          exact rh1 rfl rfl ⟨rfl, rfl⟩ (ent_nil _)
    · by_cases j5 : j = 5
      · have hr5 : l0 = 0 := by
          have := congrArg Rng.l0 hr
          rw [← hR, j5] at this
          exact this.symm
        have ha0 : 0 ≤ a := by have := hin.r0.1; have : l0 ≤ a := this; omega
        by_cases h2 : a % 2 = 0
        · rw [decide_eq_true (hF.2 ⟨hin, fun e => absurd e j3, fun _ => h2⟩)]
          clear hF hin
          (repeat' (first | (show VH _ _ _ _ _ _ _; first | refine v_seq ?_ | refine r_seq ?_ | refine v_block ?_ | refine v_ret ?_ | refine v_exit ?_ | refine v_cond_t rfl tbL ?_ | refine v_cond_f rfl tbL ?_) | (show SH _ _ _ _ _ (_ :: _) _ _ _; first | (show SH _ _ _ _ _ (⟨_, .assign _, _, _, _, _⟩ :: _) _ _ _; refine asg evL ?_) | (show SH _ _ _ _ _ (⟨_, .binOp .lss _ _ _ _, _, _, _, _⟩ :: _) _ _ _; refine lssF rfl rfl omD ?_) | (show SH _ _ _ _ _ (⟨_, .binOp .eql _ _ _ _, _, _, _, _⟩ :: _) _ _ _; first | refine eqlT rfl rfl omD ?_ | refine eqlF rfl rfl omD ?_) | (show SH _ _ _ _ _ (⟨_, .binOp .rem _ _ _ _, _, _, _, _⟩ :: _) _ _ _; refine rem rfl rfl omL omL ?_) | (show SH _ _ _ _ _ (⟨_, .load _ _, _, _, _, _⟩ :: _) _ _ _; refine lbx rfl spL (by rfl) ?_) | (show SH _ _ _ _ _ (⟨_, .indexAddr _ _ _, _, _, _, _⟩ :: _) _ _ _; refine ixA _ rfl rfl rfl omL ?_) | refine fad rfl ?_) | refine s_nil ?_ | refine kh_normal ?_ | refine kh_ret ?_ | refine kh_exit ?_ | refine bh_ret ?_ | refine bh_exit ?_))
          exact rh1 rfl rfl ⟨rfl, rfl⟩ (ent_nil _)
        · rw [decide_eq_false (fun h => h2 ((hF.1 h).2.2 j5))]
          clear hF hin
          (repeat' (first | (show VH _ _ _ _ _ _ _; first | refine v_seq ?_ | refine r_seq ?_ | refine v_block ?_ | refine v_ret ?_ | refine v_exit ?_ | refine v_cond_t rfl tbL ?_ | refine v_cond_f rfl tbL ?_) | (show SH _ _ _ _ _ (_ :: _) _ _ _; first | (show SH _ _ _ _ _ (⟨_, .assign _, _, _, _, _⟩ :: _) _ _ _; refine asg evL ?_) | (show SH _ _ _ _ _ (⟨_, .binOp .lss _ _ _ _, _, _, _, _⟩ :: _) _ _ _; refine lssF rfl rfl omD ?_) | (show SH _ _ _ _ _ (⟨_, .binOp .eql _ _ _ _, _, _, _, _⟩ :: _) _ _ _; first | refine eqlT rfl rfl omD ?_ | refine eqlF rfl rfl omD ?_) | (show SH _ _ _ _ _ (⟨_, .binOp .rem _ _ _ _, _, _, _, _⟩ :: _) _ _ _; refine rem rfl rfl omL omL ?_) | (show SH _ _ _ _ _ (⟨_, .load _ _, _, _, _, _⟩ :: _) _ _ _; refine lbx rfl spL (by rfl) ?_) | (show SH _ _ _ _ _ (⟨_, .indexAddr _ _ _, _, _, _, _⟩ :: _) _ _ _; refine ixA _ rfl rfl rfl omL ?_) | refine fad rfl ?_) | refine s_nil ?_ | refine kh_normal ?_ | refine kh_ret ?_ | refine kh_exit ?_ | refine bh_ret ?_ | refine bh_exit ?_))
          exact rh1 rfl rfl ⟨rfl, rfl⟩ (ent_nil _)
      · rw [decide_eq_true (hF.2 ⟨hin, fun e => absurd e j3, fun e => absurd e j5⟩)]
        clear hF hin
        (repeat' (first | (show VH _ _ _ _ _ _ _; first | refine v_seq ?_ | refine r_seq ?_ | refine v_block ?_ | refine v_ret ?_ | refine v_skip ?_ | refine v_exit ?_ | refine v_cond_f rfl tbL ?_) | (show SH _ _ _ _ _ (_ :: _) _ _ _; first | (show SH _ _ _ _ _ (⟨_, .assign _, _, _, _, _⟩ :: _) _ _ _; refine asg evL ?_) | (show SH _ _ _ _ _ (⟨_, .binOp .lss _ _ _ _, _, _, _, _⟩ :: _) _ _ _; refine lssF rfl rfl omD ?_) | (show SH _ _ _ _ _ (⟨_, .binOp .eql _ _ _ _, _, _, _, _⟩ :: _) _ _ _; refine eqlF rfl rfl omD ?_) | (show SH _ _ _ _ _ (⟨_, .load _ _, _, _, _, _⟩ :: _) _ _ _; refine lbx rfl spL (by rfl) ?_) | refine fad rfl ?_) | refine s_nil ?_ | refine kh_normal ?_ | refine kh_exit ?_ | refine bh_normal ?_ | refine bh_exit ?_))
        exact rh1 rfl rfl ⟨rfl, rfl⟩ (ent_nil _)
end Go.Proofs.YtjefoecnciepmaaGreatDoor

/- Package store: entities and worlds that are valid (printed by gen_sv.py). -/
namespace Go.Proofs.YtjefoecnciepmaaGreatDoor
open Go.Fw Go.RowKit
/-- A function value that answers a key at the elements of a list. -/
abbrev KeyL {α : Type} [Flat α] (w : World) (fv : Value) (l : List α) (K : IntKind) (key : α → Int) : Prop := Fun1 Tryz.prog w fv (fun x : α => .agg (Flat.enc x).toArray) (fun x => .int K (key x)) (· ∈ l)
set_option maxHeartbeats 1000000 in
set_option maxRecDepth 100000 in
theorem risingE_spec (A : Option Addr) (l : List EntP) (cp : Nat) (fv : Value) (K : IntKind) (key : EntP → Int) (w : World) (hl : l.length ≤ 140737488355328) (hr : Rd w A l) (hp : KeyL w fv l K key) :
    Ret Tryz.prog 95 [.slice A l.length cp, fv].toArray w (Out w (.bool (decide (Rising key l)))) := by
  obtain ⟨g0, fst, cap, rfl, hp⟩ := hp
  refine enterH Tryz.func95 rfl rfl Tryz.ntmps95 rfl (Wd.refl _) ?_
  (repeat' (first | (show VH _ _ _ _ _ _ _; first | refine v_seq ?_ | refine r_seq ?_ | refine v_block ?_) | (show SH _ _ _ _ _ (_ :: _) _ _ _; (show SH _ _ _ _ _ (⟨_, .assign _, _, _, _, _⟩ :: _) _ _ _; refine asg evL ?_)) | refine s_nil ?_ | refine kh_normal ?_))
  refine v_loop0 [(4,25)] (fun i : Nat => [(5, .int .i64 i)]) (fun i => 1 ≤ i ∧ i ≤ max 1 l.length ∧ Rising key (l.take i)) (fun i => l.length - i) 1 hsL ⟨Nat.le_refl _, by omega, rising_one (by omega)⟩ ?_
  rintro i g ⟨hi1, hi2, hR⟩
  simp only [sets]
  by_cases hil : i < l.length
  · obtain ⟨m, rfl⟩ : ∃ m, i = m + 1 := ⟨i - 1, by omega⟩
    have hm : (((m + 1 : Nat) : Int) - 1).toNat = m := by omega
    have h1 := fun w he => hp w he (l.getD (((m + 1 : Nat) : Int) - 1).toNat Flat.dflt) (getD_mem (by omega))
    have h2 := fun w he => hp w he (l.getD (m + 1) Flat.dflt) (getD_mem (by omega))
    by_cases hlt : key (l.getD (((m + 1 : Nat) : Int) - 1).toNat Flat.dflt) < key (l.getD (m + 1) Flat.dflt)
    · have hR' : Rising key (l.take (m + 2)) := rising_take Flat.dflt hR hil (by rwa [hm] at hlt)
      clear hR hm
      (repeat' (first | (show VH _ _ _ _ _ _ _; first | refine v_seq ?_ | refine r_seq ?_ | refine r_quiet hmix (by kernel_rfl) ?_ | refine v_block ?_ | refine v_skip ?_ | refine v_cond_t rfl tbL ?_ | refine v_cond_f rfl tbL ?_) | (show SH _ _ _ _ _ (_ :: _) _ _ _; first | (show SH _ _ _ _ _ (⟨_, .move _, _, _, _, _⟩ :: _) _ _ _; refine mov evL ?_) | (show SH _ _ _ _ _ (⟨_, .assign _, _, _, _, _⟩ :: _) _ _ _; refine asg evL ?_) | (show SH _ _ _ _ _ (⟨_, .binOp .lss _ _ _ _, _, _, _, _⟩ :: _) _ _ _; refine lssT rfl rfl omD ?_) | (show SH _ _ _ _ _ (⟨_, .binOp .geq _ _ _ _, _, _, _, _⟩ :: _) _ _ _; refine geqF rfl rfl omD ?_) | (show SH _ _ _ _ _ (⟨_, .binOp .add _ _ _ _, _, _, _, _⟩ :: _) _ _ _; refine add rfl rfl inL ?_) | (show SH _ _ _ _ _ (⟨_, .binOp .sub _ _ _ _, _, _, _, _⟩ :: _) _ _ _; refine sub rfl rfl inL ?_) | (show SH _ _ _ _ _ (⟨_, .load _ _, _, _, _, _⟩ :: _) _ _ _; first | refine lra rfl (fun _ _ => rdX) (by rfl) omL ?_ | refine lra rfl (fun _ _ => rdX) (by rfl) (by simp only [List.length_cons, List.length_nil]; omega) ?_) | (show SH _ _ _ _ _ (⟨_, .indexAddr _ _ _, _, _, _, _⟩ :: _) _ _ _; first | refine ix rfl rfl (by with_reducible rfl) (fun _ _ => rdX) (by rfl) omL omL ?_ | refine ixi rfl rfl (fun _ _ => rdX) (by rfl) omL omL omL ?_ | refine ixi rfl rfl (fun _ _ => rdX) (by rfl) omL (by first | omega | (simp only [List.length_cons, List.length_nil]; omega)) (by simp only [List.length_cons, List.length_nil]; omega) ?_) | refine slen rfl ?_ | (show SH _ _ _ _ _ (⟨_, .call ⟨.value (.tmp _), _, _⟩, _, _, _, _⟩ :: _) _ _ _; refine cl (callee := .tmp _) rfl (fun w hw => h1 _ hw.ext) rfl rfl ?_) | (show SH _ _ _ _ _ (⟨_, .call ⟨.value (.tmp _), _, _⟩, _, _, _, _⟩ :: _) _ _ _; refine cl (callee := .tmp _) rfl (fun w hw => h2 _ hw.ext) rfl rfl ?_)) | refine s_nil ?_ | refine kh_normal ?_ | refine bh_normal ?_))
      exact ⟨agL, m + 2, hsL, enL, ⟨by omega, by omega, hR'⟩, by omega⟩
    · have hn : ¬ Rising key l := fun h => hlt (by rw [hm]; exact rising_at Flat.dflt h (by omega) hil)
      rw [decide_eq_false hn]
      clear hR hm hn
      (repeat' (first | (show VH _ _ _ _ _ _ _; first | refine v_seq ?_ | refine r_seq ?_ | refine r_quiet hmix (by kernel_rfl) ?_ | refine v_block ?_ | refine v_ret ?_ | refine v_skip ?_ | refine v_cond_t rfl tbL ?_) | (show SH _ _ _ _ _ (_ :: _) _ _ _; first | (show SH _ _ _ _ _ (⟨_, .move _, _, _, _, _⟩ :: _) _ _ _; refine mov evL ?_) | (show SH _ _ _ _ _ (⟨_, .assign _, _, _, _, _⟩ :: _) _ _ _; refine asg evL ?_) | (show SH _ _ _ _ _ (⟨_, .binOp .lss _ _ _ _, _, _, _, _⟩ :: _) _ _ _; refine lssT rfl rfl omD ?_) | (show SH _ _ _ _ _ (⟨_, .binOp .geq _ _ _ _, _, _, _, _⟩ :: _) _ _ _; refine geqT rfl rfl omD ?_) | (show SH _ _ _ _ _ (⟨_, .binOp .sub _ _ _ _, _, _, _, _⟩ :: _) _ _ _; refine sub rfl rfl inL ?_) | (show SH _ _ _ _ _ (⟨_, .load _ _, _, _, _, _⟩ :: _) _ _ _; first | refine lra rfl (fun _ _ => rdX) (by rfl) omL ?_ | refine lra rfl (fun _ _ => rdX) (by rfl) (by simp only [List.length_cons, List.length_nil]; omega) ?_) | (show SH _ _ _ _ _ (⟨_, .indexAddr _ _ _, _, _, _, _⟩ :: _) _ _ _; first | refine ix rfl rfl (by with_reducible rfl) (fun _ _ => rdX) (by rfl) omL omL ?_ | refine ixi rfl rfl (fun _ _ => rdX) (by rfl) omL omL omL ?_ | refine ixi rfl rfl (fun _ _ => rdX) (by rfl) omL (by first | omega | (simp only [List.length_cons, List.length_nil]; omega)) (by simp only [List.length_cons, List.length_nil]; omega) ?_) | refine slen rfl ?_ | (show SH _ _ _ _ _ (⟨_, .call ⟨.value (.tmp _), _, _⟩, _, _, _, _⟩ :: _) _ _ _; refine cl (callee := .tmp _) rfl (fun w hw => h1 _ hw.ext) rfl rfl ?_) | (show SH _ _ _ _ _ (⟨_, .call ⟨.value (.tmp _), _, _⟩, _, _, _, _⟩ :: _) _ _ _; refine cl (callee := .tmp _) rfl (fun w hw => h2 _ hw.ext) rfl rfl ?_)) | refine s_nil ?_ | refine kh_normal ?_ | refine kh_ret ?_ | refine bh_ret ?_))
      exact rh1 rfl rfl ⟨rfl, rfl⟩ (ent_nil _)
  · rw [List.take_of_length_le (by omega)] at hR
    rw [decide_eq_true hR]
    clear hR
    (repeat' (first | (show VH _ _ _ _ _ _ _; first | refine v_seq ?_ | refine r_seq ?_ | refine v_ret ?_ | refine v_exit ?_ | refine v_cond_f rfl tbL ?_) | (show SH _ _ _ _ _ (_ :: _) _ _ _; first | (show SH _ _ _ _ _ (⟨_, .move _, _, _, _, _⟩ :: _) _ _ _; refine mov evL ?_) | (show SH _ _ _ _ _ (⟨_, .assign _, _, _, _, _⟩ :: _) _ _ _; refine asg evL ?_) | (show SH _ _ _ _ _ (⟨_, .binOp .lss _ _ _ _, _, _, _, _⟩ :: _) _ _ _; refine lssF rfl rfl omD ?_) | refine slen rfl ?_) | refine s_nil ?_ | refine kh_normal ?_ | refine kh_exit ?_ | refine bh_exit ?_))
    exact rh1 rfl rfl ⟨rfl, rfl⟩ (ent_nil _)
set_option maxHeartbeats 1000000 in
set_option maxRecDepth 100000 in
theorem risingC_spec (A : Option Addr) (l : List Comp) (cp : Nat) (fv : Value) (K : IntKind) (key : Comp → Int) (w : World) (hl : l.length ≤ 140737488355328) (hr : Rd w A l) (hp : KeyL w fv l K key) :
    Ret Tryz.prog 134 [.slice A l.length cp, fv].toArray w (Out w (.bool (decide (Rising key l)))) := by
  obtain ⟨g0, fst, cap, rfl, hp⟩ := hp
  refine enterH Tryz.func134 rfl rfl Tryz.ntmps134 rfl (Wd.refl _) ?_
  (repeat' (first | (show VH _ _ _ _ _ _ _; first | refine v_seq ?_ | refine r_seq ?_ | refine v_block ?_) | (show SH _ _ _ _ _ (_ :: _) _ _ _; (show SH _ _ _ _ _ (⟨_, .assign _, _, _, _, _⟩ :: _) _ _ _; refine asg evL ?_)) | refine s_nil ?_ | refine kh_normal ?_))
  refine v_loop0 [(4,25)] (fun i : Nat => [(5, .int .i64 i)]) (fun i => 1 ≤ i ∧ i ≤ max 1 l.length ∧ Rising key (l.take i)) (fun i => l.length - i) 1 hsL ⟨Nat.le_refl _, by omega, rising_one (by omega)⟩ ?_
  rintro i g ⟨hi1, hi2, hR⟩
  simp only [sets]
  by_cases hil : i < l.length
  · obtain ⟨m, rfl⟩ : ∃ m, i = m + 1 := ⟨i - 1, by omega⟩
    have hm : (((m + 1 : Nat) : Int) - 1).toNat = m := by omega
    have h1 := fun w he => hp w he (l.getD (((m + 1 : Nat) : Int) - 1).toNat Flat.dflt) (getD_mem (by omega))
    have h2 := fun w he => hp w he (l.getD (m + 1) Flat.dflt) (getD_mem (by omega))
    by_cases hlt : key (l.getD (((m + 1 : Nat) : Int) - 1).toNat Flat.dflt) < key (l.getD (m + 1) Flat.dflt)
    · have hR' : Rising key (l.take (m + 2)) := rising_take Flat.dflt hR hil (by rwa [hm] at hlt)
      clear hR hm
      (repeat' (first | (show VH _ _ _ _ _ _ _; first | refine v_seq ?_ | refine r_seq ?_ | refine r_quiet hmix (by kernel_rfl) ?_ | refine v_block ?_ | refine v_skip ?_ | refine v_cond_t rfl tbL ?_ | refine v_cond_f rfl tbL ?_) | (show SH _ _ _ _ _ (_ :: _) _ _ _; first | (show SH _ _ _ _ _ (⟨_, .move _, _, _, _, _⟩ :: _) _ _ _; refine mov evL ?_) | (show SH _ _ _ _ _ (⟨_, .assign _, _, _, _, _⟩ :: _) _ _ _; refine asg evL ?_) | (show SH _ _ _ _ _ (⟨_, .binOp .lss _ _ _ _, _, _, _, _⟩ :: _) _ _ _; refine lssT rfl rfl omD ?_) | (show SH _ _ _ _ _ (⟨_, .binOp .geq _ _ _ _, _, _, _, _⟩ :: _) _ _ _; refine geqF rfl rfl omD ?_) | (show SH _ _ _ _ _ (⟨_, .binOp .add _ _ _ _, _, _, _, _⟩ :: _) _ _ _; refine add rfl rfl inL ?_) | (show SH _ _ _ _ _ (⟨_, .binOp .sub _ _ _ _, _, _, _, _⟩ :: _) _ _ _; refine sub rfl rfl inL ?_) | (show SH _ _ _ _ _ (⟨_, .load _ _, _, _, _, _⟩ :: _) _ _ _; first | refine lra rfl (fun _ _ => rdX) (by rfl) omL ?_ | refine lra rfl (fun _ _ => rdX) (by rfl) (by simp only [List.length_cons, List.length_nil]; omega) ?_) | (show SH _ _ _ _ _ (⟨_, .indexAddr _ _ _, _, _, _, _⟩ :: _) _ _ _; first | refine ix rfl rfl (by with_reducible rfl) (fun _ _ => rdX) (by rfl) omL omL ?_ | refine ixi rfl rfl (fun _ _ => rdX) (by rfl) omL omL omL ?_ | refine ixi rfl rfl (fun _ _ => rdX) (by rfl) omL (by first | omega | (simp only [List.length_cons, List.length_nil]; omega)) (by simp only [List.length_cons, List.length_nil]; omega) ?_) | refine slen rfl ?_ | (show SH _ _ _ _ _ (⟨_, .call ⟨.value (.tmp _), _, _⟩, _, _, _, _⟩ :: _) _ _ _; refine cl (callee := .tmp _) rfl (fun w hw => h1 _ hw.ext) rfl rfl ?_) | (show SH _ _ _ _ _ (⟨_, .call ⟨.value (.tmp _), _, _⟩, _, _, _, _⟩ :: _) _ _ _; refine cl (callee := .tmp _) rfl (fun w hw => h2 _ hw.ext) rfl rfl ?_)) | refine s_nil ?_ | refine kh_normal ?_ | refine bh_normal ?_))
      exact ⟨agL, m + 2, hsL, enL, ⟨by omega, by omega, hR'⟩, by omega⟩
    · have hn : ¬ Rising key l := fun h => hlt (by rw [hm]; exact rising_at Flat.dflt h (by omega) hil)
      rw [decide_eq_false hn]
      clear hR hm hn
      (repeat' (first | (show VH _ _ _ _ _ _ _; first | refine v_seq ?_ | refine r_seq ?_ | refine r_quiet hmix (by kernel_rfl) ?_ | refine v_block ?_ | refine v_ret ?_ | refine v_skip ?_ | refine v_cond_t rfl tbL ?_) | (show SH _ _ _ _ _ (_ :: _) _ _ _; first | (show SH _ _ _ _ _ (⟨_, .move _, _, _, _, _⟩ :: _) _ _ _; refine mov evL ?_) | (show SH _ _ _ _ _ (⟨_, .assign _, _, _, _, _⟩ :: _) _ _ _; refine asg evL ?_) | (show SH _ _ _ _ _ (⟨_, .binOp .lss _ _ _ _, _, _, _, _⟩ :: _) _ _ _; refine lssT rfl rfl omD ?_) | (show SH _ _ _ _ _ (⟨_, .binOp .geq _ _ _ _, _, _, _, _⟩ :: _) _ _ _; refine geqT rfl rfl omD ?_) | (show SH _ _ _ _ _ (⟨_, .binOp .sub _ _ _ _, _, _, _, _⟩ :: _) _ _ _; refine sub rfl rfl inL ?_) | (show SH _ _ _ _ _ (⟨_, .load _ _, _, _, _, _⟩ :: _) _ _ _; first | refine lra rfl (fun _ _ => rdX) (by rfl) omL ?_ | refine lra rfl (fun _ _ => rdX) (by rfl) (by simp only [List.length_cons, List.length_nil]; omega) ?_) | (show SH _ _ _ _ _ (⟨_, .indexAddr _ _ _, _, _, _, _⟩ :: _) _ _ _; first | refine ix rfl rfl (by with_reducible rfl) (fun _ _ => rdX) (by rfl) omL omL ?_ | refine ixi rfl rfl (fun _ _ => rdX) (by rfl) omL omL omL ?_ | refine ixi rfl rfl (fun _ _ => rdX) (by rfl) omL (by first | omega | (simp only [List.length_cons, List.length_nil]; omega)) (by simp only [List.length_cons, List.length_nil]; omega) ?_) | refine slen rfl ?_ | (show SH _ _ _ _ _ (⟨_, .call ⟨.value (.tmp _), _, _⟩, _, _, _, _⟩ :: _) _ _ _; refine cl (callee := .tmp _) rfl (fun w hw => h1 _ hw.ext) rfl rfl ?_) | (show SH _ _ _ _ _ (⟨_, .call ⟨.value (.tmp _), _, _⟩, _, _, _, _⟩ :: _) _ _ _; refine cl (callee := .tmp _) rfl (fun w hw => h2 _ hw.ext) rfl rfl ?_)) | refine s_nil ?_ | refine kh_normal ?_ | refine kh_ret ?_ | refine bh_ret ?_))
      exact rh1 rfl rfl ⟨rfl, rfl⟩ (ent_nil _)
  · rw [List.take_of_length_le (by omega)] at hR
    rw [decide_eq_true hR]
    clear hR
    (repeat' (first | (show VH _ _ _ _ _ _ _; first | refine v_seq ?_ | refine r_seq ?_ | refine v_ret ?_ | refine v_exit ?_ | refine v_cond_f rfl tbL ?_) | (show SH _ _ _ _ _ (_ :: _) _ _ _; first | (show SH _ _ _ _ _ (⟨_, .move _, _, _, _, _⟩ :: _) _ _ _; refine mov evL ?_) | (show SH _ _ _ _ _ (⟨_, .assign _, _, _, _, _⟩ :: _) _ _ _; refine asg evL ?_) | (show SH _ _ _ _ _ (⟨_, .binOp .lss _ _ _ _, _, _, _, _⟩ :: _) _ _ _; refine lssF rfl rfl omD ?_) | refine slen rfl ?_) | refine s_nil ?_ | refine kh_normal ?_ | refine kh_exit ?_ | refine bh_exit ?_))
    exact rh1 rfl rfl ⟨rfl, rfl⟩ (ent_nil _)
set_option maxHeartbeats 1000000 in
set_option maxRecDepth 100000 in
theorem kindOf_key (w : World) (l : List Comp) : KeyL w (.func (.func 135) #[] #[]) l .u8 Comp.kind := fun1_of fun w' _ x _ => by
  refine enterH Tryz.func135 rfl rfl Tryz.ntmps135 rfl (Wd.refl _) ?_
  (repeat' (first | (show VH _ _ _ _ _ _ _; first | refine v_seq ?_ | refine r_seq ?_ | refine v_ret ?_) | (show SH _ _ _ _ _ (_ :: _) _ _ _; first | (show SH _ _ _ _ _ (⟨_, .assign _, _, _, _, _⟩ :: _) _ _ _; refine asg evL ?_) | (show SH _ _ _ _ _ (⟨_, .load _ _, _, _, _, _⟩ :: _) _ _ _; refine lbx rfl spL (by rfl) ?_) | refine fad rfl ?_ | (show SH _ _ _ _ _ (⟨_, .box _ _, _, _, _, _⟩ :: _) _ _ _; refine bxx rfl evL rfl (fun b => ?_))) | refine s_nil ?_ | refine kh_normal ?_))
  exact rh1 rfl rfl ⟨rfl, rfl⟩ (ent_nil _)
set_option maxHeartbeats 1000000 in
set_option maxRecDepth 100000 in
theorem idOf_key (w : World) (l : List EntP) : KeyL w (.func (.func 96) #[] #[]) l .i64 (fun x => x.e.id) := fun1_of fun w' _ x _ => by
  refine enterH Tryz.func96 rfl rfl Tryz.ntmps96 rfl (Wd.refl _) ?_
  (repeat' (first | (show VH _ _ _ _ _ _ _; first | refine v_seq ?_ | refine r_seq ?_ | refine v_ret ?_) | (show SH _ _ _ _ _ (_ :: _) _ _ _; first | (show SH _ _ _ _ _ (⟨_, .assign _, _, _, _, _⟩ :: _) _ _ _; refine asg evL ?_) | (show SH _ _ _ _ _ (⟨_, .load _ _, _, _, _, _⟩ :: _) _ _ _; refine lbx rfl spL (by rfl) ?_) | refine fad rfl ?_ | (show SH _ _ _ _ _ (⟨_, .box _ _, _, _, _, _⟩ :: _) _ _ _; refine bxx rfl evL rfl (fun b => ?_))) | refine s_nil ?_ | refine kh_normal ?_))
  exact rh1 rfl rfl ⟨rfl, rfl⟩ (ent_nil _)
set_option maxHeartbeats 1000000 in
set_option maxRecDepth 100000 in
theorem notFits (w : World) (hG : Glob w) (l : List Comp) : AsksL w (.func (.func 137) #[] #[]) l (fun c => !decide (Fits c)) := fun1_of fun w' he x _ => by
  have hG' := hG.ext he
  refine enterH Tryz.func137 rfl rfl Tryz.ntmps137 rfl (Wd.refl _) ?_
  (repeat' (first | (show VH _ _ _ _ _ _ _; first | refine v_seq ?_ | refine r_seq ?_ | refine v_ret ?_) | (show SH _ _ _ _ _ (_ :: _) _ _ _; first | (show SH _ _ _ _ _ (⟨_, .assign _, _, _, _, _⟩ :: _) _ _ _; refine asg evL ?_) | (show SH _ _ _ _ _ (⟨_, .load _ _, _, _, _, _⟩ :: _) _ _ _; refine lba rfl spL (by rfl) ?_) | (show SH _ _ _ _ _ (⟨_, .call ⟨.value (.func 138), _, _⟩, _, _, _, _⟩ :: _) _ _ _; refine cl (callee := .func 138) rfl (fun w hw => fits_spec x w (hG'.ext hw.ext)) rfl rfl ?_) | refine bnot rfl ?_ | (show SH _ _ _ _ _ (⟨_, .box _ _, _, _, _, _⟩ :: _) _ _ _; refine bxx rfl evL rfl (fun b => ?_))) | refine s_nil ?_ | refine kh_normal ?_))
  exact rh1 rfl rfl ⟨rfl, rfl⟩ (ent_nil _)
theorem any_not {α : Type} (P : α → Prop) [DecidablePred P] (l : List α) : (!(l.any fun x => !decide (P x))) = decide (∀ x ∈ l, P x) := by
  rw [Bool.eq_iff_iff]
  simp
set_option maxHeartbeats 1000000 in
set_option maxRecDepth 100000 in
theorem right_spec (x : EntP) (w : World) (hG : Glob w) (hl : x.e.comps.length ≤ 140737488355328) (hr : Rd w x.A x.e.comps) : Ret Tryz.prog 99 [.agg (Flat.enc x).toArray].toArray w (Out w (.bool (decide (RightE x.e)))) := by
  have h1 := fun w' (he : Ext w w') => risingC_spec x.A x.e.comps x.cp _ .u8 Comp.kind w' hl (hr.ext he) (kindOf_key w' _)
  have h2 := fun w' (he : Ext w w') => containsFuncC_spec x.A x.e.comps x.cp _ _ w' hl (hr.ext he) (notFits w' (hG.ext he) _)
  obtain ⟨⟨id, cs⟩, A, cp⟩ := x
  rw [show Flat.enc (⟨⟨id, cs⟩, A, cp⟩ : EntP) = [.int .i64 id, .slice A cs.length cp] from rfl]
  simp only at h1 h2 hr hl ⊢
  have hE : RightE ⟨id, cs⟩ ↔ (1 ≤ id ∧ id ≤ 65536) ∧ Rising Comp.kind cs ∧ ∀ c ∈ cs, Fits c := ⟨fun ⟨a, b, c⟩ => ⟨a, b, c⟩, fun ⟨a, b, c⟩ => ⟨a, b, c⟩⟩
  have h3 := any_not Fits cs
  by_cases hid : 1 ≤ id ∧ id ≤ 65536
  case neg =>
    rw [decide_eq_false (fun h => hid (hE.1 h).1)]
    clear hE h3
    refine enterH Tryz.func99 rfl rfl Tryz.ntmps99 rfl (Wd.refl _) ?_
    by_cases hid1 : 1 ≤ id
    · (repeat' (first | (show VH _ _ _ _ _ _ _; first | refine v_seq ?_ | refine r_seq ?_ | refine v_ret ?_) | (show SH _ _ _ _ _ (_ :: _) _ _ _; first | (show SH _ _ _ _ _ (⟨_, _, _, _, _, some _⟩ :: _) _ _ _; (refine gif rfl rfl ?_; first | refine giTT tbL ?_ | refine giTF tbL ?_)) | (show SH _ _ _ _ _ (⟨_, .move _, _, _, _, _⟩ :: _) _ _ _; refine mov evL ?_) | (show SH _ _ _ _ _ (⟨_, .assign _, _, _, _, _⟩ :: _) _ _ _; refine asg evL ?_) | (show SH _ _ _ _ _ (⟨_, .binOp .leq _ _ _ _, _, _, _, _⟩ :: _) _ _ _; refine leqF rfl rfl omD ?_) | (show SH _ _ _ _ _ (⟨_, .binOp .geq _ _ _ _, _, _, _, _⟩ :: _) _ _ _; refine geqT rfl rfl omD ?_) | (show SH _ _ _ _ _ (⟨_, .load _ _, _, _, _, _⟩ :: _) _ _ _; refine lbx rfl spL (by rfl) ?_) | (show SH _ _ _ _ _ (⟨_, .pick _ _ _, _, _, _, _⟩ :: _) _ _ _; first | refine pkt rfl tbL evL ?_ | refine pkf rfl tbL evL ?_) | refine fad rfl ?_ | (show SH _ _ _ _ _ (⟨_, .box _ _, _, _, _, _⟩ :: _) _ _ _; refine bxx rfl evL rfl (fun b => ?_))) | refine s_nil ?_ | refine kh_normal ?_))
      exact rh1 rfl rfl ⟨rfl, rfl⟩ (ent_nil _)
    · (repeat' (first | (show VH _ _ _ _ _ _ _; first | refine v_seq ?_ | refine r_seq ?_ | refine v_ret ?_) | (show SH _ _ _ _ _ (_ :: _) _ _ _; first | (show SH _ _ _ _ _ (⟨_, _, _, _, _, some _⟩ :: _) _ _ _; (refine gif rfl rfl ?_; refine giTF tbL ?_)) | (show SH _ _ _ _ _ (⟨_, .move _, _, _, _, _⟩ :: _) _ _ _; refine mov evL ?_) | (show SH _ _ _ _ _ (⟨_, .assign _, _, _, _, _⟩ :: _) _ _ _; refine asg evL ?_) | (show SH _ _ _ _ _ (⟨_, .binOp .geq _ _ _ _, _, _, _, _⟩ :: _) _ _ _; refine geqF rfl rfl omD ?_) | (show SH _ _ _ _ _ (⟨_, .load _ _, _, _, _, _⟩ :: _) _ _ _; refine lbx rfl spL (by rfl) ?_) | (show SH _ _ _ _ _ (⟨_, .pick _ _ _, _, _, _, _⟩ :: _) _ _ _; refine pkf rfl tbL evL ?_) | refine fad rfl ?_ | (show SH _ _ _ _ _ (⟨_, .box _ _, _, _, _, _⟩ :: _) _ _ _; refine bxx rfl evL rfl (fun b => ?_))) | refine s_nil ?_ | refine kh_normal ?_))
      exact rh1 rfl rfl ⟨rfl, rfl⟩ (ent_nil _)
  by_cases hR : Rising Comp.kind cs
  case neg =>
    rw [decide_eq_false (fun h => hR (hE.1 h).2.1)]
    rw [decide_eq_false hR] at h1
    clear hE h3
    refine enterH Tryz.func99 rfl rfl Tryz.ntmps99 rfl (Wd.refl _) ?_
    (repeat' (first | (show VH _ _ _ _ _ _ _; first | refine v_seq ?_ | refine r_seq ?_ | refine v_ret ?_) | (show SH _ _ _ _ _ (_ :: _) _ _ _; first | (show SH _ _ _ _ _ (⟨_, _, _, _, _, some _⟩ :: _) _ _ _; (refine gif rfl rfl ?_; first | refine giTT tbL ?_ | refine giTF tbL ?_)) | (show SH _ _ _ _ _ (⟨_, .move _, _, _, _, _⟩ :: _) _ _ _; refine mov evL ?_) | (show SH _ _ _ _ _ (⟨_, .assign _, _, _, _, _⟩ :: _) _ _ _; refine asg evL ?_) | (show SH _ _ _ _ _ (⟨_, .binOp .leq _ _ _ _, _, _, _, _⟩ :: _) _ _ _; refine leqT rfl rfl omD ?_) | (show SH _ _ _ _ _ (⟨_, .binOp .geq _ _ _ _, _, _, _, _⟩ :: _) _ _ _; refine geqT rfl rfl omD ?_) | (show SH _ _ _ _ _ (⟨_, .load _ _, _, _, _, _⟩ :: _) _ _ _; refine lbx rfl spL (by rfl) ?_) | (show SH _ _ _ _ _ (⟨_, .call ⟨.value (.func 134), _, _⟩, _, _, _, _⟩ :: _) _ _ _; refine cl (callee := .func 134) rfl (fun w hw => h1 _ hw.ext) rfl rfl ?_) | (show SH _ _ _ _ _ (⟨_, .pick _ _ _, _, _, _, _⟩ :: _) _ _ _; first | refine pkt rfl tbL evL ?_ | refine pkf rfl tbL evL ?_) | refine fad rfl ?_ | (show SH _ _ _ _ _ (⟨_, .box _ _, _, _, _, _⟩ :: _) _ _ _; refine bxx rfl evL rfl (fun b => ?_))) | refine s_nil ?_ | refine kh_normal ?_))
    exact rh1 rfl rfl ⟨rfl, rfl⟩ (ent_nil _)
  rw [decide_eq_true hR] at h1
  generalize (cs.any fun c => !decide (Fits c)) = q at h2 h3
  have hres : decide (RightE ⟨id, cs⟩) = !q := by rw [h3]; exact decide_eq_decide.2 ⟨fun h => (hE.1 h).2.2, fun h => hE.2 ⟨hid, hR, h⟩⟩
  rw [hres]
  clear hE h3 hres hR
  refine enterH Tryz.func99 rfl rfl Tryz.ntmps99 rfl (Wd.refl _) ?_
  (repeat' (first | (show VH _ _ _ _ _ _ _; first | refine v_seq ?_ | refine r_seq ?_ | refine v_ret ?_) | (show SH _ _ _ _ _ (_ :: _) _ _ _; first | (show SH _ _ _ _ _ (⟨_, _, _, _, _, some _⟩ :: _) _ _ _; (refine gif rfl rfl ?_; refine giTT tbL ?_)) | (show SH _ _ _ _ _ (⟨_, .move _, _, _, _, _⟩ :: _) _ _ _; refine mov evL ?_) | (show SH _ _ _ _ _ (⟨_, .assign _, _, _, _, _⟩ :: _) _ _ _; refine asg evL ?_) | (show SH _ _ _ _ _ (⟨_, .binOp .leq _ _ _ _, _, _, _, _⟩ :: _) _ _ _; refine leqT rfl rfl omD ?_) | (show SH _ _ _ _ _ (⟨_, .binOp .geq _ _ _ _, _, _, _, _⟩ :: _) _ _ _; refine geqT rfl rfl omD ?_) | (show SH _ _ _ _ _ (⟨_, .load _ _, _, _, _, _⟩ :: _) _ _ _; refine lbx rfl spL (by rfl) ?_) | (show SH _ _ _ _ _ (⟨_, .call ⟨.value (.func 134), _, _⟩, _, _, _, _⟩ :: _) _ _ _; refine cl (callee := .func 134) rfl (fun w hw => h1 _ hw.ext) rfl rfl ?_) | (show SH _ _ _ _ _ (⟨_, .call ⟨.value (.func 136), _, _⟩, _, _, _, _⟩ :: _) _ _ _; refine cl (callee := .func 136) rfl (fun w hw => h2 _ hw.ext) rfl rfl ?_) | refine bnot rfl ?_ | (show SH _ _ _ _ _ (⟨_, .pick _ _ _, _, _, _, _⟩ :: _) _ _ _; refine pkt rfl tbL evL ?_) | refine fad rfl ?_ | (show SH _ _ _ _ _ (⟨_, .box _ _, _, _, _, _⟩ :: _) _ _ _; refine bxx rfl evL rfl (fun b => ?_))) | refine s_nil ?_ | refine kh_normal ?_))
  exact rh1 rfl rfl ⟨rfl, rfl⟩ (ent_nil _)
/-- Sizes that fit into memory. -/
structure Sz (l : List EntP) : Prop where
  len : l.length ≤ 140737488355328
  el : ∀ x ∈ l, x.e.comps.length ≤ 140737488355328
set_option maxHeartbeats 1000000 in
set_option maxRecDepth 100000 in
theorem notRight (w : World) (hG : Glob w) (A : Option Addr) (l : List EntP) (hs : Sz l) (hr : RdW w A l) : AsksL w (.func (.func 98) #[] #[]) l (fun x => !decide (RightE x.e)) := fun1_of fun w' he x hx => by
  have hG' := hG.ext he
  have hr' := (hr.2 x hx).ext he
  have hs' := hs.el x hx
  refine enterH Tryz.func98 rfl rfl Tryz.ntmps98 rfl (Wd.refl _) ?_
  (repeat' (first | (show VH _ _ _ _ _ _ _; first | refine v_seq ?_ | refine r_seq ?_ | refine v_ret ?_) | (show SH _ _ _ _ _ (_ :: _) _ _ _; first | (show SH _ _ _ _ _ (⟨_, .assign _, _, _, _, _⟩ :: _) _ _ _; refine asg evL ?_) | (show SH _ _ _ _ _ (⟨_, .load _ _, _, _, _, _⟩ :: _) _ _ _; refine lba rfl spL (by rfl) ?_) | (show SH _ _ _ _ _ (⟨_, .call ⟨.value (.func 99), _, _⟩, _, _, _, _⟩ :: _) _ _ _; refine cl (callee := .func 99) rfl (fun w hw => right_spec x w (hG'.ext hw.ext) hs' (hr'.ext hw.ext)) rfl rfl ?_) | refine bnot rfl ?_ | (show SH _ _ _ _ _ (⟨_, .box _ _, _, _, _, _⟩ :: _) _ _ _; refine bxx rfl evL rfl (fun b => ?_))) | refine s_nil ?_ | refine kh_normal ?_))
  exact rh1 rfl rfl ⟨rfl, rfl⟩ (ent_nil _)
/-- A world as a value. -/
def wv (t : Int) (A : Option Addr) (l : List EntP) (cp : Nat) : Value := .agg #[.int .i64 t, .slice A l.length cp]
def ents (l : List EntP) : List Ent1 := l.map EntP.e
theorem rising_ents (l : List EntP) : Rising Ent1.id (ents l) ↔ Rising (fun x : EntP => x.e.id) l := by unfold Rising ents; rw [List.pairwise_map]
set_option maxHeartbeats 1000000 in
set_option maxRecDepth 100000 in
theorem valid_spec (t : Int) (A : Option Addr) (l : List EntP) (cp : Nat) (w : World) (hG : Glob w) (hs : Sz l) (hr : RdW w A l) : Ret Tryz.prog 51 [wv t A l cp].toArray w (Out w (.bool (decide (ValidW t (ents l))))) := by
  have h1 := fun w' (he : Ext w w') => risingE_spec A l cp _ .i64 (fun x : EntP => x.e.id) w' hs.len (hr.1.ext he) (idOf_key w' _)
  have h2 := fun w' (he : Ext w w') => containsFuncE_spec A l cp _ _ w' hs.len (hr.1.ext he) (notRight w' (hG.ext he) A l hs (hr.ext he))
  unfold wv
  have hE : ValidW t (ents l) ↔ (0 ≤ t ∧ t ≤ 1073741824) ∧ l.length ≤ 64 ∧ Rising (fun x : EntP => x.e.id) l ∧ ∀ x ∈ l, RightE x.e := by
    constructor
    · rintro ⟨a, b, c, d⟩
      exact ⟨a, by simpa [ents] using b, (rising_ents l).1 c, fun x hx => d _ (List.mem_map_of_mem hx)⟩
    · rintro ⟨a, b, c, d⟩
      refine ⟨a, by simpa [ents] using b, (rising_ents l).2 c, fun e he => ?_⟩
      obtain ⟨x, hx, rfl⟩ := List.mem_map.1 he
      exact d x hx
  have h3 := any_not (fun x : EntP => RightE x.e) l
  have hlen := hs.len
  by_cases hid : 0 ≤ t ∧ t ≤ 1073741824
  case neg =>
    rw [decide_eq_false (fun h => hid (hE.1 h).1)]
    clear hE h3
    refine enterH Tryz.func51 rfl rfl Tryz.ntmps51 rfl (Wd.refl _) ?_
    by_cases hid1 : 0 ≤ t
    · (repeat' (first | (show VH _ _ _ _ _ _ _; first | refine v_seq ?_ | refine r_seq ?_ | refine v_ret ?_) | (show SH _ _ _ _ _ (_ :: _) _ _ _; first | (show SH _ _ _ _ _ (⟨_, _, _, _, _, some _⟩ :: _) _ _ _; (refine gif rfl rfl ?_; first | refine giTT tbL ?_ | refine giTF tbL ?_)) | (show SH _ _ _ _ _ (⟨_, .move _, _, _, _, _⟩ :: _) _ _ _; refine mov evL ?_) | (show SH _ _ _ _ _ (⟨_, .assign _, _, _, _, _⟩ :: _) _ _ _; refine asg evL ?_) | (show SH _ _ _ _ _ (⟨_, .binOp .leq _ _ _ _, _, _, _, _⟩ :: _) _ _ _; refine leqF rfl rfl omD ?_) | (show SH _ _ _ _ _ (⟨_, .binOp .geq _ _ _ _, _, _, _, _⟩ :: _) _ _ _; refine geqT rfl rfl omD ?_) | (show SH _ _ _ _ _ (⟨_, .load _ _, _, _, _, _⟩ :: _) _ _ _; refine lbx rfl spL (by rfl) ?_) | (show SH _ _ _ _ _ (⟨_, .pick _ _ _, _, _, _, _⟩ :: _) _ _ _; first | refine pkt rfl tbL evL ?_ | refine pkf rfl tbL evL ?_) | refine fad rfl ?_ | (show SH _ _ _ _ _ (⟨_, .box _ _, _, _, _, _⟩ :: _) _ _ _; refine bxx rfl evL rfl (fun b => ?_))) | refine s_nil ?_ | refine kh_normal ?_))
      exact rh1 rfl rfl ⟨rfl, rfl⟩ (ent_nil _)
    · (repeat' (first | (show VH _ _ _ _ _ _ _; first | refine v_seq ?_ | refine r_seq ?_ | refine v_ret ?_) | (show SH _ _ _ _ _ (_ :: _) _ _ _; first | (show SH _ _ _ _ _ (⟨_, _, _, _, _, some _⟩ :: _) _ _ _; (refine gif rfl rfl ?_; refine giTF tbL ?_)) | (show SH _ _ _ _ _ (⟨_, .move _, _, _, _, _⟩ :: _) _ _ _; refine mov evL ?_) | (show SH _ _ _ _ _ (⟨_, .assign _, _, _, _, _⟩ :: _) _ _ _; refine asg evL ?_) | (show SH _ _ _ _ _ (⟨_, .binOp .geq _ _ _ _, _, _, _, _⟩ :: _) _ _ _; refine geqF rfl rfl omD ?_) | (show SH _ _ _ _ _ (⟨_, .load _ _, _, _, _, _⟩ :: _) _ _ _; refine lbx rfl spL (by rfl) ?_) | (show SH _ _ _ _ _ (⟨_, .pick _ _ _, _, _, _, _⟩ :: _) _ _ _; refine pkf rfl tbL evL ?_) | refine fad rfl ?_ | (show SH _ _ _ _ _ (⟨_, .box _ _, _, _, _, _⟩ :: _) _ _ _; refine bxx rfl evL rfl (fun b => ?_))) | refine s_nil ?_ | refine kh_normal ?_))
      exact rh1 rfl rfl ⟨rfl, rfl⟩ (ent_nil _)
  by_cases h64 : l.length ≤ 64
  case neg =>
    rw [decide_eq_false (fun h => h64 (hE.1 h).2.1)]
    clear hE h3
    refine enterH Tryz.func51 rfl rfl Tryz.ntmps51 rfl (Wd.refl _) ?_
    (repeat' (first | (show VH _ _ _ _ _ _ _; first | refine v_seq ?_ | refine r_seq ?_ | refine v_ret ?_) | (show SH _ _ _ _ _ (_ :: _) _ _ _; first | (show SH _ _ _ _ _ (⟨_, _, _, _, _, some _⟩ :: _) _ _ _; (refine gif rfl rfl ?_; first | refine giTT tbL ?_ | refine giTF tbL ?_)) | (show SH _ _ _ _ _ (⟨_, .move _, _, _, _, _⟩ :: _) _ _ _; refine mov evL ?_) | (show SH _ _ _ _ _ (⟨_, .assign _, _, _, _, _⟩ :: _) _ _ _; refine asg evL ?_) | (show SH _ _ _ _ _ (⟨_, .binOp .leq _ _ _ _, _, _, _, _⟩ :: _) _ _ _; first | refine leqT rfl rfl omD ?_ | refine leqF rfl rfl omD ?_) | (show SH _ _ _ _ _ (⟨_, .binOp .geq _ _ _ _, _, _, _, _⟩ :: _) _ _ _; refine geqT rfl rfl omD ?_) | (show SH _ _ _ _ _ (⟨_, .load _ _, _, _, _, _⟩ :: _) _ _ _; refine lbx rfl spL (by rfl) ?_) | refine slen rfl ?_ | (show SH _ _ _ _ _ (⟨_, .pick _ _ _, _, _, _, _⟩ :: _) _ _ _; first | refine pkt rfl tbL evL ?_ | refine pkf rfl tbL evL ?_) | refine fad rfl ?_ | (show SH _ _ _ _ _ (⟨_, .box _ _, _, _, _, _⟩ :: _) _ _ _; refine bxx rfl evL rfl (fun b => ?_))) | refine s_nil ?_ | refine kh_normal ?_))
    exact rh1 rfl rfl ⟨rfl, rfl⟩ (ent_nil _)
  by_cases hR : Rising (fun x : EntP => x.e.id) l
  case neg =>
    rw [decide_eq_false (fun h => hR (hE.1 h).2.2.1)]
    rw [decide_eq_false hR] at h1
    clear hE h3
    refine enterH Tryz.func51 rfl rfl Tryz.ntmps51 rfl (Wd.refl _) ?_
    (repeat' (first | (show VH _ _ _ _ _ _ _; first | refine v_seq ?_ | refine r_seq ?_ | refine v_ret ?_) | (show SH _ _ _ _ _ (_ :: _) _ _ _; first | (show SH _ _ _ _ _ (⟨_, _, _, _, _, some _⟩ :: _) _ _ _; (refine gif rfl rfl ?_; first | refine giTT tbL ?_ | refine giTF tbL ?_)) | (show SH _ _ _ _ _ (⟨_, .move _, _, _, _, _⟩ :: _) _ _ _; refine mov evL ?_) | (show SH _ _ _ _ _ (⟨_, .assign _, _, _, _, _⟩ :: _) _ _ _; refine asg evL ?_) | (show SH _ _ _ _ _ (⟨_, .binOp .leq _ _ _ _, _, _, _, _⟩ :: _) _ _ _; refine leqT rfl rfl omD ?_) | (show SH _ _ _ _ _ (⟨_, .binOp .geq _ _ _ _, _, _, _, _⟩ :: _) _ _ _; refine geqT rfl rfl omD ?_) | (show SH _ _ _ _ _ (⟨_, .load _ _, _, _, _, _⟩ :: _) _ _ _; refine lbx rfl spL (by rfl) ?_) | refine slen rfl ?_ | (show SH _ _ _ _ _ (⟨_, .call ⟨.value (.func 95), _, _⟩, _, _, _, _⟩ :: _) _ _ _; refine cl (callee := .func 95) rfl (fun w hw => h1 _ hw.ext) rfl rfl ?_) | (show SH _ _ _ _ _ (⟨_, .pick _ _ _, _, _, _, _⟩ :: _) _ _ _; first | refine pkt rfl tbL evL ?_ | refine pkf rfl tbL evL ?_) | refine fad rfl ?_ | (show SH _ _ _ _ _ (⟨_, .box _ _, _, _, _, _⟩ :: _) _ _ _; refine bxx rfl evL rfl (fun b => ?_))) | refine s_nil ?_ | refine kh_normal ?_))
    exact rh1 rfl rfl ⟨rfl, rfl⟩ (ent_nil _)
  rw [decide_eq_true hR] at h1
  generalize (l.any fun x => !decide (RightE x.e)) = q at h2 h3
  have hres : decide (ValidW t (ents l)) = !q := by rw [h3]; exact decide_eq_decide.2 ⟨fun h => (hE.1 h).2.2.2, fun h => hE.2 ⟨hid, h64, hR, h⟩⟩
  rw [hres]
  clear hE h3 hres hR
  refine enterH Tryz.func51 rfl rfl Tryz.ntmps51 rfl (Wd.refl _) ?_
  (repeat' (first | (show VH _ _ _ _ _ _ _; first | refine v_seq ?_ | refine r_seq ?_ | refine v_ret ?_) | (show SH _ _ _ _ _ (_ :: _) _ _ _; first | (show SH _ _ _ _ _ (⟨_, _, _, _, _, some _⟩ :: _) _ _ _; (refine gif rfl rfl ?_; refine giTT tbL ?_)) | (show SH _ _ _ _ _ (⟨_, .move _, _, _, _, _⟩ :: _) _ _ _; refine mov evL ?_) | (show SH _ _ _ _ _ (⟨_, .assign _, _, _, _, _⟩ :: _) _ _ _; refine asg evL ?_) | (show SH _ _ _ _ _ (⟨_, .binOp .leq _ _ _ _, _, _, _, _⟩ :: _) _ _ _; refine leqT rfl rfl omD ?_) | (show SH _ _ _ _ _ (⟨_, .binOp .geq _ _ _ _, _, _, _, _⟩ :: _) _ _ _; refine geqT rfl rfl omD ?_) | (show SH _ _ _ _ _ (⟨_, .load _ _, _, _, _, _⟩ :: _) _ _ _; refine lbx rfl spL (by rfl) ?_) | refine slen rfl ?_ | (show SH _ _ _ _ _ (⟨_, .call ⟨.value (.func 95), _, _⟩, _, _, _, _⟩ :: _) _ _ _; refine cl (callee := .func 95) rfl (fun w hw => h1 _ hw.ext) rfl rfl ?_) | (show SH _ _ _ _ _ (⟨_, .call ⟨.value (.func 97), _, _⟩, _, _, _, _⟩ :: _) _ _ _; refine cl (callee := .func 97) rfl (fun w hw => h2 _ hw.ext) rfl rfl ?_) | refine bnot rfl ?_ | (show SH _ _ _ _ _ (⟨_, .pick _ _ _, _, _, _, _⟩ :: _) _ _ _; refine pkt rfl tbL evL ?_) | refine fad rfl ?_ | (show SH _ _ _ _ _ (⟨_, .box _ _, _, _, _, _⟩ :: _) _ _ _; refine bxx rfl evL rfl (fun b => ?_))) | refine s_nil ?_ | refine kh_normal ?_))
  exact rh1 rfl rfl ⟨rfl, rfl⟩ (ent_nil _)
end Go.Proofs.YtjefoecnciepmaaGreatDoor

/- Package vec: the distance of two points. -/
namespace Go.Proofs.YtjefoecnciepmaaGreatDoor
open Go.Fw Go.RowKit
theorem wrapU_sub {a b : Int} (h0 : 0 ≤ b - a) (h1 : b - a < 18446744073709551616) : IntKind.u64.wrap (IntKind.u64.wrap b - IntKind.u64.wrap a) = b - a := by
  simp only [IntKind.wrap, IntKind.bits, IntKind.signed, Bool.false_and]
  simp only [Bool.false_eq_true, if_false, Int.sub_emod_emod, Int.emod_sub_emod]
  exact Int.emod_eq_of_lt h0 (by simpa using h1)
/-- A size of 128 bits; a number of 128 bits and a sign. -/
structure SzU where
  hi : Int
  lo : Int
  deriving DecidableEq
instance : Flat SzU := ⟨2, fun p => [.int .u64 p.hi, .int .u64 p.lo], ⟨0, 0⟩, fun _ => rfl, fun x v hv => by simp at hv; rcases hv with rfl | rfl <;> rfl, by omega⟩
instance : TCmp Tryz.prog 147 SzU := ⟨by kernel_rfl, fun x y w => by
  rw [show (10000 : Nat) = 9999 + 1 from rfl, run_equalIn_agg w 9999 _ _ _ (by kernel_rfl) (by kernel_rfl)]
  have ha : ∀ w, (isAgg 145).run Tryz.prog w = .ok false w := fun w => by kernel_rfl
  simp only [Program.fieldsOf, Tryz.underlying147, Op.eqFields, part, ha, Sem.run_bind, Result.andThen_ok]
  obtain ⟨a0, a1⟩ := x
  obtain ⟨b0, b1⟩ := y
  by_cases h0 : a0 = b0
  case neg => simp [Flat.enc, ha, run_equalIn_int w 9998 _ .u64 .u64 _ _ Tryz.underlying145, h0]
  by_cases h1 : a1 = b1
  case neg => simp [Flat.enc, ha, run_equalIn_int w 9998 _ .u64 .u64 _ _ Tryz.underlying145, h1]
  simp [Flat.enc, ha, run_equalIn_int w 9998 _ .u64 .u64 _ _ Tryz.underlying145, h0, h1]⟩
section
variable {md : Md} {n : Nat} {Q : HQ} {f : Fr} {w0 : World} {H R : List HP} {ops : Array Oper} {rest : List Oper} {d : Nat} {ty : TypeId} {pos : String} {aft : Array Edge} {x y : Operand}
theorem bldI {a b : Int} {s : Bool} (h0 : ev n f x = .agg #[.int .u64 a, .int .u64 b]) (h1 : ev n f y = .bool s) (k : SH (nx md) Tryz.prog n ops Q rest (upd f d (.agg [.int .u64 a, .int .u64 b, .bool s].toArray)) w0 H) :
    SH md Tryz.prog n ops Q (⟨some d, .build 149 #[(0, x), (1, y)], ty, pos, aft, none⟩ :: rest) f w0 H :=
  bldN (parts := [(0, x), (1, y)]) (cs := [.int .u64 a, .int .u64 b, .bool s]) (by simp [Instr.fill, h0, h1, Value.cells]) k
theorem bldI1 {a b : Int} (h0 : ev n f x = .agg #[.int .u64 a, .int .u64 b]) (k : SH (nx md) Tryz.prog n ops Q rest (upd f d (.agg [.int .u64 a, .int .u64 b, .bool false].toArray)) w0 H) :
    SH md Tryz.prog n ops Q (⟨some d, .build 149 #[(0, x)], ty, pos, aft, none⟩ :: rest) f w0 H :=
  bldN (parts := [(0, x)]) (cs := [.int .u64 a, .int .u64 b, .bool false]) (by simp [Instr.fill, h0, Value.cells]) k
end
set_option maxHeartbeats 1000000 in
set_option maxRecDepth 100000 in
theorem made_spec (lo : Int) (s : Bool) (w : World) : Ret Tryz.prog 151 [.agg #[.int .u64 0, .int .u64 lo], .bool s].toArray w (Out w (.agg #[.int .u64 0, .int .u64 lo, .bool (s && decide (lo ≠ 0))])) := by
  refine enterH Tryz.func151 rfl rfl Tryz.ntmps151 rfl (Wd.refl _) ?_
  (repeat' (first | (show VH _ _ _ _ _ _ _; first | refine v_seq ?_ | refine r_seq ?_) | (show SH _ _ _ _ _ (_ :: _) _ _ _; first | refine ala rfl (fun b => ?_) | (show SH _ _ _ _ _ (⟨_, .box _ _, _, _, _, _⟩ :: _) _ _ _; refine bxx rfl evL rfl (fun b => ?_))) | refine s_nil ?_ | refine kh_normal ?_))
  rename_i b2
  refine r_heldT [bx b2 147 _] (tr [(0, true), (1, false), (2, false), (3, true), (4, false), (5, false), (6, false), (7, false), (8, false)] .nil) hmix (by kernel_rfl) enL ?_
  cases s with
  | false =>
    (repeat' ((show SH _ _ _ _ _ (_ :: _) _ _ _; first | (show SH _ _ _ _ _ (⟨_, _, _, _, _, some _⟩ :: _) _ _ _; (refine gif rfl rfl ?_; refine giTF tbL ?_)) | (show SH _ _ _ _ _ (⟨_, .move _, _, _, _, _⟩ :: _) _ _ _; refine mov evL ?_) | (show SH _ _ _ _ _ (⟨_, .load _ _, _, _, _, _⟩ :: _) _ _ _; refine lba rfl spL (by rfl) ?_) | (show SH _ _ _ _ _ (⟨_, .pick _ _ _, _, _, _, _⟩ :: _) _ _ _; refine pkf rfl tbL evL ?_))))
    refine bldI rfl rfl ?_
    (repeat' (first | refine v_ret ?_ | (show SH _ _ _ _ _ (_ :: _) _ _ _; (show SH _ _ _ _ _ (⟨_, .store _ _ _, _, _, _, _⟩ :: _) _ _ _; refine sta rfl rfl rfl spL (by rfl) (by rfl) (by rfl) kpL ?_)) | refine s_nil ?_ | refine kh_normal ?_))
    exact rhC rfl rfl rfl (fun w hw => loadVar_bx hw spL (by rfl)) ⟨rfl, rfl⟩ (ent_nil _)
  | true =>
    (repeat' ((show SH _ _ _ _ _ (_ :: _) _ _ _; first | (show SH _ _ _ _ _ (⟨_, _, _, _, _, some _⟩ :: _) _ _ _; (refine gif rfl rfl ?_; refine giTT tbL ?_)) | (show SH _ _ _ _ _ (⟨_, .move _, _, _, _, _⟩ :: _) _ _ _; refine mov evL ?_) | (show SH _ _ _ _ _ (⟨_, .load _ _, _, _, _, _⟩ :: _) _ _ _; refine lba rfl spL (by rfl) ?_) | refine bld rfl rfl ?_)))
    refine nea (⟨0, lo⟩ : SzU) ⟨0, 0⟩ rfl rfl ?_
    (repeat' ((show SH _ _ _ _ _ (_ :: _) _ _ _; (show SH _ _ _ _ _ (⟨_, .pick _ _ _, _, _, _, _⟩ :: _) _ _ _; refine pkt rfl tbL evL ?_))))
    refine bldI rfl rfl ?_
    (repeat' (first | refine v_ret ?_ | (show SH _ _ _ _ _ (_ :: _) _ _ _; (show SH _ _ _ _ _ (⟨_, .store _ _ _, _, _, _, _⟩ :: _) _ _ _; refine sta rfl rfl rfl spL (by rfl) (by rfl) (by rfl) kpL ?_)) | refine s_nil ?_ | refine kh_normal ?_))
    exact rhC rfl rfl rfl (fun w hw => loadVar_bx hw spL (by rfl)) ⟨by simp, rfl⟩ (ent_nil _)
set_option maxHeartbeats 1000000 in
set_option maxRecDepth 100000 in
theorem diff_spec (a b : Int) (w : World) (h : a - b < 9223372036854775808 ∧ b - a < 9223372036854775808) : Ret Tryz.prog 140 [.int .i64 a, .int .i64 b].toArray w (Out w (.agg #[.int .u64 0, .int .u64 (max (a - b) (b - a)), .bool (decide (a < b))])) := by
  refine enterH Tryz.func140 rfl rfl Tryz.ntmps140 rfl (Wd.refl _) ?_
  by_cases hab : a < b
  · have e1 := wrapU_sub (a := a) (b := b) (by omega) (by omega)
    have e2 : (true && decide (b - a ≠ 0)) = true := by simp; omega
    have hm := fun w => made_spec (b - a) true w
    rw [e2] at hm
    rw [decide_eq_true hab, show max (a - b) (b - a) = b - a by omega]
    clear e2
    (repeat' (first | (show VH _ _ _ _ _ _ _; first | refine v_seq ?_ | refine r_seq ?_ | refine v_cond_t rfl tbL ?_) | (show SH _ _ _ _ _ (_ :: _) _ _ _; first | (show SH _ _ _ _ _ (⟨_, .move _, _, _, _, _⟩ :: _) _ _ _; refine mov evL ?_) | (show SH _ _ _ _ _ (⟨_, .binOp .lss _ _ _ _, _, _, _, _⟩ :: _) _ _ _; refine lssT rfl rfl omD ?_) | refine cnv rfl ?_ | refine ala rfl (fun b => ?_)) | refine s_nil ?_ | refine kh_normal ?_))
    refine subw rfl rfl _ e1 ?_
    (repeat' (first | refine v_ret ?_ | (show SH _ _ _ _ _ (_ :: _) _ _ _; first | (show SH _ _ _ _ _ (⟨_, .call ⟨.value (.func 151), _, _⟩, _, _, _, _⟩ :: _) _ _ _; refine cl (callee := .func 151) rfl (fun w hw => hm w) rfl rfl ?_) | refine bld rfl rfl ?_ | (show SH _ _ _ _ _ (⟨_, .store _ _ _, _, _, _, _⟩ :: _) _ _ _; refine sta rfl rfl rfl spL (by rfl) (by rfl) (by rfl) kpL ?_)) | refine s_nil ?_ | refine kh_normal ?_ | refine kh_ret ?_))
    exact rhC rfl rfl rfl (fun w hw => loadVar_bx hw spL (by rfl)) ⟨rfl, rfl⟩ (ent_nil _)
  · have e1 := wrapU_sub (a := b) (b := a) (by omega) (by omega)
    have hm := fun w => made_spec (a - b) false w
    rw [Bool.false_and] at hm
    rw [decide_eq_false hab, show max (a - b) (b - a) = a - b by omega]
    (repeat' (first | (show VH _ _ _ _ _ _ _; first | refine v_seq ?_ | refine r_seq ?_ | refine v_skip ?_ | refine v_cond_f rfl tbL ?_) | (show SH _ _ _ _ _ (_ :: _) _ _ _; first | (show SH _ _ _ _ _ (⟨_, .move _, _, _, _, _⟩ :: _) _ _ _; refine mov evL ?_) | (show SH _ _ _ _ _ (⟨_, .binOp .lss _ _ _ _, _, _, _, _⟩ :: _) _ _ _; refine lssF rfl rfl omD ?_) | refine cnv rfl ?_ | refine ala rfl (fun b => ?_)) | refine s_nil ?_ | refine kh_normal ?_))
    refine subw rfl rfl _ e1 ?_
    (repeat' (first | refine v_ret ?_ | (show SH _ _ _ _ _ (_ :: _) _ _ _; first | (show SH _ _ _ _ _ (⟨_, .call ⟨.value (.func 151), _, _⟩, _, _, _, _⟩ :: _) _ _ _; refine cl (callee := .func 151) rfl (fun w hw => hm w) rfl rfl ?_) | refine bld rfl rfl ?_ | (show SH _ _ _ _ _ (⟨_, .store _ _ _, _, _, _, _⟩ :: _) _ _ _; refine sta rfl rfl rfl spL (by rfl) (by rfl) (by rfl) kpL ?_)) | refine s_nil ?_ | refine kh_normal ?_))
    exact rhC rfl rfl rfl (fun w hw => loadVar_bx hw spL (by rfl)) ⟨rfl, rfl⟩ (ent_nil _)
set_option maxHeartbeats 1000000 in
set_option maxRecDepth 100000 in
theorem less_spec (a b : Int) (w : World) : Ret Tryz.prog 141 [.agg #[.int .u64 0, .int .u64 a], .agg #[.int .u64 0, .int .u64 b]].toArray w (Out w (.bool (decide (a < b)))) := by
  refine enterH Tryz.func141 rfl rfl Tryz.ntmps141 rfl (Wd.refl _) ?_
  (repeat' (first | (show VH _ _ _ _ _ _ _; first | refine v_seq ?_ | refine r_seq ?_ | refine v_ret ?_) | (show SH _ _ _ _ _ (_ :: _) _ _ _; first | (show SH _ _ _ _ _ (⟨_, _, _, _, _, some _⟩ :: _) _ _ _; (refine gif rfl rfl ?_; first | refine giTT tbL ?_ | refine giFF tbL ?_)) | (show SH _ _ _ _ _ (⟨_, .move _, _, _, _, _⟩ :: _) _ _ _; refine mov evL ?_) | (show SH _ _ _ _ _ (⟨_, .assign _, _, _, _, _⟩ :: _) _ _ _; refine asg evL ?_) | (show SH _ _ _ _ _ (⟨_, .binOp .lss _ _ _ _, _, _, _, _⟩ :: _) _ _ _; first | refine lssF rfl rfl omD ?_ | refine lss rfl rfl ?_) | (show SH _ _ _ _ _ (⟨_, .binOp .eql _ _ _ _, _, _, _, _⟩ :: _) _ _ _; refine eqlT rfl rfl omD ?_) | (show SH _ _ _ _ _ (⟨_, .load _ _, _, _, _, _⟩ :: _) _ _ _; refine lbx rfl spL (by rfl) ?_) | (show SH _ _ _ _ _ (⟨_, .pick _ _ _, _, _, _, _⟩ :: _) _ _ _; first | refine pkt rfl tbL evL ?_ | refine pkf rfl tbL evL ?_) | refine fad rfl ?_ | (show SH _ _ _ _ _ (⟨_, .box _ _, _, _, _, _⟩ :: _) _ _ _; refine bxx rfl evL rfl (fun b => ?_))) | refine s_nil ?_ | refine kh_normal ?_))
  exact rh1 rfl rfl ⟨rfl, rfl⟩ (ent_nil _)
set_option maxHeartbeats 1000000 in
set_option maxRecDepth 100000 in
theorem sat_spec (a : Int) (w : World) (h : 0 ≤ a ∧ a < 9223372036854775808) : Ret Tryz.prog 105 [.agg #[.int .u64 0, .int .u64 a, .bool false]].toArray w (Out w (.int .i64 a)) := by
  refine enterH Tryz.func105 rfl rfl Tryz.ntmps105 rfl (Wd.refl _) ?_
  (repeat' (first | (show VH _ _ _ _ _ _ _; first | refine v_seq ?_ | refine r_seq ?_ | refine v_block ?_ | refine v_ret ?_ | refine v_skip ?_ | refine v_cond_f rfl tbL ?_) | (show SH _ _ _ _ _ (_ :: _) _ _ _; first | (show SH _ _ _ _ _ (⟨_, _, _, _, _, some _⟩ :: _) _ _ _; first | (refine gif rfl rfl ?_; first | refine giTF tbL ?_ | refine giFF tbL ?_) | refine gu rfl rfl ?_) | (show SH _ _ _ _ _ (⟨_, .move _, _, _, _, _⟩ :: _) _ _ _; refine mov evL ?_) | (show SH _ _ _ _ _ (⟨_, .assign _, _, _, _, _⟩ :: _) _ _ _; refine asg evL ?_) | (show SH _ _ _ _ _ (⟨_, .binOp .gtr _ _ _ _, _, _, _, _⟩ :: _) _ _ _; refine gtrF rfl rfl omD ?_) | (show SH _ _ _ _ _ (⟨_, .binOp .geq _ _ _ _, _, _, _, _⟩ :: _) _ _ _; refine geqF rfl rfl omD ?_) | (show SH _ _ _ _ _ (⟨_, .load _ _, _, _, _, _⟩ :: _) _ _ _; refine lbx rfl spL (by rfl) ?_) | (show SH _ _ _ _ _ (⟨_, .pick _ _ _, _, _, _, _⟩ :: _) _ _ _; refine pkf rfl tbL evL ?_) | refine fad rfl ?_ | (show SH _ _ _ _ _ (⟨_, .convert _ _ _, _, _, _, _⟩ :: _) _ _ _; refine c64 rfl inL ?_) | (show SH _ _ _ _ _ (⟨_, .box _ _, _, _, _, _⟩ :: _) _ _ _; refine bxx rfl evL rfl (fun b => ?_))) | refine s_nil ?_ | refine kh_normal ?_ | refine bh_normal ?_))
  exact rh1 rfl rfl ⟨rfl, rfl⟩ (ent_nil _)
def gapP (p q : Pt) : Int := max (max (q.x - p.x) (p.x - q.x)) (max (q.y - p.y) (p.y - q.y))
def InC (p : Pt) : Prop := (-1048576 ≤ p.x ∧ p.x ≤ 1048576) ∧ (-1048576 ≤ p.y ∧ p.y ≤ 1048576)
set_option maxHeartbeats 1000000 in
set_option maxRecDepth 100000 in
theorem way_spec (p q : Pt) (w : World) (hp : InC p) (hq : InC q) : Ret Tryz.prog 104 [.agg (Flat.enc p).toArray, .agg (Flat.enc q).toArray].toArray w
    (RP w fun v H' => (∃ x1 x2 y1 y2, v = .tuple #[.agg #[.int .u64 0, .int .u64 x1, .bool x2], .agg #[.int .u64 0, .int .u64 y1, .bool y2], .agg #[.int .u64 0, .int .u64 (gapP p q), .bool false]]) ∧ H' = []) := by
  obtain ⟨px, py⟩ := p
  obtain ⟨qx, qy⟩ := q
  unfold InC gapP at *
  simp only at hp hq ⊢
  have hx := fun w => diff_spec qx px w (by omega)
  have hy := fun w => diff_spec qy py w (by omega)
  have hl := fun w => less_spec (max (qx - px) (px - qx)) (max (qy - py) (py - qy)) w
  generalize max (qx - px) (px - qx) = X at hx hl ⊢
  generalize max (qy - py) (py - qy) = Y at hy hl ⊢
  generalize decide (qx < px) = sx at hx
  generalize decide (qy < py) = sy at hy
  refine enterH Tryz.func104 rfl rfl Tryz.ntmps104 rfl (Wd.refl _) ?_
  (repeat' (first | (show VH _ _ _ _ _ _ _; first | refine v_seq ?_ | refine r_seq ?_) | (show SH _ _ _ _ _ (_ :: _) _ _ _; first | refine ala rfl (fun b => ?_) | (show SH _ _ _ _ _ (⟨_, .box _ _, _, _, _, _⟩ :: _) _ _ _; refine bxx rfl evL rfl (fun b => ?_))) | refine s_nil ?_ | refine kh_normal ?_))
  rename_i b2 b3 b4 b5
  revert b
  intro b6
  refine r_heldT [bx b3 101 [.int .i64 qx, .int .i64 qy], bx b2 101 [.int .i64 px, .int .i64 py]] (tr [(0, true), (1, true), (2, true), (3, true), (5, true), (6, true), (7, true), (8, true), (4, false), (9, false), (10, false), (11, false)] .nil) hmix (by kernel_rfl) enL ?_
  by_cases hXY : X < Y
  · rw [show max X Y = Y by omega]
    (repeat' (first | (show VH _ _ _ _ _ _ _; first | refine v_seq ?_ | refine r_seq ?_) | (show SH _ _ _ _ _ (_ :: _) _ _ _; first | (show SH _ _ _ _ _ (⟨_, .load _ _, _, _, _, _⟩ :: _) _ _ _; first | refine lbx rfl spL (by rfl) ?_ | refine lbs rfl spL (by rfl) (by rfl) ?_) | (show SH _ _ _ _ _ (⟨_, .call ⟨.value (.func 140), _, _⟩, _, _, _, _⟩ :: _) _ _ _; refine cl (callee := .func 140) rfl (fun w hw => hx w) rfl rfl ?_) | (show SH _ _ _ _ _ (⟨_, .call ⟨.value (.func 140), _, _⟩, _, _, _, _⟩ :: _) _ _ _; refine cl (callee := .func 140) rfl (fun w hw => hy w) rfl rfl ?_) | refine fad rfl ?_ | (show SH _ _ _ _ _ (⟨_, .store _ _ _, _, _, _, _⟩ :: _) _ _ _; refine sta rfl rfl rfl spL (by rfl) (by rfl) (by rfl) kpL ?_)) | refine s_nil ?_ | refine kh_normal ?_))
    refine bldI1 rfl ?_
    (repeat' (first | (show VH _ _ _ _ _ _ _; first | refine v_seq ?_ | refine r_seq ?_ | refine v_cond_t rfl tbL ?_) | (show SH _ _ _ _ _ (_ :: _) _ _ _; first | (show SH _ _ _ _ _ (⟨_, .load _ _, _, _, _, _⟩ :: _) _ _ _; refine lbs rfl spL (by rfl) (by rfl) ?_) | (show SH _ _ _ _ _ (⟨_, .call ⟨.value (.func 141), _, _⟩, _, _, _, _⟩ :: _) _ _ _; refine cl (callee := .func 141) rfl (fun w hw => hl w) rfl rfl ?_) | refine fad rfl ?_ | (show SH _ _ _ _ _ (⟨_, .store _ _ _, _, _, _, _⟩ :: _) _ _ _; first | refine sta rfl rfl rfl spL (by rfl) (by rfl) (by rfl) kpL ?_ | refine sbs rfl rfl evL spL (by rfl) (by rfl) (of_decide_eq_true rfl) kpL ?_)) | refine s_nil ?_ | refine kh_normal ?_))
    refine r_heldT [bx b4 149 _, bx b5 149 _, bx b6 149 _] (tr [(0, true), (1, true), (2, true), (3, false), (4, false), (5, false)] .nil) hmix (by kernel_rfl) enL ?_
    (repeat' (first | refine v_ret ?_ | (show SH _ _ _ _ _ (_ :: _) _ _ _; first | (show SH _ _ _ _ _ (⟨_, .load _ _, _, _, _, _⟩ :: _) _ _ _; refine lba rfl spL (by rfl) ?_) | (show SH _ _ _ _ _ (⟨_, .store _ _ _, _, _, _, _⟩ :: _) _ _ _; refine sta rfl rfl rfl spL (by rfl) (by rfl) (by rfl) kpL ?_)) | refine s_nil ?_ | refine kh_normal ?_))
    exact rhCCC rfl rfl rfl rfl rfl rfl rfl (fun w hw => loadVar_bx hw spL (by rfl)) (fun w hw => loadVar_bx hw spL (by rfl)) (fun w hw => loadVar_bx hw spL (by rfl)) ⟨⟨_, _, _, _, rfl⟩, rfl⟩ (ent_nil _)
  · rw [show max X Y = X by omega]
    (repeat' (first | (show VH _ _ _ _ _ _ _; first | refine v_seq ?_ | refine r_seq ?_) | (show SH _ _ _ _ _ (_ :: _) _ _ _; first | (show SH _ _ _ _ _ (⟨_, .load _ _, _, _, _, _⟩ :: _) _ _ _; first | refine lbx rfl spL (by rfl) ?_ | refine lbs rfl spL (by rfl) (by rfl) ?_) | (show SH _ _ _ _ _ (⟨_, .call ⟨.value (.func 140), _, _⟩, _, _, _, _⟩ :: _) _ _ _; refine cl (callee := .func 140) rfl (fun w hw => hx w) rfl rfl ?_) | (show SH _ _ _ _ _ (⟨_, .call ⟨.value (.func 140), _, _⟩, _, _, _, _⟩ :: _) _ _ _; refine cl (callee := .func 140) rfl (fun w hw => hy w) rfl rfl ?_) | refine fad rfl ?_ | (show SH _ _ _ _ _ (⟨_, .store _ _ _, _, _, _, _⟩ :: _) _ _ _; refine sta rfl rfl rfl spL (by rfl) (by rfl) (by rfl) kpL ?_)) | refine s_nil ?_ | refine kh_normal ?_))
    refine bldI1 rfl ?_
    (repeat' (first | (show VH _ _ _ _ _ _ _; first | refine v_seq ?_ | refine r_seq ?_ | refine v_skip ?_ | refine v_cond_f rfl tbL ?_) | (show SH _ _ _ _ _ (_ :: _) _ _ _; first | (show SH _ _ _ _ _ (⟨_, .load _ _, _, _, _, _⟩ :: _) _ _ _; refine lbs rfl spL (by rfl) (by rfl) ?_) | (show SH _ _ _ _ _ (⟨_, .call ⟨.value (.func 141), _, _⟩, _, _, _, _⟩ :: _) _ _ _; refine cl (callee := .func 141) rfl (fun w hw => hl w) rfl rfl ?_) | refine fad rfl ?_ | (show SH _ _ _ _ _ (⟨_, .store _ _ _, _, _, _, _⟩ :: _) _ _ _; refine sta rfl rfl rfl spL (by rfl) (by rfl) (by rfl) kpL ?_)) | refine s_nil ?_ | refine kh_normal ?_))
    refine r_heldT [bx b4 149 _, bx b5 149 _, bx b6 149 _] (tr [(0, true), (1, true), (2, true), (3, false), (4, false), (5, false)] .nil) hmix (by kernel_rfl) enL ?_
    (repeat' (first | refine v_ret ?_ | (show SH _ _ _ _ _ (_ :: _) _ _ _; first | (show SH _ _ _ _ _ (⟨_, .load _ _, _, _, _, _⟩ :: _) _ _ _; refine lba rfl spL (by rfl) ?_) | (show SH _ _ _ _ _ (⟨_, .store _ _ _, _, _, _, _⟩ :: _) _ _ _; refine sta rfl rfl rfl spL (by rfl) (by rfl) (by rfl) kpL ?_)) | refine s_nil ?_ | refine kh_normal ?_))
    exact rhCCC rfl rfl rfl rfl rfl rfl rfl (fun w hw => loadVar_bx hw spL (by rfl)) (fun w hw => loadVar_bx hw spL (by rfl)) (fun w hw => loadVar_bx hw spL (by rfl)) ⟨⟨_, _, _, _, rfl⟩, rfl⟩ (ent_nil _)
set_option maxHeartbeats 1000000 in
set_option maxRecDepth 100000 in
theorem dist_spec (p q : Pt) (w : World) (hp : InC p) (hq : InC q) : Ret Tryz.prog 62 [.agg (Flat.enc p).toArray, .agg (Flat.enc q).toArray].toArray w (Out w (.int .i64 (gapP p q))) := by
  have hg : 0 ≤ gapP p q ∧ gapP p q ≤ 2097152 := by unfold gapP; unfold InC at hp hq; omega
  have hw' := fun w => way_spec p q w hp hq
  have hS := fun w => sat_spec (gapP p q) w (by omega)
  generalize gapP p q = G at hw' hS hg ⊢
  obtain ⟨px, py⟩ := p
  obtain ⟨qx, qy⟩ := q
  rw [show Flat.enc (⟨px, py⟩ : Pt) = [.int .i64 px, .int .i64 py] from rfl, show Flat.enc (⟨qx, qy⟩ : Pt) = [.int .i64 qx, .int .i64 qy] from rfl] at *
  refine enterH Tryz.func62 rfl rfl Tryz.ntmps62 rfl (Wd.refl _) ?_
  (repeat' (first | (show VH _ _ _ _ _ _ _; first | refine v_seq ?_ | refine r_seq ?_) | (show SH _ _ _ _ _ (_ :: _) _ _ _; first | (show SH _ _ _ _ _ (⟨_, .assign _, _, _, _, _⟩ :: _) _ _ _; refine asg evL ?_) | (show SH _ _ _ _ _ (⟨_, .load _ _, _, _, _, _⟩ :: _) _ _ _; refine lba rfl spL (by rfl) ?_) | (show SH _ _ _ _ _ (⟨_, .call ⟨.value (.func 104), _, _⟩, _, _, _, _⟩ :: _) _ _ _; refine cp (callee := .func 104) rfl (fun w hw => hw' w) rfl rfl ?_) | (show SH _ _ _ _ _ (⟨_, .box _ _, _, _, _, _⟩ :: _) _ _ _; refine bxx rfl evL rfl (fun b => ?_))) | refine s_nil ?_ | refine kh_normal ?_))
  rintro _ _ ⟨⟨x1, x2, y1, y2, rfl⟩, rfl⟩
  (repeat' (first | (show VH _ _ _ _ _ _ _; first | refine v_seq ?_ | refine r_seq ?_ | refine v_ret ?_) | (show SH _ _ _ _ _ (_ :: _) _ _ _; first | (show SH _ _ _ _ _ (⟨_, .move _, _, _, _, _⟩ :: _) _ _ _; refine mov evL ?_) | (show SH _ _ _ _ _ (⟨_, .assign _, _, _, _, _⟩ :: _) _ _ _; refine asg evL ?_) | (show SH _ _ _ _ _ (⟨_, .load _ _, _, _, _, _⟩ :: _) _ _ _; refine lba rfl spL (by rfl) ?_) | (show SH _ _ _ _ _ (⟨_, .call ⟨.value (.func 105), _, _⟩, _, _, _, _⟩ :: _) _ _ _; refine cl (callee := .func 105) rfl (fun w hw => hS w) rfl rfl ?_) | refine extr rfl rfl ?_ | refine ala rfl (fun b => ?_) | (show SH _ _ _ _ _ (⟨_, .store _ _ _, _, _, _, _⟩ :: _) _ _ _; refine sta rfl rfl rfl spL (by rfl) (by rfl) (by rfl) kpL ?_)) | refine s_nil ?_ | refine kh_normal ?_))
  exact rh1 rfl rfl ⟨rfl, rfl⟩ (ent_nil _)
end Go.Proofs.YtjefoecnciepmaaGreatDoor

/- Layer 24 (interest): what a client sees. Plain Lean. -/
namespace Go.Proofs.YtjefoecnciepmaaGreatDoor
open Go.Fw Go.RowKit
def compK (k : Int) (l : List Comp) : Option Comp := l.find? fun c => decide (c.kind = k)
/-- The numbers of a component; zero if there is none. -/
def compV : Option Comp → List Int
  | some c => [c.a, c.b, c.c, c.d]
  | none => [0, 0, 0, 0]
def ownsE (cl : Int) (e : Ent1) : Bool := match compK 4 e.comps with | some c => decide (c.a = cl) | none => false
def pointE (e : Ent1) : Option Pt := (compK 1 e.comps).map fun c => ⟨c.a, c.b⟩
def ptD : Option Pt → Pt
  | some p => p
  | none => ⟨0, 0⟩
def hidE (cl : Nat) (e : Ent1) : Bool := match compK 5 e.comps with | some c => c.a.toNat.testBit cl | none => false
def ptsE (cl : Int) (es : List Ent1) : List Pt := (es.filter fun e => (pointE e).isSome && ownsE cl e).map fun e => ptD (pointE e)
def nearE (ps : List Pt) (e : Ent1) : Bool := match pointE e with | some p => ps.any fun q => decide (gapP p q ≤ 16384) | none => false
def seesE (cl : Nat) (ps : List Pt) (e : Ent1) : Bool := ownsE cl e || (!hidE cl e && nearE ps e)
theorem hide_bit : ∀ a < 512, ∀ c < 9, decide (bandK .i64 ((a : Nat) : Int) (2 ^ c) ≠ 0) = Nat.testBit a c := by decide +kernel
theorem idx_find {α : Type} (d : α) (p : α → Bool) : ∀ (l : List α) (k : Int), (idxFrom p k l = -1 ∧ l.find? p = none) ∨ ∃ i : Nat, i < l.length ∧ idxFrom p k l = k + i ∧ l.find? p = some (l.getD i d)
  | [], k => .inl ⟨rfl, rfl⟩
  | x :: l, k => by
    by_cases h : p x = true
    · refine .inr ⟨0, by simp, ?_, ?_⟩
      · rw [idxFrom, if_pos h]; omega
      · rw [List.find?_cons_of_pos h]; rfl
    · rw [idxFrom, if_neg h, List.find?_cons_of_neg h]
      rcases idx_find d p l (k + 1) with ⟨h1, h2⟩ | ⟨i, h1, h2, h3⟩
      · exact .inl ⟨h1, h2⟩
      · exact .inr ⟨i + 1, by simp; omega, by omega, by rw [h3]; rfl⟩
theorem compK_mem {k : Int} {l : List Comp} {c : Comp} (h : compK k l = some c) : c ∈ l ∧ c.kind = k := ⟨List.mem_of_find?_eq_some h, by have := List.find?_some h; simpa using this⟩
theorem fits_pos {c : Comp} (h : Fits c) (hk : c.kind = 1) : (-1048576 ≤ c.a ∧ c.a ≤ 1048576) ∧ (-1048576 ≤ c.b ∧ c.b ≤ 1048576) := by
  have := h.rng; rw [hk] at this; exact ⟨this.r0, this.r1⟩
theorem fits_hide {c : Comp} (h : Fits c) (hk : c.kind = 5) : 0 ≤ c.a ∧ c.a ≤ 510 := by
  have := h.rng; rw [hk] at this; exact this.r0
theorem point_in {e : Ent1} {p : Pt} (h : RightE e) (hp : pointE e = some p) : InC p := by
  unfold pointE at hp
  cases hc : compK 1 e.comps with
  | none => rw [hc] at hp; cases hp
  | some c =>
    rw [hc] at hp
    obtain ⟨h1, h2⟩ := compK_mem hc
    injection hp with hp
    rw [← hp]
    exact fits_pos (h.fits c h1) h2
theorem pts_in {cl : Int} {es : List Ent1} (h : ∀ e ∈ es, RightE e) : ∀ q ∈ ptsE cl es, InC q := by
  intro q hq
  obtain ⟨e, he, rfl⟩ := List.mem_map.1 hq
  obtain ⟨he, hb⟩ := List.mem_filter.1 he
  cases hp : pointE e with
  | none => rw [hp] at hb; simp at hb
  | some p => exact point_in (h e he) hp
end Go.Proofs.YtjefoecnciepmaaGreatDoor

