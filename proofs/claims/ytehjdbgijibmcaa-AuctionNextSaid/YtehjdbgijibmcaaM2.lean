/- More rules: conversions, shifts, slices of slices, make, clear, structs and arrays, results that lie in memory. -/
import Derived.Test.YtehjdbgijibmcaaMm
import Derived.WalkSpells
set_option linter.unusedSimpArgs false
set_option linter.unusedVariables false
namespace Go.Fw
open Go.RowKit

class TInt (P : Program) (t : TypeId) (k : outParam IntKind) : Prop where
  und : P.underlying t = some (.int k)
/-- t is an array type: len elements of type e, of sz cells. -/
class TArr (P : Program) (t : TypeId) (len : outParam Nat) (e : outParam TypeId) (sz : outParam Nat) : Prop where
  und : P.underlying t = some (.array len e)
  inf : (P.info? e).map (·.size) = some sz
  big : 1 < len
/-- Field k of a struct of type s, by value: one cell, number off. -/
class TFlv (P : Program) (s : TypeId) (k : Nat) (off : outParam Nat) : Prop where
  val : ∀ cs v w, cs[off]? = some v → (Instr.field s (.agg cs) k).run P w = .ok v w
/-- t is a struct of sz fields of one cell each. -/
class TSt (P : Program) (t : TypeId) (sz : outParam Nat) (zs : outParam (List Value)) : Prop where
  und : ∃ fs, P.underlying t = some (.struct fs) ∧ ∀ w, (fs.mapM fun (f : Field) => do pure (f.offset, ← sizeOf f.type)).run P w = .ok ((List.range sz).map fun i => (i, 1)).toArray w
  zer : ∀ w, (zeroValue t).run P w = .ok (.agg zs.toArray) w
  len : zs.length = sz

def setAt : List Value → List (Nat × Value) → List Value
  | zs, [] => zs
  | zs, (i, v) :: ps => setAt (zs.set i v) ps

theorem fill_ones (sz : Nat) : ∀ (ps : List (Nat × Value)) (zs : List Value), zs.length = sz → (∀ p ∈ ps, p.1 < sz ∧ p.2.cells = #[p.2]) →
    Instr.fill (((List.range sz).map fun i => (i, 1)).toArray[·]?) zs.toArray ps = some (setAt zs ps).toArray
  | [], zs, _, _ => by simp [Instr.fill, setAt]
  | (i, v) :: ps, zs, hz, hp => by
    obtain ⟨h1, h2⟩ := hp (i, v) (by simp)
    simp only at h1 h2
    have hpl : (((List.range sz).map fun i => (i, 1)).toArray)[i]? = some (i, 1) := by simp [h1]
    simp only [Instr.fill, hpl, h2]
    rw [if_neg (by simp; omega)]
    have : (#[v].zipIdx.foldl (fun cs (x : Value × Nat) => cs.setIfInBounds (i + x.2) x.1) zs.toArray) = (zs.set i v).toArray := by simp
    rw [this]
    exact fill_ones sz ps (zs.set i v) (by simp [hz]) (fun p hp' => hp p (by simp [hp']))

section
variable {P : Program} {n : Nat} {Q : Exit → Fr → World → Prop} {f : Fr} {w : World} {ops : Array Oper} {rest : List Oper} {d : Nat} {ty : TypeId} {pos : String} {aft : Array Edge} {v : Value} {x y : Operand}

theorem ox_conv {s t : TypeId} {ks k : IntKind} {a : Int} [hs : TInt P s ks] [ht : TInt P t k] {k0 : IntKind} (hx : ev n f x = .int k0 a) : OX P n f (.convert s t x) ty w (.int k (k.wrap a)) w := by
  intro d pos aft g
  simp [execOp, convert, hx, run_underlying hs.und, run_underlying ht.und, Conv.intToInt]
theorem ox_shr {k kk : IntKind} {a b : Int} {t1 t2 : TypeId} (hx : ev n f x = .int k a) (hy : ev n f y = .int kk b) (h0 : 0 ≤ b) : OX P n f (.binOp .shr t1 x y t2) ty w (.int k (a.fdiv (2 ^ (min b.toNat k.bits)))) w := by
  intro d pos aft g
  simp [execOp, hx, hy, eqGuard, binOp, Op.shift, show ¬ b < 0 by omega]
theorem ox_eqnil {t e : TypeId} {sz by_ : Nat} {t2 : TypeId} {A : Option Addr} {m cp : Nat} [h : TSl P t e sz by_] (hx : ev n f x = .slice A m cp) (hy : ev n f y = .slice none 0 0) :
    OX P n f (.binOp .eql t x y t2) ty w (.bool A.isNone) w := by
  intro d pos aft g
  have := Lib.run_eql_slice_nil (P := P) w t e A m cp 0 0 h.und
  simp [execOp, hx, hy, eqGuard, this]
theorem ox_makeFunc0 {fn : Fn} : OX P n f (.makeFunc fn #[] #[]) ty w (.func fn #[] #[]) w := by intro d pos aft g; simp [execOp, Instr.makeFunc]
theorem ox_makeFunc1 {fn : Fn} {c0 : Operand} {v0 : Value} (h0 : ev n f c0 = v0) : OX P n f (.makeFunc fn #[] #[c0]) ty w (.func fn #[] #[v0]) w := by intro d pos aft g; simp [execOp, Instr.makeFunc, h0]
theorem ox_makeFunc2 {fn : Fn} {c0 c1 : Operand} {v0 v1 : Value} (h0 : ev n f c0 = v0) (h1 : ev n f c1 = v1) : OX P n f (.makeFunc fn #[] #[c0, c1]) ty w (.func fn #[] #[v0, v1]) w := by
  intro d pos aft g; simp [execOp, Instr.makeFunc, h0, h1]
theorem ox_makeFunc3 {fn : Fn} {c0 c1 c2 : Operand} {v0 v1 v2 : Value} (h0 : ev n f c0 = v0) (h1 : ev n f c1 = v1) (h2 : ev n f c2 = v2) : OX P n f (.makeFunc fn #[] #[c0, c1, c2]) ty w (.func fn #[] #[v0, v1, v2]) w := by
  intro d pos aft g; simp [execOp, Instr.makeFunc, h0, h1, h2]
theorem ox_makeBound {fn : Fn} {c0 : Operand} {v0 : Value} (h0 : ev n f c0 = v0) : OX P n f (.makeFunc fn #[c0] #[]) ty w (.func fn #[v0] #[]) w := by intro d pos aft g; simp [execOp, Instr.makeFunc, h0]
theorem ox_fieldv {s : TypeId} {k off : Nat} {cs : List Value} [h : TFlv P s k off] (hx : ev n f x = .agg cs.toArray) (hc : cs[off]? = some v) : OX P n f (.field s x k) ty w v w := by
  intro d pos aft g; simp [execOp, hx, h.val _ v w (show cs.toArray[off]? = some v by simpa using hc)]
theorem ox_build {t : TypeId} {sz : Nat} {zs : List Value} {parts : List (Nat × Operand)} {ps : List (Nat × Value)} [h : TSt P t sz zs] (hp : parts.map (fun p => (p.1, ev n f p.2)) = ps) (h1 : ∀ p ∈ ps, p.1 < sz ∧ p.2.cells = #[p.2]) :
    OX P n f (.build t parts.toArray) ty w (.agg (setAt zs ps).toArray) w := by
  intro d pos aft g
  obtain ⟨fs, hu, hm⟩ := h.und
  have hf := fill_ones sz ps zs h.len h1
  have hp' : (parts.toArray.map fun (p : Nat × Operand) => (p.1, ev n f p.2)).toList = ps := by simpa using hp
  simp only [execOp, Instr.build, h.zer, run_underlying hu, Sem.run_bind, Sem.run_pure, Result.andThen_ok, Value.cells, hm, hp']
  rw [hf]
  simp
theorem ox_loadA {t : TypeId} {sz : Nat} {z : List Value} {a : Addr} {cs : List Value} [h : TAgg P t sz z] (hx : ev n f x = .pointer (some a)) (hc : ∀ j u, cs[j]? = some u → w.cell? (a.add j) = some u) (hl : cs.length = sz) :
    OX P n f (.load t x) ty w (.agg cs.toArray) w := by
  intro d pos aft g
  have key : ∀ (k i : Nat) (acc : Array Value), i + k = cs.length → (loadCellsFrom a i k acc).run P w = .ok (acc ++ (cs.drop i).toArray) w := by
    intro k
    induction k with
    | zero => intro i acc hi; simp [loadCellsFrom, List.drop_of_length_le (by omega : cs.length ≤ i)]
    | succ k ih =>
      intro i acc hi
      have hlt : i < cs.length := by omega
      have hcell := hc i cs[i] (by simp [hlt])
      simp only [loadCellsFrom, load, Sem.run_bind, Sem.run, hcell, Result.andThen_ok]
      rw [ih (i + 1) _ (by omega)]
      congr 1
      apply Array.toList_inj.1
      rw [List.drop_eq_getElem_cons hlt]
      simp
  have := key sz 0 #[] (by omega)
  simp [execOp, Instr.loadAt, Instr.sureAddr, loadVar, hx, h.agg, h.siz, loadCells, this]
theorem ox_indexArr {t e : TypeId} {len sz : Nat} {a : Addr} {k : IntKind} {i : Int} [h : TArr P t len e sz] (hx : ev n f x = .pointer (some a)) (hy : ev n f y = .int k i) (h0 : 0 ≤ i) (h1 : i < len) :
    OX P n f (.indexAddr t x y) ty w (.pointer (some (a.add (i.toNat * sz)))) w := by
  intro d pos aft g
  obtain ⟨info, hi, hp⟩ : ∃ info, P.info? e = some info ∧ info.size = sz := by
    have := h.inf
    cases hi : P.info? e with
    | none => rw [hi] at this; simp at this
    | some info => rw [hi] at this; exact ⟨info, rfl, by simpa using this⟩
  simp [execOp, Instr.indexAt, asIntOf, Instr.sureAddr, hx, hy, run_underlying h.und, sizeOf, typeInfo, program, Sem.run, hi, hp, h0, h1]

/-- x[lo:hi] of a slice. -/
theorem slice_size {t e : TypeId} {sz by_ : Nat} [h : TSl P t e sz by_] : ∀ w, (sizeOf e).run P w = .ok sz w := by
  intro w
  have := h.inf
  cases hi : P.info? e with
  | none => rw [hi] at this; simp at this
  | some info =>
    rw [hi] at this
    simp only [Option.map_some, Option.some.injEq, Prod.mk.injEq] at this
    simp [sizeOf, typeInfo, program, Sem.run, hi, this.1]
theorem not_array {t e : TypeId} {sz by_ : Nat} (h : TSl P t e sz by_) {X : Value} {lo hi mx : Option Value} : (Instr.sliceAt t X lo hi mx).run P w = (Instr.slice t X lo hi mx).run P w := by
  simp [Instr.sliceAt, run_underlying h.und]
theorem ox_slice_hi {t e : TypeId} {sz by_ : Nat} {A : Option Addr} {m cp : Nat} {k : IntKind} {hi : Int} [h : TSl P t e sz by_] (hx : ev n f x = .slice A m cp) (hy : ev n f y = .int k hi) (h0 : 0 ≤ hi) (h1 : hi ≤ cp) :
    OX P n f (.slice t x none (some y) none) ty w (.slice A hi.toNat cp) w := by
  intro d pos aft g
  have hsz := slice_size (P := P) (t := t) (e := e)
  have hA : (if cp = 0 then A else Option.map (fun a => a.add 0) A) = A := by
    split
    · rfl
    · cases A <;> simp [Addr.add]
  simp [execOp, not_array h, Instr.slice, hx, hy, run_underlying h.und, Instr.sliceBounds, Instr.sliceBound, asIntOf, h0, h1, hsz, hA]
theorem ox_slice_lo {t e : TypeId} {sz by_ : Nat} {A : Option Addr} {m cp : Nat} {k : IntKind} {lo : Int} [h : TSl P t e sz by_] (hx : ev n f x = .slice A m cp) (hy : ev n f y = .int k lo) (h0 : 0 ≤ lo) (h1 : lo ≤ m) :
    OX P n f (.slice t x (some y) none none) ty w (.slice (if cp = lo.toNat then A else A.map (·.add (lo.toNat * sz))) (m - lo.toNat) (cp - lo.toNat)) w := by
  intro d pos aft g
  have hsz := slice_size (P := P) (t := t) (e := e)
  simp [execOp, not_array h, Instr.slice, hx, hy, run_underlying h.und, Instr.sliceBounds, Instr.sliceBound, asIntOf, h0, h1, hsz]
theorem ox_slice_arr {t e : TypeId} {len sz : Nat} {a : Addr} {k : IntKind} {hi : Int} [h : TArr P t len e sz] (hx : ev n f x = .pointer (some a)) (hy : ev n f y = .int k hi) (h0 : 0 ≤ hi) (h1 : hi ≤ len) :
    OX P n f (.slice t x none (some y) none) ty w (.slice (some a) hi.toNat len) w := by
  intro d pos aft g
  have hb := h.big
  obtain ⟨info, hi', hp⟩ : ∃ info, P.info? e = some info ∧ info.size = sz := by
    have := h.inf
    cases hi : P.info? e with
    | none => rw [hi] at this; simp at this
    | some info => rw [hi] at this; exact ⟨info, rfl, by simpa using this⟩
  simp [execOp, Instr.sliceAt, Instr.sureAddr, hx, hy, run_underlying h.und, Instr.sliceBounds, Instr.sliceBound, asIntOf, h0, h1, sizeOf, typeInfo, program, Sem.run, hi', hp, show len ≠ 0 by omega, Addr.add]

theorem wl_make {t e : TypeId} {sz by_ : Nat} {k1 k2 : IntKind} {m cp : Int} [ht : TSl P t e sz by_] [he : TEl P e sz by_] (hx : ev n f x = .int k1 m) (hy : ev n f y = .int k2 cp)
    (h0 : 0 ≤ m) (h1 : m ≤ cp) (hbig : cp * by_ ≤ 140737488355328) (h63 : cp ≤ 140737488355328)
    (k : ∀ w1 b, Ext w w1 → b = w.heap.size → w1.heap.size = b + 1 → (∃ cs, cs.length = m.toNat * sz ∧ Own w1 b e sz (some ⟨b, 0, none⟩) m.toNat cp.toNat cs) → WL P n ops Q rest (upd f d (.slice (some ⟨b, 0, none⟩) m.toNat cp.toNat)) w1) :
    WL P n ops Q (⟨some d, .makeSlice t x y, ty, pos, aft, none⟩ :: rest) f w := by
  obtain ⟨i, z, hi, hisz, hiby, hz, hzs⟩ := he.inf
  have hrun := run_make (P := P) w t e i z ht.und hi hz k1 k2 m cp h0 h1 (by rw [hiby, Int.mul_comm]; omega) (by omega)
  refine wl_val (v := .slice (some ⟨w.heap.size, 0, none⟩) m.toNat cp.toNat) (w' := w.alloc (.cells (madeCells z.cells (cp.toNat * i.size)) e)) ?_ (k _ _ (Ext.alloc w _) rfl (by simp) ?_)
  · intro d pos aft g
    simp [execOp, hx, hy, hrun]
  · refine ⟨(madeCells z.cells (cp.toNat * i.size)).toList.take (m.toNat * sz), ?_, ?_, .inr ⟨w.heap.size, cp.toNat, _, rfl, Nat.le_refl _, heap_alloc_new w _, by omega, by simp only [maxLen]; omega, ?_, rfl⟩⟩
    · have : m.toNat * sz ≤ cp.toNat * sz := Nat.mul_le_mul_right _ (by omega)
      rw [List.length_take, Array.length_toList, size_madeCells, hisz]; omega
    · have : m.toNat * sz ≤ cp.toNat * sz := Nat.mul_le_mul_right _ (by omega)
      rw [List.length_take, Array.length_toList, size_madeCells, hisz]; omega
    · simp [size_madeCells, hisz]

end
end Go.Fw
namespace Go.Fw
theorem cellB {w : World} {b off : Nat} {cs : Array Value} {t : TypeId} {fr : Nat × Nat} {v : Value} (h : w.heap[b]? = some (.cells cs t fr)) (hv : cs[off]? = some v) : w.cell? ⟨b, off, none⟩ = some v := by
  simp [World.cell?, h, hv]
/-- Facts on memory that go over to a world that extends this one. -/
class Stays (p : World → Prop) : Prop where
  ext : ∀ {w w'}, p w → Ext w w' → p w'
theorem extq {p : World → Prop} [Stays p] {w w' : World} (h : p w) (he : Ext w w') : p w' := Stays.ext h he
instance (A : Option Addr) (l : List Int) : Stays (fun w => Ints w A l) := ⟨fun h he => h.ext he⟩
end Go.Fw
namespace Go.Fw
open Go.RowKit
section
variable {P : Program} {n : Nat} {f : Fr} {w w' : World} {ty : TypeId} {v : Value} {x y c : Operand}
theorem ox_indexN {t e : TypeId} {by_ : Nat} {A : Option Addr} {m cp : Nat} {k : IntKind} {i : Nat} {l : List Int} [h : TSl P t e 1 by_] (hr : Ints w A l) (hx : ev n f x = .slice A m cp) (hy : ev n f y = .int k i)
    (h1 : i < m) (h2 : i < l.length) : OX P n f (.indexAddr t x y) ty w (.pointer (some ((adr A).add i))) w := by
  have := ox_indexI (P := P) (t := t) (w := w) (ty := ty) hr hx hy (by omega) (by omega) (by omega)
  rwa [Int.toNat_natCast] at this
theorem ox_loadN {t : TypeId} {z : Value} {A : Option Addr} {i : Nat} {l : List Int} [h : TOne P t z] (hr : Ints w A l) (hx : ev n f x = .pointer (some ((adr A).add i))) (h1 : i < l.length) :
    OX P n f (.load t x) ty w (.int .i64 (l.getD i 0)) w := ox_load hx (hr.get i h1).2
theorem ox_conv64 {s t : TypeId} {ks k0 : IntKind} {a : Int} [hs : TInt P s ks] [ht : TInt P t .i64] (hx : ev n f x = .int k0 a) (h : In64 a) : OX P n f (.convert s t x) ty w (.int .i64 a) w := by
  have := ox_conv (P := P) (w := w) (ty := ty) (s := s) (t := t) hx
  rwa [wrap_in h] at this
theorem ox_convU64 {s t : TypeId} {ks k0 : IntKind} {a : Int} [hs : TInt P s ks] [ht : TInt P t .u64] (hx : ev n f x = .int k0 a) (h0 : 0 ≤ a) (h1 : a ≤ 9223372036854775807) : OX P n f (.convert s t x) ty w (.int .u64 a) w := by
  have := ox_conv (P := P) (w := w) (ty := ty) (s := s) (t := t) hx
  have hw : IntKind.u64.wrap a = a := by rw [IntKind.wrap_u64]; omega
  rwa [hw] at this
theorem ox_shr1 {kk : IntKind} {a : Int} {t1 t2 : TypeId} (hx : ev n f x = .int .u64 a) (hy : ev n f y = .int kk 1) : OX P n f (.binOp .shr t1 x y t2) ty w (.int .u64 (a / 2)) w := by
  have := ox_shr (P := P) (w := w) (ty := ty) (t1 := t1) (t2 := t2) hx hy (by omega)
  have e : a.fdiv (2 ^ (min (1 : Int).toNat IntKind.u64.bits)) = a / 2 := by
    have : min (1 : Int).toNat IntKind.u64.bits = 1 := by decide
    rw [this]
    exact Int.fdiv_eq_ediv_of_nonneg _ (by decide)
  rwa [e] at this
theorem ox_remN {a b : Int} {k : IntKind} {t1 t2 : TypeId} (hx : ev n f x = .int k a) (hy : ev n f y = .int k b) (h0 : 0 ≤ a) (hb : 0 < b) : OX P n f (.binOp .rem t1 x y t2) ty w (.int k (a % b)) w := by
  have := ox_rem (P := P) (w := w) (ty := ty) (t1 := t1) (t2 := t2) hx hy (by omega)
  rwa [Int.tmod_eq_emod_of_nonneg h0] at this
end
end Go.Fw
