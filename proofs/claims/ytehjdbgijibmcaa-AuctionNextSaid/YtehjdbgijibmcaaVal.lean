/- Rules for the operations that only compute or read. -/
import Derived.Test.YtehjdbgijibmcaaOp
set_option linter.unusedSimpArgs false
set_option linter.unusedVariables false
namespace Go.Fw
open Go.RowKit

/-- t is a type of slices: of elements of type e, of sz cells and by_ bytes. -/
class TSl (P : Program) (t : TypeId) (e : outParam TypeId) (sz by_ : outParam Nat) : Prop where
  und : P.underlying t = some (.slice e)
  inf : (P.info? e).map (fun i => (i.size, i.bytes)) = some (sz, by_)
/-- A variable of the type t is one cell. -/
class TOne (P : Program) (t : TypeId) (z : outParam Value) : Prop where
  agg : ∀ w, (isAgg t).run P w = .ok false w
  siz : ∀ w, (sizeOf t).run P w = .ok 1 w
  zer : ∀ w, (zeroValue t).run P w = .ok z w
  one : z.cells = #[z]
/-- t is a struct or array of sz cells. -/
class TAgg (P : Program) (t : TypeId) (sz : outParam Nat) (z : outParam (List Value)) : Prop where
  agg : ∀ w, (isAgg t).run P w = .ok true w
  siz : ∀ w, (sizeOf t).run P w = .ok sz w
  zer : ∀ w, (zeroValue t).run P w = .ok (.agg z.toArray) w
/-- Field k of the struct type s lies off cells behind its beginning. -/
class TFld (P : Program) (s : TypeId) (k : Nat) (off : outParam Nat) : Prop where
  adr : ∀ a w, (Instr.fieldAt s (.pointer (some a)) k).run P w = .ok (.pointer (some (a.add off))) w

/-- The numbers of type int. -/
def In64 (n : Int) : Prop := -9223372036854775808 ≤ n ∧ n ≤ 9223372036854775807
theorem wrap_in {n : Int} (h : In64 n) : IntKind.i64.wrap n = n := by
  obtain ⟨h1, h2⟩ := h
  rw [IntKind.wrap_i64]; omega

section
variable {P : Program} {n : Nat} {f : Fr} {w w' : World} {ty : TypeId} {v : Value} {x y c : Operand}

theorem ox_move (h : ev n f x = v) : OX P n f (.move x) ty w v w := by intro d pos aft g; simp [execOp, h]
theorem ox_assign (h : ev n f x = v) : OX P n f (.assign x) ty w v w := by intro d pos aft g; simp [execOp, h]
theorem ox_pick_t {t : Bool} (hc : ev n f c = .bool t) (ht : t = true) (h : ev n f x = v) : OX P n f (.pick c x y) ty w v w := by
  subst ht; intro d pos aft g; simp [execOp, hc, h, asBool]
theorem ox_pick_f {t : Bool} (hc : ev n f c = .bool t) (ht : t = false) (h : ev n f y = v) : OX P n f (.pick c x y) ty w v w := by
  subst ht; intro d pos aft g; simp [execOp, hc, h, asBool]
theorem ox_pick {t : Bool} (hc : ev n f c = .bool t) : OX P n f (.pick c x y) ty w (if t then ev n f x else ev n f y) w := by
  intro d pos aft g; simp [execOp, hc, asBool]

section ints
variable {a b : Int} {k : IntKind} {t1 t2 : TypeId}
theorem ox_add (hx : ev n f x = .int k a) (hy : ev n f y = .int k b) : OX P n f (.binOp .add t1 x y t2) ty w (.int k (k.wrap (a + b))) w := by
  intro d pos aft g; simp [execOp, hx, hy, eqGuard, binOp, Op.intArith]
theorem ox_sub (hx : ev n f x = .int k a) (hy : ev n f y = .int k b) : OX P n f (.binOp .sub t1 x y t2) ty w (.int k (k.wrap (a - b))) w := by
  intro d pos aft g; simp [execOp, hx, hy, eqGuard, binOp, Op.intArith]
theorem ox_mul (hx : ev n f x = .int k a) (hy : ev n f y = .int k b) : OX P n f (.binOp .mul t1 x y t2) ty w (.int k (k.wrap (a * b))) w := by
  intro d pos aft g; simp [execOp, hx, hy, eqGuard, binOp, Op.intArith]
theorem ox_quo (hx : ev n f x = .int k a) (hy : ev n f y = .int k b) (hb : b ≠ 0) : OX P n f (.binOp .quo t1 x y t2) ty w (.int k (k.wrap (a.tdiv b))) w := by
  intro d pos aft g; simp [execOp, hx, hy, eqGuard, binOp, Op.intDiv, hb]
theorem ox_rem (hx : ev n f x = .int k a) (hy : ev n f y = .int k b) (hb : b ≠ 0) : OX P n f (.binOp .rem t1 x y t2) ty w (.int k (a.tmod b)) w := by
  intro d pos aft g; simp [execOp, hx, hy, eqGuard, binOp, Op.intDiv, hb]
theorem ox_add64 (hx : ev n f x = .int .i64 a) (hy : ev n f y = .int .i64 b) (h : In64 (a + b)) : OX P n f (.binOp .add t1 x y t2) ty w (.int .i64 (a + b)) w := by
  have := ox_add (P := P) (w := w) (ty := ty) (t1 := t1) (t2 := t2) hx hy
  rwa [wrap_in h] at this
theorem ox_sub64 (hx : ev n f x = .int .i64 a) (hy : ev n f y = .int .i64 b) (h : In64 (a - b)) : OX P n f (.binOp .sub t1 x y t2) ty w (.int .i64 (a - b)) w := by
  have := ox_sub (P := P) (w := w) (ty := ty) (t1 := t1) (t2 := t2) hx hy
  rwa [wrap_in h] at this
theorem ox_mul64 (hx : ev n f x = .int .i64 a) (hy : ev n f y = .int .i64 b) (h : In64 (a * b)) : OX P n f (.binOp .mul t1 x y t2) ty w (.int .i64 (a * b)) w := by
  have := ox_mul (P := P) (w := w) (ty := ty) (t1 := t1) (t2 := t2) hx hy
  rwa [wrap_in h] at this
theorem ox_lss (hx : ev n f x = .int k a) (hy : ev n f y = .int k b) : OX P n f (.binOp .lss t1 x y t2) ty w (.bool (decide (a < b))) w := by
  intro d pos aft g; simp [execOp, hx, hy, eqGuard, binOp, Op.intCmp]
theorem ox_leq (hx : ev n f x = .int k a) (hy : ev n f y = .int k b) : OX P n f (.binOp .leq t1 x y t2) ty w (.bool (decide (a ≤ b))) w := by
  intro d pos aft g; simp [execOp, hx, hy, eqGuard, binOp, Op.intCmp]
theorem ox_gtr (hx : ev n f x = .int k a) (hy : ev n f y = .int k b) : OX P n f (.binOp .gtr t1 x y t2) ty w (.bool (decide (b < a))) w := by
  intro d pos aft g; simp [execOp, hx, hy, eqGuard, binOp, Op.intCmp]
theorem ox_geq (hx : ev n f x = .int k a) (hy : ev n f y = .int k b) : OX P n f (.binOp .geq t1 x y t2) ty w (.bool (decide (b ≤ a))) w := by
  intro d pos aft g; simp [execOp, hx, hy, eqGuard, binOp, Op.intCmp]
theorem ox_eql (hx : ev n f x = .int k a) (hy : ev n f y = .int k b) : OX P n f (.binOp .eql t1 x y t2) ty w (.bool (decide (a = b))) w := by
  intro d pos aft g; simp [execOp, hx, hy, eqGuard, binOp, Op.intCmp]; rw [Bool.eq_iff_iff]; simp
theorem ox_neq (hx : ev n f x = .int k a) (hy : ev n f y = .int k b) : OX P n f (.binOp .neq t1 x y t2) ty w (.bool (decide (a ≠ b))) w := by
  intro d pos aft g; simp [execOp, hx, hy, eqGuard, binOp, Op.intCmp]; rw [Bool.eq_iff_iff]; simp
theorem ox_neg (hx : ev n f x = .int k a) : OX P n f (.unOp .neg t1 x) ty w (.int k (k.wrap (0 - a))) w := by
  intro d pos aft g; simp [execOp, hx, Op.unary, Op.intArith]
theorem ox_neg64 (hx : ev n f x = .int .i64 a) (h : In64 (-a)) : OX P n f (.unOp .neg t1 x) ty w (.int .i64 (-a)) w := by
  have := ox_neg (P := P) (w := w) (ty := ty) (t1 := t1) hx
  rw [Int.zero_sub, wrap_in h] at this; exact this
theorem ox_not {b : Bool} (hx : ev n f x = .bool b) : OX P n f (.unOp .not t1 x) ty w (.bool !b) w := by
  intro d pos aft g; simp [execOp, hx, Op.unary]
end ints
theorem ox_max2 {k : IntKind} {a b : Int} {at_ : Array TypeId} (hx : ev n f x = .int k a) (hy : ev n f y = .int k b) :
    OX P n f (.call { callee := .builtin .max, args := #[x, y], argTypes := at_ }) ty w (.int k (max a b)) w := by
  intro d pos aft g
  have : (if b > a then b else a) = max a b := by omega
  simp [execOp, resolve, invoke, builtin, Builtin.max_, Builtin.max2, hx, hy, this]
theorem ox_min2 {k : IntKind} {a b : Int} {at_ : Array TypeId} (hx : ev n f x = .int k a) (hy : ev n f y = .int k b) :
    OX P n f (.call { callee := .builtin .min, args := #[x, y], argTypes := at_ }) ty w (.int k (min a b)) w := by
  intro d pos aft g
  have : (if b < a then b else a) = min a b := by omega
  simp [execOp, resolve, invoke, builtin, Builtin.min_, Builtin.min2, hx, hy, this]
theorem ox_len {t e : TypeId} {sz by_ : Nat} {A : Option Addr} {m cp : Nat} [h : TSl P t e sz by_] (hx : ev n f x = .slice A m cp) :
    OX P n f (.call { callee := .builtin .len, args := #[x], argTypes := #[t] }) ty w (.int .i64 m) w := by
  intro d pos aft g
  simp [execOp, resolve, invoke, builtin, Builtin.len_, hx, run_underlying h.und, goInt]
theorem ox_extract {vs : List Value} {k : Nat} {t : TypeId} (hx : ev n f x = .tuple vs.toArray) (hk : vs[k]? = some v) : OX P n f (.extract x k) t w v w := by
  intro d pos aft g; simp [execOp, Instr.extract, hx, hk]
theorem ox_load {t : TypeId} {z : Value} {a : Addr} [h : TOne P t z] (hx : ev n f x = .pointer (some a)) (hc : w.cell? a = some v) : OX P n f (.load t x) ty w v w := by
  intro d pos aft g
  simp [execOp, Instr.loadAt, Instr.sureAddr, loadVar, hx, h.agg, load, Sem.run, hc]
theorem ox_index {t e : TypeId} {sz by_ : Nat} {a : Addr} {m cp : Nat} {k : IntKind} {i : Int} [h : TSl P t e sz by_] (hx : ev n f x = .slice (some a) m cp) (hy : ev n f y = .int k i)
    (h0 : 0 ≤ i) (h1 : i < m) : OX P n f (.indexAddr t x y) ty w (.pointer (some (a.add (i.toNat * sz)))) w := by
  intro d pos aft g
  obtain ⟨info, hi, hp⟩ : ∃ info, P.info? e = some info ∧ (info.size, info.bytes) = (sz, by_) := by
    have := h.inf
    cases hi : P.info? e with
    | none => rw [hi] at this; simp at this
    | some info => rw [hi] at this; exact ⟨info, rfl, by simpa using this⟩
  have hsz : info.size = sz := by injection hp
  simp [execOp, Instr.indexAt, asIntOf, hx, hy, run_underlying h.und, sizeOf, typeInfo, program, Sem.run, hi, hsz, h0, h1]
theorem ox_field {s : TypeId} {k off : Nat} {a : Addr} [h : TFld P s k off] (hx : ev n f x = .pointer (some a)) : OX P n f (.fieldAddr s x k) ty w (.pointer (some (a.add off))) w := by
  intro d pos aft g; simp [execOp, hx, h.adr]
end
end Go.Fw
namespace Go.Fw
section
variable {n : Nat} {f : Fr}
theorem rep_get {t : Nat} (ht : Nat.blt t n = true) : (rep n f).tmps.getD t undef = f t := by
  have := congrFun (rep_eval n f) (.tmp t)
  simpa [Act.eval, ev, ht] using this
end
end Go.Fw

namespace Go.Fw
def adr (A : Option Addr) : Addr := A.getD default
/-- The slice at A reads as the numbers l. -/
structure Ints (w : World) (A : Option Addr) (l : List Int) : Prop where
  get : ∀ k, k < l.length → A = some (adr A) ∧ w.cell? ((adr A).add k) = some (.int .i64 (l.getD k 0))
  rng : ∀ x ∈ l, In64 x
section
variable {P : Program} {n : Nat} {f : Fr} {w w' : World} {ty : TypeId} {v : Value} {x y c : Operand}
theorem ox_indexI {t e : TypeId} {by_ : Nat} {A : Option Addr} {m cp : Nat} {k : IntKind} {i : Int} {l : List Int} [h : TSl P t e 1 by_] (hr : Ints w A l) (hx : ev n f x = .slice A m cp) (hy : ev n f y = .int k i)
    (h0 : 0 ≤ i) (h1 : i < m) (h2 : i < l.length) : OX P n f (.indexAddr t x y) ty w (.pointer (some ((adr A).add i.toNat))) w := by
  have hA := (hr.get i.toNat (by omega)).1
  rw [hA] at hx
  have := ox_index (P := P) (t := t) (w := w) (ty := ty) hx hy h0 h1
  rwa [Nat.mul_one] at this
theorem ox_loadI {t : TypeId} {z : Value} {A : Option Addr} {i : Int} {l : List Int} [h : TOne P t z] (hr : Ints w A l) (hx : ev n f x = .pointer (some ((adr A).add i.toNat))) (h0 : 0 ≤ i) (h1 : i < l.length) :
    OX P n f (.load t x) ty w (.int .i64 (l.getD i.toNat 0)) w := ox_load hx (hr.get i.toNat (by omega)).2
theorem Ints.in64 {A : Option Addr} {l : List Int} (h : Ints w A l) (i : Nat) : In64 (l.getD i 0) := by
  by_cases hi : i < l.length
  · have : l.getD i 0 = l[i] := by simp [hi]
    rw [this]; exact h.rng _ (List.getElem_mem hi)
  · have : l.getD i 0 = 0 := by simp [List.getElem?_eq_none (Nat.le_of_not_lt hi)]
    rw [this]; constructor <;> omega
end
end Go.Fw
