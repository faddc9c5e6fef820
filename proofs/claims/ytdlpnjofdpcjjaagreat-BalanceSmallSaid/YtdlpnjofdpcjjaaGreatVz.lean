/- More rules: a quotient of numbers of either sign. -/
import Derived.Test.YtdlpnjofdpcjjaaGreatVq
namespace Go.Fw
open Go.RowKit
section
variable {md : Md} {P : Program} {n : Nat} {Q : HQ} {f : Fr} {w0 : World} {H R : List HP} {ops : Array Oper} {rest : List Oper} {d : Nat} {op : Op} {ty : TypeId} {pos : String} {aft : Array Edge} {v : Value} {x y c : Operand}
theorem quoT {a b : Int} {t1 t2 : TypeId} (hx : ev n f x = .int .i64 a) (hy : ev n f y = .int .i64 b) (hb : b ≠ 0) (h : In64 (a.tdiv b)) (k : SH (nx md) P n ops Q rest (upd f d (.int .i64 (a.tdiv b))) w0 H) : SH md P n ops Q (⟨some d, .binOp .quo t1 x y t2, ty, pos, aft, none⟩ :: rest) f w0 H :=
  s_val (fun w hw => by have := ox_quo (P := P) (t1 := t1) (t2 := t2) (ty := ty) (w := w) hx hy hb; rwa [wrap_in h] at this) k
theorem tdiv_bound (a : Int) {b m : Int} (hb : 1 ≤ b) (h : -m ≤ a ∧ a ≤ m) : -m ≤ a.tdiv b ∧ a.tdiv b ≤ m := by
  have h1 : (a.tdiv b).natAbs = a.natAbs / b.natAbs := Int.natAbs_tdiv a b
  have h2 : a.natAbs / b.natAbs ≤ a.natAbs := Nat.div_le_self _ _
  omega
end
end Go.Fw
