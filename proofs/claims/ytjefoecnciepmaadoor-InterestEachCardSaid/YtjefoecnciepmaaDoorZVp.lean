/- More operations: the greatest of four numbers. -/
import Derived.Test.YtjefoecnciepmaaDoorZVn
set_option linter.unusedSimpArgs false
set_option linter.unusedVariables false
namespace Go.Fw
open Go.RowKit
section
variable {md : Md} {P : Program} {n : Nat} {Q : HQ} {f : Fr} {w0 : World} {H R : List HP} {ops : Array Oper} {rest : List Oper} {d : Nat} {ty : TypeId} {pos : String} {aft : Array Edge} {x y z u : Operand}
theorem bmax4 {K : IntKind} {a b c e : Int} {at_ : Array TypeId} (hx : ev n f x = .int K a) (hy : ev n f y = .int K b) (hz : ev n f z = .int K c) (hu : ev n f u = .int K e) (r : Int) (hr : max (max (max a b) c) e = r) (k : SH (nx md) P n ops Q rest (upd f d (.int K r)) w0 H) :
    SH md P n ops Q (⟨some d, .call { callee := .builtin .max, args := #[x, y, z, u], argTypes := at_ }, ty, pos, aft, none⟩ :: rest) f w0 H := s_val (fun w hw => by
  intro d pos aft g
  rw [← hr]
  have h1 : (if b > a then b else a) = max a b := by omega
  have h2 : (if c > max a b then c else max a b) = max (max a b) c := by omega
  have h3 : (if e > max (max a b) c then e else max (max a b) c) = max (max (max a b) c) e := by omega
  simp [execOp, resolve, invoke, builtin, Builtin.max_, Builtin.max2, hx, hy, hz, hu, h1, h2, h3]
  omega) k
end
end Go.Fw
