/- Package auction: offers. -/
import Derived.Test.YtehjdbgijibmcaaZCd
set_option linter.unusedSimpArgs false
set_option linter.unusedVariables false
namespace Go.Proofs.Ytehjdbgijibmcaa
open Go.Fw Go.RowKit
instance : TSt Try.prog 82 3 [.bool false, .bool false, .nilFunc] := tst_of Try.underlying82 (fun w => by kernel_rfl) (fun w => by kernel_rfl) rfl
instance : TAgg Try.prog 82 3 [.bool false, .bool false, .nilFunc] := ⟨fun w => by kernel_rfl, fun w => by kernel_rfl, fun w => by kernel_rfl⟩
def zero12 : List Value := [.bool false, .bool false, .nilFunc, .bool false, .bool false, .nilFunc, .bool false, .bool false, .nilFunc, .bool false, .bool false, .nilFunc]
instance : TAgg Try.prog 83 12 zero12 := ⟨fun w => by kernel_rfl, fun w => by kernel_rfl, fun w => by kernel_rfl⟩
instance : TArr Try.prog 83 4 82 3 := ⟨by kernel_rfl, by kernel_rfl, by omega⟩
instance : TSl Try.prog 87 82 3 16 := ⟨by kernel_rfl, by kernel_rfl⟩
instance : TOne Try.prog 4 (.bool false) := ⟨fun w => by kernel_rfl, fun w => by kernel_rfl, fun w => by kernel_rfl, rfl⟩
instance : TFld Try.prog 82 0 0 := tfld_of 0 Try.underlying82 rfl rfl (fun w => by kernel_rfl)
instance : TFlv Try.prog 82 0 0 := tflv_of Try.underlying82 rfl rfl (fun w => by kernel_rfl)
instance : TFld Try.prog 82 1 1 := tfld_of 0 Try.underlying82 rfl rfl (fun w => by kernel_rfl)
instance : TFlv Try.prog 82 1 1 := tflv_of Try.underlying82 rfl rfl (fun w => by kernel_rfl)
instance : TFld Try.prog 82 2 2 := tfld_of 0 Try.underlying82 rfl rfl (fun w => by kernel_rfl)
instance : TFlv Try.prog 82 2 2 := tflv_of Try.underlying82 rfl rfl (fun w => by kernel_rfl)

/-- One way: whether it applies, whether the offer is too low, what it does. -/
structure Offer where
  applies : Bool
  low : Bool
  fn : Nat
  cap : List Nat
def Offer.f (o : Offer) : Value := .func (.func o.fn) #[] (o.cap.map fun b => Value.pointer (some ⟨b, 0, none⟩)).toArray
instance : Flat Offer := ⟨3, fun o => [.bool o.applies, .bool o.low, o.f], ⟨false, false, 0, []⟩, fun _ => rfl, fun x v hv => by simp at hv; rcases hv with rfl | rfl | rfl <;> rfl, by omega⟩
section
variable {md : Md} {n : Nat} {Q : HQ} {f : Fr} {w0 : World} {H R : List HP} {ops : Array Oper} {rest : List Oper} {d : Nat} {op : Op} {ty : TypeId} {pos : String} {aft : Array Edge} {v : Value} {x0 x1 x2 x3 : Operand}
theorem ox_offers {w : World} {a0 b0 c0 a1 b1 c1 a2 b2 c2 a3 b3 c3 : Value} (h0 : ev n f x0 = .agg #[a0, b0, c0]) (h1 : ev n f x1 = .agg #[a1, b1, c1]) (h2 : ev n f x2 = .agg #[a2, b2, c2]) (h3 : ev n f x3 = .agg #[a3, b3, c3]) :
    OX Try.prog n f (.build 83 #[(0, x0), (1, x1), (2, x2), (3, x3)]) ty w (.agg #[a0, b0, c0, a1, b1, c1, a2, b2, c2, a3, b3, c3]) w := by
  intro d pos aft g
  have hz : ∀ w, (zeroValue 83).run Try.prog w = .ok (.agg zero12.toArray) w := fun w => by kernel_rfl
  have hu : Try.prog.underlying 83 = some (.array 4 82) := by kernel_rfl
  have hs : ∀ w, (sizeOf 82).run Try.prog w = .ok 3 w := fun w => by kernel_rfl
  simp [execOp, Instr.build, hz, run_underlying hu, hs, h0, h1, h2, h3, Value.cells, zero12, Instr.fill]
theorem bldO {a0 b0 c0 a1 b1 c1 a2 b2 c2 a3 b3 c3 : Value} (h0 : ev n f x0 = .agg #[a0, b0, c0]) (h1 : ev n f x1 = .agg #[a1, b1, c1]) (h2 : ev n f x2 = .agg #[a2, b2, c2]) (h3 : ev n f x3 = .agg #[a3, b3, c3])
    (k : SH (nx md) Try.prog n ops Q rest (upd f d (.agg #[a0, b0, c0, a1, b1, c1, a2, b2, c2, a3, b3, c3])) w0 H) : SH md Try.prog n ops Q (⟨some d, .build 83 #[(0, x0), (1, x1), (2, x2), (3, x3)], ty, pos, aft, none⟩ :: rest) f w0 H := s_val (fun _ _ => ox_offers h0 h1 h2 h3) k
end
end Go.Proofs.Ytehjdbgijibmcaa
