/- Components are compared. -/
import Derived.Test.YtjefoecnciepmaaDoorZTw
import Derived.Test.YtjefoecnciepmaaDoorZIi
import Derived.ChangeKeysEq
set_option linter.unusedSimpArgs false
set_option linter.unusedVariables false
namespace Go.Proofs.YtjefoecnciepmaaDoor
open Go.Fw Go.RowKit
instance : TCmp Tryd.prog 42 Comp := ⟨by kernel_rfl, fun x y w => by
  rw [show (10000 : Nat) = 9999 + 1 from rfl, run_equalIn_agg w 9999 _ _ _ (by kernel_rfl) (by kernel_rfl)]
  have ha8 : ∀ w, (isAgg 5).run Tryd.prog w = .ok false w := fun w => by kernel_rfl
  have ha4 : ∀ w, (isAgg 40).run Tryd.prog w = .ok true w := fun w => by kernel_rfl
  have hs4 : ∀ w, (sizeOf 40).run Tryd.prog w = .ok 4 w := fun w => by kernel_rfl
  have hu : Tryd.prog.underlying 40 = some (.array 4 3) := by kernel_rfl
  obtain ⟨i, hi⟩ : ∃ i, Tryd.prog.info? 3 = some i := Option.isSome_iff_exists.1 (by kernel_rfl)
  have hc : Tryd.prog.cellsOf 3 = 1 := by kernel_rfl
  have ha : ∀ w, (isAgg 3).run Tryd.prog w = .ok false w := fun w => by kernel_rfl
  have hr : List.range 4 = [0, 1, 2, 3] := rfl
  have key : ∀ a0 a1 a2 a3 b0 b1 b2 b3 w, (Op.equalIn 9999 40 (.agg #[.int .i64 a0, .int .i64 a1, .int .i64 a2, .int .i64 a3]) (.agg #[.int .i64 b0, .int .i64 b1, .int .i64 b2, .int .i64 b3])).run Tryd.prog w = .ok (decide (a0 = b0 ∧ a1 = b1 ∧ a2 = b2 ∧ a3 = b3)) w := fun a0 a1 a2 a3 b0 b1 b2 b3 w => by
    rw [show (9999 : Nat) = 9998 + 1 from rfl, run_equalIn_array w 9998 _ _ hu hi, hc]
    rw [hr]
    simp only [Op.eqItems, part, ha, Sem.run_bind, Result.andThen_ok]
    by_cases h0 : a0 = b0
    case neg => simp [ha, run_equalIn_int w 9997 _ .i64 .i64 _ _ Tryd.underlying3, h0]
    by_cases h1 : a1 = b1
    case neg => simp [ha, run_equalIn_int w 9997 _ .i64 .i64 _ _ Tryd.underlying3, h1]
    by_cases h2 : a2 = b2
    case neg => simp [ha, run_equalIn_int w 9997 _ .i64 .i64 _ _ Tryd.underlying3, h2]
    by_cases h3 : a3 = b3
    case neg => simp [ha, run_equalIn_int w 9997 _ .i64 .i64 _ _ Tryd.underlying3, h3]
    simp [ha, run_equalIn_int w 9997 _ .i64 .i64 _ _ Tryd.underlying3, h0, h1, h2, h3]
  obtain ⟨a0, a1, a2, a3, a4⟩ := x
  obtain ⟨b0, b1, b2, b3, b4⟩ := y
  simp only [Program.fieldsOf, Tryd.underlying42, Op.eqFields, part, ha8, ha4, hs4, Sem.run_bind, Result.andThen_ok]
  by_cases h0 : a0 = b0
  case neg => simp [Flat.enc, ha8, run_equalIn_int w 9998 _ .u8 .u8 _ _ Tryd.underlying5, h0]
  simp [Flat.enc, ha8, run_equalIn_int w 9998 _ .u8 .u8 _ _ Tryd.underlying5, h0, key]
  by_cases h1 : a1 = b1 <;> by_cases h2 : a2 = b2 <;> by_cases h3 : a3 = b3 <;> by_cases h4 : a4 = b4 <;> simp [h1, h2, h3, h4]⟩
end Go.Proofs.YtjefoecnciepmaaDoor
