/- The types of parties (printed by gen_tp36.py). -/
import Derived.Test.YtlfbcoohfnoacaaZTz
import Derived.Test.YtlfbcoohfnoacaaZUo
import Derived.Test.YtlfbcoohfnoacaaZVn
set_option linter.unusedSimpArgs false
set_option linter.unusedVariables false
namespace Go.Proofs.Ytlfbcoohfnoacaa
open Go.Fw Go.RowKit
instance : TMap Try.prog 61 := ⟨⟨3, 3, by kernel_rfl, by kernel_rfl, fun w => by kernel_rfl⟩⟩
instance : TOne Try.prog 61 (.map none) := ⟨fun w => by kernel_rfl, fun w => by kernel_rfl, fun w => by kernel_rfl, rfl⟩
instance : TOne Try.prog 76 .nilFunc := ⟨fun w => by kernel_rfl, fun w => by kernel_rfl, fun w => by kernel_rfl, rfl⟩
instance : TOne Try.prog 72 .nilFunc := ⟨fun w => by kernel_rfl, fun w => by kernel_rfl, fun w => by kernel_rfl, rfl⟩
instance : TOne Try.prog 74 .nilFunc := ⟨fun w => by kernel_rfl, fun w => by kernel_rfl, fun w => by kernel_rfl, rfl⟩
instance : TOne Try.prog 97 .nilFunc := ⟨fun w => by kernel_rfl, fun w => by kernel_rfl, fun w => by kernel_rfl, rfl⟩
instance : TOne Try.prog 78 .nilFunc := ⟨fun w => by kernel_rfl, fun w => by kernel_rfl, fun w => by kernel_rfl, rfl⟩
instance : TAgg Try.prog 44 2 [.int .i64 0, .int .i64 0] := ⟨fun w => by kernel_rfl, fun w => by kernel_rfl, fun w => by kernel_rfl⟩
instance : TSt Try.prog 44 2 [.int .i64 0, .int .i64 0] := tst_of Try.underlying44 (fun w => by kernel_rfl) (fun w => by kernel_rfl) rfl
instance : TFld Try.prog 44 0 0 := tfld_of 0 Try.underlying44 rfl rfl (fun w => by kernel_rfl)
instance : TFlv Try.prog 44 0 0 := tflv_of Try.underlying44 rfl rfl (fun w => by kernel_rfl)
instance : TFld Try.prog 44 1 1 := tfld_of 0 Try.underlying44 rfl rfl (fun w => by kernel_rfl)
instance : TFlv Try.prog 44 1 1 := tflv_of Try.underlying44 rfl rfl (fun w => by kernel_rfl)
instance : TSl Try.prog 35 44 2 16 := ⟨by kernel_rfl, by kernel_rfl⟩
instance : TEl Try.prog 44 2 16 := tel_of (z := .agg #[.int .i64 0, .int .i64 0]) (by kernel_rfl) rfl (by omega)
instance : TOne Try.prog 35 (.slice none 0 0) := ⟨fun w => by kernel_rfl, fun w => by kernel_rfl, fun w => by kernel_rfl, rfl⟩
instance : TAgg Try.prog 37 4 [.int .i64 0, .int .i64 0, .slice none 0 0, .slice none 0 0] := ⟨fun w => by kernel_rfl, fun w => by kernel_rfl, fun w => by kernel_rfl⟩
instance : TSt Try.prog 37 4 [.int .i64 0, .int .i64 0, .slice none 0 0, .slice none 0 0] := tst_of Try.underlying37 (fun w => by kernel_rfl) (fun w => by kernel_rfl) rfl
instance : TFld Try.prog 37 0 0 := tfld_of 0 Try.underlying37 rfl rfl (fun w => by kernel_rfl)
instance : TFlv Try.prog 37 0 0 := tflv_of Try.underlying37 rfl rfl (fun w => by kernel_rfl)
instance : TFld Try.prog 37 1 1 := tfld_of 0 Try.underlying37 rfl rfl (fun w => by kernel_rfl)
instance : TFlv Try.prog 37 1 1 := tflv_of Try.underlying37 rfl rfl (fun w => by kernel_rfl)
instance : TFld Try.prog 37 2 2 := tfld_of 0 Try.underlying37 rfl rfl (fun w => by kernel_rfl)
instance : TFlv Try.prog 37 2 2 := tflv_of Try.underlying37 rfl rfl (fun w => by kernel_rfl)
instance : TFld Try.prog 37 3 3 := tfld_of 0 Try.underlying37 rfl rfl (fun w => by kernel_rfl)
instance : TFlv Try.prog 37 3 3 := tflv_of Try.underlying37 rfl rfl (fun w => by kernel_rfl)
instance : TSl Try.prog 22 37 4 64 := ⟨by kernel_rfl, by kernel_rfl⟩
instance : TEl Try.prog 37 4 64 := tel_of (z := .agg #[.int .i64 0, .int .i64 0, .slice none 0 0, .slice none 0 0]) (by kernel_rfl) rfl (by omega)
instance : TOne Try.prog 22 (.slice none 0 0) := ⟨fun w => by kernel_rfl, fun w => by kernel_rfl, fun w => by kernel_rfl, rfl⟩
instance : TAgg Try.prog 24 3 [.int .i64 0, .int .i64 0, .slice none 0 0] := ⟨fun w => by kernel_rfl, fun w => by kernel_rfl, fun w => by kernel_rfl⟩
instance : TSt Try.prog 24 3 [.int .i64 0, .int .i64 0, .slice none 0 0] := tst_of Try.underlying24 (fun w => by kernel_rfl) (fun w => by kernel_rfl) rfl
instance : TFld Try.prog 24 0 0 := tfld_of 0 Try.underlying24 rfl rfl (fun w => by kernel_rfl)
instance : TFlv Try.prog 24 0 0 := tflv_of Try.underlying24 rfl rfl (fun w => by kernel_rfl)
instance : TFld Try.prog 24 1 1 := tfld_of 0 Try.underlying24 rfl rfl (fun w => by kernel_rfl)
instance : TFlv Try.prog 24 1 1 := tflv_of Try.underlying24 rfl rfl (fun w => by kernel_rfl)
instance : TFld Try.prog 24 2 2 := tfld_of 0 Try.underlying24 rfl rfl (fun w => by kernel_rfl)
instance : TFlv Try.prog 24 2 2 := tflv_of Try.underlying24 rfl rfl (fun w => by kernel_rfl)
instance : TAgg Try.prog 105 2 [.int .i64 0, .int .i64 0] := ⟨fun w => by kernel_rfl, fun w => by kernel_rfl, fun w => by kernel_rfl⟩
instance : TSt Try.prog 105 2 [.int .i64 0, .int .i64 0] := tst_of Try.underlying105 (fun w => by kernel_rfl) (fun w => by kernel_rfl) rfl
instance : TFld Try.prog 105 0 0 := tfld_of 0 Try.underlying105 rfl rfl (fun w => by kernel_rfl)
instance : TFlv Try.prog 105 0 0 := tflv_of Try.underlying105 rfl rfl (fun w => by kernel_rfl)
instance : TFld Try.prog 105 1 1 := tfld_of 0 Try.underlying105 rfl rfl (fun w => by kernel_rfl)
instance : TFlv Try.prog 105 1 1 := tflv_of Try.underlying105 rfl rfl (fun w => by kernel_rfl)
instance : TSl Try.prog 81 105 2 16 := ⟨by kernel_rfl, by kernel_rfl⟩
instance : TEl Try.prog 105 2 16 := tel_of (z := .agg #[.int .i64 0, .int .i64 0]) (by kernel_rfl) rfl (by omega)
instance : TOne Try.prog 81 (.slice none 0 0) := ⟨fun w => by kernel_rfl, fun w => by kernel_rfl, fun w => by kernel_rfl, rfl⟩
instance : TAgg Try.prog 83 4 [.int .i64 0, .int .i64 0, .slice none 0 0, .slice none 0 0] := ⟨fun w => by kernel_rfl, fun w => by kernel_rfl, fun w => by kernel_rfl⟩
instance : TSt Try.prog 83 4 [.int .i64 0, .int .i64 0, .slice none 0 0, .slice none 0 0] := tst_of Try.underlying83 (fun w => by kernel_rfl) (fun w => by kernel_rfl) rfl
instance : TFld Try.prog 83 0 0 := tfld_of 0 Try.underlying83 rfl rfl (fun w => by kernel_rfl)
instance : TFlv Try.prog 83 0 0 := tflv_of Try.underlying83 rfl rfl (fun w => by kernel_rfl)
instance : TFld Try.prog 83 1 1 := tfld_of 0 Try.underlying83 rfl rfl (fun w => by kernel_rfl)
instance : TFlv Try.prog 83 1 1 := tflv_of Try.underlying83 rfl rfl (fun w => by kernel_rfl)
instance : TFld Try.prog 83 2 2 := tfld_of 0 Try.underlying83 rfl rfl (fun w => by kernel_rfl)
instance : TFlv Try.prog 83 2 2 := tflv_of Try.underlying83 rfl rfl (fun w => by kernel_rfl)
instance : TFld Try.prog 83 3 3 := tfld_of 0 Try.underlying83 rfl rfl (fun w => by kernel_rfl)
instance : TFlv Try.prog 83 3 3 := tflv_of Try.underlying83 rfl rfl (fun w => by kernel_rfl)
instance : TSl Try.prog 55 83 4 64 := ⟨by kernel_rfl, by kernel_rfl⟩
instance : TEl Try.prog 83 4 64 := tel_of (z := .agg #[.int .i64 0, .int .i64 0, .slice none 0 0, .slice none 0 0]) (by kernel_rfl) rfl (by omega)
instance : TOne Try.prog 55 (.slice none 0 0) := ⟨fun w => by kernel_rfl, fun w => by kernel_rfl, fun w => by kernel_rfl, rfl⟩
instance : TAgg Try.prog 57 3 [.int .i64 0, .int .i64 0, .slice none 0 0] := ⟨fun w => by kernel_rfl, fun w => by kernel_rfl, fun w => by kernel_rfl⟩
instance : TSt Try.prog 57 3 [.int .i64 0, .int .i64 0, .slice none 0 0] := tst_of Try.underlying57 (fun w => by kernel_rfl) (fun w => by kernel_rfl) rfl
instance : TFld Try.prog 57 0 0 := tfld_of 0 Try.underlying57 rfl rfl (fun w => by kernel_rfl)
instance : TFlv Try.prog 57 0 0 := tflv_of Try.underlying57 rfl rfl (fun w => by kernel_rfl)
instance : TFld Try.prog 57 1 1 := tfld_of 0 Try.underlying57 rfl rfl (fun w => by kernel_rfl)
instance : TFlv Try.prog 57 1 1 := tflv_of Try.underlying57 rfl rfl (fun w => by kernel_rfl)
instance : TFld Try.prog 57 2 2 := tfld_of 0 Try.underlying57 rfl rfl (fun w => by kernel_rfl)
instance : TFlv Try.prog 57 2 2 := tflv_of Try.underlying57 rfl rfl (fun w => by kernel_rfl)
instance : TAgg Try.prog 32 3 [.int .i64 0, .int .i64 0, .int .i64 0] := ⟨fun w => by kernel_rfl, fun w => by kernel_rfl, fun w => by kernel_rfl⟩
instance : TSt Try.prog 32 3 [.int .i64 0, .int .i64 0, .int .i64 0] := tst_of Try.underlying32 (fun w => by kernel_rfl) (fun w => by kernel_rfl) rfl
instance : TFld Try.prog 32 0 0 := tfld_of 0 Try.underlying32 rfl rfl (fun w => by kernel_rfl)
instance : TFlv Try.prog 32 0 0 := tflv_of Try.underlying32 rfl rfl (fun w => by kernel_rfl)
instance : TFld Try.prog 32 1 1 := tfld_of 0 Try.underlying32 rfl rfl (fun w => by kernel_rfl)
instance : TFlv Try.prog 32 1 1 := tflv_of Try.underlying32 rfl rfl (fun w => by kernel_rfl)
instance : TFld Try.prog 32 2 2 := tfld_of 0 Try.underlying32 rfl rfl (fun w => by kernel_rfl)
instance : TFlv Try.prog 32 2 2 := tflv_of Try.underlying32 rfl rfl (fun w => by kernel_rfl)
instance : TSl Try.prog 25 32 3 24 := ⟨by kernel_rfl, by kernel_rfl⟩
instance : TEl Try.prog 32 3 24 := tel_of (z := .agg #[.int .i64 0, .int .i64 0, .int .i64 0]) (by kernel_rfl) rfl (by omega)
instance : TOne Try.prog 25 (.slice none 0 0) := ⟨fun w => by kernel_rfl, fun w => by kernel_rfl, fun w => by kernel_rfl, rfl⟩
instance : TCmp Try.prog 44 Inv := ⟨by kernel_rfl, fun x y w => by
  rw [show (10000 : Nat) = 9999 + 1 from rfl, run_equalIn_agg w 9999 _ _ _ (by kernel_rfl) (by kernel_rfl)]
  have ha : ∀ w, (isAgg 3).run Try.prog w = .ok false w := fun w => by kernel_rfl
  simp only [Program.fieldsOf, Try.underlying44, Op.eqFields, part, ha, Sem.run_bind, Result.andThen_ok]
  obtain ⟨a0, a1⟩ := x
  obtain ⟨b0, b1⟩ := y
  by_cases h0 : a0 = b0
  case neg => simp [Flat.enc, ha, run_equalIn_int w 9998 _ .i64 .i64 _ _ Try.underlying3, h0]
  by_cases h1 : a1 = b1
  case neg => simp [Flat.enc, ha, run_equalIn_int w 9998 _ .i64 .i64 _ _ Try.underlying3, h1]
  simp [Flat.enc, ha, run_equalIn_int w 9998 _ .i64 .i64 _ _ Try.underlying3, h0, h1]⟩
end Go.Proofs.Ytlfbcoohfnoacaa
