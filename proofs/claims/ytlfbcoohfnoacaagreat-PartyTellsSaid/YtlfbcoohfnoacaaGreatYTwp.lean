/- The types of parties (printed by gen_tp36.py). -/
import Derived.Test.YtlfbcoohfnoacaaGreatYTz
import Derived.Test.YtlfbcoohfnoacaaGreatYUo
import Derived.Test.YtlfbcoohfnoacaaGreatYVn
set_option linter.unusedSimpArgs false
set_option linter.unusedVariables false
namespace Go.Proofs.YtlfbcoohfnoacaaGreat
open Go.Fw Go.RowKit
instance : TMap Tryz.prog 58 := ⟨⟨3, 3, by kernel_rfl, by kernel_rfl, fun w => by kernel_rfl⟩⟩
instance : TOne Tryz.prog 58 (.map none) := ⟨fun w => by kernel_rfl, fun w => by kernel_rfl, fun w => by kernel_rfl, rfl⟩
instance : TOne Tryz.prog 92 .nilFunc := ⟨fun w => by kernel_rfl, fun w => by kernel_rfl, fun w => by kernel_rfl, rfl⟩
instance : TOne Tryz.prog 90 .nilFunc := ⟨fun w => by kernel_rfl, fun w => by kernel_rfl, fun w => by kernel_rfl, rfl⟩
instance : TOne Tryz.prog 86 .nilFunc := ⟨fun w => by kernel_rfl, fun w => by kernel_rfl, fun w => by kernel_rfl, rfl⟩
instance : TOne Tryz.prog 106 .nilFunc := ⟨fun w => by kernel_rfl, fun w => by kernel_rfl, fun w => by kernel_rfl, rfl⟩
instance : TOne Tryz.prog 94 .nilFunc := ⟨fun w => by kernel_rfl, fun w => by kernel_rfl, fun w => by kernel_rfl, rfl⟩
instance : TAgg Tryz.prog 61 2 [.int .i64 0, .int .i64 0] := ⟨fun w => by kernel_rfl, fun w => by kernel_rfl, fun w => by kernel_rfl⟩
instance : TSt Tryz.prog 61 2 [.int .i64 0, .int .i64 0] := tst_of Tryz.underlying61 (fun w => by kernel_rfl) (fun w => by kernel_rfl) rfl
instance : TFld Tryz.prog 61 0 0 := tfld_of 0 Tryz.underlying61 rfl rfl (fun w => by kernel_rfl)
instance : TFlv Tryz.prog 61 0 0 := tflv_of Tryz.underlying61 rfl rfl (fun w => by kernel_rfl)
instance : TFld Tryz.prog 61 1 1 := tfld_of 0 Tryz.underlying61 rfl rfl (fun w => by kernel_rfl)
instance : TFlv Tryz.prog 61 1 1 := tflv_of Tryz.underlying61 rfl rfl (fun w => by kernel_rfl)
instance : TSl Tryz.prog 44 61 2 16 := ⟨by kernel_rfl, by kernel_rfl⟩
instance : TEl Tryz.prog 61 2 16 := tel_of (z := .agg #[.int .i64 0, .int .i64 0]) (by kernel_rfl) rfl (by omega)
instance : TOne Tryz.prog 44 (.slice none 0 0) := ⟨fun w => by kernel_rfl, fun w => by kernel_rfl, fun w => by kernel_rfl, rfl⟩
instance : TAgg Tryz.prog 46 4 [.int .i64 0, .int .i64 0, .slice none 0 0, .slice none 0 0] := ⟨fun w => by kernel_rfl, fun w => by kernel_rfl, fun w => by kernel_rfl⟩
instance : TSt Tryz.prog 46 4 [.int .i64 0, .int .i64 0, .slice none 0 0, .slice none 0 0] := tst_of Tryz.underlying46 (fun w => by kernel_rfl) (fun w => by kernel_rfl) rfl
instance : TFld Tryz.prog 46 0 0 := tfld_of 0 Tryz.underlying46 rfl rfl (fun w => by kernel_rfl)
instance : TFlv Tryz.prog 46 0 0 := tflv_of Tryz.underlying46 rfl rfl (fun w => by kernel_rfl)
instance : TFld Tryz.prog 46 1 1 := tfld_of 0 Tryz.underlying46 rfl rfl (fun w => by kernel_rfl)
instance : TFlv Tryz.prog 46 1 1 := tflv_of Tryz.underlying46 rfl rfl (fun w => by kernel_rfl)
instance : TFld Tryz.prog 46 2 2 := tfld_of 0 Tryz.underlying46 rfl rfl (fun w => by kernel_rfl)
instance : TFlv Tryz.prog 46 2 2 := tflv_of Tryz.underlying46 rfl rfl (fun w => by kernel_rfl)
instance : TFld Tryz.prog 46 3 3 := tfld_of 0 Tryz.underlying46 rfl rfl (fun w => by kernel_rfl)
instance : TFlv Tryz.prog 46 3 3 := tflv_of Tryz.underlying46 rfl rfl (fun w => by kernel_rfl)
instance : TSl Tryz.prog 22 46 4 64 := ⟨by kernel_rfl, by kernel_rfl⟩
instance : TEl Tryz.prog 46 4 64 := tel_of (z := .agg #[.int .i64 0, .int .i64 0, .slice none 0 0, .slice none 0 0]) (by kernel_rfl) rfl (by omega)
instance : TOne Tryz.prog 22 (.slice none 0 0) := ⟨fun w => by kernel_rfl, fun w => by kernel_rfl, fun w => by kernel_rfl, rfl⟩
instance : TAgg Tryz.prog 24 3 [.int .i64 0, .int .i64 0, .slice none 0 0] := ⟨fun w => by kernel_rfl, fun w => by kernel_rfl, fun w => by kernel_rfl⟩
instance : TSt Tryz.prog 24 3 [.int .i64 0, .int .i64 0, .slice none 0 0] := tst_of Tryz.underlying24 (fun w => by kernel_rfl) (fun w => by kernel_rfl) rfl
instance : TFld Tryz.prog 24 0 0 := tfld_of 0 Tryz.underlying24 rfl rfl (fun w => by kernel_rfl)
instance : TFlv Tryz.prog 24 0 0 := tflv_of Tryz.underlying24 rfl rfl (fun w => by kernel_rfl)
instance : TFld Tryz.prog 24 1 1 := tfld_of 0 Tryz.underlying24 rfl rfl (fun w => by kernel_rfl)
instance : TFlv Tryz.prog 24 1 1 := tflv_of Tryz.underlying24 rfl rfl (fun w => by kernel_rfl)
instance : TFld Tryz.prog 24 2 2 := tfld_of 0 Tryz.underlying24 rfl rfl (fun w => by kernel_rfl)
instance : TFlv Tryz.prog 24 2 2 := tflv_of Tryz.underlying24 rfl rfl (fun w => by kernel_rfl)
instance : TAgg Tryz.prog 40 2 [.int .i64 0, .int .i64 0] := ⟨fun w => by kernel_rfl, fun w => by kernel_rfl, fun w => by kernel_rfl⟩
instance : TSt Tryz.prog 40 2 [.int .i64 0, .int .i64 0] := tst_of Tryz.underlying40 (fun w => by kernel_rfl) (fun w => by kernel_rfl) rfl
instance : TFld Tryz.prog 40 0 0 := tfld_of 0 Tryz.underlying40 rfl rfl (fun w => by kernel_rfl)
instance : TFlv Tryz.prog 40 0 0 := tflv_of Tryz.underlying40 rfl rfl (fun w => by kernel_rfl)
instance : TFld Tryz.prog 40 1 1 := tfld_of 0 Tryz.underlying40 rfl rfl (fun w => by kernel_rfl)
instance : TFlv Tryz.prog 40 1 1 := tflv_of Tryz.underlying40 rfl rfl (fun w => by kernel_rfl)
instance : TSl Tryz.prog 41 40 2 16 := ⟨by kernel_rfl, by kernel_rfl⟩
instance : TEl Tryz.prog 40 2 16 := tel_of (z := .agg #[.int .i64 0, .int .i64 0]) (by kernel_rfl) rfl (by omega)
instance : TOne Tryz.prog 41 (.slice none 0 0) := ⟨fun w => by kernel_rfl, fun w => by kernel_rfl, fun w => by kernel_rfl, rfl⟩
instance : TAgg Tryz.prog 43 4 [.int .i64 0, .int .i64 0, .slice none 0 0, .slice none 0 0] := ⟨fun w => by kernel_rfl, fun w => by kernel_rfl, fun w => by kernel_rfl⟩
instance : TSt Tryz.prog 43 4 [.int .i64 0, .int .i64 0, .slice none 0 0, .slice none 0 0] := tst_of Tryz.underlying43 (fun w => by kernel_rfl) (fun w => by kernel_rfl) rfl
instance : TFld Tryz.prog 43 0 0 := tfld_of 0 Tryz.underlying43 rfl rfl (fun w => by kernel_rfl)
instance : TFlv Tryz.prog 43 0 0 := tflv_of Tryz.underlying43 rfl rfl (fun w => by kernel_rfl)
instance : TFld Tryz.prog 43 1 1 := tfld_of 0 Tryz.underlying43 rfl rfl (fun w => by kernel_rfl)
instance : TFlv Tryz.prog 43 1 1 := tflv_of Tryz.underlying43 rfl rfl (fun w => by kernel_rfl)
instance : TFld Tryz.prog 43 2 2 := tfld_of 0 Tryz.underlying43 rfl rfl (fun w => by kernel_rfl)
instance : TFlv Tryz.prog 43 2 2 := tflv_of Tryz.underlying43 rfl rfl (fun w => by kernel_rfl)
instance : TFld Tryz.prog 43 3 3 := tfld_of 0 Tryz.underlying43 rfl rfl (fun w => by kernel_rfl)
instance : TFlv Tryz.prog 43 3 3 := tflv_of Tryz.underlying43 rfl rfl (fun w => by kernel_rfl)
instance : TSl Tryz.prog 28 43 4 64 := ⟨by kernel_rfl, by kernel_rfl⟩
instance : TEl Tryz.prog 43 4 64 := tel_of (z := .agg #[.int .i64 0, .int .i64 0, .slice none 0 0, .slice none 0 0]) (by kernel_rfl) rfl (by omega)
instance : TOne Tryz.prog 28 (.slice none 0 0) := ⟨fun w => by kernel_rfl, fun w => by kernel_rfl, fun w => by kernel_rfl, rfl⟩
instance : TAgg Tryz.prog 30 3 [.int .i64 0, .int .i64 0, .slice none 0 0] := ⟨fun w => by kernel_rfl, fun w => by kernel_rfl, fun w => by kernel_rfl⟩
instance : TSt Tryz.prog 30 3 [.int .i64 0, .int .i64 0, .slice none 0 0] := tst_of Tryz.underlying30 (fun w => by kernel_rfl) (fun w => by kernel_rfl) rfl
instance : TFld Tryz.prog 30 0 0 := tfld_of 0 Tryz.underlying30 rfl rfl (fun w => by kernel_rfl)
instance : TFlv Tryz.prog 30 0 0 := tflv_of Tryz.underlying30 rfl rfl (fun w => by kernel_rfl)
instance : TFld Tryz.prog 30 1 1 := tfld_of 0 Tryz.underlying30 rfl rfl (fun w => by kernel_rfl)
instance : TFlv Tryz.prog 30 1 1 := tflv_of Tryz.underlying30 rfl rfl (fun w => by kernel_rfl)
instance : TFld Tryz.prog 30 2 2 := tfld_of 0 Tryz.underlying30 rfl rfl (fun w => by kernel_rfl)
instance : TFlv Tryz.prog 30 2 2 := tflv_of Tryz.underlying30 rfl rfl (fun w => by kernel_rfl)
instance : TAgg Tryz.prog 36 3 [.int .i64 0, .int .i64 0, .int .i64 0] := ⟨fun w => by kernel_rfl, fun w => by kernel_rfl, fun w => by kernel_rfl⟩
instance : TSt Tryz.prog 36 3 [.int .i64 0, .int .i64 0, .int .i64 0] := tst_of Tryz.underlying36 (fun w => by kernel_rfl) (fun w => by kernel_rfl) rfl
instance : TFld Tryz.prog 36 0 0 := tfld_of 0 Tryz.underlying36 rfl rfl (fun w => by kernel_rfl)
instance : TFlv Tryz.prog 36 0 0 := tflv_of Tryz.underlying36 rfl rfl (fun w => by kernel_rfl)
instance : TFld Tryz.prog 36 1 1 := tfld_of 0 Tryz.underlying36 rfl rfl (fun w => by kernel_rfl)
instance : TFlv Tryz.prog 36 1 1 := tflv_of Tryz.underlying36 rfl rfl (fun w => by kernel_rfl)
instance : TFld Tryz.prog 36 2 2 := tfld_of 0 Tryz.underlying36 rfl rfl (fun w => by kernel_rfl)
instance : TFlv Tryz.prog 36 2 2 := tflv_of Tryz.underlying36 rfl rfl (fun w => by kernel_rfl)
instance : TSl Tryz.prog 25 36 3 24 := ⟨by kernel_rfl, by kernel_rfl⟩
instance : TEl Tryz.prog 36 3 24 := tel_of (z := .agg #[.int .i64 0, .int .i64 0, .int .i64 0]) (by kernel_rfl) rfl (by omega)
instance : TOne Tryz.prog 25 (.slice none 0 0) := ⟨fun w => by kernel_rfl, fun w => by kernel_rfl, fun w => by kernel_rfl, rfl⟩
instance : TCmp Tryz.prog 61 Inv := ⟨by kernel_rfl, fun x y w => by
  rw [show (10000 : Nat) = 9999 + 1 from rfl, run_equalIn_agg w 9999 _ _ _ (by kernel_rfl) (by kernel_rfl)]
  have ha : ∀ w, (isAgg 3).run Tryz.prog w = .ok false w := fun w => by kernel_rfl
  simp only [Program.fieldsOf, Tryz.underlying61, Op.eqFields, part, ha, Sem.run_bind, Result.andThen_ok]
  obtain ⟨a0, a1⟩ := x
  obtain ⟨b0, b1⟩ := y
  by_cases h0 : a0 = b0
  case neg => simp [Flat.enc, ha, run_equalIn_int w 9998 _ .i64 .i64 _ _ Tryz.underlying3, h0]
  by_cases h1 : a1 = b1
  case neg => simp [Flat.enc, ha, run_equalIn_int w 9998 _ .i64 .i64 _ _ Tryz.underlying3, h1]
  simp [Flat.enc, ha, run_equalIn_int w 9998 _ .i64 .i64 _ _ Tryz.underlying3, h0, h1]⟩
end Go.Proofs.YtlfbcoohfnoacaaGreat
