/- The types of the auction's seat. -/
import Derived.Test.YtehjdbgijibmcaaZTz
import Derived.Test.YtehjdbgijibmcaaZAm
set_option linter.unusedSimpArgs false
set_option linter.unusedVariables false
namespace Go.Proofs.Ytehjdbgijibmcaa
open Go.Fw Go.RowKit
instance : TSl Try.prog 24 38 9 72 := ⟨by kernel_rfl, by kernel_rfl⟩
instance : TEl Try.prog 38 9 72 := tel_of (z := .agg #[.int .i64 0, .int .i64 0, .int .i64 0, .int .i64 0, .int .i64 0, .int .i64 0, .int .i64 0, .int .i64 0, .int .i64 0]) (by kernel_rfl) rfl (by omega)
instance : TAgg Try.prog 38 9 [.int .i64 0, .int .i64 0, .int .i64 0, .int .i64 0, .int .i64 0, .int .i64 0, .int .i64 0, .int .i64 0, .int .i64 0] := ⟨fun w => by kernel_rfl, fun w => by kernel_rfl, fun w => by kernel_rfl⟩
instance : TSt Try.prog 38 9 [.int .i64 0, .int .i64 0, .int .i64 0, .int .i64 0, .int .i64 0, .int .i64 0, .int .i64 0, .int .i64 0, .int .i64 0] := tst_of Try.underlying38 (fun w => by kernel_rfl) (fun w => by kernel_rfl) rfl
instance : TOne Try.prog 24 (.slice none 0 0) := ⟨fun w => by kernel_rfl, fun w => by kernel_rfl, fun w => by kernel_rfl, rfl⟩
instance : TFld Try.prog 38 0 0 := tfld_of 0 Try.underlying38 rfl rfl (fun w => by kernel_rfl)
instance : TFlv Try.prog 38 0 0 := tflv_of Try.underlying38 rfl rfl (fun w => by kernel_rfl)
instance : TFld Try.prog 38 1 1 := tfld_of 0 Try.underlying38 rfl rfl (fun w => by kernel_rfl)
instance : TFlv Try.prog 38 1 1 := tflv_of Try.underlying38 rfl rfl (fun w => by kernel_rfl)
instance : TFld Try.prog 38 2 2 := tfld_of 0 Try.underlying38 rfl rfl (fun w => by kernel_rfl)
instance : TFlv Try.prog 38 2 2 := tflv_of Try.underlying38 rfl rfl (fun w => by kernel_rfl)
instance : TFld Try.prog 38 3 3 := tfld_of 0 Try.underlying38 rfl rfl (fun w => by kernel_rfl)
instance : TFlv Try.prog 38 3 3 := tflv_of Try.underlying38 rfl rfl (fun w => by kernel_rfl)
instance : TFld Try.prog 38 4 4 := tfld_of 0 Try.underlying38 rfl rfl (fun w => by kernel_rfl)
instance : TFlv Try.prog 38 4 4 := tflv_of Try.underlying38 rfl rfl (fun w => by kernel_rfl)
instance : TFld Try.prog 38 5 5 := tfld_of 0 Try.underlying38 rfl rfl (fun w => by kernel_rfl)
instance : TFlv Try.prog 38 5 5 := tflv_of Try.underlying38 rfl rfl (fun w => by kernel_rfl)
instance : TFld Try.prog 38 6 6 := tfld_of 0 Try.underlying38 rfl rfl (fun w => by kernel_rfl)
instance : TFlv Try.prog 38 6 6 := tflv_of Try.underlying38 rfl rfl (fun w => by kernel_rfl)
instance : TFld Try.prog 38 7 7 := tfld_of 0 Try.underlying38 rfl rfl (fun w => by kernel_rfl)
instance : TFlv Try.prog 38 7 7 := tflv_of Try.underlying38 rfl rfl (fun w => by kernel_rfl)
instance : TFld Try.prog 38 8 8 := tfld_of 0 Try.underlying38 rfl rfl (fun w => by kernel_rfl)
instance : TFlv Try.prog 38 8 8 := tflv_of Try.underlying38 rfl rfl (fun w => by kernel_rfl)

instance : TSl Try.prog 27 36 4 32 := ⟨by kernel_rfl, by kernel_rfl⟩
instance : TEl Try.prog 36 4 32 := tel_of (z := .agg #[.int .i64 0, .int .i64 0, .int .i64 0, .int .i64 0]) (by kernel_rfl) rfl (by omega)
instance : TAgg Try.prog 36 4 [.int .i64 0, .int .i64 0, .int .i64 0, .int .i64 0] := ⟨fun w => by kernel_rfl, fun w => by kernel_rfl, fun w => by kernel_rfl⟩
instance : TSt Try.prog 36 4 [.int .i64 0, .int .i64 0, .int .i64 0, .int .i64 0] := tst_of Try.underlying36 (fun w => by kernel_rfl) (fun w => by kernel_rfl) rfl
instance : TOne Try.prog 27 (.slice none 0 0) := ⟨fun w => by kernel_rfl, fun w => by kernel_rfl, fun w => by kernel_rfl, rfl⟩
instance : TFld Try.prog 36 0 0 := tfld_of 0 Try.underlying36 rfl rfl (fun w => by kernel_rfl)
instance : TFlv Try.prog 36 0 0 := tflv_of Try.underlying36 rfl rfl (fun w => by kernel_rfl)
instance : TFld Try.prog 36 1 1 := tfld_of 0 Try.underlying36 rfl rfl (fun w => by kernel_rfl)
instance : TFlv Try.prog 36 1 1 := tflv_of Try.underlying36 rfl rfl (fun w => by kernel_rfl)
instance : TFld Try.prog 36 2 2 := tfld_of 0 Try.underlying36 rfl rfl (fun w => by kernel_rfl)
instance : TFlv Try.prog 36 2 2 := tflv_of Try.underlying36 rfl rfl (fun w => by kernel_rfl)
instance : TFld Try.prog 36 3 3 := tfld_of 0 Try.underlying36 rfl rfl (fun w => by kernel_rfl)
instance : TFlv Try.prog 36 3 3 := tflv_of Try.underlying36 rfl rfl (fun w => by kernel_rfl)

instance : TAgg Try.prog 26 3 [.int .i64 0, .int .i64 0, .slice none 0 0] := ⟨fun w => by kernel_rfl, fun w => by kernel_rfl, fun w => by kernel_rfl⟩
instance : TSt Try.prog 26 3 [.int .i64 0, .int .i64 0, .slice none 0 0] := tst_of Try.underlying26 (fun w => by kernel_rfl) (fun w => by kernel_rfl) rfl
instance : TFld Try.prog 26 0 0 := tfld_of 0 Try.underlying26 rfl rfl (fun w => by kernel_rfl)
instance : TFlv Try.prog 26 0 0 := tflv_of Try.underlying26 rfl rfl (fun w => by kernel_rfl)
instance : TFld Try.prog 26 1 1 := tfld_of 0 Try.underlying26 rfl rfl (fun w => by kernel_rfl)
instance : TFlv Try.prog 26 1 1 := tflv_of Try.underlying26 rfl rfl (fun w => by kernel_rfl)
instance : TFld Try.prog 26 2 2 := tfld_of 0 Try.underlying26 rfl rfl (fun w => by kernel_rfl)
instance : TFlv Try.prog 26 2 2 := tflv_of Try.underlying26 rfl rfl (fun w => by kernel_rfl)

instance : TSl Try.prog 51 61 9 72 := ⟨by kernel_rfl, by kernel_rfl⟩
instance : TEl Try.prog 61 9 72 := tel_of (z := .agg #[.int .i64 0, .int .i64 0, .int .i64 0, .int .i64 0, .int .i64 0, .int .i64 0, .int .i64 0, .int .i64 0, .int .i64 0]) (by kernel_rfl) rfl (by omega)
instance : TAgg Try.prog 61 9 [.int .i64 0, .int .i64 0, .int .i64 0, .int .i64 0, .int .i64 0, .int .i64 0, .int .i64 0, .int .i64 0, .int .i64 0] := ⟨fun w => by kernel_rfl, fun w => by kernel_rfl, fun w => by kernel_rfl⟩
instance : TSt Try.prog 61 9 [.int .i64 0, .int .i64 0, .int .i64 0, .int .i64 0, .int .i64 0, .int .i64 0, .int .i64 0, .int .i64 0, .int .i64 0] := tst_of Try.underlying61 (fun w => by kernel_rfl) (fun w => by kernel_rfl) rfl
instance : TOne Try.prog 51 (.slice none 0 0) := ⟨fun w => by kernel_rfl, fun w => by kernel_rfl, fun w => by kernel_rfl, rfl⟩
instance : TFld Try.prog 61 0 0 := tfld_of 0 Try.underlying61 rfl rfl (fun w => by kernel_rfl)
instance : TFlv Try.prog 61 0 0 := tflv_of Try.underlying61 rfl rfl (fun w => by kernel_rfl)
instance : TFld Try.prog 61 1 1 := tfld_of 0 Try.underlying61 rfl rfl (fun w => by kernel_rfl)
instance : TFlv Try.prog 61 1 1 := tflv_of Try.underlying61 rfl rfl (fun w => by kernel_rfl)
instance : TFld Try.prog 61 2 2 := tfld_of 0 Try.underlying61 rfl rfl (fun w => by kernel_rfl)
instance : TFlv Try.prog 61 2 2 := tflv_of Try.underlying61 rfl rfl (fun w => by kernel_rfl)
instance : TFld Try.prog 61 3 3 := tfld_of 0 Try.underlying61 rfl rfl (fun w => by kernel_rfl)
instance : TFlv Try.prog 61 3 3 := tflv_of Try.underlying61 rfl rfl (fun w => by kernel_rfl)
instance : TFld Try.prog 61 4 4 := tfld_of 0 Try.underlying61 rfl rfl (fun w => by kernel_rfl)
instance : TFlv Try.prog 61 4 4 := tflv_of Try.underlying61 rfl rfl (fun w => by kernel_rfl)
instance : TFld Try.prog 61 5 5 := tfld_of 0 Try.underlying61 rfl rfl (fun w => by kernel_rfl)
instance : TFlv Try.prog 61 5 5 := tflv_of Try.underlying61 rfl rfl (fun w => by kernel_rfl)
instance : TFld Try.prog 61 6 6 := tfld_of 0 Try.underlying61 rfl rfl (fun w => by kernel_rfl)
instance : TFlv Try.prog 61 6 6 := tflv_of Try.underlying61 rfl rfl (fun w => by kernel_rfl)
instance : TFld Try.prog 61 7 7 := tfld_of 0 Try.underlying61 rfl rfl (fun w => by kernel_rfl)
instance : TFlv Try.prog 61 7 7 := tflv_of Try.underlying61 rfl rfl (fun w => by kernel_rfl)
instance : TFld Try.prog 61 8 8 := tfld_of 0 Try.underlying61 rfl rfl (fun w => by kernel_rfl)
instance : TFlv Try.prog 61 8 8 := tflv_of Try.underlying61 rfl rfl (fun w => by kernel_rfl)

instance : TSl Try.prog 95 100 4 32 := ⟨by kernel_rfl, by kernel_rfl⟩
instance : TEl Try.prog 100 4 32 := tel_of (z := .agg #[.int .i64 0, .int .i64 0, .int .i64 0, .int .i64 0]) (by kernel_rfl) rfl (by omega)
instance : TAgg Try.prog 100 4 [.int .i64 0, .int .i64 0, .int .i64 0, .int .i64 0] := ⟨fun w => by kernel_rfl, fun w => by kernel_rfl, fun w => by kernel_rfl⟩
instance : TSt Try.prog 100 4 [.int .i64 0, .int .i64 0, .int .i64 0, .int .i64 0] := tst_of Try.underlying100 (fun w => by kernel_rfl) (fun w => by kernel_rfl) rfl
instance : TOne Try.prog 95 (.slice none 0 0) := ⟨fun w => by kernel_rfl, fun w => by kernel_rfl, fun w => by kernel_rfl, rfl⟩
instance : TFld Try.prog 100 0 0 := tfld_of 0 Try.underlying100 rfl rfl (fun w => by kernel_rfl)
instance : TFlv Try.prog 100 0 0 := tflv_of Try.underlying100 rfl rfl (fun w => by kernel_rfl)
instance : TFld Try.prog 100 1 1 := tfld_of 0 Try.underlying100 rfl rfl (fun w => by kernel_rfl)
instance : TFlv Try.prog 100 1 1 := tflv_of Try.underlying100 rfl rfl (fun w => by kernel_rfl)
instance : TFld Try.prog 100 2 2 := tfld_of 0 Try.underlying100 rfl rfl (fun w => by kernel_rfl)
instance : TFlv Try.prog 100 2 2 := tflv_of Try.underlying100 rfl rfl (fun w => by kernel_rfl)
instance : TFld Try.prog 100 3 3 := tfld_of 0 Try.underlying100 rfl rfl (fun w => by kernel_rfl)
instance : TFlv Try.prog 100 3 3 := tflv_of Try.underlying100 rfl rfl (fun w => by kernel_rfl)

instance : TAgg Try.prog 53 3 [.int .i64 0, .int .i64 0, .slice none 0 0] := ⟨fun w => by kernel_rfl, fun w => by kernel_rfl, fun w => by kernel_rfl⟩
instance : TSt Try.prog 53 3 [.int .i64 0, .int .i64 0, .slice none 0 0] := tst_of Try.underlying53 (fun w => by kernel_rfl) (fun w => by kernel_rfl) rfl
instance : TFld Try.prog 53 0 0 := tfld_of 0 Try.underlying53 rfl rfl (fun w => by kernel_rfl)
instance : TFlv Try.prog 53 0 0 := tflv_of Try.underlying53 rfl rfl (fun w => by kernel_rfl)
instance : TFld Try.prog 53 1 1 := tfld_of 0 Try.underlying53 rfl rfl (fun w => by kernel_rfl)
instance : TFlv Try.prog 53 1 1 := tflv_of Try.underlying53 rfl rfl (fun w => by kernel_rfl)
instance : TFld Try.prog 53 2 2 := tfld_of 0 Try.underlying53 rfl rfl (fun w => by kernel_rfl)
instance : TFlv Try.prog 53 2 2 := tflv_of Try.underlying53 rfl rfl (fun w => by kernel_rfl)

instance : TSl Try.prog 50 59 6 48 := ⟨by kernel_rfl, by kernel_rfl⟩
instance : TAgg Try.prog 59 6 [.int .i64 0, .int .i64 0, .int .i64 0, .int .i64 0, .int .i64 0, .int .i64 0] := ⟨fun w => by kernel_rfl, fun w => by kernel_rfl, fun w => by kernel_rfl⟩
instance : TSt Try.prog 59 6 [.int .i64 0, .int .i64 0, .int .i64 0, .int .i64 0, .int .i64 0, .int .i64 0] := tst_of Try.underlying59 (fun w => by kernel_rfl) (fun w => by kernel_rfl) rfl
instance : TFld Try.prog 59 0 0 := tfld_of 0 Try.underlying59 rfl rfl (fun w => by kernel_rfl)
instance : TFlv Try.prog 59 0 0 := tflv_of Try.underlying59 rfl rfl (fun w => by kernel_rfl)
instance : TFld Try.prog 59 1 1 := tfld_of 0 Try.underlying59 rfl rfl (fun w => by kernel_rfl)
instance : TFlv Try.prog 59 1 1 := tflv_of Try.underlying59 rfl rfl (fun w => by kernel_rfl)
instance : TFld Try.prog 59 2 2 := tfld_of 0 Try.underlying59 rfl rfl (fun w => by kernel_rfl)
instance : TFlv Try.prog 59 2 2 := tflv_of Try.underlying59 rfl rfl (fun w => by kernel_rfl)
instance : TFld Try.prog 59 3 3 := tfld_of 0 Try.underlying59 rfl rfl (fun w => by kernel_rfl)
instance : TFlv Try.prog 59 3 3 := tflv_of Try.underlying59 rfl rfl (fun w => by kernel_rfl)
instance : TFld Try.prog 59 4 4 := tfld_of 0 Try.underlying59 rfl rfl (fun w => by kernel_rfl)
instance : TFlv Try.prog 59 4 4 := tflv_of Try.underlying59 rfl rfl (fun w => by kernel_rfl)
instance : TFld Try.prog 59 5 5 := tfld_of 0 Try.underlying59 rfl rfl (fun w => by kernel_rfl)
instance : TFlv Try.prog 59 5 5 := tflv_of Try.underlying59 rfl rfl (fun w => by kernel_rfl)

instance : TArr Try.prog 66 4 3 1 := ⟨by kernel_rfl, by kernel_rfl, by omega⟩
instance : TAgg Try.prog 66 4 [.int .i64 0, .int .i64 0, .int .i64 0, .int .i64 0] := ⟨fun w => by kernel_rfl, fun w => by kernel_rfl, fun w => by kernel_rfl⟩
instance : TCmp Try.prog 38 Lot := ⟨by kernel_rfl, fun x y w => by
  rw [show (10000 : Nat) = 9999 + 1 from rfl, run_equalIn_agg w 9999 _ _ _ (by kernel_rfl) (by kernel_rfl)]
  have ha : ∀ w, (isAgg 3).run Try.prog w = .ok false w := fun w => by kernel_rfl
  simp only [Program.fieldsOf, Try.underlying38, Op.eqFields, part, ha, Sem.run_bind, Result.andThen_ok]
  obtain ⟨a0, a1, a2, a3, a4, a5, a6, a7, a8⟩ := x
  obtain ⟨b0, b1, b2, b3, b4, b5, b6, b7, b8⟩ := y
  by_cases h0 : a0 = b0
  case neg => simp [Flat.enc, ha, run_equalIn_int w 9998 _ .i64 .i64 _ _ Try.underlying3, h0]
  by_cases h1 : a1 = b1
  case neg => simp [Flat.enc, ha, run_equalIn_int w 9998 _ .i64 .i64 _ _ Try.underlying3, h1]
  by_cases h2 : a2 = b2
  case neg => simp [Flat.enc, ha, run_equalIn_int w 9998 _ .i64 .i64 _ _ Try.underlying3, h2]
  by_cases h3 : a3 = b3
  case neg => simp [Flat.enc, ha, run_equalIn_int w 9998 _ .i64 .i64 _ _ Try.underlying3, h3]
  by_cases h4 : a4 = b4
  case neg => simp [Flat.enc, ha, run_equalIn_int w 9998 _ .i64 .i64 _ _ Try.underlying3, h4]
  by_cases h5 : a5 = b5
  case neg => simp [Flat.enc, ha, run_equalIn_int w 9998 _ .i64 .i64 _ _ Try.underlying3, h5]
  by_cases h6 : a6 = b6
  case neg => simp [Flat.enc, ha, run_equalIn_int w 9998 _ .i64 .i64 _ _ Try.underlying3, h6]
  by_cases h7 : a7 = b7
  case neg => simp [Flat.enc, ha, run_equalIn_int w 9998 _ .i64 .i64 _ _ Try.underlying3, h7]
  by_cases h8 : a8 = b8
  case neg => simp [Flat.enc, ha, run_equalIn_int w 9998 _ .i64 .i64 _ _ Try.underlying3, h8]
  simp [Flat.enc, ha, run_equalIn_int w 9998 _ .i64 .i64 _ _ Try.underlying3, h0, h1, h2, h3, h4, h5, h6, h7, h8]⟩
instance : TCmp Try.prog 36 Mv := ⟨by kernel_rfl, fun x y w => by
  rw [show (10000 : Nat) = 9999 + 1 from rfl, run_equalIn_agg w 9999 _ _ _ (by kernel_rfl) (by kernel_rfl)]
  have ha : ∀ w, (isAgg 3).run Try.prog w = .ok false w := fun w => by kernel_rfl
  simp only [Program.fieldsOf, Try.underlying36, Op.eqFields, part, ha, Sem.run_bind, Result.andThen_ok]
  obtain ⟨a0, a1, a2, a3⟩ := x
  obtain ⟨b0, b1, b2, b3⟩ := y
  by_cases h0 : a0 = b0
  case neg => simp [Flat.enc, ha, run_equalIn_int w 9998 _ .i64 .i64 _ _ Try.underlying3, h0]
  by_cases h1 : a1 = b1
  case neg => simp [Flat.enc, ha, run_equalIn_int w 9998 _ .i64 .i64 _ _ Try.underlying3, h1]
  by_cases h2 : a2 = b2
  case neg => simp [Flat.enc, ha, run_equalIn_int w 9998 _ .i64 .i64 _ _ Try.underlying3, h2]
  by_cases h3 : a3 = b3
  case neg => simp [Flat.enc, ha, run_equalIn_int w 9998 _ .i64 .i64 _ _ Try.underlying3, h3]
  simp [Flat.enc, ha, run_equalIn_int w 9998 _ .i64 .i64 _ _ Try.underlying3, h0, h1, h2, h3]⟩
end Go.Proofs.Ytehjdbgijibmcaa
