/- The types of worlds (printed by gen_tw.py). -/
import Derived.Test.YtfodpcpclmnbkaaDoorZTz
import Derived.Test.YtfodpcpclmnbkaaDoorZWo
import Derived.Test.YtfodpcpclmnbkaaDoorZVn
set_option linter.unusedSimpArgs false
set_option linter.unusedVariables false
namespace Go.Proofs.YtfodpcpclmnbkaaDoor
open Go.Fw Go.RowKit
instance : TAgg Tryd.prog 42 5 [.int .u8 0, .int .i64 0, .int .i64 0, .int .i64 0, .int .i64 0] := ⟨fun w => by kernel_rfl, fun w => by kernel_rfl, fun w => by kernel_rfl⟩
instance : TStN Tryd.prog 42 [(0, 1), (1, 4)] [.int .u8 0, .int .i64 0, .int .i64 0, .int .i64 0, .int .i64 0] := ⟨⟨_, Tryd.underlying42, fun w => by kernel_rfl⟩, fun w => by kernel_rfl⟩
instance : TFld Tryd.prog 42 0 0 := tfld_of 0 Tryd.underlying42 rfl rfl (fun w => by kernel_rfl)
instance : TFld Tryd.prog 42 1 1 := tfld_of 3 Tryd.underlying42 rfl rfl (fun w => by kernel_rfl)
instance : TSl Tryd.prog 30 42 5 40 := ⟨by kernel_rfl, by kernel_rfl⟩
instance : TEl Tryd.prog 42 5 40 := tel_of (z := .agg #[.int .u8 0, .int .i64 0, .int .i64 0, .int .i64 0, .int .i64 0]) (by kernel_rfl) rfl (by omega)
instance : TOne Tryd.prog 30 (.slice none 0 0) := ⟨fun w => by kernel_rfl, fun w => by kernel_rfl, fun w => by kernel_rfl, rfl⟩
instance : TAgg Tryd.prog 32 2 [.int .i64 0, .slice none 0 0] := ⟨fun w => by kernel_rfl, fun w => by kernel_rfl, fun w => by kernel_rfl⟩
instance : TSt Tryd.prog 32 2 [.int .i64 0, .slice none 0 0] := tst_of Tryd.underlying32 (fun w => by kernel_rfl) (fun w => by kernel_rfl) rfl
instance : TFld Tryd.prog 32 0 0 := tfld_of 0 Tryd.underlying32 rfl rfl (fun w => by kernel_rfl)
instance : TFlv Tryd.prog 32 0 0 := tflv_of Tryd.underlying32 rfl rfl (fun w => by kernel_rfl)
instance : TFld Tryd.prog 32 1 1 := tfld_of 0 Tryd.underlying32 rfl rfl (fun w => by kernel_rfl)
instance : TFlv Tryd.prog 32 1 1 := tflv_of Tryd.underlying32 rfl rfl (fun w => by kernel_rfl)
instance : TSl Tryd.prog 23 32 2 32 := ⟨by kernel_rfl, by kernel_rfl⟩
instance : TEl Tryd.prog 32 2 32 := tel_of (z := .agg #[.int .i64 0, .slice none 0 0]) (by kernel_rfl) rfl (by omega)
instance : TOne Tryd.prog 23 (.slice none 0 0) := ⟨fun w => by kernel_rfl, fun w => by kernel_rfl, fun w => by kernel_rfl, rfl⟩
instance : TAgg Tryd.prog 25 2 [.int .i64 0, .slice none 0 0] := ⟨fun w => by kernel_rfl, fun w => by kernel_rfl, fun w => by kernel_rfl⟩
instance : TSt Tryd.prog 25 2 [.int .i64 0, .slice none 0 0] := tst_of Tryd.underlying25 (fun w => by kernel_rfl) (fun w => by kernel_rfl) rfl
instance : TFld Tryd.prog 25 0 0 := tfld_of 0 Tryd.underlying25 rfl rfl (fun w => by kernel_rfl)
instance : TFlv Tryd.prog 25 0 0 := tflv_of Tryd.underlying25 rfl rfl (fun w => by kernel_rfl)
instance : TFld Tryd.prog 25 1 1 := tfld_of 0 Tryd.underlying25 rfl rfl (fun w => by kernel_rfl)
instance : TFlv Tryd.prog 25 1 1 := tflv_of Tryd.underlying25 rfl rfl (fun w => by kernel_rfl)
instance : TAgg Tryd.prog 89 2 [.int .i64 0, .int .i64 0] := ⟨fun w => by kernel_rfl, fun w => by kernel_rfl, fun w => by kernel_rfl⟩
instance : TSt Tryd.prog 89 2 [.int .i64 0, .int .i64 0] := tst_of Tryd.underlying89 (fun w => by kernel_rfl) (fun w => by kernel_rfl) rfl
instance : TFld Tryd.prog 89 0 0 := tfld_of 0 Tryd.underlying89 rfl rfl (fun w => by kernel_rfl)
instance : TFlv Tryd.prog 89 0 0 := tflv_of Tryd.underlying89 rfl rfl (fun w => by kernel_rfl)
instance : TFld Tryd.prog 89 1 1 := tfld_of 0 Tryd.underlying89 rfl rfl (fun w => by kernel_rfl)
instance : TFlv Tryd.prog 89 1 1 := tflv_of Tryd.underlying89 rfl rfl (fun w => by kernel_rfl)
instance : TArr Tryd.prog 40 4 3 1 := ⟨by kernel_rfl, by kernel_rfl, by omega⟩
instance : TAgg Tryd.prog 40 4 [.int .i64 0, .int .i64 0, .int .i64 0, .int .i64 0] := ⟨fun w => by kernel_rfl, fun w => by kernel_rfl, fun w => by kernel_rfl⟩
instance : TArB Tryd.prog 40 1 [.int .i64 0, .int .i64 0, .int .i64 0, .int .i64 0] := ⟨⟨4, 3, by kernel_rfl, fun w => by kernel_rfl⟩, fun w => by kernel_rfl⟩
instance : TArr Tryd.prog 91 11 90 8 := ⟨by kernel_rfl, by kernel_rfl, by omega⟩
instance : TAgg Tryd.prog 90 8 [.int .i64 0, .int .i64 0, .int .i64 0, .int .i64 0, .int .i64 0, .int .i64 0, .int .i64 0, .int .i64 0] := ⟨fun w => by kernel_rfl, fun w => by kernel_rfl, fun w => by kernel_rfl⟩
instance : TIdx Tryd.prog 90 4 2 true := ⟨89, by kernel_rfl, fun w => by kernel_rfl, fun w => by kernel_rfl⟩
end Go.Proofs.YtfodpcpclmnbkaaDoor
