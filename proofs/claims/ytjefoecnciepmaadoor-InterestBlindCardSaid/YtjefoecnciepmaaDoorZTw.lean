/- The types of worlds (printed by gen_tw.py). -/
import Derived.Test.YtjefoecnciepmaaDoorZTz
import Derived.Test.YtjefoecnciepmaaDoorZWo
import Derived.Test.YtjefoecnciepmaaDoorZVn
set_option linter.unusedSimpArgs false
set_option linter.unusedVariables false
namespace Go.Proofs.YtjefoecnciepmaaDoor
open Go.Fw Go.RowKit
instance : TAgg Tryd.prog 42 5 [.int .u8 0, .int .i64 0, .int .i64 0, .int .i64 0, .int .i64 0] := ⟨fun w => by kernel_rfl, fun w => by kernel_rfl, fun w => by kernel_rfl⟩
instance : TStN Tryd.prog 42 [(0, 1), (1, 4)] [.int .u8 0, .int .i64 0, .int .i64 0, .int .i64 0, .int .i64 0] := ⟨⟨_, Tryd.underlying42, fun w => by kernel_rfl⟩, fun w => by kernel_rfl⟩
instance : TFld Tryd.prog 42 0 0 := tfld_of 0 Tryd.underlying42 rfl rfl (fun w => by kernel_rfl)
instance : TFld Tryd.prog 42 1 1 := tfld_of 3 Tryd.underlying42 rfl rfl (fun w => by kernel_rfl)
instance : TSl Tryd.prog 35 42 5 40 := ⟨by kernel_rfl, by kernel_rfl⟩
instance : TEl Tryd.prog 42 5 40 := tel_of (z := .agg #[.int .u8 0, .int .i64 0, .int .i64 0, .int .i64 0, .int .i64 0]) (by kernel_rfl) rfl (by omega)
instance : TOne Tryd.prog 35 (.slice none 0 0) := ⟨fun w => by kernel_rfl, fun w => by kernel_rfl, fun w => by kernel_rfl, rfl⟩
instance : TAgg Tryd.prog 37 2 [.int .i64 0, .slice none 0 0] := ⟨fun w => by kernel_rfl, fun w => by kernel_rfl, fun w => by kernel_rfl⟩
instance : TSt Tryd.prog 37 2 [.int .i64 0, .slice none 0 0] := tst_of Tryd.underlying37 (fun w => by kernel_rfl) (fun w => by kernel_rfl) rfl
instance : TFld Tryd.prog 37 0 0 := tfld_of 0 Tryd.underlying37 rfl rfl (fun w => by kernel_rfl)
instance : TFlv Tryd.prog 37 0 0 := tflv_of Tryd.underlying37 rfl rfl (fun w => by kernel_rfl)
instance : TFld Tryd.prog 37 1 1 := tfld_of 0 Tryd.underlying37 rfl rfl (fun w => by kernel_rfl)
instance : TFlv Tryd.prog 37 1 1 := tflv_of Tryd.underlying37 rfl rfl (fun w => by kernel_rfl)
instance : TSl Tryd.prog 24 37 2 32 := ⟨by kernel_rfl, by kernel_rfl⟩
instance : TEl Tryd.prog 37 2 32 := tel_of (z := .agg #[.int .i64 0, .slice none 0 0]) (by kernel_rfl) rfl (by omega)
instance : TOne Tryd.prog 24 (.slice none 0 0) := ⟨fun w => by kernel_rfl, fun w => by kernel_rfl, fun w => by kernel_rfl, rfl⟩
instance : TAgg Tryd.prog 26 2 [.int .i64 0, .slice none 0 0] := ⟨fun w => by kernel_rfl, fun w => by kernel_rfl, fun w => by kernel_rfl⟩
instance : TSt Tryd.prog 26 2 [.int .i64 0, .slice none 0 0] := tst_of Tryd.underlying26 (fun w => by kernel_rfl) (fun w => by kernel_rfl) rfl
instance : TFld Tryd.prog 26 0 0 := tfld_of 0 Tryd.underlying26 rfl rfl (fun w => by kernel_rfl)
instance : TFlv Tryd.prog 26 0 0 := tflv_of Tryd.underlying26 rfl rfl (fun w => by kernel_rfl)
instance : TFld Tryd.prog 26 1 1 := tfld_of 0 Tryd.underlying26 rfl rfl (fun w => by kernel_rfl)
instance : TFlv Tryd.prog 26 1 1 := tflv_of Tryd.underlying26 rfl rfl (fun w => by kernel_rfl)
instance : TAgg Tryd.prog 87 2 [.int .i64 0, .int .i64 0] := ⟨fun w => by kernel_rfl, fun w => by kernel_rfl, fun w => by kernel_rfl⟩
instance : TSt Tryd.prog 87 2 [.int .i64 0, .int .i64 0] := tst_of Tryd.underlying87 (fun w => by kernel_rfl) (fun w => by kernel_rfl) rfl
instance : TFld Tryd.prog 87 0 0 := tfld_of 0 Tryd.underlying87 rfl rfl (fun w => by kernel_rfl)
instance : TFlv Tryd.prog 87 0 0 := tflv_of Tryd.underlying87 rfl rfl (fun w => by kernel_rfl)
instance : TFld Tryd.prog 87 1 1 := tfld_of 0 Tryd.underlying87 rfl rfl (fun w => by kernel_rfl)
instance : TFlv Tryd.prog 87 1 1 := tflv_of Tryd.underlying87 rfl rfl (fun w => by kernel_rfl)
instance : TSl Tryd.prog 67 87 2 16 := ⟨by kernel_rfl, by kernel_rfl⟩
instance : TEl Tryd.prog 87 2 16 := tel_of (z := .agg #[.int .i64 0, .int .i64 0]) (by kernel_rfl) rfl (by omega)
instance : TOne Tryd.prog 67 (.slice none 0 0) := ⟨fun w => by kernel_rfl, fun w => by kernel_rfl, fun w => by kernel_rfl, rfl⟩
instance : TAgg Tryd.prog 69 2 [.int .i64 0, .slice none 0 0] := ⟨fun w => by kernel_rfl, fun w => by kernel_rfl, fun w => by kernel_rfl⟩
instance : TSt Tryd.prog 69 2 [.int .i64 0, .slice none 0 0] := tst_of Tryd.underlying69 (fun w => by kernel_rfl) (fun w => by kernel_rfl) rfl
instance : TFld Tryd.prog 69 0 0 := tfld_of 0 Tryd.underlying69 rfl rfl (fun w => by kernel_rfl)
instance : TFlv Tryd.prog 69 0 0 := tflv_of Tryd.underlying69 rfl rfl (fun w => by kernel_rfl)
instance : TFld Tryd.prog 69 1 1 := tfld_of 0 Tryd.underlying69 rfl rfl (fun w => by kernel_rfl)
instance : TFlv Tryd.prog 69 1 1 := tflv_of Tryd.underlying69 rfl rfl (fun w => by kernel_rfl)
instance : TAgg Tryd.prog 93 2 [.int .i64 0, .slice none 0 0] := ⟨fun w => by kernel_rfl, fun w => by kernel_rfl, fun w => by kernel_rfl⟩
instance : TSt Tryd.prog 93 2 [.int .i64 0, .slice none 0 0] := tst_of Tryd.underlying93 (fun w => by kernel_rfl) (fun w => by kernel_rfl) rfl
instance : TFld Tryd.prog 93 0 0 := tfld_of 0 Tryd.underlying93 rfl rfl (fun w => by kernel_rfl)
instance : TFlv Tryd.prog 93 0 0 := tflv_of Tryd.underlying93 rfl rfl (fun w => by kernel_rfl)
instance : TFld Tryd.prog 93 1 1 := tfld_of 0 Tryd.underlying93 rfl rfl (fun w => by kernel_rfl)
instance : TFlv Tryd.prog 93 1 1 := tflv_of Tryd.underlying93 rfl rfl (fun w => by kernel_rfl)
instance : TAgg Tryd.prog 110 2 [.int .u64 0, .int .u64 0] := ⟨fun w => by kernel_rfl, fun w => by kernel_rfl, fun w => by kernel_rfl⟩
instance : TSt Tryd.prog 110 2 [.int .u64 0, .int .u64 0] := tst_of Tryd.underlying110 (fun w => by kernel_rfl) (fun w => by kernel_rfl) rfl
instance : TFld Tryd.prog 110 0 0 := tfld_of 0 Tryd.underlying110 rfl rfl (fun w => by kernel_rfl)
instance : TFlv Tryd.prog 110 0 0 := tflv_of Tryd.underlying110 rfl rfl (fun w => by kernel_rfl)
instance : TFld Tryd.prog 110 1 1 := tfld_of 0 Tryd.underlying110 rfl rfl (fun w => by kernel_rfl)
instance : TFlv Tryd.prog 110 1 1 := tflv_of Tryd.underlying110 rfl rfl (fun w => by kernel_rfl)
instance : TAgg Tryd.prog 112 3 [.int .u64 0, .int .u64 0, .bool false] := ⟨fun w => by kernel_rfl, fun w => by kernel_rfl, fun w => by kernel_rfl⟩
instance : TStN Tryd.prog 112 [(0, 2), (2, 1)] [.int .u64 0, .int .u64 0, .bool false] := ⟨⟨_, Tryd.underlying112, fun w => by kernel_rfl⟩, fun w => by kernel_rfl⟩
instance : TFld Tryd.prog 112 0 0 := tfld_of 1 Tryd.underlying112 rfl rfl (fun w => by kernel_rfl)
instance : TFld Tryd.prog 112 1 2 := tfld_of 0 Tryd.underlying112 rfl rfl (fun w => by kernel_rfl)
instance : TAgg Tryd.prog 127 2 [.int .i64 0, .int .i64 0] := ⟨fun w => by kernel_rfl, fun w => by kernel_rfl, fun w => by kernel_rfl⟩
instance : TSt Tryd.prog 127 2 [.int .i64 0, .int .i64 0] := tst_of Tryd.underlying127 (fun w => by kernel_rfl) (fun w => by kernel_rfl) rfl
instance : TFld Tryd.prog 127 0 0 := tfld_of 0 Tryd.underlying127 rfl rfl (fun w => by kernel_rfl)
instance : TFlv Tryd.prog 127 0 0 := tflv_of Tryd.underlying127 rfl rfl (fun w => by kernel_rfl)
instance : TFld Tryd.prog 127 1 1 := tfld_of 0 Tryd.underlying127 rfl rfl (fun w => by kernel_rfl)
instance : TFlv Tryd.prog 127 1 1 := tflv_of Tryd.underlying127 rfl rfl (fun w => by kernel_rfl)
instance : TAgg Tryd.prog 49 6 [.int .u16 0, .int .i8 0, .int .i8 0, .int .u8 0, .int .u8 0, .int .u8 0] := ⟨fun w => by kernel_rfl, fun w => by kernel_rfl, fun w => by kernel_rfl⟩
instance : TSt Tryd.prog 49 6 [.int .u16 0, .int .i8 0, .int .i8 0, .int .u8 0, .int .u8 0, .int .u8 0] := tst_of Tryd.underlying49 (fun w => by kernel_rfl) (fun w => by kernel_rfl) rfl
instance : TFld Tryd.prog 49 0 0 := tfld_of 0 Tryd.underlying49 rfl rfl (fun w => by kernel_rfl)
instance : TFlv Tryd.prog 49 0 0 := tflv_of Tryd.underlying49 rfl rfl (fun w => by kernel_rfl)
instance : TFld Tryd.prog 49 1 1 := tfld_of 0 Tryd.underlying49 rfl rfl (fun w => by kernel_rfl)
instance : TFlv Tryd.prog 49 1 1 := tflv_of Tryd.underlying49 rfl rfl (fun w => by kernel_rfl)
instance : TFld Tryd.prog 49 2 2 := tfld_of 0 Tryd.underlying49 rfl rfl (fun w => by kernel_rfl)
instance : TFlv Tryd.prog 49 2 2 := tflv_of Tryd.underlying49 rfl rfl (fun w => by kernel_rfl)
instance : TFld Tryd.prog 49 3 3 := tfld_of 0 Tryd.underlying49 rfl rfl (fun w => by kernel_rfl)
instance : TFlv Tryd.prog 49 3 3 := tflv_of Tryd.underlying49 rfl rfl (fun w => by kernel_rfl)
instance : TFld Tryd.prog 49 4 4 := tfld_of 0 Tryd.underlying49 rfl rfl (fun w => by kernel_rfl)
instance : TFlv Tryd.prog 49 4 4 := tflv_of Tryd.underlying49 rfl rfl (fun w => by kernel_rfl)
instance : TFld Tryd.prog 49 5 5 := tfld_of 0 Tryd.underlying49 rfl rfl (fun w => by kernel_rfl)
instance : TFlv Tryd.prog 49 5 5 := tflv_of Tryd.underlying49 rfl rfl (fun w => by kernel_rfl)
instance : TSl Tryd.prog 22 49 6 8 := ⟨by kernel_rfl, by kernel_rfl⟩
instance : TArr Tryd.prog 40 4 3 1 := ⟨by kernel_rfl, by kernel_rfl, by omega⟩
instance : TAgg Tryd.prog 40 4 [.int .i64 0, .int .i64 0, .int .i64 0, .int .i64 0] := ⟨fun w => by kernel_rfl, fun w => by kernel_rfl, fun w => by kernel_rfl⟩
instance : TArB Tryd.prog 40 1 [.int .i64 0, .int .i64 0, .int .i64 0, .int .i64 0] := ⟨⟨4, 3, by kernel_rfl, fun w => by kernel_rfl⟩, fun w => by kernel_rfl⟩
instance : TInt Tryd.prog 108 .u64 := ⟨by kernel_rfl⟩
instance : TInt Tryd.prog 47 .i8 := ⟨by kernel_rfl⟩
instance : TOne Tryd.prog 108 (.int .u64 0) := ⟨fun w => by kernel_rfl, fun w => by kernel_rfl, fun w => by kernel_rfl, rfl⟩
instance : TOne Tryd.prog 47 (.int .i8 0) := ⟨fun w => by kernel_rfl, fun w => by kernel_rfl, fun w => by kernel_rfl, rfl⟩
instance : TArr Tryd.prog 129 11 128 8 := ⟨by kernel_rfl, by kernel_rfl, by omega⟩
instance : TAgg Tryd.prog 128 8 [.int .i64 0, .int .i64 0, .int .i64 0, .int .i64 0, .int .i64 0, .int .i64 0, .int .i64 0, .int .i64 0] := ⟨fun w => by kernel_rfl, fun w => by kernel_rfl, fun w => by kernel_rfl⟩
instance : TIdx Tryd.prog 128 4 2 true := ⟨127, by kernel_rfl, fun w => by kernel_rfl, fun w => by kernel_rfl⟩
instance : TArB Tryd.prog 80 5 [.int .u8 0, .int .i64 0, .int .i64 0, .int .i64 0, .int .i64 0, .int .u8 0, .int .i64 0, .int .i64 0, .int .i64 0, .int .i64 0, .int .u8 0, .int .i64 0, .int .i64 0, .int .i64 0, .int .i64 0, .int .u8 0, .int .i64 0, .int .i64 0, .int .i64 0, .int .i64 0, .int .u8 0, .int .i64 0, .int .i64 0, .int .i64 0, .int .i64 0, .int .u8 0, .int .i64 0, .int .i64 0, .int .i64 0, .int .i64 0, .int .u8 0, .int .i64 0, .int .i64 0, .int .i64 0, .int .i64 0, .int .u8 0, .int .i64 0, .int .i64 0, .int .i64 0, .int .i64 0, .int .u8 0, .int .i64 0, .int .i64 0, .int .i64 0, .int .i64 0, .int .u8 0, .int .i64 0, .int .i64 0, .int .i64 0, .int .i64 0] := ⟨⟨10, 42, by kernel_rfl, fun w => by kernel_rfl⟩, fun w => by kernel_rfl⟩
instance : TAgg Tryd.prog 80 50 [.int .u8 0, .int .i64 0, .int .i64 0, .int .i64 0, .int .i64 0, .int .u8 0, .int .i64 0, .int .i64 0, .int .i64 0, .int .i64 0, .int .u8 0, .int .i64 0, .int .i64 0, .int .i64 0, .int .i64 0, .int .u8 0, .int .i64 0, .int .i64 0, .int .i64 0, .int .i64 0, .int .u8 0, .int .i64 0, .int .i64 0, .int .i64 0, .int .i64 0, .int .u8 0, .int .i64 0, .int .i64 0, .int .i64 0, .int .i64 0, .int .u8 0, .int .i64 0, .int .i64 0, .int .i64 0, .int .i64 0, .int .u8 0, .int .i64 0, .int .i64 0, .int .i64 0, .int .i64 0, .int .u8 0, .int .i64 0, .int .i64 0, .int .i64 0, .int .i64 0, .int .u8 0, .int .i64 0, .int .i64 0, .int .i64 0, .int .i64 0] := ⟨fun w => by kernel_rfl, fun w => by kernel_rfl, fun w => by kernel_rfl⟩
instance : TIdx Tryd.prog 80 10 5 true := ⟨42, by kernel_rfl, fun w => by kernel_rfl, fun w => by kernel_rfl⟩
end Go.Proofs.YtjefoecnciepmaaDoor
