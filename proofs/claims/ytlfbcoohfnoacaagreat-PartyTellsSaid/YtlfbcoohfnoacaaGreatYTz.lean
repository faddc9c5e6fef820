/- The basic types of a seat's program, as the rules ask for them. -/
import Derived.Test.YtlfbcoohfnoacaaGreatYVa
import Derived.Test.YtlfbcoohfnoacaaGreatProg
import Derived.KernelRfl
set_option linter.unusedSimpArgs false
set_option linter.unusedVariables false
namespace Go.Proofs.YtlfbcoohfnoacaaGreat
open Go.Fw Go.RowKit
theorem hmix : Tryz.prog.follows .mixedOrders = true := by kernel_rfl
theorem tel_of {P : Program} {e : TypeId} {sz by_ : Nat} {z : Value} (h : (P.info? e).map (fun i => (i.size, i.bytes, i.zero)) = some (sz, by_, some z)) (hz : z.cells.size = sz) (hp : 0 < sz) : TEl P e sz by_ := by
  refine ⟨?_, hp⟩
  cases hi : P.info? e with
  | none => rw [hi] at h; simp at h
  | some i =>
    rw [hi] at h
    simp only [Option.map_some, Option.some.injEq, Prod.mk.injEq] at h
    exact ⟨i, z, rfl, h.1, h.2.1, h.2.2, hz⟩
instance : TSl Tryz.prog 38 3 1 8 := ⟨by kernel_rfl, by kernel_rfl⟩
instance : TEl Tryz.prog 3 1 8 := tel_of (z := .int .i64 0) (by kernel_rfl) rfl (by omega)
instance : TEl Tryz.prog 38 1 24 := tel_of (z := .slice none 0 0) (by kernel_rfl) rfl (by omega)
instance : TOne Tryz.prog 3 (.int .i64 0) := ⟨fun w => by kernel_rfl, fun w => by kernel_rfl, fun w => by kernel_rfl, rfl⟩
instance : TOne Tryz.prog 38 (.slice none 0 0) := ⟨fun w => by kernel_rfl, fun w => by kernel_rfl, fun w => by kernel_rfl, rfl⟩
instance : TOne Tryz.prog 5 (.int .u8 0) := ⟨fun w => by kernel_rfl, fun w => by kernel_rfl, fun w => by kernel_rfl, rfl⟩
instance : TInt Tryz.prog 3 .i64 := ⟨by kernel_rfl⟩
instance : TInt Tryz.prog 108 .u64 := ⟨by kernel_rfl⟩
instance : TInt Tryz.prog 5 .u8 := ⟨by kernel_rfl⟩
theorem tst_of {P : Program} {t : TypeId} {sz : Nat} {zs : List Value} {fs : Array Field} (hu : P.underlying t = some (.struct fs)) (hm : ∀ w, (fs.mapM fun (f : Field) => do pure (f.offset, ← sizeOf f.type)).run P w = .ok ((List.range sz).map fun i => (i, 1)).toArray w)
    (hz : ∀ w, (zeroValue t).run P w = .ok (.agg zs.toArray) w) (hl : zs.length = sz) : TSt P t sz zs := ⟨⟨fs, hu, hm⟩, hz, hl⟩
instance : TBool Tryz.prog 4 := ⟨by kernel_rfl⟩
instance : TInt Tryz.prog 128 .u32 := ⟨by kernel_rfl⟩
instance : TInt Tryz.prog 21 .i32 := ⟨by kernel_rfl⟩
instance : TInt Tryz.prog 47 .i64 := ⟨by kernel_rfl⟩
instance : TOne Tryz.prog 47 (.int .i64 0) := ⟨fun w => by kernel_rfl, fun w => by kernel_rfl, fun w => by kernel_rfl, rfl⟩
instance : TOne Tryz.prog 128 (.int .u32 0) := ⟨fun w => by kernel_rfl, fun w => by kernel_rfl, fun w => by kernel_rfl, rfl⟩
instance : TOne Tryz.prog 4 (.bool false) := ⟨fun w => by kernel_rfl, fun w => by kernel_rfl, fun w => by kernel_rfl, rfl⟩
theorem tfld_of {P : Program} {s : TypeId} {k off : Nat} {fs : Array Field} {fd : Field} (c : Nat) (hu : P.underlying s = some (.struct fs)) (hf : fs[k]? = some fd) (ho : fd.offset = off) (hs : ∀ w, (sizeOf fd.type).run P w = .ok (c + 1) w) : TFld P s k off :=
  ⟨fun a w => by simp [Instr.fieldAt, run_underlying hu, hf, ho, Instr.sureAddr, fieldPlace, hs]⟩
theorem tflv_of {P : Program} {s : TypeId} {k off : Nat} {fs : Array Field} {fd : Field} (hu : P.underlying s = some (.struct fs)) (hf : fs[k]? = some fd) (ho : fd.offset = off) (hs : ∀ w, (isAgg fd.type).run P w = .ok false w) : TFlv P s k off :=
  ⟨fun cs v w hv => by simp [Instr.field, run_underlying hu, hf, ho, asAgg, part, hs, hv]⟩
end Go.Proofs.YtlfbcoohfnoacaaGreat
