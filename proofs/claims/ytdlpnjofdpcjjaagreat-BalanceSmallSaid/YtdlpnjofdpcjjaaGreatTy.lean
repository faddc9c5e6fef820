/- The types of this seat's program, as the rules ask for them. -/
import Derived.Test.YtdlpnjofdpcjjaaGreatVq
import Derived.Test.YtdlpnjofdpcjjaaGreatProg
import Derived.KernelRfl
namespace Go.Proofs.YtdlpnjofdpcjjaaGreat
open Go.Fw Go.RowKit
theorem hmix : Tryz.prog.follows .mixedOrders = true := by kernel_rfl
theorem tel_of {P : Program} {e : TypeId} {sz by_ : Nat} {z : Value} (h : (P.info? e).map (fun i => (i.size, i.bytes, i.zero)) = some (sz, by_, some z)) (hz : z.cells.size = sz) (hp : 0 < sz) : TEl P e sz by_ := by
  refine ⟨?_, hp⟩
  cases hi : P.info? e with
  | none => rw [hi] at h; simp at h
  | some i =>
    rw [hi] at h
    simp only [Option.map_some, Option.some.injEq, Prod.mk.injEq] at h
    exact ⟨i, z, rfl, h.1, h.2.1, h.2.2, hz⟩
instance : TSl Tryz.prog 22 3 1 8 := ⟨by kernel_rfl, by kernel_rfl⟩
instance : TSl Tryz.prog 113 114 1 2 := ⟨by kernel_rfl, by kernel_rfl⟩
instance : TSl Tryz.prog 117 5 1 1 := ⟨by kernel_rfl, by kernel_rfl⟩
instance : TSl Tryz.prog 25 22 1 24 := ⟨by kernel_rfl, by kernel_rfl⟩
instance : TSl Tryz.prog 37 46 3 24 := ⟨by kernel_rfl, by kernel_rfl⟩
instance : TSl Tryz.prog 40 47 3 24 := ⟨by kernel_rfl, by kernel_rfl⟩
instance : TSl Tryz.prog 107 104 2 16 := ⟨by kernel_rfl, by kernel_rfl⟩
instance : TEl Tryz.prog 3 1 8 := tel_of (z := .int .i64 0) (by kernel_rfl) rfl (by omega)
instance : TEl Tryz.prog 22 1 24 := tel_of (z := .slice none 0 0) (by kernel_rfl) rfl (by omega)
instance : TEl Tryz.prog 46 3 24 := tel_of (z := .agg #[.int .i64 0, .int .i64 0, .int .i64 0]) (by kernel_rfl) rfl (by omega)
instance : TEl Tryz.prog 47 3 24 := tel_of (z := .agg #[.int .i64 0, .int .i64 0, .int .i64 0]) (by kernel_rfl) rfl (by omega)
instance : TEl Tryz.prog 104 2 16 := tel_of (z := .agg #[.int .i64 0, .int .i64 0]) (by kernel_rfl) rfl (by omega)
instance : TOne Tryz.prog 3 (.int .i64 0) := ⟨fun w => by kernel_rfl, fun w => by kernel_rfl, fun w => by kernel_rfl, rfl⟩
instance : TOne Tryz.prog 22 (.slice none 0 0) := ⟨fun w => by kernel_rfl, fun w => by kernel_rfl, fun w => by kernel_rfl, rfl⟩
instance : TOne Tryz.prog 107 (.slice none 0 0) := ⟨fun w => by kernel_rfl, fun w => by kernel_rfl, fun w => by kernel_rfl, rfl⟩
instance : TOne Tryz.prog 114 (.int .u16 0) := ⟨fun w => by kernel_rfl, fun w => by kernel_rfl, fun w => by kernel_rfl, rfl⟩
instance : TOne Tryz.prog 5 (.int .u8 0) := ⟨fun w => by kernel_rfl, fun w => by kernel_rfl, fun w => by kernel_rfl, rfl⟩
instance : TInt Tryz.prog 3 .i64 := ⟨by kernel_rfl⟩
instance : TInt Tryz.prog 191 .u64 := ⟨by kernel_rfl⟩
instance : TInt Tryz.prog 114 .u16 := ⟨by kernel_rfl⟩
instance : TInt Tryz.prog 5 .u8 := ⟨by kernel_rfl⟩
instance : TArr Tryz.prog 50 6 3 1 := ⟨by kernel_rfl, by kernel_rfl, by omega⟩
instance : TAgg Tryz.prog 50 6 [.int .i64 0, .int .i64 0, .int .i64 0, .int .i64 0, .int .i64 0, .int .i64 0] := ⟨fun w => by kernel_rfl, fun w => by kernel_rfl, fun w => by kernel_rfl⟩
instance : TAgg Tryz.prog 104 2 [.int .i64 0, .int .i64 0] := ⟨fun w => by kernel_rfl, fun w => by kernel_rfl, fun w => by kernel_rfl⟩
instance : TAgg Tryz.prog 46 3 [.int .i64 0, .int .i64 0, .int .i64 0] := ⟨fun w => by kernel_rfl, fun w => by kernel_rfl, fun w => by kernel_rfl⟩
theorem tst_of {P : Program} {t : TypeId} {sz : Nat} {zs : List Value} {fs : Array Field} (hu : P.underlying t = some (.struct fs)) (hm : ∀ w, (fs.mapM fun (f : Field) => do pure (f.offset, ← sizeOf f.type)).run P w = .ok ((List.range sz).map fun i => (i, 1)).toArray w)
    (hz : ∀ w, (zeroValue t).run P w = .ok (.agg zs.toArray) w) (hl : zs.length = sz) : TSt P t sz zs := ⟨⟨fs, hu, hm⟩, hz, hl⟩
instance : TSt Tryz.prog 104 2 [.int .i64 0, .int .i64 0] := tst_of Tryz.underlying104 (fun w => by kernel_rfl) (fun w => by kernel_rfl) rfl
instance : TSt Tryz.prog 46 3 [.int .i64 0, .int .i64 0, .int .i64 0] := tst_of Tryz.underlying46 (fun w => by kernel_rfl) (fun w => by kernel_rfl) rfl
instance : TSt Tryz.prog 47 3 [.int .i64 0, .int .i64 0, .int .i64 0] := tst_of Tryz.underlying47 (fun w => by kernel_rfl) (fun w => by kernel_rfl) rfl
instance : TBool Tryz.prog 4 := ⟨by kernel_rfl⟩
theorem tfld_of {P : Program} {s : TypeId} {k off : Nat} {fs : Array Field} {fd : Field} (c : Nat) (hu : P.underlying s = some (.struct fs)) (hf : fs[k]? = some fd) (ho : fd.offset = off) (hs : ∀ w, (sizeOf fd.type).run P w = .ok (c + 1) w) : TFld P s k off :=
  ⟨fun a w => by simp [Instr.fieldAt, run_underlying hu, hf, ho, Instr.sureAddr, fieldPlace, hs]⟩
theorem tflv_of {P : Program} {s : TypeId} {k off : Nat} {fs : Array Field} {fd : Field} (hu : P.underlying s = some (.struct fs)) (hf : fs[k]? = some fd) (ho : fd.offset = off) (hs : ∀ w, (isAgg fd.type).run P w = .ok false w) : TFlv P s k off :=
  ⟨fun cs v w hv => by simp [Instr.field, run_underlying hu, hf, ho, asAgg, part, hs, hv]⟩
instance : TFld Tryz.prog 46 0 0 := tfld_of 0 Tryz.underlying46 rfl rfl (fun w => by kernel_rfl)
instance : TFlv Tryz.prog 46 0 0 := tflv_of Tryz.underlying46 rfl rfl (fun w => by kernel_rfl)
instance : TFld Tryz.prog 46 1 1 := tfld_of 0 Tryz.underlying46 rfl rfl (fun w => by kernel_rfl)
instance : TFlv Tryz.prog 46 1 1 := tflv_of Tryz.underlying46 rfl rfl (fun w => by kernel_rfl)
instance : TFld Tryz.prog 46 2 2 := tfld_of 0 Tryz.underlying46 rfl rfl (fun w => by kernel_rfl)
instance : TFlv Tryz.prog 46 2 2 := tflv_of Tryz.underlying46 rfl rfl (fun w => by kernel_rfl)

instance : TFld Tryz.prog 47 0 0 := tfld_of 0 Tryz.underlying47 rfl rfl (fun w => by kernel_rfl)
instance : TFlv Tryz.prog 47 0 0 := tflv_of Tryz.underlying47 rfl rfl (fun w => by kernel_rfl)
instance : TFld Tryz.prog 47 1 1 := tfld_of 0 Tryz.underlying47 rfl rfl (fun w => by kernel_rfl)
instance : TFlv Tryz.prog 47 1 1 := tflv_of Tryz.underlying47 rfl rfl (fun w => by kernel_rfl)
instance : TFld Tryz.prog 47 2 2 := tfld_of 0 Tryz.underlying47 rfl rfl (fun w => by kernel_rfl)
instance : TFlv Tryz.prog 47 2 2 := tflv_of Tryz.underlying47 rfl rfl (fun w => by kernel_rfl)

instance : TFld Tryz.prog 104 0 0 := tfld_of 0 Tryz.underlying104 rfl rfl (fun w => by kernel_rfl)
instance : TFlv Tryz.prog 104 0 0 := tflv_of Tryz.underlying104 rfl rfl (fun w => by kernel_rfl)
instance : TFld Tryz.prog 104 1 1 := tfld_of 0 Tryz.underlying104 rfl rfl (fun w => by kernel_rfl)
instance : TFlv Tryz.prog 104 1 1 := tflv_of Tryz.underlying104 rfl rfl (fun w => by kernel_rfl)

structure Spot where
  at_ : Int
  diff : Int
  deriving DecidableEq
instance : Flat Spot := ⟨2, fun x => [.int .i64 x.at_, .int .i64 x.diff], ⟨0, 0⟩, fun _ => rfl, fun x v hv => by simp at hv; rcases hv with rfl | rfl <;> rfl, by omega⟩
structure Mv where
  idx : Int
  src : Int
  dst : Int
  deriving DecidableEq
instance : Flat Mv := ⟨3, fun x => [.int .i64 x.idx, .int .i64 x.src, .int .i64 x.dst], ⟨0, 0, 0⟩, fun _ => rfl, fun x v hv => by simp at hv; rcases hv with rfl | rfl | rfl <;> rfl, by omega⟩
instance : TCmp Tryz.prog 46 Mv := ⟨by kernel_rfl, fun x y w => by
  rw [show (10000 : Nat) = 9999 + 1 from rfl, run_equalIn_agg w 9999 _ _ _ (by kernel_rfl) (by kernel_rfl)]
  have ha : ∀ w, (isAgg 3).run Tryz.prog w = .ok false w := fun w => by kernel_rfl
  simp only [Program.fieldsOf, Tryz.underlying46, Op.eqFields, part, ha, Sem.run_bind, Result.andThen_ok]
  obtain ⟨a, b, c⟩ := x
  obtain ⟨a', b', c'⟩ := y
  by_cases h1 : a = a' <;> by_cases h2 : b = b' <;> by_cases h3 : c = c' <;> simp [Flat.enc, ha, run_equalIn_int w 9998 _ .i64 .i64 _ _ Tryz.underlying3, h1, h2, h3]⟩
end Go.Proofs.YtdlpnjofdpcjjaaGreat
