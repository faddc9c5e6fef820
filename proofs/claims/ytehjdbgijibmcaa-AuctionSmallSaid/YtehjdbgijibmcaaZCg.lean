/- Package auction: rules for Bid. -/
import Derived.Test.YtehjdbgijibmcaaZCf
set_option linter.unusedSimpArgs false
set_option linter.unusedVariables false
namespace Go.Proofs.Ytehjdbgijibmcaa
open Go.Fw Go.RowKit
instance : TOne Try.prog 80 .nilFunc := ⟨fun w => by kernel_rfl, fun w => by kernel_rfl, fun w => by kernel_rfl, rfl⟩
section
variable {P : Program} {md : Md} {n : Nat} {Q : HQ} {f : Fr} {w0 : World} {H R : List HP} {ops : Array Oper} {rest : List Oper} {d : Nat} {op : Op} {ty : TypeId} {pos : String} {aft : Array Edge} {v : Value} {x y : Operand}
theorem ox_slice_all {w : World} {t e : TypeId} {len sz : Nat} {a : Addr} [h : TArr P t len e sz] (hx : ev n f x = .pointer (some a)) :
    OX P n f (.slice t x none none none) ty w (.slice (some a) len len) w := by
  intro d pos aft g
  have hb := h.big
  obtain ⟨info, hi', hp⟩ : ∃ info, P.info? e = some info ∧ info.size = sz := by
    have := h.inf
    cases hi : P.info? e with
    | none => rw [hi] at this; simp at this
    | some info => rw [hi] at this; exact ⟨info, rfl, by simpa using this⟩
  simp [execOp, Instr.sliceAt, Instr.sureAddr, hx, run_underlying h.und, Instr.sliceBounds, Instr.sliceBound, sizeOf, typeInfo, program, Sem.run, hi', hp, show len ≠ 0 by omega, Addr.add]
theorem slN {t e : TypeId} {len sz : Nat} {a : Addr} [TArr P t len e sz] (hx : ev n f x = .pointer (some a)) (k : SH (nx md) P n ops Q rest (upd f d (.slice (some a) len len)) w0 H) :
    SH md P n ops Q (⟨some d, .slice t x none none none, ty, pos, aft, none⟩ :: rest) f w0 H := s_val (fun _ _ => ox_slice_all hx) k
theorem ixS {t e : TypeId} {len sz : Nat} {b i : Nat} {K : IntKind} [TArr P t len e sz] (hx : ev n f x = .pointer (some ⟨b, 0, none⟩)) {j : Int} (hy : ev n f y = .int K j) (hj : j = (i : Int)) (h1 : i < len) (k : SH (nx md) P n ops Q rest (upd f d (.pointer (some ⟨b, i * sz, none⟩))) w0 H) :
    SH md P n ops Q (⟨some d, .indexAddr t x y, ty, pos, aft, none⟩ :: rest) f w0 H := s_val (fun w hw => by
      have := ox_indexArr (P := P) (t := t) (w := w) (ty := ty) (n := n) (f := f) hx (hy.trans (by rw [hj])) (Int.natCast_nonneg i) (Int.ofNat_lt.2 h1)
      simpa [Addr.add_lit] using this) k
theorem rd_box {α : Type} [Flat α] {w : World} {b : Nat} {t : TypeId} {l : List α} (h : Wd w0 H w) (hs : Split H (bx b t (encs l)) R) : Rd w (some ⟨b, 0, none⟩) l := fun j u hj => ⟨rfl, by
  have := h.cell hs hj
  simpa [adr, Addr.add_lit] using this⟩
end
end Go.Proofs.Ytehjdbgijibmcaa
