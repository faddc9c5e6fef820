/- A thing that is done, as six numbers. -/
import Derived.Test.YtehjdbgijibmcaaZSh
set_option linter.unusedSimpArgs false
set_option linter.unusedVariables false
namespace Go.Proofs.Ytehjdbgijibmcaa
open Go.Fw Go.RowKit Go.ChangeShapes Go.WideShapes Go.ChangeAt
structure Do6 where
  k : Int
  a : Int
  b : Int
  c : Int
  d : Int
  e : Int
  deriving DecidableEq
instance : Flat Do6 := ⟨6, fun x => [.int .i64 x.k, .int .i64 x.a, .int .i64 x.b, .int .i64 x.c, .int .i64 x.d, .int .i64 x.e], ⟨0, 0, 0, 0, 0, 0⟩, fun _ => rfl, fun x v hv => by simp at hv; rcases hv with rfl | rfl | rfl | rfl | rfl | rfl <;> rfl, by omega⟩
def doOf : List Int → Do6
  | [a, b, c, d, e, f] => ⟨a, b, c, d, e, f⟩
  | _ => ⟨0, 0, 0, 0, 0, 0⟩
theorem doOf_enc : ∀ ns : List Int, WfK k6 ns → Flat.enc (doOf ns) = cellsK k6 ns := fun ns h => by
  have hl := h.len
  match ns, hl with
  | [a, b, c, d, e, f], _ => rfl
def Do6.fits (x : Do6) : Prop := In64 x.k ∧ In64 x.a ∧ In64 x.b ∧ In64 x.c ∧ In64 x.d ∧ In64 x.e
theorem doOf_fits : ∀ ns : List Int, WfK k6 ns → (doOf ns).fits := fun ns h => by
  have hl := h.len
  match ns, hl with
  | [a, b, c, d, e, f], _ => exact ⟨i64_of h.1, i64_of h.2.1, i64_of h.2.2.1, i64_of h.2.2.2.1, i64_of h.2.2.2.2.1, i64_of h.2.2.2.2.2.1⟩
section
variable {H : Type} {enc : TypeId × Value → H}
set_option maxRecDepth 100000 in
theorem open_do {W : World} {base : Nat} {v : Value} {d : DataW H} {p : List MemPlace} (hv0 : Value.okWide Try.prog W .any base 59 v) (h : DataW.Trod enc Try.prog W 0 (fun _ => true) true 59 v d p) :
    ∃ x : Do6, v = .agg (Flat.enc x).toArray ∧ x.fits := by
  obtain ⟨cs, rfl, hsz⟩ := okWide_struct Try.underlying59 hv0
  obtain ⟨fuel, hf⟩ := h
  obtain ⟨ns, hc, hw⟩ := flat_open (ks := k6) (by kernel_rfl) (by kernel_rfl) hf
  refine ⟨doOf ns, ?_, doOf_fits ns hw⟩
  rw [doOf_enc ns hw, ← hc]
  simp [Value.cells]
set_option maxRecDepth 100000 in
theorem open_dos {W : World} {base : Nat} {v : Value} {d : DataW H} {p : List MemPlace} (hv0 : Value.okWide Try.prog W .any base 50 v) (h : DataW.Trod enc Try.prog W 0 (fun _ => true) true 50 v d p) :
    ∃ A c, ∃ l : List Do6, v = .slice A l.length c ∧ Rd W A l ∧ (∀ x ∈ l, x.fits) ∧ l.length ≤ maxLen := by
  obtain ⟨A0, m, c0, rfl⟩ := okWide_slice Try.underlying50 hv0
  obtain ⟨fuel, hf⟩ := h
  obtain ⟨A, c, l, hc, hr, hb, hl⟩ := flats_open (ks := k6) doOf doOf_enc Try.underlying50 (by kernel_rfl) (by kernel_rfl) rfl hf
  simp only [Value.cells, List.cons.injEq, and_true] at hc
  exact ⟨A, c, l, hc, hr, fun x hx => by obtain ⟨ns, hw, rfl⟩ := hb x hx; exact doOf_fits ns hw, hl⟩
end
end Go.Proofs.Ytehjdbgijibmcaa
