/- A slice of pairs of numbers is opened. -/
import Derived.Test.YtehjdbgijibmcaaZSq
import Derived.Test.YtehjdbgijibmcaaZGm
set_option linter.unusedSimpArgs false
set_option linter.unusedVariables false
namespace Go.Proofs.Ytehjdbgijibmcaa
open Go.Fw Go.RowKit Go.ChangeShapes Go.WideShapes Go.ChangeAt
abbrev k2 : List IntKind := [.i64, .i64]
def twoOf : List Int → P2
  | [a, b] => ⟨a, b⟩
  | _ => ⟨0, 0⟩
theorem twoOf_enc : ∀ ns : List Int, WfK k2 ns → Flat.enc (twoOf ns) = cellsK k2 ns := fun ns h => by
  have hl := h.len
  match ns, hl with
  | [a, b], _ => rfl
def P2.fits (x : P2) : Prop := In64 x.a ∧ In64 x.b
theorem twoOf_fits : ∀ ns : List Int, WfK k2 ns → (twoOf ns).fits := fun ns h => by
  have hl := h.len
  match ns, hl with
  | [a, b], _ => exact ⟨i64_of h.1, i64_of h.2.1⟩
section
variable {H : Type} {enc : TypeId × Value → H}
set_option maxRecDepth 100000 in
theorem open_twos {W : World} {base : Nat} {v : Value} {d : DataW H} {p : List MemPlace} (hv0 : Value.okWide Try.prog W .any base 22 v) (h : DataW.Trod enc Try.prog W 0 (fun _ => true) true 22 v d p) :
    ∃ A c, ∃ l : List P2, v = .slice A l.length c ∧ Rd W A l ∧ (∀ x ∈ l, x.fits) ∧ l.length ≤ maxLen := by
  obtain ⟨A0, m, c0, rfl⟩ := okWide_slice Try.underlying22 hv0
  obtain ⟨fuel, hf⟩ := h
  obtain ⟨A, c, l, hc, hr, hb, hl⟩ := flats_open (ks := k2) twoOf twoOf_enc Try.underlying22 (by kernel_rfl) (by kernel_rfl) rfl hf
  simp only [Value.cells, List.cons.injEq, and_true] at hc
  exact ⟨A, c, l, hc, hr, fun x hx => by obtain ⟨ns, hw, rfl⟩ := hb x hx; exact twoOf_fits ns hw, hl⟩
end
end Go.Proofs.Ytehjdbgijibmcaa
