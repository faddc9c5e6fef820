/- The auction's arguments are opened. -/
import Derived.Test.YtehjdbgijibmcaaZSq
import Derived.Test.YtehjdbgijibmcaaZCa
set_option linter.unusedSimpArgs false
set_option linter.unusedVariables false
namespace Go.Proofs.Ytehjdbgijibmcaa
open Go.Fw Go.RowKit Go.ChangeShapes Go.WideShapes Go.ChangeAt
abbrev k9 : List IntKind := [.i64, .i64, .i64, .i64, .i64, .i64, .i64, .i64, .i64]
abbrev k6 : List IntKind := [.i64, .i64, .i64, .i64, .i64, .i64]
def lotOf : List Int → Lot
  | [a, b, c, d, e, f, g, h, i] => ⟨a, b, c, d, e, f, g, h, i⟩
  | _ => ⟨0, 0, 0, 0, 0, 0, 0, 0, 0⟩
theorem lotOf_enc : ∀ ns : List Int, WfK k9 ns → Flat.enc (lotOf ns) = cellsK k9 ns := fun ns h => by
  have hl := h.len
  match ns, hl with
  | [a, b, c, d, e, f, g, h, i], _ => rfl
section
variable {H : Type} {enc : TypeId × Value → H}
set_option maxRecDepth 100000 in
theorem open_house {W : World} {base : Nat} {v : Value} {d : DataW H} {p : List MemPlace} (hv0 : Value.okWide Try.prog W .any base 26 v) (h : DataW.Trod enc Try.prog W 0 (fun _ => true) true 26 v d p) :
    ∃ A c, ∃ h : House, v = hv A c h ∧ Rd W A h.lots ∧ h.lots.length ≤ maxLen := by
  obtain ⟨v0, v1, v2, y0, y1, y2, n, rfl, _, _, h0, h1, h2⟩ := Go.Joins.open_agg3 Try.underlying26 (by kernel_rfl) (by kernel_rfl) hv0 h
  obtain ⟨a, ha, _, _⟩ := DataW.trod_int Try.underlying3 h0
  obtain ⟨b, hb, _, _⟩ := DataW.trod_int Try.underlying3 h1
  obtain ⟨A, c, l, hc, hr, _, hl⟩ := flats_open (ks := k9) lotOf lotOf_enc Try.underlying24 (by kernel_rfl) (by kernel_rfl) rfl h2
  injection ha with ha; injection hb with hb; injection hc with hc
  subst ha hb hc
  exact ⟨A, c, ⟨a, b, l⟩, rfl, hr, hl⟩
end
end Go.Proofs.Ytehjdbgijibmcaa
