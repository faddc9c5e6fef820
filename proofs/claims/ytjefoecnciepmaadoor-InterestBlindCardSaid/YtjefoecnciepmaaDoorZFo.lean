/- Forms that come in as arguments. -/
import Derived.Test.YtjefoecnciepmaaDoorZSq
import Derived.Test.YtjefoecnciepmaaDoorZOa
import Derived.Test.YtjefoecnciepmaaDoorZLh
set_option linter.unusedSimpArgs false
set_option linter.unusedVariables false
namespace Go.Proofs.YtjefoecnciepmaaDoor
open Go.Fw Go.RowKit Go.ChangeShapes Go.WideShapes Go.ChangeAt
def kForm : List IntKind := [.u16, .i8, .i8, .u8, .u8, .u8]
def formOf : List Int → Form
  | [a, b, c, d, e, f] => ⟨a, b, c, d, e, f⟩
  | _ => ⟨0, 0, 0, 0, 0, 0⟩
theorem formOf_enc : ∀ ns : List Int, WfK kForm ns → Flat.enc (formOf ns) = cellsK kForm ns := fun ns h => by
  have hl := h.len
  match ns, hl with
  | [a, b, c, d, e, f], _ => rfl
theorem i8_of {n : Int} (h : (Lit.int .i8 n).wf = true) : -128 ≤ n ∧ n ≤ 127 := by
  simpa [Lit.wf, IntKind.min, IntKind.max, IntKind.signed, IntKind.bits] using h
theorem formOf_ok : ∀ ns : List Int, WfK kForm ns → (formOf ns).Ok := fun ns h => by
  have hl := h.len
  match ns, hl with
  | [a, b, c, d, e, f], _ => exact ⟨u16_of h.1, i8_of h.2.1, i8_of h.2.2.1, u8_of h.2.2.2.1, u8_of h.2.2.2.2.1, u8_of h.2.2.2.2.2.1⟩
section
variable {H : Type} {enc : TypeId × Value → H}
set_option maxRecDepth 100000 in
theorem open_form {W : World} {base : Nat} {v : Value} {d : DataW H} {p : List MemPlace} (hv0 : Value.okWide Tryd.prog W .any base 49 v) (h : DataW.Trod enc Tryd.prog W 0 (fun _ => true) true 49 v d p) :
    ∃ x : Form, v = .agg (Flat.enc x).toArray ∧ x.Ok := by
  obtain ⟨cs, rfl, hsz⟩ := okWide_struct Tryd.underlying49 hv0
  obtain ⟨fuel, hf⟩ := h
  obtain ⟨ns, hc, hw⟩ := flat_open (ks := kForm) (by kernel_rfl) (by kernel_rfl) hf
  refine ⟨formOf ns, ?_, formOf_ok ns hw⟩
  rw [formOf_enc ns hw, ← hc]
  simp [Value.cells]
set_option maxRecDepth 100000 in
theorem open_forms {W : World} {base : Nat} {v : Value} {d : DataW H} {p : List MemPlace} (hv0 : Value.okWide Tryd.prog W .any base 22 v) (h : DataW.Trod enc Tryd.prog W 0 (fun _ => true) true 22 v d p) :
    ∃ A c, ∃ l : List Form, v = .slice A l.length c ∧ Rd W A l ∧ (∀ x ∈ l, x.Ok) ∧ l.length ≤ maxLen := by
  obtain ⟨A0, m, c0, rfl⟩ := okWide_slice Tryd.underlying22 hv0
  obtain ⟨fuel, hf⟩ := h
  obtain ⟨A, c, l, hc, hr, hb, hl⟩ := flats_open (ks := kForm) formOf formOf_enc Tryd.underlying22 (by kernel_rfl) (by kernel_rfl) rfl hf
  simp only [Value.cells, List.cons.injEq, and_true] at hc
  exact ⟨A, c, l, hc, hr, fun x hx => by obtain ⟨ns, hw, rfl⟩ := hb x hx; exact formOf_ok ns hw, hl⟩
end
end Go.Proofs.YtjefoecnciepmaaDoor
