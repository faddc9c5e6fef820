/- Layer 36 (party): halls and things that are done, as arguments. -/
import Derived.Test.YtlfbcoohfnoacaaGreatYOa
import Derived.Test.YtlfbcoohfnoacaaGreatYSq
import Derived.Test.YtlfbcoohfnoacaaGreatYUwd
set_option linter.unusedSimpArgs false
set_option linter.unusedVariables false
namespace Go.Proofs.YtlfbcoohfnoacaaGreat
open Go.Fw Go.RowKit Go.ChangeShapes Go.WideShapes Go.ChangeAt
section
variable {H : Type} {enc : TypeId × Value → H} {P : Program} {w : World} {base : Nat} {spare : Nat → Bool} {held : Bool} {fuel : Nat} {t e : TypeId} {cs : List Value} {x : DataW H × List MemPlace}
/-- A structure of four fields of one cell each. -/
theorem four_open {f0 f1 f2 f3 : Field} (ht : P.underlying t = some (.struct #[f0, f1, f2, f3])) (hc : P.cellsOf t = 4) (h0 : f0.offset = 0) (h1 : f1.offset = 1) (h2 : f2.offset = 2) (h3 : f3.offset = 3) (c0 : P.cellsOf f0.type = 1) (c1 : P.cellsOf f1.type = 1) (c2 : P.cellsOf f2.type = 1) (c3 : P.cellsOf f3.type = 1) (h : DataW.trod enc P w base spare held fuel t cs = some x) :
    ∃ m u0 u1 u2 u3 y0 y1 y2 y3, cs = [u0, u1, u2, u3] ∧ DataW.trod enc P w base spare held m f0.type [u0] = some y0 ∧ DataW.trod enc P w base spare held m f1.type [u1] = some y1 ∧ DataW.trod enc P w base spare held m f2.type [u2] = some y2 ∧ DataW.trod enc P w base spare held m f3.type [u3] = some y3 := by
  obtain ⟨xs, m, _, _, hl, hxl, hf⟩ := DataW.trod_struct ht h
  rw [hc] at hl
  match xs, hxl with
  | [y0, y1, y2, y3], _ =>
    have e0 := hf 0 f0 rfl
    have e1 := hf 1 f1 rfl
    have e2 := hf 2 f2 rfl
    have e3 := hf 3 f3 rfl
    rw [h0, c0] at e0
    rw [h1, c1] at e1
    rw [h2, c2] at e2
    rw [h3, c3] at e3
    match cs, hl with
    | [u0, u1, u2, u3], _ => exact ⟨m, u0, u1, u2, u3, y0, y1, y2, y3, rfl, e0, e1, e2, e3⟩
/-- A slice of elements of which each is opened. -/
theorem list_open {α : Type} [F : Flat α] (Ok : α → Prop) (he : ∀ n cs y, DataW.trod enc P w base spare held n e cs = some y → ∃ z : α, cs = F.enc z ∧ Ok z) (ht : P.underlying t = some (.slice e)) (hC : P.cellsOf e = F.sz) (h : DataW.trod enc P w base spare held fuel t cs = some x) :
    ∃ A cp, ∃ l : List α, cs = [.slice A l.length cp] ∧ Rd w A l ∧ (∀ y ∈ l, Ok y) ∧ l.length ≤ maxLen ∧ l.length ≤ cp := by
  rcases Go.Deep.open_slice ht h with ⟨rfl, _⟩ | ⟨a, len, cap, m, n, D, Pl, rfl, hb, hl, hm, hmm, rfl, hx⟩
  · exact ⟨none, 0, [], rfl, Rd.nil _ _, fun _ h => by simp at h, by simp, by simp⟩
  · have hlm : len ≤ m := by rw [hmm]; split <;> omega
    have key : ∀ i, i < len → ∃ z : α, Ok z ∧ ∀ r, r < F.sz → w.cell? (a.add (i * F.sz + r)) = (F.enc z)[r]? := fun i hi => by
      obtain ⟨cs', h1, h2⟩ := hx i (by omega)
      obtain ⟨z, rfl, hz⟩ := he _ _ _ h2
      obtain ⟨_, hlen, hc⟩ := World.cells?_some h1
      refine ⟨z, hz, fun r hr => ?_⟩
      have := hc r (by omega)
      rw [hC, Addr.add_add] at this
      exact this
    have hex : ∀ i, ∃ z : α, i < len → Ok z ∧ ∀ r, r < F.sz → w.cell? (a.add (i * F.sz + r)) = (F.enc z)[r]? := fun i => by
      by_cases hi : i < len
      · obtain ⟨z, h1⟩ := key i hi; exact ⟨z, fun _ => h1⟩
      · exact ⟨F.dflt, fun h => absurd h hi⟩
    let V := fun i => Classical.choose (hex i)
    have hV : ∀ i, i < len → Ok (V i) ∧ ∀ r, r < F.sz → w.cell? (a.add (i * F.sz + r)) = (F.enc (V i))[r]? := fun i => Classical.choose_spec (hex i)
    have hll : ((List.range len).map V).length = len := by simp
    refine ⟨some a, cap, (List.range len).map V, by rw [hll], rd_rows _ fun i hi r hr => ?_, fun y hy => ?_, by rw [hll]; omega, by rw [hll]; omega⟩
    · rw [hll] at hi
      obtain ⟨h1, h2⟩ := hV i hi
      rw [h2 r hr]
      have : ((List.range len).map V).getD i F.dflt = V i := by simp [List.getD_eq_getElem?_getD, hi]
      rw [this]
    · obtain ⟨i, hi, rfl⟩ := List.mem_map.1 hy
      exact (hV i (by simpa using hi)).1
end
section
variable {H : Type} {enc : TypeId × Value → H} {W : World} {base : Nat} {spare : Nat → Bool} {held : Bool}
/-- A party whose members and invitations can be read. -/
structure PtyOk (W : World) (x : PtyP) : Prop where
  mem : Rd W x.A x.p.mem
  inv : Rd W x.B x.p.inv
set_option maxRecDepth 100000 in
theorem inv_open36 {n : Nat} {cs : List Value} {y : DataW H × List MemPlace} (h : DataW.trod enc Tryz.prog W base spare held n 61 cs = some y) : ∃ z : Inv, cs = Flat.enc z ∧ True := by
  obtain ⟨ns, hn, hw2⟩ := flat_open (ks := [.i64, .i64]) (by kernel_rfl) (by kernel_rfl) h
  have hln := hw2.len
  match ns, hln with
  | [a, b], _ => exact ⟨⟨a, b⟩, hn, trivial⟩
set_option maxRecDepth 100000 in
theorem int_open36 {n : Nat} {cs : List Value} {y : DataW H × List MemPlace} (h : DataW.trod enc Tryz.prog W base spare held n 3 cs = some y) : ∃ z : Int, cs = Flat.enc z ∧ True := by
  obtain ⟨k, hk, _, _⟩ := DataW.trod_int Tryz.underlying3 h
  exact ⟨k, hk, trivial⟩
set_option maxRecDepth 100000 in
theorem pty_open36 {n : Nat} {cs : List Value} {y : DataW H × List MemPlace} (h : DataW.trod enc Tryz.prog W base spare held n 46 cs = some y) : ∃ z : PtyP, cs = Flat.enc z ∧ PtyOk W z := by
  obtain ⟨m, u0, u1, u2, u3, y0, y1, y2, y3, rfl, e0, e1, e2, e3⟩ := four_open Tryz.underlying46 (by kernel_rfl) rfl rfl rfl rfl (by kernel_rfl) (by kernel_rfl) (by kernel_rfl) (by kernel_rfl) h
  obtain ⟨a, ha, _, _⟩ := DataW.trod_int Tryz.underlying3 e0
  obtain ⟨b, hb, _, _⟩ := DataW.trod_int Tryz.underlying3 e1
  obtain ⟨A, ca, l, hc, hr, _, _, _⟩ := list_open (fun _ : Int => True) (fun n cs y h => int_open36 h) Tryz.underlying38 (by kernel_rfl) e2
  obtain ⟨B, cb, l2, hc2, hr2, _, _, _⟩ := list_open (fun _ : Inv => True) (fun n cs y h => inv_open36 h) Tryz.underlying44 (by kernel_rfl) e3
  injection ha with ha; injection hb with hb; injection hc with hc; injection hc2 with hc2
  subst ha hb hc hc2
  exact ⟨⟨⟨a, b, l, l2⟩, A, ca, B, cb⟩, rfl, ⟨hr, hr2⟩⟩
set_option maxRecDepth 100000 in
theorem open_hall {v : Value} {d : DataW H} {p : List MemPlace} (hv0 : Value.okWide Tryz.prog W .any base 24 v) (h : DataW.Trod enc Tryz.prog W 0 (fun _ => true) true 24 v d p) :
    ∃ t la A L c, v = hv36 t la A L c ∧ RdP W A L ∧ L.length ≤ maxLen := by
  obtain ⟨v0, v1, v2, y0, y1, y2, n, rfl, _, _, h0, h1, h2⟩ := Go.Joins.open_agg3 Tryz.underlying24 (by kernel_rfl) (by kernel_rfl) hv0 h
  obtain ⟨a, ha, _, _⟩ := DataW.trod_int Tryz.underlying3 h0
  obtain ⟨b, hb, _, _⟩ := DataW.trod_int Tryz.underlying3 h1
  obtain ⟨A, c, l, hc, hr, hok, hl, _⟩ := list_open (PtyOk W) (fun n cs y h => pty_open36 h) Tryz.underlying22 (by kernel_rfl) h2
  injection ha with ha; injection hb with hb; injection hc with hc
  subst ha hb hc
  exact ⟨a, b, A, l, c, rfl, ⟨hr, fun x hx => ⟨(hok x hx).mem, (hok x hx).inv⟩⟩, hl⟩
abbrev k3 : List IntKind := [.i64, .i64, .i64]
def doOf : List Int → Do3
  | [a, b, c] => ⟨a, b, c⟩
  | _ => ⟨0, 0, 0⟩
theorem doOf_enc : ∀ ns : List Int, WfK k3 ns → Flat.enc (doOf ns) = cellsK k3 ns := fun ns h => by
  have hl := h.len
  match ns, hl with
  | [a, b, c], _ => rfl
set_option maxRecDepth 100000 in
theorem open_do36 {v : Value} {d : DataW H} {p : List MemPlace} (hv0 : Value.okWide Tryz.prog W .any base 36 v) (h : DataW.Trod enc Tryz.prog W 0 (fun _ => true) true 36 v d p) :
    ∃ x : Do3, v = .agg (Flat.enc x).toArray := by
  obtain ⟨cs, rfl, hsz⟩ := okWide_struct Tryz.underlying36 hv0
  obtain ⟨fuel, hf⟩ := h
  obtain ⟨ns, hc, hw⟩ := flat_open (ks := k3) (by kernel_rfl) (by kernel_rfl) hf
  refine ⟨doOf ns, ?_⟩
  rw [doOf_enc ns hw, ← hc]
  simp [Value.cells]
set_option maxRecDepth 100000 in
theorem open_dos36 {v : Value} {d : DataW H} {p : List MemPlace} (hv0 : Value.okWide Tryz.prog W .any base 25 v) (h : DataW.Trod enc Tryz.prog W 0 (fun _ => true) true 25 v d p) :
    ∃ A c, ∃ l : List Do3, v = .slice A l.length c ∧ Rd W A l ∧ l.length ≤ maxLen := by
  obtain ⟨A0, m, c0, rfl⟩ := okWide_slice Tryz.underlying25 hv0
  obtain ⟨fuel, hf⟩ := h
  obtain ⟨A, c, l, hc, hr, hb, hl⟩ := flats_open (ks := k3) doOf doOf_enc Tryz.underlying25 (by kernel_rfl) (by kernel_rfl) rfl hf
  simp only [Value.cells, List.cons.injEq, and_true] at hc
  exact ⟨A, c, l, hc, hr, hl⟩
end
end Go.Proofs.YtlfbcoohfnoacaaGreat
