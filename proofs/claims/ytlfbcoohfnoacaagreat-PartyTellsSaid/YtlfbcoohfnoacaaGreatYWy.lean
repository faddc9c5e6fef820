/- What is read through knowledge of a world. -/
import Derived.Test.YtlfbcoohfnoacaaGreatYWr
set_option linter.unusedSimpArgs false
set_option linter.unusedVariables false
namespace Go.Fw
open Go.RowKit
section
variable {w0 w : World} {H R : List HP} {A B : Option Addr} {L : List EntP} {α : Type} [Flat α] {l : List α}
theorem rd_thru (h : ∀ w, RdW w A L → Rd w B l) (hw : Wd w0 H w) (hs : Split H (knw A L) R) : Rd w B l := h w (hw.kw hs)
theorem rd_thk {Φ : World → Prop} (h : ∀ w, Φ w → Rd w B l) (hw : Wd w0 H w) (hs : Split H (kno Φ) R) : Rd w B l := h w (hw.kn hs)
end
section
variable {H G : List HP} {e ec : TypeId} {A : Option Addr} {c k : Nat} {l : List EntP} {y : EntP}
/-- A world of which one entity was put in anew, read alone. -/
theorem ent_knw_set (hk : k < l.length) : Ent (orow e A c (l.set k y) :: orow ec y.A y.cp y.e.comps :: allH (l.map fun x => orow ec x.A x.cp x.e.comps) :: G) (knw A (l.set k y) :: G) := by
  have h1 : Ent (orow ec y.A y.cp y.e.comps :: allH (l.map fun x => orow ec x.A x.cp x.e.comps) :: G) (allH ((l.set k y).map fun x => orow ec x.A x.cp x.e.comps) :: G) :=
    (ent_cons Split.head ((ent_all_open (d := Flat.dflt) (f := fun x : EntP => orow ec x.A x.cp x.e.comps) hk).trans (ent_drop (ent_refl _)))).trans (ent_all_close (f := fun x : EntP => orow ec x.A x.cp x.e.comps) hk)
  exact (ent_cons Split.head h1).trans ent_knw
end
theorem rdY {p : Prop} (h : p := by first | exact rd_thru (by assumption) (by assumption) spL | exact rdX | exact rd_thk (by assumption) (by assumption) spL) : p := h
end Go.Fw
