/- Steps that close a goal, each under a short name. -/
import Derived.Test.YtehjdbgijibmcaaVy
set_option linter.unusedSimpArgs false
set_option linter.unusedVariables false
namespace Go.Fw
open Go.RowKit
theorem spL {p : Prop} (h : p := by iterate 24 (try first | exact Split.head | apply Split.tail)) : p := h
theorem evL {p : Prop} (h : p := by conv => lhs; whnf) : p := h
theorem tbL {p : Prop} (h : p := by first | with_reducible rfl | assumption | exact dt (by assumption) | exact df (by assumption) | exact dt (by omega) | exact df (by omega) | exact nt (by first | with_reducible rfl | assumption | exact df (by omega)) | exact nf (by first | with_reducible rfl | assumption | exact dt (by assumption) | exact dt (by omega))) : p := h
theorem inL {p : Prop} (h : p := by constructor <;> omega) : p := h
theorem omL {p : Prop} (h : p := by first | omega | decide) : p := h
theorem rd_via {α : Type} [Flat α] {w0 w : World} {H : List HP} {A : Option Addr} {l : List α} (hw : Wd w0 H w) (h : Rd w0 A l) : Rd w A l := h.ext hw.ext
theorem rdL {p : Prop} (h : p := by first | exact rd_via (by assumption) (by assumption) | exact Wd.rd (by assumption) spL | exact Wd.rd1 (by assumption) spL | exact Wd.rd2 (by assumption) spL) : p := h
theorem hsL {p : Prop} (h : p := by (repeat (first | exact trivial | refine And.intro rfl ?_))) : p := h
theorem heL {p : Prop} (h : p := by (repeat (first | exact trivial | refine And.intro (by conv => lhs; whnf) ?_))) : p := h
theorem enL {p : Prop} (h : p := by (repeat (first | exact ent_refl _ | exact ent_nil _ | refine ent_nilrow ?_ | refine ent_cons spL ?_ | refine ent_drop ?_))) : p := h
theorem kpL {p : Prop} (h : p := by first | exact trivial | exact ent_nil _ | exact ent_drop (ent_refl _) | exact ent_refl _ | exact enL) : p := h
theorem agL {p : Prop} (h : p := by (repeat (first | exact agree_mix _ _ _ | exact agree_refl _ _ | refine agree_upd rfl ?_ | refine agree_mix_of rfl ?_))) : p := h
end Go.Fw
