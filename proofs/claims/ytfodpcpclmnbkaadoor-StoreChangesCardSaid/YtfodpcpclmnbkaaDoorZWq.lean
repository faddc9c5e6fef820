/- Worlds as elements of a slice. -/
import Derived.Test.YtfodpcpclmnbkaaDoorZTw
import Derived.Test.YtfodpcpclmnbkaaDoorZJd
import Derived.Test.YtfodpcpclmnbkaaDoorZWz
set_option linter.unusedSimpArgs false
set_option linter.unusedVariables false
namespace Go.Proofs.YtfodpcpclmnbkaaDoor
open Go.Fw Go.RowKit
instance : TSl Tryd.prog 70 25 2 32 := ⟨by kernel_rfl, by kernel_rfl⟩
instance : TEl Tryd.prog 25 2 32 := tel_of (z := .agg #[.int .i64 0, .slice none 0 0]) (by kernel_rfl) rfl (by omega)
/-- A world in memory of its own. -/
structure WorldP where
  t : Int
  A : Option Addr
  cp : Nat
  L : List EntP
instance : Flat WorldP := ⟨2, fun x => [.int .i64 x.t, .slice x.A x.L.length x.cp], ⟨0, none, 0, []⟩, fun _ => rfl, fun x v hv => by
  simp at hv; rcases hv with rfl | rfl <;> rfl, by omega⟩
def ownP (x : WorldP) : HP := allH [orow 32 x.A x.cp x.L, allH (x.L.map rowOf)]
theorem own_in {x : WorldP} {G : List HP} : Ent (orow 32 x.A x.cp x.L :: allH (x.L.map rowOf) :: G) (ownP x :: G) := ent_all_in [_, _]
theorem own_out {x : WorldP} {G : List HP} : Ent (ownP x :: G) (orow 32 x.A x.cp x.L :: allH (x.L.map rowOf) :: G) := ent_all_out [_, _]
theorem own_next {x : WorldP} {l : List WorldP} {G : List HP} : Ent (allH ((x :: l).map ownP) :: G) (orow 32 x.A x.cp x.L :: allH (x.L.map rowOf) :: allH (l.map ownP) :: G) := (ent_all_uncons (a := ownP x) (X := l.map ownP)).trans own_out
theorem own_four {a b c d : WorldP} {G : List HP} : Ent (orow 32 a.A a.cp a.L :: allH (a.L.map rowOf) :: orow 32 b.A b.cp b.L :: allH (b.L.map rowOf) :: orow 32 c.A c.cp c.L :: allH (c.L.map rowOf) :: orow 32 d.A d.cp d.L :: allH (d.L.map rowOf) :: G) (allH ([a, b, c, d].map ownP) :: G) :=
  (own_in.trans (ent_cons Split.head (own_in.trans (ent_cons Split.head (own_in.trans (ent_cons Split.head own_in)))))).trans (ent_all_in [ownP a, ownP b, ownP c, ownP d])
/-- The own memory of a world. -/
def ownW (A : Option Addr) (c : Nat) (L : List EntP) : HP := allH [orow 32 A c L, allH (L.map rowOf)]
/-- Own memory is known. -/
theorem ownW_rd {w0 w : World} {A : Option Addr} {c : Nat} {L : List EntP} {H R : List HP} (hs : Ent H (orow 32 A c L :: allH (L.map rowOf) :: R)) (hw : Wd w0 H w) : RdW w A L :=
  (Ent.wd (hs.trans ent_knw) hw).kw (A := A) (l := L) Split.head
/-- A row of which each element is known, or is the one of one's own. -/
theorem mix_rd {w0 w : World} {A1 As : Option Addr} {L1 Ls : List EntP} {x : EntP} {H R : List HP} (hm : ∀ y ∈ Ls, y ∈ L1 ∨ y = x) (hw : Wd w0 H w) (hs : Split H (knw A1 L1) R) (hr : Rd w As Ls) (hx : Rd w x.A x.e.comps) : RdW w As Ls :=
  ⟨hr, fun y hy => by
    rcases hm y hy with h | rfl
    · exact (hw.kw hs).2 y h
    · exact hx⟩
/-- As spL, in longer lists. -/
theorem spM {p : Prop} (h : p := by iterate 60 (try first | exact Split.head | apply Split.tail)) : p := h
theorem few15_sz {l : List EntP} (h : fewW l = true) : l.length ≤ 70 ∧ ∀ x ∈ l, x.e.comps.length ≤ 14 := by
  unfold fewW at h
  rw [Bool.and_eq_true, decide_eq_true_eq, List.all_eq_true] at h
  exact ⟨h.1, fun x hx => by simpa using h.2 x hx⟩
theorem enM {p : Prop} (h : p := by (repeat (first | exact ent_refl _ | exact ent_nil _ | refine ent_cons (by iterate 60 (try first | exact Split.head | apply Split.tail)) ?_ | refine ent_drop ?_))) : p := h
end Go.Proofs.YtfodpcpclmnbkaaDoor
