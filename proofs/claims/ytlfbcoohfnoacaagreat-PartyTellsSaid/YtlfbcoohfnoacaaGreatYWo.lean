/- Worlds: components, entities, and where they lie in memory; pieces of which something is known. -/
import Derived.Test.YtlfbcoohfnoacaaGreatYVa
set_option linter.unusedSimpArgs false
set_option linter.unusedVariables false
namespace Go.Fw
open Go.RowKit
/-- A piece of which it is known what follows of it. -/
def kno (Φ : World → Prop) : HP := .oth fun p => ∀ w lo, Inn p w lo → Φ w
section
variable {Φ Ψ : World → Prop} {w0 w : World} {H R G : List HP}
theorem Wd.kn (h : Wd w0 H w) (hs : Split H (kno Φ) R) : Φ w := by
  obtain ⟨p, q, hx, _, _, hp, _⟩ := (hs.wd h).open_
  exact hx w _ hp
theorem ent_kno_row {α : Type} [Flat α] {e : TypeId} {A : Option Addr} {cp : Nat} {l : List α} (h : Split H (orow e A cp l) R) (hg : Ent R G) : Ent H (kno (fun w => Rd w A l) :: G) := (ent_cons h hg).trans (ent_imp fun _ hp => (den_row_rd hp).2)
theorem ent_kno_imp (hi : ∀ w, Φ w → Ψ w) (h : Split H (kno Φ) R) (hg : Ent R G) : Ent H (kno Ψ :: G) := (ent_cons h hg).trans (ent_imp fun _ hp w lo hw => hi w (hp w lo hw))
theorem ent_kno_and : Ent (kno Φ :: kno Ψ :: R) (kno (fun w => Φ w ∧ Ψ w) :: R) := ent_join fun p q hp hq hd w lo hi => ⟨hp w lo hi.left, hq w lo (hi.right hd)⟩
theorem ent_kno_nil (hi : ∀ w, Φ w) (hg : Ent H G) : Ent H (kno Φ :: G) := ⟨fun p hp => by
  obtain ⟨q, hq, hk⟩ := hg.out p hp
  exact ⟨pjoin pnil q, ⟨pnil, q, fun w _ _ => hi w, hq, fun _ => .inl rfl, rfl⟩, fun k o ho => hk k o ho⟩⟩
theorem ent_kno_map {ι : Type} {f : ι → HP} {φ : ι → World → Prop} (hf : ∀ x G, Ent (f x :: G) (kno (φ x) :: G)) : ∀ L : List ι, Ent (L.map f ++ R) (kno (fun w => ∀ x ∈ L, φ x w) :: R)
  | [] => ent_kno_nil (fun _ _ h => by simp at h) (ent_refl _)
  | x :: L => ((ent_cons Split.head (ent_kno_map hf L)).trans (hf x _)).trans (ent_kno_and.trans (ent_kno_imp (fun w h y hy => by
      rcases List.mem_cons.1 hy with rfl | hy
      · exact h.1
      · exact h.2 y hy) Split.head (ent_refl _)))
end
/-- A component. -/
structure Comp where
  kind : Int
  a : Int
  b : Int
  c : Int
  d : Int
  deriving DecidableEq
instance : Flat Comp := ⟨5, fun x => [.int .u8 x.kind, .int .i64 x.a, .int .i64 x.b, .int .i64 x.c, .int .i64 x.d], ⟨0, 0, 0, 0, 0⟩, fun _ => rfl, fun x v hv => by
  simp at hv; rcases hv with rfl | rfl | rfl | rfl | rfl <;> rfl, by omega⟩
/-- An entity. -/
structure Ent1 where
  id : Int
  comps : List Comp
  deriving DecidableEq
/-- An entity, whose components lie at A. -/
structure EntP where
  e : Ent1
  A : Option Addr
  cp : Nat
instance : Flat EntP := ⟨2, fun x => [.int .i64 x.e.id, .slice x.A x.e.comps.length x.cp], ⟨⟨0, []⟩, none, 0⟩, fun _ => rfl, fun x v hv => by
  simp at hv; rcases hv with rfl | rfl <;> rfl, by omega⟩
/-- The entities at A, with their components. -/
def RdW (w : World) (A : Option Addr) (l : List EntP) : Prop := Rd w A l ∧ ∀ x ∈ l, Rd w x.A x.e.comps
theorem RdW.ext {w w' : World} {A : Option Addr} {l : List EntP} (h : RdW w A l) (he : Ext w w') : RdW w' A l := ⟨h.1.ext he, fun x hx => (h.2 x hx).ext he⟩
theorem RdW.at {w : World} {A : Option Addr} {l : List EntP} (h : RdW w A l) {k : Nat} (hk : k < l.length) : Rd w (l.getD k Flat.dflt).A (l.getD k Flat.dflt).e.comps := h.2 _ (getD_mem hk)
def knw (A : Option Addr) (l : List EntP) : HP := kno fun w => RdW w A l
section
variable {w0 w : World} {H R G : List HP} {A : Option Addr} {l : List EntP}
theorem Wd.kw (h : Wd w0 H w) (hs : Split H (knw A l) R) : RdW w A l := h.kn hs
theorem Wd.kw1 (h : Wd w0 H w) (hs : Split H (knw A l) R) : Rd w A l := (h.kn hs).1
theorem Wd.kw2 (h : Wd w0 H w) (hs : Split H (knw A l) R) {k : Nat} (hk : k < l.length) : Rd w (l.getD k Flat.dflt).A (l.getD k Flat.dflt).e.comps := (h.kw hs).at hk
theorem rdw_via (hw : Wd w0 H w) (h : RdW w0 A l) : RdW w A l := h.ext hw.ext
theorem rdw_via1 (hw : Wd w0 H w) (h : RdW w0 A l) : Rd w A l := (h.ext hw.ext).1
theorem rdw_via2 (hw : Wd w0 H w) (h : RdW w0 A l) {k : Nat} (hk : k < l.length) : Rd w (l.getD k Flat.dflt).A (l.getD k Flat.dflt).e.comps := (h.ext hw.ext).at hk
end
theorem rdX {p : Prop} (h : p := by first | exact rd_via (by assumption) (by assumption) | exact Wd.rd (by assumption) spL | exact rdw_via1 (by assumption) (by assumption) | exact rdw_via2 (by assumption) (by assumption) (by omega) | exact Wd.kw1 (by assumption) spL | exact Wd.kw2 (by assumption) spL (by omega) | exact Wd.rd1 (by assumption) spL | exact Wd.rd2 (by assumption) spL | exact Wd.rdx (by assumption) spL) : p := h
theorem rwX {p : Prop} (h : p := by first | exact rdw_via (by assumption) (by assumption) | exact Wd.kw (by assumption) spL) : p := h
end Go.Fw
