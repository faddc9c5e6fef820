/- Layer 36 (party): halls in memory: parties whose members and invitations lie in rows of their own. -/
import Derived.Test.YtlfbcoohfnoacaaGreatYWp
import Derived.Test.YtlfbcoohfnoacaaGreatYWr
import Derived.Test.YtlfbcoohfnoacaaGreatYPa
set_option linter.unusedSimpArgs false
set_option linter.unusedVariables false
namespace Go.Proofs.YtlfbcoohfnoacaaGreat
open Go.Fw Go.RowKit
instance : Flat Inv := ⟨2, fun x => [.int .i64 x.who, .int .i64 x.till], ⟨0, 0⟩, fun _ => rfl, fun x v hv => by
  simp at hv; rcases hv with rfl | rfl <;> rfl, by omega⟩
/-- A party, whose members lie at A and whose invitations lie at B. -/
structure PtyP where
  p : Pty
  A : Option Addr
  ca : Nat
  B : Option Addr
  cb : Nat
instance : Flat PtyP := ⟨4, fun x => [.int .i64 x.p.id, .int .i64 x.p.leader, .slice x.A x.p.mem.length x.ca, .slice x.B x.p.inv.length x.cb], ⟨pty0, none, 0, none, 0⟩, fun _ => rfl, fun x v hv => by
  simp at hv; rcases hv with rfl | rfl | rfl | rfl <;> rfl, by omega⟩
def ptys (l : List PtyP) : List Pty := l.map PtyP.p
theorem ptys_len (l : List PtyP) : (ptys l).length = l.length := List.length_map ..
theorem ptys_at {l : List PtyP} {k : Nat} (hk : k < l.length) : (ptys l).getD k pty0 = (l.getD k Flat.dflt).p := by
  unfold ptys
  rw [List.getD_eq_getElem?_getD, List.getElem?_map, List.getD_eq_getElem?_getD, List.getElem?_eq_getElem hk]
  rfl
theorem ptys_snoc (l : List PtyP) (x : PtyP) : ptys (l ++ [x]) = ptys l ++ [x.p] := List.map_append ..
theorem ptys_set (l : List PtyP) (k : Nat) (x : PtyP) : ptys (l.set k x) = (ptys l).set k x.p := List.map_set ..
/-- The parties at A, with their members and invitations. -/
def RdP (w : World) (A : Option Addr) (l : List PtyP) : Prop := Rd w A l ∧ ∀ x ∈ l, Rd w x.A x.p.mem ∧ Rd w x.B x.p.inv
theorem RdP.ext {w w' : World} {A : Option Addr} {l : List PtyP} (h : RdP w A l) (he : Ext w w') : RdP w' A l := ⟨h.1.ext he, fun x hx => ⟨(h.2 x hx).1.ext he, (h.2 x hx).2.ext he⟩⟩
theorem RdP.mem {w : World} {A : Option Addr} {l : List PtyP} (h : RdP w A l) {k : Nat} (hk : k < l.length) : Rd w (l.getD k Flat.dflt).A (l.getD k Flat.dflt).p.mem := (h.2 _ (getD_mem hk)).1
theorem RdP.inv {w : World} {A : Option Addr} {l : List PtyP} (h : RdP w A l) {k : Nat} (hk : k < l.length) : Rd w (l.getD k Flat.dflt).B (l.getD k Flat.dflt).p.inv := (h.2 _ (getD_mem hk)).2
def knp (A : Option Addr) (l : List PtyP) : HP := kno fun w => RdP w A l
section
variable {w0 w : World} {H R G : List HP} {A : Option Addr} {l : List PtyP}
theorem Wd.kp (h : Wd w0 H w) (hs : Split H (knp A l) R) : RdP w A l := h.kn hs
theorem Wd.kp1 (h : Wd w0 H w) (hs : Split H (knp A l) R) : Rd w A l := (h.kn hs).1
theorem rdp_via (hw : Wd w0 H w) (h : RdP w0 A l) : RdP w A l := h.ext hw.ext
/-- A hall's own rows are known. -/
theorem ent_knp {e em ei : TypeId} {c : Nat} : Ent (orow e A c l :: allH (l.map fun x => orow em x.A x.ca x.p.mem) :: allH (l.map fun x => orow ei x.B x.cb x.p.inv) :: G) (knp A l :: G) := by
  have h1 : Ent (allH (l.map fun x => orow em x.A x.ca x.p.mem) :: allH (l.map fun x => orow ei x.B x.cb x.p.inv) :: G) (kno (fun w => ∀ x ∈ l, Rd w x.A x.p.mem) :: allH (l.map fun x => orow ei x.B x.cb x.p.inv) :: G) :=
    (ent_all_out _).trans (ent_kno_map (fun x G => ent_kno_row Split.head (ent_refl _)) l)
  have h2 : Ent (allH (l.map fun x => orow ei x.B x.cb x.p.inv) :: G) (kno (fun w => ∀ x ∈ l, Rd w x.B x.p.inv) :: G) :=
    (ent_all_out _).trans (ent_kno_map (fun x G => ent_kno_row Split.head (ent_refl _)) l)
  have h3 : Ent (orow e A c l :: allH (l.map fun x => orow em x.A x.ca x.p.mem) :: allH (l.map fun x => orow ei x.B x.cb x.p.inv) :: G) (kno (fun w => Rd w A l) :: kno (fun w => ∀ x ∈ l, Rd w x.A x.p.mem) :: kno (fun w => ∀ x ∈ l, Rd w x.B x.p.inv) :: G) :=
    ent_kno_row Split.head (h1.trans (ent_cons Split.head h2))
  refine h3.trans ((ent_cons Split.head ent_kno_and).trans (ent_kno_and.trans (ent_kno_imp (fun w h => ⟨h.1, fun x hx => ⟨h.2.1 x hx, h.2.2 x hx⟩⟩) Split.head (ent_refl _))))
end
/-- What is read through knowledge of a hall. -/
theorem rd_thp {α : Type} [Flat α] {w0 w : World} {H R : List HP} {A B : Option Addr} {L : List PtyP} {l : List α} (h : ∀ w, RdP w A L → Rd w B l) (hw : Wd w0 H w) (hs : Split H (knp A L) R) : Rd w B l := h w (Wd.kp hw hs)
attribute [irreducible] knp
theorem rdP {p : Prop} (h : p := by first | exact rd_via (by assumption) (by assumption) | exact Wd.kp1 (by assumption) spL | exact rd_thp (by assumption) (by assumption) spL | exact Wd.rd (by assumption) spL | exact Wd.rd1 (by assumption) spL | exact Wd.rd2 (by assumption) spL) : p := h
end Go.Proofs.YtlfbcoohfnoacaaGreat
