/- One row out of many, and back. -/
import Derived.Test.YtlfbcoohfnoacaaGreatYWp
set_option linter.unusedSimpArgs false
set_option linter.unusedVariables false
namespace Go.Fw
open Go.RowKit
section
variable {ι : Type} {d : ι} {f : ι → HP} {L : List ι} {k : Nat} {H G : List HP}
theorem ent_all_open (h : k < L.length) : Ent (allH (L.map f) :: G) (f (L.getD k d) :: allH ((L.eraseIdx k).map f) :: G) :=
  (ent_all_out _).trans ((ent_map_open h).trans (ent_cons Split.head (ent_all_in _)))
theorem ent_all_close {x : ι} (h : k < L.length) : Ent (f x :: allH ((L.eraseIdx k).map f) :: G) (allH ((L.set k x).map f) :: G) :=
  (ent_cons Split.head (ent_all_out _)).trans ((ent_map_close h).trans (ent_all_in _))
theorem ent_all_back (h : k < L.length) : Ent (f (L.getD k d) :: allH ((L.eraseIdx k).map f) :: G) (allH (L.map f) :: G) :=
  (ent_cons Split.head (ent_all_out _)).trans ((ent_map_back h).trans (ent_all_in _))
end
end Go.Fw
