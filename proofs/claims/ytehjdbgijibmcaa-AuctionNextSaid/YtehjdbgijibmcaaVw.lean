/- More rules for memory: a slice that is appended to and read on; slices made with elements; numbers of all kinds. -/
import Derived.Test.YtehjdbgijibmcaaVr
set_option linter.unusedSimpArgs false
set_option linter.unusedVariables false
namespace Go.Fw
open Go.RowKit

/-- In a round of a loop that writes the slots S: the frame is forgotten, but for the slots of l and all that lie outside S. -/
theorem v_normS {P : Program} {n : Nat} {Q : HQ} {f : Fr} {w0 : World} {H : List HP} {c : Code} (S : List (Nat × Nat)) (f0 : Fr) (ha : Agree S f f0) (l : List (Nat × Value)) (h : Has f l) (k : ∀ g, VH P n c Q (sets (mix S g f0) l) w0 H) : VH P n c Q f w0 H := by
  have := k f
  rwa [← ha.mix_eq, sets_has h] at this
/-- A number of the kind k. -/
structure NumK (k : IntKind) where
  n : Int
  deriving DecidableEq
instance (k : IntKind) : Flat (NumK k) := ⟨1, fun x => [.int k x.n], ⟨0⟩, fun _ => rfl, fun x v hv => by simp at hv; subst hv; rfl, by omega⟩

theorem ent_join {X Y Z : HP} {R : List HP} (h : ∀ p q, den X p → den Y q → Dis p q → den Z (pjoin p q)) : Ent (X :: Y :: R) (Z :: R) := ⟨fun p hp => by
  obtain ⟨p1, p23, hx, ⟨p2, p3, hy, hs, hd2, rfl⟩, hd1, rfl⟩ := hp
  refine ⟨pjoin (pjoin p1 p2) p3, ⟨pjoin p1 p2, p3, h p1 p2 hx hy (fun k => ?_), hs, fun k => ?_, rfl⟩, fun k o ho => ?_⟩
  · rcases hd1 k with h1 | h1
    · exact .inl h1
    · exact .inr (pjoin_none.1 h1).1
  · rcases hd2 k with h2 | h2
    · rcases hd1 k with h1 | h1
      · exact .inl (pjoin_none.2 ⟨h1, h2⟩)
      · exact .inr (pjoin_none.1 h1).2
    · exact .inr h2
  · unfold pjoin at ho ⊢
    cases h1 : p1 k with
    | some o' => rw [h1] at ho; exact ho
    | none => rw [h1] at ho; exact ho⟩
section
variable {α : Type} [F : Flat α]
/-- The slice at A, which reads as l, was appended to: the slice at A' reads as L; both may be read. -/
def twin (e : TypeId) (A : Option Addr) (cp : Nat) (l : List α) (A' : Option Addr) (cp' : Nat) (L : List α) : HP := .oth fun p =>
  (A' = A ∧ cp' = cp ∧ l <+: L ∧ den (orow e A' cp' L) p) ∨ ∃ p1 p2, den (orow e A cp l) p1 ∧ den (orow e A' cp' L) p2 ∧ Dis p1 p2 ∧ p = pjoin p1 p2
section
variable {w0 w : World} {H R : List HP} {e : TypeId} {A A' : Option Addr} {cp cp' : Nat} {l L : List α}
theorem Wd.rd2 (h : Wd w0 H w) (hs : Split H (twin e A cp l A' cp' L) R) : Rd w A' L := by
  obtain ⟨p, q, hx, _, _, hp, _⟩ := (hs.wd h).open_
  rcases hx with ⟨_, _, _, hx⟩ | ⟨p1, p2, _, hx, hd, rfl⟩
  · exact src_own (row_own hx hp)
  · exact src_own (row_own hx (hp.right hd))
theorem Wd.rd1 (h : Wd w0 H w) (hs : Split H (twin e A cp l A' cp' L) R) : Rd w A l := by
  obtain ⟨p, q, hx, _, _, hp, _⟩ := (hs.wd h).open_
  rcases hx with ⟨rfl, _, hpre, hx⟩ | ⟨p1, p2, hx, _, hd, rfl⟩
  · have h1 : Rd w A' L := src_own (row_own hx hp)
    have := h1.take l.length
    rwa [← List.prefix_iff_eq_take.1 hpre] at this
  · exact src_own (row_own hx hp.left)
end
section
variable {md : Md} {P : Program} {n : Nat} {Q : HQ} {f : Fr} {w0 : World} {H R : List HP} {ops : Array Oper} {rest : List Oper} {d : Nat} {op : Op} {ty : TypeId} {pos : String} {aft : Array Edge} {v : Value} {x y c : Operand}
theorem app2 {t e : TypeId} {sz by_ : Nat} {A B : Option Addr} {m cp kk c2 : Nat} {l l2 : List α} [ht : TSl P t e sz by_] [he : TEl P e sz by_] (hm : addOK md = true)
    (hx : ev n f x = .slice A m cp) (hy : ev n f y = .slice B kk c2) (hs : Split H (orow e A cp l) R) (hsrc : ∀ w, Wd w0 H w → Rd w B l2) (hsz : sz = F.sz) (hml : m = l.length) (hkl : kk = l2.length)
    (hbig : (l.length + l2.length) * by_ ≤ 140737488355328) (h63 : l.length + l2.length ≤ 140737488355328)
    (k : ∀ A' cp', keeps md (twin e A cp l A' cp' (l ++ l2) :: R) ∧ SH (nx md) P n ops Q rest (upd f d (.slice A' (l ++ l2).length cp')) w0 (twin e A cp l A' cp' (l ++ l2) :: R)) :
    SH md P n ops Q (⟨some d, .call { callee := .builtin .append, args := #[x, y], argTypes := #[t, t] }, ty, pos, aft, none⟩ :: rest) f w0 H := by
  subst hsz hml hkl
  refine s_mut hm fun w hw => ?_
  obtain ⟨A', cp', w1, hr, ho, hg, hc⟩ := append_ex (P := P) (ty := ty) (c2 := c2) (t := t) (hw.own hs) (hsrc w hw) (encs_len l2) (encs_one l2) hbig h63 hw.1.size
  rw [← encs_append, ← List.length_append] at ho
  rw [← List.length_append] at hr
  refine wl_val (v := .slice A' (l ++ l2).length cp') (w' := w1) ?_ (wl_nil ⟨rfl, _, (k A' cp').1, (k A' cp').2, ?_⟩)
  · intro d pos aft g
    simp [execOp, resolve, invoke, builtin, hx, hy, hr]
  · rcases hc with ⟨rfl, rfl, _⟩ | ⟨hext, hnew, _⟩
    · exact Ent.wd (ent_imp (Y := twin e A' cp' l A' cp' (l ++ l2)) fun p hp => Or.inl ⟨rfl, rfl, List.prefix_append .., hp⟩) (hw.row hs hg ho fun k hk => .inl hk)
    · have h1 := ((hs.wd hw).newRow (e := e) (sz := F.sz) (A := A') (m := (l ++ l2).length) (cp := cp') (cs := encs (l ++ l2)) hext (by
        refine ⟨ho.1, ?_⟩
        rcases ho.2 with h2 | ⟨g, cap, cur, hv, _, r⟩
        · exact .inl h2
        · exact .inr ⟨g, cap, cur, hv, by injection hv with hA; exact hnew g (by rw [hA]; rfl), r⟩))
      have hcomm : ∀ p q : Part, Dis p q → pjoin p q = pjoin q p := fun p q hd => by
        funext k
        unfold pjoin
        rcases hd k with h | h <;> rw [h]
        · cases q k <;> rfl
        · cases p k <;> rfl
      exact Ent.wd (ent_join (Z := twin e A cp l A' cp' (l ++ l2)) fun p q hp hq hd => Or.inr ⟨q, p, hq, hp, fun k => (hd k).symm, hcomm p q hd⟩) h1
/-- A slice with elements, all zero. -/
theorem mkz {t e : TypeId} {by_ : Nat} {z : Value} {k1 k2 : IntKind} {m cp : Int} [ht : TSl P t e 1 by_] [he : TEl P e 1 by_] (hz : (P.info? e).bind (·.zero) = some z) (hm : addOK md = true) (hx : ev n f x = .int k1 m) (hy : ev n f y = .int k2 cp) (hsz : 1 = F.sz) (hz1 : z.cells = #[z]) (hd : F.enc F.dflt = [z])
    (h0 : 0 ≤ m) (h1 : m ≤ cp) (hbig : cp * by_ ≤ 140737488355328) (h63 : cp ≤ 140737488355328)
    (k : ∀ b, SH (nx md) P n ops Q rest (upd f d (.slice (some ⟨b, 0, none⟩) m.toNat cp.toNat)) w0 (orow e (some ⟨b, 0, none⟩) cp.toNat (List.replicate m.toNat (F.dflt : α)) :: H)) :
    SH md P n ops Q (⟨some d, .makeSlice t x y, ty, pos, aft, none⟩ :: rest) f w0 H := by
  refine s_add hm fun w hw => ?_
  obtain ⟨i, z', hi, hisz, hiby, hz', hzs⟩ := he.inf
  have e1 : z' = z := by rw [hi] at hz; simp only [Option.bind_some] at hz; rw [hz'] at hz; injection hz
  subst e1
  have hrun := run_make (P := P) w t e i z' ht.und hi hz' k1 k2 m cp h0 h1 (by rw [hiby, Int.mul_comm]; omega) (by omega)
  have hmc : m.toNat ≤ cp.toNat := by omega
  refine wl_val (v := .slice (some ⟨w.heap.size, 0, none⟩) m.toNat cp.toNat) (w' := w.alloc (.cells (madeCells z'.cells (cp.toNat * i.size)) e)) ?_ (wl_nil ⟨rfl, Ext.alloc w _, _, k _, hw.newRow (Ext.alloc w _) ?_⟩)
  · intro d pos aft g
    simp [execOp, hx, hy, hrun]
  · have henc : encs (List.replicate m.toNat (F.dflt : α)) = List.replicate m.toNat z' := by
      generalize m.toNat = j
      induction j with
      | zero => rfl
      | succ j ih => rw [List.replicate_succ, encs_cons, ih, hd, List.replicate_succ]; rfl
    rw [henc]
    refine ⟨by rw [List.length_replicate, List.length_replicate, ← hsz, Nat.mul_one], .inr ⟨w.heap.size, cp.toNat, _, by rw [List.length_replicate], Nat.le_refl _, heap_alloc_new w _, by rw [List.length_replicate]; exact hmc, by simp only [maxLen]; omega, by rw [size_madeCells, hisz, ← hsz], ?_⟩⟩
    rw [hz1, toList_madeCells_one, List.length_replicate, ← hsz, List.take_replicate, hisz]
    congr 1
    omega
end
end
end Go.Fw
