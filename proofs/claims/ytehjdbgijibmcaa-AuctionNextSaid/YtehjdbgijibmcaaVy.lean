/- Lists of pieces; a row's beginning; a slice that was appended to is appended to again. -/
import Derived.Test.YtehjdbgijibmcaaVx
set_option linter.unusedSimpArgs false
set_option linter.unusedVariables false
namespace Go.Fw
open Go.RowKit

section
variable {ι : Type} {d : ι} {H : List HP}
theorem split_map (f : ι → HP) : ∀ (L : List ι) (k : Nat), k < L.length → Split (L.map f ++ H) (f (L.getD k d)) ((L.eraseIdx k).map f ++ H)
  | [], k, h => absurd h (Nat.not_lt_zero k)
  | x :: L, 0, _ => Split.head
  | x :: L, k + 1, h => Split.tail (split_map f L k (by simpa using h))
theorem ent_map_open {f : ι → HP} {L : List ι} {k : Nat} (h : k < L.length) : Ent (L.map f ++ H) (f (L.getD k d) :: ((L.eraseIdx k).map f ++ H)) := ent_cons (split_map f L k h) (ent_refl _)
theorem ent_map_close {f : ι → HP} {x : ι} : ∀ {L : List ι} {k : Nat}, k < L.length → Ent (f x :: ((L.eraseIdx k).map f ++ H)) ((L.set k x).map f ++ H)
  | [], k, h => absurd h (Nat.not_lt_zero k)
  | y :: L, 0, _ => ent_refl _
  | y :: L, k + 1, h => ent_cons (Split.tail Split.head) (ent_map_close (by simpa using h))
theorem ent_map_back {f : ι → HP} : ∀ {L : List ι} {k : Nat}, k < L.length → Ent (f (L.getD k d) :: ((L.eraseIdx k).map f ++ H)) (L.map f ++ H)
  | [], k, h => absurd h (Nat.not_lt_zero k)
  | y :: L, 0, _ => ent_refl _
  | y :: L, k + 1, h => ent_cons (Split.tail Split.head) (ent_map_back (L := L) (k := k) (by simpa using h))
theorem ent_map_imp {f g : ι → HP} (h : ∀ x G, Ent (f x :: G) (g x :: G)) : ∀ (L : List ι), Ent (L.map f ++ H) (L.map g ++ H)
  | [] => ent_refl _
  | x :: L => (ent_cons Split.head (ent_map_imp h L)).trans (h x _)
end
section
variable {α : Type} [F : Flat α] {w0 w : World} {H R G : List HP} {e : TypeId} {A A' : Option Addr} {cp cp' : Nat} {l L : List α}
theorem den_row_pre {p : Part} (h : l <+: L) (hd : den (orow e A cp L) p) : den (orow e A cp l) p := by
  have hl := h.length_le
  refine ⟨encs_len l, ?_⟩
  rcases hd.2 with ⟨h1, h2, h3⟩ | ⟨g, cur, h1, h2, h3, h4, h5, h6⟩
  · exact .inl ⟨h1, by omega, h3⟩
  · refine .inr ⟨g, cur, h1, h2, by omega, h4, h5, ?_⟩
    have e1 : l = L.take l.length := List.prefix_iff_eq_take.1 h
    have e2 : encs l = (encs L).take (l.length * F.sz) := by
      conv => lhs; rw [e1]
      rw [encs_take]
    rw [e2, ← h6, List.take_take, Nat.min_eq_left (Nat.mul_le_mul_right _ hl)]
theorem ent_row_pre (hp : l <+: L) (h : Split H (orow e A cp L) R) (hg : Ent R G) : Ent H (orow e A cp l :: G) := (ent_cons h hg).trans (ent_imp fun _ hd => den_row_pre hp hd)
theorem rd_pre (h : Rd w A L) (hp : l <+: L) : Rd w A l := by
  have := h.take l.length
  rwa [← List.prefix_iff_eq_take.1 hp] at this
theorem ent_row_twin (h : Split H (orow e A cp l) R) (hg : Ent R G) : Ent H (twin e A cp l A cp l :: G) := (ent_cons h hg).trans (ent_imp fun _ hd => .inl ⟨rfl, rfl, List.prefix_refl _, hd⟩)
theorem ent_twin_row (h : Split H (twin e A cp l A' cp' L) R) (hg : Ent R G) : Ent H (orow e A cp l :: G) := (ent_cons h hg).trans ⟨fun p hp => by
  obtain ⟨p1, p2, hx, hs, hd, rfl⟩ := hp
  rcases hx with ⟨rfl, rfl, hpre, hx⟩ | ⟨q1, q2, h1, _, hd', rfl⟩
  · exact ⟨_, ⟨p1, p2, den_row_pre hpre hx, hs, hd, rfl⟩, fun _ _ h => h⟩
  · refine ⟨pjoin q1 p2, ⟨q1, p2, h1, hs, fun k => ?_, rfl⟩, fun k o hk => ?_⟩
    · rcases hd k with h | h
      · exact .inl (pjoin_none.1 h).1
      · exact .inr h
    · unfold pjoin at hk ⊢
      cases hq : q1 k with
      | some o' => rw [hq] at hk; exact hk
      | none =>
        rw [hq] at hk
        rcases hd k with h | h
        · rw [(pjoin_none.1 h).2]; exact hk
        · rw [h] at hk; cases hk⟩
theorem twin_cases (h : Wd w0 (twin e A cp l A' cp' L :: R) w) : (A' = A ∧ cp' = cp ∧ l <+: L ∧ Wd w0 (orow e A' cp' L :: R) w) ∨ Wd w0 (orow e A cp l :: orow e A' cp' L :: R) w := by
  obtain ⟨h0, p, ⟨p1, p2, hx, hs, hd, rfl⟩, hp⟩ := h
  rcases hx with ⟨rfl, rfl, hpre, hx⟩ | ⟨q1, q2, h1, h2, hd', rfl⟩
  · exact .inl ⟨rfl, rfl, hpre, h0, _, ⟨p1, p2, hx, hs, hd, rfl⟩, hp⟩
  · refine .inr ⟨h0, pjoin q1 (pjoin q2 p2), ⟨q1, pjoin q2 p2, h1, ⟨q2, p2, h2, hs, fun k => ?_, rfl⟩, fun k => ?_, rfl⟩, fun k o hk => hp k o ?_⟩
    · rcases hd k with h | h
      · exact .inl (pjoin_none.1 h).2
      · exact .inr h
    · rcases hd' k with h | h
      · exact .inl h
      · rcases hd k with h' | h'
        · exact .inl (pjoin_none.1 h').1
        · exact .inr (pjoin_none.2 ⟨h, h'⟩)
    · unfold pjoin at hk ⊢
      cases hq : q1 k with
      | some o' => rw [hq] at hk; exact hk
      | none => rw [hq] at hk; exact hk
theorem wd_twin (hp : l <+: L) (h : Wd w0 (orow e A cp L :: R) w) : Wd w0 (twin e A cp l A cp L :: R) w := Ent.wd (ent_imp (Y := twin e A cp l A cp L) fun _ hd => Or.inl ⟨rfl, rfl, hp, hd⟩) h
theorem wd_twin2 (h : Wd w0 (orow e A cp l :: orow e A' cp' L :: R) w) : Wd w0 (twin e A cp l A' cp' L :: R) w := Ent.wd (ent_join (Z := twin e A cp l A' cp' L) fun p q hp hq hd => Or.inr ⟨p, q, hp, hq, hd, rfl⟩) h
section
variable {md : Md} {P : Program} {n : Nat} {Q : HQ} {f : Fr} {w0 : World} {H R : List HP} {ops : Array Oper} {rest : List Oper} {d : Nat} {op : Op} {ty : TypeId} {pos : String} {aft : Array Edge} {v : Value} {x y c : Operand}
theorem app3 {t e : TypeId} {sz by_ : Nat} {A A1 B : Option Addr} {m cp c1 kk c2 : Nat} {l L l2 : List α} [ht : TSl P t e sz by_] [he : TEl P e sz by_] (hm : addOK md = true)
    (hx : ev n f x = .slice A1 m c1) (hy : ev n f y = .slice B kk c2) (hs : Split H (twin e A cp l A1 c1 L) R) (hsrc : ∀ w, Wd w0 H w → Rd w B l2) (hsz : sz = F.sz) (hml : m = L.length) (hkl : kk = l2.length)
    (hbig : (L.length + l2.length) * by_ ≤ 140737488355328) (h63 : L.length + l2.length ≤ 140737488355328)
    (k : ∀ A' cp', keeps md (twin e A cp l A' cp' (L ++ l2) :: R) ∧ SH (nx md) P n ops Q rest (upd f d (.slice A' (L ++ l2).length cp')) w0 (twin e A cp l A' cp' (L ++ l2) :: R)) :
    SH md P n ops Q (⟨some d, .call { callee := .builtin .append, args := #[x, y], argTypes := #[t, t] }, ty, pos, aft, none⟩ :: rest) f w0 H := by
  subst hsz hml hkl
  refine s_mut hm fun w hw => ?_
  rcases twin_cases (hs.wd hw) with ⟨rfl, rfl, hpre, hw1⟩ | hw1
  · obtain ⟨A', cp', w1, hr, ho, hg, hc⟩ := append_ex (P := P) (ty := ty) (c2 := c2) (t := t) (hw1.own Split.head) (hsrc w hw) (encs_len l2) (encs_one l2) hbig h63 hw1.1.size
    rw [← encs_append, ← List.length_append] at ho
    rw [← List.length_append] at hr
    refine wl_val (v := .slice A' (L ++ l2).length cp') (w' := w1) ?_ (wl_nil ⟨rfl, _, (k A' cp').1, (k A' cp').2, ?_⟩)
    · intro d pos aft g
      simp [execOp, resolve, invoke, builtin, hx, hy, hr]
    · rcases hc with ⟨rfl, rfl, _⟩ | ⟨hext, hnew, _⟩
      · exact wd_twin (hpre.trans (List.prefix_append ..)) (hw1.row Split.head hg ho fun k hk => .inl hk)
      · have h1 := hw1.newRow (e := e) (sz := F.sz) (A := A') (m := (L ++ l2).length) (cp := cp') (cs := encs (L ++ l2)) hext (by
          refine ⟨ho.1, ?_⟩
          rcases ho.2 with h2 | ⟨g, cap, cur, hv, _, r⟩
          · exact .inl h2
          · exact .inr ⟨g, cap, cur, hv, by injection hv with hA; exact hnew g (by rw [hA]; rfl), r⟩)
        refine wd_twin2 (Ent.wd ?_ h1)
        exact ent_row_pre hpre (Split.tail Split.head) (ent_cons Split.head (ent_refl _))
  · obtain ⟨A', cp', w1, hr, ho, hg, hc⟩ := append_ex (P := P) (ty := ty) (c2 := c2) (t := t) (hw1.own (Split.tail Split.head)) (hsrc w hw) (encs_len l2) (encs_one l2) hbig h63 hw1.1.size
    rw [← encs_append, ← List.length_append] at ho
    rw [← List.length_append] at hr
    refine wl_val (v := .slice A' (L ++ l2).length cp') (w' := w1) ?_ (wl_nil ⟨rfl, _, (k A' cp').1, (k A' cp').2, ?_⟩)
    · intro d pos aft g
      simp [execOp, resolve, invoke, builtin, hx, hy, hr]
    · refine wd_twin2 (Ent.wd (ent_cons (Split.tail Split.head) (ent_cons Split.head (ent_refl _))) (hw1.row (Split.tail Split.head) hg ho fun k hk => ?_))
      rcases hc with ⟨rfl, _, _⟩ | ⟨_, hnew, _⟩
      · exact .inl hk
      · exact .inr (hnew k hk)
theorem ox_nil {P : Program} {n : Nat} {f : Fr} {w : World} {ty : TypeId} {a : Addr} (hx : ev n f x = .pointer (some a)) : OX P n f (.nilCheck x) ty w (.pointer (some a)) w := by
  intro d pos aft g
  simp [execOp, hx]
theorem nlc {a : Addr} (hx : ev n f x = .pointer (some a)) (k : SH (nx md) P n ops Q rest (upd f d (.pointer (some a))) w0 H) : SH md P n ops Q (⟨some d, .nilCheck x, ty, pos, aft, none⟩ :: rest) f w0 H := s_val (fun w hw => ox_nil hx) k
/-- An element that is a slice is loaded, of which it is known what it is. -/
theorem lsl {t : TypeId} {z : Value} {A A1 : Option Addr} {m c1 i : Nat} {l : List SliceV} [TOne P t z] (hx : ev n f x = .pointer (some ((adr A).add (i * 1)))) (hr : ∀ w, Wd w0 (vis md H) w → Rd w A l) (h1 : i < l.length) (hg : l.getD i Flat.dflt = ⟨A1, m, c1⟩)
    (k : SH (nx md) P n ops Q rest (upd f d (.slice A1 m c1)) w0 H) : SH md P n ops Q (⟨some d, .load t x, ty, pos, aft, none⟩ :: rest) f w0 H := lr1 (α := SliceV) hx hr rfl h1 (by rw [hg]; rfl) k
theorem st1 {t e : TypeId} {z : Value} {A : Option Addr} {cp i : Nat} {l : List α} (x' : α) [h : TOne P t z] (hm : addOK md = true) (hx : ev n f x = .pointer (some ((adr A).add (i * 1)))) (hy : ev n f y = v) (hs : Split H (orow e A cp l) R) (hsz : 1 = F.sz) (hi : i < l.length) (hv : v.cells = #[v]) (hone : v.oneCell' = true)
    (hx' : F.enc x' = [v]) (hk : keeps md (orow e A cp (l.set i x') :: R)) (k : SH (nx md) P n ops Q rest f w0 (orow e A cp (l.set i x') :: R)) : SH md P n ops Q (⟨none, .store t x y, ty, pos, aft, none⟩ :: rest) f w0 H :=
  s_wh hm (wh_setR (off := 0) (cs := [v]) (x' := x') hx hy hs hsz hi (by rw [hv]) (fun w => h.siz w) (by simp [hone]) (by simp) (by rw [hx', List.drop_of_length_le (by rw [F.len, ← hsz]; simp)]; simp) (wh_nil ⟨rfl, hk, k⟩))
/-- A loop whose body does not come to its end. -/
theorem v_loop_none {c : Code} (h : VH P n c (thenH (fun _ _ => False) Q) f w0 H) : VH P n (.loop c) Q f w0 H := by
  have hm : ∀ g : Fr, mix [] g f = f := fun g => rfl
  refine v_loop0 (α := Unit) [] (fun _ => []) (fun _ => True) (fun _ => 0) () trivial trivial fun x g _ => ?_
  show VH P n c _ (mix [] g f) w0 H
  rw [hm]
  exact h.mono fun e f' H' ⟨h1⟩ => ⟨by
    cases e with
    | normal => exact h1.elim
    | _ => exact h1⟩
theorem v_cap {c : Code} {A : Option Addr} {cp : Nat} {e : TypeId} {l : List α} (hs : Split H (orow e A cp l) R) (k : l.length ≤ cp → VH P n c Q f w0 H) : VH P n c Q f w0 H := ⟨fun w hw => (k (own_cap (hw.own hs)).1).out w hw⟩
end
end
end Go.Fw
