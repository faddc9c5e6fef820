/- Package party: drop, leave. -/
import Derived.Test.YtlfbcoohfnoacaaGreatYTwp
import Derived.Test.YtlfbcoohfnoacaaGreatYMp
import Derived.Test.YtlfbcoohfnoacaaGreatYWz
import Derived.Test.YtlfbcoohfnoacaaGreatYUvi
import Derived.Test.YtlfbcoohfnoacaaGreatYUsb
set_option linter.unusedSimpArgs false
set_option linter.unusedVariables false
namespace Go.Proofs.YtlfbcoohfnoacaaGreat
open Go.Fw Go.RowKit
theorem ent_all_erase {f : PtyP → HP} {L : List PtyP} {k : Nat} {G : List HP} (h : k < L.length) : Ent (allH (L.map f) :: G) (allH ((L.eraseIdx k).map f) :: G) := (ent_all_open (d := Flat.dflt) h).trans (ent_drop (ent_refl _))
set_option maxHeartbeats 1000000 in
set_option maxRecDepth 100000 in
theorem drop_spec (t la : Int) (A : Option Addr) (L : List PtyP) (c bh k : Nat) (w0 : World) (H : List HP) (w : World) (hk : k < L.length) (hz : L.length ≤ 1000) (hw : Wd w0 (hallH bh t la A c L H) w) :
    Ret Tryz.prog 80 [.pointer (some ⟨bh, 0, none⟩), .int .i64 k].toArray w (RP w0 fun _ H' => H' = hallH bh t la A c (L.eraseIdx k) H) := by
  refine enterH Tryz.func80 rfl rfl Tryz.ntmps80 rfl (by assumption) ?_
  (repeat' (first | refine r_seq ?_ | (show SH _ _ _ _ _ (_ :: _) _ _ _; first | (show SH _ _ _ _ _ (⟨_, .move _, _, _, _, _⟩ :: _) _ _ _; refine mov evL ?_) | (show SH _ _ _ _ _ (⟨_, .binOp .add _ _ _ _, _, _, _, _⟩ :: _) _ _ _; refine add rfl rfl inL ?_) | (show SH _ _ _ _ _ (⟨_, .load _ _, _, _, _, _⟩ :: _) _ _ _; refine lbx rfl spL (by rfl) ?_) | refine nlc rfl ?_ | refine fad rfl ?_)))
  refine cm rfl (fun w hw => deleteP_spec A L c k w0 (hb36 bh t la A L c :: allH (L.map rowM) :: allH (L.map rowI) :: H) w hk (by omega) (Ent.wd enL hw)) rfl rfl ?_
  rintro _ _ ⟨rfl, rfl⟩
  refine ⟨trivial, ?_⟩
  (repeat' (first | (show SH _ _ _ _ _ (_ :: _) _ _ _; first | refine nlc rfl ?_ | refine fad rfl ?_ | (show SH _ _ _ _ _ (⟨_, .store _ _ _, _, _, _, _⟩ :: _) _ _ _; refine stb rfl rfl evL spL rfl rfl (by first | decide | exact Nat.zero_lt_succ _ | exact of_decide_eq_true rfl) kpL ?_)) | refine s_nil ?_))
  refine rh0n rfl rfl ?_
  refine Ent.trans (B := allH (L.map rowM) :: allH (L.map rowI) :: hb36 bh t la A (L.eraseIdx k) c :: orow 46 A c (L.eraseIdx k) :: H) enL ?_
  exact Ent.trans (ent_all_erase hk) (Ent.trans (ent_cons Split.head (ent_all_erase hk)) enL)
set_option maxRecDepth 100000 in
theorem leave1_spec (n who : Int) (a : Addr) (w : World) (h1 : w.cell? a = some (.int .i64 who)) : Ret Tryz.prog 94 [.int .i64 n, .pointer (some a)].toArray w (Out w (.bool (decide (n = who)))) := by
  refine enterH Tryz.func94 rfl rfl Tryz.ntmps94 rfl (Wd.refl _) ?_
  (repeat' (first | (show VH _ _ _ _ _ _ _; first | refine v_seq ?_ | refine r_seq ?_ | refine v_ret ?_) | (show SH _ _ _ _ _ (_ :: _) _ _ _; first | (show SH _ _ _ _ _ (⟨_, .move _, _, _, _, _⟩ :: _) _ _ _; refine mov evL ?_) | (show SH _ _ _ _ _ (⟨_, .assign _, _, _, _, _⟩ :: _) _ _ _; refine asg evL ?_) | refine eql rfl rfl ?_ | (show SH _ _ _ _ _ (⟨_, .load _ _, _, _, _, _⟩ :: _) _ _ _; refine lcell rfl (fun w hw => hw.ext.cell (by assumption)) ?_)) | refine s_nil ?_ | refine kh_normal ?_))
  exact rh1 rfl rfl ⟨rfl, rfl⟩ (ent_nil _)
theorem set_same {α β : Type} {f : α → β} {L : List α} {k : Nat} {d : α} (hk : k < L.length) : (L.map f).set k (f (L.getD k d)) = L.map f := by
  apply List.ext_getElem (by simp)
  intro i h1 h2
  rw [List.getElem_set]
  split
  · rename_i e; subst e; simp [List.getD_eq_getElem?_getD, hk]
  · rfl
theorem erase_set {α : Type} (L : List α) (k : Nat) (x : α) : (L.set k x).eraseIdx k = L.eraseIdx k := by
  rw [List.eraseIdx_eq_take_drop_succ, List.eraseIdx_eq_take_drop_succ, List.take_set_of_le (Nat.le_refl k), List.drop_set_of_lt (by omega)]
def leaveP (ps : List Pty) (k : Nat) (who : Int) : List Pty :=
  match leftM who (ps.getD k pty0) with
  | none => ps.eraseIdx k
  | some p => ps.set k p
theorem leaveAt_eq (h : Hal) (k : Nat) (who : Int) : leaveAt h k who = ⟨h.tick, h.last, leaveP h.ps k who⟩ := by
  unfold leaveAt leaveP
  cases leftM who (h.ps.getD k pty0) <;> rfl
theorem set_get {L : List PtyP} {k : Nat} (hk : k < L.length) (x : PtyP) : (L.set k x).getD k Flat.dflt = x := by
  rw [List.getD_eq_getElem?_getD, List.getElem?_set_self hk]; rfl
theorem ptys_erase (L : List PtyP) (k : Nat) : ptys (L.eraseIdx k) = (ptys L).eraseIdx k := by
  unfold ptys
  rw [List.eraseIdx_eq_take_drop_succ, List.eraseIdx_eq_take_drop_succ, List.map_append, List.map_take, List.map_drop]
set_option maxHeartbeats 2000000 in
set_option maxRecDepth 100000 in
theorem leave_spec (t la : Int) (A : Option Addr) (L : List PtyP) (c bh k : Nat) (who : Int) (w0 : World) (H : List HP) (w : World) (hk : k < L.length) (hz : SzP L) (hw : Wd w0 (hallH bh t la A c L H) w) :
    Ret Tryz.prog 53 [.pointer (some ⟨bh, 0, none⟩), .int .i64 k, .int .i64 who].toArray w (RP w0 fun _ H' => ∃ L', ptys L' = leaveP (ptys L) k who ∧ H' = hallH bh t la A c L' H) := by
  have hll := hz.len
  have hpk := ptys_at hk
  unfold leaveP leftM
  rw [hpk]
  have hml := hz.atm hk
  obtain ⟨x, hx⟩ : ∃ x, L.getD k Flat.dflt = x := ⟨_, rfl⟩
  have hxE := pty_enc hx
  have hopM : ∀ G, Ent (allH (L.map rowM) :: G) (rowM x :: allH ((L.eraseIdx k).map rowM) :: G) := fun G => by
    have := ent_all_open (f := rowM) (L := L) (k := k) (d := Flat.dflt) (G := G) hk
    rw [hx] at this
    exact this
  have hcM : ∀ y G, Ent (rowM y :: allH ((L.eraseIdx k).map rowM) :: G) (allH ((L.set k y).map rowM) :: G) := fun y G => ent_all_close hk
  have hcI : ∀ y : PtyP, rowI y = rowI x → (L.set k y).map rowI = L.map rowI := fun y hy => by
    rw [List.map_set, hy, ← hx]
    exact set_same (f := rowI) hk
  rw [hx] at hml ⊢
  have hpe := ptys_erase L k
  have hps := ptys_set L k
  clear hx hpk
  obtain ⟨⟨xi, xl, xm, xv⟩, xA, xca, xB, xcb⟩ := x
  simp only at hml hxE hopM hcI ⊢
  unfold rowM at hopM
  obtain ⟨F, hF⟩ : ∃ F, xm.filter (fun n => !decide (n = who)) = F := ⟨_, rfl⟩
  have hFl : F.length ≤ xm.length := by rw [← hF]; exact List.length_filter_le ..
  rw [hF]
  refine enterH Tryz.func53 rfl rfl Tryz.ntmps53 rfl (by assumption) ?_
  (repeat' (first | (show VH _ _ _ _ _ _ _; first | refine v_seq ?_ | refine r_seq ?_) | (show SH _ _ _ _ _ (_ :: _) _ _ _; first | (show SH _ _ _ _ _ (⟨_, .move _, _, _, _, _⟩ :: _) _ _ _; refine mov evL ?_) | (show SH _ _ _ _ _ (⟨_, .assign _, _, _, _, _⟩ :: _) _ _ _; refine asg evL ?_) | (show SH _ _ _ _ _ (⟨_, .load _ _, _, _, _, _⟩ :: _) _ _ _; first | refine lbx rfl spL (by rfl) ?_ | refine lrg rfl (fun _ _ => rdP) (by rfl) omL (by assumption) (by rfl) ?_) | (show SH _ _ _ _ _ (⟨_, .indexAddr _ _ _, _, _, _, _⟩ :: _) _ _ _; refine ix rfl rfl (by with_reducible rfl) (fun _ _ => rdP) (by rfl) omL omL ?_) | refine nlc rfl ?_ | refine fad rfl ?_ | (show SH _ _ _ _ _ (⟨_, .makeFunc _ _ _, _, _, _, _⟩ :: _) _ _ _; refine mf1 evL ?_) | (show SH _ _ _ _ _ (⟨_, .box _ _, _, _, _, _⟩ :: _) _ _ _; refine bxx rfl evL rfl (fun b => ?_))) | refine s_nil ?_ | refine kh_normal ?_))
  revert b
  intro b5
  refine cm rfl (fun w2 hw2 => without_spec xA xm xca _ (fun n => decide (n = who)) w0 (bx b5 3 [.int .i64 who] :: hb36 bh t la A L c :: allH ((L.eraseIdx k).map rowM) :: orow 46 A c L :: allH (L.map rowI) :: H) w2 (by omega) ⟨94, #[], #[.pointer (some ⟨b5, 0, none⟩)], rfl, fun w' hw' n _ => leave1_spec n who _ w' (hw'.cell (cs := [.int .i64 who]) spL rfl)⟩ (Ent.wd ((show Ent _ (allH (L.map rowM) :: bx b5 3 [.int .i64 who] :: hb36 bh t la A L c :: orow 46 A c L :: allH (L.map rowI) :: H) from enL).trans ((hopM _).trans enL)) hw2)) rfl rfl ?_
  rintro _ _ ⟨rfl, rfl⟩
  refine ⟨trivial, ?_⟩
  rw [hF]
  (repeat' ((show SH _ _ _ _ _ (_ :: _) _ _ _; first | refine nlc rfl ?_ | refine fad rfl ?_)))
  refine stf (⟨⟨xi, xl, F, xv⟩, xA, xca, xB, xcb⟩ : PtyP) rfl rfl rfl spL rfl (by omega) rfl rfl (by decide) (by rw [hxE]; rfl) trivial ?_
  have hset := set_get hk (⟨⟨xi, xl, F, xv⟩, xA, xca, xB, xcb⟩ : PtyP)
  have hDE := pty_enc hset
  have hDl : (L.set k (⟨⟨xi, xl, F, xv⟩, xA, xca, xB, xcb⟩ : PtyP)).length = L.length := List.length_set ..
  have hDe : (L.set k (⟨⟨xi, xl, F, xv⟩, xA, xca, xB, xcb⟩ : PtyP)).eraseIdx k = L.eraseIdx k := erase_set ..
  have hDs : ∀ y : PtyP, (L.set k (⟨⟨xi, xl, F, xv⟩, xA, xca, xB, xcb⟩ : PtyP)).set k y = L.set k y := fun y => List.set_set ..
  have hcM1 := hcM (⟨⟨xi, xl, F, xv⟩, xA, xca, xB, xcb⟩ : PtyP)
  have hcI1 := hcI (⟨⟨xi, xl, F, xv⟩, xA, xca, xB, xcb⟩ : PtyP) rfl
  have hps1 := hps (⟨⟨xi, xl, F, xv⟩, xA, xca, xB, xcb⟩ : PtyP)
  generalize L.set k (⟨⟨xi, xl, F, xv⟩, xA, xca, xB, xcb⟩ : PtyP) = D at hDE hDl hDe hDs hcM1 hcI1 hps1 ⊢
  clear hset hxE hopM
  simp only at hDE hps1
  rw [show hb36 bh t la A L c = hb36 bh t la A D c by unfold hb36; rw [hDl]]
  have hend : ∀ G, Ent (orow 3 xA xca F :: allH ((L.eraseIdx k).map rowM) :: hb36 bh t la A D c :: orow 46 A c D :: allH (L.map rowI) :: G) (hallH bh t la A c D G) := fun G => (hcM1 _).trans (by rw [← hcI1]; exact enL)
  clear hcM1 hcI1
  cases F with
  | nil =>
    simp only [List.length_nil] at hDE
    (repeat' (first | (show VH _ _ _ _ _ _ _; first | refine v_seq ?_ | refine r_seq ?_ | refine v_block ?_ | refine v_cond_t rfl tbL ?_) | (show SH _ _ _ _ _ (_ :: _) _ _ _; first | (show SH _ _ _ _ _ (⟨_, .move _, _, _, _, _⟩ :: _) _ _ _; refine mov evL ?_) | (show SH _ _ _ _ _ (⟨_, .assign _, _, _, _, _⟩ :: _) _ _ _; refine asg evL ?_) | (show SH _ _ _ _ _ (⟨_, .binOp .eql _ _ _ _, _, _, _, _⟩ :: _) _ _ _; refine eqlT rfl rfl omD ?_) | (show SH _ _ _ _ _ (⟨_, .load _ _, _, _, _, _⟩ :: _) _ _ _; refine lrg rfl (fun _ _ => rdP) (by rfl) omL (by assumption) (by rfl) ?_) | refine slen rfl ?_ | refine nlc rfl ?_ | refine fad rfl ?_) | refine s_nil ?_ | refine kh_normal ?_))
    refine cm rfl (fun w2 hw2 => drop_spec t la A D c bh k w0 H w2 (by omega) (by omega) (Ent.wd (Ent.trans enL (hend H)) hw2)) rfl rfl ?_
    rintro _ _ rfl
    refine ⟨trivial, ?_⟩
    (repeat' (first | refine s_nil ?_ | refine bh_normal ?_))
    exact rh0n rfl ⟨D.eraseIdx k, by rw [hDe]; exact hpe, rfl⟩ enL
  | cons y F =>
    simp only [List.length_cons] at hDE
    by_cases hl : xl = who
    · (repeat' (first | (show VH _ _ _ _ _ _ _; first | refine v_seq ?_ | refine r_seq ?_ | refine r_quiet hmix (by kernel_rfl) ?_ | refine v_block ?_ | refine v_cond_t rfl tbL ?_ | refine v_cond_f rfl tbL ?_) | (show SH _ _ _ _ _ (_ :: _) _ _ _; first | (show SH _ _ _ _ _ (⟨_, .move _, _, _, _, _⟩ :: _) _ _ _; refine mov evL ?_) | (show SH _ _ _ _ _ (⟨_, .assign _, _, _, _, _⟩ :: _) _ _ _; refine asg evL ?_) | (show SH _ _ _ _ _ (⟨_, .binOp .eql _ _ _ _, _, _, _, _⟩ :: _) _ _ _; first | refine eqlT rfl rfl omD ?_ | refine eqlF rfl rfl omD ?_) | (show SH _ _ _ _ _ (⟨_, .load _ _, _, _, _, _⟩ :: _) _ _ _; first | refine lbx rfl spL (by rfl) ?_ | refine lrg rfl (fun _ _ => rdP) (by rfl) omL (by assumption) (by rfl) ?_) | (show SH _ _ _ _ _ (⟨_, .indexAddr _ _ _, _, _, _, _⟩ :: _) _ _ _; first | refine ixi rfl rfl (fun _ _ => rdP) (by rfl) omL omL omL ?_ | refine ixi rfl rfl (fun _ _ => rdP) (by rfl) omL (by first | omega | (simp only [List.length_cons, List.length_nil]; omega)) (by simp only [List.length_cons, List.length_nil]; omega) ?_) | refine slen rfl ?_ | refine nlc rfl ?_ | refine fad rfl ?_) | refine s_nil ?_ | refine kh_normal ?_))
      refine lin (l := y :: F) rfl (fun w hw => hw.rd spL) (Nat.zero_lt_succ _) ?_
      (repeat' ((show SH _ _ _ _ _ (_ :: _) _ _ _; first | refine nlc rfl ?_ | refine fad rfl ?_)))
      refine stf (⟨⟨xi, y, y :: F, xv⟩, xA, xca, xB, xcb⟩ : PtyP) rfl rfl rfl spL rfl (by omega) rfl rfl (by decide) (by rw [hDE]; rfl) trivial ?_
      rw [hDs]
      (repeat' (first | refine s_nil ?_ | refine bh_normal ?_))
      refine rh0n rfl ⟨L.set k (⟨⟨xi, y, y :: F, xv⟩, xA, xca, xB, xcb⟩ : PtyP), by show _ = (ptys L).set k ⟨xi, if xl = who then y else xl, y :: F, xv⟩; rw [if_pos hl]; exact hps _, rfl⟩ ?_
      rw [hallH, hcI (⟨⟨xi, y, y :: F, xv⟩, xA, xca, xB, xcb⟩ : PtyP) rfl]
      refine Ent.trans (B := rowM (⟨⟨xi, y, y :: F, xv⟩, xA, xca, xB, xcb⟩ : PtyP) :: allH ((L.eraseIdx k).map rowM) :: hb36 bh t la A D c :: orow 46 A c (L.set k (⟨⟨xi, y, y :: F, xv⟩, xA, xca, xB, xcb⟩ : PtyP)) :: allH (L.map rowI) :: H) enL ((hcM _ _).trans ?_)
      rw [show hb36 bh t la A D c = hb36 bh t la A (L.set k (⟨⟨xi, y, y :: F, xv⟩, xA, xca, xB, xcb⟩ : PtyP)) c by unfold hb36; rw [hDl, List.length_set]]
      exact enL
    · (repeat' (first | (show VH _ _ _ _ _ _ _; first | refine v_seq ?_ | refine r_seq ?_ | refine r_quiet hmix (by kernel_rfl) ?_ | refine v_block ?_ | refine v_skip ?_ | refine v_cond_f rfl tbL ?_) | (show SH _ _ _ _ _ (_ :: _) _ _ _; first | (show SH _ _ _ _ _ (⟨_, .move _, _, _, _, _⟩ :: _) _ _ _; refine mov evL ?_) | (show SH _ _ _ _ _ (⟨_, .assign _, _, _, _, _⟩ :: _) _ _ _; refine asg evL ?_) | (show SH _ _ _ _ _ (⟨_, .binOp .eql _ _ _ _, _, _, _, _⟩ :: _) _ _ _; refine eqlF rfl rfl omD ?_) | (show SH _ _ _ _ _ (⟨_, .load _ _, _, _, _, _⟩ :: _) _ _ _; first | refine lbx rfl spL (by rfl) ?_ | refine lrg rfl (fun _ _ => rdP) (by rfl) omL (by assumption) (by rfl) ?_) | refine slen rfl ?_ | refine nlc rfl ?_ | refine fad rfl ?_) | refine s_nil ?_ | refine kh_normal ?_ | refine bh_normal ?_))
      exact rh0n rfl ⟨D, by show _ = (ptys L).set k ⟨xi, if xl = who then y else xl, y :: F, xv⟩; rw [if_neg hl]; exact hps1, rfl⟩ (Ent.trans enL (hend H))
end Go.Proofs.YtlfbcoohfnoacaaGreat
