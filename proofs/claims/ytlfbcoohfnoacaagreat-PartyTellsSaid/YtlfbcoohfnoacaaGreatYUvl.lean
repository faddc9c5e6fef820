/- Package party: Invited. -/
import Derived.Test.YtlfbcoohfnoacaaGreatYTwp
import Derived.Test.YtlfbcoohfnoacaaGreatYMp
import Derived.Test.YtlfbcoohfnoacaaGreatYWz
import Derived.Test.YtlfbcoohfnoacaaGreatYUvk
import Derived.Test.YtlfbcoohfnoacaaGreatYUsc
set_option linter.unusedSimpArgs false
set_option linter.unusedVariables false
namespace Go.Proofs.YtlfbcoohfnoacaaGreat
open Go.Fw Go.RowKit
set_option maxRecDepth 100000 in
theorem inv11_spec (i : Inv) (who : Int) (w : World) : Ret Tryz.prog 47 [.agg (Flat.enc i).toArray, .int .i64 who].toArray w (Out w (.int .i64 (cmpI i.who who))) := by
  obtain ⟨iw, it⟩ := i
  rw [show Flat.enc (⟨iw, it⟩ : Inv) = [.int .i64 iw, .int .i64 it] from rfl]
  refine enterH Tryz.func47 rfl rfl Tryz.ntmps47 rfl (Wd.refl _) ?_
  (repeat' (first | (show VH _ _ _ _ _ _ _; first | refine v_seq ?_ | refine r_seq ?_ | refine v_ret ?_) | (show SH _ _ _ _ _ (_ :: _) _ _ _; first | (show SH _ _ _ _ _ (⟨_, .move _, _, _, _, _⟩ :: _) _ _ _; refine mov evL ?_) | (show SH _ _ _ _ _ (⟨_, .assign _, _, _, _, _⟩ :: _) _ _ _; refine asg evL ?_) | (show SH _ _ _ _ _ (⟨_, .load _ _, _, _, _, _⟩ :: _) _ _ _; refine lbx rfl spL (by rfl) ?_) | (show SH _ _ _ _ _ (⟨_, .call ⟨.value (.func 48), _, _⟩, _, _, _, _⟩ :: _) _ _ _; refine cl (callee := .func 48) rfl (fun w hw => compare_spec _ _ w) rfl rfl ?_) | refine fad rfl ?_ | (show SH _ _ _ _ _ (⟨_, .box _ _, _, _, _, _⟩ :: _) _ _ _; refine bxx rfl evL rfl (fun b => ?_))) | refine s_nil ?_ | refine kh_normal ?_))
  exact rh1 rfl rfl ⟨rfl, rfl⟩ (ent_nil _)
theorem inv_rising {h : Hal} (hv : VHal h) {k : Nat} (hk : k < h.ps.length) : Rising Inv.who (h.ps.getD k pty0).inv := (hv.ok _ (getD_mem hk)).2.2.2.2.1
def ivtR (t la : Int) (ps : List Pty) (who : Int) (k : Nat) : ResP :=
  if isIdB who = true then
    if who ∈ allM ps then (hal0, 361)
    else if who ∈ (ps.getD k pty0).inv.map Inv.who then (hal0, 363)
    else if (ps.getD k pty0).mem.length + (ps.getD k pty0).inv.length < 5 then
      (⟨t, la, ps.set k { ps.getD k pty0 with inv := insI ⟨who, t + 600⟩ (ps.getD k pty0).inv }⟩, 0)
    else (hal0, 4)
  else (hal0, 2)
theorem ivtR0 (t la : Int) (ps : List Pty) (who : Int) (k : Nat) : (ivtR t la ps who k).2 ≠ 0 → (ivtR t la ps who k).1 = hal0 := by
  unfold ivtR
  repeat' split
  all_goals first
    | (intro _; rfl)
    | (intro h; exact absurd rfl h)
set_option maxHeartbeats 2000000 in
set_option maxRecDepth 100000 in
theorem inv1_spec (t la : Int) (L0 : List PtyP) (who : Int) (k : Nat) (a1 : Addr) (w : World) (hk0 : k < (ptys L0).length) (ht : 0 ≤ t ∧ t ≤ 1073741824) (hR0 : Rising Inv.who ((ptys L0).getD k pty0).inv) (h1 : w.cell? a1 = some (.int .i64 who)) : ActsL w t la L0 k 45 #[] #[.pointer (some a1)] (ivtR t la (ptys L0) who k) := by
  refine actsL_of (cap := [.pointer (some a1)]) fun w' bh A c L H hz hp hw => ?_
  have hid := fun w => isID_spec who w
  have hpos := pos_iff (ptys L) who
  rw [← hp] at hk0 hR0 ⊢
  have hll := hz.len
  have hk : k < L.length := by rw [ptys_len] at hk0; exact hk0
  have hpk := ptys_at hk
  have hml := hz.atm hk
  have hil := hz.ati hk
  have hrd := fun w h => RdP.inv (w := w) (A := A) (l := L) h hk
  unfold ivtR
  rw [hpk] at hR0 ⊢
  obtain ⟨x, hx⟩ : ∃ x, L.getD k Flat.dflt = x := ⟨_, rfl⟩
  have hxE := pty_enc hx
  have hopI : ∀ G, Ent (allH (L.map rowI) :: G) (rowI x :: allH ((L.eraseIdx k).map rowI) :: G) := fun G => by
    have := ent_all_open (f := rowI) (L := L) (k := k) (d := Flat.dflt) (G := G) hk
    rw [hx] at this
    exact this
  have hcI : ∀ y G, Ent (rowI y :: allH ((L.eraseIdx k).map rowI) :: G) (allH ((L.set k y).map rowI) :: G) := fun y G => ent_all_close hk
  have hcM : ∀ y : PtyP, rowM y = rowM x → (L.set k y).map rowM = L.map rowM := fun y hy => by
    rw [List.map_set, hy, ← hx]
    exact set_same (f := rowM) hk
  rw [hx] at hR0 hml hil hrd ⊢
  have hps := ptys_set L k
  clear hx hpk hk0
  obtain ⟨⟨xi, xl, xm, xv⟩, xA, xca, xB, xcb⟩ := x
  simp only at hR0 hml hil hxE hopI hcI hcM hrd ⊢
  have hbs := fun w hr => binSearchI_spec xB xv xcb who 47 #[] #[] Inv.who w (by omega) hr hR0 (fun w' _ i _ => by simpa using inv11_spec i who w')
  have hhk := hasK_mem (k := who) hR0
  have hlb := lbK_le (key := Inv.who) (k := who) xv
  have hins := insI_lb hR0 ⟨who, t + 600⟩
  rw [hins]
  clear hins
  simp only at hhk hlb ⊢
  rw [hhk] at hbs
  clear hhk hR0
  generalize lbK Inv.who who xv = j at hbs hlb ⊢
  refine enterH Tryz.func45 rfl rfl Tryz.ntmps45 rfl (by assumption) ?_
  (repeat' (first | (show VH _ _ _ _ _ _ _; first | refine v_seq ?_ | refine r_seq ?_) | (show SH _ _ _ _ _ (_ :: _) _ _ _; first | (show SH _ _ _ _ _ (⟨_, .move _, _, _, _, _⟩ :: _) _ _ _; refine mov evL ?_) | (show SH _ _ _ _ _ (⟨_, .assign _, _, _, _, _⟩ :: _) _ _ _; refine asg evL ?_) | (show SH _ _ _ _ _ (⟨_, .load _ _, _, _, _, _⟩ :: _) _ _ _; refine lbx rfl spL (by rfl) ?_) | (show SH _ _ _ _ _ (⟨_, .indexAddr _ _ _, _, _, _, _⟩ :: _) _ _ _; refine ix rfl rfl (by with_reducible rfl) (fun _ _ => rdP) (by rfl) omL omL ?_) | refine nlc rfl ?_ | refine fad rfl ?_) | refine s_nil ?_ | refine kh_normal ?_))
  refine r_heldT [orow 46 A c L] (tr [(0, true), (1, true), (2, true), (3, true), (4, false), (5, false), (6, false), (7, true), (8, true), (9, false), (10, false)] .nil) hmix (by kernel_rfl) enL ?_
  (repeat' (first | (show VH _ _ _ _ _ _ _; first | refine v_seq ?_ | refine r_seq ?_ | refine v_block ?_) | (show SH _ _ _ _ _ (_ :: _) _ _ _; first | (show SH _ _ _ _ _ (⟨_, .move _, _, _, _, _⟩ :: _) _ _ _; refine mov evL ?_) | (show SH _ _ _ _ _ (⟨_, .assign _, _, _, _, _⟩ :: _) _ _ _; refine asg evL ?_) | (show SH _ _ _ _ _ (⟨_, .load _ _, _, _, _, _⟩ :: _) _ _ _; first | refine lrg rfl (fun _ _ => rdP) (by rfl) omL (by assumption) (by rfl) ?_ | refine lcell rfl (fun w hw => hw.ext.cell (by assumption)) ?_) | (show SH _ _ _ _ _ (⟨_, .call ⟨.value (.func 46), _, _⟩, _, _, _, _⟩ :: _) _ _ _; refine cl (callee := .func 46) rfl (fun w hw => hbs w (hrd w (rows_rd (c := c) enL hw))) rfl rfl ?_) | refine nlc rfl ?_ | refine extr rfl rfl ?_ | refine fad rfl ?_) | refine s_nil ?_ | refine kh_normal ?_))
  obtain ⟨there, hth⟩ : ∃ z, decide (who ∈ xv.map Inv.who) = z := ⟨_, rfl⟩
  rw [hth]
  by_cases hi : isIdB who = true
  · rw [if_pos hi]
    simp only [hi] at hid
    by_cases hm : who ∈ allM (ptys L)
    · rw [if_pos hm]
      have hpo := hpos.2 hm
      clear hpos
      (repeat' (first | (show VH _ _ _ _ _ _ _; first | refine v_seq ?_ | refine v_cond_f rfl tbL ?_) | (show SH _ _ _ _ _ (_ :: _) _ _ _; first | (show SH _ _ _ _ _ (⟨_, .assign _, _, _, _, _⟩ :: _) _ _ _; refine asg evL ?_) | (show SH _ _ _ _ _ (⟨_, .call ⟨.value (.func 25), _, _⟩, _, _, _, _⟩ :: _) _ _ _; refine cl (callee := .func 25) rfl (fun w hw => hid w) rfl rfl ?_) | refine bnoT rfl ?_) | refine s_nil ?_ | refine kh_normal ?_))
      refine r_heldT [hb36 bh t la A L c] (tr [(0, true), (1, true), (2, true), (4, true), (3, false), (5, false), (6, false), (7, false)] .nil) hmix (by kernel_rfl) enL ?_
      (repeat' ((show SH _ _ _ _ _ (_ :: _) _ _ _; first | (show SH _ _ _ _ _ (⟨_, .move _, _, _, _, _⟩ :: _) _ _ _; refine mov evL ?_) | (show SH _ _ _ _ _ (⟨_, .load _ _, _, _, _, _⟩ :: _) _ _ _; first | refine lba rfl spL (by rfl) ?_ | refine lcell rfl (fun w hw => hw.ext.cell (by assumption)) ?_) | (show SH _ _ _ _ _ (⟨_, .call ⟨.value (.func 23), _, _⟩, _, _, _, _⟩ :: _) _ _ _; refine cp (callee := .func 23) rfl (fun w hw => places_spec t la A L c w hz (rows_rd (c := c) enL hw)) rfl rfl ?_) | refine nlc rfl ?_)))
      rintro _ _ ⟨r, rfl, rfl⟩
      (repeat' (first | (show VH _ _ _ _ _ _ _; first | refine v_seq ?_ | refine r_seq ?_ | refine v_ret ?_ | refine v_cond_t rfl tbL ?_) | (show SH _ _ _ _ _ (_ :: _) _ _ _; first | (show SH _ _ _ _ _ (⟨_, .assign _, _, _, _, _⟩ :: _) _ _ _; refine asg evL ?_) | (show SH _ _ _ _ _ (⟨_, .binOp .gtr _ _ _ _, _, _, _, _⟩ :: _) _ _ _; refine gtrT rfl rfl omD ?_) | (show SH _ _ _ _ _ (⟨_, .lookup _ _ _ false, _, _, _, _⟩ :: _) _ _ _; refine lkm rfl rfl spL ?_)) | refine s_nil ?_ | refine kh_normal ?_ | refine kh_ret ?_ | refine bh_ret ?_))
      exact rh1 rfl rfl ⟨rfl, rfl⟩ enL
    · rw [if_neg hm]
      have hpo : ¬ 0 < mget (placesM (ptys L)) who := fun h => hm (hpos.1 h)
      clear hpos
      (repeat' (first | (show VH _ _ _ _ _ _ _; first | refine v_seq ?_ | refine v_cond_f rfl tbL ?_) | (show SH _ _ _ _ _ (_ :: _) _ _ _; first | (show SH _ _ _ _ _ (⟨_, .assign _, _, _, _, _⟩ :: _) _ _ _; refine asg evL ?_) | (show SH _ _ _ _ _ (⟨_, .call ⟨.value (.func 25), _, _⟩, _, _, _, _⟩ :: _) _ _ _; refine cl (callee := .func 25) rfl (fun w hw => hid w) rfl rfl ?_) | refine bnoT rfl ?_) | refine s_nil ?_ | refine kh_normal ?_))
      refine r_heldT [hb36 bh t la A L c] (tr [(0, true), (1, true), (2, true), (4, true), (3, false), (5, false), (6, false), (7, false)] .nil) hmix (by kernel_rfl) enL ?_
      (repeat' ((show SH _ _ _ _ _ (_ :: _) _ _ _; first | (show SH _ _ _ _ _ (⟨_, .move _, _, _, _, _⟩ :: _) _ _ _; refine mov evL ?_) | (show SH _ _ _ _ _ (⟨_, .load _ _, _, _, _, _⟩ :: _) _ _ _; first | refine lba rfl spL (by rfl) ?_ | refine lcell rfl (fun w hw => hw.ext.cell (by assumption)) ?_) | (show SH _ _ _ _ _ (⟨_, .call ⟨.value (.func 23), _, _⟩, _, _, _, _⟩ :: _) _ _ _; refine cp (callee := .func 23) rfl (fun w hw => places_spec t la A L c w hz (rows_rd (c := c) enL hw)) rfl rfl ?_) | refine nlc rfl ?_)))
      rintro _ _ ⟨r, rfl, rfl⟩
      by_cases hw0 : who ∈ xv.map Inv.who
      · rw [if_pos hw0]
        rw [decide_eq_true hw0] at hth
        subst hth
        (repeat' (first | (show VH _ _ _ _ _ _ _; first | refine v_seq ?_ | refine r_seq ?_ | refine v_ret ?_ | refine v_cond_t rfl tbL ?_ | refine v_cond_f rfl tbL ?_) | (show SH _ _ _ _ _ (_ :: _) _ _ _; first | (show SH _ _ _ _ _ (⟨_, .move _, _, _, _, _⟩ :: _) _ _ _; refine mov evL ?_) | (show SH _ _ _ _ _ (⟨_, .assign _, _, _, _, _⟩ :: _) _ _ _; refine asg evL ?_) | (show SH _ _ _ _ _ (⟨_, .binOp .gtr _ _ _ _, _, _, _, _⟩ :: _) _ _ _; refine gtrF rfl rfl omD ?_) | (show SH _ _ _ _ _ (⟨_, .lookup _ _ _ false, _, _, _, _⟩ :: _) _ _ _; refine lkm rfl rfl spL ?_)) | refine s_nil ?_ | refine kh_normal ?_ | refine kh_ret ?_ | refine bh_ret ?_))
        exact rh1 rfl rfl ⟨rfl, rfl⟩ enL
      · rw [if_neg hw0]
        rw [decide_eq_false hw0] at hth
        subst hth
        by_cases h5 : xm.length + xv.length < 5
        · rw [if_pos h5]
          (repeat' (first | (show VH _ _ _ _ _ _ _; first | refine v_seq ?_ | refine r_seq ?_ | refine v_cond_f rfl tbL ?_) | (show SH _ _ _ _ _ (_ :: _) _ _ _; first | (show SH _ _ _ _ _ (⟨_, .move _, _, _, _, _⟩ :: _) _ _ _; refine mov evL ?_) | (show SH _ _ _ _ _ (⟨_, .assign _, _, _, _, _⟩ :: _) _ _ _; refine asg evL ?_) | (show SH _ _ _ _ _ (⟨_, .binOp .gtr _ _ _ _, _, _, _, _⟩ :: _) _ _ _; refine gtrF rfl rfl omD ?_) | (show SH _ _ _ _ _ (⟨_, .lookup _ _ _ false, _, _, _, _⟩ :: _) _ _ _; refine lkm rfl rfl spL ?_)) | refine s_nil ?_ | refine kh_normal ?_))
          refine r_quiet hmix (by kernel_rfl) ?_
          (repeat' (first | (show VH _ _ _ _ _ _ _; first | refine v_seq ?_ | refine v_skip ?_ | refine v_cond_f rfl tbL ?_) | (show SH _ _ _ _ _ (_ :: _) _ _ _; first | (show SH _ _ _ _ _ (⟨_, .move _, _, _, _, _⟩ :: _) _ _ _; refine mov evL ?_) | (show SH _ _ _ _ _ (⟨_, .assign _, _, _, _, _⟩ :: _) _ _ _; refine asg evL ?_) | (show SH _ _ _ _ _ (⟨_, .binOp .geq _ _ _ _, _, _, _, _⟩ :: _) _ _ _; refine geqF rfl rfl omD ?_) | (show SH _ _ _ _ _ (⟨_, .binOp .add _ _ _ _, _, _, _, _⟩ :: _) _ _ _; refine add rfl rfl inL ?_) | (show SH _ _ _ _ _ (⟨_, .load _ _, _, _, _, _⟩ :: _) _ _ _; refine lrg rfl (fun _ _ => rdP) (by rfl) omL (by assumption) (by rfl) ?_) | refine slen rfl ?_ | refine nlc rfl ?_ | refine fad rfl ?_) | refine s_nil ?_ | refine kh_normal ?_ | refine bh_normal ?_))
          refine r_heldT [hb36 bh t la A L c] (tr [(0, true), (1, true), (2, true), (3, true), (5, true), (6, true), (7, true), (8, true), (9, true), (10, true), (11, true), (12, true)] (.fork 4 (tr [(13, false), (14, false), (15, false), (16, false), (17, false)] .nil) 13 (tr [(4, false), (14, false), (15, false), (16, false), (17, false)] .nil))) hmix (by kernel_rfl) enL ?_
          obtain ⟨N, hN⟩ : ∃ N, xv.take j ++ ⟨who, t + 600⟩ :: xv.drop j = N := ⟨_, rfl⟩
          have hfin := fun (A' : Option Addr) (cp' : Nat) => hcM (⟨⟨xi, xl, xm, N⟩, xA, xca, A', cp'⟩ : PtyP) rfl
          rw [hN]
          (repeat' (first | (show SH _ _ _ _ _ (_ :: _) _ _ _; first | (show SH _ _ _ _ _ (⟨_, .move _, _, _, _, _⟩ :: _) _ _ _; refine mov evL ?_) | (show SH _ _ _ _ _ (⟨_, .binOp .add _ _ _ _, _, _, _, _⟩ :: _) _ _ _; refine add rfl rfl inL ?_) | (show SH _ _ _ _ _ (⟨_, .load _ _, _, _, _, _⟩ :: _) _ _ _; first | refine lbx rfl spL (by rfl) ?_ | refine lrg rfl (fun _ _ => rdP) (by rfl) omL (by assumption) (by rfl) ?_ | refine lcell rfl (fun w hw => hw.ext.cell (by assumption)) ?_) | refine nlc rfl ?_ | refine fad rfl ?_ | refine bld rfl rfl ?_) | refine s_fork ?_ ?_))
          all_goals
            refine bsl (l := [(⟨who, t + 600⟩ : Inv)]) rfl rfl (Vals.cons rfl Vals.nil) rfl rfl (by decide) (fun b9 => ?_)
            (repeat' ((show SH _ _ _ _ _ (_ :: _) _ _ _; (show SH _ _ _ _ _ (⟨_, .load _ _, _, _, _, _⟩ :: _) _ _ _; refine lrg rfl (fun _ _ => rdP) (by rfl) omL (by assumption) (by rfl) ?_))))
            refine cm rfl (fun w2 hw2 => insertI_spec xB xv xcb j b9 ⟨who, t + 600⟩ w (hb36 bh t la A L c :: orow 46 A c L :: allH (L.map rowM) :: allH ((L.eraseIdx k).map rowI) :: H) w2 hlb (by omega) (Ent.wd (Ent.trans (B := allH (L.map rowI) :: orow 61 (some ⟨b9, 0, none⟩) 1 [(⟨who, t + 600⟩ : Inv)] :: hb36 bh t la A L c :: orow 46 A c L :: allH (L.map rowM) :: H) enL ((hopI _).trans enL)) hw2)) rfl rfl ?_
            rintro _ _ ⟨A', cp', rfl, rfl⟩
            refine ⟨enL, ?_⟩
            rw [hN]
            (repeat' ((show SH _ _ _ _ _ (_ :: _) _ _ _; first | refine nlc rfl ?_ | refine fad rfl ?_)))
            refine stf (⟨⟨xi, xl, xm, N⟩, xA, xca, A', cp'⟩ : PtyP) rfl rfl rfl spL rfl hk rfl rfl (by decide) (by rw [hxE]; rfl) enL ?_
            (repeat' (first | (show VH _ _ _ _ _ _ _; first | refine v_seq ?_ | refine r_seq ?_ | refine v_ret ?_) | (show SH _ _ _ _ _ (_ :: _) _ _ _; (show SH _ _ _ _ _ (⟨_, .assign _, _, _, _, _⟩ :: _) _ _ _; refine asg evL ?_)) | refine s_nil ?_ | refine kh_normal ?_))
            refine rh1 rfl rfl ⟨rfl, A, c, L.set k (⟨⟨xi, xl, xm, N⟩, xA, xca, A', cp'⟩ : PtyP), hps _, rfl⟩ ?_
            unfold hallH hb36
            rw [hfin A' cp', List.length_set]
            refine Ent.trans (B := rowI (⟨⟨xi, xl, xm, N⟩, xA, xca, A', cp'⟩ : PtyP) :: allH ((L.eraseIdx k).map rowI) :: hb36 bh t la A L c :: orow 46 A c (L.set k (⟨⟨xi, xl, xm, N⟩, xA, xca, A', cp'⟩ : PtyP)) :: allH (L.map rowM) :: H) enL ((hcI _ _).trans enL)
        · rw [if_neg h5]
          (repeat' (first | (show VH _ _ _ _ _ _ _; first | refine v_seq ?_ | refine r_seq ?_ | refine r_quiet hmix (by kernel_rfl) ?_ | refine v_ret ?_ | refine v_cond_t rfl tbL ?_ | refine v_cond_f rfl tbL ?_) | (show SH _ _ _ _ _ (_ :: _) _ _ _; first | (show SH _ _ _ _ _ (⟨_, .move _, _, _, _, _⟩ :: _) _ _ _; refine mov evL ?_) | (show SH _ _ _ _ _ (⟨_, .assign _, _, _, _, _⟩ :: _) _ _ _; refine asg evL ?_) | (show SH _ _ _ _ _ (⟨_, .binOp .gtr _ _ _ _, _, _, _, _⟩ :: _) _ _ _; refine gtrF rfl rfl omD ?_) | (show SH _ _ _ _ _ (⟨_, .binOp .geq _ _ _ _, _, _, _, _⟩ :: _) _ _ _; refine geqT rfl rfl omD ?_) | (show SH _ _ _ _ _ (⟨_, .binOp .add _ _ _ _, _, _, _, _⟩ :: _) _ _ _; refine add rfl rfl inL ?_) | (show SH _ _ _ _ _ (⟨_, .load _ _, _, _, _, _⟩ :: _) _ _ _; refine lrg rfl (fun _ _ => rdP) (by rfl) omL (by assumption) (by rfl) ?_) | refine slen rfl ?_ | (show SH _ _ _ _ _ (⟨_, .lookup _ _ _ false, _, _, _, _⟩ :: _) _ _ _; refine lkm rfl rfl spL ?_) | refine nlc rfl ?_ | refine fad rfl ?_) | refine s_nil ?_ | refine kh_normal ?_ | refine kh_ret ?_ | refine bh_ret ?_))
          exact rh1 rfl rfl ⟨rfl, rfl⟩ enL
  · rw [if_neg hi]
    simp only [Bool.eq_false_iff.2 hi] at hid
    clear hpos
    (repeat' (first | (show VH _ _ _ _ _ _ _; first | refine v_seq ?_ | refine r_seq ?_ | refine v_ret ?_ | refine v_cond_t rfl tbL ?_) | (show SH _ _ _ _ _ (_ :: _) _ _ _; first | (show SH _ _ _ _ _ (⟨_, .assign _, _, _, _, _⟩ :: _) _ _ _; refine asg evL ?_) | (show SH _ _ _ _ _ (⟨_, .call ⟨.value (.func 25), _, _⟩, _, _, _, _⟩ :: _) _ _ _; refine cl (callee := .func 25) rfl (fun w hw => hid w) rfl rfl ?_) | refine bnoF rfl ?_) | refine s_nil ?_ | refine kh_normal ?_ | refine kh_ret ?_ | refine bh_ret ?_))
    exact rh1 rfl rfl ⟨rfl, rfl⟩ enL
set_option maxHeartbeats 1000000 in
set_option maxRecDepth 100000 in
theorem invited_spec (t la : Int) (A : Option Addr) (L : List PtyP) (c : Nat) (by' who : Int) (w : World) (hz : SzP L) (hr : RdP w A L) : Ret Tryz.prog 15 [hv36 t la A L c, .int .i64 by', .int .i64 who].toArray w (RP w (OutH (invitedM ⟨t, la, ptys L⟩ by' who))) := by
  rw [show invitedM ⟨t, la, ptys L⟩ by' who = if validHal ⟨t, la, ptys L⟩ then leadR (ptys L) by' (ivtR t la (ptys L) who) else (hal0, 2) from rfl]
  refine enterH Tryz.func15 rfl rfl Tryz.ntmps15 rfl (Wd.refl _) ?_
  (repeat' (first | (show VH _ _ _ _ _ _ _; first | refine v_seq ?_ | refine r_seq ?_) | (show SH _ _ _ _ _ (_ :: _) _ _ _; first | (show SH _ _ _ _ _ (⟨_, .move _, _, _, _, _⟩ :: _) _ _ _; refine mov evL ?_) | (show SH _ _ _ _ _ (⟨_, .assign _, _, _, _, _⟩ :: _) _ _ _; refine asg evL ?_) | (show SH _ _ _ _ _ (⟨_, .load _ _, _, _, _, _⟩ :: _) _ _ _; refine lba rfl spL (by rfl) ?_) | (show SH _ _ _ _ _ (⟨_, .makeFunc _ _ _, _, _, _, _⟩ :: _) _ _ _; refine mf1 evL ?_) | refine ala rfl (fun b => ?_) | (show SH _ _ _ _ _ (⟨_, .box _ _, _, _, _, _⟩ :: _) _ _ _; refine bxx rfl evL rfl (fun b => ?_))) | refine s_nil ?_ | refine kh_normal ?_))
  rename_i b3 b5
  refine cp rfl (fun w2 hw => lead_spec t la A L c by' 45 #[] #[.pointer (some ⟨b5, 0, none⟩)] _ w2 hz (hr.ext hw.ext) (fun k _ => ivtR0 _ _ _ _ _) (fun w3 he hv k hk _ => inv1_spec t la L who k _ w3 (findM_some _ hk).1 ⟨(valid_iff.1 hv).t0, (valid_iff.1 hv).t1⟩ (inv_rising (valid_iff.1 hv) (findM_some _ hk).1) (he.cell (hw.cell (cs := [.int .i64 who]) spL rfl)))) rfl rfl ?_
  rintro _ _ ⟨A1, c1, L1, hp1, rfl, rfl⟩
  (repeat' (first | refine v_ret ?_ | (show SH _ _ _ _ _ (_ :: _) _ _ _; first | (show SH _ _ _ _ _ (⟨_, .assign _, _, _, _, _⟩ :: _) _ _ _; refine asg evL ?_) | refine extr rfl rfl ?_ | (show SH _ _ _ _ _ (⟨_, .store _ _ _, _, _, _, _⟩ :: _) _ _ _; refine sta rfl rfl rfl spL (by rfl) (by rfl) (by rfl) kpL ?_)) | refine s_nil ?_ | refine kh_normal ?_))
  exact rhC2 rfl rfl rfl rfl (fun w hw => loadVar_bx hw spL (by rfl)) ⟨A1, c1, L1, hp1, rfl, rfl⟩ enL
end Go.Proofs.YtlfbcoohfnoacaaGreat
