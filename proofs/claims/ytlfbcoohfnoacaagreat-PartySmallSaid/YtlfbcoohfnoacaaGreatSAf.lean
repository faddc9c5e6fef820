/- Layer 36 (party): the reference's halls: what is known of one hall goes on to the next. -/
import Derived.Test.YtlfbcoohfnoacaaGreatSAa
import Derived.Test.YtlfbcoohfnoacaaGreatSAb
import Derived.Test.YtlfbcoohfnoacaaGreatSAc
import Derived.Test.YtlfbcoohfnoacaaGreatSAd
import Derived.Test.YtlfbcoohfnoacaaGreatSAe
set_option linter.unusedSimpArgs false
set_option linter.unusedVariables false
/- Package party: Leave, Kick, Promote, Disband. -/
namespace Go.Proofs.YtlfbcoohfnoacaaGreat
open Go.Fw Go.RowKit
def leaR (t la : Int) (ps : List Pty) (who : Int) : ResP :=
  match findM who ps with
  | none => (hal0, 6)
  | some k => (⟨t, la, leaveP ps k who⟩, 0)
theorem leaR0 (t la : Int) (ps : List Pty) (who : Int) : (leaR t la ps who).2 ≠ 0 → (leaR t la ps who).1 = hal0 := by
  unfold leaR
  cases findM who ps with
  | none => intro _; rfl
  | some k => intro h; exact absurd rfl h
set_option maxHeartbeats 1000000 in
set_option maxRecDepth 100000 in
theorem lea1_spec (t la : Int) (L0 : List PtyP) (who : Int) (a1 : Addr) (w : World) (hn : (allM (ptys L0)).Nodup) (h1 : w.cell? a1 = some (.int .i64 who)) : Acts w t la L0 52 #[] #[.pointer (some a1)] (leaR t la (ptys L0) who) := by
  refine acts_of (cap := [.pointer (some a1)]) fun w' bh A c L H hz hp hw => ?_
  have hg := places_find (ptys L0) who hn
  rw [← hp] at hg ⊢
  unfold leaR
  cases hfd : findM who (ptys L) with
  | none =>
    rw [hfd] at hg
    simp only at hg ⊢
    refine enterH Tryz.func52 rfl rfl Tryz.ntmps52 rfl (by assumption) ?_
    (repeat' (first | (show VH _ _ _ _ _ _ _; first | refine v_seq ?_ | refine r_seq ?_) | (show SH _ _ _ _ _ (_ :: _) _ _ _; (show SH _ _ _ _ _ (⟨_, .assign _, _, _, _, _⟩ :: _) _ _ _; refine asg evL ?_)) | refine s_nil ?_ | refine kh_normal ?_))
    refine r_heldT [hb36 bh t la A L c] (tr [(0, true), (1, true), (2, true), (4, true), (3, false), (5, false), (6, false)] .nil) hmix (by kernel_rfl) enL ?_
    (repeat' ((show SH _ _ _ _ _ (_ :: _) _ _ _; first | (show SH _ _ _ _ _ (⟨_, .move _, _, _, _, _⟩ :: _) _ _ _; refine mov evL ?_) | (show SH _ _ _ _ _ (⟨_, .load _ _, _, _, _, _⟩ :: _) _ _ _; first | refine lba rfl spL (by rfl) ?_ | refine lcell rfl (fun w hw => hw.ext.cell (by assumption)) ?_) | (show SH _ _ _ _ _ (⟨_, .call ⟨.value (.func 23), _, _⟩, _, _, _, _⟩ :: _) _ _ _; refine cp (callee := .func 23) rfl (fun w hw => places_spec t la A L c w hz (rows_rd (c := c) enL hw)) rfl rfl ?_) | refine nlc rfl ?_)))
    rintro _ _ ⟨r, rfl, rfl⟩
    (repeat' (first | (show VH _ _ _ _ _ _ _; first | refine v_seq ?_ | refine r_seq ?_ | refine v_ret ?_ | refine v_cond_t rfl tbL ?_) | (show SH _ _ _ _ _ (_ :: _) _ _ _; first | (show SH _ _ _ _ _ (⟨_, .move _, _, _, _, _⟩ :: _) _ _ _; refine mov evL ?_) | (show SH _ _ _ _ _ (⟨_, .assign _, _, _, _, _⟩ :: _) _ _ _; refine asg evL ?_) | (show SH _ _ _ _ _ (⟨_, .binOp .eql _ _ _ _, _, _, _, _⟩ :: _) _ _ _; refine eqlT rfl rfl omD ?_) | (show SH _ _ _ _ _ (⟨_, .lookup _ _ _ false, _, _, _, _⟩ :: _) _ _ _; refine lkm rfl rfl spL ?_)) | refine s_nil ?_ | refine kh_normal ?_ | refine kh_ret ?_))
    exact rh1 rfl rfl ⟨rfl, rfl⟩ enL
  | some k =>
    rw [hfd] at hg
    simp only at hg ⊢
    have hk := (findM_some _ hfd).1
    rw [ptys_len] at hk
    have hll := hz.len
    refine enterH Tryz.func52 rfl rfl Tryz.ntmps52 rfl (by assumption) ?_
    (repeat' (first | (show VH _ _ _ _ _ _ _; first | refine v_seq ?_ | refine r_seq ?_) | (show SH _ _ _ _ _ (_ :: _) _ _ _; (show SH _ _ _ _ _ (⟨_, .assign _, _, _, _, _⟩ :: _) _ _ _; refine asg evL ?_)) | refine s_nil ?_ | refine kh_normal ?_))
    refine r_heldT [hb36 bh t la A L c] (tr [(0, true), (1, true), (2, true), (4, true), (3, false), (5, false), (6, false)] .nil) hmix (by kernel_rfl) enL ?_
    (repeat' ((show SH _ _ _ _ _ (_ :: _) _ _ _; first | (show SH _ _ _ _ _ (⟨_, .move _, _, _, _, _⟩ :: _) _ _ _; refine mov evL ?_) | (show SH _ _ _ _ _ (⟨_, .load _ _, _, _, _, _⟩ :: _) _ _ _; first | refine lba rfl spL (by rfl) ?_ | refine lcell rfl (fun w hw => hw.ext.cell (by assumption)) ?_) | (show SH _ _ _ _ _ (⟨_, .call ⟨.value (.func 23), _, _⟩, _, _, _, _⟩ :: _) _ _ _; refine cp (callee := .func 23) rfl (fun w hw => places_spec t la A L c w hz (rows_rd (c := c) enL hw)) rfl rfl ?_) | refine nlc rfl ?_)))
    rintro _ _ ⟨rm, rfl, rfl⟩
    generalize placesM (ptys L) = M at hg ⊢
    (repeat' ((fail_if_success (show VH _ _ (.seq (.region 2 _ _) _) _ _ _ _)); first | refine v_seq ?_ | (show SH _ _ _ _ _ (_ :: _) _ _ _; first | (show SH _ _ _ _ _ (⟨_, .assign _, _, _, _, _⟩ :: _) _ _ _; refine asg evL ?_) | (show SH _ _ _ _ _ (⟨_, .lookup _ _ _ false, _, _, _, _⟩ :: _) _ _ _; refine lkm rfl rfl spL ?_)) | refine s_nil ?_ | refine kh_normal ?_))
    rw [hg]
    (repeat' (first | (show VH _ _ _ _ _ _ _; first | refine v_seq ?_ | refine r_seq ?_ | refine v_skip ?_ | refine v_cond_f rfl tbL ?_) | (show SH _ _ _ _ _ (_ :: _) _ _ _; first | (show SH _ _ _ _ _ (⟨_, .move _, _, _, _, _⟩ :: _) _ _ _; refine mov evL ?_) | (show SH _ _ _ _ _ (⟨_, .binOp .eql _ _ _ _, _, _, _, _⟩ :: _) _ _ _; refine eqlF rfl rfl omD ?_) | (show SH _ _ _ _ _ (⟨_, .binOp .sub _ _ _ _, _, _, _, _⟩ :: _) _ _ _; refine sub rfl rfl inL ?_) | (show SH _ _ _ _ _ (⟨_, .load _ _, _, _, _, _⟩ :: _) _ _ _; refine lcell rfl (fun w hw => hw.ext.cell (by assumption)) ?_)) | refine s_nil ?_ | refine kh_normal ?_))
    rw [show (k : Int) + 1 - 1 = k by omega]
    refine cm rfl (fun w2 hw2 => leave_spec t la A L c bh k who w H w2 hk hz (Ent.wd enL hw2)) rfl rfl ?_
    rintro _ _ ⟨L', hp', rfl⟩
    refine ⟨trivial, ?_⟩
    (repeat' (first | (show VH _ _ _ _ _ _ _; first | refine v_seq ?_ | refine r_seq ?_ | refine v_ret ?_) | (show SH _ _ _ _ _ (_ :: _) _ _ _; (show SH _ _ _ _ _ (⟨_, .assign _, _, _, _, _⟩ :: _) _ _ _; refine asg evL ?_)) | refine s_nil ?_ | refine kh_normal ?_))
    exact rh1 rfl rfl ⟨rfl, A, c, L', hp', rfl⟩ (ent_refl _)
set_option maxHeartbeats 1000000 in
set_option maxRecDepth 100000 in
theorem leaveO_spec (t la : Int) (A : Option Addr) (L : List PtyP) (c : Nat) (who : Int) (w : World) (hz : SzP L) (hr : RdP w A L) : Ret Tryz.prog 17 [hv36 t la A L c, .int .i64 who].toArray w (RP w (OutH (leaveM ⟨t, la, ptys L⟩ who))) := by
  rw [show leaveM ⟨t, la, ptys L⟩ who = if validHal ⟨t, la, ptys L⟩ then leaR t la (ptys L) who else (hal0, 2) by unfold leaveM leaR; simp only [leaveAt_eq]; cases findM who (ptys L) <;> rfl]
  refine enterH Tryz.func17 rfl rfl Tryz.ntmps17 rfl (Wd.refl _) ?_
  (repeat' (first | (show VH _ _ _ _ _ _ _; first | refine v_seq ?_ | refine r_seq ?_) | (show SH _ _ _ _ _ (_ :: _) _ _ _; first | (show SH _ _ _ _ _ (⟨_, .assign _, _, _, _, _⟩ :: _) _ _ _; refine asg evL ?_) | (show SH _ _ _ _ _ (⟨_, .load _ _, _, _, _, _⟩ :: _) _ _ _; refine lba rfl spL (by rfl) ?_) | (show SH _ _ _ _ _ (⟨_, .makeFunc _ _ _, _, _, _, _⟩ :: _) _ _ _; refine mf1 evL ?_) | refine ala rfl (fun b => ?_) | (show SH _ _ _ _ _ (⟨_, .box _ _, _, _, _, _⟩ :: _) _ _ _; refine bxx rfl evL rfl (fun b => ?_))) | refine s_nil ?_ | refine kh_normal ?_))
  rename_i b2 b3
  refine cp rfl (fun w2 hw => change_spec t la A L c 52 #[] #[.pointer (some ⟨b3, 0, none⟩)] _ w2 hz (hr.ext hw.ext) (leaR0 _ _ _ _) (fun hv => lea1_spec t la L who _ w2 (valid_iff.1 hv).nd (hw.cell (cs := [.int .i64 who]) spL rfl))) rfl rfl ?_
  rintro _ _ ⟨A1, c1, L1, hp1, rfl, rfl⟩
  (repeat' (first | refine v_ret ?_ | (show SH _ _ _ _ _ (_ :: _) _ _ _; first | (show SH _ _ _ _ _ (⟨_, .assign _, _, _, _, _⟩ :: _) _ _ _; refine asg evL ?_) | refine extr rfl rfl ?_ | (show SH _ _ _ _ _ (⟨_, .store _ _ _, _, _, _, _⟩ :: _) _ _ _; refine sta rfl rfl rfl spL (by rfl) (by rfl) (by rfl) kpL ?_)) | refine s_nil ?_ | refine kh_normal ?_))
  exact rhC2 rfl rfl rfl rfl (fun w hw => loadVar_bx hw spL (by rfl)) ⟨A1, c1, L1, hp1, rfl, rfl⟩ enL
/-! Kick -/
def kickR (t la : Int) (ps : List Pty) (by' who : Int) (k : Nat) : ResP := if findM who ps = some k then (if who = by' then (hal0, 2) else (⟨t, la, leaveP ps k who⟩, 0)) else (hal0, 6)
theorem kickR0 (t la : Int) (ps : List Pty) (by' who : Int) (k : Nat) : (kickR t la ps by' who k).2 ≠ 0 → (kickR t la ps by' who k).1 = hal0 := by
  unfold kickR
  split
  · split
    · intro _; rfl
    · intro h; exact absurd rfl h
  · intro _; rfl
theorem find_at (ps : List Pty) (who : Int) (hn : (allM ps).Nodup) (k : Nat) : mget (placesM ps) who = (k : Int) + 1 ↔ findM who ps = some k := by
  rw [places_find ps who hn]
  cases findM who ps with
  | none => simp; omega
  | some j => simp; omega
set_option maxHeartbeats 1000000 in
set_option maxRecDepth 100000 in
theorem kick1_spec (t la : Int) (L0 : List PtyP) (by' who : Int) (k : Nat) (a1 a2 : Addr) (w : World) (hk0 : k < (ptys L0).length) (hn : (allM (ptys L0)).Nodup) (h1 : w.cell? a1 = some (.int .i64 who)) (h2 : w.cell? a2 = some (.int .i64 by')) : ActsL w t la L0 k 77 #[] #[.pointer (some a1), .pointer (some a2)] (kickR t la (ptys L0) by' who k) := by
  refine actsL_of (cap := [.pointer (some a1), .pointer (some a2)]) fun w' bh A c L H hz hp hw => ?_
  have hg := find_at (ptys L0) who hn k
  rw [← hp] at hg hk0 ⊢
  have hll := hz.len
  have hk : k < L.length := by rw [ptys_len] at hk0; exact hk0
  unfold kickR
  by_cases hfd : findM who (ptys L) = some k
  · rw [if_pos hfd]
    have hg := hg.2 hfd
    by_cases hb : who = by'
    · rw [if_pos hb]
      refine enterH Tryz.func77 rfl rfl Tryz.ntmps77 rfl (by assumption) ?_
      (repeat' (first | (show VH _ _ _ _ _ _ _; first | refine v_seq ?_ | refine r_seq ?_ | refine v_block ?_) | (show SH _ _ _ _ _ (_ :: _) _ _ _; (show SH _ _ _ _ _ (⟨_, .assign _, _, _, _, _⟩ :: _) _ _ _; refine asg evL ?_)) | refine s_nil ?_ | refine kh_normal ?_))
      refine r_heldT [hb36 bh t la A L c] (tr [(0, true), (1, true), (2, true), (4, true), (6, true), (7, true), (3, false), (5, false), (8, false), (9, false)] .nil) hmix (by kernel_rfl) enL ?_
      (repeat' ((show SH _ _ _ _ _ (_ :: _) _ _ _; first | (show SH _ _ _ _ _ (⟨_, .move _, _, _, _, _⟩ :: _) _ _ _; refine mov evL ?_) | (show SH _ _ _ _ _ (⟨_, .binOp .add _ _ _ _, _, _, _, _⟩ :: _) _ _ _; refine add rfl rfl inL ?_) | (show SH _ _ _ _ _ (⟨_, .load _ _, _, _, _, _⟩ :: _) _ _ _; first | refine lba rfl spL (by rfl) ?_ | refine lcell rfl (fun w hw => hw.ext.cell (by assumption)) ?_) | (show SH _ _ _ _ _ (⟨_, .call ⟨.value (.func 23), _, _⟩, _, _, _, _⟩ :: _) _ _ _; refine cp (callee := .func 23) rfl (fun w hw => places_spec t la A L c w hz (rows_rd (c := c) enL hw)) rfl rfl ?_) | refine nlc rfl ?_)))
      rintro _ _ ⟨rm, rfl, rfl⟩
      (repeat' (first | (show VH _ _ _ _ _ _ _; first | refine v_seq ?_ | refine r_seq ?_ | refine v_ret ?_ | refine v_cond_t rfl tbL ?_ | refine v_cond_f rfl tbL ?_) | (show SH _ _ _ _ _ (_ :: _) _ _ _; first | (show SH _ _ _ _ _ (⟨_, .assign _, _, _, _, _⟩ :: _) _ _ _; refine asg evL ?_) | (show SH _ _ _ _ _ (⟨_, .binOp .eql _ _ _ _, _, _, _, _⟩ :: _) _ _ _; refine eqlT rfl rfl omD ?_) | (show SH _ _ _ _ _ (⟨_, .binOp .neq _ _ _ _, _, _, _, _⟩ :: _) _ _ _; refine neqF rfl rfl omD ?_) | (show SH _ _ _ _ _ (⟨_, .load _ _, _, _, _, _⟩ :: _) _ _ _; refine lcell rfl (fun w hw => hw.ext.cell (by assumption)) ?_) | (show SH _ _ _ _ _ (⟨_, .lookup _ _ _ false, _, _, _, _⟩ :: _) _ _ _; refine lkm rfl rfl spL ?_)) | refine s_nil ?_ | refine kh_normal ?_ | refine kh_ret ?_ | refine bh_ret ?_))
      exact rh1 rfl rfl ⟨rfl, rfl⟩ enL
    · rw [if_neg hb]
      refine enterH Tryz.func77 rfl rfl Tryz.ntmps77 rfl (by assumption) ?_
      (repeat' (first | (show VH _ _ _ _ _ _ _; first | refine v_seq ?_ | refine r_seq ?_ | refine v_block ?_) | (show SH _ _ _ _ _ (_ :: _) _ _ _; (show SH _ _ _ _ _ (⟨_, .assign _, _, _, _, _⟩ :: _) _ _ _; refine asg evL ?_)) | refine s_nil ?_ | refine kh_normal ?_))
      refine r_heldT [hb36 bh t la A L c] (tr [(0, true), (1, true), (2, true), (4, true), (6, true), (7, true), (3, false), (5, false), (8, false), (9, false)] .nil) hmix (by kernel_rfl) enL ?_
      (repeat' ((show SH _ _ _ _ _ (_ :: _) _ _ _; first | (show SH _ _ _ _ _ (⟨_, .move _, _, _, _, _⟩ :: _) _ _ _; refine mov evL ?_) | (show SH _ _ _ _ _ (⟨_, .binOp .add _ _ _ _, _, _, _, _⟩ :: _) _ _ _; refine add rfl rfl inL ?_) | (show SH _ _ _ _ _ (⟨_, .load _ _, _, _, _, _⟩ :: _) _ _ _; first | refine lba rfl spL (by rfl) ?_ | refine lcell rfl (fun w hw => hw.ext.cell (by assumption)) ?_) | (show SH _ _ _ _ _ (⟨_, .call ⟨.value (.func 23), _, _⟩, _, _, _, _⟩ :: _) _ _ _; refine cp (callee := .func 23) rfl (fun w hw => places_spec t la A L c w hz (rows_rd (c := c) enL hw)) rfl rfl ?_) | refine nlc rfl ?_)))
      rintro _ _ ⟨rm, rfl, rfl⟩
      (repeat' (first | (show VH _ _ _ _ _ _ _; first | refine v_seq ?_ | refine r_seq ?_ | refine v_skip ?_ | refine v_cond_f rfl tbL ?_) | (show SH _ _ _ _ _ (_ :: _) _ _ _; first | (show SH _ _ _ _ _ (⟨_, .move _, _, _, _, _⟩ :: _) _ _ _; refine mov evL ?_) | (show SH _ _ _ _ _ (⟨_, .assign _, _, _, _, _⟩ :: _) _ _ _; refine asg evL ?_) | (show SH _ _ _ _ _ (⟨_, .binOp .eql _ _ _ _, _, _, _, _⟩ :: _) _ _ _; refine eqlF rfl rfl omD ?_) | (show SH _ _ _ _ _ (⟨_, .binOp .neq _ _ _ _, _, _, _, _⟩ :: _) _ _ _; refine neqF rfl rfl omD ?_) | (show SH _ _ _ _ _ (⟨_, .load _ _, _, _, _, _⟩ :: _) _ _ _; refine lcell rfl (fun w hw => hw.ext.cell (by assumption)) ?_) | (show SH _ _ _ _ _ (⟨_, .lookup _ _ _ false, _, _, _, _⟩ :: _) _ _ _; refine lkm rfl rfl spL ?_)) | refine s_nil ?_ | refine kh_normal ?_ | refine bh_normal ?_))
      refine cm rfl (fun w2 hw2 => leave_spec t la A L c bh k who w H w2 hk hz (Ent.wd enL hw2)) rfl rfl ?_
      rintro _ _ ⟨L', hp', rfl⟩
      refine ⟨trivial, ?_⟩
      (repeat' (first | (show VH _ _ _ _ _ _ _; first | refine v_seq ?_ | refine r_seq ?_ | refine v_ret ?_) | (show SH _ _ _ _ _ (_ :: _) _ _ _; (show SH _ _ _ _ _ (⟨_, .assign _, _, _, _, _⟩ :: _) _ _ _; refine asg evL ?_)) | refine s_nil ?_ | refine kh_normal ?_))
      exact rh1 rfl rfl ⟨rfl, A, c, L', hp', rfl⟩ (ent_refl _)
  · rw [if_neg hfd]
    have hg : ¬ mget (placesM (ptys L)) who = (k : Int) + 1 := fun h => hfd (hg.1 h)
    refine enterH Tryz.func77 rfl rfl Tryz.ntmps77 rfl (by assumption) ?_
    (repeat' (first | (show VH _ _ _ _ _ _ _; first | refine v_seq ?_ | refine r_seq ?_ | refine v_block ?_) | (show SH _ _ _ _ _ (_ :: _) _ _ _; (show SH _ _ _ _ _ (⟨_, .assign _, _, _, _, _⟩ :: _) _ _ _; refine asg evL ?_)) | refine s_nil ?_ | refine kh_normal ?_))
    refine r_heldT [hb36 bh t la A L c] (tr [(0, true), (1, true), (2, true), (4, true), (6, true), (7, true), (3, false), (5, false), (8, false), (9, false)] .nil) hmix (by kernel_rfl) enL ?_
    (repeat' ((show SH _ _ _ _ _ (_ :: _) _ _ _; first | (show SH _ _ _ _ _ (⟨_, .move _, _, _, _, _⟩ :: _) _ _ _; refine mov evL ?_) | (show SH _ _ _ _ _ (⟨_, .binOp .add _ _ _ _, _, _, _, _⟩ :: _) _ _ _; refine add rfl rfl inL ?_) | (show SH _ _ _ _ _ (⟨_, .load _ _, _, _, _, _⟩ :: _) _ _ _; first | refine lba rfl spL (by rfl) ?_ | refine lcell rfl (fun w hw => hw.ext.cell (by assumption)) ?_) | (show SH _ _ _ _ _ (⟨_, .call ⟨.value (.func 23), _, _⟩, _, _, _, _⟩ :: _) _ _ _; refine cp (callee := .func 23) rfl (fun w hw => places_spec t la A L c w hz (rows_rd (c := c) enL hw)) rfl rfl ?_) | refine nlc rfl ?_)))
    rintro _ _ ⟨rm, rfl, rfl⟩
    (repeat' (first | (show VH _ _ _ _ _ _ _; first | refine v_seq ?_ | refine r_seq ?_ | refine v_ret ?_ | refine v_cond_t rfl tbL ?_) | (show SH _ _ _ _ _ (_ :: _) _ _ _; first | (show SH _ _ _ _ _ (⟨_, .assign _, _, _, _, _⟩ :: _) _ _ _; refine asg evL ?_) | (show SH _ _ _ _ _ (⟨_, .binOp .neq _ _ _ _, _, _, _, _⟩ :: _) _ _ _; refine neqT rfl rfl omD ?_) | (show SH _ _ _ _ _ (⟨_, .lookup _ _ _ false, _, _, _, _⟩ :: _) _ _ _; refine lkm rfl rfl spL ?_)) | refine s_nil ?_ | refine kh_normal ?_ | refine kh_ret ?_ | refine bh_ret ?_))
    exact rh1 rfl rfl ⟨rfl, rfl⟩ enL
theorem leadM_eq (h : Hal) (by' : Int) (f : Nat → ResP) : leadM h by' f = if validHal h then leadR h.ps by' f else (hal0, 2) := rfl
set_option maxHeartbeats 1000000 in
set_option maxRecDepth 100000 in
theorem kick_spec (t la : Int) (A : Option Addr) (L : List PtyP) (c : Nat) (by' who : Int) (w : World) (hz : SzP L) (hr : RdP w A L) : Ret Tryz.prog 40 [hv36 t la A L c, .int .i64 by', .int .i64 who].toArray w (RP w (OutH (kickM ⟨t, la, ptys L⟩ by' who))) := by
  rw [show kickM ⟨t, la, ptys L⟩ by' who = if validHal ⟨t, la, ptys L⟩ then leadR (ptys L) by' (kickR t la (ptys L) by' who) else (hal0, 2) by unfold kickM; rw [leadM_eq]; simp only [leaveAt_eq]; rfl]
  refine enterH Tryz.func40 rfl rfl Tryz.ntmps40 rfl (Wd.refl _) ?_
  (repeat' (first | (show VH _ _ _ _ _ _ _; first | refine v_seq ?_ | refine r_seq ?_) | (show SH _ _ _ _ _ (_ :: _) _ _ _; first | (show SH _ _ _ _ _ (⟨_, .assign _, _, _, _, _⟩ :: _) _ _ _; refine asg evL ?_) | (show SH _ _ _ _ _ (⟨_, .load _ _, _, _, _, _⟩ :: _) _ _ _; first | refine lbx rfl spL (by rfl) ?_ | refine lba rfl spL (by rfl) ?_) | (show SH _ _ _ _ _ (⟨_, .makeFunc _ _ _, _, _, _, _⟩ :: _) _ _ _; refine mf2 evL evL ?_) | refine ala rfl (fun b => ?_) | (show SH _ _ _ _ _ (⟨_, .box _ _, _, _, _, _⟩ :: _) _ _ _; refine bxx rfl evL rfl (fun b => ?_))) | refine s_nil ?_ | refine kh_normal ?_))
  rename_i b3 b4 b5
  refine cp rfl (fun w2 hw => lead_spec t la A L c by' 77 #[] #[.pointer (some ⟨b5, 0, none⟩), .pointer (some ⟨b4, 0, none⟩)] _ w2 hz (hr.ext hw.ext) (fun k _ => kickR0 _ _ _ _ _ _) (fun w3 he hv k hk _ => kick1_spec t la L by' who k _ _ w3 (findM_some _ hk).1 (valid_iff.1 hv).nd (he.cell (hw.cell (cs := [.int .i64 who]) spL rfl)) (he.cell (hw.cell (cs := [.int .i64 by']) spL rfl)))) rfl rfl ?_
  rintro _ _ ⟨A1, c1, L1, hp1, rfl, rfl⟩
  (repeat' (first | refine v_ret ?_ | (show SH _ _ _ _ _ (_ :: _) _ _ _; first | (show SH _ _ _ _ _ (⟨_, .assign _, _, _, _, _⟩ :: _) _ _ _; refine asg evL ?_) | refine extr rfl rfl ?_ | (show SH _ _ _ _ _ (⟨_, .store _ _ _, _, _, _, _⟩ :: _) _ _ _; refine sta rfl rfl rfl spL (by rfl) (by rfl) (by rfl) kpL ?_)) | refine s_nil ?_ | refine kh_normal ?_))
  exact rhC2 rfl rfl rfl rfl (fun w hw => loadVar_bx hw spL (by rfl)) ⟨A1, c1, L1, hp1, rfl, rfl⟩ enL
/-! Disband -/
set_option maxHeartbeats 1000000 in
set_option maxRecDepth 100000 in
theorem disb1_spec (t la : Int) (L0 : List PtyP) (k : Nat) (w : World) (hk0 : k < (ptys L0).length) : ActsL w t la L0 k 79 #[] #[] (⟨t, la, (ptys L0).eraseIdx k⟩, 0) := by
  refine actsL_of (cap := []) fun w' bh A c L H hz hp hw => ?_
  rw [← hp] at hk0 ⊢
  have hll := hz.len
  have hk : k < L.length := by rw [ptys_len] at hk0; exact hk0
  refine enterH Tryz.func79 rfl rfl Tryz.ntmps79 rfl (by assumption) ?_
  (repeat' (first | (show VH _ _ _ _ _ _ _; first | refine v_seq ?_ | refine r_seq ?_) | (show SH _ _ _ _ _ (_ :: _) _ _ _; first | (show SH _ _ _ _ _ (⟨_, .move _, _, _, _, _⟩ :: _) _ _ _; refine mov evL ?_) | (show SH _ _ _ _ _ (⟨_, .assign _, _, _, _, _⟩ :: _) _ _ _; refine asg evL ?_)) | refine s_nil ?_ | refine kh_normal ?_))
  refine cm rfl (fun w2 hw2 => drop_spec t la A L c bh k w H w2 hk hll (Ent.wd enL hw2)) rfl rfl ?_
  rintro _ _ rfl
  refine ⟨trivial, ?_⟩
  (repeat' (first | (show VH _ _ _ _ _ _ _; first | refine v_seq ?_ | refine r_seq ?_ | refine v_ret ?_) | (show SH _ _ _ _ _ (_ :: _) _ _ _; (show SH _ _ _ _ _ (⟨_, .assign _, _, _, _, _⟩ :: _) _ _ _; refine asg evL ?_)) | refine s_nil ?_ | refine kh_normal ?_))
  exact rh1 rfl rfl ⟨rfl, A, c, _, ptys_erase L k, rfl⟩ (ent_refl _)
set_option maxHeartbeats 1000000 in
set_option maxRecDepth 100000 in
theorem disband_spec (t la : Int) (A : Option Addr) (L : List PtyP) (c : Nat) (by' : Int) (w : World) (hz : SzP L) (hr : RdP w A L) : Ret Tryz.prog 42 [hv36 t la A L c, .int .i64 by'].toArray w (RP w (OutH (disbandM ⟨t, la, ptys L⟩ by'))) := by
  rw [show disbandM ⟨t, la, ptys L⟩ by' = if validHal ⟨t, la, ptys L⟩ then leadR (ptys L) by' (fun k => (⟨t, la, (ptys L).eraseIdx k⟩, 0)) else (hal0, 2) from rfl]
  have hl := fun w hr => lead_spec t la A L c by' 79 #[] #[] _ w hz hr (fun k _ h => absurd rfl h) (fun w3 _ _ k hk _ => disb1_spec t la L k w3 (findM_some _ hk).1)
  refine enterH Tryz.func42 rfl rfl Tryz.ntmps42 rfl (Wd.refl _) ?_
  (repeat' (first | (show VH _ _ _ _ _ _ _; first | refine v_seq ?_ | refine r_seq ?_) | (show SH _ _ _ _ _ (_ :: _) _ _ _; first | (show SH _ _ _ _ _ (⟨_, .move _, _, _, _, _⟩ :: _) _ _ _; refine mov evL ?_) | (show SH _ _ _ _ _ (⟨_, .assign _, _, _, _, _⟩ :: _) _ _ _; refine asg evL ?_) | (show SH _ _ _ _ _ (⟨_, .load _ _, _, _, _, _⟩ :: _) _ _ _; refine lba rfl spL (by rfl) ?_) | (show SH _ _ _ _ _ (⟨_, .call ⟨.value (.func 44), _, _⟩, _, _, _, _⟩ :: _) _ _ _; refine cp (callee := .func 44) rfl (fun w hw => hl w (hr.ext hw.ext)) rfl rfl ?_) | refine ala rfl (fun b => ?_) | (show SH _ _ _ _ _ (⟨_, .box _ _, _, _, _, _⟩ :: _) _ _ _; refine bxx rfl evL rfl (fun b => ?_))) | refine s_nil ?_ | refine kh_normal ?_))
  rintro _ _ ⟨A1, c1, L1, hp1, rfl, rfl⟩
  (repeat' (first | refine v_ret ?_ | (show SH _ _ _ _ _ (_ :: _) _ _ _; first | (show SH _ _ _ _ _ (⟨_, .assign _, _, _, _, _⟩ :: _) _ _ _; refine asg evL ?_) | refine extr rfl rfl ?_ | (show SH _ _ _ _ _ (⟨_, .store _ _ _, _, _, _, _⟩ :: _) _ _ _; refine sta rfl rfl rfl spL (by rfl) (by rfl) (by rfl) kpL ?_)) | refine s_nil ?_ | refine kh_normal ?_))
  exact rhC2 rfl rfl rfl rfl (fun w hw => loadVar_bx hw spL (by rfl)) ⟨A1, c1, L1, hp1, rfl, rfl⟩ enL
/-! Promote -/
def promR (t la : Int) (ps : List Pty) (who : Int) (k : Nat) : ResP := if findM who ps = some k then (⟨t, la, ps.set k { ps.getD k pty0 with leader := who }⟩, 0) else (hal0, 6)
theorem promR0 (t la : Int) (ps : List Pty) (who : Int) (k : Nat) : (promR t la ps who k).2 ≠ 0 → (promR t la ps who k).1 = hal0 := by
  unfold promR
  split
  · intro h; exact absurd rfl h
  · intro _; rfl
set_option maxHeartbeats 1000000 in
set_option maxRecDepth 100000 in
theorem prom1_spec (t la : Int) (L0 : List PtyP) (who : Int) (k : Nat) (a1 : Addr) (w : World) (hk0 : k < (ptys L0).length) (hn : (allM (ptys L0)).Nodup) (h1 : w.cell? a1 = some (.int .i64 who)) : ActsL w t la L0 k 78 #[] #[.pointer (some a1)] (promR t la (ptys L0) who k) := by
  refine actsL_of (cap := [.pointer (some a1)]) fun w' bh A c L H hz hp hw => ?_
  have hg := find_at (ptys L0) who hn k
  rw [← hp] at hg hk0 ⊢
  have hll := hz.len
  have hk : k < L.length := by rw [ptys_len] at hk0; exact hk0
  unfold promR
  by_cases hfd : findM who (ptys L) = some k
  · rw [if_pos hfd, ptys_at hk]
    have hg := hg.2 hfd
    refine enterH Tryz.func78 rfl rfl Tryz.ntmps78 rfl (by assumption) ?_
    (repeat' (first | (show VH _ _ _ _ _ _ _; first | refine v_seq ?_ | refine r_seq ?_) | (show SH _ _ _ _ _ (_ :: _) _ _ _; (show SH _ _ _ _ _ (⟨_, .assign _, _, _, _, _⟩ :: _) _ _ _; refine asg evL ?_)) | refine s_nil ?_ | refine kh_normal ?_))
    refine r_heldT [hb36 bh t la A L c] (tr [(0, true), (1, true), (2, true), (4, true), (6, true), (7, true), (3, false), (5, false), (8, false)] .nil) hmix (by kernel_rfl) enL ?_
    (repeat' ((show SH _ _ _ _ _ (_ :: _) _ _ _; first | (show SH _ _ _ _ _ (⟨_, .move _, _, _, _, _⟩ :: _) _ _ _; refine mov evL ?_) | (show SH _ _ _ _ _ (⟨_, .binOp .add _ _ _ _, _, _, _, _⟩ :: _) _ _ _; refine add rfl rfl inL ?_) | (show SH _ _ _ _ _ (⟨_, .load _ _, _, _, _, _⟩ :: _) _ _ _; first | refine lba rfl spL (by rfl) ?_ | refine lcell rfl (fun w hw => hw.ext.cell (by assumption)) ?_) | (show SH _ _ _ _ _ (⟨_, .call ⟨.value (.func 23), _, _⟩, _, _, _, _⟩ :: _) _ _ _; refine cp (callee := .func 23) rfl (fun w hw => places_spec t la A L c w hz (rows_rd (c := c) enL hw)) rfl rfl ?_) | refine nlc rfl ?_)))
    rintro _ _ ⟨rm, rfl, rfl⟩
    (repeat' (first | (show VH _ _ _ _ _ _ _; first | refine v_seq ?_ | refine v_skip ?_ | refine v_cond_f rfl tbL ?_) | (show SH _ _ _ _ _ (_ :: _) _ _ _; first | (show SH _ _ _ _ _ (⟨_, .binOp .neq _ _ _ _, _, _, _, _⟩ :: _) _ _ _; refine neqF rfl rfl omD ?_) | (show SH _ _ _ _ _ (⟨_, .lookup _ _ _ false, _, _, _, _⟩ :: _) _ _ _; refine lkm rfl rfl spL ?_)) | refine s_nil ?_ | refine kh_normal ?_))
    refine r_heldT [hb36 bh t la A L c] (tr [(0, true), (1, true), (2, true), (3, true), (4, true), (5, false), (6, false), (7, false), (8, false)] .nil) hmix (by kernel_rfl) enL ?_
    (repeat' ((show SH _ _ _ _ _ (_ :: _) _ _ _; first | (show SH _ _ _ _ _ (⟨_, .move _, _, _, _, _⟩ :: _) _ _ _; refine mov evL ?_) | (show SH _ _ _ _ _ (⟨_, .load _ _, _, _, _, _⟩ :: _) _ _ _; first | refine lbx rfl spL (by rfl) ?_ | refine lcell rfl (fun w hw => hw.ext.cell (by assumption)) ?_) | (show SH _ _ _ _ _ (⟨_, .indexAddr _ _ _, _, _, _, _⟩ :: _) _ _ _; refine ix rfl rfl (by with_reducible rfl) (fun _ _ => rdP) (by rfl) omL omL ?_) | refine nlc rfl ?_ | refine fad rfl ?_)))
    refine stf ({ L.getD k Flat.dflt with p := { (L.getD k Flat.dflt).p with leader := who } } : PtyP) rfl rfl rfl spL rfl hk rfl rfl (by decide) rfl enL ?_
    (repeat' (first | (show VH _ _ _ _ _ _ _; first | refine v_seq ?_ | refine r_seq ?_ | refine v_ret ?_) | (show SH _ _ _ _ _ (_ :: _) _ _ _; (show SH _ _ _ _ _ (⟨_, .assign _, _, _, _, _⟩ :: _) _ _ _; refine asg evL ?_)) | refine s_nil ?_ | refine kh_normal ?_))
    refine rh1 rfl rfl ⟨rfl, A, c, L.set k ({ L.getD k Flat.dflt with p := { (L.getD k Flat.dflt).p with leader := who } } : PtyP), ptys_set _ _ _, rfl⟩ ?_
    have e1 : (L.set k ({ L.getD k Flat.dflt with p := { (L.getD k Flat.dflt).p with leader := who } } : PtyP)).map rowM = L.map rowM := by rw [List.map_set]; exact set_same (f := rowM) hk
    have e2 : (L.set k ({ L.getD k Flat.dflt with p := { (L.getD k Flat.dflt).p with leader := who } } : PtyP)).map rowI = L.map rowI := by rw [List.map_set]; exact set_same (f := rowI) hk
    unfold hallH hb36
    rw [e1, e2, List.length_set]
    exact enL
  · rw [if_neg hfd]
    have hg : ¬ mget (placesM (ptys L)) who = (k : Int) + 1 := fun h => hfd (hg.1 h)
    refine enterH Tryz.func78 rfl rfl Tryz.ntmps78 rfl (by assumption) ?_
    (repeat' (first | (show VH _ _ _ _ _ _ _; first | refine v_seq ?_ | refine r_seq ?_) | (show SH _ _ _ _ _ (_ :: _) _ _ _; (show SH _ _ _ _ _ (⟨_, .assign _, _, _, _, _⟩ :: _) _ _ _; refine asg evL ?_)) | refine s_nil ?_ | refine kh_normal ?_))
    refine r_heldT [hb36 bh t la A L c] (tr [(0, true), (1, true), (2, true), (4, true), (6, true), (7, true), (3, false), (5, false), (8, false)] .nil) hmix (by kernel_rfl) enL ?_
    (repeat' ((show SH _ _ _ _ _ (_ :: _) _ _ _; first | (show SH _ _ _ _ _ (⟨_, .move _, _, _, _, _⟩ :: _) _ _ _; refine mov evL ?_) | (show SH _ _ _ _ _ (⟨_, .binOp .add _ _ _ _, _, _, _, _⟩ :: _) _ _ _; refine add rfl rfl inL ?_) | (show SH _ _ _ _ _ (⟨_, .load _ _, _, _, _, _⟩ :: _) _ _ _; first | refine lba rfl spL (by rfl) ?_ | refine lcell rfl (fun w hw => hw.ext.cell (by assumption)) ?_) | (show SH _ _ _ _ _ (⟨_, .call ⟨.value (.func 23), _, _⟩, _, _, _, _⟩ :: _) _ _ _; refine cp (callee := .func 23) rfl (fun w hw => places_spec t la A L c w hz (rows_rd (c := c) enL hw)) rfl rfl ?_) | refine nlc rfl ?_)))
    rintro _ _ ⟨rm, rfl, rfl⟩
    (repeat' (first | (show VH _ _ _ _ _ _ _; first | refine v_seq ?_ | refine r_seq ?_ | refine v_ret ?_ | refine v_cond_t rfl tbL ?_) | (show SH _ _ _ _ _ (_ :: _) _ _ _; first | (show SH _ _ _ _ _ (⟨_, .assign _, _, _, _, _⟩ :: _) _ _ _; refine asg evL ?_) | (show SH _ _ _ _ _ (⟨_, .binOp .neq _ _ _ _, _, _, _, _⟩ :: _) _ _ _; refine neqT rfl rfl omD ?_) | (show SH _ _ _ _ _ (⟨_, .lookup _ _ _ false, _, _, _, _⟩ :: _) _ _ _; refine lkm rfl rfl spL ?_)) | refine s_nil ?_ | refine kh_normal ?_ | refine kh_ret ?_))
    exact rh1 rfl rfl ⟨rfl, rfl⟩ enL
set_option maxHeartbeats 1000000 in
set_option maxRecDepth 100000 in
theorem promote_spec (t la : Int) (A : Option Addr) (L : List PtyP) (c : Nat) (by' who : Int) (w : World) (hz : SzP L) (hr : RdP w A L) : Ret Tryz.prog 41 [hv36 t la A L c, .int .i64 by', .int .i64 who].toArray w (RP w (OutH (promoteM ⟨t, la, ptys L⟩ by' who))) := by
  rw [show promoteM ⟨t, la, ptys L⟩ by' who = if validHal ⟨t, la, ptys L⟩ then leadR (ptys L) by' (promR t la (ptys L) who) else (hal0, 2) from rfl]
  refine enterH Tryz.func41 rfl rfl Tryz.ntmps41 rfl (Wd.refl _) ?_
  (repeat' (first | (show VH _ _ _ _ _ _ _; first | refine v_seq ?_ | refine r_seq ?_) | (show SH _ _ _ _ _ (_ :: _) _ _ _; first | (show SH _ _ _ _ _ (⟨_, .move _, _, _, _, _⟩ :: _) _ _ _; refine mov evL ?_) | (show SH _ _ _ _ _ (⟨_, .assign _, _, _, _, _⟩ :: _) _ _ _; refine asg evL ?_) | (show SH _ _ _ _ _ (⟨_, .load _ _, _, _, _, _⟩ :: _) _ _ _; refine lba rfl spL (by rfl) ?_) | (show SH _ _ _ _ _ (⟨_, .makeFunc _ _ _, _, _, _, _⟩ :: _) _ _ _; refine mf1 evL ?_) | refine ala rfl (fun b => ?_) | (show SH _ _ _ _ _ (⟨_, .box _ _, _, _, _, _⟩ :: _) _ _ _; refine bxx rfl evL rfl (fun b => ?_))) | refine s_nil ?_ | refine kh_normal ?_))
  rename_i b3 b5
  refine cp rfl (fun w2 hw => lead_spec t la A L c by' 78 #[] #[.pointer (some ⟨b5, 0, none⟩)] _ w2 hz (hr.ext hw.ext) (fun k _ => promR0 _ _ _ _ _) (fun w3 he hv k hk _ => prom1_spec t la L who k _ w3 (findM_some _ hk).1 (valid_iff.1 hv).nd (he.cell (hw.cell (cs := [.int .i64 who]) spL rfl)))) rfl rfl ?_
  rintro _ _ ⟨A1, c1, L1, hp1, rfl, rfl⟩
  (repeat' (first | refine v_ret ?_ | (show SH _ _ _ _ _ (_ :: _) _ _ _; first | (show SH _ _ _ _ _ (⟨_, .assign _, _, _, _, _⟩ :: _) _ _ _; refine asg evL ?_) | refine extr rfl rfl ?_ | (show SH _ _ _ _ _ (⟨_, .store _ _ _, _, _, _, _⟩ :: _) _ _ _; refine sta rfl rfl rfl spL (by rfl) (by rfl) (by rfl) kpL ?_)) | refine s_nil ?_ | refine kh_normal ?_))
  exact rhC2 rfl rfl rfl rfl (fun w hw => loadVar_bx hw spL (by rfl)) ⟨A1, c1, L1, hp1, rfl, rfl⟩ enL
end Go.Proofs.YtlfbcoohfnoacaaGreat

/- Where a binary search ends. Plain Lean. -/
namespace Go.Proofs.YtlfbcoohfnoacaaGreat
open Go.Fw Go.RowKit
section
variable {α : Type} (d : α) {key : α → Int} {k : Int}
theorem lbK_le (l : List α) : lbK key k l ≤ l.length := by
  induction l with
  | nil => simp [lbK]
  | cons x l ih =>
    unfold lbK at ih ⊢
    rw [List.takeWhile_cons]
    split
    · simp only [List.length_cons]; omega
    · simp
theorem lbK_lt (l : List α) : ∀ j, j < lbK key k l → key (l.getD j d) < k := by
  induction l with
  | nil => intro j h; simp [lbK] at h
  | cons x l ih =>
    intro j h
    unfold lbK at ih h
    rw [List.takeWhile_cons] at h
    split at h
    · rename_i hx
      cases j with
      | zero => simpa using hx
      | succ j => simpa using ih j (by simpa using h)
    · simp at h
theorem lbK_stop (l : List α) : lbK key k l < l.length → ¬ key (l.getD (lbK key k l) d) < k := by
  induction l with
  | nil => intro h; simp at h
  | cons x l ih =>
    intro h
    unfold lbK at ih h ⊢
    rw [List.takeWhile_cons] at h ⊢
    split
    · rename_i hx
      rw [if_pos hx] at h
      simpa using ih (by simpa using h)
    · rename_i hx
      simpa using hx
theorem lbK_ge {l : List α} (hR : Rising key l) : ∀ j, lbK key k l ≤ j → j < l.length → k ≤ key (l.getD j d) := by
  intro j h1 h2
  have h3 := lbK_stop d (key := key) (k := k) l (by omega)
  by_cases e : lbK key k l = j
  · rw [e] at h3; omega
  · have := rising_at d hR (i := lbK key k l) (j := j) (by omega) h2; omega
end
theorem hasK_mem {l : List Inv} {k : Int} (hR : Rising Inv.who l) : hasK Inv.who k l = decide (k ∈ l.map Inv.who) := by
  rw [Bool.eq_iff_iff]
  unfold hasK
  rw [Bool.and_eq_true, decide_eq_true_eq, decide_eq_true_eq, decide_eq_true_eq, List.mem_map]
  constructor
  · rintro ⟨h1, h2⟩
    exact ⟨_, getD_mem h1, h2⟩
  · rintro ⟨x, hx, hk⟩
    obtain ⟨j, hj, e⟩ := List.mem_iff_getElem.1 hx
    have hj' : l.getD j Flat.dflt = x := by rw [List.getD_eq_getElem?_getD, List.getElem?_eq_getElem hj, e]; rfl
    have h1 : ¬ j < lbK Inv.who k l := fun h => by
      have := lbK_lt (Flat.dflt : Inv) (key := Inv.who) (k := k) l j h
      rw [hj'] at this; omega
    have h2 : lbK Inv.who k l = j := by
      refine Classical.byContradiction fun hne => ?_
      have h3 := lbK_stop (Flat.dflt : Inv) (key := Inv.who) (k := k) l (by omega)
      have h4 := rising_at (Flat.dflt : Inv) hR (i := lbK Inv.who k l) (j := j) (by omega) hj
      rw [hj'] at h4; omega
    rw [h2, hj']
    exact ⟨hj, hk⟩
theorem insI_lb {l : List Inv} (hR : Rising Inv.who l) (x : Inv) : insI x l = l.take (lbK Inv.who x.who l) ++ x :: l.drop (lbK Inv.who x.who l) :=
  insI_place (lbK_le l) (fun j hj => lbK_lt (⟨0, 0⟩ : Inv) (key := Inv.who) l j hj) (fun j h1 h2 => lbK_ge (⟨0, 0⟩ : Inv) hR j h1 h2)
end Go.Proofs.YtlfbcoohfnoacaaGreat

/- Package party: Invited. -/
namespace Go.Proofs.YtlfbcoohfnoacaaGreat
open Go.Fw Go.RowKit
set_option maxRecDepth 100000 in
theorem inv11_spec (i : Inv) (who : Int) (w : World) : Ret Tryz.prog 47 [.agg (Flat.enc i).toArray, .int .i64 who].toArray w (Out w (.int .i64 (cmpI i.who who))) := by
  obtain ⟨iw, it⟩ := i
  rw [show Flat.enc (⟨iw, it⟩ : Inv) = [.int .i64 iw, .int .i64 it] from rfl]
  refine enterH Tryz.func47 rfl rfl Tryz.ntmps47 rfl (Wd.refl _) ?_
  (repeat' (first | (show VH _ _ _ _ _ _ _; first | refine v_seq ?_ | refine r_seq ?_ | refine v_ret ?_) | (show SH _ _ _ _ _ (_ :: _) _ _ _; first | (show SH _ _ _ _ _ (⟨_, .move _, _, _, _, _⟩ :: _) _ _ _; refine mov evL ?_) | (show SH _ _ _ _ _ (⟨_, .assign _, _, _, _, _⟩ :: _) _ _ _; refine asg evL ?_) | (show SH _ _ _ _ _ (⟨_, .load _ _, _, _, _, _⟩ :: _) _ _ _; refine lbx rfl spL (by rfl) ?_) | (show SH _ _ _ _ _ (⟨_, .call ⟨.value (.func 48), _, _⟩, _, _, _, _⟩ :: _) _ _ _; refine cl (callee := .func 48) rfl (fun w hw => compare_spec _ _ w) rfl rfl ?_) | refine fad rfl ?_ | (show SH _ _ _ _ _ (⟨_, .box _ _, _, _, _, _⟩ :: _) _ _ _; refine bxx rfl evL rfl (fun b => ?_))) | refine s_nil ?_ | refine kh_normal ?_))
  exact rh1 rfl rfl ⟨rfl, rfl⟩ (ent_nil _)
theorem inv_rising {h : Hal} (hv : VHal h) {k : Nat} (hk : k < h.ps.length) : Rising Inv.who (h.ps.getD k pty0).inv := (hv.ok _ (getD_mem hk)).2.2.2.2.1
def ivtR (t la : Int) (ps : List Pty) (who : Int) (k : Nat) : ResP :=
  if isIdB who = true then
    if who ∈ allM ps then (hal0, 361)
    else if who ∈ (ps.getD k pty0).inv.map Inv.who then (hal0, 363)
    else if (ps.getD k pty0).mem.length + (ps.getD k pty0).inv.length < 5 then
      (⟨t, la, ps.set k { ps.getD k pty0 with inv := insI ⟨who, t + 600⟩ (ps.getD k pty0).inv }⟩, 0)
    else (hal0, 4)
  else (hal0, 2)
theorem ivtR0 (t la : Int) (ps : List Pty) (who : Int) (k : Nat) : (ivtR t la ps who k).2 ≠ 0 → (ivtR t la ps who k).1 = hal0 := by
  unfold ivtR
  repeat' split
  all_goals first
    | (intro _; rfl)
    | (intro h; exact absurd rfl h)
set_option maxHeartbeats 2000000 in
set_option maxRecDepth 100000 in
theorem inv1_spec (t la : Int) (L0 : List PtyP) (who : Int) (k : Nat) (a1 : Addr) (w : World) (hk0 : k < (ptys L0).length) (ht : 0 ≤ t ∧ t ≤ 1073741824) (hR0 : Rising Inv.who ((ptys L0).getD k pty0).inv) (h1 : w.cell? a1 = some (.int .i64 who)) : ActsL w t la L0 k 45 #[] #[.pointer (some a1)] (ivtR t la (ptys L0) who k) := by
  refine actsL_of (cap := [.pointer (some a1)]) fun w' bh A c L H hz hp hw => ?_
  have hid := fun w => isID_spec who w
  have hpos := pos_iff (ptys L) who
  rw [← hp] at hk0 hR0 ⊢
  have hll := hz.len
  have hk : k < L.length := by rw [ptys_len] at hk0; exact hk0
  have hpk := ptys_at hk
  have hml := hz.atm hk
  have hil := hz.ati hk
  have hrd := fun w h => RdP.inv (w := w) (A := A) (l := L) h hk
  unfold ivtR
  rw [hpk] at hR0 ⊢
  obtain ⟨x, hx⟩ : ∃ x, L.getD k Flat.dflt = x := ⟨_, rfl⟩
  have hxE := pty_enc hx
  have hopI : ∀ G, Ent (allH (L.map rowI) :: G) (rowI x :: allH ((L.eraseIdx k).map rowI) :: G) := fun G => by
    have := ent_all_open (f := rowI) (L := L) (k := k) (d := Flat.dflt) (G := G) hk
    rw [hx] at this
    exact this
  have hcI : ∀ y G, Ent (rowI y :: allH ((L.eraseIdx k).map rowI) :: G) (allH ((L.set k y).map rowI) :: G) := fun y G => ent_all_close hk
  have hcM : ∀ y : PtyP, rowM y = rowM x → (L.set k y).map rowM = L.map rowM := fun y hy => by
    rw [List.map_set, hy, ← hx]
    exact set_same (f := rowM) hk
  rw [hx] at hR0 hml hil hrd ⊢
  have hps := ptys_set L k
  clear hx hpk hk0
  obtain ⟨⟨xi, xl, xm, xv⟩, xA, xca, xB, xcb⟩ := x
  simp only at hR0 hml hil hxE hopI hcI hcM hrd ⊢
  have hbs := fun w hr => binSearchI_spec xB xv xcb who 47 #[] #[] Inv.who w (by omega) hr hR0 (fun w' _ i _ => by simpa using inv11_spec i who w')
  have hhk := hasK_mem (k := who) hR0
  have hlb := lbK_le (key := Inv.who) (k := who) xv
  have hins := insI_lb hR0 ⟨who, t + 600⟩
  rw [hins]
  clear hins
  simp only at hhk hlb ⊢
  rw [hhk] at hbs
  clear hhk hR0
  generalize lbK Inv.who who xv = j at hbs hlb ⊢
  refine enterH Tryz.func45 rfl rfl Tryz.ntmps45 rfl (by assumption) ?_
  (repeat' (first | (show VH _ _ _ _ _ _ _; first | refine v_seq ?_ | refine r_seq ?_) | (show SH _ _ _ _ _ (_ :: _) _ _ _; first | (show SH _ _ _ _ _ (⟨_, .move _, _, _, _, _⟩ :: _) _ _ _; refine mov evL ?_) | (show SH _ _ _ _ _ (⟨_, .assign _, _, _, _, _⟩ :: _) _ _ _; refine asg evL ?_) | (show SH _ _ _ _ _ (⟨_, .load _ _, _, _, _, _⟩ :: _) _ _ _; refine lbx rfl spL (by rfl) ?_) | (show SH _ _ _ _ _ (⟨_, .indexAddr _ _ _, _, _, _, _⟩ :: _) _ _ _; refine ix rfl rfl (by with_reducible rfl) (fun _ _ => rdP) (by rfl) omL omL ?_) | refine nlc rfl ?_ | refine fad rfl ?_) | refine s_nil ?_ | refine kh_normal ?_))
  refine r_heldT [orow 46 A c L] (tr [(0, true), (1, true), (2, true), (3, true), (4, false), (5, false), (6, false), (7, true), (8, true), (9, false), (10, false)] .nil) hmix (by kernel_rfl) enL ?_
  (repeat' (first | (show VH _ _ _ _ _ _ _; first | refine v_seq ?_ | refine r_seq ?_ | refine v_block ?_) | (show SH _ _ _ _ _ (_ :: _) _ _ _; first | (show SH _ _ _ _ _ (⟨_, .move _, _, _, _, _⟩ :: _) _ _ _; refine mov evL ?_) | (show SH _ _ _ _ _ (⟨_, .assign _, _, _, _, _⟩ :: _) _ _ _; refine asg evL ?_) | (show SH _ _ _ _ _ (⟨_, .load _ _, _, _, _, _⟩ :: _) _ _ _; first | refine lrg rfl (fun _ _ => rdP) (by rfl) omL (by assumption) (by rfl) ?_ | refine lcell rfl (fun w hw => hw.ext.cell (by assumption)) ?_) | (show SH _ _ _ _ _ (⟨_, .call ⟨.value (.func 46), _, _⟩, _, _, _, _⟩ :: _) _ _ _; refine cl (callee := .func 46) rfl (fun w hw => hbs w (hrd w (rows_rd (c := c) enL hw))) rfl rfl ?_) | refine nlc rfl ?_ | refine extr rfl rfl ?_ | refine fad rfl ?_) | refine s_nil ?_ | refine kh_normal ?_))
  obtain ⟨there, hth⟩ : ∃ z, decide (who ∈ xv.map Inv.who) = z := ⟨_, rfl⟩
  rw [hth]
  by_cases hi : isIdB who = true
  · rw [if_pos hi]
    simp only [hi] at hid
    by_cases hm : who ∈ allM (ptys L)
    · rw [if_pos hm]
      have hpo := hpos.2 hm
      clear hpos
      (repeat' (first | (show VH _ _ _ _ _ _ _; first | refine v_seq ?_ | refine v_cond_f rfl tbL ?_) | (show SH _ _ _ _ _ (_ :: _) _ _ _; first | (show SH _ _ _ _ _ (⟨_, .assign _, _, _, _, _⟩ :: _) _ _ _; refine asg evL ?_) | (show SH _ _ _ _ _ (⟨_, .call ⟨.value (.func 25), _, _⟩, _, _, _, _⟩ :: _) _ _ _; refine cl (callee := .func 25) rfl (fun w hw => hid w) rfl rfl ?_) | refine bnoT rfl ?_) | refine s_nil ?_ | refine kh_normal ?_))
      refine r_heldT [hb36 bh t la A L c] (tr [(0, true), (1, true), (2, true), (4, true), (3, false), (5, false), (6, false), (7, false)] .nil) hmix (by kernel_rfl) enL ?_
      (repeat' ((show SH _ _ _ _ _ (_ :: _) _ _ _; first | (show SH _ _ _ _ _ (⟨_, .move _, _, _, _, _⟩ :: _) _ _ _; refine mov evL ?_) | (show SH _ _ _ _ _ (⟨_, .load _ _, _, _, _, _⟩ :: _) _ _ _; first | refine lba rfl spL (by rfl) ?_ | refine lcell rfl (fun w hw => hw.ext.cell (by assumption)) ?_) | (show SH _ _ _ _ _ (⟨_, .call ⟨.value (.func 23), _, _⟩, _, _, _, _⟩ :: _) _ _ _; refine cp (callee := .func 23) rfl (fun w hw => places_spec t la A L c w hz (rows_rd (c := c) enL hw)) rfl rfl ?_) | refine nlc rfl ?_)))
      rintro _ _ ⟨r, rfl, rfl⟩
      (repeat' (first | (show VH _ _ _ _ _ _ _; first | refine v_seq ?_ | refine r_seq ?_ | refine v_ret ?_ | refine v_cond_t rfl tbL ?_) | (show SH _ _ _ _ _ (_ :: _) _ _ _; first | (show SH _ _ _ _ _ (⟨_, .assign _, _, _, _, _⟩ :: _) _ _ _; refine asg evL ?_) | (show SH _ _ _ _ _ (⟨_, .binOp .gtr _ _ _ _, _, _, _, _⟩ :: _) _ _ _; refine gtrT rfl rfl omD ?_) | (show SH _ _ _ _ _ (⟨_, .lookup _ _ _ false, _, _, _, _⟩ :: _) _ _ _; refine lkm rfl rfl spL ?_)) | refine s_nil ?_ | refine kh_normal ?_ | refine kh_ret ?_ | refine bh_ret ?_))
      exact rh1 rfl rfl ⟨rfl, rfl⟩ enL
    · rw [if_neg hm]
      have hpo : ¬ 0 < mget (placesM (ptys L)) who := fun h => hm (hpos.1 h)
      clear hpos
      (repeat' (first | (show VH _ _ _ _ _ _ _; first | refine v_seq ?_ | refine v_cond_f rfl tbL ?_) | (show SH _ _ _ _ _ (_ :: _) _ _ _; first | (show SH _ _ _ _ _ (⟨_, .assign _, _, _, _, _⟩ :: _) _ _ _; refine asg evL ?_) | (show SH _ _ _ _ _ (⟨_, .call ⟨.value (.func 25), _, _⟩, _, _, _, _⟩ :: _) _ _ _; refine cl (callee := .func 25) rfl (fun w hw => hid w) rfl rfl ?_) | refine bnoT rfl ?_) | refine s_nil ?_ | refine kh_normal ?_))
      refine r_heldT [hb36 bh t la A L c] (tr [(0, true), (1, true), (2, true), (4, true), (3, false), (5, false), (6, false), (7, false)] .nil) hmix (by kernel_rfl) enL ?_
      (repeat' ((show SH _ _ _ _ _ (_ :: _) _ _ _; first | (show SH _ _ _ _ _ (⟨_, .move _, _, _, _, _⟩ :: _) _ _ _; refine mov evL ?_) | (show SH _ _ _ _ _ (⟨_, .load _ _, _, _, _, _⟩ :: _) _ _ _; first | refine lba rfl spL (by rfl) ?_ | refine lcell rfl (fun w hw => hw.ext.cell (by assumption)) ?_) | (show SH _ _ _ _ _ (⟨_, .call ⟨.value (.func 23), _, _⟩, _, _, _, _⟩ :: _) _ _ _; refine cp (callee := .func 23) rfl (fun w hw => places_spec t la A L c w hz (rows_rd (c := c) enL hw)) rfl rfl ?_) | refine nlc rfl ?_)))
      rintro _ _ ⟨r, rfl, rfl⟩
      by_cases hw0 : who ∈ xv.map Inv.who
      · rw [if_pos hw0]
        rw [decide_eq_true hw0] at hth
        subst hth
        (repeat' (first | (show VH _ _ _ _ _ _ _; first | refine v_seq ?_ | refine r_seq ?_ | refine v_ret ?_ | refine v_cond_t rfl tbL ?_ | refine v_cond_f rfl tbL ?_) | (show SH _ _ _ _ _ (_ :: _) _ _ _; first | (show SH _ _ _ _ _ (⟨_, .move _, _, _, _, _⟩ :: _) _ _ _; refine mov evL ?_) | (show SH _ _ _ _ _ (⟨_, .assign _, _, _, _, _⟩ :: _) _ _ _; refine asg evL ?_) | (show SH _ _ _ _ _ (⟨_, .binOp .gtr _ _ _ _, _, _, _, _⟩ :: _) _ _ _; refine gtrF rfl rfl omD ?_) | (show SH _ _ _ _ _ (⟨_, .lookup _ _ _ false, _, _, _, _⟩ :: _) _ _ _; refine lkm rfl rfl spL ?_)) | refine s_nil ?_ | refine kh_normal ?_ | refine kh_ret ?_ | refine bh_ret ?_))
        exact rh1 rfl rfl ⟨rfl, rfl⟩ enL
      · rw [if_neg hw0]
        rw [decide_eq_false hw0] at hth
        subst hth
        by_cases h5 : xm.length + xv.length < 5
        · rw [if_pos h5]
          (repeat' (first | (show VH _ _ _ _ _ _ _; first | refine v_seq ?_ | refine r_seq ?_ | refine v_cond_f rfl tbL ?_) | (show SH _ _ _ _ _ (_ :: _) _ _ _; first | (show SH _ _ _ _ _ (⟨_, .move _, _, _, _, _⟩ :: _) _ _ _; refine mov evL ?_) | (show SH _ _ _ _ _ (⟨_, .assign _, _, _, _, _⟩ :: _) _ _ _; refine asg evL ?_) | (show SH _ _ _ _ _ (⟨_, .binOp .gtr _ _ _ _, _, _, _, _⟩ :: _) _ _ _; refine gtrF rfl rfl omD ?_) | (show SH _ _ _ _ _ (⟨_, .lookup _ _ _ false, _, _, _, _⟩ :: _) _ _ _; refine lkm rfl rfl spL ?_)) | refine s_nil ?_ | refine kh_normal ?_))
          refine r_quiet hmix (by kernel_rfl) ?_
          (repeat' (first | (show VH _ _ _ _ _ _ _; first | refine v_seq ?_ | refine v_skip ?_ | refine v_cond_f rfl tbL ?_) | (show SH _ _ _ _ _ (_ :: _) _ _ _; first | (show SH _ _ _ _ _ (⟨_, .move _, _, _, _, _⟩ :: _) _ _ _; refine mov evL ?_) | (show SH _ _ _ _ _ (⟨_, .assign _, _, _, _, _⟩ :: _) _ _ _; refine asg evL ?_) | (show SH _ _ _ _ _ (⟨_, .binOp .geq _ _ _ _, _, _, _, _⟩ :: _) _ _ _; refine geqF rfl rfl omD ?_) | (show SH _ _ _ _ _ (⟨_, .binOp .add _ _ _ _, _, _, _, _⟩ :: _) _ _ _; refine add rfl rfl inL ?_) | (show SH _ _ _ _ _ (⟨_, .load _ _, _, _, _, _⟩ :: _) _ _ _; refine lrg rfl (fun _ _ => rdP) (by rfl) omL (by assumption) (by rfl) ?_) | refine slen rfl ?_ | refine nlc rfl ?_ | refine fad rfl ?_) | refine s_nil ?_ | refine kh_normal ?_ | refine bh_normal ?_))
          refine r_heldT [hb36 bh t la A L c] (tr [(0, true), (1, true), (2, true), (3, true), (5, true), (6, true), (7, true), (8, true), (9, true), (10, true), (11, true), (12, true)] (.fork 4 (tr [(13, false), (14, false), (15, false), (16, false), (17, false)] .nil) 13 (tr [(4, false), (14, false), (15, false), (16, false), (17, false)] .nil))) hmix (by kernel_rfl) enL ?_
          obtain ⟨N, hN⟩ : ∃ N, xv.take j ++ ⟨who, t + 600⟩ :: xv.drop j = N := ⟨_, rfl⟩
          have hfin := fun (A' : Option Addr) (cp' : Nat) => hcM (⟨⟨xi, xl, xm, N⟩, xA, xca, A', cp'⟩ : PtyP) rfl
          rw [hN]
          (repeat' (first | (show SH _ _ _ _ _ (_ :: _) _ _ _; first | (show SH _ _ _ _ _ (⟨_, .move _, _, _, _, _⟩ :: _) _ _ _; refine mov evL ?_) | (show SH _ _ _ _ _ (⟨_, .binOp .add _ _ _ _, _, _, _, _⟩ :: _) _ _ _; refine add rfl rfl inL ?_) | (show SH _ _ _ _ _ (⟨_, .load _ _, _, _, _, _⟩ :: _) _ _ _; first | refine lbx rfl spL (by rfl) ?_ | refine lrg rfl (fun _ _ => rdP) (by rfl) omL (by assumption) (by rfl) ?_ | refine lcell rfl (fun w hw => hw.ext.cell (by assumption)) ?_) | refine nlc rfl ?_ | refine fad rfl ?_ | refine bld rfl rfl ?_) | refine s_fork ?_ ?_))
          all_goals
            refine bsl (l := [(⟨who, t + 600⟩ : Inv)]) rfl rfl (Vals.cons rfl Vals.nil) rfl rfl (by decide) (fun b9 => ?_)
            (repeat' ((show SH _ _ _ _ _ (_ :: _) _ _ _; (show SH _ _ _ _ _ (⟨_, .load _ _, _, _, _, _⟩ :: _) _ _ _; refine lrg rfl (fun _ _ => rdP) (by rfl) omL (by assumption) (by rfl) ?_))))
            refine cm rfl (fun w2 hw2 => insertI_spec xB xv xcb j b9 ⟨who, t + 600⟩ w (hb36 bh t la A L c :: orow 46 A c L :: allH (L.map rowM) :: allH ((L.eraseIdx k).map rowI) :: H) w2 hlb (by omega) (Ent.wd (Ent.trans (B := allH (L.map rowI) :: orow 61 (some ⟨b9, 0, none⟩) 1 [(⟨who, t + 600⟩ : Inv)] :: hb36 bh t la A L c :: orow 46 A c L :: allH (L.map rowM) :: H) enL ((hopI _).trans enL)) hw2)) rfl rfl ?_
            rintro _ _ ⟨A', cp', rfl, rfl⟩
            refine ⟨enL, ?_⟩
            rw [hN]
            (repeat' ((show SH _ _ _ _ _ (_ :: _) _ _ _; first | refine nlc rfl ?_ | refine fad rfl ?_)))
            refine stf (⟨⟨xi, xl, xm, N⟩, xA, xca, A', cp'⟩ : PtyP) rfl rfl rfl spL rfl hk rfl rfl (by decide) (by rw [hxE]; rfl) enL ?_
            (repeat' (first | (show VH _ _ _ _ _ _ _; first | refine v_seq ?_ | refine r_seq ?_ | refine v_ret ?_) | (show SH _ _ _ _ _ (_ :: _) _ _ _; (show SH _ _ _ _ _ (⟨_, .assign _, _, _, _, _⟩ :: _) _ _ _; refine asg evL ?_)) | refine s_nil ?_ | refine kh_normal ?_))
            refine rh1 rfl rfl ⟨rfl, A, c, L.set k (⟨⟨xi, xl, xm, N⟩, xA, xca, A', cp'⟩ : PtyP), hps _, rfl⟩ ?_
            unfold hallH hb36
            rw [hfin A' cp', List.length_set]
            refine Ent.trans (B := rowI (⟨⟨xi, xl, xm, N⟩, xA, xca, A', cp'⟩ : PtyP) :: allH ((L.eraseIdx k).map rowI) :: hb36 bh t la A L c :: orow 46 A c (L.set k (⟨⟨xi, xl, xm, N⟩, xA, xca, A', cp'⟩ : PtyP)) :: allH (L.map rowM) :: H) enL ((hcI _ _).trans enL)
        · rw [if_neg h5]
          (repeat' (first | (show VH _ _ _ _ _ _ _; first | refine v_seq ?_ | refine r_seq ?_ | refine r_quiet hmix (by kernel_rfl) ?_ | refine v_ret ?_ | refine v_cond_t rfl tbL ?_ | refine v_cond_f rfl tbL ?_) | (show SH _ _ _ _ _ (_ :: _) _ _ _; first | (show SH _ _ _ _ _ (⟨_, .move _, _, _, _, _⟩ :: _) _ _ _; refine mov evL ?_) | (show SH _ _ _ _ _ (⟨_, .assign _, _, _, _, _⟩ :: _) _ _ _; refine asg evL ?_) | (show SH _ _ _ _ _ (⟨_, .binOp .gtr _ _ _ _, _, _, _, _⟩ :: _) _ _ _; refine gtrF rfl rfl omD ?_) | (show SH _ _ _ _ _ (⟨_, .binOp .geq _ _ _ _, _, _, _, _⟩ :: _) _ _ _; refine geqT rfl rfl omD ?_) | (show SH _ _ _ _ _ (⟨_, .binOp .add _ _ _ _, _, _, _, _⟩ :: _) _ _ _; refine add rfl rfl inL ?_) | (show SH _ _ _ _ _ (⟨_, .load _ _, _, _, _, _⟩ :: _) _ _ _; refine lrg rfl (fun _ _ => rdP) (by rfl) omL (by assumption) (by rfl) ?_) | refine slen rfl ?_ | (show SH _ _ _ _ _ (⟨_, .lookup _ _ _ false, _, _, _, _⟩ :: _) _ _ _; refine lkm rfl rfl spL ?_) | refine nlc rfl ?_ | refine fad rfl ?_) | refine s_nil ?_ | refine kh_normal ?_ | refine kh_ret ?_ | refine bh_ret ?_))
          exact rh1 rfl rfl ⟨rfl, rfl⟩ enL
  · rw [if_neg hi]
    simp only [Bool.eq_false_iff.2 hi] at hid
    clear hpos
    (repeat' (first | (show VH _ _ _ _ _ _ _; first | refine v_seq ?_ | refine r_seq ?_ | refine v_ret ?_ | refine v_cond_t rfl tbL ?_) | (show SH _ _ _ _ _ (_ :: _) _ _ _; first | (show SH _ _ _ _ _ (⟨_, .assign _, _, _, _, _⟩ :: _) _ _ _; refine asg evL ?_) | (show SH _ _ _ _ _ (⟨_, .call ⟨.value (.func 25), _, _⟩, _, _, _, _⟩ :: _) _ _ _; refine cl (callee := .func 25) rfl (fun w hw => hid w) rfl rfl ?_) | refine bnoF rfl ?_) | refine s_nil ?_ | refine kh_normal ?_ | refine kh_ret ?_ | refine bh_ret ?_))
    exact rh1 rfl rfl ⟨rfl, rfl⟩ enL
set_option maxHeartbeats 1000000 in
set_option maxRecDepth 100000 in
theorem invited_spec (t la : Int) (A : Option Addr) (L : List PtyP) (c : Nat) (by' who : Int) (w : World) (hz : SzP L) (hr : RdP w A L) : Ret Tryz.prog 15 [hv36 t la A L c, .int .i64 by', .int .i64 who].toArray w (RP w (OutH (invitedM ⟨t, la, ptys L⟩ by' who))) := by
  rw [show invitedM ⟨t, la, ptys L⟩ by' who = if validHal ⟨t, la, ptys L⟩ then leadR (ptys L) by' (ivtR t la (ptys L) who) else (hal0, 2) from rfl]
  refine enterH Tryz.func15 rfl rfl Tryz.ntmps15 rfl (Wd.refl _) ?_
  (repeat' (first | (show VH _ _ _ _ _ _ _; first | refine v_seq ?_ | refine r_seq ?_) | (show SH _ _ _ _ _ (_ :: _) _ _ _; first | (show SH _ _ _ _ _ (⟨_, .move _, _, _, _, _⟩ :: _) _ _ _; refine mov evL ?_) | (show SH _ _ _ _ _ (⟨_, .assign _, _, _, _, _⟩ :: _) _ _ _; refine asg evL ?_) | (show SH _ _ _ _ _ (⟨_, .load _ _, _, _, _, _⟩ :: _) _ _ _; refine lba rfl spL (by rfl) ?_) | (show SH _ _ _ _ _ (⟨_, .makeFunc _ _ _, _, _, _, _⟩ :: _) _ _ _; refine mf1 evL ?_) | refine ala rfl (fun b => ?_) | (show SH _ _ _ _ _ (⟨_, .box _ _, _, _, _, _⟩ :: _) _ _ _; refine bxx rfl evL rfl (fun b => ?_))) | refine s_nil ?_ | refine kh_normal ?_))
  rename_i b3 b5
  refine cp rfl (fun w2 hw => lead_spec t la A L c by' 45 #[] #[.pointer (some ⟨b5, 0, none⟩)] _ w2 hz (hr.ext hw.ext) (fun k _ => ivtR0 _ _ _ _ _) (fun w3 he hv k hk _ => inv1_spec t la L who k _ w3 (findM_some _ hk).1 ⟨(valid_iff.1 hv).t0, (valid_iff.1 hv).t1⟩ (inv_rising (valid_iff.1 hv) (findM_some _ hk).1) (he.cell (hw.cell (cs := [.int .i64 who]) spL rfl)))) rfl rfl ?_
  rintro _ _ ⟨A1, c1, L1, hp1, rfl, rfl⟩
  (repeat' (first | refine v_ret ?_ | (show SH _ _ _ _ _ (_ :: _) _ _ _; first | (show SH _ _ _ _ _ (⟨_, .assign _, _, _, _, _⟩ :: _) _ _ _; refine asg evL ?_) | refine extr rfl rfl ?_ | (show SH _ _ _ _ _ (⟨_, .store _ _ _, _, _, _, _⟩ :: _) _ _ _; refine sta rfl rfl rfl spL (by rfl) (by rfl) (by rfl) kpL ?_)) | refine s_nil ?_ | refine kh_normal ?_))
  exact rhC2 rfl rfl rfl rfl (fun w hw => loadVar_bx hw spL (by rfl)) ⟨A1, c1, L1, hp1, rfl, rfl⟩ enL
end Go.Proofs.YtlfbcoohfnoacaaGreat

/- Package party: Accept, Decline. -/
namespace Go.Proofs.YtlfbcoohfnoacaaGreat
open Go.Fw Go.RowKit
set_option maxRecDepth 100000 in
theorem ans11_spec (i : Inv) (who : Int) (a : Addr) (w : World) (h1 : w.cell? a = some (.int .i64 who)) : Ret Tryz.prog 82 [.agg (Flat.enc i).toArray, .pointer (some a)].toArray w (Out w (.bool (decide (i.who = who)))) := by
  obtain ⟨iw, it⟩ := i
  rw [show Flat.enc (⟨iw, it⟩ : Inv) = [.int .i64 iw, .int .i64 it] from rfl]
  refine enterH Tryz.func82 rfl rfl Tryz.ntmps82 rfl (Wd.refl _) ?_
  (repeat' (first | (show VH _ _ _ _ _ _ _; first | refine v_seq ?_ | refine r_seq ?_ | refine v_ret ?_) | (show SH _ _ _ _ _ (_ :: _) _ _ _; first | (show SH _ _ _ _ _ (⟨_, .assign _, _, _, _, _⟩ :: _) _ _ _; refine asg evL ?_) | refine eql rfl rfl ?_ | (show SH _ _ _ _ _ (⟨_, .load _ _, _, _, _, _⟩ :: _) _ _ _; first | refine lbx rfl spL (by rfl) ?_ | refine lcell rfl (fun w hw => hw.ext.cell (by assumption)) ?_) | refine fad rfl ?_ | (show SH _ _ _ _ _ (⟨_, .box _ _, _, _, _, _⟩ :: _) _ _ _; refine bxx rfl evL rfl (fun b => ?_))) | refine s_nil ?_ | refine kh_normal ?_))
  exact rh1 rfl rfl ⟨rfl, rfl⟩ (ent_nil _)
def askB (who id : Int) (p : Pty) : Bool := decide (p.id = id) && p.inv.any fun i => decide (i.who = who)
theorem idx_asked (who id : Int) : ∀ (L : List PtyP) (i : Int), idxFrom (fun x : PtyP => askB who id x.p) i L = match askedM who id (ptys L) with | none => -1 | some k => i + (k : Int)
  | [], i => rfl
  | x :: L, i => by
    have hb : askB who id x.p = true ↔ x.p.id = id ∧ who ∈ x.p.inv.map Inv.who := by
      unfold askB
      rw [Bool.and_eq_true, decide_eq_true_eq, List.any_eq_true, List.mem_map]
      simp only [decide_eq_true_eq]
    show idxFrom _ i (x :: L) = match askedM who id (x.p :: ptys L) with | none => -1 | some k => i + (k : Int)
    rw [idxFrom, askedM]
    by_cases h : askB who id x.p = true
    · rw [if_pos h, if_pos (hb.1 h)]; simp
    · rw [if_neg h, if_neg (fun e => h (hb.2 e)), idx_asked who id L (i + 1)]
      cases askedM who id (ptys L) with
      | none => rfl
      | some k => show i + 1 + (k : Int) = i + ((k + 1 : Nat) : Int); omega
theorem asked_lt (who id : Int) : ∀ (L : List PtyP) {k : Nat}, askedM who id (ptys L) = some k → k < L.length
  | [], k, h => by cases h
  | x :: L, k, h => by
    change askedM who id (x.p :: ptys L) = some k at h
    rw [askedM] at h
    split at h
    · injection h with h; subst h; simp
    · cases ha : askedM who id (ptys L) with
      | none => rw [ha] at h; cases h
      | some j => rw [ha] at h; have h2 : some (j + 1) = some k := h; injection h2 with h2; have := asked_lt who id L ha; simp only [List.length_cons]; omega
set_option maxRecDepth 100000 in
theorem ans12_spec (x : PtyP) (who id : Int) (a1 a2 a6 : Addr) (w : World) (hl : x.p.inv.length ≤ 1000000) (hr : Rd w x.B x.p.inv) (h1 : w.cell? a1 = some (.int .i64 who)) (h2 : w.cell? a2 = some (.int .i64 id)) (h6 : w.cell? a6 = some (.func (.func 82) #[] #[.pointer (some a1)])) :
    Ret Tryz.prog 83 [.agg (Flat.enc x).toArray, .pointer (some a2), .pointer (some a6)].toArray w (Out w (.bool (askB who id x.p))) := by
  have hc := fun w' (he : Ext w w') => containsFuncI_spec x.B x.p.inv x.cb _ (fun i => decide (i.who = who)) w' (by omega) (hr.ext he) (fun1_cap (c := .pointer (some a1)) fun w2 he2 i _ => ans11_spec i who a1 w2 (he2.cell (he.cell h1)))
  obtain ⟨⟨xi, xl, xm, xv⟩, xA, xca, xB, xcb⟩ := x
  unfold askB
  simp only at hc hr hl ⊢
  rw [show Flat.enc (⟨⟨xi, xl, xm, xv⟩, xA, xca, xB, xcb⟩ : PtyP) = [.int .i64 xi, .int .i64 xl, .slice xA xm.length xca, .slice xB xv.length xcb] from rfl]
  by_cases h : xi = id
  · rw [decide_eq_true h, Bool.true_and]
    refine enterH Tryz.func83 rfl rfl Tryz.ntmps83 rfl (Wd.refl _) ?_
    (repeat' (first | (show VH _ _ _ _ _ _ _; first | refine v_seq ?_ | refine r_seq ?_ | refine v_ret ?_) | (show SH _ _ _ _ _ (_ :: _) _ _ _; first | (show SH _ _ _ _ _ (⟨_, _, _, _, _, some _⟩ :: _) _ _ _; (refine gif rfl rfl ?_; refine giTT tbL ?_)) | (show SH _ _ _ _ _ (⟨_, .move _, _, _, _, _⟩ :: _) _ _ _; refine mov evL ?_) | (show SH _ _ _ _ _ (⟨_, .assign _, _, _, _, _⟩ :: _) _ _ _; refine asg evL ?_) | (show SH _ _ _ _ _ (⟨_, .binOp .eql _ _ _ _, _, _, _, _⟩ :: _) _ _ _; refine eqlT rfl rfl omD ?_) | (show SH _ _ _ _ _ (⟨_, .load _ _, _, _, _, _⟩ :: _) _ _ _; first | refine lbx rfl spL (by rfl) ?_ | refine lcell rfl (fun w hw => hw.ext.cell (by assumption)) ?_) | (show SH _ _ _ _ _ (⟨_, .call ⟨.value (.func 84), _, _⟩, _, _, _, _⟩ :: _) _ _ _; refine cl (callee := .func 84) rfl (fun w hw => hc w hw.ext) rfl rfl ?_) | (show SH _ _ _ _ _ (⟨_, .pick _ _ _, _, _, _, _⟩ :: _) _ _ _; refine pkt rfl tbL evL ?_) | refine fad rfl ?_ | (show SH _ _ _ _ _ (⟨_, .box _ _, _, _, _, _⟩ :: _) _ _ _; refine bxx rfl evL rfl (fun b => ?_))) | refine s_nil ?_ | refine kh_normal ?_))
    exact rh1 rfl rfl ⟨rfl, rfl⟩ (ent_nil _)
  · rw [decide_eq_false h, Bool.false_and]
    refine enterH Tryz.func83 rfl rfl Tryz.ntmps83 rfl (Wd.refl _) ?_
    (repeat' (first | (show VH _ _ _ _ _ _ _; first | refine v_seq ?_ | refine r_seq ?_ | refine v_ret ?_) | (show SH _ _ _ _ _ (_ :: _) _ _ _; first | (show SH _ _ _ _ _ (⟨_, _, _, _, _, some _⟩ :: _) _ _ _; (refine gif rfl rfl ?_; refine giTF tbL ?_)) | (show SH _ _ _ _ _ (⟨_, .move _, _, _, _, _⟩ :: _) _ _ _; refine mov evL ?_) | (show SH _ _ _ _ _ (⟨_, .assign _, _, _, _, _⟩ :: _) _ _ _; refine asg evL ?_) | (show SH _ _ _ _ _ (⟨_, .binOp .eql _ _ _ _, _, _, _, _⟩ :: _) _ _ _; refine eqlF rfl rfl omD ?_) | (show SH _ _ _ _ _ (⟨_, .load _ _, _, _, _, _⟩ :: _) _ _ _; first | refine lbx rfl spL (by rfl) ?_ | refine lcell rfl (fun w hw => hw.ext.cell (by assumption)) ?_) | (show SH _ _ _ _ _ (⟨_, .pick _ _ _, _, _, _, _⟩ :: _) _ _ _; refine pkf rfl tbL evL ?_) | refine fad rfl ?_ | (show SH _ _ _ _ _ (⟨_, .box _ _, _, _, _, _⟩ :: _) _ _ _; refine bxx rfl evL rfl (fun b => ?_))) | refine s_nil ?_ | refine kh_normal ?_))
    exact rh1 rfl rfl ⟨rfl, rfl⟩ (ent_nil _)
set_option maxRecDepth 100000 in
theorem ans13_spec (x : PtyP) (i : Inv) (who id : Int) (yes : Bool) (a1 a2 a3 a6 : Addr) (w : World) (h1 : w.cell? a1 = some (.int .i64 who)) (h2 : w.cell? a2 = some (.int .i64 id)) (h3 : w.cell? a3 = some (.bool yes)) (h6 : w.cell? a6 = some (.func (.func 82) #[] #[.pointer (some a1)])) :
    Ret Tryz.prog 85 [.agg (Flat.enc x).toArray, .agg (Flat.enc i).toArray, .pointer (some a6), .pointer (some a3), .pointer (some a2)].toArray w (Out w (.bool (decide (i.who = who) && (yes || decide (x.p.id = id))))) := by
  have hm := fun w' (he : Ext w w') => ans11_spec i who a1 w' (he.cell h1)
  obtain ⟨⟨xi, xl, xm, xv⟩, xA, xca, xB, xcb⟩ := x
  simp only at hm ⊢
  rw [show Flat.enc (⟨⟨xi, xl, xm, xv⟩, xA, xca, xB, xcb⟩ : PtyP) = [.int .i64 xi, .int .i64 xl, .slice xA xm.length xca, .slice xB xv.length xcb] from rfl]
  by_cases hw0 : i.who = who
  · simp only [decide_eq_true hw0] at hm ⊢
    cases yes with
    | true =>
      refine enterH Tryz.func85 rfl rfl Tryz.ntmps85 rfl (Wd.refl _) ?_
      (repeat' (first | (show VH _ _ _ _ _ _ _; first | refine v_seq ?_ | refine r_seq ?_ | refine v_ret ?_) | (show SH _ _ _ _ _ (_ :: _) _ _ _; first | (show SH _ _ _ _ _ (⟨_, _, _, _, _, some _⟩ :: _) _ _ _; (refine gif rfl rfl ?_; first | refine giTT tbL ?_ | refine giFT tbL ?_)) | (show SH _ _ _ _ _ (⟨_, .move _, _, _, _, _⟩ :: _) _ _ _; refine mov evL ?_) | (show SH _ _ _ _ _ (⟨_, .assign _, _, _, _, _⟩ :: _) _ _ _; refine asg evL ?_) | (show SH _ _ _ _ _ (⟨_, .load _ _, _, _, _, _⟩ :: _) _ _ _; first | refine lba rfl spL (by rfl) ?_ | refine lcell rfl (fun w hw => hw.ext.cell (by assumption)) ?_) | (show SH _ _ _ _ _ (⟨_, .call ⟨.value (.tmp _), _, _⟩, _, _, _, _⟩ :: _) _ _ _; refine cl (callee := .tmp _) rfl (fun w hw => hm w hw.ext) rfl rfl ?_) | (show SH _ _ _ _ _ (⟨_, .pick _ _ _, _, _, _, _⟩ :: _) _ _ _; refine pkt rfl tbL evL ?_) | (show SH _ _ _ _ _ (⟨_, .box _ _, _, _, _, _⟩ :: _) _ _ _; refine bxx rfl evL rfl (fun b => ?_))) | refine s_nil ?_ | refine kh_normal ?_))
      exact rh1 rfl rfl ⟨rfl, rfl⟩ (ent_nil _)
    | false =>
      refine enterH Tryz.func85 rfl rfl Tryz.ntmps85 rfl (Wd.refl _) ?_
      (repeat' (first | (show VH _ _ _ _ _ _ _; first | refine v_seq ?_ | refine r_seq ?_ | refine v_ret ?_) | (show SH _ _ _ _ _ (_ :: _) _ _ _; first | (show SH _ _ _ _ _ (⟨_, _, _, _, _, some _⟩ :: _) _ _ _; (refine gif rfl rfl ?_; first | refine giTT tbL ?_ | refine giFF tbL ?_)) | (show SH _ _ _ _ _ (⟨_, .move _, _, _, _, _⟩ :: _) _ _ _; refine mov evL ?_) | (show SH _ _ _ _ _ (⟨_, .assign _, _, _, _, _⟩ :: _) _ _ _; refine asg evL ?_) | refine eql rfl rfl ?_ | (show SH _ _ _ _ _ (⟨_, .load _ _, _, _, _, _⟩ :: _) _ _ _; first | refine lbx rfl spL (by rfl) ?_ | refine lba rfl spL (by rfl) ?_ | refine lcell rfl (fun w hw => hw.ext.cell (by assumption)) ?_) | (show SH _ _ _ _ _ (⟨_, .call ⟨.value (.tmp _), _, _⟩, _, _, _, _⟩ :: _) _ _ _; refine cl (callee := .tmp _) rfl (fun w hw => hm w hw.ext) rfl rfl ?_) | (show SH _ _ _ _ _ (⟨_, .pick _ _ _, _, _, _, _⟩ :: _) _ _ _; first | refine pkt rfl tbL evL ?_ | refine pkf rfl tbL evL ?_) | refine fad rfl ?_ | (show SH _ _ _ _ _ (⟨_, .box _ _, _, _, _, _⟩ :: _) _ _ _; refine bxx rfl evL rfl (fun b => ?_))) | refine s_nil ?_ | refine kh_normal ?_))
      exact rh1 rfl rfl ⟨congrArg Value.bool (by simp), rfl⟩ (ent_nil _)
  · simp only [decide_eq_false hw0] at hm ⊢
    refine enterH Tryz.func85 rfl rfl Tryz.ntmps85 rfl (Wd.refl _) ?_
    (repeat' (first | (show VH _ _ _ _ _ _ _; first | refine v_seq ?_ | refine r_seq ?_ | refine v_ret ?_) | (show SH _ _ _ _ _ (_ :: _) _ _ _; first | (show SH _ _ _ _ _ (⟨_, _, _, _, _, some _⟩ :: _) _ _ _; first | (refine gif rfl rfl ?_; refine giTF tbL ?_) | refine gu rfl rfl ?_) | (show SH _ _ _ _ _ (⟨_, .move _, _, _, _, _⟩ :: _) _ _ _; refine mov evL ?_) | (show SH _ _ _ _ _ (⟨_, .assign _, _, _, _, _⟩ :: _) _ _ _; refine asg evL ?_) | (show SH _ _ _ _ _ (⟨_, .load _ _, _, _, _, _⟩ :: _) _ _ _; first | refine lba rfl spL (by rfl) ?_ | refine lcell rfl (fun w hw => hw.ext.cell (by assumption)) ?_) | (show SH _ _ _ _ _ (⟨_, .call ⟨.value (.tmp _), _, _⟩, _, _, _, _⟩ :: _) _ _ _; refine cl (callee := .tmp _) rfl (fun w hw => hm w hw.ext) rfl rfl ?_) | (show SH _ _ _ _ _ (⟨_, .pick _ _ _, _, _, _, _⟩ :: _) _ _ _; refine pkf rfl tbL evL ?_) | (show SH _ _ _ _ _ (⟨_, .box _ _, _, _, _, _⟩ :: _) _ _ _; refine bxx rfl evL rfl (fun b => ?_))) | refine s_nil ?_ | refine kh_normal ?_))
    exact rh1 rfl rfl ⟨rfl, rfl⟩ (ent_nil _)
def ansR (t la : Int) (ps : List Pty) (who id : Int) (yes : Bool) : ResP :=
  match askedM who id ps with
  | none => (hal0, 6)
  | some k =>
    let qs := uninvM (fun p i => decide (i.who = who) && (yes || decide (p.id = id))) ps
    (⟨t, la, if yes then qs.set k { qs.getD k pty0 with mem := (qs.getD k pty0).mem ++ [who] } else qs⟩, 0)
theorem ansR0 (t la : Int) (ps : List Pty) (who id : Int) (yes : Bool) : (ansR t la ps who id yes).2 ≠ 0 → (ansR t la ps who id yes).1 = hal0 := by
  unfold ansR
  cases askedM who id ps with
  | none => intro _; rfl
  | some k => intro h; exact absurd rfl h
set_option maxHeartbeats 2000000 in
set_option maxRecDepth 100000 in
theorem ans1_spec (t la : Int) (L0 : List PtyP) (who id : Int) (yes : Bool) (a1 a2 a3 : Addr) (w : World) (h1 : w.cell? a1 = some (.int .i64 who)) (h2 : w.cell? a2 = some (.int .i64 id)) (h3 : w.cell? a3 = some (.bool yes)) :
    Acts w t la L0 81 #[] #[.pointer (some a1), .pointer (some a2), .pointer (some a3)] (ansR t la (ptys L0) who id yes) := by
  refine acts_of (cap := [.pointer (some a1), .pointer (some a2), .pointer (some a3)]) fun w' bh A c L H hz hp hw => ?_
  rw [← hp]
  have hll := hz.len
  have hix := idx_asked who id L 0
  unfold ansR
  refine enterH Tryz.func81 rfl rfl Tryz.ntmps81 rfl (by assumption) ?_
  (repeat' ((fail_if_success (show VH _ _ (.seq (.region 2 _ _) _) _ _ _ _)); first | (show VH _ _ _ _ _ _ _; first | refine v_seq ?_ | refine r_seq ?_) | (show SH _ _ _ _ _ (_ :: _) _ _ _; first | (show SH _ _ _ _ _ (⟨_, .assign _, _, _, _, _⟩ :: _) _ _ _; refine asg evL ?_) | (show SH _ _ _ _ _ (⟨_, .makeFunc _ _ _, _, _, _, _⟩ :: _) _ _ _; refine mf1 evL ?_) | refine al1 rfl (fun b => ?_) | (show SH _ _ _ _ _ (⟨_, .store _ _ _, _, _, _, _⟩ :: _) _ _ _; refine stb rfl rfl evL spL rfl rfl (by first | decide | exact Nat.zero_lt_succ _ | exact of_decide_eq_true rfl) kpL ?_)) | refine s_nil ?_ | refine kh_normal ?_))
  revert b
  intro b6
  have hif := fun (w2 : World) (hw2 : Wd w (bx b6 106 [.func (.func 82) #[] #[.pointer (some a1)]] :: hallH bh t la A c L H) w2) => indexFuncP_spec A L c _ (fun x => askB who id x.p) w2 (by omega) (rows_rd (c := c) enL hw2).1 ⟨83, #[], #[.pointer (some a2), .pointer (some ⟨b6, 0, none⟩)], rfl, fun w3 he x hx => ans12_spec x who id a1 a2 ⟨b6, 0, none⟩ w3 (by have := hz.inv x hx; omega) (((rows_rd (c := c) (L := L) (A := A) enL hw2).ext he).2 x hx).2 (he.cell (hw2.ext.cell h1)) (he.cell (hw2.ext.cell h2)) (he.cell (hw2.cell (cs := [.func (.func 82) #[] #[.pointer (some a1)]]) spL rfl))⟩
  unfold idxOf at hif
  rw [hix] at hif
  clear hix
  cases ha : askedM who id (ptys L) with
  | none =>
    rw [ha] at hif
    simp only at hif ⊢
    (repeat' (first | (show VH _ _ _ _ _ _ _; first | refine v_seq ?_ | refine r_seq ?_ | refine v_ret ?_ | refine v_cond_t rfl tbL ?_) | (show SH _ _ _ _ _ (_ :: _) _ _ _; first | (show SH _ _ _ _ _ (⟨_, .move _, _, _, _, _⟩ :: _) _ _ _; refine mov evL ?_) | (show SH _ _ _ _ _ (⟨_, .assign _, _, _, _, _⟩ :: _) _ _ _; refine asg evL ?_) | (show SH _ _ _ _ _ (⟨_, .binOp .lss _ _ _ _, _, _, _, _⟩ :: _) _ _ _; refine lssT rfl rfl omD ?_) | (show SH _ _ _ _ _ (⟨_, .load _ _, _, _, _, _⟩ :: _) _ _ _; refine lbx rfl spL (by rfl) ?_) | (show SH _ _ _ _ _ (⟨_, .call ⟨.value (.func 59), _, _⟩, _, _, _, _⟩ :: _) _ _ _; refine cl (callee := .func 59) rfl (fun w hw => hif w (Ent.wd enL hw)) rfl rfl ?_) | refine nlc rfl ?_ | refine fad rfl ?_ | (show SH _ _ _ _ _ (⟨_, .makeFunc _ _ _, _, _, _, _⟩ :: _) _ _ _; refine mf2 evL evL ?_)) | refine s_nil ?_ | refine kh_normal ?_ | refine kh_ret ?_))
    exact rh1 rfl rfl ⟨rfl, rfl⟩ enL
  | some k =>
    rw [ha] at hif
    have hk := asked_lt who id L ha
    simp only [Int.zero_add] at hif ⊢
    (repeat' (first | (show VH _ _ _ _ _ _ _; first | refine v_seq ?_ | refine r_seq ?_ | refine v_skip ?_ | refine v_cond_f rfl tbL ?_) | (show SH _ _ _ _ _ (_ :: _) _ _ _; first | (show SH _ _ _ _ _ (⟨_, .move _, _, _, _, _⟩ :: _) _ _ _; refine mov evL ?_) | (show SH _ _ _ _ _ (⟨_, .assign _, _, _, _, _⟩ :: _) _ _ _; refine asg evL ?_) | (show SH _ _ _ _ _ (⟨_, .binOp .lss _ _ _ _, _, _, _, _⟩ :: _) _ _ _; refine lssF rfl rfl omD ?_) | (show SH _ _ _ _ _ (⟨_, .load _ _, _, _, _, _⟩ :: _) _ _ _; refine lbx rfl spL (by rfl) ?_) | (show SH _ _ _ _ _ (⟨_, .call ⟨.value (.func 59), _, _⟩, _, _, _, _⟩ :: _) _ _ _; refine cl (callee := .func 59) rfl (fun w hw => hif w (Ent.wd enL hw)) rfl rfl ?_) | refine nlc rfl ?_ | refine fad rfl ?_ | (show SH _ _ _ _ _ (⟨_, .makeFunc _ _ _, _, _, _, _⟩ :: _) _ _ _; first | refine mf2 evL evL ?_ | refine mf3 evL evL evL ?_)) | refine s_nil ?_ | refine kh_normal ?_))
    refine cm rfl (fun w2 hw2 => uninv_spec t la A L c bh _ (fun p i => decide (i.who = who) && (yes || decide (p.id = id))) w (bx b6 106 [.func (.func 82) #[] #[.pointer (some a1)]] :: H) w2 hz ⟨85, #[], #[.pointer (some ⟨b6, 0, none⟩), .pointer (some a3), .pointer (some a2)], rfl, fun w3 hw3 x i => ans13_spec x i who id yes a1 a2 a3 ⟨b6, 0, none⟩ w3 (hw3.ext.cell h1) (hw3.ext.cell h2) (hw3.ext.cell h3) (hw3.cell (cs := [.func (.func 82) #[] #[.pointer (some a1)]]) spL rfl)⟩ (Ent.wd enL hw2)) rfl rfl ?_
    rintro _ _ rfl
    refine ⟨trivial, ?_⟩
    clear hif
    have hpu := ptys_un (fun p i => decide (i.who = who) && (yes || decide (p.id = id))) L
    rw [← hpu]
    have hMl : (L.map (unP fun p i => decide (i.who = who) && (yes || decide (p.id = id)))).length = L.length := List.length_map ..
    have hMm : ((L.map (unP fun p i => decide (i.who = who) && (yes || decide (p.id = id)))).getD k Flat.dflt).p.mem.length ≤ 1000 := by
      rw [List.getD_eq_getElem?_getD, List.getElem?_map, List.getElem?_eq_getElem hk]
      show (L[k]).p.mem.length ≤ 1000
      exact hz.mem _ (List.getElem_mem hk)
    generalize L.map (unP fun p i => decide (i.who = who) && (yes || decide (p.id = id))) = M at hMl hMm ⊢
    clear hpu
    rw [ptys_at (by omega)]
    cases yes with
    | false =>
      (repeat' (first | (show VH _ _ _ _ _ _ _; first | refine v_seq ?_ | refine r_seq ?_ | refine v_ret ?_ | refine v_skip ?_ | refine v_cond_f rfl tbL ?_) | (show SH _ _ _ _ _ (_ :: _) _ _ _; first | (show SH _ _ _ _ _ (⟨_, .assign _, _, _, _, _⟩ :: _) _ _ _; refine asg evL ?_) | (show SH _ _ _ _ _ (⟨_, .load _ _, _, _, _, _⟩ :: _) _ _ _; refine lcell rfl (fun w hw => hw.ext.cell (by assumption)) ?_)) | refine s_nil ?_ | refine kh_normal ?_))
      exact rh1 rfl rfl ⟨rfl, A, c, M, rfl, rfl⟩ enL
    | true =>
      have hkM : k < M.length := by omega
      obtain ⟨x, hx⟩ : ∃ x, M.getD k Flat.dflt = x := ⟨_, rfl⟩
      have hxE := pty_enc hx
      have hopM : ∀ G, Ent (allH (M.map rowM) :: G) (rowM x :: allH ((M.eraseIdx k).map rowM) :: G) := fun G => by
        have := ent_all_open (f := rowM) (L := M) (k := k) (d := Flat.dflt) (G := G) hkM
        rw [hx] at this
        exact this
      have hcM : ∀ y G, Ent (rowM y :: allH ((M.eraseIdx k).map rowM) :: G) (allH ((M.set k y).map rowM) :: G) := fun y G => ent_all_close hkM
      have hcI : ∀ y : PtyP, rowI y = rowI x → (M.set k y).map rowI = M.map rowI := fun y hy => by
        rw [List.map_set, hy, ← hx]
        exact set_same (f := rowI) hkM
      rw [hx] at hMm ⊢
      have hps := ptys_set M k
      clear hx
      obtain ⟨⟨xi, xl, xm, xv⟩, xA, xca, xB, xcb⟩ := x
      simp only at hMm hxE hopM hcM hcI ⊢
      unfold rowM at hopM
      (repeat' (first | (show VH _ _ _ _ _ _ _; first | refine v_seq ?_ | refine r_seq ?_ | refine v_cond_t rfl tbL ?_) | (show SH _ _ _ _ _ (_ :: _) _ _ _; (show SH _ _ _ _ _ (⟨_, .load _ _, _, _, _, _⟩ :: _) _ _ _; refine lcell rfl (fun w hw => hw.ext.cell (by assumption)) ?_)) | refine s_nil ?_ | refine kh_normal ?_))
      refine VH.ent (G := hb36 bh t la A M c :: orow 3 xA xca xm :: allH ((M.eraseIdx k).map rowM) :: orow 46 A c M :: allH (M.map rowI) :: H) ?_ (Ent.trans (B := allH (M.map rowM) :: hb36 bh t la A M c :: orow 46 A c M :: allH (M.map rowI) :: H) enL ((hopM _).trans enL))
      refine v_some (A := A) (l := M) spL (by omega) (fun hA => ?_)
      refine r_heldT [hb36 bh t la A M c] (tr [(0, true), (1, true), (2, true), (3, true), (4, true), (5, true), (6, true), (7, true), (8, true), (9, true), (10, true), (11, true), (13, true)] (.fork 12 (tr [(14, false), (15, false), (16, false), (17, false), (18, false)] .nil) 14 (tr [(12, false), (15, false), (16, false), (17, false), (18, false)] .nil))) hmix (by kernel_rfl) enL ?_
      (repeat' (first | (show SH _ _ _ _ _ (_ :: _) _ _ _; first | (show SH _ _ _ _ _ (⟨_, .move _, _, _, _, _⟩ :: _) _ _ _; refine mov evL ?_) | (show SH _ _ _ _ _ (⟨_, .load _ _, _, _, _, _⟩ :: _) _ _ _; first | refine lbx rfl spL (by rfl) ?_ | refine lrg rfl (fun _ _ => rdP) (by rfl) omL (by assumption) (by rfl) ?_ | refine lcell rfl (fun w hw => hw.ext.cell (by assumption)) ?_) | (show SH _ _ _ _ _ (⟨_, .indexAddr _ _ _, _, _, _, _⟩ :: _) _ _ _; refine ixq rfl rfl (by assumption) omL omL ?_) | refine nlc rfl ?_ | refine fad rfl ?_ | (show SH _ _ _ _ _ (⟨_, .buildSlice _ _ _, _, _, _, _⟩ :: _) _ _ _; refine bsl (α := Int) rfl rfl (by repeat (first | exact Vals.nil | (apply Vals.cons; rfl))) rfl (by rfl) (by decide) (fun b => ?_))) | refine s_fork ?_ ?_))
      all_goals
        refine app (l := xm) (l2 := [who]) rfl rfl rfl spL (fun w hw => hw.rd spL) rfl rfl rfl (by simp only [List.length_singleton]; omega) (by simp only [List.length_singleton]; omega) (fun A4 c4 => ⟨enL, ?_⟩)
        (repeat' ((show SH _ _ _ _ _ (_ :: _) _ _ _; first | (show SH _ _ _ _ _ (⟨_, .indexAddr _ _ _, _, _, _, _⟩ :: _) _ _ _; refine ix rfl rfl (by with_reducible rfl) (fun _ _ => rdP) (by rfl) omL omL ?_) | refine fad rfl ?_)))
        refine stf (⟨⟨xi, xl, xm ++ [who], xv⟩, A4, c4, xB, xcb⟩ : PtyP) rfl rfl rfl spL rfl hkM rfl rfl (by decide) (by rw [hxE]; rfl) enL ?_
        (repeat' (first | (show VH _ _ _ _ _ _ _; first | refine v_seq ?_ | refine r_seq ?_ | refine v_ret ?_) | (show SH _ _ _ _ _ (_ :: _) _ _ _; (show SH _ _ _ _ _ (⟨_, .assign _, _, _, _, _⟩ :: _) _ _ _; refine asg evL ?_)) | refine s_nil ?_ | refine kh_normal ?_))
        refine rh1 rfl rfl ⟨rfl, A, c, M.set k (⟨⟨xi, xl, xm ++ [who], xv⟩, A4, c4, xB, xcb⟩ : PtyP), hps _, rfl⟩ ?_
        unfold hallH hb36
        rw [hcI (⟨⟨xi, xl, xm ++ [who], xv⟩, A4, c4, xB, xcb⟩ : PtyP) rfl, List.length_set]
        refine Ent.trans (B := rowM (⟨⟨xi, xl, xm ++ [who], xv⟩, A4, c4, xB, xcb⟩ : PtyP) :: allH ((M.eraseIdx k).map rowM) :: hb36 bh t la A M c :: orow 46 A c (M.set k (⟨⟨xi, xl, xm ++ [who], xv⟩, A4, c4, xB, xcb⟩ : PtyP)) :: allH (M.map rowI) :: H) enL ((hcM _ _).trans enL)
set_option maxHeartbeats 1000000 in
set_option maxRecDepth 100000 in
theorem answer_spec (t la : Int) (A : Option Addr) (L : List PtyP) (c : Nat) (who id : Int) (yes : Bool) (w : World) (hz : SzP L) (hr : RdP w A L) : Ret Tryz.prog 43 [hv36 t la A L c, .int .i64 who, .int .i64 id, .bool yes].toArray w (RP w (OutH (answerM ⟨t, la, ptys L⟩ who id yes))) := by
  rw [show answerM ⟨t, la, ptys L⟩ who id yes = if validHal ⟨t, la, ptys L⟩ then ansR t la (ptys L) who id yes else (hal0, 2) from rfl]
  refine enterH Tryz.func43 rfl rfl Tryz.ntmps43 rfl (Wd.refl _) ?_
  (repeat' (first | (show VH _ _ _ _ _ _ _; first | refine v_seq ?_ | refine r_seq ?_) | (show SH _ _ _ _ _ (_ :: _) _ _ _; first | (show SH _ _ _ _ _ (⟨_, .assign _, _, _, _, _⟩ :: _) _ _ _; refine asg evL ?_) | (show SH _ _ _ _ _ (⟨_, .load _ _, _, _, _, _⟩ :: _) _ _ _; refine lba rfl spL (by rfl) ?_) | (show SH _ _ _ _ _ (⟨_, .makeFunc _ _ _, _, _, _, _⟩ :: _) _ _ _; refine mf3 evL evL evL ?_) | refine ala rfl (fun b => ?_) | (show SH _ _ _ _ _ (⟨_, .box _ _, _, _, _, _⟩ :: _) _ _ _; refine bxx rfl evL rfl (fun b => ?_))) | refine s_nil ?_ | refine kh_normal ?_))
  rename_i b4 b5 b6 b7
  refine cp rfl (fun w2 hw => change_spec t la A L c 81 #[] #[.pointer (some ⟨b5, 0, none⟩), .pointer (some ⟨b6, 0, none⟩), .pointer (some ⟨b7, 0, none⟩)] _ w2 hz (hr.ext hw.ext) (ansR0 _ _ _ _ _ _) (fun hv => ans1_spec t la L who id yes _ _ _ w2 (hw.cell (cs := [.int .i64 who]) spL rfl) (hw.cell (cs := [.int .i64 id]) spL rfl) (hw.cell (cs := [.bool yes]) spL rfl))) rfl rfl ?_
  rintro _ _ ⟨A1, c1, L1, hp1, rfl, rfl⟩
  (repeat' (first | refine v_ret ?_ | (show SH _ _ _ _ _ (_ :: _) _ _ _; first | (show SH _ _ _ _ _ (⟨_, .assign _, _, _, _, _⟩ :: _) _ _ _; refine asg evL ?_) | refine extr rfl rfl ?_ | (show SH _ _ _ _ _ (⟨_, .store _ _ _, _, _, _, _⟩ :: _) _ _ _; refine sta rfl rfl rfl spL (by rfl) (by rfl) (by rfl) kpL ?_)) | refine s_nil ?_ | refine kh_normal ?_))
  exact rhC2 rfl rfl rfl rfl (fun w hw => loadVar_bx hw spL (by rfl)) ⟨A1, c1, L1, hp1, rfl, rfl⟩ enL
set_option maxRecDepth 100000 in
theorem accept_spec (t la : Int) (A : Option Addr) (L : List PtyP) (c : Nat) (who id : Int) (w : World) (hz : SzP L) (hr : RdP w A L) : Ret Tryz.prog 14 [hv36 t la A L c, .int .i64 who, .int .i64 id].toArray w (RP w (OutH (answerM ⟨t, la, ptys L⟩ who id true))) := by
  have hl := fun w hr => answer_spec t la A L c who id true w hz hr
  refine enterH Tryz.func14 rfl rfl Tryz.ntmps14 rfl (Wd.refl _) ?_
  (repeat' (first | (show VH _ _ _ _ _ _ _; first | refine v_seq ?_ | refine r_seq ?_) | (show SH _ _ _ _ _ (_ :: _) _ _ _; first | (show SH _ _ _ _ _ (⟨_, .move _, _, _, _, _⟩ :: _) _ _ _; refine mov evL ?_) | (show SH _ _ _ _ _ (⟨_, .assign _, _, _, _, _⟩ :: _) _ _ _; refine asg evL ?_) | (show SH _ _ _ _ _ (⟨_, .load _ _, _, _, _, _⟩ :: _) _ _ _; refine lba rfl spL (by rfl) ?_) | (show SH _ _ _ _ _ (⟨_, .call ⟨.value (.func 43), _, _⟩, _, _, _, _⟩ :: _) _ _ _; refine cp (callee := .func 43) rfl (fun w hw => hl w (hr.ext hw.ext)) rfl rfl ?_) | refine ala rfl (fun b => ?_) | (show SH _ _ _ _ _ (⟨_, .box _ _, _, _, _, _⟩ :: _) _ _ _; refine bxx rfl evL rfl (fun b => ?_))) | refine s_nil ?_ | refine kh_normal ?_))
  rintro _ _ ⟨A1, c1, L1, hp1, rfl, rfl⟩
  (repeat' (first | refine v_ret ?_ | (show SH _ _ _ _ _ (_ :: _) _ _ _; first | (show SH _ _ _ _ _ (⟨_, .assign _, _, _, _, _⟩ :: _) _ _ _; refine asg evL ?_) | refine extr rfl rfl ?_ | (show SH _ _ _ _ _ (⟨_, .store _ _ _, _, _, _, _⟩ :: _) _ _ _; refine sta rfl rfl rfl spL (by rfl) (by rfl) (by rfl) kpL ?_)) | refine s_nil ?_ | refine kh_normal ?_))
  exact rhC2 rfl rfl rfl rfl (fun w hw => loadVar_bx hw spL (by rfl)) ⟨A1, c1, L1, hp1, rfl, rfl⟩ enL
set_option maxRecDepth 100000 in
theorem decline_spec (t la : Int) (A : Option Addr) (L : List PtyP) (c : Nat) (who id : Int) (w : World) (hz : SzP L) (hr : RdP w A L) : Ret Tryz.prog 39 [hv36 t la A L c, .int .i64 who, .int .i64 id].toArray w (RP w (OutH (answerM ⟨t, la, ptys L⟩ who id false))) := by
  have hl := fun w hr => answer_spec t la A L c who id false w hz hr
  refine enterH Tryz.func39 rfl rfl Tryz.ntmps39 rfl (Wd.refl _) ?_
  (repeat' (first | (show VH _ _ _ _ _ _ _; first | refine v_seq ?_ | refine r_seq ?_) | (show SH _ _ _ _ _ (_ :: _) _ _ _; first | (show SH _ _ _ _ _ (⟨_, .move _, _, _, _, _⟩ :: _) _ _ _; refine mov evL ?_) | (show SH _ _ _ _ _ (⟨_, .assign _, _, _, _, _⟩ :: _) _ _ _; refine asg evL ?_) | (show SH _ _ _ _ _ (⟨_, .load _ _, _, _, _, _⟩ :: _) _ _ _; refine lba rfl spL (by rfl) ?_) | (show SH _ _ _ _ _ (⟨_, .call ⟨.value (.func 43), _, _⟩, _, _, _, _⟩ :: _) _ _ _; refine cp (callee := .func 43) rfl (fun w hw => hl w (hr.ext hw.ext)) rfl rfl ?_) | refine ala rfl (fun b => ?_) | (show SH _ _ _ _ _ (⟨_, .box _ _, _, _, _, _⟩ :: _) _ _ _; refine bxx rfl evL rfl (fun b => ?_))) | refine s_nil ?_ | refine kh_normal ?_))
  rintro _ _ ⟨A1, c1, L1, hp1, rfl, rfl⟩
  (repeat' (first | refine v_ret ?_ | (show SH _ _ _ _ _ (_ :: _) _ _ _; first | (show SH _ _ _ _ _ (⟨_, .assign _, _, _, _, _⟩ :: _) _ _ _; refine asg evL ?_) | refine extr rfl rfl ?_ | (show SH _ _ _ _ _ (⟨_, .store _ _ _, _, _, _, _⟩ :: _) _ _ _; refine sta rfl rfl rfl spL (by rfl) (by rfl) (by rfl) kpL ?_)) | refine s_nil ?_ | refine kh_normal ?_))
  exact rhC2 rfl rfl rfl rfl (fun w hw => loadVar_bx hw spL (by rfl)) ⟨A1, c1, L1, hp1, rfl, rfl⟩ enL
end Go.Proofs.YtlfbcoohfnoacaaGreat

/- marcheslaw36: Same, one (printed by gen_uwb). -/
namespace Go.Proofs.YtlfbcoohfnoacaaGreat
open Go.Fw Go.RowKit
set_option maxHeartbeats 1000000 in
set_option maxRecDepth 100000 in
theorem same36_spec (t la t' la' : Int) (A A' : Option Addr) (L L' : List PtyP) (c c' : Nat) (w : World) (hz : SzP L) (hz' : SzP L') (hr : RdP w A L) (hr' : RdP w A' L') :
    Ret Tryz.prog 34 [hv36 t la A L c, hv36 t' la' A' L' c'].toArray w (Out w (.bool (decide ((⟨t, la, ptys L⟩ : Hal) = ⟨t', la', ptys L'⟩)))) := by
  have hll := hz.len
  have hll' := hz'.len
  have hrA := hr.1
  have hrB := hr'.1
  by_cases hc : t = t' ∧ la = la' ∧ L.length = L'.length
  · obtain ⟨d1_, d2_, d3_⟩ := hc
    have hgo : decide ((⟨t, la, ptys L⟩ : Hal) = ⟨t', la', ptys L'⟩) = decide (ptys L = ptys L') := decide_eq_decide.2 ⟨fun h => by injection h, fun h => by rw [d1_, d2_, h]⟩
    rw [hgo]
    clear hgo
    refine enterH Tryz.func34 rfl rfl Tryz.ntmps34 rfl (Wd.refl _) ?_
    (repeat' (first | (show VH _ _ _ _ _ _ _; first | refine v_seq ?_ | refine r_seq ?_ | refine v_block ?_ | refine v_skip ?_ | refine v_cond_f rfl tbL ?_) | (show SH _ _ _ _ _ (_ :: _) _ _ _; first | (show SH _ _ _ _ _ (⟨_, _, _, _, _, some _⟩ :: _) _ _ _; (refine gif rfl rfl ?_; refine giFF tbL ?_)) | (show SH _ _ _ _ _ (⟨_, .move _, _, _, _, _⟩ :: _) _ _ _; refine mov evL ?_) | (show SH _ _ _ _ _ (⟨_, .assign _, _, _, _, _⟩ :: _) _ _ _; refine asg evL ?_) | (show SH _ _ _ _ _ (⟨_, .binOp .neq _ _ _ _, _, _, _, _⟩ :: _) _ _ _; refine neqF rfl rfl omD ?_) | (show SH _ _ _ _ _ (⟨_, .load _ _, _, _, _, _⟩ :: _) _ _ _; refine lbx rfl spL (by rfl) ?_) | refine slen rfl ?_ | (show SH _ _ _ _ _ (⟨_, .pick _ _ _, _, _, _, _⟩ :: _) _ _ _; refine pkf rfl tbL evL ?_) | refine fad rfl ?_ | (show SH _ _ _ _ _ (⟨_, .box _ _, _, _, _, _⟩ :: _) _ _ _; refine bxx rfl evL rfl (fun b => ?_))) | refine s_nil ?_ | refine kh_normal ?_))
    rename_i b2
    revert b
    intro b3
    refine v_norm [(2,_),(3,_),(5,_)] heL (fun g => ?_)
    refine v_loop0 [(4,5),(27,45)] (fun k : Nat => [(5, .int .i64 k)]) (fun k => k ≤ L.length ∧ (ptys L).take k = (ptys L').take k) (fun k => L.length - k) 0 hsL ⟨Nat.zero_le _, rfl⟩ ?_
    rintro k g ⟨hk, hok⟩
    simp only [sets]
    by_cases hkl : k < L.length
    · have hkl' : k < L'.length := by omega
      have hsp := fun w a b c d => sameParty_spec (L.getD k Flat.dflt) (L'.getD k Flat.dflt) w (by have := hz.atm hkl; omega) (by have := hz.ati hkl; omega) (by have := hz'.atm hkl'; omega) (by have := hz'.ati hkl'; omega) a b c d
      have hm := hr.mem hkl
      have hi := hr.inv hkl
      have hm' := hr'.mem hkl'
      have hi' := hr'.inv hkl'
      have hp := ptys_at hkl
      have hp' := ptys_at hkl'
      by_cases he : (L.getD k Flat.dflt).p = (L'.getD k Flat.dflt).p
      · have hok' : (ptys L).take (k + 1) = (ptys L').take (k + 1) := by rw [take_snoc (d := pty0) (by rw [ptys_len]; exact hkl), take_snoc (d := pty0) (by rw [ptys_len]; exact hkl'), hok, hp, hp', he]
        simp only [decide_eq_true he] at hsp
        clear hok hp hp'
        (repeat' (first | (show VH _ _ _ _ _ _ _; first | refine v_seq ?_ | refine r_seq ?_ | refine r_quiet hmix (by kernel_rfl) ?_ | refine v_block ?_ | refine v_skip ?_ | refine v_cond_t rfl tbL ?_ | refine v_cond_f rfl tbL ?_) | (show SH _ _ _ _ _ (_ :: _) _ _ _; first | (show SH _ _ _ _ _ (⟨_, .move _, _, _, _, _⟩ :: _) _ _ _; refine mov evL ?_) | (show SH _ _ _ _ _ (⟨_, .assign _, _, _, _, _⟩ :: _) _ _ _; refine asg evL ?_) | (show SH _ _ _ _ _ (⟨_, .binOp .lss _ _ _ _, _, _, _, _⟩ :: _) _ _ _; refine lssT rfl rfl omD ?_) | (show SH _ _ _ _ _ (⟨_, .binOp .add _ _ _ _, _, _, _, _⟩ :: _) _ _ _; refine add rfl rfl inL ?_) | (show SH _ _ _ _ _ (⟨_, .load _ _, _, _, _, _⟩ :: _) _ _ _; first | refine lbx rfl spL (by rfl) ?_ | refine lra rfl (fun _ _ => rdP) (by rfl) omL ?_ | refine lra rfl (fun _ _ => rdP) (by rfl) (by simp only [List.length_cons, List.length_nil]; omega) ?_) | (show SH _ _ _ _ _ (⟨_, .indexAddr _ _ _, _, _, _, _⟩ :: _) _ _ _; refine ix rfl rfl (by with_reducible rfl) (fun _ _ => rdP) (by rfl) omL omL ?_) | refine slen rfl ?_ | (show SH _ _ _ _ _ (⟨_, .call ⟨.value (.func 35), _, _⟩, _, _, _, _⟩ :: _) _ _ _; refine cl (callee := .func 35) rfl (fun w hw => hsp w (hm.ext hw.ext) (hi.ext hw.ext) (hm'.ext hw.ext) (hi'.ext hw.ext)) rfl rfl ?_) | refine bnoT rfl ?_ | refine fad rfl ?_) | refine s_nil ?_ | refine kh_normal ?_ | refine bh_normal ?_))
        exact ⟨agL, k + 1, hsL, enL, ⟨hkl, hok'⟩, by omega⟩
      · have hne : ¬ ptys L = ptys L' := fun e => he (by rw [← hp, ← hp', e])
        rw [decide_eq_false hne]
        simp only [decide_eq_false he] at hsp
        clear hok hne hp hp'
        (repeat' (first | (show VH _ _ _ _ _ _ _; first | refine v_seq ?_ | refine r_seq ?_ | refine r_quiet hmix (by kernel_rfl) ?_ | refine v_block ?_ | refine v_ret ?_ | refine v_skip ?_ | refine v_cond_t rfl tbL ?_) | (show SH _ _ _ _ _ (_ :: _) _ _ _; first | (show SH _ _ _ _ _ (⟨_, .move _, _, _, _, _⟩ :: _) _ _ _; refine mov evL ?_) | (show SH _ _ _ _ _ (⟨_, .assign _, _, _, _, _⟩ :: _) _ _ _; refine asg evL ?_) | (show SH _ _ _ _ _ (⟨_, .binOp .lss _ _ _ _, _, _, _, _⟩ :: _) _ _ _; refine lssT rfl rfl omD ?_) | (show SH _ _ _ _ _ (⟨_, .load _ _, _, _, _, _⟩ :: _) _ _ _; first | refine lbx rfl spL (by rfl) ?_ | refine lra rfl (fun _ _ => rdP) (by rfl) omL ?_ | refine lra rfl (fun _ _ => rdP) (by rfl) (by simp only [List.length_cons, List.length_nil]; omega) ?_) | (show SH _ _ _ _ _ (⟨_, .indexAddr _ _ _, _, _, _, _⟩ :: _) _ _ _; refine ix rfl rfl (by with_reducible rfl) (fun _ _ => rdP) (by rfl) omL omL ?_) | refine slen rfl ?_ | (show SH _ _ _ _ _ (⟨_, .call ⟨.value (.func 35), _, _⟩, _, _, _, _⟩ :: _) _ _ _; refine cl (callee := .func 35) rfl (fun w hw => hsp w (hm.ext hw.ext) (hi.ext hw.ext) (hm'.ext hw.ext) (hi'.ext hw.ext)) rfl rfl ?_) | refine bnoF rfl ?_ | refine fad rfl ?_) | refine s_nil ?_ | refine kh_normal ?_ | refine kh_ret ?_ | refine bh_ret ?_))
        exact rh1 rfl rfl ⟨rfl, rfl⟩ (ent_nil _)
    · obtain rfl : k = L.length := by omega
      have h1 : (ptys L).take L.length = ptys L := by rw [← ptys_len L, List.take_length]
      have h2 : (ptys L').take L.length = ptys L' := by rw [d3_, ← ptys_len L', List.take_length]
      rw [h1, h2] at hok
      rw [decide_eq_true hok]
      clear hok h1 h2
      (repeat' (first | (show VH _ _ _ _ _ _ _; first | refine v_seq ?_ | refine r_seq ?_ | refine v_ret ?_ | refine v_exit ?_ | refine v_cond_f rfl tbL ?_) | (show SH _ _ _ _ _ (_ :: _) _ _ _; first | (show SH _ _ _ _ _ (⟨_, .move _, _, _, _, _⟩ :: _) _ _ _; refine mov evL ?_) | (show SH _ _ _ _ _ (⟨_, .assign _, _, _, _, _⟩ :: _) _ _ _; refine asg evL ?_) | (show SH _ _ _ _ _ (⟨_, .binOp .lss _ _ _ _, _, _, _, _⟩ :: _) _ _ _; refine lssF rfl rfl omD ?_) | (show SH _ _ _ _ _ (⟨_, .load _ _, _, _, _, _⟩ :: _) _ _ _; refine lbx rfl spL (by rfl) ?_) | refine slen rfl ?_ | refine fad rfl ?_) | refine s_nil ?_ | refine kh_normal ?_ | refine kh_exit ?_ | refine bh_exit ?_))
      exact rh1 rfl rfl ⟨rfl, rfl⟩ (ent_nil _)
  · have hcc : Hid _ := hc
    have hno : ¬ (⟨t, la, ptys L⟩ : Hal) = ⟨t', la', ptys L'⟩ := fun h => hc (by injection h with a b d; exact ⟨a, b, by have := congrArg List.length d; rwa [ptys_len, ptys_len] at this⟩)
    rw [decide_eq_false hno]
    clear hc hno
    refine enterH Tryz.func34 rfl rfl Tryz.ntmps34 rfl (Wd.refl _) ?_
    (repeat' (first | (show VH _ _ _ _ _ _ _; first | refine v_seq ?_ | refine r_seq ?_ | refine v_block ?_ | refine v_ret ?_ | refine v_skip ?_ | refine v_cond_t rfl tbL ?_ | refine v_cond_dec rfl (fun h => ?_) (fun h => ?_)) | (show SH _ _ _ _ _ (_ :: _) _ _ _; first | (show SH _ _ _ _ _ (⟨_, _, _, _, _, some _⟩ :: _) _ _ _; (refine gif rfl rfl ?_; first | refine giFF tbL ?_ | refine giFT tbL ?_ | refine giFd (fun h => ?_) (fun h => ?_))) | (show SH _ _ _ _ _ (⟨_, .move _, _, _, _, _⟩ :: _) _ _ _; refine mov evL ?_) | (show SH _ _ _ _ _ (⟨_, .assign _, _, _, _, _⟩ :: _) _ _ _; refine asg evL ?_) | refine neq rfl rfl ?_ | (show SH _ _ _ _ _ (⟨_, .load _ _, _, _, _, _⟩ :: _) _ _ _; refine lbx rfl spL (by rfl) ?_) | refine slen rfl ?_ | (show SH _ _ _ _ _ (⟨_, .pick _ _ _, _, _, _, _⟩ :: _) _ _ _; first | refine pkt rfl tbL evL ?_ | refine pkf rfl tbL evL ?_) | refine fad rfl ?_ | (show SH _ _ _ _ _ (⟨_, .box _ _, _, _, _, _⟩ :: _) _ _ _; refine bxx rfl evL rfl (fun b => ?_))) | refine s_nil ?_ | refine kh_normal ?_ | refine kh_ret ?_))
    all_goals first
      | exact rh1 rfl rfl ⟨rfl, rfl⟩ (ent_nil _)
      | exact absurd ⟨by omega, by omega, by omega⟩ hcc
/-- What a thing that is done gives. -/
def doR (h : Hal) (kind a b : Int) : ResP := doM h (kind % 9).toNat a b
set_option maxHeartbeats 4000000 in
set_option maxRecDepth 100000 in
theorem one36_spec (t la : Int) (A : Option Addr) (L : List PtyP) (c : Nat) (kind a b : Int) (w : World) (hz : SzP L) (hr : RdP w A L) :
    Ret Tryz.prog 13 [hv36 t la A L c, .agg #[.int .i64 kind, .int .i64 a, .int .i64 b]].toArray w (RP w (OutH (doR ⟨t, la, ptys L⟩ kind a b))) := by
  have hpk := fun w => pick_spec kind 9 w (by omega) (by omega)
  have hm : kind % 9 = 0 ∨ kind % 9 = 1 ∨ kind % 9 = 2 ∨ kind % 9 = 3 ∨ kind % 9 = 4 ∨ kind % 9 = 5 ∨ kind % 9 = 6 ∨ kind % 9 = 7 ∨ kind % 9 = 8 := by omega
  unfold doR
  rcases hm with hm | hm | hm | hm | hm | hm | hm | hm | hm
  · rw [hm] at hpk ⊢
    have ho := fun w hr => advance_spec t la A L c a w hz hr
    refine enterH Tryz.func13 rfl rfl Tryz.ntmps13 rfl (Wd.refl _) ?_
    (repeat' (first | (show VH _ _ _ _ _ _ _; first | refine v_seq ?_ | refine r_seq ?_ | refine v_block ?_ | refine v_cond_t rfl tbL ?_) | (show SH _ _ _ _ _ (_ :: _) _ _ _; first | (show SH _ _ _ _ _ (⟨_, .assign _, _, _, _, _⟩ :: _) _ _ _; refine asg evL ?_) | (show SH _ _ _ _ _ (⟨_, .binOp .eql _ _ _ _, _, _, _, _⟩ :: _) _ _ _; refine eqlT rfl rfl omD ?_) | (show SH _ _ _ _ _ (⟨_, .load _ _, _, _, _, _⟩ :: _) _ _ _; first | refine lbx rfl spL (by rfl) ?_ | refine lba rfl spL (by rfl) ?_) | (show SH _ _ _ _ _ (⟨_, .call ⟨.value (.func 38), _, _⟩, _, _, _, _⟩ :: _) _ _ _; refine cl (callee := .func 38) rfl (fun w hw => hpk w) rfl rfl ?_) | (show SH _ _ _ _ _ (⟨_, .call ⟨.value (.func 19), _, _⟩, _, _, _, _⟩ :: _) _ _ _; refine cp (callee := .func 19) rfl (fun w hw => ho w (hr.ext hw.ext)) rfl rfl ?_) | refine fad rfl ?_ | refine ala rfl (fun b => ?_) | (show SH _ _ _ _ _ (⟨_, .box _ _, _, _, _, _⟩ :: _) _ _ _; refine bxx rfl evL rfl (fun b => ?_))) | refine s_nil ?_ | refine kh_normal ?_))
    rintro _ _ ⟨A1, c1, L1, hp1, rfl, rfl⟩
    (repeat' (first | refine v_ret ?_ | (show SH _ _ _ _ _ (_ :: _) _ _ _; first | (show SH _ _ _ _ _ (⟨_, .assign _, _, _, _, _⟩ :: _) _ _ _; refine asg evL ?_) | refine extr rfl rfl ?_ | (show SH _ _ _ _ _ (⟨_, .store _ _ _, _, _, _, _⟩ :: _) _ _ _; refine sta rfl rfl rfl spL (by rfl) (by rfl) (by rfl) kpL ?_)) | refine s_nil ?_ | refine kh_normal ?_ | refine kh_ret ?_ | refine bh_ret ?_))
    exact rhC2 rfl rfl rfl rfl (fun w hw => loadVar_bx hw spL (by rfl)) ⟨A1, c1, L1, hp1, rfl, rfl⟩ enL
  · rw [hm] at hpk ⊢
    have ho := fun w hr => create_spec t la A L c a w hz hr
    refine enterH Tryz.func13 rfl rfl Tryz.ntmps13 rfl (Wd.refl _) ?_
    (repeat' (first | (show VH _ _ _ _ _ _ _; first | refine v_seq ?_ | refine r_seq ?_ | refine v_block ?_ | refine v_cond_t rfl tbL ?_ | refine v_cond_f rfl tbL ?_) | (show SH _ _ _ _ _ (_ :: _) _ _ _; first | (show SH _ _ _ _ _ (⟨_, .assign _, _, _, _, _⟩ :: _) _ _ _; refine asg evL ?_) | (show SH _ _ _ _ _ (⟨_, .binOp .eql _ _ _ _, _, _, _, _⟩ :: _) _ _ _; first | refine eqlT rfl rfl omD ?_ | refine eqlF rfl rfl omD ?_) | (show SH _ _ _ _ _ (⟨_, .load _ _, _, _, _, _⟩ :: _) _ _ _; first | refine lbx rfl spL (by rfl) ?_ | refine lba rfl spL (by rfl) ?_) | (show SH _ _ _ _ _ (⟨_, .call ⟨.value (.func 38), _, _⟩, _, _, _, _⟩ :: _) _ _ _; refine cl (callee := .func 38) rfl (fun w hw => hpk w) rfl rfl ?_) | (show SH _ _ _ _ _ (⟨_, .call ⟨.value (.func 18), _, _⟩, _, _, _, _⟩ :: _) _ _ _; refine cp (callee := .func 18) rfl (fun w hw => ho w (hr.ext hw.ext)) rfl rfl ?_) | refine fad rfl ?_ | refine ala rfl (fun b => ?_) | (show SH _ _ _ _ _ (⟨_, .box _ _, _, _, _, _⟩ :: _) _ _ _; refine bxx rfl evL rfl (fun b => ?_))) | refine s_nil ?_ | refine kh_normal ?_))
    rintro _ _ ⟨A1, c1, L1, hp1, rfl, rfl⟩
    (repeat' (first | refine v_ret ?_ | (show SH _ _ _ _ _ (_ :: _) _ _ _; first | (show SH _ _ _ _ _ (⟨_, .assign _, _, _, _, _⟩ :: _) _ _ _; refine asg evL ?_) | refine extr rfl rfl ?_ | (show SH _ _ _ _ _ (⟨_, .store _ _ _, _, _, _, _⟩ :: _) _ _ _; refine sta rfl rfl rfl spL (by rfl) (by rfl) (by rfl) kpL ?_)) | refine s_nil ?_ | refine kh_normal ?_ | refine kh_ret ?_ | refine bh_ret ?_))
    exact rhC2 rfl rfl rfl rfl (fun w hw => loadVar_bx hw spL (by rfl)) ⟨A1, c1, L1, hp1, rfl, rfl⟩ enL
  · rw [hm] at hpk ⊢
    have ho := fun w hr => invited_spec t la A L c a b w hz hr
    refine enterH Tryz.func13 rfl rfl Tryz.ntmps13 rfl (Wd.refl _) ?_
    (repeat' (first | (show VH _ _ _ _ _ _ _; first | refine v_seq ?_ | refine r_seq ?_ | refine v_block ?_ | refine v_cond_t rfl tbL ?_ | refine v_cond_f rfl tbL ?_) | (show SH _ _ _ _ _ (_ :: _) _ _ _; first | (show SH _ _ _ _ _ (⟨_, .assign _, _, _, _, _⟩ :: _) _ _ _; refine asg evL ?_) | (show SH _ _ _ _ _ (⟨_, .binOp .eql _ _ _ _, _, _, _, _⟩ :: _) _ _ _; first | refine eqlT rfl rfl omD ?_ | refine eqlF rfl rfl omD ?_) | (show SH _ _ _ _ _ (⟨_, .load _ _, _, _, _, _⟩ :: _) _ _ _; first | refine lbx rfl spL (by rfl) ?_ | refine lba rfl spL (by rfl) ?_) | (show SH _ _ _ _ _ (⟨_, .call ⟨.value (.func 38), _, _⟩, _, _, _, _⟩ :: _) _ _ _; refine cl (callee := .func 38) rfl (fun w hw => hpk w) rfl rfl ?_) | (show SH _ _ _ _ _ (⟨_, .call ⟨.value (.func 15), _, _⟩, _, _, _, _⟩ :: _) _ _ _; refine cp (callee := .func 15) rfl (fun w hw => ho w (hr.ext hw.ext)) rfl rfl ?_) | refine fad rfl ?_ | refine ala rfl (fun b => ?_) | (show SH _ _ _ _ _ (⟨_, .box _ _, _, _, _, _⟩ :: _) _ _ _; refine bxx rfl evL rfl (fun b => ?_))) | refine s_nil ?_ | refine kh_normal ?_))
    rintro _ _ ⟨A1, c1, L1, hp1, rfl, rfl⟩
    (repeat' (first | refine v_ret ?_ | (show SH _ _ _ _ _ (_ :: _) _ _ _; first | (show SH _ _ _ _ _ (⟨_, .assign _, _, _, _, _⟩ :: _) _ _ _; refine asg evL ?_) | refine extr rfl rfl ?_ | (show SH _ _ _ _ _ (⟨_, .store _ _ _, _, _, _, _⟩ :: _) _ _ _; refine sta rfl rfl rfl spL (by rfl) (by rfl) (by rfl) kpL ?_)) | refine s_nil ?_ | refine kh_normal ?_ | refine kh_ret ?_ | refine bh_ret ?_))
    exact rhC2 rfl rfl rfl rfl (fun w hw => loadVar_bx hw spL (by rfl)) ⟨A1, c1, L1, hp1, rfl, rfl⟩ enL
  · rw [hm] at hpk ⊢
    have ho := fun w hr => accept_spec t la A L c a b w hz hr
    refine enterH Tryz.func13 rfl rfl Tryz.ntmps13 rfl (Wd.refl _) ?_
    (repeat' (first | (show VH _ _ _ _ _ _ _; first | refine v_seq ?_ | refine r_seq ?_ | refine v_block ?_ | refine v_cond_t rfl tbL ?_ | refine v_cond_f rfl tbL ?_) | (show SH _ _ _ _ _ (_ :: _) _ _ _; first | (show SH _ _ _ _ _ (⟨_, .assign _, _, _, _, _⟩ :: _) _ _ _; refine asg evL ?_) | (show SH _ _ _ _ _ (⟨_, .binOp .eql _ _ _ _, _, _, _, _⟩ :: _) _ _ _; first | refine eqlT rfl rfl omD ?_ | refine eqlF rfl rfl omD ?_) | (show SH _ _ _ _ _ (⟨_, .load _ _, _, _, _, _⟩ :: _) _ _ _; first | refine lbx rfl spL (by rfl) ?_ | refine lba rfl spL (by rfl) ?_) | (show SH _ _ _ _ _ (⟨_, .call ⟨.value (.func 38), _, _⟩, _, _, _, _⟩ :: _) _ _ _; refine cl (callee := .func 38) rfl (fun w hw => hpk w) rfl rfl ?_) | (show SH _ _ _ _ _ (⟨_, .call ⟨.value (.func 14), _, _⟩, _, _, _, _⟩ :: _) _ _ _; refine cp (callee := .func 14) rfl (fun w hw => ho w (hr.ext hw.ext)) rfl rfl ?_) | refine fad rfl ?_ | refine ala rfl (fun b => ?_) | (show SH _ _ _ _ _ (⟨_, .box _ _, _, _, _, _⟩ :: _) _ _ _; refine bxx rfl evL rfl (fun b => ?_))) | refine s_nil ?_ | refine kh_normal ?_))
    rintro _ _ ⟨A1, c1, L1, hp1, rfl, rfl⟩
    (repeat' (first | refine v_ret ?_ | (show SH _ _ _ _ _ (_ :: _) _ _ _; first | (show SH _ _ _ _ _ (⟨_, .assign _, _, _, _, _⟩ :: _) _ _ _; refine asg evL ?_) | refine extr rfl rfl ?_ | (show SH _ _ _ _ _ (⟨_, .store _ _ _, _, _, _, _⟩ :: _) _ _ _; refine sta rfl rfl rfl spL (by rfl) (by rfl) (by rfl) kpL ?_)) | refine s_nil ?_ | refine kh_normal ?_ | refine kh_ret ?_ | refine bh_ret ?_))
    exact rhC2 rfl rfl rfl rfl (fun w hw => loadVar_bx hw spL (by rfl)) ⟨A1, c1, L1, hp1, rfl, rfl⟩ enL
  · rw [hm] at hpk ⊢
    have ho := fun w hr => decline_spec t la A L c a b w hz hr
    refine enterH Tryz.func13 rfl rfl Tryz.ntmps13 rfl (Wd.refl _) ?_
    (repeat' (first | (show VH _ _ _ _ _ _ _; first | refine v_seq ?_ | refine r_seq ?_ | refine v_block ?_ | refine v_cond_t rfl tbL ?_ | refine v_cond_f rfl tbL ?_) | (show SH _ _ _ _ _ (_ :: _) _ _ _; first | (show SH _ _ _ _ _ (⟨_, .assign _, _, _, _, _⟩ :: _) _ _ _; refine asg evL ?_) | (show SH _ _ _ _ _ (⟨_, .binOp .eql _ _ _ _, _, _, _, _⟩ :: _) _ _ _; first | refine eqlT rfl rfl omD ?_ | refine eqlF rfl rfl omD ?_) | (show SH _ _ _ _ _ (⟨_, .load _ _, _, _, _, _⟩ :: _) _ _ _; first | refine lbx rfl spL (by rfl) ?_ | refine lba rfl spL (by rfl) ?_) | (show SH _ _ _ _ _ (⟨_, .call ⟨.value (.func 38), _, _⟩, _, _, _, _⟩ :: _) _ _ _; refine cl (callee := .func 38) rfl (fun w hw => hpk w) rfl rfl ?_) | (show SH _ _ _ _ _ (⟨_, .call ⟨.value (.func 39), _, _⟩, _, _, _, _⟩ :: _) _ _ _; refine cp (callee := .func 39) rfl (fun w hw => ho w (hr.ext hw.ext)) rfl rfl ?_) | refine fad rfl ?_ | refine ala rfl (fun b => ?_) | (show SH _ _ _ _ _ (⟨_, .box _ _, _, _, _, _⟩ :: _) _ _ _; refine bxx rfl evL rfl (fun b => ?_))) | refine s_nil ?_ | refine kh_normal ?_))
    rintro _ _ ⟨A1, c1, L1, hp1, rfl, rfl⟩
    (repeat' (first | refine v_ret ?_ | (show SH _ _ _ _ _ (_ :: _) _ _ _; first | (show SH _ _ _ _ _ (⟨_, .assign _, _, _, _, _⟩ :: _) _ _ _; refine asg evL ?_) | refine extr rfl rfl ?_ | (show SH _ _ _ _ _ (⟨_, .store _ _ _, _, _, _, _⟩ :: _) _ _ _; refine sta rfl rfl rfl spL (by rfl) (by rfl) (by rfl) kpL ?_)) | refine s_nil ?_ | refine kh_normal ?_ | refine kh_ret ?_ | refine bh_ret ?_))
    exact rhC2 rfl rfl rfl rfl (fun w hw => loadVar_bx hw spL (by rfl)) ⟨A1, c1, L1, hp1, rfl, rfl⟩ enL
  · rw [hm] at hpk ⊢
    have ho := fun w hr => leaveO_spec t la A L c a w hz hr
    refine enterH Tryz.func13 rfl rfl Tryz.ntmps13 rfl (Wd.refl _) ?_
    (repeat' (first | (show VH _ _ _ _ _ _ _; first | refine v_seq ?_ | refine r_seq ?_ | refine v_block ?_ | refine v_cond_t rfl tbL ?_ | refine v_cond_f rfl tbL ?_) | (show SH _ _ _ _ _ (_ :: _) _ _ _; first | (show SH _ _ _ _ _ (⟨_, .assign _, _, _, _, _⟩ :: _) _ _ _; refine asg evL ?_) | (show SH _ _ _ _ _ (⟨_, .binOp .eql _ _ _ _, _, _, _, _⟩ :: _) _ _ _; first | refine eqlT rfl rfl omD ?_ | refine eqlF rfl rfl omD ?_) | (show SH _ _ _ _ _ (⟨_, .load _ _, _, _, _, _⟩ :: _) _ _ _; first | refine lbx rfl spL (by rfl) ?_ | refine lba rfl spL (by rfl) ?_) | (show SH _ _ _ _ _ (⟨_, .call ⟨.value (.func 38), _, _⟩, _, _, _, _⟩ :: _) _ _ _; refine cl (callee := .func 38) rfl (fun w hw => hpk w) rfl rfl ?_) | (show SH _ _ _ _ _ (⟨_, .call ⟨.value (.func 17), _, _⟩, _, _, _, _⟩ :: _) _ _ _; refine cp (callee := .func 17) rfl (fun w hw => ho w (hr.ext hw.ext)) rfl rfl ?_) | refine fad rfl ?_ | refine ala rfl (fun b => ?_) | (show SH _ _ _ _ _ (⟨_, .box _ _, _, _, _, _⟩ :: _) _ _ _; refine bxx rfl evL rfl (fun b => ?_))) | refine s_nil ?_ | refine kh_normal ?_))
    rintro _ _ ⟨A1, c1, L1, hp1, rfl, rfl⟩
    (repeat' (first | refine v_ret ?_ | (show SH _ _ _ _ _ (_ :: _) _ _ _; first | (show SH _ _ _ _ _ (⟨_, .assign _, _, _, _, _⟩ :: _) _ _ _; refine asg evL ?_) | refine extr rfl rfl ?_ | (show SH _ _ _ _ _ (⟨_, .store _ _ _, _, _, _, _⟩ :: _) _ _ _; refine sta rfl rfl rfl spL (by rfl) (by rfl) (by rfl) kpL ?_)) | refine s_nil ?_ | refine kh_normal ?_ | refine kh_ret ?_ | refine bh_ret ?_))
    exact rhC2 rfl rfl rfl rfl (fun w hw => loadVar_bx hw spL (by rfl)) ⟨A1, c1, L1, hp1, rfl, rfl⟩ enL
  · rw [hm] at hpk ⊢
    have ho := fun w hr => kick_spec t la A L c a b w hz hr
    refine enterH Tryz.func13 rfl rfl Tryz.ntmps13 rfl (Wd.refl _) ?_
    (repeat' (first | (show VH _ _ _ _ _ _ _; first | refine v_seq ?_ | refine r_seq ?_ | refine v_block ?_ | refine v_cond_t rfl tbL ?_ | refine v_cond_f rfl tbL ?_) | (show SH _ _ _ _ _ (_ :: _) _ _ _; first | (show SH _ _ _ _ _ (⟨_, .assign _, _, _, _, _⟩ :: _) _ _ _; refine asg evL ?_) | (show SH _ _ _ _ _ (⟨_, .binOp .eql _ _ _ _, _, _, _, _⟩ :: _) _ _ _; first | refine eqlT rfl rfl omD ?_ | refine eqlF rfl rfl omD ?_) | (show SH _ _ _ _ _ (⟨_, .load _ _, _, _, _, _⟩ :: _) _ _ _; first | refine lbx rfl spL (by rfl) ?_ | refine lba rfl spL (by rfl) ?_) | (show SH _ _ _ _ _ (⟨_, .call ⟨.value (.func 38), _, _⟩, _, _, _, _⟩ :: _) _ _ _; refine cl (callee := .func 38) rfl (fun w hw => hpk w) rfl rfl ?_) | (show SH _ _ _ _ _ (⟨_, .call ⟨.value (.func 40), _, _⟩, _, _, _, _⟩ :: _) _ _ _; refine cp (callee := .func 40) rfl (fun w hw => ho w (hr.ext hw.ext)) rfl rfl ?_) | refine fad rfl ?_ | refine ala rfl (fun b => ?_) | (show SH _ _ _ _ _ (⟨_, .box _ _, _, _, _, _⟩ :: _) _ _ _; refine bxx rfl evL rfl (fun b => ?_))) | refine s_nil ?_ | refine kh_normal ?_))
    rintro _ _ ⟨A1, c1, L1, hp1, rfl, rfl⟩
    (repeat' (first | refine v_ret ?_ | (show SH _ _ _ _ _ (_ :: _) _ _ _; first | (show SH _ _ _ _ _ (⟨_, .assign _, _, _, _, _⟩ :: _) _ _ _; refine asg evL ?_) | refine extr rfl rfl ?_ | (show SH _ _ _ _ _ (⟨_, .store _ _ _, _, _, _, _⟩ :: _) _ _ _; refine sta rfl rfl rfl spL (by rfl) (by rfl) (by rfl) kpL ?_)) | refine s_nil ?_ | refine kh_normal ?_ | refine kh_ret ?_ | refine bh_ret ?_))
    exact rhC2 rfl rfl rfl rfl (fun w hw => loadVar_bx hw spL (by rfl)) ⟨A1, c1, L1, hp1, rfl, rfl⟩ enL
  · rw [hm] at hpk ⊢
    have ho := fun w hr => promote_spec t la A L c a b w hz hr
    refine enterH Tryz.func13 rfl rfl Tryz.ntmps13 rfl (Wd.refl _) ?_
    (repeat' (first | (show VH _ _ _ _ _ _ _; first | refine v_seq ?_ | refine r_seq ?_ | refine v_block ?_ | refine v_cond_t rfl tbL ?_ | refine v_cond_f rfl tbL ?_) | (show SH _ _ _ _ _ (_ :: _) _ _ _; first | (show SH _ _ _ _ _ (⟨_, .assign _, _, _, _, _⟩ :: _) _ _ _; refine asg evL ?_) | (show SH _ _ _ _ _ (⟨_, .binOp .eql _ _ _ _, _, _, _, _⟩ :: _) _ _ _; first | refine eqlT rfl rfl omD ?_ | refine eqlF rfl rfl omD ?_) | (show SH _ _ _ _ _ (⟨_, .load _ _, _, _, _, _⟩ :: _) _ _ _; first | refine lbx rfl spL (by rfl) ?_ | refine lba rfl spL (by rfl) ?_) | (show SH _ _ _ _ _ (⟨_, .call ⟨.value (.func 38), _, _⟩, _, _, _, _⟩ :: _) _ _ _; refine cl (callee := .func 38) rfl (fun w hw => hpk w) rfl rfl ?_) | (show SH _ _ _ _ _ (⟨_, .call ⟨.value (.func 41), _, _⟩, _, _, _, _⟩ :: _) _ _ _; refine cp (callee := .func 41) rfl (fun w hw => ho w (hr.ext hw.ext)) rfl rfl ?_) | refine fad rfl ?_ | refine ala rfl (fun b => ?_) | (show SH _ _ _ _ _ (⟨_, .box _ _, _, _, _, _⟩ :: _) _ _ _; refine bxx rfl evL rfl (fun b => ?_))) | refine s_nil ?_ | refine kh_normal ?_))
    rintro _ _ ⟨A1, c1, L1, hp1, rfl, rfl⟩
    (repeat' (first | refine v_ret ?_ | (show SH _ _ _ _ _ (_ :: _) _ _ _; first | (show SH _ _ _ _ _ (⟨_, .assign _, _, _, _, _⟩ :: _) _ _ _; refine asg evL ?_) | refine extr rfl rfl ?_ | (show SH _ _ _ _ _ (⟨_, .store _ _ _, _, _, _, _⟩ :: _) _ _ _; refine sta rfl rfl rfl spL (by rfl) (by rfl) (by rfl) kpL ?_)) | refine s_nil ?_ | refine kh_normal ?_ | refine kh_ret ?_ | refine bh_ret ?_))
    exact rhC2 rfl rfl rfl rfl (fun w hw => loadVar_bx hw spL (by rfl)) ⟨A1, c1, L1, hp1, rfl, rfl⟩ enL
  · rw [hm] at hpk ⊢
    have ho := fun w hr => disband_spec t la A L c a w hz hr
    refine enterH Tryz.func13 rfl rfl Tryz.ntmps13 rfl (Wd.refl _) ?_
    (repeat' (first | (show VH _ _ _ _ _ _ _; first | refine v_seq ?_ | refine r_seq ?_ | refine v_block ?_ | refine v_skip ?_ | refine v_cond_f rfl tbL ?_) | (show SH _ _ _ _ _ (_ :: _) _ _ _; first | (show SH _ _ _ _ _ (⟨_, .assign _, _, _, _, _⟩ :: _) _ _ _; refine asg evL ?_) | (show SH _ _ _ _ _ (⟨_, .binOp .eql _ _ _ _, _, _, _, _⟩ :: _) _ _ _; refine eqlF rfl rfl omD ?_) | (show SH _ _ _ _ _ (⟨_, .load _ _, _, _, _, _⟩ :: _) _ _ _; first | refine lbx rfl spL (by rfl) ?_ | refine lba rfl spL (by rfl) ?_) | (show SH _ _ _ _ _ (⟨_, .call ⟨.value (.func 38), _, _⟩, _, _, _, _⟩ :: _) _ _ _; refine cl (callee := .func 38) rfl (fun w hw => hpk w) rfl rfl ?_) | (show SH _ _ _ _ _ (⟨_, .call ⟨.value (.func 42), _, _⟩, _, _, _, _⟩ :: _) _ _ _; refine cp (callee := .func 42) rfl (fun w hw => ho w (hr.ext hw.ext)) rfl rfl ?_) | refine fad rfl ?_ | refine ala rfl (fun b => ?_) | (show SH _ _ _ _ _ (⟨_, .box _ _, _, _, _, _⟩ :: _) _ _ _; refine bxx rfl evL rfl (fun b => ?_))) | refine s_nil ?_ | refine kh_normal ?_ | refine bh_normal ?_))
    rintro _ _ ⟨A1, c1, L1, hp1, rfl, rfl⟩
    (repeat' (first | refine v_ret ?_ | (show SH _ _ _ _ _ (_ :: _) _ _ _; first | (show SH _ _ _ _ _ (⟨_, .assign _, _, _, _, _⟩ :: _) _ _ _; refine asg evL ?_) | refine extr rfl rfl ?_ | (show SH _ _ _ _ _ (⟨_, .store _ _ _, _, _, _, _⟩ :: _) _ _ _; refine sta rfl rfl rfl spL (by rfl) (by rfl) (by rfl) kpL ?_)) | refine s_nil ?_ | refine kh_normal ?_))
    exact rhC2 rfl rfl rfl rfl (fun w hw => loadVar_bx hw spL (by rfl)) ⟨A1, c1, L1, hp1, rfl, rfl⟩ enL
end Go.Proofs.YtlfbcoohfnoacaaGreat

/- marcheslaw36: awake (printed by gen_aw36.py). -/
namespace Go.Proofs.YtlfbcoohfnoacaaGreat
open Go.Fw Go.RowKit
/-- A thing that is done. -/
structure Do3 where
  kind : Int
  a : Int
  b : Int
  deriving DecidableEq
instance : Flat Do3 := ⟨3, fun x => [.int .i64 x.kind, .int .i64 x.a, .int .i64 x.b], ⟨0, 0, 0⟩, fun _ => rfl, fun x v hv => by
  simp at hv; rcases hv with rfl | rfl | rfl <;> rfl, by omega⟩
theorem do3_enc {l : List Do3} {k : Nat} {x : Do3} (hx : l.getD k Flat.dflt = x) : Flat.enc (l.getD k Flat.dflt) = [.int .i64 x.kind, .int .i64 x.a, .int .i64 x.b] := by rw [hx]; rfl
/-- A hall that comes out, and an error; its memory is known. -/
def OutK (r : ResP) (v : Value) (H' : List HP) : Prop := ∃ A c L, ptys L = r.1.ps ∧ v = .tuple #[hv36 r.1.tick r.1.last A L c, .int .i64 r.2] ∧ H' = [knp A L]
theorem outK_of {r r' : ResP} {g : FuncId} {args : List Value} {w : World} (e : r = r') (h : Ret Tryz.prog g args.toArray w (RP w (OutH r))) : Ret Tryz.prog g args.toArray w (RP w (OutK r')) := by
  subst e
  exact h.mono fun v w' ⟨H', ⟨A, c, L, hp, hv, hH⟩, hw⟩ => ⟨_, ⟨A, c, L, hp, hv, rfl⟩, Ent.wd (hH ▸ ent_knp) hw⟩
/-- A party that comes out; its memory is known. -/
def OutQ (r : Option Pty) (v : Value) (H' : List HP) : Prop :=
  match r with
  | none => v = .tuple #[.agg #[.int .i64 0, .int .i64 0, .slice none 0 0, .slice none 0 0], .bool false] ∧ H' = []
  | some p => ∃ y : PtyP, y.p = p ∧ v = .tuple #[.agg (Flat.enc y).toArray, .bool true] ∧ H' = [kno fun w => Rd w y.A y.p.mem ∧ Rd w y.B y.p.inv]
theorem ent_party {G : List HP} {y : PtyP} : Ent (rowM y :: rowI y :: G) ((kno fun w => Rd w y.A y.p.mem ∧ Rd w y.B y.p.inv) :: G) :=
  (ent_cons Split.head (ent_kno_row Split.head (ent_refl _))).trans ((ent_kno_row Split.head (ent_refl _)).trans ent_kno_and)
theorem outQ_of {r r' : Option Pty} {g : FuncId} {args : List Value} {w : World} (e : r = r') (h : Ret Tryz.prog g args.toArray w (RP w (OutP r))) : Ret Tryz.prog g args.toArray w (RP w (OutQ r')) := by
  subst e
  cases r with
  | none => exact h
  | some p => exact h.mono fun v w' ⟨H', ⟨y, hp, hv, hH⟩, hw⟩ => ⟨_, ⟨y, hp, hv, rfl⟩, Ent.wd (hH ▸ ent_party) hw⟩
def SzQ (ps : List Pty) : Prop := ps.length ≤ 1000 ∧ ∀ p ∈ ps, p.mem.length ≤ 1000 ∧ p.inv.length ≤ 1000
instance (ps : List Pty) : Decidable (SzQ ps) := inferInstanceAs (Decidable (_ ∧ _))
theorem szQ_sz {L : List PtyP} {ps : List Pty} (hp : ptys L = ps) (h : SzQ ps) : SzP L := by
  subst hp
  exact ⟨by have := h.1; rwa [ptys_len] at this, fun x hx => (h.2 x.p (List.mem_map_of_mem hx)).1, fun x hx => (h.2 x.p (List.mem_map_of_mem hx)).2⟩
theorem ent_kn0 {G : List HP} : Ent G (knp none [] :: G) :=
  Ent.trans (B := orow 46 none 0 ([] : List PtyP) :: allH (([] : List PtyP).map rowM) :: allH (([] : List PtyP).map rowI) :: G) (ent_nilrow (ent_all_nil (ent_all_nil (ent_refl _)))) ent_knp
def awL : List Do3 := [⟨1, 7, 0⟩, ⟨1, 8, 0⟩, ⟨2, 7, 9⟩, ⟨2, 8, 9⟩, ⟨3, 9, 1⟩]
def awH : Nat → Hal
  | 0 => ⟨0, 0, []⟩
  | 1 => ⟨0, 1, [⟨1, 7, [7], []⟩]⟩
  | 2 => ⟨0, 2, [⟨1, 7, [7], []⟩, ⟨2, 8, [8], []⟩]⟩
  | 3 => ⟨0, 2, [⟨1, 7, [7], [⟨9, 600⟩]⟩, ⟨2, 8, [8], []⟩]⟩
  | 4 => ⟨0, 2, [⟨1, 7, [7], [⟨9, 600⟩]⟩, ⟨2, 8, [8], [⟨9, 600⟩]⟩]⟩
  | _ => ⟨0, 2, [⟨1, 7, [7, 9], []⟩, ⟨2, 8, [8], []⟩]⟩
theorem aw_step : ∀ k, k < 5 → doR ⟨0, (awH k).last, (awH k).ps⟩ (awL.getD k Flat.dflt).kind (awL.getD k Flat.dflt).a (awL.getD k Flat.dflt).b = (awH (k + 1), 0)
  | 0, _ => by kernel_rfl
  | 1, _ => by kernel_rfl
  | 2, _ => by kernel_rfl
  | 3, _ => by kernel_rfl
  | 4, _ => by kernel_rfl
  | n + 5, h => by omega
theorem aw_sz : ∀ k, k ≤ 5 → SzQ (awH k).ps
  | 0, _ => by decide
  | 1, _ => by decide
  | 2, _ => by decide
  | 3, _ => by decide
  | 4, _ => by decide
  | 5, _ => by decide
  | n + 6, h => by omega
theorem aw_tick : ∀ k, (awH k).tick = 0
  | 0 => rfl
  | 1 => rfl
  | 2 => rfl
  | 3 => rfl
  | 4 => rfl
  | n + 5 => rfl
set_option maxHeartbeats 8000000 in
set_option maxRecDepth 100000 in
theorem awake36_spec (w : World) : Ret Tryz.prog 6 ([] : List Value).toArray w (Out w (.bool true)) := by
  refine enterH Tryz.func6 rfl rfl Tryz.ntmps6 rfl (Wd.refl _) ?_
  (repeat' (first | (show VH _ _ _ _ _ _ _; first | refine v_seq ?_ | refine r_seq ?_) | (show SH _ _ _ _ _ (_ :: _) _ _ _; first | (show SH _ _ _ _ _ (⟨_, .assign _, _, _, _, _⟩ :: _) _ _ _; refine asg evL ?_) | refine bld rfl rfl ?_ | refine ala rfl (fun b => ?_)) | refine s_nil ?_ | refine kh_normal ?_))
  revert b
  intro b1
  refine bsl (l := awL) rfl rfl (Vals.cons rfl (Vals.cons rfl (Vals.cons rfl (Vals.cons rfl (Vals.cons rfl Vals.nil))))) rfl rfl (by decide) (fun bl => ?_)
  (repeat' (first | (show VH _ _ _ _ _ _ _; first | refine v_seq ?_ | refine r_seq ?_ | refine v_block ?_) | (show SH _ _ _ _ _ (_ :: _) _ _ _; (show SH _ _ _ _ _ (⟨_, .assign _, _, _, _, _⟩ :: _) _ _ _; refine asg evL ?_)) | refine s_nil ?_ | refine kh_normal ?_))
  refine v_norm [(0,_),(1,_),(2,_),(3,_)] heL (fun g => ?_)
  refine VH.ent (G := [bx b1 24 [.int .i64 0, .int .i64 (awH 0).last, .slice none 0 0], knp none [], orow 36 (some ⟨bl, 0, none⟩) 5 awL]) ?_ (ent_kn0.trans enL)
  refine v_loop [(0,0),(3,5),(37,54)] (fun y : Nat × Option Addr × Nat × List PtyP => [(3, .int .i64 y.1)]) (fun y => [bx b1 24 [.int .i64 0, .int .i64 (awH y.1).last, .slice y.2.1 y.2.2.2.length y.2.2.1], knp y.2.1 y.2.2.2, orow 36 (some ⟨bl, 0, none⟩) 5 awL]) (fun y => y.1 ≤ 5 ∧ ptys y.2.2.2 = (awH y.1).ps) (fun y => 5 - y.1) (0, none, 0, []) hsL enL ⟨Nat.zero_le _, rfl⟩ ?_
  rintro ⟨k, A, c, L⟩ g ⟨hk, hp⟩
  simp only [sets]
  simp only at hk hp
  have hlen : awL.length = 5 := rfl
  by_cases hkl : k < 5
  · have hst := aw_step k hkl
    have hz := szQ_sz hp (aw_sz k hk)
    have htk := aw_tick (k + 1)
    rw [← hp] at hst
    obtain ⟨x, hx⟩ : ∃ x, awL.getD k Flat.dflt = x := ⟨_, rfl⟩
    have hxE := do3_enc hx
    rw [hx] at hst
    clear hx
    obtain ⟨xk, xa, xb⟩ := x
    simp only at hst hxE
    have ho := fun w hr => outK_of hst (one36_spec 0 (awH k).last A L c xk xa xb w hz hr)
    unfold OutK at ho
    simp only [htk] at ho
    (repeat' (first | (show VH _ _ _ _ _ _ _; first | refine v_seq ?_ | refine r_seq ?_ | refine v_block ?_ | refine v_skip ?_ | refine v_cond_t rfl tbL ?_) | (show SH _ _ _ _ _ (_ :: _) _ _ _; first | (show SH _ _ _ _ _ (⟨_, .move _, _, _, _, _⟩ :: _) _ _ _; refine mov evL ?_) | (show SH _ _ _ _ _ (⟨_, .binOp .lss _ _ _ _, _, _, _, _⟩ :: _) _ _ _; refine lssT rfl rfl omD ?_) | refine slen rfl ?_) | refine s_nil ?_ | refine kh_normal ?_))
    refine r_heldT [bx b1 24 _, orow 36 (some ⟨bl, 0, none⟩) 5 awL] (tr [(0, true), (1, true), (2, true), (3, true), (4, true)] (.fork 5 (tr [(6, true), (7, true), (8, true), (9, false), (10, false), (11, false)] .nil) 9 (tr [(5, false), (6, false), (7, true), (8, true), (10, false), (11, false)] .nil))) hmix (by kernel_rfl) enL ?_
    (repeat' (first | (show SH _ _ _ _ _ (_ :: _) _ _ _; first | (show SH _ _ _ _ _ (⟨_, .move _, _, _, _, _⟩ :: _) _ _ _; refine mov evL ?_) | (show SH _ _ _ _ _ (⟨_, .load _ _, _, _, _, _⟩ :: _) _ _ _; first | refine lba rfl spL (by rfl) ?_ | refine lag rfl (fun _ _ => rdP) (by rfl) omL (by assumption) ?_) | (show SH _ _ _ _ _ (⟨_, .indexAddr _ _ _, _, _, _, _⟩ :: _) _ _ _; refine ix rfl rfl (by with_reducible rfl) (fun _ _ => rdP) (by rfl) omL omL ?_) | (show SH _ _ _ _ _ (⟨_, .call ⟨.value (.func 13), _, _⟩, _, _, _, _⟩ :: _) _ _ _; refine cp (callee := .func 13) rfl (fun w hw => ho w (Wd.kp hw spL)) rfl rfl ?_) | refine ala rfl (fun b => ?_)) | refine s_fork ?_ ?_))
    all_goals
      rintro _ _ ⟨A1, c1, L1, hp1, rfl, rfl⟩
      (repeat' (first | (show VH _ _ _ _ _ _ _; first | refine v_seq ?_ | refine r_seq ?_ | refine v_skip ?_ | refine v_cond_f rfl tbL ?_) | (show SH _ _ _ _ _ (_ :: _) _ _ _; first | (show SH _ _ _ _ _ (⟨_, .move _, _, _, _, _⟩ :: _) _ _ _; refine mov evL ?_) | (show SH _ _ _ _ _ (⟨_, .assign _, _, _, _, _⟩ :: _) _ _ _; refine asg evL ?_) | (show SH _ _ _ _ _ (⟨_, .binOp .neq _ _ _ _, _, _, _, _⟩ :: _) _ _ _; refine neqF rfl rfl omD ?_) | (show SH _ _ _ _ _ (⟨_, .binOp .add _ _ _ _, _, _, _, _⟩ :: _) _ _ _; refine add rfl rfl inL ?_) | (show SH _ _ _ _ _ (⟨_, .load _ _, _, _, _, _⟩ :: _) _ _ _; refine lba rfl spL (by rfl) ?_) | refine extr rfl rfl ?_ | refine ala rfl (fun b => ?_) | (show SH _ _ _ _ _ (⟨_, .store _ _ _, _, _, _, _⟩ :: _) _ _ _; refine sta rfl rfl rfl spL (by rfl) (by rfl) (by rfl) kpL ?_)) | refine s_nil ?_ | refine kh_normal ?_ | refine bh_normal ?_))
      exact ⟨agL, (k + 1, A1, c1, L1), hsL, enL, ⟨hkl, hp1⟩, by show 5 - (k + 1) < 5 - k; omega⟩
  obtain rfl : k = 5 := by omega
  clear hkl hk
  have hp5 : ptys L = [⟨1, 7, [7, 9], []⟩, ⟨2, 8, [8], []⟩] := hp
  clear hp
  revert A c L
  intro A5 c5 L5 hp5
  have hz5 := szQ_sz hp5 (by decide)
  rw [show (awH 5).last = 2 from rfl]
  (repeat' ((fail_if_success (show VH _ _ (.seq (.region 10 _ _) _) _ _ _ _)); first | (show VH _ _ _ _ _ _ _; first | refine v_seq ?_ | refine r_seq ?_ | refine v_exit ?_ | refine v_cond_f rfl tbL ?_) | (show SH _ _ _ _ _ (_ :: _) _ _ _; first | (show SH _ _ _ _ _ (⟨_, .move _, _, _, _, _⟩ :: _) _ _ _; refine mov evL ?_) | (show SH _ _ _ _ _ (⟨_, .binOp .lss _ _ _ _, _, _, _, _⟩ :: _) _ _ _; refine lssF rfl rfl omD ?_) | refine slen rfl ?_) | refine s_nil ?_ | refine kh_normal ?_ | refine kh_exit ?_ | refine bh_exit ?_))
  (repeat' (first | (show VH _ _ _ _ _ _ _; first | refine v_seq ?_ | refine r_seq ?_) | (show SH _ _ _ _ _ (_ :: _) _ _ _; first | (show SH _ _ _ _ _ (⟨_, .load _ _, _, _, _, _⟩ :: _) _ _ _; refine lba rfl spL (by rfl) ?_) | (show SH _ _ _ _ _ (⟨_, .call ⟨.value (.func 14), _, _⟩, _, _, _, _⟩ :: _) _ _ _; refine cp (callee := .func 14) rfl (fun w hw => outK_of (r' := (hal0, 6)) (by rw [hp5]; kernel_rfl) (accept_spec 0 2 A5 L5 c5 9 2 w hz5 (Wd.kp hw spL))) rfl rfl ?_))))
  rintro _ _ ⟨A10, c10, L10, hp10, rfl, rfl⟩
  try simp only
  (repeat' ((fail_if_success (show VH _ _ (.seq (.region 11 _ _) _) _ _ _ _)); first | (show SH _ _ _ _ _ (_ :: _) _ _ _; first | (show SH _ _ _ _ _ (⟨_, .move _, _, _, _, _⟩ :: _) _ _ _; refine mov evL ?_) | (show SH _ _ _ _ _ (⟨_, .assign _, _, _, _, _⟩ :: _) _ _ _; refine asg evL ?_) | refine extr rfl rfl ?_ | refine ala rfl (fun b => ?_) | (show SH _ _ _ _ _ (⟨_, .store _ _ _, _, _, _, _⟩ :: _) _ _ _; refine sta rfl rfl rfl spL (by rfl) (by rfl) (by rfl) kpL ?_)) | refine s_nil ?_ | refine kh_normal ?_))
  refine v_norm [(1,_),(7,_)] heL (fun g => ?_)
  refine VH.ent (G := [bx b1 24 [.int .i64 0, .int .i64 2, .slice A5 L5.length c5], knp A5 L5]) ?_ enL
  (repeat' (first | (show VH _ _ _ _ _ _ _; first | refine v_seq ?_ | refine r_seq ?_) | (show SH _ _ _ _ _ (_ :: _) _ _ _; first | (show SH _ _ _ _ _ (⟨_, .load _ _, _, _, _, _⟩ :: _) _ _ _; refine lba rfl spL (by rfl) ?_) | (show SH _ _ _ _ _ (⟨_, .call ⟨.value (.func 15), _, _⟩, _, _, _, _⟩ :: _) _ _ _; refine cp (callee := .func 15) rfl (fun w hw => outK_of (r' := (hal0, 362)) (by rw [hp5]; kernel_rfl) (invited_spec 0 2 A5 L5 c5 9 5 w hz5 (Wd.kp hw spL))) rfl rfl ?_))))
  rintro _ _ ⟨A11, c11, L11, hp11, rfl, rfl⟩
  try simp only
  (repeat' ((fail_if_success (show VH _ _ (.seq (.region 12 _ _) _) _ _ _ _)); first | (show SH _ _ _ _ _ (_ :: _) _ _ _; first | (show SH _ _ _ _ _ (⟨_, .move _, _, _, _, _⟩ :: _) _ _ _; refine mov evL ?_) | (show SH _ _ _ _ _ (⟨_, .assign _, _, _, _, _⟩ :: _) _ _ _; refine asg evL ?_) | refine extr rfl rfl ?_ | refine ala rfl (fun b => ?_) | (show SH _ _ _ _ _ (⟨_, .store _ _ _, _, _, _, _⟩ :: _) _ _ _; refine sta rfl rfl rfl spL (by rfl) (by rfl) (by rfl) kpL ?_)) | refine s_nil ?_ | refine kh_normal ?_))
  refine v_norm [(1,_),(7,_),(9,_)] heL (fun g => ?_)
  refine VH.ent (G := [bx b1 24 [.int .i64 0, .int .i64 2, .slice A5 L5.length c5], knp A5 L5]) ?_ enL
  (repeat' (first | (show VH _ _ _ _ _ _ _; first | refine v_seq ?_ | refine r_seq ?_) | (show SH _ _ _ _ _ (_ :: _) _ _ _; first | (show SH _ _ _ _ _ (⟨_, .load _ _, _, _, _, _⟩ :: _) _ _ _; refine lba rfl spL (by rfl) ?_) | (show SH _ _ _ _ _ (⟨_, .call ⟨.value (.func 15), _, _⟩, _, _, _, _⟩ :: _) _ _ _; refine cp (callee := .func 15) rfl (fun w hw => outK_of (r' := (hal0, 361)) (by rw [hp5]; kernel_rfl) (invited_spec 0 2 A5 L5 c5 7 8 w hz5 (Wd.kp hw spL))) rfl rfl ?_))))
  rintro _ _ ⟨A12, c12, L12, hp12, rfl, rfl⟩
  try simp only
  (repeat' ((fail_if_success (show VH _ _ (.seq (.region 13 _ _) _) _ _ _ _)); first | (show SH _ _ _ _ _ (_ :: _) _ _ _; first | (show SH _ _ _ _ _ (⟨_, .move _, _, _, _, _⟩ :: _) _ _ _; refine mov evL ?_) | (show SH _ _ _ _ _ (⟨_, .assign _, _, _, _, _⟩ :: _) _ _ _; refine asg evL ?_) | refine extr rfl rfl ?_ | refine ala rfl (fun b => ?_) | (show SH _ _ _ _ _ (⟨_, .store _ _ _, _, _, _, _⟩ :: _) _ _ _; refine sta rfl rfl rfl spL (by rfl) (by rfl) (by rfl) kpL ?_)) | refine s_nil ?_ | refine kh_normal ?_))
  refine v_norm [(1,_),(7,_),(9,_),(11,_)] heL (fun g => ?_)
  refine VH.ent (G := [bx b1 24 [.int .i64 0, .int .i64 2, .slice A5 L5.length c5], knp A5 L5]) ?_ enL
  (repeat' (first | (show VH _ _ _ _ _ _ _; first | refine v_seq ?_ | refine r_seq ?_) | (show SH _ _ _ _ _ (_ :: _) _ _ _; first | (show SH _ _ _ _ _ (⟨_, .load _ _, _, _, _, _⟩ :: _) _ _ _; refine lba rfl spL (by rfl) ?_) | (show SH _ _ _ _ _ (⟨_, .call ⟨.value (.func 16), _, _⟩, _, _, _, _⟩ :: _) _ _ _; refine cp (callee := .func 16) rfl (fun w hw => outQ_of (r' := some ⟨1, 7, [7, 9], []⟩) (by rw [hp5]; kernel_rfl) (of_spec 0 2 A5 L5 c5 9 w hz5 (Wd.kp hw spL))) rfl rfl ?_))))
  rintro _ _ ⟨⟨⟨y13i, y13l, y13m, y13v⟩, y13A, y13ca, y13B, y13cb⟩, hy, rfl, rfl⟩
  injection hy with e1 e2 e3 e4
  subst e1 e2 e3 e4
  try simp only
  (repeat' ((fail_if_success (show VH _ _ (.seq (.region 14 _ _) _) _ _ _ _)); first | (show SH _ _ _ _ _ (_ :: _) _ _ _; first | (show SH _ _ _ _ _ (⟨_, .move _, _, _, _, _⟩ :: _) _ _ _; refine mov evL ?_) | (show SH _ _ _ _ _ (⟨_, .assign _, _, _, _, _⟩ :: _) _ _ _; refine asg evL ?_) | refine extr rfl rfl ?_ | refine ala rfl (fun b => ?_) | (show SH _ _ _ _ _ (⟨_, .store _ _ _, _, _, _, _⟩ :: _) _ _ _; refine sta rfl rfl rfl spL (by rfl) (by rfl) (by rfl) kpL ?_)) | refine s_nil ?_ | refine kh_normal ?_))
  revert b
  intro bb13
  refine v_norm [(1,_),(7,_),(9,_),(11,_),(12,_),(13,_)] heL (fun g => ?_)
  refine VH.ent (G := [bx b1 24 [.int .i64 0, .int .i64 2, .slice A5 L5.length c5], knp A5 L5, bx bb13 46 [.int .i64 1, .int .i64 7, .slice y13A ([7, 9] : List Int).length y13ca, .slice y13B ([] : List Inv).length y13cb], kno fun w => Rd w y13A ([7, 9] : List Int) ∧ Rd w y13B ([] : List Inv)]) ?_ enL
  (repeat' (first | (show VH _ _ _ _ _ _ _; first | refine v_seq ?_ | refine r_seq ?_) | (show SH _ _ _ _ _ (_ :: _) _ _ _; first | (show SH _ _ _ _ _ (⟨_, .load _ _, _, _, _, _⟩ :: _) _ _ _; refine lba rfl spL (by rfl) ?_) | (show SH _ _ _ _ _ (⟨_, .call ⟨.value (.func 17), _, _⟩, _, _, _, _⟩ :: _) _ _ _; refine cp (callee := .func 17) rfl (fun w hw => outK_of (r' := ((⟨0, 2, [⟨1, 9, [9], []⟩, ⟨2, 8, [8], []⟩]⟩ : Hal), 0)) (by rw [hp5]; kernel_rfl) (leaveO_spec 0 2 A5 L5 c5 7 w hz5 (Wd.kp hw spL))) rfl rfl ?_))))
  rintro _ _ ⟨A14, c14, L14, hp14, rfl, rfl⟩
  try simp only at hp14
  have hz14 := szQ_sz hp14 (by decide)
  try simp only
  (repeat' ((fail_if_success (show VH _ _ (.seq (.region 15 _ _) _) _ _ _ _)); first | (show SH _ _ _ _ _ (_ :: _) _ _ _; first | (show SH _ _ _ _ _ (⟨_, .move _, _, _, _, _⟩ :: _) _ _ _; refine mov evL ?_) | (show SH _ _ _ _ _ (⟨_, .assign _, _, _, _, _⟩ :: _) _ _ _; refine asg evL ?_) | refine extr rfl rfl ?_ | (show SH _ _ _ _ _ (⟨_, .store _ _ _, _, _, _, _⟩ :: _) _ _ _; refine sta rfl rfl rfl spL (by rfl) (by rfl) (by rfl) kpL ?_)) | refine s_nil ?_ | refine kh_normal ?_))
  refine v_norm [(1,_),(7,_),(9,_),(11,_),(12,_),(13,_),(14,_)] heL (fun g => ?_)
  refine VH.ent (G := [bx b1 24 [.int .i64 0, .int .i64 2, .slice A14 L14.length c14], bx bb13 46 [.int .i64 1, .int .i64 7, .slice y13A ([7, 9] : List Int).length y13ca, .slice y13B ([] : List Inv).length y13cb], kno fun w => Rd w y13A ([7, 9] : List Int) ∧ Rd w y13B ([] : List Inv), knp A14 L14]) ?_ enL
  (repeat' (first | (show VH _ _ _ _ _ _ _; first | refine v_seq ?_ | refine r_seq ?_) | (show SH _ _ _ _ _ (_ :: _) _ _ _; first | (show SH _ _ _ _ _ (⟨_, .load _ _, _, _, _, _⟩ :: _) _ _ _; refine lba rfl spL (by rfl) ?_) | (show SH _ _ _ _ _ (⟨_, .call ⟨.value (.func 16), _, _⟩, _, _, _, _⟩ :: _) _ _ _; refine cp (callee := .func 16) rfl (fun w hw => outQ_of (r' := some ⟨1, 9, [9], []⟩) (by rw [hp14]; kernel_rfl) (of_spec 0 2 A14 L14 c14 9 w hz14 (Wd.kp hw spL))) rfl rfl ?_))))
  rintro _ _ ⟨⟨⟨y15i, y15l, y15m, y15v⟩, y15A, y15ca, y15B, y15cb⟩, hy, rfl, rfl⟩
  injection hy with e1 e2 e3 e4
  subst e1 e2 e3 e4
  try simp only
  (repeat' ((fail_if_success (show VH _ _ (.seq (.region 16 _ _) _) _ _ _ _)); first | (show SH _ _ _ _ _ (_ :: _) _ _ _; first | (show SH _ _ _ _ _ (⟨_, .move _, _, _, _, _⟩ :: _) _ _ _; refine mov evL ?_) | (show SH _ _ _ _ _ (⟨_, .assign _, _, _, _, _⟩ :: _) _ _ _; refine asg evL ?_) | refine extr rfl rfl ?_ | refine ala rfl (fun b => ?_) | (show SH _ _ _ _ _ (⟨_, .store _ _ _, _, _, _, _⟩ :: _) _ _ _; refine sta rfl rfl rfl spL (by rfl) (by rfl) (by rfl) kpL ?_)) | refine s_nil ?_ | refine kh_normal ?_))
  revert b
  intro bb15
  refine v_norm [(1,_),(7,_),(9,_),(11,_),(12,_),(13,_),(14,_),(15,_),(16,_)] heL (fun g => ?_)
  refine VH.ent (G := [bx b1 24 [.int .i64 0, .int .i64 2, .slice A14 L14.length c14], bx bb13 46 [.int .i64 1, .int .i64 7, .slice y13A ([7, 9] : List Int).length y13ca, .slice y13B ([] : List Inv).length y13cb], kno fun w => Rd w y13A ([7, 9] : List Int) ∧ Rd w y13B ([] : List Inv), knp A14 L14, bx bb15 46 [.int .i64 1, .int .i64 9, .slice y15A ([9] : List Int).length y15ca, .slice y15B ([] : List Inv).length y15cb], kno fun w => Rd w y15A ([9] : List Int) ∧ Rd w y15B ([] : List Inv)]) ?_ enL
  (repeat' (first | (show VH _ _ _ _ _ _ _; first | refine v_seq ?_ | refine r_seq ?_) | (show SH _ _ _ _ _ (_ :: _) _ _ _; first | (show SH _ _ _ _ _ (⟨_, .load _ _, _, _, _, _⟩ :: _) _ _ _; refine lba rfl spL (by rfl) ?_) | (show SH _ _ _ _ _ (⟨_, .call ⟨.value (.func 17), _, _⟩, _, _, _, _⟩ :: _) _ _ _; refine cp (callee := .func 17) rfl (fun w hw => outK_of (r' := ((⟨0, 2, [⟨2, 8, [8], []⟩]⟩ : Hal), 0)) (by rw [hp14]; kernel_rfl) (leaveO_spec 0 2 A14 L14 c14 9 w hz14 (Wd.kp hw spL))) rfl rfl ?_))))
  rintro _ _ ⟨A16, c16, L16, hp16, rfl, rfl⟩
  try simp only at hp16
  have hz16 := szQ_sz hp16 (by decide)
  try simp only
  (repeat' ((fail_if_success (show VH _ _ (.seq (.region 17 _ _) _) _ _ _ _)); first | (show SH _ _ _ _ _ (_ :: _) _ _ _; first | (show SH _ _ _ _ _ (⟨_, .move _, _, _, _, _⟩ :: _) _ _ _; refine mov evL ?_) | (show SH _ _ _ _ _ (⟨_, .assign _, _, _, _, _⟩ :: _) _ _ _; refine asg evL ?_) | refine extr rfl rfl ?_ | (show SH _ _ _ _ _ (⟨_, .store _ _ _, _, _, _, _⟩ :: _) _ _ _; refine sta rfl rfl rfl spL (by rfl) (by rfl) (by rfl) kpL ?_)) | refine s_nil ?_ | refine kh_normal ?_))
  refine v_norm [(1,_),(7,_),(9,_),(11,_),(12,_),(13,_),(14,_),(15,_),(16,_),(17,_)] heL (fun g => ?_)
  refine VH.ent (G := [bx b1 24 [.int .i64 0, .int .i64 2, .slice A16 L16.length c16], bx bb13 46 [.int .i64 1, .int .i64 7, .slice y13A ([7, 9] : List Int).length y13ca, .slice y13B ([] : List Inv).length y13cb], kno fun w => Rd w y13A ([7, 9] : List Int) ∧ Rd w y13B ([] : List Inv), bx bb15 46 [.int .i64 1, .int .i64 9, .slice y15A ([9] : List Int).length y15ca, .slice y15B ([] : List Inv).length y15cb], kno fun w => Rd w y15A ([9] : List Int) ∧ Rd w y15B ([] : List Inv), knp A16 L16]) ?_ enL
  (repeat' (first | (show VH _ _ _ _ _ _ _; first | refine v_seq ?_ | refine r_seq ?_) | (show SH _ _ _ _ _ (_ :: _) _ _ _; first | (show SH _ _ _ _ _ (⟨_, .load _ _, _, _, _, _⟩ :: _) _ _ _; refine lba rfl spL (by rfl) ?_) | (show SH _ _ _ _ _ (⟨_, .call ⟨.value (.func 18), _, _⟩, _, _, _, _⟩ :: _) _ _ _; refine cp (callee := .func 18) rfl (fun w hw => outK_of (r' := ((⟨0, 3, [⟨2, 8, [8], []⟩, ⟨3, 9, [9], []⟩]⟩ : Hal), 0)) (by rw [hp16]; kernel_rfl) (create_spec 0 2 A16 L16 c16 9 w hz16 (Wd.kp hw spL))) rfl rfl ?_))))
  rintro _ _ ⟨A17, c17, L17, hp17, rfl, rfl⟩
  try simp only at hp17
  have hz17 := szQ_sz hp17 (by decide)
  try simp only
  (repeat' ((fail_if_success (show VH _ _ (.seq (.region 18 _ _) _) _ _ _ _)); first | (show SH _ _ _ _ _ (_ :: _) _ _ _; first | (show SH _ _ _ _ _ (⟨_, .move _, _, _, _, _⟩ :: _) _ _ _; refine mov evL ?_) | (show SH _ _ _ _ _ (⟨_, .assign _, _, _, _, _⟩ :: _) _ _ _; refine asg evL ?_) | refine extr rfl rfl ?_ | (show SH _ _ _ _ _ (⟨_, .store _ _ _, _, _, _, _⟩ :: _) _ _ _; refine sta rfl rfl rfl spL (by rfl) (by rfl) (by rfl) kpL ?_)) | refine s_nil ?_ | refine kh_normal ?_))
  refine v_norm [(1,_),(7,_),(9,_),(11,_),(12,_),(13,_),(14,_),(15,_),(16,_),(17,_),(18,_)] heL (fun g => ?_)
  refine VH.ent (G := [bx b1 24 [.int .i64 0, .int .i64 3, .slice A17 L17.length c17], bx bb13 46 [.int .i64 1, .int .i64 7, .slice y13A ([7, 9] : List Int).length y13ca, .slice y13B ([] : List Inv).length y13cb], kno fun w => Rd w y13A ([7, 9] : List Int) ∧ Rd w y13B ([] : List Inv), bx bb15 46 [.int .i64 1, .int .i64 9, .slice y15A ([9] : List Int).length y15ca, .slice y15B ([] : List Inv).length y15cb], kno fun w => Rd w y15A ([9] : List Int) ∧ Rd w y15B ([] : List Inv), knp A17 L17]) ?_ enL
  (repeat' (first | (show VH _ _ _ _ _ _ _; first | refine v_seq ?_ | refine r_seq ?_) | (show SH _ _ _ _ _ (_ :: _) _ _ _; first | (show SH _ _ _ _ _ (⟨_, .load _ _, _, _, _, _⟩ :: _) _ _ _; refine lba rfl spL (by rfl) ?_) | (show SH _ _ _ _ _ (⟨_, .call ⟨.value (.func 15), _, _⟩, _, _, _, _⟩ :: _) _ _ _; refine cp (callee := .func 15) rfl (fun w hw => outK_of (r' := ((⟨0, 3, [⟨2, 8, [8], []⟩, ⟨3, 9, [9], [⟨1, 600⟩]⟩]⟩ : Hal), 0)) (by rw [hp17]; kernel_rfl) (invited_spec 0 3 A17 L17 c17 9 1 w hz17 (Wd.kp hw spL))) rfl rfl ?_))))
  rintro _ _ ⟨A18, c18, L18, hp18, rfl, rfl⟩
  try simp only at hp18
  have hz18 := szQ_sz hp18 (by decide)
  try simp only
  (repeat' ((fail_if_success (show VH _ _ (.seq (.region 19 _ _) _) _ _ _ _)); first | (show SH _ _ _ _ _ (_ :: _) _ _ _; first | (show SH _ _ _ _ _ (⟨_, .move _, _, _, _, _⟩ :: _) _ _ _; refine mov evL ?_) | (show SH _ _ _ _ _ (⟨_, .assign _, _, _, _, _⟩ :: _) _ _ _; refine asg evL ?_) | refine extr rfl rfl ?_ | (show SH _ _ _ _ _ (⟨_, .store _ _ _, _, _, _, _⟩ :: _) _ _ _; refine sta rfl rfl rfl spL (by rfl) (by rfl) (by rfl) kpL ?_)) | refine s_nil ?_ | refine kh_normal ?_))
  refine v_norm [(1,_),(7,_),(9,_),(11,_),(12,_),(13,_),(14,_),(15,_),(16,_),(17,_),(18,_),(19,_)] heL (fun g => ?_)
  refine VH.ent (G := [bx b1 24 [.int .i64 0, .int .i64 3, .slice A18 L18.length c18], bx bb13 46 [.int .i64 1, .int .i64 7, .slice y13A ([7, 9] : List Int).length y13ca, .slice y13B ([] : List Inv).length y13cb], kno fun w => Rd w y13A ([7, 9] : List Int) ∧ Rd w y13B ([] : List Inv), bx bb15 46 [.int .i64 1, .int .i64 9, .slice y15A ([9] : List Int).length y15ca, .slice y15B ([] : List Inv).length y15cb], kno fun w => Rd w y15A ([9] : List Int) ∧ Rd w y15B ([] : List Inv), knp A18 L18]) ?_ enL
  (repeat' (first | (show VH _ _ _ _ _ _ _; first | refine v_seq ?_ | refine r_seq ?_) | (show SH _ _ _ _ _ (_ :: _) _ _ _; first | (show SH _ _ _ _ _ (⟨_, .load _ _, _, _, _, _⟩ :: _) _ _ _; refine lba rfl spL (by rfl) ?_) | (show SH _ _ _ _ _ (⟨_, .call ⟨.value (.func 15), _, _⟩, _, _, _, _⟩ :: _) _ _ _; refine cp (callee := .func 15) rfl (fun w hw => outK_of (r' := ((⟨0, 3, [⟨2, 8, [8], []⟩, ⟨3, 9, [9], [⟨1, 600⟩, ⟨2, 600⟩]⟩]⟩ : Hal), 0)) (by rw [hp18]; kernel_rfl) (invited_spec 0 3 A18 L18 c18 9 2 w hz18 (Wd.kp hw spL))) rfl rfl ?_))))
  rintro _ _ ⟨A19, c19, L19, hp19, rfl, rfl⟩
  try simp only at hp19
  have hz19 := szQ_sz hp19 (by decide)
  try simp only
  (repeat' ((fail_if_success (show VH _ _ (.seq (.region 20 _ _) _) _ _ _ _)); first | (show SH _ _ _ _ _ (_ :: _) _ _ _; first | (show SH _ _ _ _ _ (⟨_, .move _, _, _, _, _⟩ :: _) _ _ _; refine mov evL ?_) | (show SH _ _ _ _ _ (⟨_, .assign _, _, _, _, _⟩ :: _) _ _ _; refine asg evL ?_) | refine extr rfl rfl ?_ | (show SH _ _ _ _ _ (⟨_, .store _ _ _, _, _, _, _⟩ :: _) _ _ _; refine sta rfl rfl rfl spL (by rfl) (by rfl) (by rfl) kpL ?_)) | refine s_nil ?_ | refine kh_normal ?_))
  refine v_norm [(1,_),(7,_),(9,_),(11,_),(12,_),(13,_),(14,_),(15,_),(16,_),(17,_),(18,_),(19,_),(20,_)] heL (fun g => ?_)
  refine VH.ent (G := [bx b1 24 [.int .i64 0, .int .i64 3, .slice A19 L19.length c19], bx bb13 46 [.int .i64 1, .int .i64 7, .slice y13A ([7, 9] : List Int).length y13ca, .slice y13B ([] : List Inv).length y13cb], kno fun w => Rd w y13A ([7, 9] : List Int) ∧ Rd w y13B ([] : List Inv), bx bb15 46 [.int .i64 1, .int .i64 9, .slice y15A ([9] : List Int).length y15ca, .slice y15B ([] : List Inv).length y15cb], kno fun w => Rd w y15A ([9] : List Int) ∧ Rd w y15B ([] : List Inv), knp A19 L19]) ?_ enL
  (repeat' (first | (show VH _ _ _ _ _ _ _; first | refine v_seq ?_ | refine r_seq ?_) | (show SH _ _ _ _ _ (_ :: _) _ _ _; first | (show SH _ _ _ _ _ (⟨_, .load _ _, _, _, _, _⟩ :: _) _ _ _; refine lba rfl spL (by rfl) ?_) | (show SH _ _ _ _ _ (⟨_, .call ⟨.value (.func 19), _, _⟩, _, _, _, _⟩ :: _) _ _ _; refine cp (callee := .func 19) rfl (fun w hw => outK_of (r' := ((⟨599, 3, [⟨2, 8, [8], []⟩, ⟨3, 9, [9], [⟨1, 600⟩, ⟨2, 600⟩]⟩]⟩ : Hal), 0)) (by rw [hp19]; kernel_rfl) (advance_spec 0 3 A19 L19 c19 599 w hz19 (Wd.kp hw spL))) rfl rfl ?_))))
  rintro _ _ ⟨A20, c20, L20, hp20, rfl, rfl⟩
  try simp only at hp20
  have hz20 := szQ_sz hp20 (by decide)
  try simp only
  (repeat' ((fail_if_success (show VH _ _ (.seq (.region 21 _ _) _) _ _ _ _)); first | (show SH _ _ _ _ _ (_ :: _) _ _ _; first | (show SH _ _ _ _ _ (⟨_, .move _, _, _, _, _⟩ :: _) _ _ _; refine mov evL ?_) | (show SH _ _ _ _ _ (⟨_, .assign _, _, _, _, _⟩ :: _) _ _ _; refine asg evL ?_) | refine extr rfl rfl ?_ | refine ala rfl (fun b => ?_) | (show SH _ _ _ _ _ (⟨_, .store _ _ _, _, _, _, _⟩ :: _) _ _ _; refine sta rfl rfl rfl spL (by rfl) (by rfl) (by rfl) kpL ?_)) | refine s_nil ?_ | refine kh_normal ?_))
  revert b
  intro bb20
  refine v_norm [(1,_),(7,_),(9,_),(11,_),(12,_),(13,_),(14,_),(15,_),(16,_),(17,_),(18,_),(19,_),(20,_),(21,_),(22,_)] heL (fun g => ?_)
  refine VH.ent (G := [bx b1 24 [.int .i64 0, .int .i64 3, .slice A19 L19.length c19], bx bb13 46 [.int .i64 1, .int .i64 7, .slice y13A ([7, 9] : List Int).length y13ca, .slice y13B ([] : List Inv).length y13cb], kno fun w => Rd w y13A ([7, 9] : List Int) ∧ Rd w y13B ([] : List Inv), bx bb15 46 [.int .i64 1, .int .i64 9, .slice y15A ([9] : List Int).length y15ca, .slice y15B ([] : List Inv).length y15cb], kno fun w => Rd w y15A ([9] : List Int) ∧ Rd w y15B ([] : List Inv), knp A19 L19, bx bb20 24 [.int .i64 599, .int .i64 3, .slice A20 L20.length c20], knp A20 L20]) ?_ enL
  (repeat' (first | (show VH _ _ _ _ _ _ _; first | refine v_seq ?_ | refine r_seq ?_) | (show SH _ _ _ _ _ (_ :: _) _ _ _; first | (show SH _ _ _ _ _ (⟨_, .load _ _, _, _, _, _⟩ :: _) _ _ _; refine lba rfl spL (by rfl) ?_) | (show SH _ _ _ _ _ (⟨_, .call ⟨.value (.func 14), _, _⟩, _, _, _, _⟩ :: _) _ _ _; refine cp (callee := .func 14) rfl (fun w hw => outK_of (r' := ((⟨599, 3, [⟨2, 8, [8], []⟩, ⟨3, 9, [9, 1], [⟨2, 600⟩]⟩]⟩ : Hal), 0)) (by rw [hp20]; kernel_rfl) (accept_spec 599 3 A20 L20 c20 1 3 w hz20 (Wd.kp hw spL))) rfl rfl ?_))))
  rintro _ _ ⟨A21, c21, L21, hp21, rfl, rfl⟩
  try simp only
  (repeat' ((fail_if_success (show VH _ _ (.seq (.region 22 _ _) _) _ _ _ _)); first | (show SH _ _ _ _ _ (_ :: _) _ _ _; first | (show SH _ _ _ _ _ (⟨_, .move _, _, _, _, _⟩ :: _) _ _ _; refine mov evL ?_) | (show SH _ _ _ _ _ (⟨_, .assign _, _, _, _, _⟩ :: _) _ _ _; refine asg evL ?_) | refine extr rfl rfl ?_ | refine ala rfl (fun b => ?_) | (show SH _ _ _ _ _ (⟨_, .store _ _ _, _, _, _, _⟩ :: _) _ _ _; refine sta rfl rfl rfl spL (by rfl) (by rfl) (by rfl) kpL ?_)) | refine s_nil ?_ | refine kh_normal ?_))
  refine v_norm [(1,_),(7,_),(9,_),(11,_),(12,_),(13,_),(14,_),(15,_),(16,_),(17,_),(18,_),(19,_),(20,_),(21,_),(22,_),(24,_)] heL (fun g => ?_)
  refine VH.ent (G := [bx b1 24 [.int .i64 0, .int .i64 3, .slice A19 L19.length c19], bx bb13 46 [.int .i64 1, .int .i64 7, .slice y13A ([7, 9] : List Int).length y13ca, .slice y13B ([] : List Inv).length y13cb], kno fun w => Rd w y13A ([7, 9] : List Int) ∧ Rd w y13B ([] : List Inv), bx bb15 46 [.int .i64 1, .int .i64 9, .slice y15A ([9] : List Int).length y15ca, .slice y15B ([] : List Inv).length y15cb], kno fun w => Rd w y15A ([9] : List Int) ∧ Rd w y15B ([] : List Inv), knp A19 L19, bx bb20 24 [.int .i64 599, .int .i64 3, .slice A20 L20.length c20], knp A20 L20]) ?_ enL
  (repeat' (first | (show VH _ _ _ _ _ _ _; first | refine v_seq ?_ | refine r_seq ?_) | (show SH _ _ _ _ _ (_ :: _) _ _ _; first | (show SH _ _ _ _ _ (⟨_, .load _ _, _, _, _, _⟩ :: _) _ _ _; refine lba rfl spL (by rfl) ?_) | (show SH _ _ _ _ _ (⟨_, .call ⟨.value (.func 19), _, _⟩, _, _, _, _⟩ :: _) _ _ _; refine cp (callee := .func 19) rfl (fun w hw => outK_of (r' := ((⟨600, 3, [⟨2, 8, [8], []⟩, ⟨3, 9, [9], []⟩]⟩ : Hal), 0)) (by rw [hp19]; kernel_rfl) (advance_spec 0 3 A19 L19 c19 600 w hz19 (Wd.kp hw spL))) rfl rfl ?_))))
  rintro _ _ ⟨A22, c22, L22, hp22, rfl, rfl⟩
  try simp only at hp22
  have hz22 := szQ_sz hp22 (by decide)
  try simp only
  (repeat' ((fail_if_success (show VH _ _ (.seq (.region 23 _ _) _) _ _ _ _)); first | (show SH _ _ _ _ _ (_ :: _) _ _ _; first | (show SH _ _ _ _ _ (⟨_, .move _, _, _, _, _⟩ :: _) _ _ _; refine mov evL ?_) | (show SH _ _ _ _ _ (⟨_, .assign _, _, _, _, _⟩ :: _) _ _ _; refine asg evL ?_) | refine extr rfl rfl ?_ | refine ala rfl (fun b => ?_) | (show SH _ _ _ _ _ (⟨_, .store _ _ _, _, _, _, _⟩ :: _) _ _ _; refine sta rfl rfl rfl spL (by rfl) (by rfl) (by rfl) kpL ?_)) | refine s_nil ?_ | refine kh_normal ?_))
  revert b
  intro bb22
  refine v_norm [(1,_),(7,_),(9,_),(11,_),(12,_),(13,_),(14,_),(15,_),(16,_),(17,_),(18,_),(19,_),(20,_),(21,_),(22,_),(24,_),(25,_),(26,_)] heL (fun g => ?_)
  refine VH.ent (G := [bx b1 24 [.int .i64 0, .int .i64 3, .slice A19 L19.length c19], bx bb13 46 [.int .i64 1, .int .i64 7, .slice y13A ([7, 9] : List Int).length y13ca, .slice y13B ([] : List Inv).length y13cb], kno fun w => Rd w y13A ([7, 9] : List Int) ∧ Rd w y13B ([] : List Inv), bx bb15 46 [.int .i64 1, .int .i64 9, .slice y15A ([9] : List Int).length y15ca, .slice y15B ([] : List Inv).length y15cb], kno fun w => Rd w y15A ([9] : List Int) ∧ Rd w y15B ([] : List Inv), knp A19 L19, bx bb20 24 [.int .i64 599, .int .i64 3, .slice A20 L20.length c20], knp A20 L20, bx bb22 24 [.int .i64 600, .int .i64 3, .slice A22 L22.length c22], knp A22 L22]) ?_ enL
  (repeat' (first | (show VH _ _ _ _ _ _ _; first | refine v_seq ?_ | refine r_seq ?_) | (show SH _ _ _ _ _ (_ :: _) _ _ _; first | (show SH _ _ _ _ _ (⟨_, .load _ _, _, _, _, _⟩ :: _) _ _ _; refine lba rfl spL (by rfl) ?_) | (show SH _ _ _ _ _ (⟨_, .call ⟨.value (.func 14), _, _⟩, _, _, _, _⟩ :: _) _ _ _; refine cp (callee := .func 14) rfl (fun w hw => outK_of (r' := (hal0, 6)) (by rw [hp22]; kernel_rfl) (accept_spec 600 3 A22 L22 c22 1 3 w hz22 (Wd.kp hw spL))) rfl rfl ?_))))
  rintro _ _ ⟨A23, c23, L23, hp23, rfl, rfl⟩
  try simp only
  (repeat' ((fail_if_success (show VH _ _ (.seq (.region 24 _ _) _) _ _ _ _)); first | refine v_seq ?_ | (show SH _ _ _ _ _ (_ :: _) _ _ _; first | (show SH _ _ _ _ _ (⟨_, .move _, _, _, _, _⟩ :: _) _ _ _; refine mov evL ?_) | (show SH _ _ _ _ _ (⟨_, .assign _, _, _, _, _⟩ :: _) _ _ _; refine asg evL ?_) | refine extr rfl rfl ?_ | refine ala rfl (fun b => ?_) | (show SH _ _ _ _ _ (⟨_, .store _ _ _, _, _, _, _⟩ :: _) _ _ _; refine sta rfl rfl rfl spL (by rfl) (by rfl) (by rfl) kpL ?_)) | refine s_nil ?_ | refine kh_normal ?_))
  refine v_norm [(1,_),(7,_),(9,_),(11,_),(12,_),(13,_),(14,_),(15,_),(16,_),(17,_),(18,_),(19,_),(20,_),(21,_),(22,_),(24,_),(25,_),(26,_),(28,_)] heL (fun g => ?_)
  refine VH.ent (G := [bx b1 24 [.int .i64 0, .int .i64 3, .slice A19 L19.length c19], bx bb13 46 [.int .i64 1, .int .i64 7, .slice y13A ([7, 9] : List Int).length y13ca, .slice y13B ([] : List Inv).length y13cb], kno fun w => Rd w y13A ([7, 9] : List Int) ∧ Rd w y13B ([] : List Inv), bx bb15 46 [.int .i64 1, .int .i64 9, .slice y15A ([9] : List Int).length y15ca, .slice y15B ([] : List Inv).length y15cb], kno fun w => Rd w y15A ([9] : List Int) ∧ Rd w y15B ([] : List Inv), knp A19 L19, bx bb20 24 [.int .i64 599, .int .i64 3, .slice A20 L20.length c20], knp A20 L20, bx bb22 24 [.int .i64 600, .int .i64 3, .slice A22 L22.length c22], knp A22 L22]) ?_ enL
  have hva : validHal ⟨0, 3, ptys L19⟩ = true := by rw [hp19]; kernel_rfl
  have hvs := fun w hr => hva ▸ valid_spec 0 3 A19 L19 c19 w hz19 hr
  have hsh : shareM ⟨599, 3, ptys L20⟩ 3 11 = ([11], 0) := by rw [hp20]; kernel_rfl
  have hss := fun w hr => share_spec 599 3 A20 L20 c20 3 11 w hz20 hr
  rw [hsh] at hss
  clear hva hsh
  (repeat' (first | (show VH _ _ _ _ _ _ _; first | refine v_seq ?_ | refine r_seq ?_ | refine v_skip ?_ | refine v_cond_f rfl tbL ?_) | (show SH _ _ _ _ _ (_ :: _) _ _ _; first | (show SH _ _ _ _ _ (⟨_, _, _, _, _, some _⟩ :: _) _ _ _; (refine gif rfl rfl ?_; refine giFF tbL ?_)) | (show SH _ _ _ _ _ (⟨_, .move _, _, _, _, _⟩ :: _) _ _ _; refine mov evL ?_) | (show SH _ _ _ _ _ (⟨_, .binOp .neq _ _ _ _, _, _, _, _⟩ :: _) _ _ _; refine neqF rfl rfl omD ?_) | (show SH _ _ _ _ _ (⟨_, .binOp .add _ _ _ _, _, _, _, _⟩ :: _) _ _ _; refine add rfl rfl inL ?_) | (show SH _ _ _ _ _ (⟨_, .load _ _, _, _, _, _⟩ :: _) _ _ _; refine lba rfl spL (by rfl) ?_) | (show SH _ _ _ _ _ (⟨_, .call ⟨.value (.func 8), _, _⟩, _, _, _, _⟩ :: _) _ _ _; refine cl (callee := .func 8) rfl (fun w hw => hvs w (Wd.kp hw spL)) rfl rfl ?_) | (show SH _ _ _ _ _ (⟨_, .call ⟨.value (.func 20), _, _⟩, _, _, _, _⟩ :: _) _ _ _; refine cp (callee := .func 20) rfl (fun w hw => hss w (Wd.kp hw spL)) rfl rfl ?_) | refine bnoT rfl ?_ | (show SH _ _ _ _ _ (⟨_, .pick _ _ _, _, _, _, _⟩ :: _) _ _ _; refine pkf rfl tbL evL ?_)) | refine s_nil ?_ | refine kh_normal ?_))
  rintro _ _ ⟨AS, cS, rfl, rfl⟩
  try simp only
  have hs1 := fun (B : Option Addr) (d : Nat) w h1 h2 => sameInts_spec y13A B [7, 9] [7, 9] y13ca d w (by decide) (by decide) h1 h2
  have hs2 := fun (B : Option Addr) (d : Nat) w h1 h2 => sameInts_spec AS B [11] [11] cS d w (by decide) (by decide) h1 h2
  simp only [decide_true] at hs1 hs2
  (repeat' (first | (show VH _ _ _ _ _ _ _; first | refine v_seq ?_ | refine r_seq ?_ | refine v_ret ?_) | (show SH _ _ _ _ _ (_ :: _) _ _ _; first | (show SH _ _ _ _ _ (⟨_, _, _, _, _, some _⟩ :: _) _ _ _; (refine gif rfl rfl ?_; refine giTT tbL ?_)) | (show SH _ _ _ _ _ (⟨_, .move _, _, _, _, _⟩ :: _) _ _ _; refine mov evL ?_) | (show SH _ _ _ _ _ (⟨_, .assign _, _, _, _, _⟩ :: _) _ _ _; refine asg evL ?_) | (show SH _ _ _ _ _ (⟨_, .binOp .eql _ _ _ _, _, _, _, _⟩ :: _) _ _ _; first | refine eqlT rfl rfl omD ?_ | refine eql rfl rfl ?_) | (show SH _ _ _ _ _ (⟨_, .load _ _, _, _, _, _⟩ :: _) _ _ _; refine lbx rfl spL (by rfl) ?_) | refine slen rfl ?_ | (show SH _ _ _ _ _ (⟨_, .call ⟨.value (.func 21), _, _⟩, _, _, _, _⟩ :: _) _ _ _; refine cl (callee := .func 21) rfl (fun w hw => hs1 _ _ w (Wd.kn hw (Φ := fun w => Rd w y13A [7, 9] ∧ Rd w y13B []) spL).1 (hw.rd spL)) rfl rfl ?_) | (show SH _ _ _ _ _ (⟨_, .call ⟨.value (.func 21), _, _⟩, _, _, _, _⟩ :: _) _ _ _; refine cl (callee := .func 21) rfl (fun w hw => hs2 _ _ w (hw.rd spL) (hw.rd spL)) rfl rfl ?_) | (show SH _ _ _ _ _ (⟨_, .pick _ _ _, _, _, _, _⟩ :: _) _ _ _; refine pkt rfl tbL evL ?_) | refine extr rfl rfl ?_ | refine fad rfl ?_ | (show SH _ _ _ _ _ (⟨_, .buildSlice _ _ _, _, _, _, _⟩ :: _) _ _ _; refine bsl (α := Int) rfl rfl (by repeat (first | exact Vals.nil | (apply Vals.cons; rfl))) rfl (by rfl) (by decide) (fun b => ?_))) | refine s_nil ?_ | refine kh_normal ?_))
  exact rh1 rfl rfl ⟨rfl, rfl⟩ (ent_nil _)
end Go.Proofs.YtlfbcoohfnoacaaGreat

/- Layer 36 (party): small facts on halls in memory. -/
namespace Go.Proofs.YtlfbcoohfnoacaaGreat
open Go.Fw Go.RowKit
theorem szP_val {h : Hal} (hv : VHal h) {L : List PtyP} (hp : ptys L = h.ps) : SzP L := by
  have key : ∀ x ∈ L, x.p ∈ h.ps := fun x hx => by rw [← hp]; exact List.mem_map_of_mem hx
  refine ⟨?_, fun x hx => ?_, fun x hx => ?_⟩
  · have := congrArg List.length hp
    rw [ptys_len] at this
    have := hv.len; omega
  · have := (hv.ok _ (key x hx)).2.2.1; omega
  · have := (hv.ok _ (key x hx)).2.2.1; omega
/-- A hall that came out of a thing that was done. -/
theorem szP_do {h : Hal} {kind a b : Int} {L : List PtyP} (hp : ptys L = (doR h kind a b).1.ps) : SzP L := by
  rcases do_fol h (kind % 9).toNat a b with ⟨_, h2⟩ | ⟨_, _, h3⟩
  · unfold doR at hp
    rw [h2] at hp
    exact szQ_sz hp (by decide)
  · exact szP_val h3.valid hp
end Go.Proofs.YtlfbcoohfnoacaaGreat

/- Layer 36 (party): the reference's halls: what is known of one hall goes on to the next. -/
namespace Go.Proofs.YtlfbcoohfnoacaaGreat
open Go.Fw Go.RowKit
theorem rdK {p : Prop} (h : p := by first | exact rd_via (by assumption) (by assumption) | exact rd_thk (by assumption) (by assumption) spL | exact Wd.rd (by assumption) spL | exact Wd.rd1 (by assumption) spL | exact Wd.rd2 (by assumption) spL) : p := h
/-- A hall that comes out of the reference, and an error: of its memory it is known what was known ahead, and the hall itself. -/
def RefC (Φ : World → Prop) (H : List HP) (r : ResP) (v : Value) (H' : List HP) : Prop := ∃ A c M, ptys M = r.1.ps ∧ M.length ≤ c ∧ v = .tuple #[hv36 r.1.tick r.1.last A M c, .int .i64 r.2] ∧ H' = kno (fun w => Φ w ∧ RdP w A M) :: H
/-- The same, without an error. -/
def RefH (Φ : World → Prop) (H : List HP) (t la : Int) (ps : List Pty) (v : Value) (H' : List HP) : Prop := ∃ A c M, ptys M = ps ∧ M.length ≤ c ∧ v = hv36 t la A M c ∧ H' = kno (fun w => Φ w ∧ RdP w A M) :: H
section
variable {Φ : World → Prop} {G : List HP} {A : Option Addr} {c : Nat} {L M : List PtyP}
/-- A new row of parties, of which each is known. -/
theorem ent_ref_row {e : TypeId} (h : ∀ w, Φ w → ∀ x ∈ M, Rd w x.A x.p.mem ∧ Rd w x.B x.p.inv) : Ent (orow e A c M :: kno Φ :: G) (kno (fun w => Φ w ∧ RdP w A M) :: G) :=
  (ent_kno_row Split.head (ent_refl _)).trans (ent_kno_and.trans (ent_kno_imp (fun w h2 => ⟨h2.2, h2.1, h w h2.2⟩) Split.head (ent_refl _)))
/-- The same, where invitations of a row of their own come in. -/
theorem ent_ref_inv {e ei : TypeId} {B : Option Addr} {d : Nat} {l : List Inv} (h : ∀ w, Φ w → Rd w B l → ∀ x ∈ M, Rd w x.A x.p.mem ∧ Rd w x.B x.p.inv) : Ent (orow e A c M :: orow ei B d l :: kno Φ :: G) (kno (fun w => Φ w ∧ RdP w A M) :: G) :=
  (ent_cons Split.head ((ent_kno_row Split.head (ent_refl _)).trans ent_kno_and)).trans ((ent_kno_row Split.head (ent_refl _)).trans (ent_kno_and.trans (ent_kno_imp (fun w h2 => ⟨h2.2.2, h2.1, h w h2.2.2 h2.2.1⟩) Split.head (ent_refl _))))
/-- The same with members. -/
theorem ent_ref_mem {e em : TypeId} {B : Option Addr} {d : Nat} {l : List Int} (h : ∀ w, Φ w → Rd w B l → ∀ x ∈ M, Rd w x.A x.p.mem ∧ Rd w x.B x.p.inv) : Ent (orow e A c M :: orow em B d l :: kno Φ :: G) (kno (fun w => Φ w ∧ RdP w A M) :: G) :=
  (ent_cons Split.head ((ent_kno_row Split.head (ent_refl _)).trans ent_kno_and)).trans ((ent_kno_row Split.head (ent_refl _)).trans (ent_kno_and.trans (ent_kno_imp (fun w h2 => ⟨h2.2.2, h2.1, h w h2.2.2 h2.2.1⟩) Split.head (ent_refl _))))
/-- What was known ahead is left away. -/
theorem ent_ref_fwd {Ψ : World → Prop} (h : ∀ w, Φ w → Ψ w) : Ent (kno Φ :: G) (kno Ψ :: G) := ent_kno_imp h Split.head (ent_refl _)
end
/-- A new row holds at least its list. -/
theorem ret_cap {α : Type} [Flat α] {P : Program} {g : FuncId} {args : Array Value} {w : World} {e : TypeId} {V : Option Addr → Nat → Value} {M : List α}
    (h : Ret P g args w (RP w fun v H' => ∃ A' c', v = V A' c' ∧ H' = [orow e A' c' M])) :
    Ret P g args w (RP w fun v H' => ∃ A' c', M.length ≤ c' ∧ v = V A' c' ∧ H' = [orow e A' c' M]) :=
  h.mono fun v w' ⟨H', ⟨A', c', h1, h2⟩, hw⟩ => ⟨H', ⟨A', c', by subst h2; exact (own_cap (hw.own Split.head)).1, h1, h2⟩, hw⟩
theorem rdP_nil (w : World) : RdP w none [] := ⟨Rd.nil _ none, fun x h => by simp at h⟩
theorem refC0 {Φ : World → Prop} {H : List HP} {e : Int} : RefC Φ H (hal0, e) (.tuple #[.agg #[.int .i64 0, .int .i64 0, .slice none 0 0], .int .i64 e]) (kno (fun w => Φ w ∧ RdP w none []) :: H) := ⟨none, 0, [], rfl, Nat.le_refl _, rfl, rfl⟩
theorem ent_ref0 {Φ : World → Prop} {G : List HP} : Ent (kno Φ :: G) (kno (fun w => Φ w ∧ RdP w none []) :: G) := ent_ref_fwd fun w h => ⟨h, rdP_nil w⟩
end Go.Proofs.YtlfbcoohfnoacaaGreat

