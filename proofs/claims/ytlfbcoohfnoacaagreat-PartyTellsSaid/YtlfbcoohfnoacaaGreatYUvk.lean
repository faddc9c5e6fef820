/- Package party: Leave, Kick, Promote, Disband. -/
import Derived.Test.YtlfbcoohfnoacaaGreatYTwp
import Derived.Test.YtlfbcoohfnoacaaGreatYMp
import Derived.Test.YtlfbcoohfnoacaaGreatYWz
import Derived.Test.YtlfbcoohfnoacaaGreatYUvj
set_option linter.unusedSimpArgs false
set_option linter.unusedVariables false
namespace Go.Proofs.YtlfbcoohfnoacaaGreat
open Go.Fw Go.RowKit
def leaR (t la : Int) (ps : List Pty) (who : Int) : ResP :=
  match findM who ps with
  | none => (hal0, 6)
  | some k => (⟨t, la, leaveP ps k who⟩, 0)
theorem leaR0 (t la : Int) (ps : List Pty) (who : Int) : (leaR t la ps who).2 ≠ 0 → (leaR t la ps who).1 = hal0 := by
  unfold leaR
  cases findM who ps with
  | none => intro _; rfl
  | some k => intro h; exact absurd rfl h
set_option maxHeartbeats 1000000 in
set_option maxRecDepth 100000 in
theorem lea1_spec (t la : Int) (L0 : List PtyP) (who : Int) (a1 : Addr) (w : World) (hn : (allM (ptys L0)).Nodup) (h1 : w.cell? a1 = some (.int .i64 who)) : Acts w t la L0 52 #[] #[.pointer (some a1)] (leaR t la (ptys L0) who) := by
  refine acts_of (cap := [.pointer (some a1)]) fun w' bh A c L H hz hp hw => ?_
  have hg := places_find (ptys L0) who hn
  rw [← hp] at hg ⊢
  unfold leaR
  cases hfd : findM who (ptys L) with
  | none =>
    rw [hfd] at hg
    simp only at hg ⊢
    refine enterH Tryz.func52 rfl rfl Tryz.ntmps52 rfl (by assumption) ?_
    (repeat' (first | (show VH _ _ _ _ _ _ _; first | refine v_seq ?_ | refine r_seq ?_) | (show SH _ _ _ _ _ (_ :: _) _ _ _; (show SH _ _ _ _ _ (⟨_, .assign _, _, _, _, _⟩ :: _) _ _ _; refine asg evL ?_)) | refine s_nil ?_ | refine kh_normal ?_))
    refine r_heldT [hb36 bh t la A L c] (tr [(0, true), (1, true), (2, true), (4, true), (3, false), (5, false), (6, false)] .nil) hmix (by kernel_rfl) enL ?_
    (repeat' ((show SH _ _ _ _ _ (_ :: _) _ _ _; first | (show SH _ _ _ _ _ (⟨_, .move _, _, _, _, _⟩ :: _) _ _ _; refine mov evL ?_) | (show SH _ _ _ _ _ (⟨_, .load _ _, _, _, _, _⟩ :: _) _ _ _; first | refine lba rfl spL (by rfl) ?_ | refine lcell rfl (fun w hw => hw.ext.cell (by assumption)) ?_) | (show SH _ _ _ _ _ (⟨_, .call ⟨.value (.func 23), _, _⟩, _, _, _, _⟩ :: _) _ _ _; refine cp (callee := .func 23) rfl (fun w hw => places_spec t la A L c w hz (rows_rd (c := c) enL hw)) rfl rfl ?_) | refine nlc rfl ?_)))
    rintro _ _ ⟨r, rfl, rfl⟩
    (repeat' (first | (show VH _ _ _ _ _ _ _; first | refine v_seq ?_ | refine r_seq ?_ | refine v_ret ?_ | refine v_cond_t rfl tbL ?_) | (show SH _ _ _ _ _ (_ :: _) _ _ _; first | (show SH _ _ _ _ _ (⟨_, .move _, _, _, _, _⟩ :: _) _ _ _; refine mov evL ?_) | (show SH _ _ _ _ _ (⟨_, .assign _, _, _, _, _⟩ :: _) _ _ _; refine asg evL ?_) | (show SH _ _ _ _ _ (⟨_, .binOp .eql _ _ _ _, _, _, _, _⟩ :: _) _ _ _; refine eqlT rfl rfl omD ?_) | (show SH _ _ _ _ _ (⟨_, .lookup _ _ _ false, _, _, _, _⟩ :: _) _ _ _; refine lkm rfl rfl spL ?_)) | refine s_nil ?_ | refine kh_normal ?_ | refine kh_ret ?_))
    exact rh1 rfl rfl ⟨rfl, rfl⟩ enL
  | some k =>
    rw [hfd] at hg
    simp only at hg ⊢
    have hk := (findM_some _ hfd).1
    rw [ptys_len] at hk
    have hll := hz.len
    refine enterH Tryz.func52 rfl rfl Tryz.ntmps52 rfl (by assumption) ?_
    (repeat' (first | (show VH _ _ _ _ _ _ _; first | refine v_seq ?_ | refine r_seq ?_) | (show SH _ _ _ _ _ (_ :: _) _ _ _; (show SH _ _ _ _ _ (⟨_, .assign _, _, _, _, _⟩ :: _) _ _ _; refine asg evL ?_)) | refine s_nil ?_ | refine kh_normal ?_))
    refine r_heldT [hb36 bh t la A L c] (tr [(0, true), (1, true), (2, true), (4, true), (3, false), (5, false), (6, false)] .nil) hmix (by kernel_rfl) enL ?_
    (repeat' ((show SH _ _ _ _ _ (_ :: _) _ _ _; first | (show SH _ _ _ _ _ (⟨_, .move _, _, _, _, _⟩ :: _) _ _ _; refine mov evL ?_) | (show SH _ _ _ _ _ (⟨_, .load _ _, _, _, _, _⟩ :: _) _ _ _; first | refine lba rfl spL (by rfl) ?_ | refine lcell rfl (fun w hw => hw.ext.cell (by assumption)) ?_) | (show SH _ _ _ _ _ (⟨_, .call ⟨.value (.func 23), _, _⟩, _, _, _, _⟩ :: _) _ _ _; refine cp (callee := .func 23) rfl (fun w hw => places_spec t la A L c w hz (rows_rd (c := c) enL hw)) rfl rfl ?_) | refine nlc rfl ?_)))
    rintro _ _ ⟨rm, rfl, rfl⟩
    generalize placesM (ptys L) = M at hg ⊢
    (repeat' ((fail_if_success (show VH _ _ (.seq (.region 2 _ _) _) _ _ _ _)); first | refine v_seq ?_ | (show SH _ _ _ _ _ (_ :: _) _ _ _; first | (show SH _ _ _ _ _ (⟨_, .assign _, _, _, _, _⟩ :: _) _ _ _; refine asg evL ?_) | (show SH _ _ _ _ _ (⟨_, .lookup _ _ _ false, _, _, _, _⟩ :: _) _ _ _; refine lkm rfl rfl spL ?_)) | refine s_nil ?_ | refine kh_normal ?_))
    rw [hg]
    (repeat' (first | (show VH _ _ _ _ _ _ _; first | refine v_seq ?_ | refine r_seq ?_ | refine v_skip ?_ | refine v_cond_f rfl tbL ?_) | (show SH _ _ _ _ _ (_ :: _) _ _ _; first | (show SH _ _ _ _ _ (⟨_, .move _, _, _, _, _⟩ :: _) _ _ _; refine mov evL ?_) | (show SH _ _ _ _ _ (⟨_, .binOp .eql _ _ _ _, _, _, _, _⟩ :: _) _ _ _; refine eqlF rfl rfl omD ?_) | (show SH _ _ _ _ _ (⟨_, .binOp .sub _ _ _ _, _, _, _, _⟩ :: _) _ _ _; refine sub rfl rfl inL ?_) | (show SH _ _ _ _ _ (⟨_, .load _ _, _, _, _, _⟩ :: _) _ _ _; refine lcell rfl (fun w hw => hw.ext.cell (by assumption)) ?_)) | refine s_nil ?_ | refine kh_normal ?_))
    rw [show (k : Int) + 1 - 1 = k by omega]
    refine cm rfl (fun w2 hw2 => leave_spec t la A L c bh k who w H w2 hk hz (Ent.wd enL hw2)) rfl rfl ?_
    rintro _ _ ⟨L', hp', rfl⟩
    refine ⟨trivial, ?_⟩
    (repeat' (first | (show VH _ _ _ _ _ _ _; first | refine v_seq ?_ | refine r_seq ?_ | refine v_ret ?_) | (show SH _ _ _ _ _ (_ :: _) _ _ _; (show SH _ _ _ _ _ (⟨_, .assign _, _, _, _, _⟩ :: _) _ _ _; refine asg evL ?_)) | refine s_nil ?_ | refine kh_normal ?_))
    exact rh1 rfl rfl ⟨rfl, A, c, L', hp', rfl⟩ (ent_refl _)
set_option maxHeartbeats 1000000 in
set_option maxRecDepth 100000 in
theorem leaveO_spec (t la : Int) (A : Option Addr) (L : List PtyP) (c : Nat) (who : Int) (w : World) (hz : SzP L) (hr : RdP w A L) : Ret Tryz.prog 17 [hv36 t la A L c, .int .i64 who].toArray w (RP w (OutH (leaveM ⟨t, la, ptys L⟩ who))) := by
  rw [show leaveM ⟨t, la, ptys L⟩ who = if validHal ⟨t, la, ptys L⟩ then leaR t la (ptys L) who else (hal0, 2) by unfold leaveM leaR; simp only [leaveAt_eq]; cases findM who (ptys L) <;> rfl]
  refine enterH Tryz.func17 rfl rfl Tryz.ntmps17 rfl (Wd.refl _) ?_
  (repeat' (first | (show VH _ _ _ _ _ _ _; first | refine v_seq ?_ | refine r_seq ?_) | (show SH _ _ _ _ _ (_ :: _) _ _ _; first | (show SH _ _ _ _ _ (⟨_, .assign _, _, _, _, _⟩ :: _) _ _ _; refine asg evL ?_) | (show SH _ _ _ _ _ (⟨_, .load _ _, _, _, _, _⟩ :: _) _ _ _; refine lba rfl spL (by rfl) ?_) | (show SH _ _ _ _ _ (⟨_, .makeFunc _ _ _, _, _, _, _⟩ :: _) _ _ _; refine mf1 evL ?_) | refine ala rfl (fun b => ?_) | (show SH _ _ _ _ _ (⟨_, .box _ _, _, _, _, _⟩ :: _) _ _ _; refine bxx rfl evL rfl (fun b => ?_))) | refine s_nil ?_ | refine kh_normal ?_))
  rename_i b2 b3
  refine cp rfl (fun w2 hw => change_spec t la A L c 52 #[] #[.pointer (some ⟨b3, 0, none⟩)] _ w2 hz (hr.ext hw.ext) (leaR0 _ _ _ _) (fun hv => lea1_spec t la L who _ w2 (valid_iff.1 hv).nd (hw.cell (cs := [.int .i64 who]) spL rfl))) rfl rfl ?_
  rintro _ _ ⟨A1, c1, L1, hp1, rfl, rfl⟩
  (repeat' (first | refine v_ret ?_ | (show SH _ _ _ _ _ (_ :: _) _ _ _; first | (show SH _ _ _ _ _ (⟨_, .assign _, _, _, _, _⟩ :: _) _ _ _; refine asg evL ?_) | refine extr rfl rfl ?_ | (show SH _ _ _ _ _ (⟨_, .store _ _ _, _, _, _, _⟩ :: _) _ _ _; refine sta rfl rfl rfl spL (by rfl) (by rfl) (by rfl) kpL ?_)) | refine s_nil ?_ | refine kh_normal ?_))
  exact rhC2 rfl rfl rfl rfl (fun w hw => loadVar_bx hw spL (by rfl)) ⟨A1, c1, L1, hp1, rfl, rfl⟩ enL
/-! Kick -/
def kickR (t la : Int) (ps : List Pty) (by' who : Int) (k : Nat) : ResP := if findM who ps = some k then (if who = by' then (hal0, 2) else (⟨t, la, leaveP ps k who⟩, 0)) else (hal0, 6)
theorem kickR0 (t la : Int) (ps : List Pty) (by' who : Int) (k : Nat) : (kickR t la ps by' who k).2 ≠ 0 → (kickR t la ps by' who k).1 = hal0 := by
  unfold kickR
  split
  · split
    · intro _; rfl
    · intro h; exact absurd rfl h
  · intro _; rfl
theorem find_at (ps : List Pty) (who : Int) (hn : (allM ps).Nodup) (k : Nat) : mget (placesM ps) who = (k : Int) + 1 ↔ findM who ps = some k := by
  rw [places_find ps who hn]
  cases findM who ps with
  | none => simp; omega
  | some j => simp; omega
set_option maxHeartbeats 1000000 in
set_option maxRecDepth 100000 in
theorem kick1_spec (t la : Int) (L0 : List PtyP) (by' who : Int) (k : Nat) (a1 a2 : Addr) (w : World) (hk0 : k < (ptys L0).length) (hn : (allM (ptys L0)).Nodup) (h1 : w.cell? a1 = some (.int .i64 who)) (h2 : w.cell? a2 = some (.int .i64 by')) : ActsL w t la L0 k 77 #[] #[.pointer (some a1), .pointer (some a2)] (kickR t la (ptys L0) by' who k) := by
  refine actsL_of (cap := [.pointer (some a1), .pointer (some a2)]) fun w' bh A c L H hz hp hw => ?_
  have hg := find_at (ptys L0) who hn k
  rw [← hp] at hg hk0 ⊢
  have hll := hz.len
  have hk : k < L.length := by rw [ptys_len] at hk0; exact hk0
  unfold kickR
  by_cases hfd : findM who (ptys L) = some k
  · rw [if_pos hfd]
    have hg := hg.2 hfd
    by_cases hb : who = by'
    · rw [if_pos hb]
      refine enterH Tryz.func77 rfl rfl Tryz.ntmps77 rfl (by assumption) ?_
      (repeat' (first | (show VH _ _ _ _ _ _ _; first | refine v_seq ?_ | refine r_seq ?_ | refine v_block ?_) | (show SH _ _ _ _ _ (_ :: _) _ _ _; (show SH _ _ _ _ _ (⟨_, .assign _, _, _, _, _⟩ :: _) _ _ _; refine asg evL ?_)) | refine s_nil ?_ | refine kh_normal ?_))
      refine r_heldT [hb36 bh t la A L c] (tr [(0, true), (1, true), (2, true), (4, true), (6, true), (7, true), (3, false), (5, false), (8, false), (9, false)] .nil) hmix (by kernel_rfl) enL ?_
      (repeat' ((show SH _ _ _ _ _ (_ :: _) _ _ _; first | (show SH _ _ _ _ _ (⟨_, .move _, _, _, _, _⟩ :: _) _ _ _; refine mov evL ?_) | (show SH _ _ _ _ _ (⟨_, .binOp .add _ _ _ _, _, _, _, _⟩ :: _) _ _ _; refine add rfl rfl inL ?_) | (show SH _ _ _ _ _ (⟨_, .load _ _, _, _, _, _⟩ :: _) _ _ _; first | refine lba rfl spL (by rfl) ?_ | refine lcell rfl (fun w hw => hw.ext.cell (by assumption)) ?_) | (show SH _ _ _ _ _ (⟨_, .call ⟨.value (.func 23), _, _⟩, _, _, _, _⟩ :: _) _ _ _; refine cp (callee := .func 23) rfl (fun w hw => places_spec t la A L c w hz (rows_rd (c := c) enL hw)) rfl rfl ?_) | refine nlc rfl ?_)))
      rintro _ _ ⟨rm, rfl, rfl⟩
      (repeat' (first | (show VH _ _ _ _ _ _ _; first | refine v_seq ?_ | refine r_seq ?_ | refine v_ret ?_ | refine v_cond_t rfl tbL ?_ | refine v_cond_f rfl tbL ?_) | (show SH _ _ _ _ _ (_ :: _) _ _ _; first | (show SH _ _ _ _ _ (⟨_, .assign _, _, _, _, _⟩ :: _) _ _ _; refine asg evL ?_) | (show SH _ _ _ _ _ (⟨_, .binOp .eql _ _ _ _, _, _, _, _⟩ :: _) _ _ _; refine eqlT rfl rfl omD ?_) | (show SH _ _ _ _ _ (⟨_, .binOp .neq _ _ _ _, _, _, _, _⟩ :: _) _ _ _; refine neqF rfl rfl omD ?_) | (show SH _ _ _ _ _ (⟨_, .load _ _, _, _, _, _⟩ :: _) _ _ _; refine lcell rfl (fun w hw => hw.ext.cell (by assumption)) ?_) | (show SH _ _ _ _ _ (⟨_, .lookup _ _ _ false, _, _, _, _⟩ :: _) _ _ _; refine lkm rfl rfl spL ?_)) | refine s_nil ?_ | refine kh_normal ?_ | refine kh_ret ?_ | refine bh_ret ?_))
      exact rh1 rfl rfl ⟨rfl, rfl⟩ enL
    · rw [if_neg hb]
      refine enterH Tryz.func77 rfl rfl Tryz.ntmps77 rfl (by assumption) ?_
      (repeat' (first | (show VH _ _ _ _ _ _ _; first | refine v_seq ?_ | refine r_seq ?_ | refine v_block ?_) | (show SH _ _ _ _ _ (_ :: _) _ _ _; (show SH _ _ _ _ _ (⟨_, .assign _, _, _, _, _⟩ :: _) _ _ _; refine asg evL ?_)) | refine s_nil ?_ | refine kh_normal ?_))
      refine r_heldT [hb36 bh t la A L c] (tr [(0, true), (1, true), (2, true), (4, true), (6, true), (7, true), (3, false), (5, false), (8, false), (9, false)] .nil) hmix (by kernel_rfl) enL ?_
      (repeat' ((show SH _ _ _ _ _ (_ :: _) _ _ _; first | (show SH _ _ _ _ _ (⟨_, .move _, _, _, _, _⟩ :: _) _ _ _; refine mov evL ?_) | (show SH _ _ _ _ _ (⟨_, .binOp .add _ _ _ _, _, _, _, _⟩ :: _) _ _ _; refine add rfl rfl inL ?_) | (show SH _ _ _ _ _ (⟨_, .load _ _, _, _, _, _⟩ :: _) _ _ _; first | refine lba rfl spL (by rfl) ?_ | refine lcell rfl (fun w hw => hw.ext.cell (by assumption)) ?_) | (show SH _ _ _ _ _ (⟨_, .call ⟨.value (.func 23), _, _⟩, _, _, _, _⟩ :: _) _ _ _; refine cp (callee := .func 23) rfl (fun w hw => places_spec t la A L c w hz (rows_rd (c := c) enL hw)) rfl rfl ?_) | refine nlc rfl ?_)))
      rintro _ _ ⟨rm, rfl, rfl⟩
      (repeat' (first | (show VH _ _ _ _ _ _ _; first | refine v_seq ?_ | refine r_seq ?_ | refine v_skip ?_ | refine v_cond_f rfl tbL ?_) | (show SH _ _ _ _ _ (_ :: _) _ _ _; first | (show SH _ _ _ _ _ (⟨_, .move _, _, _, _, _⟩ :: _) _ _ _; refine mov evL ?_) | (show SH _ _ _ _ _ (⟨_, .assign _, _, _, _, _⟩ :: _) _ _ _; refine asg evL ?_) | (show SH _ _ _ _ _ (⟨_, .binOp .eql _ _ _ _, _, _, _, _⟩ :: _) _ _ _; refine eqlF rfl rfl omD ?_) | (show SH _ _ _ _ _ (⟨_, .binOp .neq _ _ _ _, _, _, _, _⟩ :: _) _ _ _; refine neqF rfl rfl omD ?_) | (show SH _ _ _ _ _ (⟨_, .load _ _, _, _, _, _⟩ :: _) _ _ _; refine lcell rfl (fun w hw => hw.ext.cell (by assumption)) ?_) | (show SH _ _ _ _ _ (⟨_, .lookup _ _ _ false, _, _, _, _⟩ :: _) _ _ _; refine lkm rfl rfl spL ?_)) | refine s_nil ?_ | refine kh_normal ?_ | refine bh_normal ?_))
      refine cm rfl (fun w2 hw2 => leave_spec t la A L c bh k who w H w2 hk hz (Ent.wd enL hw2)) rfl rfl ?_
      rintro _ _ ⟨L', hp', rfl⟩
      refine ⟨trivial, ?_⟩
      (repeat' (first | (show VH _ _ _ _ _ _ _; first | refine v_seq ?_ | refine r_seq ?_ | refine v_ret ?_) | (show SH _ _ _ _ _ (_ :: _) _ _ _; (show SH _ _ _ _ _ (⟨_, .assign _, _, _, _, _⟩ :: _) _ _ _; refine asg evL ?_)) | refine s_nil ?_ | refine kh_normal ?_))
      exact rh1 rfl rfl ⟨rfl, A, c, L', hp', rfl⟩ (ent_refl _)
  · rw [if_neg hfd]
    have hg : ¬ mget (placesM (ptys L)) who = (k : Int) + 1 := fun h => hfd (hg.1 h)
    refine enterH Tryz.func77 rfl rfl Tryz.ntmps77 rfl (by assumption) ?_
    (repeat' (first | (show VH _ _ _ _ _ _ _; first | refine v_seq ?_ | refine r_seq ?_ | refine v_block ?_) | (show SH _ _ _ _ _ (_ :: _) _ _ _; (show SH _ _ _ _ _ (⟨_, .assign _, _, _, _, _⟩ :: _) _ _ _; refine asg evL ?_)) | refine s_nil ?_ | refine kh_normal ?_))
    refine r_heldT [hb36 bh t la A L c] (tr [(0, true), (1, true), (2, true), (4, true), (6, true), (7, true), (3, false), (5, false), (8, false), (9, false)] .nil) hmix (by kernel_rfl) enL ?_
    (repeat' ((show SH _ _ _ _ _ (_ :: _) _ _ _; first | (show SH _ _ _ _ _ (⟨_, .move _, _, _, _, _⟩ :: _) _ _ _; refine mov evL ?_) | (show SH _ _ _ _ _ (⟨_, .binOp .add _ _ _ _, _, _, _, _⟩ :: _) _ _ _; refine add rfl rfl inL ?_) | (show SH _ _ _ _ _ (⟨_, .load _ _, _, _, _, _⟩ :: _) _ _ _; first | refine lba rfl spL (by rfl) ?_ | refine lcell rfl (fun w hw => hw.ext.cell (by assumption)) ?_) | (show SH _ _ _ _ _ (⟨_, .call ⟨.value (.func 23), _, _⟩, _, _, _, _⟩ :: _) _ _ _; refine cp (callee := .func 23) rfl (fun w hw => places_spec t la A L c w hz (rows_rd (c := c) enL hw)) rfl rfl ?_) | refine nlc rfl ?_)))
    rintro _ _ ⟨rm, rfl, rfl⟩
    (repeat' (first | (show VH _ _ _ _ _ _ _; first | refine v_seq ?_ | refine r_seq ?_ | refine v_ret ?_ | refine v_cond_t rfl tbL ?_) | (show SH _ _ _ _ _ (_ :: _) _ _ _; first | (show SH _ _ _ _ _ (⟨_, .assign _, _, _, _, _⟩ :: _) _ _ _; refine asg evL ?_) | (show SH _ _ _ _ _ (⟨_, .binOp .neq _ _ _ _, _, _, _, _⟩ :: _) _ _ _; refine neqT rfl rfl omD ?_) | (show SH _ _ _ _ _ (⟨_, .lookup _ _ _ false, _, _, _, _⟩ :: _) _ _ _; refine lkm rfl rfl spL ?_)) | refine s_nil ?_ | refine kh_normal ?_ | refine kh_ret ?_ | refine bh_ret ?_))
    exact rh1 rfl rfl ⟨rfl, rfl⟩ enL
theorem leadM_eq (h : Hal) (by' : Int) (f : Nat → ResP) : leadM h by' f = if validHal h then leadR h.ps by' f else (hal0, 2) := rfl
set_option maxHeartbeats 1000000 in
set_option maxRecDepth 100000 in
theorem kick_spec (t la : Int) (A : Option Addr) (L : List PtyP) (c : Nat) (by' who : Int) (w : World) (hz : SzP L) (hr : RdP w A L) : Ret Tryz.prog 40 [hv36 t la A L c, .int .i64 by', .int .i64 who].toArray w (RP w (OutH (kickM ⟨t, la, ptys L⟩ by' who))) := by
  rw [show kickM ⟨t, la, ptys L⟩ by' who = if validHal ⟨t, la, ptys L⟩ then leadR (ptys L) by' (kickR t la (ptys L) by' who) else (hal0, 2) by unfold kickM; rw [leadM_eq]; simp only [leaveAt_eq]; rfl]
  refine enterH Tryz.func40 rfl rfl Tryz.ntmps40 rfl (Wd.refl _) ?_
  (repeat' (first | (show VH _ _ _ _ _ _ _; first | refine v_seq ?_ | refine r_seq ?_) | (show SH _ _ _ _ _ (_ :: _) _ _ _; first | (show SH _ _ _ _ _ (⟨_, .assign _, _, _, _, _⟩ :: _) _ _ _; refine asg evL ?_) | (show SH _ _ _ _ _ (⟨_, .load _ _, _, _, _, _⟩ :: _) _ _ _; first | refine lbx rfl spL (by rfl) ?_ | refine lba rfl spL (by rfl) ?_) | (show SH _ _ _ _ _ (⟨_, .makeFunc _ _ _, _, _, _, _⟩ :: _) _ _ _; refine mf2 evL evL ?_) | refine ala rfl (fun b => ?_) | (show SH _ _ _ _ _ (⟨_, .box _ _, _, _, _, _⟩ :: _) _ _ _; refine bxx rfl evL rfl (fun b => ?_))) | refine s_nil ?_ | refine kh_normal ?_))
  rename_i b3 b4 b5
  refine cp rfl (fun w2 hw => lead_spec t la A L c by' 77 #[] #[.pointer (some ⟨b5, 0, none⟩), .pointer (some ⟨b4, 0, none⟩)] _ w2 hz (hr.ext hw.ext) (fun k _ => kickR0 _ _ _ _ _ _) (fun w3 he hv k hk _ => kick1_spec t la L by' who k _ _ w3 (findM_some _ hk).1 (valid_iff.1 hv).nd (he.cell (hw.cell (cs := [.int .i64 who]) spL rfl)) (he.cell (hw.cell (cs := [.int .i64 by']) spL rfl)))) rfl rfl ?_
  rintro _ _ ⟨A1, c1, L1, hp1, rfl, rfl⟩
  (repeat' (first | refine v_ret ?_ | (show SH _ _ _ _ _ (_ :: _) _ _ _; first | (show SH _ _ _ _ _ (⟨_, .assign _, _, _, _, _⟩ :: _) _ _ _; refine asg evL ?_) | refine extr rfl rfl ?_ | (show SH _ _ _ _ _ (⟨_, .store _ _ _, _, _, _, _⟩ :: _) _ _ _; refine sta rfl rfl rfl spL (by rfl) (by rfl) (by rfl) kpL ?_)) | refine s_nil ?_ | refine kh_normal ?_))
  exact rhC2 rfl rfl rfl rfl (fun w hw => loadVar_bx hw spL (by rfl)) ⟨A1, c1, L1, hp1, rfl, rfl⟩ enL
/-! Disband -/
set_option maxHeartbeats 1000000 in
set_option maxRecDepth 100000 in
theorem disb1_spec (t la : Int) (L0 : List PtyP) (k : Nat) (w : World) (hk0 : k < (ptys L0).length) : ActsL w t la L0 k 79 #[] #[] (⟨t, la, (ptys L0).eraseIdx k⟩, 0) := by
  refine actsL_of (cap := []) fun w' bh A c L H hz hp hw => ?_
  rw [← hp] at hk0 ⊢
  have hll := hz.len
  have hk : k < L.length := by rw [ptys_len] at hk0; exact hk0
  refine enterH Tryz.func79 rfl rfl Tryz.ntmps79 rfl (by assumption) ?_
  (repeat' (first | (show VH _ _ _ _ _ _ _; first | refine v_seq ?_ | refine r_seq ?_) | (show SH _ _ _ _ _ (_ :: _) _ _ _; first | (show SH _ _ _ _ _ (⟨_, .move _, _, _, _, _⟩ :: _) _ _ _; refine mov evL ?_) | (show SH _ _ _ _ _ (⟨_, .assign _, _, _, _, _⟩ :: _) _ _ _; refine asg evL ?_)) | refine s_nil ?_ | refine kh_normal ?_))
  refine cm rfl (fun w2 hw2 => drop_spec t la A L c bh k w H w2 hk hll (Ent.wd enL hw2)) rfl rfl ?_
  rintro _ _ rfl
  refine ⟨trivial, ?_⟩
  (repeat' (first | (show VH _ _ _ _ _ _ _; first | refine v_seq ?_ | refine r_seq ?_ | refine v_ret ?_) | (show SH _ _ _ _ _ (_ :: _) _ _ _; (show SH _ _ _ _ _ (⟨_, .assign _, _, _, _, _⟩ :: _) _ _ _; refine asg evL ?_)) | refine s_nil ?_ | refine kh_normal ?_))
  exact rh1 rfl rfl ⟨rfl, A, c, _, ptys_erase L k, rfl⟩ (ent_refl _)
set_option maxHeartbeats 1000000 in
set_option maxRecDepth 100000 in
theorem disband_spec (t la : Int) (A : Option Addr) (L : List PtyP) (c : Nat) (by' : Int) (w : World) (hz : SzP L) (hr : RdP w A L) : Ret Tryz.prog 42 [hv36 t la A L c, .int .i64 by'].toArray w (RP w (OutH (disbandM ⟨t, la, ptys L⟩ by'))) := by
  rw [show disbandM ⟨t, la, ptys L⟩ by' = if validHal ⟨t, la, ptys L⟩ then leadR (ptys L) by' (fun k => (⟨t, la, (ptys L).eraseIdx k⟩, 0)) else (hal0, 2) from rfl]
  have hl := fun w hr => lead_spec t la A L c by' 79 #[] #[] _ w hz hr (fun k _ h => absurd rfl h) (fun w3 _ _ k hk _ => disb1_spec t la L k w3 (findM_some _ hk).1)
  refine enterH Tryz.func42 rfl rfl Tryz.ntmps42 rfl (Wd.refl _) ?_
  (repeat' (first | (show VH _ _ _ _ _ _ _; first | refine v_seq ?_ | refine r_seq ?_) | (show SH _ _ _ _ _ (_ :: _) _ _ _; first | (show SH _ _ _ _ _ (⟨_, .move _, _, _, _, _⟩ :: _) _ _ _; refine mov evL ?_) | (show SH _ _ _ _ _ (⟨_, .assign _, _, _, _, _⟩ :: _) _ _ _; refine asg evL ?_) | (show SH _ _ _ _ _ (⟨_, .load _ _, _, _, _, _⟩ :: _) _ _ _; refine lba rfl spL (by rfl) ?_) | (show SH _ _ _ _ _ (⟨_, .call ⟨.value (.func 44), _, _⟩, _, _, _, _⟩ :: _) _ _ _; refine cp (callee := .func 44) rfl (fun w hw => hl w (hr.ext hw.ext)) rfl rfl ?_) | refine ala rfl (fun b => ?_) | (show SH _ _ _ _ _ (⟨_, .box _ _, _, _, _, _⟩ :: _) _ _ _; refine bxx rfl evL rfl (fun b => ?_))) | refine s_nil ?_ | refine kh_normal ?_))
  rintro _ _ ⟨A1, c1, L1, hp1, rfl, rfl⟩
  (repeat' (first | refine v_ret ?_ | (show SH _ _ _ _ _ (_ :: _) _ _ _; first | (show SH _ _ _ _ _ (⟨_, .assign _, _, _, _, _⟩ :: _) _ _ _; refine asg evL ?_) | refine extr rfl rfl ?_ | (show SH _ _ _ _ _ (⟨_, .store _ _ _, _, _, _, _⟩ :: _) _ _ _; refine sta rfl rfl rfl spL (by rfl) (by rfl) (by rfl) kpL ?_)) | refine s_nil ?_ | refine kh_normal ?_))
  exact rhC2 rfl rfl rfl rfl (fun w hw => loadVar_bx hw spL (by rfl)) ⟨A1, c1, L1, hp1, rfl, rfl⟩ enL
/-! Promote -/
def promR (t la : Int) (ps : List Pty) (who : Int) (k : Nat) : ResP := if findM who ps = some k then (⟨t, la, ps.set k { ps.getD k pty0 with leader := who }⟩, 0) else (hal0, 6)
theorem promR0 (t la : Int) (ps : List Pty) (who : Int) (k : Nat) : (promR t la ps who k).2 ≠ 0 → (promR t la ps who k).1 = hal0 := by
  unfold promR
  split
  · intro h; exact absurd rfl h
  · intro _; rfl
set_option maxHeartbeats 1000000 in
set_option maxRecDepth 100000 in
theorem prom1_spec (t la : Int) (L0 : List PtyP) (who : Int) (k : Nat) (a1 : Addr) (w : World) (hk0 : k < (ptys L0).length) (hn : (allM (ptys L0)).Nodup) (h1 : w.cell? a1 = some (.int .i64 who)) : ActsL w t la L0 k 78 #[] #[.pointer (some a1)] (promR t la (ptys L0) who k) := by
  refine actsL_of (cap := [.pointer (some a1)]) fun w' bh A c L H hz hp hw => ?_
  have hg := find_at (ptys L0) who hn k
  rw [← hp] at hg hk0 ⊢
  have hll := hz.len
  have hk : k < L.length := by rw [ptys_len] at hk0; exact hk0
  unfold promR
  by_cases hfd : findM who (ptys L) = some k
  · rw [if_pos hfd, ptys_at hk]
    have hg := hg.2 hfd
    refine enterH Tryz.func78 rfl rfl Tryz.ntmps78 rfl (by assumption) ?_
    (repeat' (first | (show VH _ _ _ _ _ _ _; first | refine v_seq ?_ | refine r_seq ?_) | (show SH _ _ _ _ _ (_ :: _) _ _ _; (show SH _ _ _ _ _ (⟨_, .assign _, _, _, _, _⟩ :: _) _ _ _; refine asg evL ?_)) | refine s_nil ?_ | refine kh_normal ?_))
    refine r_heldT [hb36 bh t la A L c] (tr [(0, true), (1, true), (2, true), (4, true), (6, true), (7, true), (3, false), (5, false), (8, false)] .nil) hmix (by kernel_rfl) enL ?_
    (repeat' ((show SH _ _ _ _ _ (_ :: _) _ _ _; first | (show SH _ _ _ _ _ (⟨_, .move _, _, _, _, _⟩ :: _) _ _ _; refine mov evL ?_) | (show SH _ _ _ _ _ (⟨_, .binOp .add _ _ _ _, _, _, _, _⟩ :: _) _ _ _; refine add rfl rfl inL ?_) | (show SH _ _ _ _ _ (⟨_, .load _ _, _, _, _, _⟩ :: _) _ _ _; first | refine lba rfl spL (by rfl) ?_ | refine lcell rfl (fun w hw => hw.ext.cell (by assumption)) ?_) | (show SH _ _ _ _ _ (⟨_, .call ⟨.value (.func 23), _, _⟩, _, _, _, _⟩ :: _) _ _ _; refine cp (callee := .func 23) rfl (fun w hw => places_spec t la A L c w hz (rows_rd (c := c) enL hw)) rfl rfl ?_) | refine nlc rfl ?_)))
    rintro _ _ ⟨rm, rfl, rfl⟩
    (repeat' (first | (show VH _ _ _ _ _ _ _; first | refine v_seq ?_ | refine v_skip ?_ | refine v_cond_f rfl tbL ?_) | (show SH _ _ _ _ _ (_ :: _) _ _ _; first | (show SH _ _ _ _ _ (⟨_, .binOp .neq _ _ _ _, _, _, _, _⟩ :: _) _ _ _; refine neqF rfl rfl omD ?_) | (show SH _ _ _ _ _ (⟨_, .lookup _ _ _ false, _, _, _, _⟩ :: _) _ _ _; refine lkm rfl rfl spL ?_)) | refine s_nil ?_ | refine kh_normal ?_))
    refine r_heldT [hb36 bh t la A L c] (tr [(0, true), (1, true), (2, true), (3, true), (4, true), (5, false), (6, false), (7, false), (8, false)] .nil) hmix (by kernel_rfl) enL ?_
    (repeat' ((show SH _ _ _ _ _ (_ :: _) _ _ _; first | (show SH _ _ _ _ _ (⟨_, .move _, _, _, _, _⟩ :: _) _ _ _; refine mov evL ?_) | (show SH _ _ _ _ _ (⟨_, .load _ _, _, _, _, _⟩ :: _) _ _ _; first | refine lbx rfl spL (by rfl) ?_ | refine lcell rfl (fun w hw => hw.ext.cell (by assumption)) ?_) | (show SH _ _ _ _ _ (⟨_, .indexAddr _ _ _, _, _, _, _⟩ :: _) _ _ _; refine ix rfl rfl (by with_reducible rfl) (fun _ _ => rdP) (by rfl) omL omL ?_) | refine nlc rfl ?_ | refine fad rfl ?_)))
    refine stf ({ L.getD k Flat.dflt with p := { (L.getD k Flat.dflt).p with leader := who } } : PtyP) rfl rfl rfl spL rfl hk rfl rfl (by decide) rfl enL ?_
    (repeat' (first | (show VH _ _ _ _ _ _ _; first | refine v_seq ?_ | refine r_seq ?_ | refine v_ret ?_) | (show SH _ _ _ _ _ (_ :: _) _ _ _; (show SH _ _ _ _ _ (⟨_, .assign _, _, _, _, _⟩ :: _) _ _ _; refine asg evL ?_)) | refine s_nil ?_ | refine kh_normal ?_))
    refine rh1 rfl rfl ⟨rfl, A, c, L.set k ({ L.getD k Flat.dflt with p := { (L.getD k Flat.dflt).p with leader := who } } : PtyP), ptys_set _ _ _, rfl⟩ ?_
    have e1 : (L.set k ({ L.getD k Flat.dflt with p := { (L.getD k Flat.dflt).p with leader := who } } : PtyP)).map rowM = L.map rowM := by rw [List.map_set]; exact set_same (f := rowM) hk
    have e2 : (L.set k ({ L.getD k Flat.dflt with p := { (L.getD k Flat.dflt).p with leader := who } } : PtyP)).map rowI = L.map rowI := by rw [List.map_set]; exact set_same (f := rowI) hk
    unfold hallH hb36
    rw [e1, e2, List.length_set]
    exact enL
  · rw [if_neg hfd]
    have hg : ¬ mget (placesM (ptys L)) who = (k : Int) + 1 := fun h => hfd (hg.1 h)
    refine enterH Tryz.func78 rfl rfl Tryz.ntmps78 rfl (by assumption) ?_
    (repeat' (first | (show VH _ _ _ _ _ _ _; first | refine v_seq ?_ | refine r_seq ?_) | (show SH _ _ _ _ _ (_ :: _) _ _ _; (show SH _ _ _ _ _ (⟨_, .assign _, _, _, _, _⟩ :: _) _ _ _; refine asg evL ?_)) | refine s_nil ?_ | refine kh_normal ?_))
    refine r_heldT [hb36 bh t la A L c] (tr [(0, true), (1, true), (2, true), (4, true), (6, true), (7, true), (3, false), (5, false), (8, false)] .nil) hmix (by kernel_rfl) enL ?_
    (repeat' ((show SH _ _ _ _ _ (_ :: _) _ _ _; first | (show SH _ _ _ _ _ (⟨_, .move _, _, _, _, _⟩ :: _) _ _ _; refine mov evL ?_) | (show SH _ _ _ _ _ (⟨_, .binOp .add _ _ _ _, _, _, _, _⟩ :: _) _ _ _; refine add rfl rfl inL ?_) | (show SH _ _ _ _ _ (⟨_, .load _ _, _, _, _, _⟩ :: _) _ _ _; first | refine lba rfl spL (by rfl) ?_ | refine lcell rfl (fun w hw => hw.ext.cell (by assumption)) ?_) | (show SH _ _ _ _ _ (⟨_, .call ⟨.value (.func 23), _, _⟩, _, _, _, _⟩ :: _) _ _ _; refine cp (callee := .func 23) rfl (fun w hw => places_spec t la A L c w hz (rows_rd (c := c) enL hw)) rfl rfl ?_) | refine nlc rfl ?_)))
    rintro _ _ ⟨rm, rfl, rfl⟩
    (repeat' (first | (show VH _ _ _ _ _ _ _; first | refine v_seq ?_ | refine r_seq ?_ | refine v_ret ?_ | refine v_cond_t rfl tbL ?_) | (show SH _ _ _ _ _ (_ :: _) _ _ _; first | (show SH _ _ _ _ _ (⟨_, .assign _, _, _, _, _⟩ :: _) _ _ _; refine asg evL ?_) | (show SH _ _ _ _ _ (⟨_, .binOp .neq _ _ _ _, _, _, _, _⟩ :: _) _ _ _; refine neqT rfl rfl omD ?_) | (show SH _ _ _ _ _ (⟨_, .lookup _ _ _ false, _, _, _, _⟩ :: _) _ _ _; refine lkm rfl rfl spL ?_)) | refine s_nil ?_ | refine kh_normal ?_ | refine kh_ret ?_))
    exact rh1 rfl rfl ⟨rfl, rfl⟩ enL
set_option maxHeartbeats 1000000 in
set_option maxRecDepth 100000 in
theorem promote_spec (t la : Int) (A : Option Addr) (L : List PtyP) (c : Nat) (by' who : Int) (w : World) (hz : SzP L) (hr : RdP w A L) : Ret Tryz.prog 41 [hv36 t la A L c, .int .i64 by', .int .i64 who].toArray w (RP w (OutH (promoteM ⟨t, la, ptys L⟩ by' who))) := by
  rw [show promoteM ⟨t, la, ptys L⟩ by' who = if validHal ⟨t, la, ptys L⟩ then leadR (ptys L) by' (promR t la (ptys L) who) else (hal0, 2) from rfl]
  refine enterH Tryz.func41 rfl rfl Tryz.ntmps41 rfl (Wd.refl _) ?_
  (repeat' (first | (show VH _ _ _ _ _ _ _; first | refine v_seq ?_ | refine r_seq ?_) | (show SH _ _ _ _ _ (_ :: _) _ _ _; first | (show SH _ _ _ _ _ (⟨_, .move _, _, _, _, _⟩ :: _) _ _ _; refine mov evL ?_) | (show SH _ _ _ _ _ (⟨_, .assign _, _, _, _, _⟩ :: _) _ _ _; refine asg evL ?_) | (show SH _ _ _ _ _ (⟨_, .load _ _, _, _, _, _⟩ :: _) _ _ _; refine lba rfl spL (by rfl) ?_) | (show SH _ _ _ _ _ (⟨_, .makeFunc _ _ _, _, _, _, _⟩ :: _) _ _ _; refine mf1 evL ?_) | refine ala rfl (fun b => ?_) | (show SH _ _ _ _ _ (⟨_, .box _ _, _, _, _, _⟩ :: _) _ _ _; refine bxx rfl evL rfl (fun b => ?_))) | refine s_nil ?_ | refine kh_normal ?_))
  rename_i b3 b5
  refine cp rfl (fun w2 hw => lead_spec t la A L c by' 78 #[] #[.pointer (some ⟨b5, 0, none⟩)] _ w2 hz (hr.ext hw.ext) (fun k _ => promR0 _ _ _ _ _) (fun w3 he hv k hk _ => prom1_spec t la L who k _ w3 (findM_some _ hk).1 (valid_iff.1 hv).nd (he.cell (hw.cell (cs := [.int .i64 who]) spL rfl)))) rfl rfl ?_
  rintro _ _ ⟨A1, c1, L1, hp1, rfl, rfl⟩
  (repeat' (first | refine v_ret ?_ | (show SH _ _ _ _ _ (_ :: _) _ _ _; first | (show SH _ _ _ _ _ (⟨_, .assign _, _, _, _, _⟩ :: _) _ _ _; refine asg evL ?_) | refine extr rfl rfl ?_ | (show SH _ _ _ _ _ (⟨_, .store _ _ _, _, _, _, _⟩ :: _) _ _ _; refine sta rfl rfl rfl spL (by rfl) (by rfl) (by rfl) kpL ?_)) | refine s_nil ?_ | refine kh_normal ?_))
  exact rhC2 rfl rfl rfl rfl (fun w hw => loadVar_bx hw spL (by rfl)) ⟨A1, c1, L1, hp1, rfl, rfl⟩ enL
end Go.Proofs.YtlfbcoohfnoacaaGreat
