/- Package party: Create, lead. -/
import Derived.Test.YtlfbcoohfnoacaaGreatYTwp
import Derived.Test.YtlfbcoohfnoacaaGreatYMp
import Derived.Test.YtlfbcoohfnoacaaGreatYWz
import Derived.Test.YtlfbcoohfnoacaaGreatYUvh
set_option linter.unusedSimpArgs false
set_option linter.unusedVariables false
namespace Go.Proofs.YtlfbcoohfnoacaaGreat
open Go.Fw Go.RowKit
set_option maxHeartbeats 1000000 in
set_option maxRecDepth 100000 in
theorem create_spec (t la : Int) (A : Option Addr) (L : List PtyP) (c : Nat) (who : Int) (w : World) (hz : SzP L) (hr : RdP w A L) : Ret Tryz.prog 18 [hv36 t la A L c, .int .i64 who].toArray w (RP w (OutH (createM ⟨t, la, ptys L⟩ who))) := by
  rw [show createM ⟨t, la, ptys L⟩ who = if validHal ⟨t, la, ptys L⟩ then creR t la (ptys L) who else (hal0, 2) from rfl]
  refine enterH Tryz.func18 rfl rfl Tryz.ntmps18 rfl (Wd.refl _) ?_
  (repeat' (first | (show VH _ _ _ _ _ _ _; first | refine v_seq ?_ | refine r_seq ?_) | (show SH _ _ _ _ _ (_ :: _) _ _ _; first | (show SH _ _ _ _ _ (⟨_, .assign _, _, _, _, _⟩ :: _) _ _ _; refine asg evL ?_) | (show SH _ _ _ _ _ (⟨_, .load _ _, _, _, _, _⟩ :: _) _ _ _; refine lba rfl spL (by rfl) ?_) | (show SH _ _ _ _ _ (⟨_, .makeFunc _ _ _, _, _, _, _⟩ :: _) _ _ _; refine mf1 evL ?_) | refine ala rfl (fun b => ?_) | (show SH _ _ _ _ _ (⟨_, .box _ _, _, _, _, _⟩ :: _) _ _ _; refine bxx rfl evL rfl (fun b => ?_))) | refine s_nil ?_ | refine kh_normal ?_))
  rename_i b2 b3
  refine cp rfl (fun w2 hw => change_spec t la A L c 54 #[] #[.pointer (some ⟨b3, 0, none⟩)] _ w2 hz (hr.ext hw.ext) (creR0 _ _ _ _) (fun hv => cre1_spec t la L who _ w2 (valid_iff.1 hv).l0 (hw.cell (cs := [.int .i64 who]) spL rfl))) rfl rfl ?_
  rintro _ _ ⟨A1, c1, L1, hp1, rfl, rfl⟩
  (repeat' (first | refine v_ret ?_ | (show SH _ _ _ _ _ (_ :: _) _ _ _; first | (show SH _ _ _ _ _ (⟨_, .assign _, _, _, _, _⟩ :: _) _ _ _; refine asg evL ?_) | refine extr rfl rfl ?_ | (show SH _ _ _ _ _ (⟨_, .store _ _ _, _, _, _, _⟩ :: _) _ _ _; refine sta rfl rfl rfl spL (by rfl) (by rfl) (by rfl) kpL ?_)) | refine s_nil ?_ | refine kh_normal ?_))
  exact rhC2 rfl rfl rfl rfl (fun w hw => loadVar_bx hw spL (by rfl)) ⟨A1, c1, L1, hp1, rfl, rfl⟩ enL
/-- A leader's change. -/
def ActsL (w : World) (t la : Int) (L0 : List PtyP) (k : Nat) (g : FuncId) (fst cap : Array Value) (r : ResP) : Prop :=
  ∀ w' bh A c L H, SzP L → ptys L = ptys L0 → Wd w (hallH bh t la A c L H) w' → Ret Tryz.prog g (fst.toList ++ [Value.pointer (some ⟨bh, 0, none⟩), Value.int .i64 k] ++ cap.toList).toArray w' (RP w (ActR r bh H))
theorem actsL_of {w : World} {t la : Int} {L0 : List PtyP} {k : Nat} {g : FuncId} {cap : List Value} {r : ResP} (h : ∀ w' bh A c L H, SzP L → ptys L = ptys L0 → Wd w (hallH bh t la A c L H) w' → Ret Tryz.prog g (Value.pointer (some ⟨bh, 0, none⟩) :: Value.int .i64 k :: cap).toArray w' (RP w (ActR r bh H))) : ActsL w t la L0 k g #[] cap.toArray r := by
  intro w' bh A c L H hz hp hw
  have := h w' bh A c L H hz hp hw
  simpa using this
def leadR (ps : List Pty) (by' : Int) (r : Nat → ResP) : ResP :=
  match findM by' ps with
  | none => (hal0, 6)
  | some k => if (ps.getD k pty0).leader = by' then r k else (hal0, 362)
theorem leadR0 {ps : List Pty} {by' : Int} {r : Nat → ResP} (h : ∀ k, findM by' ps = some k → (r k).2 ≠ 0 → (r k).1 = hal0) : (leadR ps by' r).2 ≠ 0 → (leadR ps by' r).1 = hal0 := by
  unfold leadR
  cases hf : findM by' ps with
  | none => intro _; rfl
  | some k =>
    simp only
    split
    · exact h k hf
    · intro _; rfl
set_option maxHeartbeats 1000000 in
set_option maxRecDepth 100000 in
theorem lead1_spec (t la : Int) (L0 : List PtyP) (by' : Int) (a1 a2 : Addr) (g0 : FuncId) (fst cap : Array Value) (r : Nat → ResP) (w : World) (hn : (allM (ptys L0)).Nodup) (h1 : w.cell? a1 = some (.int .i64 by')) (h2 : w.cell? a2 = some (.func (.func g0) fst cap))
    (hf : ∀ k, findM by' (ptys L0) = some k → ((ptys L0).getD k pty0).leader = by' → ActsL w t la L0 k g0 fst cap (r k)) : Acts w t la L0 86 #[] #[.pointer (some a1), .pointer (some a2)] (leadR (ptys L0) by' r) := by
  refine acts_of (cap := [.pointer (some a1), .pointer (some a2)]) fun w' bh A c L H hz hp hw => ?_
  have hg := places_find (ptys L0) by' hn
  rw [← hp] at hg
  unfold leadR
  cases hfd : findM by' (ptys L0) with
  | none =>
    rw [hp, hfd, ← hp] at hg
    simp only at hg ⊢
    refine enterH Tryz.func86 rfl rfl Tryz.ntmps86 rfl (by assumption) ?_
    (repeat' (first | (show VH _ _ _ _ _ _ _; first | refine v_seq ?_ | refine r_seq ?_) | (show SH _ _ _ _ _ (_ :: _) _ _ _; (show SH _ _ _ _ _ (⟨_, .assign _, _, _, _, _⟩ :: _) _ _ _; refine asg evL ?_)) | refine s_nil ?_ | refine kh_normal ?_))
    refine r_heldT [hb36 bh t la A L c] (tr [(0, true), (1, true), (2, true), (4, true), (3, false), (5, false), (6, false)] .nil) hmix (by kernel_rfl) enL ?_
    (repeat' ((show SH _ _ _ _ _ (_ :: _) _ _ _; first | (show SH _ _ _ _ _ (⟨_, .move _, _, _, _, _⟩ :: _) _ _ _; refine mov evL ?_) | (show SH _ _ _ _ _ (⟨_, .load _ _, _, _, _, _⟩ :: _) _ _ _; first | refine lba rfl spL (by rfl) ?_ | refine lcell rfl (fun w hw => hw.ext.cell (by assumption)) ?_) | (show SH _ _ _ _ _ (⟨_, .call ⟨.value (.func 23), _, _⟩, _, _, _, _⟩ :: _) _ _ _; refine cp (callee := .func 23) rfl (fun w hw => places_spec t la A L c w hz (rows_rd (c := c) enL hw)) rfl rfl ?_) | refine nlc rfl ?_)))
    rintro _ _ ⟨r, rfl, rfl⟩
    (repeat' (first | (show VH _ _ _ _ _ _ _; first | refine v_seq ?_ | refine r_seq ?_ | refine v_block ?_ | refine v_ret ?_ | refine v_cond_t rfl tbL ?_) | (show SH _ _ _ _ _ (_ :: _) _ _ _; first | (show SH _ _ _ _ _ (⟨_, .move _, _, _, _, _⟩ :: _) _ _ _; refine mov evL ?_) | (show SH _ _ _ _ _ (⟨_, .assign _, _, _, _, _⟩ :: _) _ _ _; refine asg evL ?_) | (show SH _ _ _ _ _ (⟨_, .binOp .eql _ _ _ _, _, _, _, _⟩ :: _) _ _ _; refine eqlT rfl rfl omD ?_) | (show SH _ _ _ _ _ (⟨_, .lookup _ _ _ false, _, _, _, _⟩ :: _) _ _ _; refine lkm rfl rfl spL ?_)) | refine s_nil ?_ | refine kh_normal ?_ | refine kh_ret ?_ | refine bh_ret ?_))
    exact rh1 rfl rfl ⟨rfl, rfl⟩ enL
  | some k =>
    rw [hp, hfd, ← hp] at hg
    simp only at hg ⊢
    have hk := (findM_some _ hfd).1
    rw [← hp, ptys_len] at hk
    have hpk := ptys_at hk
    have hkk : ((k : Int) + 1 - 1).toNat = k := by omega
    have hll := hz.len
    have hf' := hf k hfd
    rw [← hp] at hf' ⊢
    rw [hpk] at hf' ⊢
    by_cases hl : (L.getD k Flat.dflt).p.leader = by'
    · rw [if_pos hl]
      have hf2 := hf' hl
      have hld : (L.getD ((k : Int) + 1 - 1).toNat Flat.dflt).p.leader = by' := by rw [hkk]; exact hl
      clear hf hf' hl
      refine enterH Tryz.func86 rfl rfl Tryz.ntmps86 rfl (by assumption) ?_
      (repeat' (first | (show VH _ _ _ _ _ _ _; first | refine v_seq ?_ | refine r_seq ?_) | (show SH _ _ _ _ _ (_ :: _) _ _ _; (show SH _ _ _ _ _ (⟨_, .assign _, _, _, _, _⟩ :: _) _ _ _; refine asg evL ?_)) | refine s_nil ?_ | refine kh_normal ?_))
      refine r_heldT [hb36 bh t la A L c] (tr [(0, true), (1, true), (2, true), (4, true), (3, false), (5, false), (6, false)] .nil) hmix (by kernel_rfl) enL ?_
      (repeat' ((show SH _ _ _ _ _ (_ :: _) _ _ _; first | (show SH _ _ _ _ _ (⟨_, .move _, _, _, _, _⟩ :: _) _ _ _; refine mov evL ?_) | (show SH _ _ _ _ _ (⟨_, .load _ _, _, _, _, _⟩ :: _) _ _ _; first | refine lba rfl spL (by rfl) ?_ | refine lcell rfl (fun w hw => hw.ext.cell (by assumption)) ?_) | (show SH _ _ _ _ _ (⟨_, .call ⟨.value (.func 23), _, _⟩, _, _, _, _⟩ :: _) _ _ _; refine cp (callee := .func 23) rfl (fun w hw => places_spec t la A L c w hz (rows_rd (c := c) enL hw)) rfl rfl ?_) | refine nlc rfl ?_)))
      rintro _ _ ⟨rm, rfl, rfl⟩
      generalize placesM (ptys L) = M at hg ⊢
      (repeat' ((fail_if_success (show VH _ _ (.seq (.region 2 _ _) _) _ _ _ _)); first | (show VH _ _ _ _ _ _ _; first | refine v_seq ?_ | refine v_block ?_) | (show SH _ _ _ _ _ (_ :: _) _ _ _; first | (show SH _ _ _ _ _ (⟨_, .assign _, _, _, _, _⟩ :: _) _ _ _; refine asg evL ?_) | (show SH _ _ _ _ _ (⟨_, .lookup _ _ _ false, _, _, _, _⟩ :: _) _ _ _; refine lkm rfl rfl spL ?_)) | refine s_nil ?_ | refine kh_normal ?_))
      rw [hg]
      (repeat' (first | (show VH _ _ _ _ _ _ _; first | refine v_seq ?_ | refine r_seq ?_ | refine r_quiet hmix (by kernel_rfl) ?_ | refine v_skip ?_ | refine v_cond_f rfl tbL ?_) | (show SH _ _ _ _ _ (_ :: _) _ _ _; first | (show SH _ _ _ _ _ (⟨_, .move _, _, _, _, _⟩ :: _) _ _ _; refine mov evL ?_) | (show SH _ _ _ _ _ (⟨_, .assign _, _, _, _, _⟩ :: _) _ _ _; refine asg evL ?_) | (show SH _ _ _ _ _ (⟨_, .binOp .eql _ _ _ _, _, _, _, _⟩ :: _) _ _ _; refine eqlF rfl rfl omD ?_) | (show SH _ _ _ _ _ (⟨_, .binOp .neq _ _ _ _, _, _, _, _⟩ :: _) _ _ _; refine neqF rfl rfl omD ?_) | (show SH _ _ _ _ _ (⟨_, .binOp .sub _ _ _ _, _, _, _, _⟩ :: _) _ _ _; refine sub rfl rfl inL ?_) | (show SH _ _ _ _ _ (⟨_, .load _ _, _, _, _, _⟩ :: _) _ _ _; first | refine lbx rfl spL (by rfl) ?_ | refine lrf rfl (fun _ _ => rdP) (by rfl) omL (by rfl) ?_ | refine lcell rfl (fun w hw => hw.ext.cell (by assumption)) ?_ | refine lrf rfl (fun _ _ => rdP) (by rfl) (by simp only [List.length_cons, List.length_nil]; omega) (by rfl) ?_) | (show SH _ _ _ _ _ (⟨_, .indexAddr _ _ _, _, _, _, _⟩ :: _) _ _ _; first | refine ixi rfl rfl (fun _ _ => rdP) (by rfl) omL omL omL ?_ | refine ixi rfl rfl (fun _ _ => rdP) (by rfl) omL (by first | omega | (simp only [List.length_cons, List.length_nil]; omega)) (by simp only [List.length_cons, List.length_nil]; omega) ?_) | refine nlc rfl ?_ | refine fad rfl ?_) | refine s_nil ?_ | refine kh_normal ?_ | refine bh_normal ?_))
      rw [show (k : Int) + 1 - 1 = k by omega]
      refine cm rfl (fun w2 hw2 => hf2 w2 bh A c L H hz hp (Ent.wd enL hw2)) rfl rfl ?_
      rintro _ _ ⟨rfl, hH⟩
      refine ⟨trivial, ?_⟩
      (repeat' (first | refine v_ret ?_ | (show SH _ _ _ _ _ (_ :: _) _ _ _; (show SH _ _ _ _ _ (⟨_, .assign _, _, _, _, _⟩ :: _) _ _ _; refine asg evL ?_)) | refine s_nil ?_ | refine kh_normal ?_))
      exact rh1 rfl rfl ⟨rfl, hH⟩ (ent_refl _)
    · rw [if_neg hl]
      have hld : ¬ (L.getD ((k : Int) + 1 - 1).toNat Flat.dflt).p.leader = by' := by rw [hkk]; exact hl
      clear hf hf' hl
      refine enterH Tryz.func86 rfl rfl Tryz.ntmps86 rfl (by assumption) ?_
      (repeat' (first | (show VH _ _ _ _ _ _ _; first | refine v_seq ?_ | refine r_seq ?_) | (show SH _ _ _ _ _ (_ :: _) _ _ _; (show SH _ _ _ _ _ (⟨_, .assign _, _, _, _, _⟩ :: _) _ _ _; refine asg evL ?_)) | refine s_nil ?_ | refine kh_normal ?_))
      refine r_heldT [hb36 bh t la A L c] (tr [(0, true), (1, true), (2, true), (4, true), (3, false), (5, false), (6, false)] .nil) hmix (by kernel_rfl) enL ?_
      (repeat' ((show SH _ _ _ _ _ (_ :: _) _ _ _; first | (show SH _ _ _ _ _ (⟨_, .move _, _, _, _, _⟩ :: _) _ _ _; refine mov evL ?_) | (show SH _ _ _ _ _ (⟨_, .load _ _, _, _, _, _⟩ :: _) _ _ _; first | refine lba rfl spL (by rfl) ?_ | refine lcell rfl (fun w hw => hw.ext.cell (by assumption)) ?_) | (show SH _ _ _ _ _ (⟨_, .call ⟨.value (.func 23), _, _⟩, _, _, _, _⟩ :: _) _ _ _; refine cp (callee := .func 23) rfl (fun w hw => places_spec t la A L c w hz (rows_rd (c := c) enL hw)) rfl rfl ?_) | refine nlc rfl ?_)))
      rintro _ _ ⟨rm, rfl, rfl⟩
      generalize placesM (ptys L) = M at hg ⊢
      (repeat' ((fail_if_success (show VH _ _ (.seq (.region 2 _ _) _) _ _ _ _)); first | (show VH _ _ _ _ _ _ _; first | refine v_seq ?_ | refine v_block ?_) | (show SH _ _ _ _ _ (_ :: _) _ _ _; first | (show SH _ _ _ _ _ (⟨_, .assign _, _, _, _, _⟩ :: _) _ _ _; refine asg evL ?_) | (show SH _ _ _ _ _ (⟨_, .lookup _ _ _ false, _, _, _, _⟩ :: _) _ _ _; refine lkm rfl rfl spL ?_)) | refine s_nil ?_ | refine kh_normal ?_))
      rw [hg]
      (repeat' (first | (show VH _ _ _ _ _ _ _; first | refine v_seq ?_ | refine r_seq ?_ | refine r_quiet hmix (by kernel_rfl) ?_ | refine v_ret ?_ | refine v_cond_t rfl tbL ?_ | refine v_cond_f rfl tbL ?_) | (show SH _ _ _ _ _ (_ :: _) _ _ _; first | (show SH _ _ _ _ _ (⟨_, .move _, _, _, _, _⟩ :: _) _ _ _; refine mov evL ?_) | (show SH _ _ _ _ _ (⟨_, .assign _, _, _, _, _⟩ :: _) _ _ _; refine asg evL ?_) | (show SH _ _ _ _ _ (⟨_, .binOp .eql _ _ _ _, _, _, _, _⟩ :: _) _ _ _; refine eqlF rfl rfl omD ?_) | (show SH _ _ _ _ _ (⟨_, .binOp .neq _ _ _ _, _, _, _, _⟩ :: _) _ _ _; refine neqT rfl rfl omD ?_) | (show SH _ _ _ _ _ (⟨_, .binOp .sub _ _ _ _, _, _, _, _⟩ :: _) _ _ _; refine sub rfl rfl inL ?_) | (show SH _ _ _ _ _ (⟨_, .load _ _, _, _, _, _⟩ :: _) _ _ _; first | refine lbx rfl spL (by rfl) ?_ | refine lrf rfl (fun _ _ => rdP) (by rfl) omL (by rfl) ?_ | refine lcell rfl (fun w hw => hw.ext.cell (by assumption)) ?_ | refine lrf rfl (fun _ _ => rdP) (by rfl) (by simp only [List.length_cons, List.length_nil]; omega) (by rfl) ?_) | (show SH _ _ _ _ _ (⟨_, .indexAddr _ _ _, _, _, _, _⟩ :: _) _ _ _; first | refine ixi rfl rfl (fun _ _ => rdP) (by rfl) omL omL omL ?_ | refine ixi rfl rfl (fun _ _ => rdP) (by rfl) omL (by first | omega | (simp only [List.length_cons, List.length_nil]; omega)) (by simp only [List.length_cons, List.length_nil]; omega) ?_) | refine nlc rfl ?_ | refine fad rfl ?_) | refine s_nil ?_ | refine kh_normal ?_ | refine kh_ret ?_ | refine bh_ret ?_))
      exact rh1 rfl rfl ⟨rfl, rfl⟩ enL
set_option maxHeartbeats 1000000 in
set_option maxRecDepth 100000 in
theorem lead_spec (t la : Int) (A : Option Addr) (L : List PtyP) (c : Nat) (by' : Int) (g0 : FuncId) (fst cap : Array Value) (r : Nat → ResP) (w : World) (hz : SzP L) (hr : RdP w A L) (hr0 : ∀ k, findM by' (ptys L) = some k → (r k).2 ≠ 0 → (r k).1 = hal0)
    (hf : ∀ w2, Ext w w2 → validHal ⟨t, la, ptys L⟩ = true → ∀ k, findM by' (ptys L) = some k → ((ptys L).getD k pty0).leader = by' → ActsL w2 t la L k g0 fst cap (r k)) :
    Ret Tryz.prog 44 [hv36 t la A L c, .int .i64 by', .func (.func g0) fst cap].toArray w (RP w (OutH (if validHal ⟨t, la, ptys L⟩ then leadR (ptys L) by' r else (hal0, 2)))) := by
  refine enterH Tryz.func44 rfl rfl Tryz.ntmps44 rfl (Wd.refl _) ?_
  (repeat' (first | (show VH _ _ _ _ _ _ _; first | refine v_seq ?_ | refine r_seq ?_) | (show SH _ _ _ _ _ (_ :: _) _ _ _; first | (show SH _ _ _ _ _ (⟨_, .assign _, _, _, _, _⟩ :: _) _ _ _; refine asg evL ?_) | (show SH _ _ _ _ _ (⟨_, .load _ _, _, _, _, _⟩ :: _) _ _ _; refine lba rfl spL (by rfl) ?_) | (show SH _ _ _ _ _ (⟨_, .makeFunc _ _ _, _, _, _, _⟩ :: _) _ _ _; refine mf2 evL evL ?_) | refine ala rfl (fun b => ?_) | (show SH _ _ _ _ _ (⟨_, .box _ _, _, _, _, _⟩ :: _) _ _ _; refine bxx rfl evL rfl (fun b => ?_))) | refine s_nil ?_ | refine kh_normal ?_))
  rename_i b3 b4 b5
  refine cp rfl (fun w2 hw => change_spec t la A L c 86 #[] #[.pointer (some ⟨b4, 0, none⟩), .pointer (some ⟨b5, 0, none⟩)] _ w2 hz (hr.ext hw.ext) (leadR0 hr0) (fun hv => lead1_spec t la L by' _ _ g0 fst cap r w2 (valid_iff.1 hv).nd (hw.cell (cs := [.int .i64 by']) spL rfl) (hw.cell (cs := [.func (.func g0) fst cap]) spL rfl) (hf w2 hw.ext hv))) rfl rfl ?_
  rintro _ _ ⟨A1, c1, L1, hp1, rfl, rfl⟩
  (repeat' (first | refine v_ret ?_ | (show SH _ _ _ _ _ (_ :: _) _ _ _; first | (show SH _ _ _ _ _ (⟨_, .assign _, _, _, _, _⟩ :: _) _ _ _; refine asg evL ?_) | refine extr rfl rfl ?_ | (show SH _ _ _ _ _ (⟨_, .store _ _ _, _, _, _, _⟩ :: _) _ _ _; refine sta rfl rfl rfl spL (by rfl) (by rfl) (by rfl) kpL ?_)) | refine s_nil ?_ | refine kh_normal ?_))
  exact rhC2 rfl rfl rfl rfl (fun w hw => loadVar_bx hw spL (by rfl)) ⟨A1, c1, L1, hp1, rfl, rfl⟩ enL
end Go.Proofs.YtlfbcoohfnoacaaGreat
