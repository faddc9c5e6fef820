/- Package party: change, lead. -/
import Derived.Test.YtlfbcoohfnoacaaGreatYTwp
import Derived.Test.YtlfbcoohfnoacaaGreatYMp
import Derived.Test.YtlfbcoohfnoacaaGreatYWz
import Derived.Test.YtlfbcoohfnoacaaGreatYUve
set_option linter.unusedSimpArgs false
set_option linter.unusedVariables false
namespace Go.Proofs.YtlfbcoohfnoacaaGreat
open Go.Fw Go.RowKit
theorem szP_of {L M : List PtyP} (h : ptys M = ptys L) (hz : SzP L) : SzP M := by
  have key : ∀ {x : PtyP}, x ∈ M → ∃ y ∈ L, y.p = x.p := fun hx => by
    have : _ ∈ ptys M := List.mem_map_of_mem (f := PtyP.p) hx
    rw [h] at this
    exact List.mem_map.1 this
  refine ⟨?_, fun x hx => ?_, fun x hx => ?_⟩
  · have := congrArg List.length h
    rw [ptys_len, ptys_len] at this
    have := hz.len; omega
  · obtain ⟨y, hy, e⟩ := key hx; rw [← e]; exact hz.mem y hy
  · obtain ⟨y, hy, e⟩ := key hx; rw [← e]; exact hz.inv y hy
/-- A hall of one's own: its block, the rows of its parties, of their members and of their invitations. -/
abbrev hallH (bh : Nat) (t la : Int) (A : Option Addr) (c : Nat) (L : List PtyP) (H : List HP) : List HP := hb36 bh t la A L c :: orow 46 A c L :: allH (L.map rowM) :: allH (L.map rowI) :: H
/-- What a change does. -/
def ActR (r : ResP) (bh : Nat) (H : List HP) (v : Value) (H' : List HP) : Prop := v = .int .i64 r.2 ∧ if r.2 = 0 then ∃ A c L, ptys L = r.1.ps ∧ H' = hallH bh r.1.tick r.1.last A c L H else H' = H
/-- A change, which is made at a hall of its own. -/
def Acts (w : World) (t la : Int) (L0 : List PtyP) (g : FuncId) (fst cap : Array Value) (r : ResP) : Prop :=
  ∀ w' bh A c L H, SzP L → ptys L = ptys L0 → Wd w (hallH bh t la A c L H) w' → Ret Tryz.prog g (fst.toList ++ [Value.pointer (some ⟨bh, 0, none⟩)] ++ cap.toList).toArray w' (RP w (ActR r bh H))
theorem acts_of {w : World} {t la : Int} {L0 : List PtyP} {g : FuncId} {cap : List Value} {r : ResP} (h : ∀ w' bh A c L H, SzP L → ptys L = ptys L0 → Wd w (hallH bh t la A c L H) w' → Ret Tryz.prog g (Value.pointer (some ⟨bh, 0, none⟩) :: cap).toArray w' (RP w (ActR r bh H))) : Acts w t la L0 g #[] cap.toArray r := by
  intro w' bh A c L H hz hp hw
  have := h w' bh A c L H hz hp hw
  simpa using this
/-- A hall that comes out, and an error. -/
def OutH (r : ResP) (v : Value) (H' : List HP) : Prop := ∃ A c L, ptys L = r.1.ps ∧ v = .tuple #[hv36 r.1.tick r.1.last A L c, .int .i64 r.2] ∧ H' = ownR36 A c L
theorem ent_own0 {G : List HP} : Ent G (orow 46 none 0 ([] : List PtyP) :: allH (([] : List PtyP).map rowM) :: allH (([] : List PtyP).map rowI) :: []) := ent_nilrow (ent_all_nil (ent_all_nil (ent_nil _)))
set_option maxHeartbeats 1000000 in
set_option maxRecDepth 100000 in
theorem change_spec (t la : Int) (A : Option Addr) (L : List PtyP) (c : Nat) (g0 : FuncId) (fst cap : Array Value) (r : ResP) (w : World) (hz : SzP L) (hr : RdP w A L) (hr0 : r.2 ≠ 0 → r.1 = hal0) (hf : validHal ⟨t, la, ptys L⟩ = true → Acts w t la L g0 fst cap r) :
    Ret Tryz.prog 51 [hv36 t la A L c, .func (.func g0) fst cap].toArray w (RP w (OutH (if validHal ⟨t, la, ptys L⟩ then r else (hal0, 2)))) := by
  have hv := fun w hr => valid_spec t la A L c w hz hr
  cases hval : validHal ⟨t, la, ptys L⟩ with
  | false =>
    rw [hval] at hv
    refine enterH Tryz.func51 rfl rfl Tryz.ntmps51 rfl (Wd.refl _) ?_
    (repeat' (first | (show VH _ _ _ _ _ _ _; first | refine v_seq ?_ | refine r_seq ?_ | refine v_ret ?_ | refine v_cond_t rfl tbL ?_) | (show SH _ _ _ _ _ (_ :: _) _ _ _; first | (show SH _ _ _ _ _ (⟨_, .assign _, _, _, _, _⟩ :: _) _ _ _; refine asg evL ?_) | (show SH _ _ _ _ _ (⟨_, .load _ _, _, _, _, _⟩ :: _) _ _ _; refine lba rfl spL (by rfl) ?_) | (show SH _ _ _ _ _ (⟨_, .call ⟨.value (.func 8), _, _⟩, _, _, _, _⟩ :: _) _ _ _; refine cl (callee := .func 8) rfl (fun w hw => hv w (hr.ext hw.ext)) rfl rfl ?_) | refine bnoF rfl ?_ | refine bld rfl rfl ?_ | refine ala rfl (fun b => ?_) | (show SH _ _ _ _ _ (⟨_, .box _ _, _, _, _, _⟩ :: _) _ _ _; refine bxx rfl evL rfl (fun b => ?_)) | (show SH _ _ _ _ _ (⟨_, .store _ _ _, _, _, _, _⟩ :: _) _ _ _; refine sta rfl rfl rfl spL (by rfl) (by rfl) (by rfl) kpL ?_)) | refine s_nil ?_ | refine kh_normal ?_ | refine kh_ret ?_))
    exact rhC2 rfl rfl rfl rfl (fun w hw => loadVar_bx hw spL (by rfl)) ⟨none, 0, [], rfl, rfl, rfl⟩ ent_own0
  | true =>
    rw [hval] at hv
    have hf := hf hval
    have ho := fun w hr => ownH_spec t la A L c w hz hr
    rw [if_pos rfl]
    clear hval
    refine enterH Tryz.func51 rfl rfl Tryz.ntmps51 rfl (Wd.refl _) ?_
    (repeat' (first | (show VH _ _ _ _ _ _ _; first | refine v_seq ?_ | refine r_seq ?_ | refine v_skip ?_ | refine v_cond_f rfl tbL ?_) | (show SH _ _ _ _ _ (_ :: _) _ _ _; first | (show SH _ _ _ _ _ (⟨_, .assign _, _, _, _, _⟩ :: _) _ _ _; refine asg evL ?_) | (show SH _ _ _ _ _ (⟨_, .load _ _, _, _, _, _⟩ :: _) _ _ _; refine lba rfl spL (by rfl) ?_) | (show SH _ _ _ _ _ (⟨_, .call ⟨.value (.func 8), _, _⟩, _, _, _, _⟩ :: _) _ _ _; refine cl (callee := .func 8) rfl (fun w hw => hv w (hr.ext hw.ext)) rfl rfl ?_) | (show SH _ _ _ _ _ (⟨_, .call ⟨.value (.func 92), _, _⟩, _, _, _, _⟩ :: _) _ _ _; refine cp (callee := .func 92) rfl (fun w hw => ho w (hr.ext hw.ext)) rfl rfl ?_) | refine bnoT rfl ?_ | refine ala rfl (fun b => ?_) | (show SH _ _ _ _ _ (⟨_, .box _ _, _, _, _, _⟩ :: _) _ _ _; refine bxx rfl evL rfl (fun b => ?_))) | refine s_nil ?_ | refine kh_normal ?_))
    rintro _ _ ⟨A1, c1, L1, hp1, rfl, rfl⟩
    have hz1 := szP_of hp1 hz
    rename_i b2
    revert b
    intro b4
    (repeat' (first | (show VH _ _ _ _ _ _ _; first | refine v_seq ?_ | refine r_seq ?_) | (show SH _ _ _ _ _ (_ :: _) _ _ _; first | (show SH _ _ _ _ _ (⟨_, .move _, _, _, _, _⟩ :: _) _ _ _; refine mov evL ?_) | (show SH _ _ _ _ _ (⟨_, .store _ _ _, _, _, _, _⟩ :: _) _ _ _; refine sta rfl rfl rfl spL (by rfl) (by rfl) (by rfl) kpL ?_)) | refine s_nil ?_ | refine kh_normal ?_))
    refine cm rfl (fun w hw => hf w b2 A1 c1 L1 [bx b4 24 [.int .i64 0, .int .i64 0, .slice none 0 0]] hz1 hp1 (Ent.wd enL hw)) rfl rfl ?_
    rintro _ _ ⟨rfl, hH⟩
    obtain ⟨⟨rt, rl, rp⟩, e⟩ := r
    simp only at hH hr0 ⊢
    by_cases he : e = 0
    · subst he
      rw [if_pos rfl] at hH
      obtain ⟨A2, c2, L2, hp2, rfl⟩ := hH
      refine ⟨trivial, ?_⟩
      (repeat' (first | (show VH _ _ _ _ _ _ _; first | refine v_seq ?_ | refine r_seq ?_ | refine v_ret ?_ | refine v_skip ?_ | refine v_cond_f rfl tbL ?_) | (show SH _ _ _ _ _ (_ :: _) _ _ _; first | (show SH _ _ _ _ _ (⟨_, .move _, _, _, _, _⟩ :: _) _ _ _; refine mov evL ?_) | (show SH _ _ _ _ _ (⟨_, .assign _, _, _, _, _⟩ :: _) _ _ _; refine asg evL ?_) | (show SH _ _ _ _ _ (⟨_, .binOp .neq _ _ _ _, _, _, _, _⟩ :: _) _ _ _; refine neqF rfl rfl omD ?_) | (show SH _ _ _ _ _ (⟨_, .load _ _, _, _, _, _⟩ :: _) _ _ _; refine lba rfl spL (by rfl) ?_) | (show SH _ _ _ _ _ (⟨_, .store _ _ _, _, _, _, _⟩ :: _) _ _ _; refine sta rfl rfl rfl spL (by rfl) (by rfl) (by rfl) kpL ?_)) | refine s_nil ?_ | refine kh_normal ?_))
      exact rhC2 rfl rfl rfl rfl (fun w hw => loadVar_bx hw spL (by rfl)) ⟨A2, c2, L2, hp2, rfl, rfl⟩ enL
    · rw [if_neg he] at hH
      subst hH
      refine ⟨trivial, ?_⟩
      have h0 := hr0 he
      rw [h0]
      (repeat' (first | (show VH _ _ _ _ _ _ _; first | refine v_seq ?_ | refine r_seq ?_ | refine v_ret ?_ | refine v_cond_t rfl tbL ?_) | (show SH _ _ _ _ _ (_ :: _) _ _ _; first | (show SH _ _ _ _ _ (⟨_, .move _, _, _, _, _⟩ :: _) _ _ _; refine mov evL ?_) | (show SH _ _ _ _ _ (⟨_, .assign _, _, _, _, _⟩ :: _) _ _ _; refine asg evL ?_) | (show SH _ _ _ _ _ (⟨_, .binOp .neq _ _ _ _, _, _, _, _⟩ :: _) _ _ _; refine neqT rfl rfl omD ?_) | refine bld rfl rfl ?_ | (show SH _ _ _ _ _ (⟨_, .store _ _ _, _, _, _, _⟩ :: _) _ _ _; refine sta rfl rfl rfl spL (by rfl) (by rfl) (by rfl) kpL ?_)) | refine s_nil ?_ | refine kh_normal ?_ | refine kh_ret ?_))
      exact rhC2 rfl rfl rfl rfl (fun w hw => loadVar_bx hw spL (by rfl)) ⟨none, 0, [], rfl, rfl, rfl⟩ ent_own0
end Go.Proofs.YtlfbcoohfnoacaaGreat
