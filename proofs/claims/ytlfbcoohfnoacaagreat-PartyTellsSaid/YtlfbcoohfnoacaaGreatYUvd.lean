/- Package party: parties and halls in memory of their own. -/
import Derived.Test.YtlfbcoohfnoacaaGreatYTwp
import Derived.Test.YtlfbcoohfnoacaaGreatYMp
import Derived.Test.YtlfbcoohfnoacaaGreatYWz
import Derived.Test.YtlfbcoohfnoacaaGreatYUvc
set_option linter.unusedSimpArgs false
set_option linter.unusedVariables false
namespace Go.Proofs.YtlfbcoohfnoacaaGreat
open Go.Fw Go.RowKit
/-- A party's members, and its invitations, in rows of their own. -/
abbrev rowM (x : PtyP) : HP := orow 3 x.A x.ca x.p.mem
abbrev rowI (x : PtyP) : HP := orow 61 x.B x.cb x.p.inv
def OwnPt (p : Pty) (v : Value) (H : List HP) : Prop := ∃ y : PtyP, y.p = p ∧ v = .agg (Flat.enc y).toArray ∧ H = [rowM y, rowI y]
set_option maxHeartbeats 1000000 in
set_option maxRecDepth 100000 in
theorem ownPt_spec (x : PtyP) (w : World) (hl : x.p.mem.length ≤ 1000000) (hl2 : x.p.inv.length ≤ 1000000) (hr : Rd w x.A x.p.mem) (hr2 : Rd w x.B x.p.inv) : Ret Tryz.prog 50 [.agg (Flat.enc x).toArray].toArray w (RP w (OwnPt x.p)) := by
  have hM := fun w' (he : Ext w w') => clone_spec x.A x.p.mem x.ca w' hl (hr.ext he)
  have hI := fun w' (he : Ext w w') => cloneIv_spec x.B x.p.inv x.cb w' hl2 (hr2.ext he)
  obtain ⟨⟨xi, xl, xm, xv⟩, xA, xca, xB, xcb⟩ := x
  unfold OwnPt
  simp only at hM hI hr hr2 hl hl2 ⊢
  rw [show Flat.enc (⟨⟨xi, xl, xm, xv⟩, xA, xca, xB, xcb⟩ : PtyP) = [.int .i64 xi, .int .i64 xl, .slice xA xm.length xca, .slice xB xv.length xcb] from rfl] at *
  refine enterH Tryz.func50 rfl rfl Tryz.ntmps50 rfl (Wd.refl _) ?_
  (repeat' (first | (show VH _ _ _ _ _ _ _; first | refine v_seq ?_ | refine r_seq ?_) | (show SH _ _ _ _ _ (_ :: _) _ _ _; first | refine ala rfl (fun b => ?_) | (show SH _ _ _ _ _ (⟨_, .box _ _, _, _, _, _⟩ :: _) _ _ _; refine bxx rfl evL rfl (fun b => ?_))) | refine s_nil ?_ | refine kh_normal ?_))
  refine r_heldT [] (tr [(0, true), (3, true)] (.fork 1 (tr [] (.fork 2 (tr [(4, false), (6, true), (5, false), (7, false), (8, false), (9, false)] .nil) 4 (tr [(2, false), (6, true), (5, false), (7, false), (8, false), (9, false)] .nil))) 4 (tr [(1, false), (2, false), (6, true), (5, false), (7, false), (8, false), (9, false)] .nil))) hmix (by kernel_rfl) (ent_nil _) ?_
  (repeat' (first | (show SH _ _ _ _ _ (_ :: _) _ _ _; first | (show SH _ _ _ _ _ (⟨_, .load _ _, _, _, _, _⟩ :: _) _ _ _; refine lbx rfl spL (by rfl) ?_) | (show SH _ _ _ _ _ (⟨_, .call ⟨.value (.func 90), _, _⟩, _, _, _, _⟩ :: _) _ _ _; refine cp (callee := .func 90) rfl (fun w hw => hM _ hw.ext) rfl rfl ?_) | refine fad rfl ?_) | refine s_fork ?_ ?_))
  all_goals
    rintro _ _ ⟨A1, a1, rfl, rfl⟩
    (repeat' ((show SH _ _ _ _ _ (_ :: _) _ _ _; first | (show SH _ _ _ _ _ (⟨_, .load _ _, _, _, _, _⟩ :: _) _ _ _; refine lbx rfl spL (by rfl) ?_) | (show SH _ _ _ _ _ (⟨_, .call ⟨.value (.func 91), _, _⟩, _, _, _, _⟩ :: _) _ _ _; refine cp (callee := .func 91) rfl (fun w hw => hI _ hw.ext) rfl rfl ?_) | refine fad rfl ?_)))
    rintro _ _ ⟨B1, b1, rfl, rfl⟩
    (repeat' (first | (show VH _ _ _ _ _ _ _; first | refine v_seq ?_ | refine r_seq ?_ | refine v_ret ?_) | (show SH _ _ _ _ _ (_ :: _) _ _ _; first | (show SH _ _ _ _ _ (⟨_, .load _ _, _, _, _, _⟩ :: _) _ _ _; refine lba rfl spL (by rfl) ?_) | refine fad rfl ?_ | (show SH _ _ _ _ _ (⟨_, .store _ _ _, _, _, _, _⟩ :: _) _ _ _; first | refine stb rfl rfl evL spL rfl rfl (by first | decide | exact Nat.zero_lt_succ _ | exact of_decide_eq_true rfl) kpL ?_ | refine sta rfl rfl rfl spL (by rfl) (by rfl) (by rfl) kpL ?_)) | refine s_nil ?_ | refine kh_normal ?_))
    exact rhC rfl rfl rfl (fun w hw => loadVar_bx hw spL (by rfl)) ⟨⟨⟨xi, xl, xm, xv⟩, A1, a1, B1, b1⟩, rfl, rfl, rfl⟩ enL
/-- A hall in memory of its own. -/
abbrev ownR36 (A : Option Addr) (c : Nat) (L : List PtyP) : List HP := [orow 46 A c L, allH (L.map rowM), allH (L.map rowI)]
def OwnH (t la : Int) (ps : List Pty) (v : Value) (H : List HP) : Prop := ∃ A c L, ptys L = ps ∧ v = hv36 t la A L c ∧ H = ownR36 A c L
theorem ptys_take (L : List PtyP) (k : Nat) : ptys (L.take k) = (ptys L).take k := List.map_take ..
set_option maxHeartbeats 1000000 in
set_option maxRecDepth 100000 in
theorem ownH_spec (t la : Int) (A : Option Addr) (L : List PtyP) (c : Nat) (w : World) (hz : SzP L) (hr : RdP w A L) : Ret Tryz.prog 92 [hv36 t la A L c].toArray w (RP w (OwnH t la (ptys L))) := by
  have hrA := hr.1
  have hll := hz.len
  refine enterH Tryz.func92 rfl rfl Tryz.ntmps92 rfl (Wd.refl _) ?_
  (repeat' (first | (show VH _ _ _ _ _ _ _; first | refine v_seq ?_ | refine r_seq ?_) | (show SH _ _ _ _ _ (_ :: _) _ _ _; first | (show SH _ _ _ _ _ (⟨_, .load _ _, _, _, _, _⟩ :: _) _ _ _; refine lbx rfl spL (by rfl) ?_) | (show SH _ _ _ _ _ (⟨_, .call ⟨.value (.func 109), _, _⟩, _, _, _, _⟩ :: _) _ _ _; refine cp (callee := .func 109) rfl (fun w hw => clonePt_spec A L c w (by omega) (hrA.ext hw.ext)) rfl rfl ?_) | refine fad rfl ?_ | refine ala rfl (fun b => ?_) | (show SH _ _ _ _ _ (⟨_, .box _ _, _, _, _, _⟩ :: _) _ _ _; refine bxx rfl evL rfl (fun b => ?_))) | refine s_nil ?_ | refine kh_normal ?_))
  rintro _ _ ⟨A1, c1, rfl, rfl⟩
  (repeat' (first | (show VH _ _ _ _ _ _ _; first | refine v_seq ?_ | refine r_seq ?_ | refine v_block ?_) | (show SH _ _ _ _ _ (_ :: _) _ _ _; first | (show SH _ _ _ _ _ (⟨_, .move _, _, _, _, _⟩ :: _) _ _ _; refine mov evL ?_) | (show SH _ _ _ _ _ (⟨_, .load _ _, _, _, _, _⟩ :: _) _ _ _; refine lbx rfl spL (by rfl) ?_) | refine slen rfl ?_ | refine fad rfl ?_ | (show SH _ _ _ _ _ (⟨_, .store _ _ _, _, _, _, _⟩ :: _) _ _ _; refine stb rfl rfl evL spL rfl rfl (by first | decide | exact Nat.zero_lt_succ _ | exact of_decide_eq_true rfl) kpL ?_)) | refine s_nil ?_ | refine kh_normal ?_))
  rename_i b1
  revert b
  intro b2
  refine v_norm [(1,_),(2,_),(10,_),(11,_),(12,_)] heL (fun g => ?_)
  refine VH.ent (G := [allH (([] : List PtyP).map rowM), allH (([] : List PtyP).map rowI), orow 46 A1 c1 ([] ++ L.drop 0), bx b1 24 [.int .i64 t, .int .i64 la, .slice A1 L.length c1], bx b2 24 [.int .i64 0, .int .i64 0, .slice none 0 0]]) ?_ (ent_all_nil (ent_all_nil enL))
  refine v_loop [(3,4),(12,23)] (fun y : Nat × List PtyP => [(12, .int .i64 y.1)]) (fun y => [allH (y.2.map rowM), allH (y.2.map rowI), orow 46 A1 c1 (y.2 ++ L.drop y.1), bx b1 24 [.int .i64 t, .int .i64 la, .slice A1 L.length c1], bx b2 24 [.int .i64 0, .int .i64 0, .slice none 0 0]]) (fun y => y.1 ≤ L.length ∧ ptys y.2 = (ptys L).take y.1) (fun y => L.length - y.1) (0, []) hsL (ent_refl _) ⟨Nat.zero_le _, by simp [ptys]⟩ ?_
  rintro ⟨k, M⟩ g ⟨hk, hM⟩
  simp only [sets]
  simp only at hk hM
  have hMl : M.length = k := by
    have := congrArg List.length hM
    rw [ptys_len, List.length_take, ptys_len] at this; omega
  by_cases hkl : k < L.length
  · have hxg : (M ++ L.drop k).getD k Flat.dflt = L.getD k Flat.dflt := by
      rw [List.getD_eq_getElem?_getD, List.getElem?_append_right (by omega), List.getElem?_drop, hMl, Nat.sub_self, Nat.add_zero, ← List.getD_eq_getElem?_getD]
    have hDl : (M ++ L.drop k).length = L.length := by rw [List.length_append, List.length_drop]; omega
    have hset : ∀ y, (M ++ L.drop k).set k y = (M ++ [y]) ++ L.drop (k + 1) := fun y => by
      rw [drop_cons (d := Flat.dflt) hkl, List.set_append_right _ _ (by omega), hMl, Nat.sub_self, List.set_cons_zero, List.append_assoc]; rfl
    have hM1 : ∀ y : PtyP, y.p = (L.getD k Flat.dflt).p → ptys (M ++ [y]) = (ptys L).take (k + 1) := fun y hy => by
      rw [ptys_snoc, hM, take_snoc (d := pty0) (by rw [ptys_len]; exact hkl), ptys_at hkl, hy]
    obtain ⟨x, hx⟩ : ∃ x, L.getD k Flat.dflt = x := ⟨_, rfl⟩
    have hO := fun w h1 h2 => ownPt_spec x w (by rw [← hx]; have := hz.atm hkl; omega) (by rw [← hx]; have := hz.ati hkl; omega) h1 h2
    have hm := hr.mem hkl
    have hi := hr.inv hkl
    rw [hx] at hm hi hxg hM1
    have hxE : Flat.enc ((M ++ L.drop k).getD k Flat.dflt) = Flat.enc x := by rw [hxg]
    clear hx hxg hz hr hM
    generalize M ++ L.drop k = D at hxE hDl hset ⊢
    obtain ⟨⟨xi, xl, xm, xv⟩, xA, xca, xB, xcb⟩ := x
    simp only at hm hi hM1
    unfold OwnPt at hO
    rw [show Flat.enc (⟨⟨xi, xl, xm, xv⟩, xA, xca, xB, xcb⟩ : PtyP) = [.int .i64 xi, .int .i64 xl, .slice xA xm.length xca, .slice xB xv.length xcb] from rfl] at *
    (repeat' (first | (show VH _ _ _ _ _ _ _; first | refine v_seq ?_ | refine r_seq ?_ | refine v_block ?_ | refine v_skip ?_ | refine v_cond_t rfl tbL ?_) | (show SH _ _ _ _ _ (_ :: _) _ _ _; first | (show SH _ _ _ _ _ (⟨_, .move _, _, _, _, _⟩ :: _) _ _ _; refine mov evL ?_) | (show SH _ _ _ _ _ (⟨_, .assign _, _, _, _, _⟩ :: _) _ _ _; refine asg evL ?_) | (show SH _ _ _ _ _ (⟨_, .binOp .lss _ _ _ _, _, _, _, _⟩ :: _) _ _ _; refine lssT rfl rfl omD ?_) | (show SH _ _ _ _ _ (⟨_, .load _ _, _, _, _, _⟩ :: _) _ _ _; refine lag rfl (fun _ _ => rdP) (by rfl) omL (by assumption) ?_) | (show SH _ _ _ _ _ (⟨_, .indexAddr _ _ _, _, _, _, _⟩ :: _) _ _ _; refine ix rfl rfl (by with_reducible rfl) (fun _ _ => rdP) (by rfl) omL omL ?_) | refine ala rfl (fun b => ?_) | (show SH _ _ _ _ _ (⟨_, .store _ _ _, _, _, _, _⟩ :: _) _ _ _; refine sta rfl rfl rfl spL (by rfl) (by rfl) (by rfl) kpL ?_)) | refine s_nil ?_ | refine kh_normal ?_))
    revert b
    intro b4
    refine r_heldT [bx b1 24 _, bx b4 46 _] (tr [(0, true), (1, true), (2, true), (3, false), (4, false), (5, false), (6, false)] .nil) hmix (by kernel_rfl) enL ?_
    (repeat' ((show SH _ _ _ _ _ (_ :: _) _ _ _; first | (show SH _ _ _ _ _ (⟨_, .move _, _, _, _, _⟩ :: _) _ _ _; refine mov evL ?_) | (show SH _ _ _ _ _ (⟨_, .load _ _, _, _, _, _⟩ :: _) _ _ _; first | refine lbx rfl spL (by rfl) ?_ | refine lba rfl spL (by rfl) ?_) | (show SH _ _ _ _ _ (⟨_, .call ⟨.value (.func 50), _, _⟩, _, _, _, _⟩ :: _) _ _ _; refine cp (callee := .func 50) rfl (fun w hw => hO _ (hm.ext hw.ext) (hi.ext hw.ext)) rfl rfl ?_) | refine fad rfl ?_)))
    rintro _ _ ⟨y, hyp, rfl, rfl⟩
    (repeat' ((show SH _ _ _ _ _ (_ :: _) _ _ _; (show SH _ _ _ _ _ (⟨_, .indexAddr _ _ _, _, _, _, _⟩ :: _) _ _ _; refine ix rfl rfl (by with_reducible rfl) (fun _ _ => rdP) (by rfl) omL omL ?_))))
    refine stv y rfl rfl rfl spL rfl (by omega) rfl enL ?_
    rw [hset]
    (repeat' (first | refine r_seq ?_ | (show SH _ _ _ _ _ (_ :: _) _ _ _; first | (show SH _ _ _ _ _ (⟨_, .move _, _, _, _, _⟩ :: _) _ _ _; refine mov evL ?_) | (show SH _ _ _ _ _ (⟨_, .binOp .add _ _ _ _, _, _, _, _⟩ :: _) _ _ _; refine add rfl rfl inL ?_)) | refine s_nil ?_ | refine kh_normal ?_ | refine bh_normal ?_))
    refine ⟨agL, (k + 1, M ++ [y]), hsL, ?_, ⟨hkl, hM1 y hyp⟩, by show L.length - (k + 1) < L.length - k; omega⟩
    exact Ent.trans (B := [rowM y, allH (M.map rowM), rowI y, allH (M.map rowI), orow 46 A1 c1 ((M ++ [y]) ++ L.drop (k + 1)), bx b1 24 [.int .i64 t, .int .i64 la, .slice A1 L.length c1], bx b2 24 [.int .i64 0, .int .i64 0, .slice none 0 0]]) enL (ent_all_snoc.trans (ent_cons Split.head ent_all_snoc))
  · have hkE : k = L.length := by omega
    subst hkE
    rw [List.drop_of_length_le (by omega), List.append_nil]
    have hMp : ptys M = ptys L := by rw [hM, ← ptys_len, List.take_length]
    rw [← hMl]
    (repeat' (first | (show VH _ _ _ _ _ _ _; first | refine v_seq ?_ | refine r_seq ?_ | refine v_ret ?_ | refine v_exit ?_ | refine v_cond_f rfl tbL ?_) | (show SH _ _ _ _ _ (_ :: _) _ _ _; first | (show SH _ _ _ _ _ (⟨_, .binOp .lss _ _ _ _, _, _, _, _⟩ :: _) _ _ _; refine lssF rfl rfl omD ?_) | (show SH _ _ _ _ _ (⟨_, .load _ _, _, _, _, _⟩ :: _) _ _ _; refine lba rfl spL (by rfl) ?_) | (show SH _ _ _ _ _ (⟨_, .store _ _ _, _, _, _, _⟩ :: _) _ _ _; refine sta rfl rfl rfl spL (by rfl) (by rfl) (by rfl) kpL ?_)) | refine s_nil ?_ | refine kh_normal ?_ | refine kh_exit ?_ | refine bh_exit ?_))
    exact rhC rfl rfl rfl (fun w hw => loadVar_bx hw spL (by rfl)) ⟨A1, c1, M, hMp, rfl, rfl⟩ enL
end Go.Proofs.YtlfbcoohfnoacaaGreat
