/- Package interest: Own, Visible, Sees, Watchers. -/
import Derived.Test.YtjefoecnciepmaaDoorZTw
import Derived.Test.YtjefoecnciepmaaDoorZId
import Derived.Test.YtjefoecnciepmaaDoorZSe
set_option linter.unusedSimpArgs false
set_option linter.unusedVariables false
namespace Go.Proofs.YtjefoecnciepmaaDoor
open Go.Fw Go.RowKit
set_option maxHeartbeats 1000000 in
set_option maxRecDepth 100000 in
theorem idsFun (w : World) (b : Nat) (g0 : FuncId) (fst cap : Array Value) (bb : EntP → Bool) (l : List EntP) (hk : Rd w (some ⟨b, 0, none⟩) [(⟨g0, fst, cap⟩ : FnV)])
    (hp : ∀ w', Ext w w' → ∀ x ∈ l, Ret Tryd.prog g0 (fst.toList ++ [Value.agg (Flat.enc x).toArray] ++ cap.toList).toArray w' (Out w' (.bool (bb x)))) :
    Fun1 Tryd.prog w (.func (.func 43) #[] #[.pointer (some ⟨b, 0, none⟩)]) (fun x : EntP => .agg (Flat.enc x).toArray) (fun x => .tuple #[.int .i64 (idE x), .bool (bb x)]) (· ∈ l) := fun1_cap fun w' he x hx => by
  have hp' := fun w'' (he' : Ext w' w'') => hp w'' (he.trans he') x hx
  have hk' := hk.ext he
  generalize bb x = q at hp' ⊢
  refine enterH Tryd.func43 rfl rfl Tryd.ntmps43 rfl (Wd.refl _) ?_
  (repeat' (first | (show VH _ _ _ _ _ _ _; first | refine v_seq ?_ | refine r_seq ?_ | refine r_quiet hmix (by kernel_rfl) ?_ | refine v_ret ?_) | (show SH _ _ _ _ _ (_ :: _) _ _ _; first | (show SH _ _ _ _ _ (⟨_, .assign _, _, _, _, _⟩ :: _) _ _ _; refine asg evL ?_) | (show SH _ _ _ _ _ (⟨_, .load _ _, _, _, _, _⟩ :: _) _ _ _; first | refine lbx rfl spL (by rfl) ?_ | refine lba rfl spL (by rfl) ?_ | refine lcs rfl (fun _ _ => rdX) (by rfl) ?_) | (show SH _ _ _ _ _ (⟨_, .call ⟨.value (.tmp _), _, _⟩, _, _, _, _⟩ :: _) _ _ _; refine cl (callee := .tmp _) rfl (fun w hw => hp' _ hw.ext) rfl rfl ?_) | refine fad rfl ?_ | (show SH _ _ _ _ _ (⟨_, .box _ _, _, _, _, _⟩ :: _) _ _ _; refine bxx rfl evL rfl (fun b => ?_))) | refine s_nil ?_ | refine kh_normal ?_))
  exact rh2 rfl rfl rfl ⟨rfl, rfl⟩ (ent_nil _)
set_option maxHeartbeats 1000000 in
set_option maxRecDepth 100000 in
theorem ids_spec (t : Int) (A : Option Addr) (l : List EntP) (c1 : Nat) (fv : Value) (bb : EntP → Bool) (w : World) (hl : l.length ≤ 1000000) (hr : Rd w A l) (hp : AsksL w fv l bb) :
    Ret Tryd.prog 28 [wv t A l c1, fv].toArray w (RP w (Fresh 3 ((l.filter bb).map idE))) := by
  obtain ⟨g0, fst, cap, rfl, hp⟩ := hp
  have hF := fun w' (he : Ext w w') b hk => filterI_spec A l c1 _ idE bb w' hl (hr.ext he) (idsFun w' b g0 fst cap bb l hk (fun w'' he' x hx => hp w'' (he.trans he') x hx))
  unfold wv
  clear hp
  generalize (l.filter bb).map idE = L at hF ⊢
  refine enterH Tryd.func28 rfl rfl Tryd.ntmps28 rfl (Wd.refl _) ?_
  (repeat' (first | (show VH _ _ _ _ _ _ _; first | refine v_seq ?_ | refine r_seq ?_) | (show SH _ _ _ _ _ (_ :: _) _ _ _; first | (show SH _ _ _ _ _ (⟨_, .assign _, _, _, _, _⟩ :: _) _ _ _; refine asg evL ?_) | (show SH _ _ _ _ _ (⟨_, .load _ _, _, _, _, _⟩ :: _) _ _ _; refine lbx rfl spL (by rfl) ?_) | (show SH _ _ _ _ _ (⟨_, .call ⟨.value (.func 42), _, _⟩, _, _, _, _⟩ :: _) _ _ _; refine cp (callee := .func 42) rfl (fun w hw => hF _ hw.ext _ (rd_box hw spL rfl)) rfl rfl ?_) | refine fad rfl ?_ | (show SH _ _ _ _ _ (⟨_, .makeFunc _ _ _, _, _, _, _⟩ :: _) _ _ _; refine mf1 evL ?_) | (show SH _ _ _ _ _ (⟨_, .box _ _, _, _, _, _⟩ :: _) _ _ _; refine bxx rfl evL rfl (fun b => ?_))) | refine s_nil ?_ | refine kh_normal ?_))
  rintro _ _ ⟨A1, c2, rfl, rfl⟩
  (repeat' (first | refine v_ret ?_ | (show SH _ _ _ _ _ (_ :: _) _ _ _; (show SH _ _ _ _ _ (⟨_, .assign _, _, _, _, _⟩ :: _) _ _ _; refine asg evL ?_)) | refine s_nil ?_ | refine kh_normal ?_))
  exact rh1 rfl rfl ⟨A1, c2, rfl, rfl⟩ enL
/-- May a client look at a world? -/
abbrev OkI (ct t : Int) (es : List Ent1) : Prop := (1 ≤ ct ∧ ct ≤ 8) ∧ ValidW t es
def errI (ct t : Int) (es : List Ent1) : Int := if OkI ct t es then 0 else 2
def ownL (ct t : Int) (es : List Ent1) : List Int := if OkI ct t es then (es.filter (ownsE ct)).map Ent1.id else []
def visL (ct t : Int) (es : List Ent1) : List Int := if OkI ct t es then (es.filter (seesE ct.toNat (ptsE ct es))).map Ent1.id else []
theorem ids_ents (b : Ent1 → Bool) (l : List EntP) : (l.filter fun x => b x.e).map idE = ((ents l).filter b).map Ent1.id := by
  unfold ents
  rw [List.filter_map, List.map_map]; rfl
theorem pts_len (ct : Int) (es : List Ent1) : (ptsE ct es).length ≤ es.length := by
  unfold ptsE
  rw [List.length_map]
  exact List.length_filter_le _ _
theorem ents_len (l : List EntP) : (ents l).length = l.length := by simp [ents]
set_option maxHeartbeats 1000000 in
set_option maxRecDepth 100000 in
theorem ownI_spec (ct t : Int) (A : Option Addr) (l : List EntP) (c1 : Nat) (w : World) (hG : Glob w) (hs : Sz l) (hr : RdW w A l) :
    Ret Tryd.prog 18 [wv t A l c1, .int .i64 ct].toArray w (RP w (FreshE 3 (ownL ct t (ents l)) (errI ct t (ents l)))) := by
  have hO := fun w' (he : Ext w w') => open_spec ct t A l c1 w' (hG.ext he) hs (hr.ext he)
  unfold OpenR at hO
  unfold ownL errI
  by_cases hv : OkI ct t (ents l)
  · simp only [if_pos hv] at hO ⊢
    have hl : l.length ≤ 64 := by have := hv.2.len; rwa [ents_len] at this
    have hI := fun w' (he : Ext w w') A1 m1 c2 => ids_spec t A l c1 (.func (.func 32) #[.agg #[.int .i64 ct, .slice A1 m1 c2]] #[]) (fun x => ownsE ct x.e) w' (by omega) (hr.1.ext he)
      (fun1_fst fun w'' he' x hx => owns_spec ct A1 m1 c2 x w'' (hs.el x hx) ((hr.2 x hx).ext (he.trans he')))
    rw [ids_ents (ownsE ct) l] at hI
    generalize ((ents l).filter (ownsE ct)).map Ent1.id = L at hI ⊢
    generalize ptsE ct (ents l) = ps at hO
    clear hv
    unfold wv at *
    refine enterH Tryd.func18 rfl rfl Tryd.ntmps18 rfl (Wd.refl _) ?_
    (repeat' (first | (show VH _ _ _ _ _ _ _; first | refine v_seq ?_ | refine r_seq ?_) | (show SH _ _ _ _ _ (_ :: _) _ _ _; first | (show SH _ _ _ _ _ (⟨_, .move _, _, _, _, _⟩ :: _) _ _ _; refine mov evL ?_) | (show SH _ _ _ _ _ (⟨_, .assign _, _, _, _, _⟩ :: _) _ _ _; refine asg evL ?_) | (show SH _ _ _ _ _ (⟨_, .load _ _, _, _, _, _⟩ :: _) _ _ _; refine lba rfl spL (by rfl) ?_) | (show SH _ _ _ _ _ (⟨_, .call ⟨.value (.func 27), _, _⟩, _, _, _, _⟩ :: _) _ _ _; refine cp (callee := .func 27) rfl (fun w hw => hO _ hw.ext) rfl rfl ?_) | (show SH _ _ _ _ _ (⟨_, .box _ _, _, _, _, _⟩ :: _) _ _ _; refine bxx rfl evL rfl (fun b => ?_))) | refine s_nil ?_ | refine kh_normal ?_))
    rintro _ _ ⟨A1, c2, rfl, rfl⟩
    (repeat' (first | (show VH _ _ _ _ _ _ _; first | refine v_seq ?_ | refine r_seq ?_ | refine v_skip ?_ | refine v_cond_f rfl tbL ?_) | (show SH _ _ _ _ _ (_ :: _) _ _ _; first | (show SH _ _ _ _ _ (⟨_, .move _, _, _, _, _⟩ :: _) _ _ _; refine mov evL ?_) | (show SH _ _ _ _ _ (⟨_, .assign _, _, _, _, _⟩ :: _) _ _ _; refine asg evL ?_) | (show SH _ _ _ _ _ (⟨_, .binOp .neq _ _ _ _, _, _, _, _⟩ :: _) _ _ _; refine neqF rfl rfl omD ?_) | (show SH _ _ _ _ _ (⟨_, .load _ _, _, _, _, _⟩ :: _) _ _ _; refine lba rfl spL (by rfl) ?_) | (show SH _ _ _ _ _ (⟨_, .call ⟨.value (.func 28), _, _⟩, _, _, _, _⟩ :: _) _ _ _; refine cp (callee := .func 28) rfl (fun w hw => hI _ hw.ext A1 _ c2) rfl rfl ?_) | refine extr rfl rfl ?_ | (show SH _ _ _ _ _ (⟨_, .makeFunc _ _ _, _, _, _, _⟩ :: _) _ _ _; refine mfb evL ?_) | refine ala rfl (fun b => ?_) | (show SH _ _ _ _ _ (⟨_, .store _ _ _, _, _, _, _⟩ :: _) _ _ _; refine sta rfl rfl rfl spL (by rfl) (by rfl) (by rfl) kpL ?_)) | refine s_nil ?_ | refine kh_normal ?_))
    rintro _ _ ⟨A2, c3, rfl, rfl⟩
    (repeat' (first | refine v_ret ?_ | (show SH _ _ _ _ _ (_ :: _) _ _ _; (show SH _ _ _ _ _ (⟨_, .assign _, _, _, _, _⟩ :: _) _ _ _; refine asg evL ?_)) | refine s_nil ?_ | refine kh_normal ?_))
    exact rh2 rfl rfl rfl ⟨A2, c3, rfl, rfl⟩ enL
  · simp only [if_neg hv] at hO ⊢
    clear hv
    unfold wv at *
    refine enterH Tryd.func18 rfl rfl Tryd.ntmps18 rfl (Wd.refl _) ?_
    (repeat' (first | (show VH _ _ _ _ _ _ _; first | refine v_seq ?_ | refine r_seq ?_) | (show SH _ _ _ _ _ (_ :: _) _ _ _; first | (show SH _ _ _ _ _ (⟨_, .move _, _, _, _, _⟩ :: _) _ _ _; refine mov evL ?_) | (show SH _ _ _ _ _ (⟨_, .assign _, _, _, _, _⟩ :: _) _ _ _; refine asg evL ?_) | (show SH _ _ _ _ _ (⟨_, .load _ _, _, _, _, _⟩ :: _) _ _ _; refine lba rfl spL (by rfl) ?_) | (show SH _ _ _ _ _ (⟨_, .call ⟨.value (.func 27), _, _⟩, _, _, _, _⟩ :: _) _ _ _; refine cp (callee := .func 27) rfl (fun w hw => hO _ hw.ext) rfl rfl ?_) | (show SH _ _ _ _ _ (⟨_, .box _ _, _, _, _, _⟩ :: _) _ _ _; refine bxx rfl evL rfl (fun b => ?_))) | refine s_nil ?_ | refine kh_normal ?_))
    rintro _ _ ⟨rfl, rfl⟩
    (repeat' (first | (show VH _ _ _ _ _ _ _; first | refine v_seq ?_ | refine r_seq ?_ | refine v_ret ?_ | refine v_cond_t rfl tbL ?_) | (show SH _ _ _ _ _ (_ :: _) _ _ _; first | (show SH _ _ _ _ _ (⟨_, .move _, _, _, _, _⟩ :: _) _ _ _; refine mov evL ?_) | (show SH _ _ _ _ _ (⟨_, .assign _, _, _, _, _⟩ :: _) _ _ _; refine asg evL ?_) | (show SH _ _ _ _ _ (⟨_, .binOp .neq _ _ _ _, _, _, _, _⟩ :: _) _ _ _; refine neqT rfl rfl omD ?_) | refine extr rfl rfl ?_ | refine ala rfl (fun b => ?_) | (show SH _ _ _ _ _ (⟨_, .store _ _ _, _, _, _, _⟩ :: _) _ _ _; refine sta rfl rfl rfl spL (by rfl) (by rfl) (by rfl) kpL ?_)) | refine s_nil ?_ | refine kh_normal ?_ | refine kh_ret ?_))
    exact rh2 rfl rfl rfl ⟨none, 0, rfl, rfl⟩ (ent_nilrow (ent_nil _))
set_option maxHeartbeats 1000000 in
set_option maxRecDepth 100000 in
theorem visI_spec (ct t : Int) (A : Option Addr) (l : List EntP) (c1 : Nat) (w : World) (hG : Glob w) (hs : Sz l) (hr : RdW w A l) :
    Ret Tryd.prog 11 [wv t A l c1, .int .i64 ct].toArray w (RP w (FreshE 3 (visL ct t (ents l)) (errI ct t (ents l)))) := by
  have hO := fun w' (he : Ext w w') => open_spec ct t A l c1 w' (hG.ext he) hs (hr.ext he)
  unfold OpenR at hO
  unfold visL errI
  by_cases hv : OkI ct t (ents l)
  · simp only [if_pos hv] at hO ⊢
    obtain ⟨⟨hc1, hc8⟩, hV⟩ := hv
    obtain ⟨cn, rfl⟩ : ∃ cn : Nat, ct = (cn : Int) := ⟨ct.toNat, by omega⟩
    rw [Int.toNat_natCast]
    have hl : l.length ≤ 64 := by have := hV.len; rwa [ents_len] at this
    have hin := pts_in (cl := (cn : Int)) hV.right
    have hpl := pts_len (cn : Int) (ents l)
    rw [ents_len] at hpl
    have hRE : ∀ x ∈ l, RightE x.e := fun x hx => hV.right _ (List.mem_map_of_mem hx)
    clear hV
    generalize ptsE (cn : Int) (ents l) = ps at hO hin hpl ⊢
    have hI := fun w' (he : Ext w w') A1 c2 (hps : Rd w' A1 ps) => ids_spec t A l c1 (.func (.func 29) #[.agg #[.int .i64 (cn : Int), .slice A1 ps.length c2]] #[]) (fun x => seesE cn ps x.e) w' (by omega) (hr.1.ext he)
      (fun1_fst fun w'' he' x hx => sees_spec cn (by omega) A1 ps c2 x w'' (hs.el x hx) ((hr.2 x hx).ext (he.trans he')) (hRE x hx) (hps.ext he') hin (by omega))
    rw [ids_ents (seesE cn ps) l] at hI
    generalize ((ents l).filter (seesE cn ps)).map Ent1.id = L at hI ⊢
    clear hin hRE
    unfold wv at *
    refine enterH Tryd.func11 rfl rfl Tryd.ntmps11 rfl (Wd.refl _) ?_
    (repeat' (first | (show VH _ _ _ _ _ _ _; first | refine v_seq ?_ | refine r_seq ?_) | (show SH _ _ _ _ _ (_ :: _) _ _ _; first | (show SH _ _ _ _ _ (⟨_, .move _, _, _, _, _⟩ :: _) _ _ _; refine mov evL ?_) | (show SH _ _ _ _ _ (⟨_, .assign _, _, _, _, _⟩ :: _) _ _ _; refine asg evL ?_) | (show SH _ _ _ _ _ (⟨_, .load _ _, _, _, _, _⟩ :: _) _ _ _; refine lba rfl spL (by rfl) ?_) | (show SH _ _ _ _ _ (⟨_, .call ⟨.value (.func 27), _, _⟩, _, _, _, _⟩ :: _) _ _ _; refine cp (callee := .func 27) rfl (fun w hw => hO _ hw.ext) rfl rfl ?_) | (show SH _ _ _ _ _ (⟨_, .box _ _, _, _, _, _⟩ :: _) _ _ _; refine bxx rfl evL rfl (fun b => ?_))) | refine s_nil ?_ | refine kh_normal ?_))
    rintro _ _ ⟨A1, c2, rfl, rfl⟩
    (repeat' (first | (show VH _ _ _ _ _ _ _; first | refine v_seq ?_ | refine r_seq ?_ | refine v_skip ?_ | refine v_cond_f rfl tbL ?_) | (show SH _ _ _ _ _ (_ :: _) _ _ _; first | (show SH _ _ _ _ _ (⟨_, .move _, _, _, _, _⟩ :: _) _ _ _; refine mov evL ?_) | (show SH _ _ _ _ _ (⟨_, .assign _, _, _, _, _⟩ :: _) _ _ _; refine asg evL ?_) | (show SH _ _ _ _ _ (⟨_, .binOp .neq _ _ _ _, _, _, _, _⟩ :: _) _ _ _; refine neqF rfl rfl omD ?_) | (show SH _ _ _ _ _ (⟨_, .load _ _, _, _, _, _⟩ :: _) _ _ _; refine lba rfl spL (by rfl) ?_) | (show SH _ _ _ _ _ (⟨_, .call ⟨.value (.func 28), _, _⟩, _, _, _, _⟩ :: _) _ _ _; refine cp (callee := .func 28) rfl (fun w hw => hI _ hw.ext A1 c2 (hw.rd spL)) rfl rfl ?_) | refine extr rfl rfl ?_ | (show SH _ _ _ _ _ (⟨_, .makeFunc _ _ _, _, _, _, _⟩ :: _) _ _ _; refine mfb evL ?_) | refine ala rfl (fun b => ?_) | (show SH _ _ _ _ _ (⟨_, .store _ _ _, _, _, _, _⟩ :: _) _ _ _; refine sta rfl rfl rfl spL (by rfl) (by rfl) (by rfl) kpL ?_)) | refine s_nil ?_ | refine kh_normal ?_))
    rintro _ _ ⟨A2, c3, rfl, rfl⟩
    (repeat' (first | refine v_ret ?_ | (show SH _ _ _ _ _ (_ :: _) _ _ _; (show SH _ _ _ _ _ (⟨_, .assign _, _, _, _, _⟩ :: _) _ _ _; refine asg evL ?_)) | refine s_nil ?_ | refine kh_normal ?_))
    exact rh2 rfl rfl rfl ⟨A2, c3, rfl, rfl⟩ enL
  · simp only [if_neg hv] at hO ⊢
    clear hv
    unfold wv at *
    refine enterH Tryd.func11 rfl rfl Tryd.ntmps11 rfl (Wd.refl _) ?_
    (repeat' (first | (show VH _ _ _ _ _ _ _; first | refine v_seq ?_ | refine r_seq ?_) | (show SH _ _ _ _ _ (_ :: _) _ _ _; first | (show SH _ _ _ _ _ (⟨_, .move _, _, _, _, _⟩ :: _) _ _ _; refine mov evL ?_) | (show SH _ _ _ _ _ (⟨_, .assign _, _, _, _, _⟩ :: _) _ _ _; refine asg evL ?_) | (show SH _ _ _ _ _ (⟨_, .load _ _, _, _, _, _⟩ :: _) _ _ _; refine lba rfl spL (by rfl) ?_) | (show SH _ _ _ _ _ (⟨_, .call ⟨.value (.func 27), _, _⟩, _, _, _, _⟩ :: _) _ _ _; refine cp (callee := .func 27) rfl (fun w hw => hO _ hw.ext) rfl rfl ?_) | (show SH _ _ _ _ _ (⟨_, .box _ _, _, _, _, _⟩ :: _) _ _ _; refine bxx rfl evL rfl (fun b => ?_))) | refine s_nil ?_ | refine kh_normal ?_))
    rintro _ _ ⟨rfl, rfl⟩
    (repeat' (first | (show VH _ _ _ _ _ _ _; first | refine v_seq ?_ | refine r_seq ?_ | refine v_ret ?_ | refine v_cond_t rfl tbL ?_) | (show SH _ _ _ _ _ (_ :: _) _ _ _; first | (show SH _ _ _ _ _ (⟨_, .move _, _, _, _, _⟩ :: _) _ _ _; refine mov evL ?_) | (show SH _ _ _ _ _ (⟨_, .assign _, _, _, _, _⟩ :: _) _ _ _; refine asg evL ?_) | (show SH _ _ _ _ _ (⟨_, .binOp .neq _ _ _ _, _, _, _, _⟩ :: _) _ _ _; refine neqT rfl rfl omD ?_) | refine extr rfl rfl ?_ | refine ala rfl (fun b => ?_) | (show SH _ _ _ _ _ (⟨_, .store _ _ _, _, _, _, _⟩ :: _) _ _ _; refine sta rfl rfl rfl spL (by rfl) (by rfl) (by rfl) kpL ?_)) | refine s_nil ?_ | refine kh_normal ?_ | refine kh_ret ?_))
    exact rh2 rfl rfl rfl ⟨none, 0, rfl, rfl⟩ (ent_nilrow (ent_nil _))
end Go.Proofs.YtjefoecnciepmaaDoor
