/- Package store: an entity is found, and copied. -/
import Derived.Test.YtfodpcpclmnbkaaDoorZTw
import Derived.Test.YtfodpcpclmnbkaaDoorZSb
set_option linter.unusedSimpArgs false
set_option linter.unusedVariables false
namespace Go.Proofs.YtfodpcpclmnbkaaDoor
open Go.Fw Go.RowKit
/-- A function value in memory. -/
structure FnV where
  g : FuncId
  fst : Array Value
  cap : Array Value
instance : Flat FnV := ⟨1, fun x => [.func (.func x.g) x.fst x.cap], ⟨0, #[], #[]⟩, fun _ => rfl, fun x v hv => by simp at hv; subst hv; rfl, by omega⟩
instance : TOne Tryd.prog 83 .nilFunc := ⟨fun w => by kernel_rfl, fun w => by kernel_rfl, fun w => by kernel_rfl, rfl⟩
instance : TOne Tryd.prog 57 .nilFunc := ⟨fun w => by kernel_rfl, fun w => by kernel_rfl, fun w => by kernel_rfl, rfl⟩
set_option maxHeartbeats 1000000 in
set_option maxRecDepth 100000 in
theorem placeE1_spec (x : EntP) (k : Int) (b : Nat) (g0 : FuncId) (fst cap : Array Value) (i : Int) (w : World) (hk : Rd w (some ⟨b, 0, none⟩) [(⟨g0, fst, cap⟩ : FnV)])
    (hp : ∀ w', Ext w w' → Ret Tryd.prog g0 (fst.toList ++ [Value.agg (Flat.enc x).toArray] ++ cap.toList).toArray w' (Out w' (.int .i64 i))) :
    Ret Tryd.prog 77 [.agg (Flat.enc x).toArray, .int .i64 k, .pointer (some ⟨b, 0, none⟩)].toArray w (Out w (.int .i64 (cmpI i k))) := by
  refine enterH Tryd.func77 rfl rfl Tryd.ntmps77 rfl (Wd.refl _) ?_
  (repeat' (first | (show VH _ _ _ _ _ _ _; first | refine v_seq ?_ | refine r_seq ?_ | refine v_ret ?_) | (show SH _ _ _ _ _ (_ :: _) _ _ _; first | (show SH _ _ _ _ _ (⟨_, .move _, _, _, _, _⟩ :: _) _ _ _; refine mov evL ?_) | (show SH _ _ _ _ _ (⟨_, .assign _, _, _, _, _⟩ :: _) _ _ _; refine asg evL ?_) | (show SH _ _ _ _ _ (⟨_, .load _ _, _, _, _, _⟩ :: _) _ _ _; first | refine lba rfl spL (by rfl) ?_ | refine lcs rfl (fun _ _ => rdX) (by rfl) ?_) | (show SH _ _ _ _ _ (⟨_, .call ⟨.value (.tmp _), _, _⟩, _, _, _, _⟩ :: _) _ _ _; refine cl (callee := .tmp _) rfl (fun w hw => hp _ hw.ext) rfl rfl ?_) | (show SH _ _ _ _ _ (⟨_, .call ⟨.value (.func 78), _, _⟩, _, _, _, _⟩ :: _) _ _ _; refine cl (callee := .func 78) rfl (fun w hw => compareE_spec i k w) rfl rfl ?_) | (show SH _ _ _ _ _ (⟨_, .box _ _, _, _, _, _⟩ :: _) _ _ _; refine bxx rfl evL rfl (fun b => ?_))) | refine s_nil ?_ | refine kh_normal ?_))
  exact rh1 rfl rfl ⟨rfl, rfl⟩ (ent_nil _)
set_option maxHeartbeats 1000000 in
set_option maxRecDepth 100000 in
theorem placeE_spec (A : Option Addr) (l : List EntP) (c1 : Nat) (k : Int) (fv : Value) (key : EntP → Int) (w : World) (hl : l.length ≤ 140737488355328) (hr : Rd w A l) (hR : Rising key l) (hp : KeyL w fv l .i64 key) :
    Ret Tryd.prog 65 [.slice A l.length c1, .int .i64 k, fv].toArray w (Out w (.tuple #[.int .i64 (lbK key k l), .bool (hasK key k l)])) := by
  obtain ⟨g0, fst, cap, rfl, hp⟩ := hp
  have hB := fun w' (he : Ext w w') b (hk : Rd w' (some ⟨b, 0, none⟩) [(⟨g0, fst, cap⟩ : FnV)]) => binSearchE_spec A l c1 k 77 #[] #[.pointer (some ⟨b, 0, none⟩)] key w' hl (hr.ext he) hR (fun w'' he' x hx => by
    have := placeE1_spec x k b g0 fst cap (key x) w'' (hk.ext he') (fun w3 he3 => hp w3 ((he.trans he').trans he3) x hx)
    simpa using this)
  clear hp
  refine enterH Tryd.func65 rfl rfl Tryd.ntmps65 rfl (Wd.refl _) ?_
  (repeat' (first | (show VH _ _ _ _ _ _ _; first | refine v_seq ?_ | refine r_seq ?_ | refine v_ret ?_) | (show SH _ _ _ _ _ (_ :: _) _ _ _; first | (show SH _ _ _ _ _ (⟨_, .move _, _, _, _, _⟩ :: _) _ _ _; refine mov evL ?_) | (show SH _ _ _ _ _ (⟨_, .assign _, _, _, _, _⟩ :: _) _ _ _; refine asg evL ?_) | (show SH _ _ _ _ _ (⟨_, .call ⟨.value (.func 76), _, _⟩, _, _, _, _⟩ :: _) _ _ _; refine cl (callee := .func 76) rfl (fun w hw => hB _ hw.ext _ (rd_box hw spL rfl)) rfl rfl ?_) | refine extr rfl rfl ?_ | (show SH _ _ _ _ _ (⟨_, .makeFunc _ _ _, _, _, _, _⟩ :: _) _ _ _; refine mf1 evL ?_) | (show SH _ _ _ _ _ (⟨_, .box _ _, _, _, _, _⟩ :: _) _ _ _; refine bxx rfl evL rfl (fun b => ?_))) | refine s_nil ?_ | refine kh_normal ?_))
  exact rh2 rfl rfl rfl ⟨rfl, rfl⟩ (ent_nil _)
abbrev idE : EntP → Int := fun x => x.e.id
/-- Where an entity is, or would be; whether it is there. -/
def findI (t id : Int) (l : List EntP) : Int := if ValidW t (ents l) then lbK idE id l else 0
def findB (t id : Int) (l : List EntP) : Bool := decide (ValidW t (ents l)) && hasK idE id l
set_option maxHeartbeats 1000000 in
set_option maxRecDepth 100000 in
theorem find_spec (t id : Int) (A : Option Addr) (l : List EntP) (c1 : Nat) (w : World) (hG : Glob w) (hs : Sz l) (hr : RdW w A l) :
    Ret Tryd.prog 44 [wv t A l c1, .int .i64 id].toArray w (Out w (.tuple #[.int .i64 (findI t id l), .bool (findB t id l)])) := by
  have hV := fun w' (he : Ext w w') => valid_spec t A l c1 w' (hG.ext he) hs (hr.ext he)
  unfold findI findB
  unfold wv at hV ⊢
  by_cases hv : ValidW t (ents l)
  · have hP := fun w' (he : Ext w w') => placeE_spec A l c1 id _ idE w' hs.len (hr.1.ext he) ((rising_ents l).1 hv.up) (idOf_key w' l)
    rw [if_pos hv]
    rw [decide_eq_true hv] at hV ⊢
    rw [Bool.true_and]
    clear hv
    generalize lbK idE id l = i at hP ⊢
    generalize hasK idE id l = q at hP ⊢
    refine enterH Tryd.func44 rfl rfl Tryd.ntmps44 rfl (Wd.refl _) ?_
    (repeat' (first | (show VH _ _ _ _ _ _ _; first | refine v_seq ?_ | refine r_seq ?_ | refine v_ret ?_ | refine v_skip ?_ | refine v_cond_f rfl tbL ?_) | (show SH _ _ _ _ _ (_ :: _) _ _ _; first | (show SH _ _ _ _ _ (⟨_, .move _, _, _, _, _⟩ :: _) _ _ _; refine mov evL ?_) | (show SH _ _ _ _ _ (⟨_, .assign _, _, _, _, _⟩ :: _) _ _ _; refine asg evL ?_) | (show SH _ _ _ _ _ (⟨_, .load _ _, _, _, _, _⟩ :: _) _ _ _; first | refine lbx rfl spL (by rfl) ?_ | refine lba rfl spL (by rfl) ?_) | (show SH _ _ _ _ _ (⟨_, .call ⟨.value (.func 15), _, _⟩, _, _, _, _⟩ :: _) _ _ _; refine cl (callee := .func 15) rfl (fun w hw => hV _ hw.ext) rfl rfl ?_) | (show SH _ _ _ _ _ (⟨_, .call ⟨.value (.func 65), _, _⟩, _, _, _, _⟩ :: _) _ _ _; refine cl (callee := .func 65) rfl (fun w hw => hP _ hw.ext) rfl rfl ?_) | refine bnoT rfl ?_ | refine extr rfl rfl ?_ | refine fad rfl ?_ | (show SH _ _ _ _ _ (⟨_, .box _ _, _, _, _, _⟩ :: _) _ _ _; refine bxx rfl evL rfl (fun b => ?_))) | refine s_nil ?_ | refine kh_normal ?_))
    exact rh2 rfl rfl rfl ⟨rfl, rfl⟩ (ent_nil _)
  · rw [if_neg hv]
    rw [decide_eq_false hv] at hV ⊢
    rw [Bool.false_and]
    clear hv
    refine enterH Tryd.func44 rfl rfl Tryd.ntmps44 rfl (Wd.refl _) ?_
    (repeat' (first | (show VH _ _ _ _ _ _ _; first | refine v_seq ?_ | refine r_seq ?_ | refine v_ret ?_ | refine v_cond_t rfl tbL ?_) | (show SH _ _ _ _ _ (_ :: _) _ _ _; first | (show SH _ _ _ _ _ (⟨_, .assign _, _, _, _, _⟩ :: _) _ _ _; refine asg evL ?_) | (show SH _ _ _ _ _ (⟨_, .load _ _, _, _, _, _⟩ :: _) _ _ _; refine lba rfl spL (by rfl) ?_) | (show SH _ _ _ _ _ (⟨_, .call ⟨.value (.func 15), _, _⟩, _, _, _, _⟩ :: _) _ _ _; refine cl (callee := .func 15) rfl (fun w hw => hV _ hw.ext) rfl rfl ?_) | refine bnoF rfl ?_ | (show SH _ _ _ _ _ (⟨_, .box _ _, _, _, _, _⟩ :: _) _ _ _; refine bxx rfl evL rfl (fun b => ?_))) | refine s_nil ?_ | refine kh_normal ?_ | refine kh_ret ?_))
    exact rh2 rfl rfl rfl ⟨rfl, rfl⟩ (ent_nil _)
set_option maxHeartbeats 1000000 in
set_option maxRecDepth 100000 in
theorem cloneC_spec (A : Option Addr) (l : List Comp) (c1 : Nat) (w : World) (hl : l.length ≤ 1000000) (hr : Rd w A l) :
    Ret Tryd.prog 66 [.slice A l.length c1].toArray w (RP w (Fresh 42 l)) := by
  cases A with
  | none =>
    have := hr.none
    subst this
    refine enterH Tryd.func66 rfl rfl Tryd.ntmps66 rfl (Wd.refl _) ?_
    (repeat' (first | (show VH _ _ _ _ _ _ _; first | refine v_seq ?_ | refine r_seq ?_ | refine v_ret ?_ | refine v_cond_t rfl tbL ?_) | (show SH _ _ _ _ _ (_ :: _) _ _ _; first | (show SH _ _ _ _ _ (⟨_, .move _, _, _, _, _⟩ :: _) _ _ _; refine mov evL ?_) | (show SH _ _ _ _ _ (⟨_, .assign _, _, _, _, _⟩ :: _) _ _ _; refine asg evL ?_) | refine eqn rfl rfl ?_) | refine s_nil ?_ | refine kh_normal ?_ | refine kh_ret ?_))
    exact rh1 rfl rfl ⟨none, 0, rfl, rfl⟩ (ent_nilrow (ent_nil _))
  | some a =>
    refine enterH Tryd.func66 rfl rfl Tryd.ntmps66 rfl (Wd.refl _) ?_
    (repeat' (first | (show VH _ _ _ _ _ _ _; first | refine v_seq ?_ | refine r_seq ?_ | refine v_skip ?_ | refine v_cond_f rfl tbL ?_) | (show SH _ _ _ _ _ (_ :: _) _ _ _; first | (show SH _ _ _ _ _ (⟨_, .move _, _, _, _, _⟩ :: _) _ _ _; refine mov evL ?_) | (show SH _ _ _ _ _ (⟨_, .assign _, _, _, _, _⟩ :: _) _ _ _; refine asg evL ?_) | refine eqn rfl rfl ?_) | refine s_nil ?_ | refine kh_normal ?_))
    refine bsl (l := ([] : List Comp)) rfl rfl Vals.nil rfl rfl (by decide) (fun b => ?_)
    (repeat' ((show SH _ _ _ _ _ (_ :: _) _ _ _; (show SH _ _ _ _ _ (⟨_, .move _, _, _, _, _⟩ :: _) _ _ _; refine mov evL ?_))))
    refine app rfl rfl rfl spL (fun _ _ => rdX) rfl rfl rfl (by simp only [List.length_nil]; omega) (by simp only [List.length_nil]; omega) (fun A' cp' => ⟨trivial, ?_⟩)
    (repeat' (first | refine v_ret ?_ | (show SH _ _ _ _ _ (_ :: _) _ _ _; (show SH _ _ _ _ _ (⟨_, .assign _, _, _, _, _⟩ :: _) _ _ _; refine asg evL ?_)) | refine s_nil ?_ | refine kh_normal ?_))
    exact rh1 rfl rfl ⟨A', cp', rfl, rfl⟩ enL
/-- A copy of an entity in memory of its own. -/
def OwnR (e : Ent1) (v : Value) (H : List HP) : Prop := ∃ A c, v = .agg #[.int .i64 e.id, .slice A e.comps.length c] ∧ H = [orow 42 A c e.comps]
set_option maxHeartbeats 1000000 in
set_option maxRecDepth 100000 in
theorem own_spec (x : EntP) (w : World) (hl : x.e.comps.length ≤ 1000000) (hr : Rd w x.A x.e.comps) : Ret Tryd.prog 45 [.agg (Flat.enc x).toArray].toArray w (RP w (OwnR x.e)) := by
  have hC := fun w' (he : Ext w w') => cloneC_spec x.A x.e.comps x.cp w' hl (hr.ext he)
  obtain ⟨⟨id, cs⟩, A, c1⟩ := x
  unfold OwnR
  try simp only at hC hr hl ⊢
  rw [show Flat.enc (⟨⟨id, cs⟩, A, c1⟩ : EntP) = [.int .i64 id, .slice A cs.length c1] from rfl] at *
  refine enterH Tryd.func45 rfl rfl Tryd.ntmps45 rfl (Wd.refl _) ?_
  (repeat' (first | (show VH _ _ _ _ _ _ _; first | refine v_seq ?_ | refine r_seq ?_) | (show SH _ _ _ _ _ (_ :: _) _ _ _; first | refine ala rfl (fun b => ?_) | (show SH _ _ _ _ _ (⟨_, .box _ _, _, _, _, _⟩ :: _) _ _ _; refine bxx rfl evL rfl (fun b => ?_))) | refine s_nil ?_ | refine kh_normal ?_))
  rename_i b2
  refine r_heldT [bx b2 32 _] (tr [(0, true), (1, true), (2, false), (3, false), (4, false), (5, false), (6, false)] .nil) hmix (by kernel_rfl) enL ?_
  (repeat' ((show SH _ _ _ _ _ (_ :: _) _ _ _; first | (show SH _ _ _ _ _ (⟨_, .load _ _, _, _, _, _⟩ :: _) _ _ _; refine lbx rfl spL (by rfl) ?_) | (show SH _ _ _ _ _ (⟨_, .call ⟨.value (.func 66), _, _⟩, _, _, _, _⟩ :: _) _ _ _; refine cp (callee := .func 66) rfl (fun w hw => hC _ hw.ext) rfl rfl ?_) | refine fad rfl ?_)))
  rintro _ _ ⟨A1, c2, rfl, rfl⟩
  (repeat' (first | refine v_ret ?_ | (show SH _ _ _ _ _ (_ :: _) _ _ _; first | refine bld rfl rfl ?_ | (show SH _ _ _ _ _ (⟨_, .store _ _ _, _, _, _, _⟩ :: _) _ _ _; refine sta rfl rfl rfl spL (by rfl) (by rfl) (by rfl) kpL ?_)) | refine s_nil ?_ | refine kh_normal ?_))
  exact rhC rfl rfl rfl (fun w hw => loadVar_bx hw spL (by rfl)) ⟨A1, c2, rfl, rfl⟩ enL
/-- What Entity gives. -/
def EntityR (t id : Int) (l : List EntP) (v : Value) (H : List HP) : Prop :=
  if findB t id l = true then ∃ A c, v = .tuple #[.agg #[.int .i64 id, .slice A (l.getD (lbK idE id l) Flat.dflt).e.comps.length c], .bool true] ∧ H = [orow 42 A c (l.getD (lbK idE id l) Flat.dflt).e.comps]
  else v = .tuple #[.agg #[.int .i64 0, .slice none 0 0], .bool false] ∧ H = []
set_option maxHeartbeats 1000000 in
set_option maxRecDepth 100000 in
theorem entity_spec (t id : Int) (A : Option Addr) (l : List EntP) (c1 : Nat) (w : World) (hG : Glob w) (hs : Sz l) (hse : ∀ x ∈ l, x.e.comps.length ≤ 1000000) (hr : RdW w A l) :
    Ret Tryd.prog 12 [wv t A l c1, .int .i64 id].toArray w (RP w (EntityR t id l)) := by
  have hF := fun w' (he : Ext w w') => find_spec t id A l c1 w' (hG.ext he) hs (hr.ext he)
  unfold EntityR
  unfold wv at hF ⊢
  cases hb : findB t id l with
  | false =>
    rw [hb] at hF
    simp only [Bool.false_eq_true, if_false]
    generalize findI t id l = i at hF
    refine enterH Tryd.func12 rfl rfl Tryd.ntmps12 rfl (Wd.refl _) ?_
    (repeat' (first | (show VH _ _ _ _ _ _ _; first | refine v_seq ?_ | refine r_seq ?_ | refine v_ret ?_ | refine v_cond_t rfl tbL ?_) | (show SH _ _ _ _ _ (_ :: _) _ _ _; first | (show SH _ _ _ _ _ (⟨_, .move _, _, _, _, _⟩ :: _) _ _ _; refine mov evL ?_) | (show SH _ _ _ _ _ (⟨_, .assign _, _, _, _, _⟩ :: _) _ _ _; refine asg evL ?_) | (show SH _ _ _ _ _ (⟨_, .load _ _, _, _, _, _⟩ :: _) _ _ _; refine lba rfl spL (by rfl) ?_) | (show SH _ _ _ _ _ (⟨_, .call ⟨.value (.func 44), _, _⟩, _, _, _, _⟩ :: _) _ _ _; refine cl (callee := .func 44) rfl (fun w hw => hF _ hw.ext) rfl rfl ?_) | refine bnoF rfl ?_ | refine extr rfl rfl ?_ | refine bld rfl rfl ?_ | refine ala rfl (fun b => ?_) | (show SH _ _ _ _ _ (⟨_, .box _ _, _, _, _, _⟩ :: _) _ _ _; refine bxx rfl evL rfl (fun b => ?_)) | (show SH _ _ _ _ _ (⟨_, .store _ _ _, _, _, _, _⟩ :: _) _ _ _; refine sta rfl rfl rfl spL (by rfl) (by rfl) (by rfl) kpL ?_)) | refine s_nil ?_ | refine kh_normal ?_ | refine kh_ret ?_))
    exact rhC2 rfl rfl rfl rfl (fun w hw => loadVar_bx hw spL (by rfl)) ⟨rfl, rfl⟩ (ent_nil _)
  | true =>
    rw [hb] at hF
    simp only [if_true]
    unfold findB hasK at hb
    simp only [Bool.and_eq_true, decide_eq_true_eq] at hb
    obtain ⟨hv, hlt, hid⟩ := hb
    unfold findI at hF
    rw [if_pos hv] at hF
    have hx := getD_mem (d := Flat.dflt) hlt
    have hO := fun w' (he : Ext w w') => own_spec (l.getD (lbK idE id l) Flat.dflt) w' (hse _ hx) ((hr.2 _ hx).ext he)
    unfold OwnR at hO
    have hid' : (l.getD (lbK idE id l) Flat.dflt).e.id = id := hid
    rw [hid'] at hO
    have hr1 := hr.1
    generalize lbK idE id l = i at hF hlt hO hx ⊢
    clear hid hid' hv hx
    refine enterH Tryd.func12 rfl rfl Tryd.ntmps12 rfl (Wd.refl _) ?_
    (repeat' (first | (show VH _ _ _ _ _ _ _; first | refine v_seq ?_ | refine r_seq ?_ | refine v_skip ?_ | refine v_cond_f rfl tbL ?_) | (show SH _ _ _ _ _ (_ :: _) _ _ _; first | (show SH _ _ _ _ _ (⟨_, .move _, _, _, _, _⟩ :: _) _ _ _; refine mov evL ?_) | (show SH _ _ _ _ _ (⟨_, .assign _, _, _, _, _⟩ :: _) _ _ _; refine asg evL ?_) | (show SH _ _ _ _ _ (⟨_, .load _ _, _, _, _, _⟩ :: _) _ _ _; first | refine lbx rfl spL (by rfl) ?_ | refine lba rfl spL (by rfl) ?_ | refine lra rfl (fun _ _ => rdX) (by rfl) omL ?_ | refine lra rfl (fun _ _ => rdX) (by rfl) (by simp only [List.length_cons, List.length_nil]; omega) ?_) | (show SH _ _ _ _ _ (⟨_, .indexAddr _ _ _, _, _, _, _⟩ :: _) _ _ _; refine ix rfl rfl (by with_reducible rfl) (fun _ _ => rdX) (by rfl) omL omL ?_) | (show SH _ _ _ _ _ (⟨_, .call ⟨.value (.func 44), _, _⟩, _, _, _, _⟩ :: _) _ _ _; refine cl (callee := .func 44) rfl (fun w hw => hF _ hw.ext) rfl rfl ?_) | (show SH _ _ _ _ _ (⟨_, .call ⟨.value (.func 45), _, _⟩, _, _, _, _⟩ :: _) _ _ _; refine cp (callee := .func 45) rfl (fun w hw => hO _ hw.ext) rfl rfl ?_) | refine bnoT rfl ?_ | refine extr rfl rfl ?_ | refine fad rfl ?_ | refine ala rfl (fun b => ?_) | (show SH _ _ _ _ _ (⟨_, .box _ _, _, _, _, _⟩ :: _) _ _ _; refine bxx rfl evL rfl (fun b => ?_))) | refine s_nil ?_ | refine kh_normal ?_))
    rintro _ _ ⟨A1, c2, rfl, rfl⟩
    (repeat' (first | refine v_ret ?_ | (show SH _ _ _ _ _ (_ :: _) _ _ _; first | (show SH _ _ _ _ _ (⟨_, .assign _, _, _, _, _⟩ :: _) _ _ _; refine asg evL ?_) | (show SH _ _ _ _ _ (⟨_, .store _ _ _, _, _, _, _⟩ :: _) _ _ _; refine sta rfl rfl rfl spL (by rfl) (by rfl) (by rfl) kpL ?_)) | refine s_nil ?_ | refine kh_normal ?_))
    exact rhC2 rfl rfl rfl rfl (fun w hw => loadVar_bx hw spL (by rfl)) ⟨A1, c2, rfl, rfl⟩ enL
end Go.Proofs.YtfodpcpclmnbkaaDoor
