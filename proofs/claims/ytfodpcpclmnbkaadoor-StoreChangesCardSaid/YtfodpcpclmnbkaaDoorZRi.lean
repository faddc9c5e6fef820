/- The reference of layer 15: Find, Entity, Get, Next. -/
import Derived.Test.YtfodpcpclmnbkaaDoorZTw
import Derived.Test.YtfodpcpclmnbkaaDoorZWz
import Derived.Test.YtfodpcpclmnbkaaDoorZRg
import Derived.Test.YtfodpcpclmnbkaaDoorZRh
import Derived.Test.YtfodpcpclmnbkaaDoorZSk
set_option linter.unusedSimpArgs false
set_option linter.unusedVariables false
namespace Go.Proofs.YtfodpcpclmnbkaaDoor
open Go.Fw Go.RowKit
theorem has_at {l : List EntP} (h : Rising idE l) {k : Nat} (hk : k < l.length) {id : Int} (he : idE (l.getD k Flat.dflt) = id) : lbK idE id l = k ∧ hasK idE id l = true := by
  have e : lbK idE id l = k := lbK_eq Flat.dflt idE id l k (Nat.le_of_lt hk) (fun q hq => by rw [← he]; exact rising_at Flat.dflt h hq hk) (fun _ => by omega)
  refine ⟨e, ?_⟩
  unfold hasK
  rw [e, decide_eq_true hk, decide_eq_true he]; rfl
theorem has_none {l : List EntP} {id : Int} (h : ∀ q, q < l.length → idE (l.getD q Flat.dflt) ≠ id) : hasK idE id l = false := by
  unfold hasK
  by_cases hk : lbK idE id l < l.length
  · rw [decide_eq_true hk, decide_eq_false (h _ hk)]; rfl
  · rw [decide_eq_false hk]; rfl
theorem id_low {l : List EntP} (h : Rising idE l) (h1 : ∀ x ∈ l, 1 ≤ idE x) : ∀ j : Nat, j < l.length → (j : Int) + 1 ≤ idE (l.getD j Flat.dflt)
  | 0, hj => by have := h1 _ (getD_mem (d := Flat.dflt) hj); simpa using this
  | j + 1, hj => by
    have := id_low h h1 j (by omega)
    have := rising_at Flat.dflt h (show j < j + 1 by omega) hj
    omega
def foundI (t id : Int) (l : List EntP) : Int := if findB t id l = true then (lbK idE id l : Int) else -1
set_option maxHeartbeats 1000000 in
set_option maxRecDepth 100000 in
theorem refFind_spec (t id : Int) (A : Option Addr) (l : List EntP) (c1 : Nat) (w : World) (hs : Sz l) (hr : RdW w A l) :
    Ret Tryd.prog 61 [wv t A l c1, .int .i64 id].toArray w (Out w (.int .i64 (foundI t id l))) := by
  have hV := fun w' (he : Ext w w') => refValid_spec t A l c1 w' hs (hr.ext he)
  have hr1 := hr.1
  have hlen := hs.len
  unfold foundI findB
  unfold wv at hV ⊢
  by_cases hv : ValidW t (ents l)
  · rw [decide_eq_true hv, Bool.true_and]
    rw [decide_eq_true hv] at hV
    have hup : Rising idE l := (rising_ents l).1 hv.up
    have hat := fun (k : Nat) (hk : k < l.length) (he : idE (l.getD k Flat.dflt) = id) => has_at hup hk he
    have hno := has_none (l := l) (id := id)
    clear hv hup
    generalize lbK idE id l = lb at hat ⊢
    generalize hasK idE id l = hb at hat hno ⊢
    refine enterH Tryd.func61 rfl rfl Tryd.ntmps61 rfl (Wd.refl _) ?_
    (repeat' (first | (show VH _ _ _ _ _ _ _; first | refine v_seq ?_ | refine r_seq ?_ | refine v_block ?_) | (show SH _ _ _ _ _ (_ :: _) _ _ _; first | (show SH _ _ _ _ _ (⟨_, .assign _, _, _, _, _⟩ :: _) _ _ _; refine asg evL ?_) | (show SH _ _ _ _ _ (⟨_, .box _ _, _, _, _, _⟩ :: _) _ _ _; refine bxx rfl evL rfl (fun b => ?_))) | refine s_nil ?_ | refine kh_normal ?_))
    refine v_loop0 [(4,25)] (fun k : Nat => [(5, .int .i64 k)]) (fun k => k ≤ l.length ∧ ∀ q, q < k → idE (l.getD q Flat.dflt) ≠ id) (fun k => l.length - k) 0 hsL ⟨Nat.zero_le _, fun q h => absurd h (Nat.not_lt_zero q)⟩ ?_
    rintro k g ⟨hk, hq⟩
    simp only [sets]
    by_cases hkl : k < l.length
    · by_cases he : (l.getD k Flat.dflt).e.id = id
      · obtain ⟨rfl, rfl⟩ := hat k hkl he
        rw [if_pos rfl]
        clear hat hno hq
        (repeat' (first | (show VH _ _ _ _ _ _ _; first | refine v_seq ?_ | refine r_seq ?_ | refine v_block ?_ | refine v_ret ?_ | refine v_skip ?_ | refine v_cond_t rfl tbL ?_) | (show SH _ _ _ _ _ (_ :: _) _ _ _; first | (show SH _ _ _ _ _ (⟨_, _, _, _, _, some _⟩ :: _) _ _ _; (refine gif rfl rfl ?_; refine giTT tbL ?_)) | (show SH _ _ _ _ _ (⟨_, .move _, _, _, _, _⟩ :: _) _ _ _; refine mov evL ?_) | (show SH _ _ _ _ _ (⟨_, .assign _, _, _, _, _⟩ :: _) _ _ _; refine asg evL ?_) | (show SH _ _ _ _ _ (⟨_, .binOp .lss _ _ _ _, _, _, _, _⟩ :: _) _ _ _; refine lssT rfl rfl omD ?_) | (show SH _ _ _ _ _ (⟨_, .binOp .eql _ _ _ _, _, _, _, _⟩ :: _) _ _ _; refine eqlT rfl rfl omD ?_) | (show SH _ _ _ _ _ (⟨_, .load _ _, _, _, _, _⟩ :: _) _ _ _; first | refine lbx rfl spL (by rfl) ?_ | refine lba rfl spL (by rfl) ?_ | refine lrf rfl (fun _ _ => rdY) (by rfl) omL (by rfl) ?_ | refine lrf rfl (fun _ _ => rdY) (by rfl) (by simp only [List.length_cons, List.length_nil]; omega) (by rfl) ?_) | (show SH _ _ _ _ _ (⟨_, .indexAddr _ _ _, _, _, _, _⟩ :: _) _ _ _; refine ix rfl rfl (by with_reducible rfl) (fun _ _ => rdY) (by rfl) omL omL ?_) | refine slen rfl ?_ | (show SH _ _ _ _ _ (⟨_, .call ⟨.value (.func 28), _, _⟩, _, _, _, _⟩ :: _) _ _ _; refine cl (callee := .func 28) rfl (fun w hw => hV _ hw.ext) rfl rfl ?_) | (show SH _ _ _ _ _ (⟨_, .pick _ _ _, _, _, _, _⟩ :: _) _ _ _; refine pkt rfl tbL evL ?_) | refine fad rfl ?_) | refine s_nil ?_ | refine kh_normal ?_ | refine kh_ret ?_ | refine bh_ret ?_))
        exact rh1 rfl rfl ⟨rfl, rfl⟩ (ent_nil _)
      · have hq' : ∀ q, q < k + 1 → idE (l.getD q Flat.dflt) ≠ id := fun q hq2 => by
          by_cases e : q = k
          · rw [e]; exact he
          · exact hq q (by omega)
        clear hat hno hq
        (repeat' (first | (show VH _ _ _ _ _ _ _; first | refine v_seq ?_ | refine r_seq ?_ | refine v_block ?_ | refine v_skip ?_ | refine v_cond_t rfl tbL ?_ | refine v_cond_f rfl tbL ?_) | (show SH _ _ _ _ _ (_ :: _) _ _ _; first | (show SH _ _ _ _ _ (⟨_, _, _, _, _, some _⟩ :: _) _ _ _; (refine gif rfl rfl ?_; refine giTT tbL ?_)) | (show SH _ _ _ _ _ (⟨_, .move _, _, _, _, _⟩ :: _) _ _ _; refine mov evL ?_) | (show SH _ _ _ _ _ (⟨_, .assign _, _, _, _, _⟩ :: _) _ _ _; refine asg evL ?_) | (show SH _ _ _ _ _ (⟨_, .binOp .lss _ _ _ _, _, _, _, _⟩ :: _) _ _ _; refine lssT rfl rfl omD ?_) | (show SH _ _ _ _ _ (⟨_, .binOp .eql _ _ _ _, _, _, _, _⟩ :: _) _ _ _; refine eqlF rfl rfl omD ?_) | (show SH _ _ _ _ _ (⟨_, .binOp .add _ _ _ _, _, _, _, _⟩ :: _) _ _ _; refine add rfl rfl inL ?_) | (show SH _ _ _ _ _ (⟨_, .load _ _, _, _, _, _⟩ :: _) _ _ _; first | refine lbx rfl spL (by rfl) ?_ | refine lba rfl spL (by rfl) ?_ | refine lrf rfl (fun _ _ => rdY) (by rfl) omL (by rfl) ?_ | refine lrf rfl (fun _ _ => rdY) (by rfl) (by simp only [List.length_cons, List.length_nil]; omega) (by rfl) ?_) | (show SH _ _ _ _ _ (⟨_, .indexAddr _ _ _, _, _, _, _⟩ :: _) _ _ _; refine ix rfl rfl (by with_reducible rfl) (fun _ _ => rdY) (by rfl) omL omL ?_) | refine slen rfl ?_ | (show SH _ _ _ _ _ (⟨_, .call ⟨.value (.func 28), _, _⟩, _, _, _, _⟩ :: _) _ _ _; refine cl (callee := .func 28) rfl (fun w hw => hV _ hw.ext) rfl rfl ?_) | (show SH _ _ _ _ _ (⟨_, .pick _ _ _, _, _, _, _⟩ :: _) _ _ _; refine pkt rfl tbL evL ?_) | refine fad rfl ?_) | refine s_nil ?_ | refine kh_normal ?_ | refine bh_normal ?_))
        exact ⟨agL, k + 1, hsL, enL, ⟨hkl, hq'⟩, by show _ - (k + 1) < _ - k; omega⟩
    · rw [hno (fun q hq2 => hq q (by omega)), if_neg (by simp)]
      clear hat hno hq
      (repeat' (first | (show VH _ _ _ _ _ _ _; first | refine v_seq ?_ | refine r_seq ?_ | refine v_ret ?_ | refine v_exit ?_ | refine v_cond_f rfl tbL ?_) | (show SH _ _ _ _ _ (_ :: _) _ _ _; first | (show SH _ _ _ _ _ (⟨_, _, _, _, _, some _⟩ :: _) _ _ _; (refine gif rfl rfl ?_; refine giTF tbL ?_)) | (show SH _ _ _ _ _ (⟨_, .move _, _, _, _, _⟩ :: _) _ _ _; refine mov evL ?_) | (show SH _ _ _ _ _ (⟨_, .assign _, _, _, _, _⟩ :: _) _ _ _; refine asg evL ?_) | (show SH _ _ _ _ _ (⟨_, .binOp .lss _ _ _ _, _, _, _, _⟩ :: _) _ _ _; refine lssF rfl rfl omD ?_) | (show SH _ _ _ _ _ (⟨_, .load _ _, _, _, _, _⟩ :: _) _ _ _; refine lbx rfl spL (by rfl) ?_) | refine slen rfl ?_ | (show SH _ _ _ _ _ (⟨_, .pick _ _ _, _, _, _, _⟩ :: _) _ _ _; refine pkf rfl tbL evL ?_) | refine fad rfl ?_) | refine s_nil ?_ | refine kh_normal ?_ | refine kh_exit ?_ | refine bh_exit ?_))
      exact rh1 rfl rfl ⟨rfl, rfl⟩ (ent_nil _)
  · rw [decide_eq_false hv, Bool.false_and, if_neg (by simp)]
    rw [decide_eq_false hv] at hV
    clear hv
    refine enterH Tryd.func61 rfl rfl Tryd.ntmps61 rfl (Wd.refl _) ?_
    (repeat' (first | (show VH _ _ _ _ _ _ _; first | refine v_seq ?_ | refine r_seq ?_ | refine v_block ?_) | (show SH _ _ _ _ _ (_ :: _) _ _ _; first | (show SH _ _ _ _ _ (⟨_, .assign _, _, _, _, _⟩ :: _) _ _ _; refine asg evL ?_) | (show SH _ _ _ _ _ (⟨_, .box _ _, _, _, _, _⟩ :: _) _ _ _; refine bxx rfl evL rfl (fun b => ?_))) | refine s_nil ?_ | refine kh_normal ?_))
    refine v_loop0 [(4,25)] (fun k : Nat => [(5, .int .i64 k)]) (fun k => k = 0) (fun k => l.length - k) 0 hsL rfl ?_
    rintro k g rfl
    simp only [sets]
    by_cases hkl : 0 < l.length
    · (repeat' (first | (show VH _ _ _ _ _ _ _; first | refine v_seq ?_ | refine r_seq ?_ | refine v_ret ?_ | refine v_exit ?_ | refine v_cond_f rfl tbL ?_) | (show SH _ _ _ _ _ (_ :: _) _ _ _; first | (show SH _ _ _ _ _ (⟨_, _, _, _, _, some _⟩ :: _) _ _ _; (refine gif rfl rfl ?_; refine giTT tbL ?_)) | (show SH _ _ _ _ _ (⟨_, .move _, _, _, _, _⟩ :: _) _ _ _; refine mov evL ?_) | (show SH _ _ _ _ _ (⟨_, .assign _, _, _, _, _⟩ :: _) _ _ _; refine asg evL ?_) | (show SH _ _ _ _ _ (⟨_, .binOp .lss _ _ _ _, _, _, _, _⟩ :: _) _ _ _; refine lssT rfl rfl omD ?_) | (show SH _ _ _ _ _ (⟨_, .load _ _, _, _, _, _⟩ :: _) _ _ _; first | refine lbx rfl spL (by rfl) ?_ | refine lba rfl spL (by rfl) ?_) | refine slen rfl ?_ | (show SH _ _ _ _ _ (⟨_, .call ⟨.value (.func 28), _, _⟩, _, _, _, _⟩ :: _) _ _ _; refine cl (callee := .func 28) rfl (fun w hw => hV _ hw.ext) rfl rfl ?_) | (show SH _ _ _ _ _ (⟨_, .pick _ _ _, _, _, _, _⟩ :: _) _ _ _; refine pkt rfl tbL evL ?_) | refine fad rfl ?_) | refine s_nil ?_ | refine kh_normal ?_ | refine kh_exit ?_ | refine bh_exit ?_))
      exact rh1 rfl rfl ⟨rfl, rfl⟩ (ent_nil _)
    · (repeat' (first | (show VH _ _ _ _ _ _ _; first | refine v_seq ?_ | refine r_seq ?_ | refine v_ret ?_ | refine v_exit ?_ | refine v_cond_f rfl tbL ?_) | (show SH _ _ _ _ _ (_ :: _) _ _ _; first | (show SH _ _ _ _ _ (⟨_, _, _, _, _, some _⟩ :: _) _ _ _; (refine gif rfl rfl ?_; refine giTF tbL ?_)) | (show SH _ _ _ _ _ (⟨_, .move _, _, _, _, _⟩ :: _) _ _ _; refine mov evL ?_) | (show SH _ _ _ _ _ (⟨_, .assign _, _, _, _, _⟩ :: _) _ _ _; refine asg evL ?_) | (show SH _ _ _ _ _ (⟨_, .binOp .lss _ _ _ _, _, _, _, _⟩ :: _) _ _ _; refine lssF rfl rfl omD ?_) | (show SH _ _ _ _ _ (⟨_, .load _ _, _, _, _, _⟩ :: _) _ _ _; refine lbx rfl spL (by rfl) ?_) | refine slen rfl ?_ | (show SH _ _ _ _ _ (⟨_, .pick _ _ _, _, _, _, _⟩ :: _) _ _ _; refine pkf rfl tbL evL ?_) | refine fad rfl ?_) | refine s_nil ?_ | refine kh_normal ?_ | refine kh_exit ?_ | refine bh_exit ?_))
      exact rh1 rfl rfl ⟨rfl, rfl⟩ (ent_nil _)
def entD (t id : Int) (l : List EntP) : EntP := if findB t id l = true then l.getD (lbK idE id l) Flat.dflt else Flat.dflt
set_option maxHeartbeats 1000000 in
set_option maxRecDepth 100000 in
theorem refEntity_spec (t id : Int) (A : Option Addr) (l : List EntP) (c1 : Nat) (w : World) (hs : Sz l) (hr : RdW w A l) :
    Ret Tryd.prog 31 [wv t A l c1, .int .i64 id].toArray w (Out w (.tuple #[.agg (Flat.enc (entD t id l)).toArray, .bool (findB t id l)])) := by
  have hF := fun w' (he : Ext w w') => refFind_spec t id A l c1 w' hs (hr.ext he)
  have hr1 := hr.1
  have hlen := hs.len
  unfold entD
  unfold foundI at hF
  unfold wv at hF ⊢
  cases hb : findB t id l with
  | false =>
    rw [hb] at hF
    simp only [Bool.false_eq_true, if_false] at hF ⊢
    refine enterH Tryd.func31 rfl rfl Tryd.ntmps31 rfl (Wd.refl _) ?_
    (repeat' (first | (show VH _ _ _ _ _ _ _; first | refine v_seq ?_ | refine r_seq ?_ | refine v_ret ?_ | refine v_cond_t rfl tbL ?_) | (show SH _ _ _ _ _ (_ :: _) _ _ _; first | (show SH _ _ _ _ _ (⟨_, .move _, _, _, _, _⟩ :: _) _ _ _; refine mov evL ?_) | (show SH _ _ _ _ _ (⟨_, .assign _, _, _, _, _⟩ :: _) _ _ _; refine asg evL ?_) | (show SH _ _ _ _ _ (⟨_, .binOp .lss _ _ _ _, _, _, _, _⟩ :: _) _ _ _; refine lssT rfl rfl omD ?_) | (show SH _ _ _ _ _ (⟨_, .load _ _, _, _, _, _⟩ :: _) _ _ _; refine lba rfl spL (by rfl) ?_) | (show SH _ _ _ _ _ (⟨_, .call ⟨.value (.func 61), _, _⟩, _, _, _, _⟩ :: _) _ _ _; refine cl (callee := .func 61) rfl (fun w hw => hF _ hw.ext) rfl rfl ?_) | refine bld rfl rfl ?_ | refine ala rfl (fun b => ?_) | (show SH _ _ _ _ _ (⟨_, .box _ _, _, _, _, _⟩ :: _) _ _ _; refine bxx rfl evL rfl (fun b => ?_)) | (show SH _ _ _ _ _ (⟨_, .store _ _ _, _, _, _, _⟩ :: _) _ _ _; refine sta rfl rfl rfl spL (by rfl) (by rfl) (by rfl) kpL ?_)) | refine s_nil ?_ | refine kh_normal ?_ | refine kh_ret ?_))
    exact rhC2 rfl rfl rfl rfl (fun w hw => loadVar_bx hw spL (by rfl)) ⟨rfl, rfl⟩ (ent_nil _)
  | true =>
    rw [hb] at hF
    simp only [if_true] at hF ⊢
    unfold findB hasK at hb
    simp only [Bool.and_eq_true, decide_eq_true_eq] at hb
    have hlt := hb.2.1
    clear hb
    generalize lbK idE id l = i at hF hlt ⊢
    refine enterH Tryd.func31 rfl rfl Tryd.ntmps31 rfl (Wd.refl _) ?_
    (repeat' (first | (show VH _ _ _ _ _ _ _; first | refine v_seq ?_ | refine r_seq ?_ | refine v_ret ?_ | refine v_skip ?_ | refine v_cond_f rfl tbL ?_) | (show SH _ _ _ _ _ (_ :: _) _ _ _; first | (show SH _ _ _ _ _ (⟨_, .move _, _, _, _, _⟩ :: _) _ _ _; refine mov evL ?_) | (show SH _ _ _ _ _ (⟨_, .assign _, _, _, _, _⟩ :: _) _ _ _; refine asg evL ?_) | (show SH _ _ _ _ _ (⟨_, .binOp .lss _ _ _ _, _, _, _, _⟩ :: _) _ _ _; refine lssF rfl rfl omD ?_) | (show SH _ _ _ _ _ (⟨_, .load _ _, _, _, _, _⟩ :: _) _ _ _; first | refine lbx rfl spL (by rfl) ?_ | refine lba rfl spL (by rfl) ?_ | refine lra rfl (fun _ _ => rdY) (by rfl) omL ?_ | refine lra rfl (fun _ _ => rdY) (by rfl) (by simp only [List.length_cons, List.length_nil]; omega) ?_) | (show SH _ _ _ _ _ (⟨_, .indexAddr _ _ _, _, _, _, _⟩ :: _) _ _ _; refine ix rfl rfl (by with_reducible rfl) (fun _ _ => rdY) (by rfl) omL omL ?_) | (show SH _ _ _ _ _ (⟨_, .call ⟨.value (.func 61), _, _⟩, _, _, _, _⟩ :: _) _ _ _; refine cl (callee := .func 61) rfl (fun w hw => hF _ hw.ext) rfl rfl ?_) | refine fad rfl ?_ | refine ala rfl (fun b => ?_) | (show SH _ _ _ _ _ (⟨_, .box _ _, _, _, _, _⟩ :: _) _ _ _; refine bxx rfl evL rfl (fun b => ?_)) | (show SH _ _ _ _ _ (⟨_, .store _ _ _, _, _, _, _⟩ :: _) _ _ _; refine sta rfl rfl rfl spL (by rfl) (by rfl) (by rfl) kpL ?_)) | refine s_nil ?_ | refine kh_normal ?_))
    exact rhC2 rfl rfl rfl rfl (fun w hw => loadVar_bx hw spL (by rfl)) ⟨rfl, rfl⟩ (ent_nil _)
theorem getM_found {t id kd : Int} {l : List EntP} (h : findB t id l = true) : getM t id kd (ents l) = compK kd (l.getD (lbK idE id l) Flat.dflt).e.comps := by
  unfold findB at h
  simp only [Bool.and_eq_true, decide_eq_true_eq] at h
  unfold getM
  rw [if_pos h.1, thg_find ((rising_ents l).1 h.1.up), if_pos h.2]; rfl
theorem getM_not {t id kd : Int} {l : List EntP} (h : findB t id l = false) : getM t id kd (ents l) = none := by
  unfold getM
  by_cases hv : ValidW t (ents l)
  · unfold findB at h
    rw [decide_eq_true hv, Bool.true_and] at h
    rw [if_pos hv, thg_find ((rising_ents l).1 hv.up), if_neg (by rw [h]; simp)]; rfl
  · rw [if_neg hv]
set_option maxHeartbeats 1000000 in
set_option maxRecDepth 100000 in
theorem refGet_spec (t id kd : Int) (A : Option Addr) (l : List EntP) (c1 : Nat) (w : World) (hs : Sz l) (hr : RdW w A l) :
    Ret Tryd.prog 32 [wv t A l c1, .int .i64 id, .int .u8 kd].toArray w (Out w (.tuple #[.agg (Flat.enc (compD (getM t id kd (ents l)))).toArray, .bool (getM t id kd (ents l)).isSome])) := by
  have hE := fun w' (he : Ext w w') => refEntity_spec t id A l c1 w' hs (hr.ext he)
  unfold entD at hE
  unfold wv at hE ⊢
  cases hb : findB t id l with
  | false =>
    rw [getM_not hb]
    rw [hb] at hE
    simp only [Bool.false_eq_true, if_false] at hE
    rw [show (Flat.enc (Flat.dflt : EntP)).toArray = #[.int .i64 0, .slice none 0 0] from rfl] at hE
    refine enterH Tryd.func32 rfl rfl Tryd.ntmps32 rfl (Wd.refl _) ?_
    (repeat' (first | (show VH _ _ _ _ _ _ _; first | refine v_seq ?_ | refine r_seq ?_ | refine v_block ?_) | (show SH _ _ _ _ _ (_ :: _) _ _ _; first | (show SH _ _ _ _ _ (⟨_, .move _, _, _, _, _⟩ :: _) _ _ _; refine mov evL ?_) | (show SH _ _ _ _ _ (⟨_, .assign _, _, _, _, _⟩ :: _) _ _ _; refine asg evL ?_) | (show SH _ _ _ _ _ (⟨_, .load _ _, _, _, _, _⟩ :: _) _ _ _; refine lba rfl spL (by rfl) ?_) | (show SH _ _ _ _ _ (⟨_, .call ⟨.value (.func 31), _, _⟩, _, _, _, _⟩ :: _) _ _ _; refine cl (callee := .func 31) rfl (fun w hw => hE _ hw.ext) rfl rfl ?_) | refine extr rfl rfl ?_ | refine ala rfl (fun b => ?_) | (show SH _ _ _ _ _ (⟨_, .box _ _, _, _, _, _⟩ :: _) _ _ _; refine bxx rfl evL rfl (fun b => ?_)) | (show SH _ _ _ _ _ (⟨_, .store _ _ _, _, _, _, _⟩ :: _) _ _ _; refine sta rfl rfl rfl spL (by rfl) (by rfl) (by rfl) kpL ?_)) | refine s_nil ?_ | refine kh_normal ?_))
    refine v_loop0 [(7,7),(10,10),(17,39)] (fun k : Nat => [(10, .int .i64 k)]) (fun k => k = 0) (fun k => 0 - k) 0 hsL rfl ?_
    rintro k g rfl
    simp only [sets]
    (repeat' (first | (show VH _ _ _ _ _ _ _; first | refine v_seq ?_ | refine r_seq ?_ | refine v_ret ?_ | refine v_exit ?_ | refine v_cond_f rfl tbL ?_) | (show SH _ _ _ _ _ (_ :: _) _ _ _; first | (show SH _ _ _ _ _ (⟨_, _, _, _, _, some _⟩ :: _) _ _ _; (refine gif rfl rfl ?_; refine giTF tbL ?_)) | (show SH _ _ _ _ _ (⟨_, .move _, _, _, _, _⟩ :: _) _ _ _; refine mov evL ?_) | (show SH _ _ _ _ _ (⟨_, .assign _, _, _, _, _⟩ :: _) _ _ _; refine asg evL ?_) | (show SH _ _ _ _ _ (⟨_, .binOp .lss _ _ _ _, _, _, _, _⟩ :: _) _ _ _; refine lssF rfl rfl omD ?_) | (show SH _ _ _ _ _ (⟨_, .load _ _, _, _, _, _⟩ :: _) _ _ _; refine lbx rfl spL (by rfl) ?_) | refine slen rfl ?_ | (show SH _ _ _ _ _ (⟨_, .pick _ _ _, _, _, _, _⟩ :: _) _ _ _; refine pkf rfl tbL evL ?_) | refine fad rfl ?_ | refine bldZN ?_ | (show SH _ _ _ _ _ (⟨_, .store _ _ _, _, _, _, _⟩ :: _) _ _ _; refine sta rfl rfl rfl spL (by rfl) (by rfl) (by rfl) kpL ?_)) | refine s_nil ?_ | refine kh_normal ?_ | refine kh_exit ?_ | refine bh_exit ?_))
    exact rhC2 rfl rfl rfl rfl (fun w hw => loadVar_bx hw spL (by rfl)) ⟨rfl, rfl⟩ (ent_nil _)
  | true =>
    rw [getM_found hb]
    rw [hb] at hE
    simp only [if_true] at hE
    unfold findB hasK at hb
    simp only [Bool.and_eq_true, decide_eq_true_eq] at hb
    have hlt := hb.2.1
    have hx := getD_mem (d := Flat.dflt) hlt
    have hcr := fun w' (he : Ext w w') => (hr.2 _ hx).ext he
    have hcl := hs.el _ hx
    clear hb hx
    generalize l.getD (lbK idE id l) Flat.dflt = x at hE hcr hcl ⊢
    obtain ⟨⟨ei, cs⟩, Ax, cx⟩ := x
    simp only at hE hcr hcl ⊢
    have hcr := hcr w (Ext.refl w)
    rw [show Flat.enc (⟨⟨ei, cs⟩, Ax, cx⟩ : EntP) = [.int .i64 ei, .slice Ax cs.length cx] from rfl] at hE
    refine enterH Tryd.func32 rfl rfl Tryd.ntmps32 rfl (Wd.refl _) ?_
    (repeat' (first | (show VH _ _ _ _ _ _ _; first | refine v_seq ?_ | refine r_seq ?_ | refine v_block ?_) | (show SH _ _ _ _ _ (_ :: _) _ _ _; first | (show SH _ _ _ _ _ (⟨_, .move _, _, _, _, _⟩ :: _) _ _ _; refine mov evL ?_) | (show SH _ _ _ _ _ (⟨_, .assign _, _, _, _, _⟩ :: _) _ _ _; refine asg evL ?_) | (show SH _ _ _ _ _ (⟨_, .load _ _, _, _, _, _⟩ :: _) _ _ _; refine lba rfl spL (by rfl) ?_) | (show SH _ _ _ _ _ (⟨_, .call ⟨.value (.func 31), _, _⟩, _, _, _, _⟩ :: _) _ _ _; refine cl (callee := .func 31) rfl (fun w hw => hE _ hw.ext) rfl rfl ?_) | refine extr rfl rfl ?_ | refine ala rfl (fun b => ?_) | (show SH _ _ _ _ _ (⟨_, .box _ _, _, _, _, _⟩ :: _) _ _ _; refine bxx rfl evL rfl (fun b => ?_)) | (show SH _ _ _ _ _ (⟨_, .store _ _ _, _, _, _, _⟩ :: _) _ _ _; refine sta rfl rfl rfl spL (by rfl) (by rfl) (by rfl) kpL ?_)) | refine s_nil ?_ | refine kh_normal ?_))
    refine v_loop0 [(7,7),(10,10),(17,39)] (fun k : Nat => [(10, .int .i64 k)]) (fun k => k ≤ cs.length ∧ compK kd (cs.drop k) = compK kd cs) (fun k => cs.length - k) 0 hsL ⟨Nat.zero_le _, by simp⟩ ?_
    rintro k g ⟨hk, hq⟩
    simp only [sets]
    by_cases hkl : k < cs.length
    · rw [drop_cons (d := Flat.dflt) hkl] at hq
      unfold compK at hq
      rw [List.find?_cons] at hq
      by_cases he : (cs.getD k Flat.dflt).kind = kd
      · rw [decide_eq_true he] at hq
        simp only at hq
        have hq2 : compK kd cs = some (cs.getD k Flat.dflt) := hq.symm
        rw [hq2]
        clear hq hq2
        (repeat' (first | (show VH _ _ _ _ _ _ _; first | refine v_seq ?_ | refine r_seq ?_ | refine v_block ?_ | refine v_ret ?_ | refine v_skip ?_ | refine v_cond_t rfl tbL ?_) | (show SH _ _ _ _ _ (_ :: _) _ _ _; first | (show SH _ _ _ _ _ (⟨_, _, _, _, _, some _⟩ :: _) _ _ _; (refine gif rfl rfl ?_; refine giTT tbL ?_)) | (show SH _ _ _ _ _ (⟨_, .move _, _, _, _, _⟩ :: _) _ _ _; refine mov evL ?_) | (show SH _ _ _ _ _ (⟨_, .assign _, _, _, _, _⟩ :: _) _ _ _; refine asg evL ?_) | (show SH _ _ _ _ _ (⟨_, .binOp .lss _ _ _ _, _, _, _, _⟩ :: _) _ _ _; refine lssT rfl rfl omD ?_) | (show SH _ _ _ _ _ (⟨_, .binOp .eql _ _ _ _, _, _, _, _⟩ :: _) _ _ _; refine eqlT rfl rfl omD ?_) | (show SH _ _ _ _ _ (⟨_, .load _ _, _, _, _, _⟩ :: _) _ _ _; first | refine lbx rfl spL (by rfl) ?_ | refine lra rfl (fun _ _ => rdY) (by rfl) omL ?_ | refine lrf rfl (fun _ _ => rdY) (by rfl) omL (by rfl) ?_ | refine lrf rfl (fun _ _ => rdY) (by rfl) (by simp only [List.length_cons, List.length_nil]; omega) (by rfl) ?_ | refine lra rfl (fun _ _ => rdY) (by rfl) (by simp only [List.length_cons, List.length_nil]; omega) ?_) | (show SH _ _ _ _ _ (⟨_, .indexAddr _ _ _, _, _, _, _⟩ :: _) _ _ _; refine ix rfl rfl (by with_reducible rfl) (fun _ _ => rdY) (by rfl) omL omL ?_) | refine slen rfl ?_ | (show SH _ _ _ _ _ (⟨_, .pick _ _ _, _, _, _, _⟩ :: _) _ _ _; refine pkt rfl tbL evL ?_) | refine fad rfl ?_ | (show SH _ _ _ _ _ (⟨_, .store _ _ _, _, _, _, _⟩ :: _) _ _ _; refine sta rfl rfl rfl spL (by rfl) (by rfl) (by rfl) kpL ?_)) | refine s_nil ?_ | refine kh_normal ?_ | refine kh_ret ?_ | refine bh_ret ?_))
        exact rhC2 rfl rfl rfl rfl (fun w hw => loadVar_bx hw spL (by rfl)) ⟨rfl, rfl⟩ (ent_nil _)
      · rw [decide_eq_false he] at hq
        simp only at hq
        have hq2 : compK kd (cs.drop (k + 1)) = compK kd cs := hq
        clear hq
        (repeat' (first | (show VH _ _ _ _ _ _ _; first | refine v_seq ?_ | refine r_seq ?_ | refine v_block ?_ | refine v_skip ?_ | refine v_cond_t rfl tbL ?_ | refine v_cond_f rfl tbL ?_) | (show SH _ _ _ _ _ (_ :: _) _ _ _; first | (show SH _ _ _ _ _ (⟨_, _, _, _, _, some _⟩ :: _) _ _ _; (refine gif rfl rfl ?_; refine giTT tbL ?_)) | (show SH _ _ _ _ _ (⟨_, .move _, _, _, _, _⟩ :: _) _ _ _; refine mov evL ?_) | (show SH _ _ _ _ _ (⟨_, .assign _, _, _, _, _⟩ :: _) _ _ _; refine asg evL ?_) | (show SH _ _ _ _ _ (⟨_, .binOp .lss _ _ _ _, _, _, _, _⟩ :: _) _ _ _; refine lssT rfl rfl omD ?_) | (show SH _ _ _ _ _ (⟨_, .binOp .eql _ _ _ _, _, _, _, _⟩ :: _) _ _ _; refine eqlF rfl rfl omD ?_) | (show SH _ _ _ _ _ (⟨_, .binOp .add _ _ _ _, _, _, _, _⟩ :: _) _ _ _; refine add rfl rfl inL ?_) | (show SH _ _ _ _ _ (⟨_, .load _ _, _, _, _, _⟩ :: _) _ _ _; first | refine lbx rfl spL (by rfl) ?_ | refine lrf rfl (fun _ _ => rdY) (by rfl) omL (by rfl) ?_ | refine lrf rfl (fun _ _ => rdY) (by rfl) (by simp only [List.length_cons, List.length_nil]; omega) (by rfl) ?_) | (show SH _ _ _ _ _ (⟨_, .indexAddr _ _ _, _, _, _, _⟩ :: _) _ _ _; refine ix rfl rfl (by with_reducible rfl) (fun _ _ => rdY) (by rfl) omL omL ?_) | refine slen rfl ?_ | (show SH _ _ _ _ _ (⟨_, .pick _ _ _, _, _, _, _⟩ :: _) _ _ _; refine pkt rfl tbL evL ?_) | refine fad rfl ?_) | refine s_nil ?_ | refine kh_normal ?_ | refine bh_normal ?_))
        exact ⟨agL, k + 1, hsL, enL, ⟨hkl, hq2⟩, by show _ - (k + 1) < _ - k; omega⟩
    · rw [List.drop_of_length_le (by omega)] at hq
      rw [← hq]
      clear hq
      (repeat' (first | (show VH _ _ _ _ _ _ _; first | refine v_seq ?_ | refine r_seq ?_ | refine v_ret ?_ | refine v_exit ?_ | refine v_cond_f rfl tbL ?_) | (show SH _ _ _ _ _ (_ :: _) _ _ _; first | (show SH _ _ _ _ _ (⟨_, _, _, _, _, some _⟩ :: _) _ _ _; (refine gif rfl rfl ?_; refine giTF tbL ?_)) | (show SH _ _ _ _ _ (⟨_, .move _, _, _, _, _⟩ :: _) _ _ _; refine mov evL ?_) | (show SH _ _ _ _ _ (⟨_, .assign _, _, _, _, _⟩ :: _) _ _ _; refine asg evL ?_) | (show SH _ _ _ _ _ (⟨_, .binOp .lss _ _ _ _, _, _, _, _⟩ :: _) _ _ _; refine lssF rfl rfl omD ?_) | (show SH _ _ _ _ _ (⟨_, .load _ _, _, _, _, _⟩ :: _) _ _ _; refine lbx rfl spL (by rfl) ?_) | refine slen rfl ?_ | (show SH _ _ _ _ _ (⟨_, .pick _ _ _, _, _, _, _⟩ :: _) _ _ _; refine pkf rfl tbL evL ?_) | refine fad rfl ?_ | refine bldZN ?_ | (show SH _ _ _ _ _ (⟨_, .store _ _ _, _, _, _, _⟩ :: _) _ _ _; refine sta rfl rfl rfl spL (by rfl) (by rfl) (by rfl) kpL ?_)) | refine s_nil ?_ | refine kh_normal ?_ | refine kh_exit ?_ | refine bh_exit ?_))
      exact rhC2 rfl rfl rfl rfl (fun w hw => loadVar_bx hw spL (by rfl)) ⟨rfl, rfl⟩ (ent_nil _)
set_option maxHeartbeats 1000000 in
set_option maxRecDepth 100000 in
theorem refNext_spec (t : Int) (A : Option Addr) (l : List EntP) (c1 : Nat) (w : World) (hs : Sz l) (hr : RdW w A l) :
    Ret Tryd.prog 33 [wv t A l c1].toArray w (Out w (.tuple #[.int .i64 (if ValidW t (ents l) then nextI (ents l) 1 else 0), .int .i64 (if ValidW t (ents l) then 0 else 2)])) := by
  have hV := fun w' (he : Ext w w') => refValid_spec t A l c1 w' hs (hr.ext he)
  have hF := fun id w' (he : Ext w w') => refFind_spec t id A l c1 w' hs (hr.ext he)
  unfold foundI findB at hF
  unfold wv at hV hF ⊢
  by_cases hv : ValidW t (ents l)
  · rw [if_pos hv, if_pos hv]
    rw [decide_eq_true hv] at hV hF
    simp only [Bool.true_and] at hF
    have hl64 := hv.len
    rw [ents_len] at hl64
    have hN := nextI_at (ents l) 1
    rw [ents_len] at hN
    have hat : ∀ q, q < l.length → ((ents l).getD q ⟨0, []⟩).id = idE (l.getD q Flat.dflt) := fun q hq => by
      unfold ents
      simp [List.getD_eq_getElem?_getD, hq]
    have hup : Rising idE l := (rising_ents l).1 hv.up
    have hlow := id_low hup (fun x hx => (hv.right _ (List.mem_map_of_mem hx)).id.1)
    clear hv
    generalize nextI (ents l) 1 = N at hN ⊢
    refine enterH Tryd.func33 rfl rfl Tryd.ntmps33 rfl (Wd.refl _) ?_
    (repeat' (first | (show VH _ _ _ _ _ _ _; first | refine v_seq ?_ | refine r_seq ?_ | refine v_block ?_ | refine v_skip ?_ | refine v_cond_f rfl tbL ?_) | (show SH _ _ _ _ _ (_ :: _) _ _ _; first | (show SH _ _ _ _ _ (⟨_, .assign _, _, _, _, _⟩ :: _) _ _ _; refine asg evL ?_) | (show SH _ _ _ _ _ (⟨_, .load _ _, _, _, _, _⟩ :: _) _ _ _; refine lba rfl spL (by rfl) ?_) | (show SH _ _ _ _ _ (⟨_, .call ⟨.value (.func 28), _, _⟩, _, _, _, _⟩ :: _) _ _ _; refine cl (callee := .func 28) rfl (fun w hw => hV _ hw.ext) rfl rfl ?_) | refine bnoT rfl ?_ | (show SH _ _ _ _ _ (⟨_, .box _ _, _, _, _, _⟩ :: _) _ _ _; refine bxx rfl evL rfl (fun b => ?_))) | refine s_nil ?_ | refine kh_normal ?_))
    refine v_loop0 [(2,4),(8,14)] (fun k : Nat => [(4, .int .i64 ((k + 1 : Nat) : Int))]) (fun k => k ≤ l.length ∧ ∀ q, q < k → idE (l.getD q Flat.dflt) = 1 + (q : Int)) (fun k => l.length - k) 0 hsL ⟨Nat.zero_le _, fun q h => absurd h (Nat.not_lt_zero q)⟩ ?_
    rintro k g ⟨hk, hq⟩
    simp only [sets]
    have hF := fun w' (he : Ext w w') => hF ((k + 1 : Nat) : Int) w' he
    have hlb : lbK idE ((k + 1 : Nat) : Int) l = k := lbK_eq Flat.dflt idE _ l k hk (fun q hq2 => by rw [hq q hq2]; omega) (fun h => by have := hlow k h; omega)
    by_cases hkl : k < l.length ∧ idE (l.getD k Flat.dflt) = ((k + 1 : Nat) : Int)
    · have hh := has_at hup hkl.1 hkl.2
      rw [hh.2, hh.1] at hF
      simp only [if_true] at hF
      have hq' : ∀ q, q < k + 1 → idE (l.getD q Flat.dflt) = 1 + (q : Int) := fun q hq2 => by
        by_cases e : q = k
        · rw [e, hkl.2]; omega
        · exact hq q (by omega)
      have hkl := hkl.1
      clear hq hN hat hup hlow hlb hh
      (repeat' (first | (show VH _ _ _ _ _ _ _; first | refine v_seq ?_ | refine r_seq ?_ | refine v_block ?_ | refine v_skip ?_ | refine v_cond_f rfl tbL ?_) | (show SH _ _ _ _ _ (_ :: _) _ _ _; first | (show SH _ _ _ _ _ (⟨_, .move _, _, _, _, _⟩ :: _) _ _ _; refine mov evL ?_) | (show SH _ _ _ _ _ (⟨_, .assign _, _, _, _, _⟩ :: _) _ _ _; refine asg evL ?_) | (show SH _ _ _ _ _ (⟨_, .binOp .lss _ _ _ _, _, _, _, _⟩ :: _) _ _ _; refine lssF rfl rfl omD ?_) | (show SH _ _ _ _ _ (⟨_, .binOp .add _ _ _ _, _, _, _, _⟩ :: _) _ _ _; refine add rfl rfl inL ?_) | (show SH _ _ _ _ _ (⟨_, .load _ _, _, _, _, _⟩ :: _) _ _ _; refine lba rfl spL (by rfl) ?_) | (show SH _ _ _ _ _ (⟨_, .call ⟨.value (.func 61), _, _⟩, _, _, _, _⟩ :: _) _ _ _; refine cl (callee := .func 61) rfl (fun w hw => hF _ hw.ext) rfl rfl ?_)) | refine s_nil ?_ | refine kh_normal ?_ | refine bh_normal ?_))
      exact ⟨agL, k + 1, hsL, enL, ⟨hkl, hq'⟩, by omega⟩
    · have hh : hasK idE ((k + 1 : Nat) : Int) l = false := by
        unfold hasK
        rw [hlb]
        by_cases h : k < l.length
        · rw [decide_eq_false (fun e => hkl ⟨h, e⟩), Bool.and_false]
        · rw [decide_eq_false h]; rfl
      rw [hh] at hF
      simp only [Bool.false_eq_true, if_false] at hF
      have hr0 := hN k hk (fun q hq2 => by rw [hat q (by omega)]; exact hq q hq2) (fun h => by rw [hat k h]; intro e; exact hkl ⟨h, by rw [e]; omega⟩)
      clear hq hN hat hup hlow hlb hh hkl
      (repeat' (first | (show VH _ _ _ _ _ _ _; first | refine v_seq ?_ | refine r_seq ?_ | refine v_block ?_ | refine v_ret ?_ | refine v_cond_t rfl tbL ?_) | (show SH _ _ _ _ _ (_ :: _) _ _ _; first | (show SH _ _ _ _ _ (⟨_, .move _, _, _, _, _⟩ :: _) _ _ _; refine mov evL ?_) | (show SH _ _ _ _ _ (⟨_, .assign _, _, _, _, _⟩ :: _) _ _ _; refine asg evL ?_) | (show SH _ _ _ _ _ (⟨_, .binOp .lss _ _ _ _, _, _, _, _⟩ :: _) _ _ _; refine lssT rfl rfl omD ?_) | (show SH _ _ _ _ _ (⟨_, .load _ _, _, _, _, _⟩ :: _) _ _ _; refine lba rfl spL (by rfl) ?_) | (show SH _ _ _ _ _ (⟨_, .call ⟨.value (.func 61), _, _⟩, _, _, _, _⟩ :: _) _ _ _; refine cl (callee := .func 61) rfl (fun w hw => hF _ hw.ext) rfl rfl ?_)) | refine s_nil ?_ | refine kh_normal ?_ | refine kh_ret ?_ | refine bh_ret ?_))
      exact rh2 rfl rfl rfl ⟨congrArg (fun m => Value.tuple #[.int .i64 m, .int .i64 0]) (by rw [hr0]; omega), rfl⟩ (ent_nil _)
  · rw [if_neg hv, if_neg hv]
    rw [decide_eq_false hv] at hV
    clear hv hF
    refine enterH Tryd.func33 rfl rfl Tryd.ntmps33 rfl (Wd.refl _) ?_
    (repeat' (first | (show VH _ _ _ _ _ _ _; first | refine v_seq ?_ | refine r_seq ?_ | refine v_ret ?_ | refine v_cond_t rfl tbL ?_) | (show SH _ _ _ _ _ (_ :: _) _ _ _; first | (show SH _ _ _ _ _ (⟨_, .assign _, _, _, _, _⟩ :: _) _ _ _; refine asg evL ?_) | (show SH _ _ _ _ _ (⟨_, .load _ _, _, _, _, _⟩ :: _) _ _ _; refine lba rfl spL (by rfl) ?_) | (show SH _ _ _ _ _ (⟨_, .call ⟨.value (.func 28), _, _⟩, _, _, _, _⟩ :: _) _ _ _; refine cl (callee := .func 28) rfl (fun w hw => hV _ hw.ext) rfl rfl ?_) | refine bnoF rfl ?_ | (show SH _ _ _ _ _ (⟨_, .box _ _, _, _, _, _⟩ :: _) _ _ _; refine bxx rfl evL rfl (fun b => ?_))) | refine s_nil ?_ | refine kh_normal ?_ | refine kh_ret ?_))
    exact rh2 rfl rfl rfl ⟨rfl, rfl⟩ (ent_nil _)
end Go.Proofs.YtfodpcpclmnbkaaDoor
