/- Layer 37 (chat): words, texts, rooms and things that are done, as arguments. -/
import Derived.Test.YtplhnnlklnbahaaQAa
import Derived.Test.YtplhnnlklnbahaaQAb
import Derived.Test.YtplhnnlklnbahaaQAc
import Derived.Test.YtplhnnlklnbahaaQAd
import Derived.Test.YtplhnnlklnbahaaQAe
import Derived.Test.YtplhnnlklnbahaaQAf
import Derived.Test.YtplhnnlklnbahaaQAg
import Derived.Test.YtplhnnlklnbahaaQAh
import Derived.ProofKit
import Derived.Carry
import Derived.Deep.Slices
import Derived.Lib.SmallJoins
import Derived.OpenShut
import Derived.Test.YtplhnnlklnbahaaRows
import Derived.ChangeMaps5
set_option linter.unusedSimpArgs false
set_option linter.unusedVariables false
/- ChatHears: from the law's function. -/
namespace Go.Proofs.Ytplhnnlklnbahaa
open Go.Fw Go.RowKit
theorem res_ok {p : ResR} (h : p.2 = 0) : p = (p.1, 0) := Prod.ext rfl h
/-- What is heard if others leave. -/
theorem hear_less {r : Rom} (hv : VRom r) {k i : Nat} (hk : k < r.ms.length) (hi : i < r.ms.length) (hne : k ≠ i) :
    ∃ r1 r2, leaveRm r (r.ms.getD i mbr0).id = (r1, 0) ∧ VRom r1 ∧ hearR r1 (r.ms.getD k mbr0).id 0 = (r.log.filter fun x => !decide (x.frm ∈ (r.ms.getD k mbr0).ign), 0) ∧ joinR r1 (r.ms.getD i mbr0).id = (r2, 0) ∧ r2.ms.length = r.ms.length ∧ r2.ms.getD i mbr0 = ⟨(r.ms.getD i mbr0).id, []⟩ := by
  have h1 := leave_at hv hi
  have hv1 : VRom { r with ms := r.ms.eraseIdx i } := by
    obtain ⟨_, k', h2, h3, h4, h5⟩ := leave_val37 (r := r) (id := (r.ms.getD i mbr0).id) (by rw [h1])
    rw [find37_at hv.ris hi] at h2
    injection h2 with h2; subst h2; exact h5
  have hj : joinR { r with ms := r.ms.eraseIdx i } (r.ms.getD i mbr0).id = ({ r with ms := r.ms.set i ⟨(r.ms.getD i mbr0).id, []⟩ }, 0) := by
    unfold joinR
    rw [if_pos ⟨vrom_iff.2 hv1, id37_iff.2 (hv.ids _ (getD_mem hi))⟩, find37_none.2 (erase_id hv.ris hi)]
    simp only
    rw [if_pos (by rw [List.length_eraseIdx]; have := hv.msl; split <;> omega), insM_erase hv.ris hi (x := ⟨(r.ms.getD i mbr0).id, []⟩) rfl]
  refine ⟨_, _, h1, hv1, hear_all hv1 (erase_mem hv.ris hk hi hne), hj, by simp, set_mbr hi _⟩
theorem set_in {l : List Mbr} {k i : Nat} (hk : k < l.length) (hne : k ≠ i) (x : Mbr) : l.getD k mbr0 ∈ l.set i x := by
  have h : (l.set i x).getD k mbr0 = l.getD k mbr0 := by rw [List.getD_eq_getElem?_getD, List.getD_eq_getElem?_getD, List.getElem?_set_ne (Ne.symm hne)]
  rw [← h]; exact getD_mem (by rw [List.length_set]; exact hk)
/-- What is heard if others ignore. -/
theorem hear_deaf {r : Rom} (hv : VRom r) {k i : Nat} (hk : k < r.ms.length) (hi : i < r.ms.length) (hne : k ≠ i) :
    ∃ r1 e, ignoreR r (r.ms.getD i mbr0).id (r.ms.getD k mbr0).id true = (r1, e) ∧ (e = 0 ∧ VRom r1 ∧ hearR r1 (r.ms.getD k mbr0).id 0 = (r.log.filter fun x => !decide (x.frm ∈ (r.ms.getD k mbr0).ign), 0) ∨ e = 4) := by
  have h1 := ignore_at hv hi (r.ms.getD k mbr0).id true
  rw [if_pos ⟨id37_iff.2 (hv.ids _ (getD_mem hk)), erase_id hv.ris hi _ (erase_mem hv.ris hk hi hne)⟩] at h1
  by_cases h0 : (ignAt r i (r.ms.getD k mbr0).id true).2 = 0
  · have hv1 := (ignore_val (id := (r.ms.getD i mbr0).id) (whom := (r.ms.getD k mbr0).id) (on := true) (by rw [h1]; exact h0)).2
    rw [h1] at hv1
    refine ⟨_, _, h1.trans (res_ok h0), .inl ⟨rfl, hv1, ?_⟩⟩
    have hm : r.ms.getD k mbr0 ∈ (ignAt r i (r.ms.getD k mbr0).id true).1.ms ∧ (ignAt r i (r.ms.getD k mbr0).id true).1.log = r.log := by
      unfold ignAt at h0 ⊢
      split <;> rename_i hin
      · exact ⟨getD_mem hk, rfl⟩
      · rw [if_neg hin, if_pos rfl] at h0
        rw [if_pos rfl]
        split at h0 <;> rename_i hl
        · rw [if_pos hl]
          exact ⟨set_in hk hne _, rfl⟩
        · cases h0
    exact (hear_all hv1 hm.1).trans (by rw [hm.2])
  · exact ⟨_, _, h1.trans (ign_full h0).1, .inr rfl⟩
theorem filter_snocD {α : Type} (p : α → Bool) (z : α) {l : List α} {i : Nat} (hi : i < l.length) : (l.take (i + 1)).filter p = (l.take i).filter p ++ if p (l.getD i z) = true then [l.getD i z] else [] := by
  rw [take_snoc (d := z) hi, List.filter_append]
  congr 1
  split <;> rename_i h
  · rw [List.filter_cons_of_pos h]; rfl
  · rw [List.filter_cons_of_neg h]; rfl
theorem memD (y : Int) (l : List Int) : ∃ D : Nat → Bool, D 0 = false ∧ D l.length = decide (y ∈ l) ∧ ∀ j, j < l.length → D (j + 1) = (D j || decide (l.getD j Flat.dflt = y)) := by
  refine ⟨fun j => decide (y ∈ l.take j), by simp, by simp only [List.take_length], fun j hj => ?_⟩
  simp only
  rw [take_snoc (d := Flat.dflt) hj, ← Bool.decide_or, decide_eq_decide, List.mem_append, List.mem_singleton, eq_comm (a := y)]
/-- What is heard, as a list. -/
def OutHm (l : List Msg) (v : Value) (H' : List HP) : Prop := ∃ (B : Option Addr) (d : Nat), v = .tuple #[.slice B l.length d, .int .i64 0] ∧ H' = [orow 36 B d l]
theorem outHm_of {r : List Msg × Int} {l : List Msg} {g : FuncId} {args : List Value} {w : World} (he : r = (l, 0)) (h : Ret Try.prog g args.toArray w (RP w (OutHe r))) : Ret Try.prog g args.toArray w (RP w (OutHm l)) := by
  subst he; exact h
/-- A room with rows of its own, and an error. -/
def OutRN (t s : Int) (ms : List Mbr) (gl : List Msg) (e : Int) (v : Value) (H' : List HP) : Prop := ∃ (A : Option Addr) (c : Nat) (L : List MbrP) (B : Option Addr) (d : Nat), mbrs L = ms ∧ v = .tuple #[.agg #[.int .i64 t, .int .i64 s, .slice A L.length c, .slice B gl.length d], .int .i64 e] ∧ H' = [orow 31 A c L, orow 36 B d gl, allH (L.map rowG)]
theorem outRN_of {t s : Int} {ms : List Mbr} {gl : List Msg} {e : Int} {r : ResR} {g : FuncId} {args : List Value} {w : World} (he : r = (⟨t, s, ms, gl⟩, e)) (h : Ret Try.prog g args.toArray w (RP w (OutR r))) : Ret Try.prog g args.toArray w (RP w (OutRN t s ms gl e)) := by
  subst he; exact h
theorem sm_k {B1 B2 : Option Addr} {l : List Msg} {d1 d2 : Nat} {w : World} (hl : l.length ≤ 1000000) (h1 : Rd w B1 l) (h2 : Rd w B2 l) : Ret Try.prog 16 [.slice B1 l.length d1, .slice B2 l.length d2].toArray w (Out w (.bool true)) := by
  have := sameMessages_spec B1 B2 l l d1 d2 w hl hl h1 h2
  rwa [decide_eq_true rfl] at this
set_option maxHeartbeats 8000000 in
set_option maxRecDepth 100000 in
theorem hearsLaw (t s : Int) (A : Option Addr) (L : List MbrP) (c : Nat) (B : Option Addr) (gl : List Msg) (d : Nat) (n after : Int) (W : World) (hl : L.length ≤ maxLen) (hgl : gl.length ≤ maxLen) (hs : -9223372036854775808 ≤ s) (hr : RdR W A L B gl) :
    Ret Try.prog 3 [rv37 t s A L c B gl d, .int .i64 n, .int .i64 after].toArray W (Out W (.bool true)) := by
  have haw := fun w => awake37_spec w
  have hsm := fun w h => small37_spec t s A L c B gl d w hl hgl h
  by_cases hS : SmallM (mbrs L) gl
  · rw [decide_eq_true hS] at hsm
    have hz := szM_sz rfl (small_sz hS)
    by_cases hV : VRom (rom t s L gl)
    · have hva := fun w hr => valid_k (A := A) (c := c) (B := B) (d := d) (w := w) hV hr
      unfold rv37 at hsm ⊢
      have hll : L.length ≤ 32 := by have := hV.msl; unfold rom at this; rwa [mbrs_len] at this
      have hgll : gl.length ≤ 50 := hV.logl
      by_cases h0 : L.length = 0
      · refine enterH Try.func3 rfl rfl Try.ntmps3 rfl (Wd.refl _) ?_
        (repeat' (first | (show VH _ _ _ _ _ _ _; first | refine v_seq ?_ | refine r_seq ?_ | refine v_ret ?_ | refine v_skip ?_ | refine v_cond_t rfl tbL ?_ | refine v_cond_f rfl tbL ?_) | (show SH _ _ _ _ _ (_ :: _) _ _ _; first | (show SH _ _ _ _ _ (⟨_, _, _, _, _, some _⟩ :: _) _ _ _; (refine gif rfl rfl ?_; refine giFF tbL ?_)) | (show SH _ _ _ _ _ (⟨_, .move _, _, _, _, _⟩ :: _) _ _ _; refine mov evL ?_) | (show SH _ _ _ _ _ (⟨_, .assign _, _, _, _, _⟩ :: _) _ _ _; refine asg evL ?_) | (show SH _ _ _ _ _ (⟨_, .binOp .eql _ _ _ _, _, _, _, _⟩ :: _) _ _ _; refine eqlT rfl rfl omD ?_) | (show SH _ _ _ _ _ (⟨_, .load _ _, _, _, _, _⟩ :: _) _ _ _; first | refine lbx rfl spL (by rfl) ?_ | refine lba rfl spL (by rfl) ?_) | refine slen rfl ?_ | (show SH _ _ _ _ _ (⟨_, .call ⟨.value (.func 11), _, _⟩, _, _, _, _⟩ :: _) _ _ _; refine cl (callee := .func 11) rfl (fun w hw => haw w) rfl rfl ?_) | (show SH _ _ _ _ _ (⟨_, .call ⟨.value (.func 12), _, _⟩, _, _, _, _⟩ :: _) _ _ _; refine cl (callee := .func 12) rfl (fun w hw => hsm w (hr.ext hw.ext)) rfl rfl ?_) | (show SH _ _ _ _ _ (⟨_, .call ⟨.value (.func 13), _, _⟩, _, _, _, _⟩ :: _) _ _ _; refine cl (callee := .func 13) rfl (fun w hw => hva w (hr.ext hw.ext)) rfl rfl ?_) | refine bnoT rfl ?_ | (show SH _ _ _ _ _ (⟨_, .pick _ _ _, _, _, _, _⟩ :: _) _ _ _; refine pkf rfl tbL evL ?_) | refine fad rfl ?_ | (show SH _ _ _ _ _ (⟨_, .box _ _, _, _, _, _⟩ :: _) _ _ _; refine bxx rfl evL rfl (fun b => ?_))) | refine s_nil ?_ | refine kh_normal ?_ | refine kh_ret ?_))
        exact rh1 rfl rfl ⟨rfl, rfl⟩ (ent_nil _)
      · have hpk := fun w => pick_spec n L.length w (by omega) (by omega)
        obtain ⟨k, hkk⟩ : ∃ k : Nat, n % (L.length : Int) = k := ⟨(n % (L.length : Int)).toNat, by have := Int.emod_nonneg n (show (L.length : Int) ≠ 0 by omega); omega⟩
        have hkl : k < L.length := by have := Int.emod_lt_of_pos n (show 0 < (L.length : Int) by omega); omega
        rw [hkk] at hpk
        clear hkk
        obtain ⟨x, hx⟩ : ∃ x, L.getD k Flat.dflt = x := ⟨_, rfl⟩
        have hxm : (mbrs L).getD k mbr0 = x.m := by rw [mbrs_at hkl, hx]
        have hme := mbr_enc hx
        have hig : ∀ w, RdR w A L B gl → Rd w x.A x.m.ign := fun w h => by have := h.at hkl; rwa [hx] at this
        have higl := hz.ig (L.getD k Flat.dflt) (getD_mem hkl)
        rw [hx] at higl
        have hin : x.m ∈ (rom t s L gl).ms := by rw [← hxm]; exact getD_mem (by show k < (mbrs L).length; rw [mbrs_len]; exact hkl)
        have hh1 := hear_all hV hin
        have hh2 := hear_at hV hin after
        have hh1 := fun w hr => outHm_of hh1 (hear37_spec t s A L c B gl d x.m.id 0 w hz hs hr)
        have hh2 := fun w hr => outHm_of hh2 (hear37_spec t s A L c B gl d x.m.id after w hz hs hr)
        have hless : ∀ i, i < L.length → k ≠ i → _ := fun i hi hne => hear_less hV (k := k) (i := i) (by show k < (mbrs L).length; rw [mbrs_len]; exact hkl) (by show i < (mbrs L).length; rw [mbrs_len]; exact hi) hne
        have hdeaf : ∀ i, i < L.length → k ≠ i → _ := fun i hi hne => hear_deaf hV (k := k) (i := i) (by show k < (mbrs L).length; rw [mbrs_len]; exact hkl) (by show i < (mbrs L).length; rw [mbrs_len]; exact hi) hne
        simp only [rom, hxm, mbrs_len] at hless hdeaf
        simp only [rv37, rom] at hh1 hh2
        have hFA : ∃ F : Nat → List Msg, F 0 = [] ∧ F gl.length = gl.filter (fun y => !decide (y.frm ∈ x.m.ign)) ∧ ∀ i, i < gl.length → (F i).length ≤ i ∧ F (i + 1) = F i ++ if (gl.getD i Flat.dflt).frm ∉ x.m.ign then [gl.getD i Flat.dflt] else [] :=
          ⟨fun i => (gl.take i).filter (fun y => !decide (y.frm ∈ x.m.ign)), rfl, by simp only [List.take_length], fun i hi => ⟨Nat.le_trans (List.length_filter_le _ _) (by rw [List.length_take]; omega), by simp only; rw [filter_snocD _ Flat.dflt hi]; simp only [Bool.not_eq_true', decide_eq_false_iff_not]⟩⟩
        have hGA : ∃ F : Nat → List Msg, F 0 = [] ∧ F gl.length = gl.filter (fun y => decide (after < y.num) && !decide (y.frm ∈ x.m.ign)) ∧ ∀ i, i < gl.length → (F i).length ≤ i ∧ F (i + 1) = F i ++ if after < (gl.getD i Flat.dflt).num ∧ (gl.getD i Flat.dflt).frm ∉ x.m.ign then [gl.getD i Flat.dflt] else [] :=
          ⟨fun i => (gl.take i).filter (fun y => decide (after < y.num) && !decide (y.frm ∈ x.m.ign)), rfl, by simp only [List.take_length], fun i hi => ⟨Nat.le_trans (List.length_filter_le _ _) (by rw [List.length_take]; omega), by simp only; rw [filter_snocD _ Flat.dflt hi]; simp only [Bool.and_eq_true, decide_eq_true_eq, Bool.not_eq_true', decide_eq_false_iff_not]⟩⟩
        obtain ⟨FA, hFA0, hFAe, hFA⟩ := hFA
        obtain ⟨GA, hGA0, hGAe, hGA⟩ := hGA
        rw [← hFAe] at hh1 hless hdeaf
        rw [← hGAe] at hh2
        have hFAl : (FA gl.length).length ≤ 1000000 := by rw [hFAe]; exact Nat.le_trans (List.length_filter_le _ _) (by omega)
        have hGAl : (GA gl.length).length ≤ 1000000 := by rw [hGAe]; exact Nat.le_trans (List.length_filter_le _ _) (by omega)
        clear hFAe hGAe hxm hx hin hS
        obtain ⟨⟨xi, xl⟩, xA, xca⟩ := x
        simp only at hme hig higl hh1 hh2 hFA hGA hless hdeaf
        have hrA := hr.ms
        have hrB := hr.log
        have hrx := hig W hr
        refine enterH Try.func3 rfl rfl Try.ntmps3 rfl (Wd.refl _) ?_
        (repeat' (first | (show VH _ _ _ _ _ _ _; first | refine v_seq ?_ | refine r_seq ?_ | refine v_skip ?_ | refine v_cond_f rfl tbL ?_) | (show SH _ _ _ _ _ (_ :: _) _ _ _; first | (show SH _ _ _ _ _ (⟨_, _, _, _, _, some _⟩ :: _) _ _ _; (refine gif rfl rfl ?_; refine giFF tbL ?_)) | (show SH _ _ _ _ _ (⟨_, .move _, _, _, _, _⟩ :: _) _ _ _; refine mov evL ?_) | (show SH _ _ _ _ _ (⟨_, .assign _, _, _, _, _⟩ :: _) _ _ _; refine asg evL ?_) | (show SH _ _ _ _ _ (⟨_, .binOp .eql _ _ _ _, _, _, _, _⟩ :: _) _ _ _; refine eqlF rfl rfl omD ?_) | (show SH _ _ _ _ _ (⟨_, .load _ _, _, _, _, _⟩ :: _) _ _ _; first | refine lbx rfl spL (by rfl) ?_ | refine lba rfl spL (by rfl) ?_ | refine lag rfl (fun _ _ => rdS) (by rfl) omL (by assumption) ?_) | (show SH _ _ _ _ _ (⟨_, .indexAddr _ _ _, _, _, _, _⟩ :: _) _ _ _; refine ix rfl rfl (by with_reducible rfl) (fun _ _ => rdS) (by rfl) omL omL ?_) | refine slen rfl ?_ | (show SH _ _ _ _ _ (⟨_, .call ⟨.value (.func 11), _, _⟩, _, _, _, _⟩ :: _) _ _ _; refine cl (callee := .func 11) rfl (fun w hw => haw w) rfl rfl ?_) | (show SH _ _ _ _ _ (⟨_, .call ⟨.value (.func 12), _, _⟩, _, _, _, _⟩ :: _) _ _ _; refine cl (callee := .func 12) rfl (fun w hw => hsm w (hr.ext hw.ext)) rfl rfl ?_) | (show SH _ _ _ _ _ (⟨_, .call ⟨.value (.func 13), _, _⟩, _, _, _, _⟩ :: _) _ _ _; refine cl (callee := .func 13) rfl (fun w hw => hva w (hr.ext hw.ext)) rfl rfl ?_) | (show SH _ _ _ _ _ (⟨_, .call ⟨.value (.func 14), _, _⟩, _, _, _, _⟩ :: _) _ _ _; refine cl (callee := .func 14) rfl (fun w hw => hpk w) rfl rfl ?_) | (show SH _ _ _ _ _ (⟨_, .call ⟨.value (.func 15), _, _⟩, _, _, _, _⟩ :: _) _ _ _; refine cp (callee := .func 15) rfl (fun w hw => hh1 w (hr.ext hw.ext)) rfl rfl ?_) | refine bnoT rfl ?_ | (show SH _ _ _ _ _ (⟨_, .pick _ _ _, _, _, _, _⟩ :: _) _ _ _; refine pkf rfl tbL evL ?_) | refine fad rfl ?_ | refine ala rfl (fun b => ?_) | (show SH _ _ _ _ _ (⟨_, .box _ _, _, _, _, _⟩ :: _) _ _ _; refine bxx rfl evL rfl (fun b => ?_)) | (show SH _ _ _ _ _ (⟨_, .store _ _ _, _, _, _, _⟩ :: _) _ _ _; refine sta rfl rfl rfl spL (by rfl) (by rfl) (by rfl) kpL ?_)) | refine s_nil ?_ | refine kh_normal ?_))
        rintro _ _ ⟨B1, d1, rfl, rfl⟩
        (repeat' (first | (show VH _ _ _ _ _ _ _; first | refine v_seq ?_ | refine r_seq ?_) | (show SH _ _ _ _ _ (_ :: _) _ _ _; first | (show SH _ _ _ _ _ (⟨_, .move _, _, _, _, _⟩ :: _) _ _ _; refine mov evL ?_) | (show SH _ _ _ _ _ (⟨_, .assign _, _, _, _, _⟩ :: _) _ _ _; refine asg evL ?_) | (show SH _ _ _ _ _ (⟨_, .load _ _, _, _, _, _⟩ :: _) _ _ _; first | refine lbx rfl spL (by rfl) ?_ | refine lba rfl spL (by rfl) ?_) | (show SH _ _ _ _ _ (⟨_, .call ⟨.value (.func 15), _, _⟩, _, _, _, _⟩ :: _) _ _ _; refine cp (callee := .func 15) rfl (fun w hw => hh2 w (hr.ext hw.ext)) rfl rfl ?_) | refine extr rfl rfl ?_ | refine fad rfl ?_) | refine s_nil ?_ | refine kh_normal ?_))
        rintro _ _ ⟨B2, d2, rfl, rfl⟩
        (repeat' (first | (show VH _ _ _ _ _ _ _; first | refine v_seq ?_ | refine r_seq ?_ | refine v_block ?_ | refine v_skip ?_ | refine v_cond_f rfl tbL ?_) | (show SH _ _ _ _ _ (_ :: _) _ _ _; first | (show SH _ _ _ _ _ (⟨_, _, _, _, _, some _⟩ :: _) _ _ _; (refine gif rfl rfl ?_; refine giFF tbL ?_)) | (show SH _ _ _ _ _ (⟨_, .move _, _, _, _, _⟩ :: _) _ _ _; refine mov evL ?_) | (show SH _ _ _ _ _ (⟨_, .assign _, _, _, _, _⟩ :: _) _ _ _; refine asg evL ?_) | (show SH _ _ _ _ _ (⟨_, .binOp .neq _ _ _ _, _, _, _, _⟩ :: _) _ _ _; refine neqF rfl rfl omD ?_) | (show SH _ _ _ _ _ (⟨_, .pick _ _ _, _, _, _, _⟩ :: _) _ _ _; refine pkf rfl tbL evL ?_) | refine extr rfl rfl ?_) | refine s_nil ?_ | refine kh_normal ?_))
        rename_i b1
        revert b
        intro b2
        refine v_norm [(1,_),(2,_),(3,_),(6,_),(7,_),(8,_),(9,_),(11,_),(13,_),(14,_),(15,_)] heL (fun g => ?_)
        have hFAx := fun i h => (hFA i h).1
        have hst : FA 0 = [] ∧ GA 0 = [] := ⟨hFA0, hGA0⟩
        refine VH.ent (G := [orow 36 none 0 (FA 0), orow 36 none 0 (GA 0), orow 36 B1 d1 (FA gl.length), orow 36 B2 d2 (GA gl.length), bx b2 31 [.int .i64 xi, .slice xA xl.length xca], bxR b1 t s A L.length c B gl.length d]) ?_ (by rw [hFA0, hGA0]; exact ent_nilrow (ent_nilrow enL))
        refine v_loop [(13,17),(77,131)] (fun y : Nat × (Option Addr × Nat) × Option Addr × Nat => [(13, .slice y.2.1.1 (FA y.1).length y.2.1.2), (14, .slice y.2.2.1 (GA y.1).length y.2.2.2), (15, .int .i64 y.1)]) (fun y => [orow 36 y.2.1.1 y.2.1.2 (FA y.1), orow 36 y.2.2.1 y.2.2.2 (GA y.1), orow 36 B1 d1 (FA gl.length), orow 36 B2 d2 (GA gl.length), bx b2 31 [.int .i64 xi, .slice xA xl.length xca], bxR b1 t s A L.length c B gl.length d]) (fun y => y.1 ≤ gl.length) (fun y => gl.length - y.1) (0, (none, 0), none, 0) (by simp only [hFA0, hGA0]; (repeat (first | exact trivial | refine And.intro rfl ?_))) enL (Nat.zero_le _) ?_
        rintro ⟨i, ⟨B3, d3⟩, B4, d4⟩ g hi
        simp only [sets]
        simp only at hi
        by_cases hil : i < gl.length
        · clear hst hFAx hless hdeaf
          obtain ⟨hFl, hFn⟩ := hFA i hil
          obtain ⟨hGl, hGn⟩ := hGA i hil
          obtain ⟨m, hm⟩ : ∃ m, gl.getD i Flat.dflt = m := ⟨_, rfl⟩
          have hmm := msg_enc hm
          rw [hm] at hFn hGn
          clear hm hFA hGA hFA0 hGA0
          obtain ⟨mn, mt, mf, ms⟩ := m
          simp only at hmm hFn hGn
          obtain ⟨D, hD0, hDe, hDn⟩ := memD mf xl
          (repeat' (first | (show VH _ _ _ _ _ _ _; first | refine v_seq ?_ | refine r_seq ?_ | refine v_block ?_ | refine v_skip ?_ | refine v_cond_t rfl tbL ?_) | (show SH _ _ _ _ _ (_ :: _) _ _ _; first | (show SH _ _ _ _ _ (⟨_, .move _, _, _, _, _⟩ :: _) _ _ _; refine mov evL ?_) | (show SH _ _ _ _ _ (⟨_, .assign _, _, _, _, _⟩ :: _) _ _ _; refine asg evL ?_) | (show SH _ _ _ _ _ (⟨_, .binOp .lss _ _ _ _, _, _, _, _⟩ :: _) _ _ _; refine lssT rfl rfl omD ?_) | (show SH _ _ _ _ _ (⟨_, .load _ _, _, _, _, _⟩ :: _) _ _ _; refine lbx rfl spL (by rfl) ?_) | refine slen rfl ?_ | refine fad rfl ?_) | refine s_nil ?_ | refine kh_normal ?_))
          refine v_normS [(13,17),(77,131)] _ agL [(13,_),(14,_),(15,_),(16,_),(17,_)] heL (fun g => ?_)
          refine v_loop [(16,17),(84,105)] (fun j : Nat => [(16, .bool (D j)), (17, .int .i64 j)]) (fun _ => [orow 36 B3 d3 (FA i), orow 36 B4 d4 (GA i), orow 36 B1 d1 (FA gl.length), orow 36 B2 d2 (GA gl.length), bx b2 31 [.int .i64 xi, .slice xA xl.length xca], bxR b1 t s A L.length c B gl.length d]) (fun j => j ≤ xl.length) (fun j => xl.length - j) 0 (by rw [hD0]; (repeat (first | exact trivial | refine And.intro rfl ?_))) enL (Nat.zero_le _) ?_
          rintro j g hj
          simp only [sets]
          by_cases hjl : j < xl.length
          · have hDj := hDn j hjl
            cases hDc : D j
            · rw [hDc, Bool.false_or] at hDj
              by_cases he : xl.getD j Flat.dflt = mf
              · rw [decide_eq_true he] at hDj
                (repeat' (first | (show VH _ _ _ _ _ _ _; first | refine v_seq ?_ | refine r_seq ?_ | refine r_quiet hmix (by kernel_rfl) ?_ | refine v_block ?_ | refine v_skip ?_ | refine v_cond_t rfl tbL ?_) | (show SH _ _ _ _ _ (_ :: _) _ _ _; first | (show SH _ _ _ _ _ (⟨_, _, _, _, _, some _⟩ :: _) _ _ _; (refine gif rfl rfl ?_; refine giFF tbL ?_)) | (show SH _ _ _ _ _ (⟨_, .move _, _, _, _, _⟩ :: _) _ _ _; refine mov evL ?_) | (show SH _ _ _ _ _ (⟨_, .assign _, _, _, _, _⟩ :: _) _ _ _; refine asg evL ?_) | (show SH _ _ _ _ _ (⟨_, .binOp .lss _ _ _ _, _, _, _, _⟩ :: _) _ _ _; refine lssT rfl rfl omD ?_) | (show SH _ _ _ _ _ (⟨_, .binOp .eql _ _ _ _, _, _, _, _⟩ :: _) _ _ _; refine eqlT rfl rfl omD ?_) | (show SH _ _ _ _ _ (⟨_, .binOp .add _ _ _ _, _, _, _, _⟩ :: _) _ _ _; refine add rfl rfl inL ?_) | (show SH _ _ _ _ _ (⟨_, .load _ _, _, _, _, _⟩ :: _) _ _ _; first | refine lbx rfl spL (by rfl) ?_ | refine lgi rfl (fun _ _ => rdS) omL (by assumption) ?_ | refine lrg rfl (fun _ _ => rdS) (by rfl) omL (by assumption) (by rfl) ?_) | (show SH _ _ _ _ _ (⟨_, .indexAddr _ _ _, _, _, _, _⟩ :: _) _ _ _; refine ix rfl rfl (by with_reducible rfl) (fun _ _ => rdS) (by rfl) omL omL ?_) | refine slen rfl ?_ | (show SH _ _ _ _ _ (⟨_, .pick _ _ _, _, _, _, _⟩ :: _) _ _ _; refine pkf rfl tbL evL ?_) | refine fad rfl ?_) | refine s_nil ?_ | refine kh_normal ?_ | refine bh_normal ?_))
                exact ⟨agL, j + 1, by rw [hDj]; (repeat (first | exact trivial | refine And.intro rfl ?_)), enL, hjl, by omega⟩
              · rw [decide_eq_false he] at hDj
                (repeat' (first | (show VH _ _ _ _ _ _ _; first | refine v_seq ?_ | refine r_seq ?_ | refine r_quiet hmix (by kernel_rfl) ?_ | refine v_block ?_ | refine v_skip ?_ | refine v_cond_t rfl tbL ?_) | (show SH _ _ _ _ _ (_ :: _) _ _ _; first | (show SH _ _ _ _ _ (⟨_, _, _, _, _, some _⟩ :: _) _ _ _; (refine gif rfl rfl ?_; refine giFF tbL ?_)) | (show SH _ _ _ _ _ (⟨_, .move _, _, _, _, _⟩ :: _) _ _ _; refine mov evL ?_) | (show SH _ _ _ _ _ (⟨_, .assign _, _, _, _, _⟩ :: _) _ _ _; refine asg evL ?_) | (show SH _ _ _ _ _ (⟨_, .binOp .lss _ _ _ _, _, _, _, _⟩ :: _) _ _ _; refine lssT rfl rfl omD ?_) | (show SH _ _ _ _ _ (⟨_, .binOp .eql _ _ _ _, _, _, _, _⟩ :: _) _ _ _; refine eqlF rfl rfl omD ?_) | (show SH _ _ _ _ _ (⟨_, .binOp .add _ _ _ _, _, _, _, _⟩ :: _) _ _ _; refine add rfl rfl inL ?_) | (show SH _ _ _ _ _ (⟨_, .load _ _, _, _, _, _⟩ :: _) _ _ _; first | refine lbx rfl spL (by rfl) ?_ | refine lrg rfl (fun _ _ => rdS) (by rfl) omL (by assumption) (by rfl) ?_ | refine lin rfl (fun _ _ => rdS) omL ?_) | (show SH _ _ _ _ _ (⟨_, .indexAddr _ _ _, _, _, _, _⟩ :: _) _ _ _; refine ix rfl rfl (by with_reducible rfl) (fun _ _ => rdS) (by rfl) omL omL ?_) | refine slen rfl ?_ | (show SH _ _ _ _ _ (⟨_, .pick _ _ _, _, _, _, _⟩ :: _) _ _ _; refine pkf rfl tbL evL ?_) | refine fad rfl ?_) | refine s_nil ?_ | refine kh_normal ?_ | refine bh_normal ?_))
                exact ⟨agL, j + 1, by rw [hDj]; (repeat (first | exact trivial | refine And.intro rfl ?_)), enL, hjl, by omega⟩
            · rw [hDc, Bool.true_or] at hDj
              (repeat' (first | (show VH _ _ _ _ _ _ _; first | refine v_seq ?_ | refine r_seq ?_ | refine r_quiet hmix (by kernel_rfl) ?_ | refine v_block ?_ | refine v_skip ?_ | refine v_cond_t rfl tbL ?_) | (show SH _ _ _ _ _ (_ :: _) _ _ _; first | (show SH _ _ _ _ _ (⟨_, _, _, _, _, some _⟩ :: _) _ _ _; (refine gif rfl rfl ?_; refine giFT tbL ?_)) | (show SH _ _ _ _ _ (⟨_, .move _, _, _, _, _⟩ :: _) _ _ _; refine mov evL ?_) | (show SH _ _ _ _ _ (⟨_, .assign _, _, _, _, _⟩ :: _) _ _ _; refine asg evL ?_) | (show SH _ _ _ _ _ (⟨_, .binOp .lss _ _ _ _, _, _, _, _⟩ :: _) _ _ _; refine lssT rfl rfl omD ?_) | (show SH _ _ _ _ _ (⟨_, .binOp .add _ _ _ _, _, _, _, _⟩ :: _) _ _ _; refine add rfl rfl inL ?_) | (show SH _ _ _ _ _ (⟨_, .load _ _, _, _, _, _⟩ :: _) _ _ _; refine lbx rfl spL (by rfl) ?_) | refine slen rfl ?_ | (show SH _ _ _ _ _ (⟨_, .pick _ _ _, _, _, _, _⟩ :: _) _ _ _; refine pkt rfl tbL evL ?_) | refine fad rfl ?_) | refine s_nil ?_ | refine kh_normal ?_ | refine bh_normal ?_))
              exact ⟨agL, j + 1, by rw [hDj]; (repeat (first | exact trivial | refine And.intro rfl ?_)), enL, hjl, by omega⟩
          · obtain rfl : j = xl.length := by omega
            rw [hDe]
            clear hDn hDe hD0
            by_cases hmx : mf ∈ xl
            · rw [decide_eq_true hmx]
              rw [if_neg (fun h => h hmx), List.append_nil] at hFn
              rw [if_neg (fun h => h.2 hmx), List.append_nil] at hGn
              clear hmx
              (repeat' (first | (show VH _ _ _ _ _ _ _; first | refine v_seq ?_ | refine r_seq ?_ | refine v_skip ?_ | refine v_exit ?_ | refine v_cond_f rfl tbL ?_) | (show SH _ _ _ _ _ (_ :: _) _ _ _; first | (show SH _ _ _ _ _ (⟨_, .move _, _, _, _, _⟩ :: _) _ _ _; refine mov evL ?_) | (show SH _ _ _ _ _ (⟨_, .assign _, _, _, _, _⟩ :: _) _ _ _; refine asg evL ?_) | (show SH _ _ _ _ _ (⟨_, .binOp .lss _ _ _ _, _, _, _, _⟩ :: _) _ _ _; refine lssF rfl rfl omD ?_) | (show SH _ _ _ _ _ (⟨_, .binOp .add _ _ _ _, _, _, _, _⟩ :: _) _ _ _; refine add rfl rfl inL ?_) | (show SH _ _ _ _ _ (⟨_, .load _ _, _, _, _, _⟩ :: _) _ _ _; refine lbx rfl spL (by rfl) ?_) | refine slen rfl ?_ | refine bnoT rfl ?_ | refine fad rfl ?_) | refine s_nil ?_ | refine kh_normal ?_ | refine kh_exit ?_ | refine bh_normal ?_ | refine bh_exit ?_))
              exact ⟨agL, (i + 1, (B3, d3), B4, d4), by simp only [hFn, hGn]; (repeat (first | exact trivial | refine And.intro rfl ?_)), by simp only [hFn, hGn]; exact enL, hil, by show gl.length - (i + 1) < gl.length - i; omega⟩
            · rw [decide_eq_false hmx]
              rw [if_pos hmx] at hFn
              by_cases hmn : after < mn
              · rw [if_pos ⟨hmn, hmx⟩] at hGn
                clear hmx
                (repeat' (first | (show VH _ _ _ _ _ _ _; first | refine v_seq ?_ | refine r_seq ?_ | refine v_exit ?_ | refine v_cond_t rfl tbL ?_ | refine v_cond_f rfl tbL ?_) | (show SH _ _ _ _ _ (_ :: _) _ _ _; first | (show SH _ _ _ _ _ (⟨_, .move _, _, _, _, _⟩ :: _) _ _ _; refine mov evL ?_) | (show SH _ _ _ _ _ (⟨_, .binOp .lss _ _ _ _, _, _, _, _⟩ :: _) _ _ _; refine lssF rfl rfl omD ?_) | (show SH _ _ _ _ _ (⟨_, .load _ _, _, _, _, _⟩ :: _) _ _ _; first | refine lbx rfl spL (by rfl) ?_ | refine lag rfl (fun _ _ => rdS) (by rfl) omL (by assumption) ?_) | (show SH _ _ _ _ _ (⟨_, .indexAddr _ _ _, _, _, _, _⟩ :: _) _ _ _; refine ix rfl rfl (by with_reducible rfl) (fun _ _ => rdS) (by rfl) omL omL ?_) | refine slen rfl ?_ | refine bnoF rfl ?_ | refine fad rfl ?_) | refine s_nil ?_ | refine kh_normal ?_ | refine kh_exit ?_ | refine bh_exit ?_))
                refine bsl (l := [(⟨mn, mt, mf, ms⟩ : Msg)]) rfl rfl (Vals.cons rfl Vals.nil) rfl rfl (by decide) (fun b9 => ?_)
                (repeat' (first | (show VH _ _ _ _ _ _ _; first | refine v_seq ?_ | refine r_seq ?_ | refine r_quiet hmix (by kernel_rfl) ?_ | refine v_block ?_ | refine v_ret ?_ | refine v_skip ?_ | refine v_exit ?_ | refine v_label ?_ | refine v_cond_t rfl tbL ?_ | refine v_cond_f rfl tbL ?_ | refine v_cond_dec rfl (fun h => ?_) (fun h => ?_) | refine v_cond_ndec rfl (fun h => ?_) (fun h => ?_) | refine v_cond rfl (fun h => ?_) (fun h => ?_)) | (show SH _ _ _ _ _ (_ :: _) _ _ _; first | (show SH _ _ _ _ _ (⟨_, _, _, _, _, some _⟩ :: _) _ _ _; first | (refine gif rfl rfl ?_; first | refine giTT tbL ?_ | refine giTF tbL ?_ | refine giFF tbL ?_ | refine giFT tbL ?_ | refine giTd (fun h => ?_) (fun h => ?_) | refine giFd (fun h => ?_) (fun h => ?_) | refine giT (fun h => ?_) (fun h => ?_) | refine giF (fun h => ?_) (fun h => ?_)) | refine gu rfl rfl ?_ | refine grT rfl rfl tbL ?_ | refine grF rfl rfl tbL ?_) | (show SH _ _ _ _ _ (⟨_, .move _, _, _, _, _⟩ :: _) _ _ _; refine mov evL ?_) | (show SH _ _ _ _ _ (⟨_, .assign _, _, _, _, _⟩ :: _) _ _ _; refine asg evL ?_) | (show SH _ _ _ _ _ (⟨_, .binOp .lss _ _ _ _, _, _, _, _⟩ :: _) _ _ _; first | refine lssT rfl rfl omD ?_ | refine lssF rfl rfl omD ?_ | refine lss rfl rfl ?_) | (show SH _ _ _ _ _ (⟨_, .binOp .gtr _ _ _ _, _, _, _, _⟩ :: _) _ _ _; first | refine gtrT rfl rfl omD ?_ | refine gtrF rfl rfl omD ?_ | refine gtr rfl rfl ?_) | (show SH _ _ _ _ _ (⟨_, .binOp .eql _ _ _ _, _, _, _, _⟩ :: _) _ _ _; first | refine eqlT rfl rfl omD ?_ | refine eqlF rfl rfl omD ?_ | refine eql rfl rfl ?_ | refine eqn rfl rfl ?_ | refine eqb rfl rfl ?_ | refine seqT rfl rfl (by assumption) ?_ | refine seqF rfl rfl (by assumption) ?_) | (show SH _ _ _ _ _ (⟨_, .binOp .neq _ _ _ _, _, _, _, _⟩ :: _) _ _ _; first | refine neqT rfl rfl omD ?_ | refine neqF rfl rfl omD ?_ | refine neq rfl rfl ?_ | refine nen rfl rfl ?_ | refine neb rfl rfl ?_ | refine sneT rfl rfl (by assumption) ?_ | refine sneF rfl rfl (by assumption) ?_) | (show SH _ _ _ _ _ (⟨_, .binOp .add _ _ _ _, _, _, _, _⟩ :: _) _ _ _; first | refine add rfl rfl inL ?_ | refine sad rfl rfl omL ?_ | refine adU rfl rfl omL ?_ | refine adI rfl rfl omL ?_) | (show SH _ _ _ _ _ (⟨_, .load _ _, _, _, _, _⟩ :: _) _ _ _; first | refine lbx rfl spL (by rfl) ?_ | refine lba rfl spL (by rfl) ?_ | refine lbs rfl spL (by rfl) (by rfl) ?_ | refine lgi rfl (fun _ _ => rdS) omL (by assumption) ?_ | refine lag rfl (fun _ _ => rdS) (by rfl) omL (by assumption) ?_ | refine lrg rfl (fun _ _ => rdS) (by rfl) omL (by assumption) (by rfl) ?_ | refine lin rfl (fun _ _ => rdS) omL ?_ | refine lbi rfl spL omL ?_ | refine lr1 rfl (fun _ _ => rdS) (by rfl) omL (by rfl) ?_ | refine lra rfl (fun _ _ => rdS) (by rfl) omL ?_ | refine lrf rfl (fun _ _ => rdS) (by rfl) omL (by rfl) ?_ | refine lcell rfl (fun w hw => hw.ext.cell (by assumption)) ?_ | refine lrs rfl (fun _ _ => rdS) (by rfl) omL (by rfl) (by rfl) ?_ | refine lca rfl (fun _ _ => rdS) (by rfl) ?_ | refine lcs rfl (fun _ _ => rdS) (by rfl) ?_ | refine lcf rfl (fun _ _ => rdS) (by rfl) ?_ | refine lrf rfl (fun _ _ => rdS) (by rfl) (by simp only [List.length_cons, List.length_nil]; omega) (by rfl) ?_ | refine lra rfl (fun _ _ => rdS) (by rfl) (by simp only [List.length_cons, List.length_nil]; omega) ?_) | (show SH _ _ _ _ _ (⟨_, .indexAddr _ _ _, _, _, _, _⟩ :: _) _ _ _; first | refine ix rfl rfl (by with_reducible rfl) (fun _ _ => rdS) (by rfl) omL omL ?_ | refine ixi rfl rfl (fun _ _ => rdS) (by rfl) omL omL omL ?_ | refine ixb rfl rfl omL ?_ | refine ixq rfl rfl (by assumption) omL omL ?_ | refine ixA _ rfl rfl rfl omL ?_ | refine ixi rfl rfl (fun _ _ => rdS) (by rfl) omL (by first | omega | (simp only [List.length_cons, List.length_nil]; omega)) (by simp only [List.length_cons, List.length_nil]; omega) ?_) | (show SH _ _ _ _ _ (⟨_, .call ⟨.builtin _, _, _⟩, _, _, _, _⟩ :: _) _ _ _; first | refine slen rfl ?_ | refine sln rfl ?_) | (show SH _ _ _ _ _ (⟨_, .unOp .not _ _, _, _, _, _⟩ :: _) _ _ _; first | refine bnoT rfl ?_ | refine bnoF rfl ?_ | refine bnot rfl ?_) | (show SH _ _ _ _ _ (⟨_, .pick _ _ _, _, _, _, _⟩ :: _) _ _ _; first | refine pkt rfl tbL evL ?_ | refine pkf rfl tbL evL ?_) | refine extr rfl rfl ?_ | refine fad rfl ?_ | (show SH _ _ _ _ _ (⟨_, .alloc _, _, _, _, _⟩ :: _) _ _ _; first | refine al1 rfl (fun b => ?_) | refine ala rfl (fun b => ?_)) | (show SH _ _ _ _ _ (⟨_, .box _ _, _, _, _, _⟩ :: _) _ _ _; refine bxx rfl evL rfl (fun b => ?_)) | (show SH _ _ _ _ _ (⟨_, .store _ _ _, _, _, _, _⟩ :: _) _ _ _; first | refine stb rfl rfl evL spL rfl rfl (by first | decide | exact Nat.zero_lt_succ _ | exact of_decide_eq_true rfl) kpL ?_ | refine sta rfl rfl rfl spL (by rfl) (by rfl) (by rfl) kpL ?_ | refine sti rfl rfl rfl spL omL kpL ?_ | refine sbi rfl rfl rfl spL omL kpL ?_ | refine sbs rfl rfl evL spL (by rfl) (by rfl) (of_decide_eq_true rfl) kpL ?_) | (show SH _ _ _ _ _ (⟨_, .buildSlice _ _ _, _, _, _, _⟩ :: _) _ _ _; refine bsl (α := Int) rfl rfl (by repeat (first | exact Vals.nil | (apply Vals.cons; rfl))) rfl (by rfl) (by decide) (fun b => ?_))) | refine s_nil ?_ | refine s_fork ?_ ?_ | refine s_fork3 ?_ ?_ ?_ | refine s_fork4 ?_ ?_ ?_ ?_ | refine kh_normal ?_ | refine kh_ret ?_ | refine kh_exit ?_ | refine bh_normal ?_ | refine bh_ret ?_ | refine bh_exit ?_ | refine bh_exit_ne rfl ?_))
                refine app (l := FA i) (l2 := [(⟨mn, mt, mf, ms⟩ : Msg)]) rfl rfl rfl spL (fun w hw => hw.rd spL) rfl rfl rfl (by simp only [List.length_singleton]; omega) (by simp only [List.length_singleton]; omega) (fun A5 c5 => ⟨enL, ?_⟩)
                (repeat' (first | (show VH _ _ _ _ _ _ _; first | refine v_seq ?_ | refine r_seq ?_ | refine v_cond_t rfl tbL ?_) | (show SH _ _ _ _ _ (_ :: _) _ _ _; first | (show SH _ _ _ _ _ (⟨_, .move _, _, _, _, _⟩ :: _) _ _ _; refine mov evL ?_) | (show SH _ _ _ _ _ (⟨_, .assign _, _, _, _, _⟩ :: _) _ _ _; refine asg evL ?_) | (show SH _ _ _ _ _ (⟨_, .binOp .gtr _ _ _ _, _, _, _, _⟩ :: _) _ _ _; refine gtrT rfl rfl omD ?_) | (show SH _ _ _ _ _ (⟨_, .load _ _, _, _, _, _⟩ :: _) _ _ _; first | refine lbx rfl spL (by rfl) ?_ | refine lag rfl (fun _ _ => rdS) (by rfl) omL (by assumption) ?_ | refine lrg rfl (fun _ _ => rdS) (by rfl) omL (by assumption) (by rfl) ?_) | (show SH _ _ _ _ _ (⟨_, .indexAddr _ _ _, _, _, _, _⟩ :: _) _ _ _; refine ix rfl rfl (by with_reducible rfl) (fun _ _ => rdS) (by rfl) omL omL ?_) | refine fad rfl ?_) | refine s_nil ?_ | refine kh_normal ?_))
                refine bsl (l := [(⟨mn, mt, mf, ms⟩ : Msg)]) rfl rfl (Vals.cons rfl Vals.nil) rfl rfl (by decide) (fun b9 => ?_)
                (repeat' (first | (show VH _ _ _ _ _ _ _; first | refine v_seq ?_ | refine r_seq ?_ | refine r_quiet hmix (by kernel_rfl) ?_ | refine v_block ?_ | refine v_ret ?_ | refine v_skip ?_ | refine v_exit ?_ | refine v_label ?_ | refine v_cond_t rfl tbL ?_ | refine v_cond_f rfl tbL ?_ | refine v_cond_dec rfl (fun h => ?_) (fun h => ?_) | refine v_cond_ndec rfl (fun h => ?_) (fun h => ?_) | refine v_cond rfl (fun h => ?_) (fun h => ?_)) | (show SH _ _ _ _ _ (_ :: _) _ _ _; first | (show SH _ _ _ _ _ (⟨_, _, _, _, _, some _⟩ :: _) _ _ _; first | (refine gif rfl rfl ?_; first | refine giTT tbL ?_ | refine giTF tbL ?_ | refine giFF tbL ?_ | refine giFT tbL ?_ | refine giTd (fun h => ?_) (fun h => ?_) | refine giFd (fun h => ?_) (fun h => ?_) | refine giT (fun h => ?_) (fun h => ?_) | refine giF (fun h => ?_) (fun h => ?_)) | refine gu rfl rfl ?_ | refine grT rfl rfl tbL ?_ | refine grF rfl rfl tbL ?_) | (show SH _ _ _ _ _ (⟨_, .move _, _, _, _, _⟩ :: _) _ _ _; refine mov evL ?_) | (show SH _ _ _ _ _ (⟨_, .assign _, _, _, _, _⟩ :: _) _ _ _; refine asg evL ?_) | (show SH _ _ _ _ _ (⟨_, .binOp .lss _ _ _ _, _, _, _, _⟩ :: _) _ _ _; first | refine lssT rfl rfl omD ?_ | refine lssF rfl rfl omD ?_ | refine lss rfl rfl ?_) | (show SH _ _ _ _ _ (⟨_, .binOp .gtr _ _ _ _, _, _, _, _⟩ :: _) _ _ _; first | refine gtrT rfl rfl omD ?_ | refine gtrF rfl rfl omD ?_ | refine gtr rfl rfl ?_) | (show SH _ _ _ _ _ (⟨_, .binOp .eql _ _ _ _, _, _, _, _⟩ :: _) _ _ _; first | refine eqlT rfl rfl omD ?_ | refine eqlF rfl rfl omD ?_ | refine eql rfl rfl ?_ | refine eqn rfl rfl ?_ | refine eqb rfl rfl ?_ | refine seqT rfl rfl (by assumption) ?_ | refine seqF rfl rfl (by assumption) ?_) | (show SH _ _ _ _ _ (⟨_, .binOp .neq _ _ _ _, _, _, _, _⟩ :: _) _ _ _; first | refine neqT rfl rfl omD ?_ | refine neqF rfl rfl omD ?_ | refine neq rfl rfl ?_ | refine nen rfl rfl ?_ | refine neb rfl rfl ?_ | refine sneT rfl rfl (by assumption) ?_ | refine sneF rfl rfl (by assumption) ?_) | (show SH _ _ _ _ _ (⟨_, .binOp .add _ _ _ _, _, _, _, _⟩ :: _) _ _ _; first | refine add rfl rfl inL ?_ | refine sad rfl rfl omL ?_ | refine adU rfl rfl omL ?_ | refine adI rfl rfl omL ?_) | (show SH _ _ _ _ _ (⟨_, .load _ _, _, _, _, _⟩ :: _) _ _ _; first | refine lbx rfl spL (by rfl) ?_ | refine lba rfl spL (by rfl) ?_ | refine lbs rfl spL (by rfl) (by rfl) ?_ | refine lgi rfl (fun _ _ => rdS) omL (by assumption) ?_ | refine lag rfl (fun _ _ => rdS) (by rfl) omL (by assumption) ?_ | refine lrg rfl (fun _ _ => rdS) (by rfl) omL (by assumption) (by rfl) ?_ | refine lin rfl (fun _ _ => rdS) omL ?_ | refine lbi rfl spL omL ?_ | refine lr1 rfl (fun _ _ => rdS) (by rfl) omL (by rfl) ?_ | refine lra rfl (fun _ _ => rdS) (by rfl) omL ?_ | refine lrf rfl (fun _ _ => rdS) (by rfl) omL (by rfl) ?_ | refine lcell rfl (fun w hw => hw.ext.cell (by assumption)) ?_ | refine lrs rfl (fun _ _ => rdS) (by rfl) omL (by rfl) (by rfl) ?_ | refine lca rfl (fun _ _ => rdS) (by rfl) ?_ | refine lcs rfl (fun _ _ => rdS) (by rfl) ?_ | refine lcf rfl (fun _ _ => rdS) (by rfl) ?_ | refine lrf rfl (fun _ _ => rdS) (by rfl) (by simp only [List.length_cons, List.length_nil]; omega) (by rfl) ?_ | refine lra rfl (fun _ _ => rdS) (by rfl) (by simp only [List.length_cons, List.length_nil]; omega) ?_) | (show SH _ _ _ _ _ (⟨_, .indexAddr _ _ _, _, _, _, _⟩ :: _) _ _ _; first | refine ix rfl rfl (by with_reducible rfl) (fun _ _ => rdS) (by rfl) omL omL ?_ | refine ixi rfl rfl (fun _ _ => rdS) (by rfl) omL omL omL ?_ | refine ixb rfl rfl omL ?_ | refine ixq rfl rfl (by assumption) omL omL ?_ | refine ixA _ rfl rfl rfl omL ?_ | refine ixi rfl rfl (fun _ _ => rdS) (by rfl) omL (by first | omega | (simp only [List.length_cons, List.length_nil]; omega)) (by simp only [List.length_cons, List.length_nil]; omega) ?_) | (show SH _ _ _ _ _ (⟨_, .call ⟨.builtin _, _, _⟩, _, _, _, _⟩ :: _) _ _ _; first | refine slen rfl ?_ | refine sln rfl ?_) | (show SH _ _ _ _ _ (⟨_, .unOp .not _ _, _, _, _, _⟩ :: _) _ _ _; first | refine bnoT rfl ?_ | refine bnoF rfl ?_ | refine bnot rfl ?_) | (show SH _ _ _ _ _ (⟨_, .pick _ _ _, _, _, _, _⟩ :: _) _ _ _; first | refine pkt rfl tbL evL ?_ | refine pkf rfl tbL evL ?_) | refine extr rfl rfl ?_ | refine fad rfl ?_ | (show SH _ _ _ _ _ (⟨_, .alloc _, _, _, _, _⟩ :: _) _ _ _; first | refine al1 rfl (fun b => ?_) | refine ala rfl (fun b => ?_)) | (show SH _ _ _ _ _ (⟨_, .box _ _, _, _, _, _⟩ :: _) _ _ _; refine bxx rfl evL rfl (fun b => ?_)) | (show SH _ _ _ _ _ (⟨_, .store _ _ _, _, _, _, _⟩ :: _) _ _ _; first | refine stb rfl rfl evL spL rfl rfl (by first | decide | exact Nat.zero_lt_succ _ | exact of_decide_eq_true rfl) kpL ?_ | refine sta rfl rfl rfl spL (by rfl) (by rfl) (by rfl) kpL ?_ | refine sti rfl rfl rfl spL omL kpL ?_ | refine sbi rfl rfl rfl spL omL kpL ?_ | refine sbs rfl rfl evL spL (by rfl) (by rfl) (of_decide_eq_true rfl) kpL ?_) | (show SH _ _ _ _ _ (⟨_, .buildSlice _ _ _, _, _, _, _⟩ :: _) _ _ _; refine bsl (α := Int) rfl rfl (by repeat (first | exact Vals.nil | (apply Vals.cons; rfl))) rfl (by rfl) (by decide) (fun b => ?_))) | refine s_nil ?_ | refine s_fork ?_ ?_ | refine s_fork3 ?_ ?_ ?_ | refine s_fork4 ?_ ?_ ?_ ?_ | refine kh_normal ?_ | refine kh_ret ?_ | refine kh_exit ?_ | refine bh_normal ?_ | refine bh_ret ?_ | refine bh_exit ?_ | refine bh_exit_ne rfl ?_))
                refine app (l := GA i) (l2 := [(⟨mn, mt, mf, ms⟩ : Msg)]) rfl rfl rfl spL (fun w hw => hw.rd spL) rfl rfl rfl (by simp only [List.length_singleton]; omega) (by simp only [List.length_singleton]; omega) (fun A6 c6 => ⟨enL, ?_⟩)
                (repeat' (first | refine r_seq ?_ | (show SH _ _ _ _ _ (_ :: _) _ _ _; first | (show SH _ _ _ _ _ (⟨_, .move _, _, _, _, _⟩ :: _) _ _ _; refine mov evL ?_) | (show SH _ _ _ _ _ (⟨_, .assign _, _, _, _, _⟩ :: _) _ _ _; refine asg evL ?_) | (show SH _ _ _ _ _ (⟨_, .binOp .add _ _ _ _, _, _, _, _⟩ :: _) _ _ _; refine add rfl rfl inL ?_)) | refine s_nil ?_ | refine kh_normal ?_ | refine bh_normal ?_))
                exact ⟨agL, (i + 1, (A5, c5), A6, c6), by simp only [hFn, hGn]; (repeat (first | exact trivial | refine And.intro rfl ?_)), by simp only [hFn, hGn]; exact enL, hil, by show gl.length - (i + 1) < gl.length - i; omega⟩
              · rw [if_neg (fun h => hmn h.1), List.append_nil] at hGn
                clear hmx
                (repeat' (first | (show VH _ _ _ _ _ _ _; first | refine v_seq ?_ | refine r_seq ?_ | refine v_exit ?_ | refine v_cond_t rfl tbL ?_ | refine v_cond_f rfl tbL ?_) | (show SH _ _ _ _ _ (_ :: _) _ _ _; first | (show SH _ _ _ _ _ (⟨_, .move _, _, _, _, _⟩ :: _) _ _ _; refine mov evL ?_) | (show SH _ _ _ _ _ (⟨_, .binOp .lss _ _ _ _, _, _, _, _⟩ :: _) _ _ _; refine lssF rfl rfl omD ?_) | (show SH _ _ _ _ _ (⟨_, .load _ _, _, _, _, _⟩ :: _) _ _ _; first | refine lbx rfl spL (by rfl) ?_ | refine lag rfl (fun _ _ => rdS) (by rfl) omL (by assumption) ?_) | (show SH _ _ _ _ _ (⟨_, .indexAddr _ _ _, _, _, _, _⟩ :: _) _ _ _; refine ix rfl rfl (by with_reducible rfl) (fun _ _ => rdS) (by rfl) omL omL ?_) | refine slen rfl ?_ | refine bnoF rfl ?_ | refine fad rfl ?_) | refine s_nil ?_ | refine kh_normal ?_ | refine kh_exit ?_ | refine bh_exit ?_))
                refine bsl (l := [(⟨mn, mt, mf, ms⟩ : Msg)]) rfl rfl (Vals.cons rfl Vals.nil) rfl rfl (by decide) (fun b9 => ?_)
                (repeat' (first | (show VH _ _ _ _ _ _ _; first | refine v_seq ?_ | refine r_seq ?_ | refine r_quiet hmix (by kernel_rfl) ?_ | refine v_block ?_ | refine v_ret ?_ | refine v_skip ?_ | refine v_exit ?_ | refine v_label ?_ | refine v_cond_t rfl tbL ?_ | refine v_cond_f rfl tbL ?_ | refine v_cond_dec rfl (fun h => ?_) (fun h => ?_) | refine v_cond_ndec rfl (fun h => ?_) (fun h => ?_) | refine v_cond rfl (fun h => ?_) (fun h => ?_)) | (show SH _ _ _ _ _ (_ :: _) _ _ _; first | (show SH _ _ _ _ _ (⟨_, _, _, _, _, some _⟩ :: _) _ _ _; first | (refine gif rfl rfl ?_; first | refine giTT tbL ?_ | refine giTF tbL ?_ | refine giFF tbL ?_ | refine giFT tbL ?_ | refine giTd (fun h => ?_) (fun h => ?_) | refine giFd (fun h => ?_) (fun h => ?_) | refine giT (fun h => ?_) (fun h => ?_) | refine giF (fun h => ?_) (fun h => ?_)) | refine gu rfl rfl ?_ | refine grT rfl rfl tbL ?_ | refine grF rfl rfl tbL ?_) | (show SH _ _ _ _ _ (⟨_, .move _, _, _, _, _⟩ :: _) _ _ _; refine mov evL ?_) | (show SH _ _ _ _ _ (⟨_, .assign _, _, _, _, _⟩ :: _) _ _ _; refine asg evL ?_) | (show SH _ _ _ _ _ (⟨_, .binOp .lss _ _ _ _, _, _, _, _⟩ :: _) _ _ _; first | refine lssT rfl rfl omD ?_ | refine lssF rfl rfl omD ?_ | refine lss rfl rfl ?_) | (show SH _ _ _ _ _ (⟨_, .binOp .gtr _ _ _ _, _, _, _, _⟩ :: _) _ _ _; first | refine gtrT rfl rfl omD ?_ | refine gtrF rfl rfl omD ?_ | refine gtr rfl rfl ?_) | (show SH _ _ _ _ _ (⟨_, .binOp .eql _ _ _ _, _, _, _, _⟩ :: _) _ _ _; first | refine eqlT rfl rfl omD ?_ | refine eqlF rfl rfl omD ?_ | refine eql rfl rfl ?_ | refine eqn rfl rfl ?_ | refine eqb rfl rfl ?_ | refine seqT rfl rfl (by assumption) ?_ | refine seqF rfl rfl (by assumption) ?_) | (show SH _ _ _ _ _ (⟨_, .binOp .neq _ _ _ _, _, _, _, _⟩ :: _) _ _ _; first | refine neqT rfl rfl omD ?_ | refine neqF rfl rfl omD ?_ | refine neq rfl rfl ?_ | refine nen rfl rfl ?_ | refine neb rfl rfl ?_ | refine sneT rfl rfl (by assumption) ?_ | refine sneF rfl rfl (by assumption) ?_) | (show SH _ _ _ _ _ (⟨_, .binOp .add _ _ _ _, _, _, _, _⟩ :: _) _ _ _; first | refine add rfl rfl inL ?_ | refine sad rfl rfl omL ?_ | refine adU rfl rfl omL ?_ | refine adI rfl rfl omL ?_) | (show SH _ _ _ _ _ (⟨_, .load _ _, _, _, _, _⟩ :: _) _ _ _; first | refine lbx rfl spL (by rfl) ?_ | refine lba rfl spL (by rfl) ?_ | refine lbs rfl spL (by rfl) (by rfl) ?_ | refine lgi rfl (fun _ _ => rdS) omL (by assumption) ?_ | refine lag rfl (fun _ _ => rdS) (by rfl) omL (by assumption) ?_ | refine lrg rfl (fun _ _ => rdS) (by rfl) omL (by assumption) (by rfl) ?_ | refine lin rfl (fun _ _ => rdS) omL ?_ | refine lbi rfl spL omL ?_ | refine lr1 rfl (fun _ _ => rdS) (by rfl) omL (by rfl) ?_ | refine lra rfl (fun _ _ => rdS) (by rfl) omL ?_ | refine lrf rfl (fun _ _ => rdS) (by rfl) omL (by rfl) ?_ | refine lcell rfl (fun w hw => hw.ext.cell (by assumption)) ?_ | refine lrs rfl (fun _ _ => rdS) (by rfl) omL (by rfl) (by rfl) ?_ | refine lca rfl (fun _ _ => rdS) (by rfl) ?_ | refine lcs rfl (fun _ _ => rdS) (by rfl) ?_ | refine lcf rfl (fun _ _ => rdS) (by rfl) ?_ | refine lrf rfl (fun _ _ => rdS) (by rfl) (by simp only [List.length_cons, List.length_nil]; omega) (by rfl) ?_ | refine lra rfl (fun _ _ => rdS) (by rfl) (by simp only [List.length_cons, List.length_nil]; omega) ?_) | (show SH _ _ _ _ _ (⟨_, .indexAddr _ _ _, _, _, _, _⟩ :: _) _ _ _; first | refine ix rfl rfl (by with_reducible rfl) (fun _ _ => rdS) (by rfl) omL omL ?_ | refine ixi rfl rfl (fun _ _ => rdS) (by rfl) omL omL omL ?_ | refine ixb rfl rfl omL ?_ | refine ixq rfl rfl (by assumption) omL omL ?_ | refine ixA _ rfl rfl rfl omL ?_ | refine ixi rfl rfl (fun _ _ => rdS) (by rfl) omL (by first | omega | (simp only [List.length_cons, List.length_nil]; omega)) (by simp only [List.length_cons, List.length_nil]; omega) ?_) | (show SH _ _ _ _ _ (⟨_, .call ⟨.builtin _, _, _⟩, _, _, _, _⟩ :: _) _ _ _; first | refine slen rfl ?_ | refine sln rfl ?_) | (show SH _ _ _ _ _ (⟨_, .unOp .not _ _, _, _, _, _⟩ :: _) _ _ _; first | refine bnoT rfl ?_ | refine bnoF rfl ?_ | refine bnot rfl ?_) | (show SH _ _ _ _ _ (⟨_, .pick _ _ _, _, _, _, _⟩ :: _) _ _ _; first | refine pkt rfl tbL evL ?_ | refine pkf rfl tbL evL ?_) | refine extr rfl rfl ?_ | refine fad rfl ?_ | (show SH _ _ _ _ _ (⟨_, .alloc _, _, _, _, _⟩ :: _) _ _ _; first | refine al1 rfl (fun b => ?_) | refine ala rfl (fun b => ?_)) | (show SH _ _ _ _ _ (⟨_, .box _ _, _, _, _, _⟩ :: _) _ _ _; refine bxx rfl evL rfl (fun b => ?_)) | (show SH _ _ _ _ _ (⟨_, .store _ _ _, _, _, _, _⟩ :: _) _ _ _; first | refine stb rfl rfl evL spL rfl rfl (by first | decide | exact Nat.zero_lt_succ _ | exact of_decide_eq_true rfl) kpL ?_ | refine sta rfl rfl rfl spL (by rfl) (by rfl) (by rfl) kpL ?_ | refine sti rfl rfl rfl spL omL kpL ?_ | refine sbi rfl rfl rfl spL omL kpL ?_ | refine sbs rfl rfl evL spL (by rfl) (by rfl) (of_decide_eq_true rfl) kpL ?_) | (show SH _ _ _ _ _ (⟨_, .buildSlice _ _ _, _, _, _, _⟩ :: _) _ _ _; refine bsl (α := Int) rfl rfl (by repeat (first | exact Vals.nil | (apply Vals.cons; rfl))) rfl (by rfl) (by decide) (fun b => ?_))) | refine s_nil ?_ | refine s_fork ?_ ?_ | refine s_fork3 ?_ ?_ ?_ | refine s_fork4 ?_ ?_ ?_ ?_ | refine kh_normal ?_ | refine kh_ret ?_ | refine kh_exit ?_ | refine bh_normal ?_ | refine bh_ret ?_ | refine bh_exit ?_ | refine bh_exit_ne rfl ?_))
                refine app (l := FA i) (l2 := [(⟨mn, mt, mf, ms⟩ : Msg)]) rfl rfl rfl spL (fun w hw => hw.rd spL) rfl rfl rfl (by simp only [List.length_singleton]; omega) (by simp only [List.length_singleton]; omega) (fun A5 c5 => ⟨enL, ?_⟩)
                (repeat' (first | (show VH _ _ _ _ _ _ _; first | refine v_seq ?_ | refine r_seq ?_ | refine v_skip ?_ | refine v_cond_f rfl tbL ?_) | (show SH _ _ _ _ _ (_ :: _) _ _ _; first | (show SH _ _ _ _ _ (⟨_, .move _, _, _, _, _⟩ :: _) _ _ _; refine mov evL ?_) | (show SH _ _ _ _ _ (⟨_, .assign _, _, _, _, _⟩ :: _) _ _ _; refine asg evL ?_) | (show SH _ _ _ _ _ (⟨_, .binOp .gtr _ _ _ _, _, _, _, _⟩ :: _) _ _ _; refine gtrF rfl rfl omD ?_) | (show SH _ _ _ _ _ (⟨_, .binOp .add _ _ _ _, _, _, _, _⟩ :: _) _ _ _; refine add rfl rfl inL ?_) | (show SH _ _ _ _ _ (⟨_, .load _ _, _, _, _, _⟩ :: _) _ _ _; first | refine lbx rfl spL (by rfl) ?_ | refine lrg rfl (fun _ _ => rdS) (by rfl) omL (by assumption) (by rfl) ?_) | (show SH _ _ _ _ _ (⟨_, .indexAddr _ _ _, _, _, _, _⟩ :: _) _ _ _; refine ix rfl rfl (by with_reducible rfl) (fun _ _ => rdS) (by rfl) omL omL ?_) | refine fad rfl ?_) | refine s_nil ?_ | refine kh_normal ?_ | refine bh_normal ?_))
                exact ⟨agL, (i + 1, (A5, c5), B4, d4), by simp only [hFn, hGn]; (repeat (first | exact trivial | refine And.intro rfl ?_)), by simp only [hFn, hGn]; exact enL, hil, by show gl.length - (i + 1) < gl.length - i; omega⟩
        · obtain rfl : i = gl.length := by omega
          clear hFA hGA hFA0 hGA0 hst
          generalize FA gl.length = FF at *
          generalize GA gl.length = GG at *
          have hsF := fun (B5 B6 : Option Addr) (d5 d6 : Nat) w h1 h2 => sm_k (B1 := B5) (B2 := B6) (l := FF) (d1 := d5) (d2 := d6) (w := w) hFAl h1 h2
          have hsG := fun (B5 B6 : Option Addr) (d5 d6 : Nat) w h1 h2 => sm_k (B1 := B5) (B2 := B6) (l := GG) (d1 := d5) (d2 := d6) (w := w) hGAl h1 h2
          (repeat' (first | (show VH _ _ _ _ _ _ _; first | refine v_seq ?_ | refine r_seq ?_ | refine v_block ?_ | refine v_skip ?_ | refine v_exit ?_ | refine v_cond_f rfl tbL ?_) | (show SH _ _ _ _ _ (_ :: _) _ _ _; first | (show SH _ _ _ _ _ (⟨_, _, _, _, _, some _⟩ :: _) _ _ _; (refine gif rfl rfl ?_; refine giFF tbL ?_)) | (show SH _ _ _ _ _ (⟨_, .move _, _, _, _, _⟩ :: _) _ _ _; refine mov evL ?_) | (show SH _ _ _ _ _ (⟨_, .assign _, _, _, _, _⟩ :: _) _ _ _; refine asg evL ?_) | (show SH _ _ _ _ _ (⟨_, .binOp .lss _ _ _ _, _, _, _, _⟩ :: _) _ _ _; refine lssF rfl rfl omD ?_) | (show SH _ _ _ _ _ (⟨_, .load _ _, _, _, _, _⟩ :: _) _ _ _; refine lbx rfl spL (by rfl) ?_) | refine slen rfl ?_ | (show SH _ _ _ _ _ (⟨_, .call ⟨.value (.func 16), _, _⟩, _, _, _, _⟩ :: _) _ _ _; refine cl (callee := .func 16) rfl (fun w hw => hsF B1 B3 d1 d3 w (hw.rd spL) (hw.rd spL)) rfl rfl ?_) | (show SH _ _ _ _ _ (⟨_, .call ⟨.value (.func 16), _, _⟩, _, _, _, _⟩ :: _) _ _ _; refine cl (callee := .func 16) rfl (fun w hw => hsG B2 B4 d2 d4 w (hw.rd spL) (hw.rd spL)) rfl rfl ?_) | refine bnoT rfl ?_ | (show SH _ _ _ _ _ (⟨_, .pick _ _ _, _, _, _, _⟩ :: _) _ _ _; refine pkf rfl tbL evL ?_) | refine fad rfl ?_) | refine s_nil ?_ | refine kh_normal ?_ | refine kh_exit ?_ | refine bh_exit ?_))
          refine v_norm [(1,_),(2,_),(3,_),(6,_),(7,_),(8,_),(9,_),(18,_)] heL (fun g => ?_)
          refine v_loop [(6,6),(18,29),(142,248)] (fun i : Nat => [(18, .int .i64 i)]) (fun _ => [orow 36 B1 d1 FF, bx b2 31 [.int .i64 xi, .slice xA xl.length xca], bxR b1 t s A L.length c B gl.length d]) (fun i => i ≤ L.length) (fun i => L.length - i) 0 hsL enL (Nat.zero_le _) ?_
          rintro i g hi2
          simp only [sets]
          by_cases hiL : i < L.length
          · by_cases hik : k = i
            · subst hik
              clear hless hdeaf
              (repeat' (first | (show VH _ _ _ _ _ _ _; first | refine v_seq ?_ | refine r_seq ?_ | refine v_block ?_ | refine v_skip ?_ | refine v_exit ?_ | refine v_cond_t rfl tbL ?_) | (show SH _ _ _ _ _ (_ :: _) _ _ _; first | (show SH _ _ _ _ _ (⟨_, .move _, _, _, _, _⟩ :: _) _ _ _; refine mov evL ?_) | (show SH _ _ _ _ _ (⟨_, .assign _, _, _, _, _⟩ :: _) _ _ _; refine asg evL ?_) | (show SH _ _ _ _ _ (⟨_, .binOp .lss _ _ _ _, _, _, _, _⟩ :: _) _ _ _; refine lssT rfl rfl omD ?_) | (show SH _ _ _ _ _ (⟨_, .binOp .eql _ _ _ _, _, _, _, _⟩ :: _) _ _ _; refine eqlT rfl rfl omD ?_) | (show SH _ _ _ _ _ (⟨_, .binOp .add _ _ _ _, _, _, _, _⟩ :: _) _ _ _; refine add rfl rfl inL ?_) | (show SH _ _ _ _ _ (⟨_, .load _ _, _, _, _, _⟩ :: _) _ _ _; first | refine lbx rfl spL (by rfl) ?_ | refine lrg rfl (fun _ _ => rdS) (by rfl) omL (by assumption) (by rfl) ?_) | (show SH _ _ _ _ _ (⟨_, .indexAddr _ _ _, _, _, _, _⟩ :: _) _ _ _; refine ix rfl rfl (by with_reducible rfl) (fun _ _ => rdS) (by rfl) omL omL ?_) | refine slen rfl ?_ | refine fad rfl ?_) | refine s_nil ?_ | refine kh_normal ?_ | refine kh_exit ?_ | refine bh_exit ?_))
              exact ⟨agL, k + 1, hsL, enL, hiL, by omega⟩
            · obtain ⟨⟨t1, s1, ms1, gl1⟩, ⟨t2, s2, ms2, gl2⟩, e1, hv1, e2, e3, hlen, hat⟩ := hless i hiL hik
              obtain ⟨⟨t3, s3, ms3, gl3⟩, e, f1, f2⟩ := hdeaf i hiL hik
              clear hless hdeaf
              obtain ⟨y, hy⟩ : ∃ y, L.getD i Flat.dflt = y := ⟨_, rfl⟩
              have hmy := mbr_enc hy
              rw [mbrs_at hiL, hy] at e1 e3 hat f1
              obtain ⟨⟨yi, yl⟩, yA, yca⟩ := y
              simp only at hmy e1 e3 hat f1 hlen
              clear hy
              have hle := fun w hr => leave_k (A := A) (c := c) (B := B) (d := d) (w := w) hV e1 hr
              have hdf := fun w hr => ignore_k (A := A) (c := c) (B := B) (d := d) (w := w) hV f1 hr
              (repeat' (first | (show VH _ _ _ _ _ _ _; first | refine v_seq ?_ | refine r_seq ?_ | refine v_block ?_ | refine v_skip ?_ | refine v_cond_t rfl tbL ?_ | refine v_cond_f rfl tbL ?_) | (show SH _ _ _ _ _ (_ :: _) _ _ _; first | (show SH _ _ _ _ _ (⟨_, .move _, _, _, _, _⟩ :: _) _ _ _; refine mov evL ?_) | (show SH _ _ _ _ _ (⟨_, .assign _, _, _, _, _⟩ :: _) _ _ _; refine asg evL ?_) | (show SH _ _ _ _ _ (⟨_, .binOp .lss _ _ _ _, _, _, _, _⟩ :: _) _ _ _; refine lssT rfl rfl omD ?_) | (show SH _ _ _ _ _ (⟨_, .binOp .eql _ _ _ _, _, _, _, _⟩ :: _) _ _ _; refine eqlF rfl rfl omD ?_) | (show SH _ _ _ _ _ (⟨_, .load _ _, _, _, _, _⟩ :: _) _ _ _; first | refine lbx rfl spL (by rfl) ?_ | refine lba rfl spL (by rfl) ?_ | refine lrg rfl (fun _ _ => rdS) (by rfl) omL (by assumption) (by rfl) ?_) | (show SH _ _ _ _ _ (⟨_, .indexAddr _ _ _, _, _, _, _⟩ :: _) _ _ _; refine ix rfl rfl (by with_reducible rfl) (fun _ _ => rdS) (by rfl) omL omL ?_) | refine slen rfl ?_ | (show SH _ _ _ _ _ (⟨_, .call ⟨.value (.func 17), _, _⟩, _, _, _, _⟩ :: _) _ _ _; refine cp (callee := .func 17) rfl (fun w hw => hle w (hr.ext hw.ext)) rfl rfl ?_) | refine fad rfl ?_) | refine s_nil ?_ | refine kh_normal ?_))
              rintro _ _ ⟨A5, c5, L5, B5, d5, hp5, rfl, rfl⟩
              subst hp5
              have hv1 : VRom (rom t1 s1 L5 gl1) := hv1
              have hh3 := fun w hr => outHm_of e2 (hear37_spec t1 s1 A5 L5 c5 B5 gl1 d5 xi 0 w (vsz hv1) (vrom_said' hv1) hr)
              have hjo := fun w hr => outRN_of e3 (join37_spec t1 s1 A5 L5 c5 B5 gl1 d5 yi w (vsz hv1) (vrom_said' hv1) hr)
              simp only [rv37] at hh3 hjo
              (repeat' (first | (show VH _ _ _ _ _ _ _; first | refine v_seq ?_ | refine r_seq ?_) | (show SH _ _ _ _ _ (_ :: _) _ _ _; first | (show SH _ _ _ _ _ (⟨_, .move _, _, _, _, _⟩ :: _) _ _ _; refine mov evL ?_) | (show SH _ _ _ _ _ (⟨_, .assign _, _, _, _, _⟩ :: _) _ _ _; refine asg evL ?_) | (show SH _ _ _ _ _ (⟨_, .load _ _, _, _, _, _⟩ :: _) _ _ _; first | refine lbx rfl spL (by rfl) ?_ | refine lba rfl spL (by rfl) ?_) | (show SH _ _ _ _ _ (⟨_, .call ⟨.value (.func 15), _, _⟩, _, _, _, _⟩ :: _) _ _ _; refine cp (callee := .func 15) rfl (fun w hw => hh3 w (Wd.kr hw spL)) rfl rfl ?_) | refine extr rfl rfl ?_ | refine fad rfl ?_ | refine ala rfl (fun b => ?_) | (show SH _ _ _ _ _ (⟨_, .store _ _ _, _, _, _, _⟩ :: _) _ _ _; refine sta rfl rfl rfl spL (by rfl) (by rfl) (by rfl) kpL ?_)) | refine s_nil ?_ | refine kh_normal ?_))
              rintro _ _ ⟨B6, d6, rfl, rfl⟩
              (repeat' (first | (show VH _ _ _ _ _ _ _; first | refine v_seq ?_ | refine r_seq ?_) | (show SH _ _ _ _ _ (_ :: _) _ _ _; first | (show SH _ _ _ _ _ (⟨_, .move _, _, _, _, _⟩ :: _) _ _ _; refine mov evL ?_) | (show SH _ _ _ _ _ (⟨_, .assign _, _, _, _, _⟩ :: _) _ _ _; refine asg evL ?_) | (show SH _ _ _ _ _ (⟨_, .load _ _, _, _, _, _⟩ :: _) _ _ _; refine lba rfl spL (by rfl) ?_) | (show SH _ _ _ _ _ (⟨_, .call ⟨.value (.func 18), _, _⟩, _, _, _, _⟩ :: _) _ _ _; refine cp (callee := .func 18) rfl (fun w hw => hjo w (Wd.kr hw spL)) rfl rfl ?_) | refine extr rfl rfl ?_) | refine s_nil ?_ | refine kh_normal ?_))
              rintro _ _ ⟨A7, c7, L7, B7, d7, hp7, rfl, rfl⟩
              subst hp7
              rw [mbrs_len] at hlen
              have hi7 : i < L7.length := by omega
              obtain ⟨z, hz7⟩ : ∃ z, L7.getD i Flat.dflt = z := ⟨_, rfl⟩
              have hmz := mbr_enc hz7
              rw [mbrs_at hi7, hz7] at hat
              obtain ⟨⟨zi, zl⟩, zA, zca⟩ := z
              simp only [Mbr.mk.injEq] at hat
              obtain ⟨rfl, rfl⟩ := hat
              simp only [List.length_nil] at hmz
              clear hz7 hjo hh3 hle e1 e2 e3
              rcases f2 with ⟨rfl, hv3, e4⟩ | rfl
              · (repeat' (first | (show VH _ _ _ _ _ _ _; first | refine v_seq ?_ | refine r_seq ?_ | refine v_skip ?_ | refine v_cond_f rfl tbL ?_) | (show SH _ _ _ _ _ (_ :: _) _ _ _; first | (show SH _ _ _ _ _ (⟨_, _, _, _, _, some _⟩ :: _) _ _ _; (refine gif rfl rfl ?_; refine giFF tbL ?_)) | (show SH _ _ _ _ _ (⟨_, .move _, _, _, _, _⟩ :: _) _ _ _; refine mov evL ?_) | (show SH _ _ _ _ _ (⟨_, .assign _, _, _, _, _⟩ :: _) _ _ _; refine asg evL ?_) | (show SH _ _ _ _ _ (⟨_, .binOp .neq _ _ _ _, _, _, _, _⟩ :: _) _ _ _; refine neqF rfl rfl omD ?_) | (show SH _ _ _ _ _ (⟨_, .load _ _, _, _, _, _⟩ :: _) _ _ _; first | refine lbx rfl spL (by rfl) ?_ | refine lba rfl spL (by rfl) ?_ | refine lrg rfl (fun _ _ => rdS) (by rfl) omL (by assumption) (by rfl) ?_) | (show SH _ _ _ _ _ (⟨_, .indexAddr _ _ _, _, _, _, _⟩ :: _) _ _ _; refine ix rfl rfl (by with_reducible rfl) (fun _ _ => rdS) (by rfl) omL omL ?_) | refine slen rfl ?_ | (show SH _ _ _ _ _ (⟨_, .call ⟨.value (.func 16), _, _⟩, _, _, _, _⟩ :: _) _ _ _; refine cl (callee := .func 16) rfl (fun w hw => hsF B6 B1 d6 d1 w (hw.rd spL) (hw.rd spL)) rfl rfl ?_) | (show SH _ _ _ _ _ (⟨_, .call ⟨.value (.func 19), _, _⟩, _, _, _, _⟩ :: _) _ _ _; refine cp (callee := .func 19) rfl (fun w hw => hdf w (hr.ext hw.ext)) rfl rfl ?_) | refine bnoT rfl ?_ | (show SH _ _ _ _ _ (⟨_, .pick _ _ _, _, _, _, _⟩ :: _) _ _ _; refine pkf rfl tbL evL ?_) | refine extr rfl rfl ?_ | refine fad rfl ?_ | refine ala rfl (fun b => ?_) | (show SH _ _ _ _ _ (⟨_, .store _ _ _, _, _, _, _⟩ :: _) _ _ _; refine sta rfl rfl rfl spL (by rfl) (by rfl) (by rfl) kpL ?_)) | refine s_nil ?_ | refine kh_normal ?_))
                rintro _ _ ⟨A8, c8, L8, B8, d8, hp8, rfl, rfl⟩
                subst hp8
                have hv3 : VRom (rom t3 s3 L8 gl3) := hv3
                have hh4 := fun w hr => outHm_of e4 (hear37_spec t3 s3 A8 L8 c8 B8 gl3 d8 xi 0 w (vsz hv3) (vrom_said' hv3) hr)
                simp only [rv37] at hh4
                (repeat' (first | (show VH _ _ _ _ _ _ _; first | refine v_seq ?_ | refine r_seq ?_ | refine v_cond_t rfl tbL ?_) | (show SH _ _ _ _ _ (_ :: _) _ _ _; first | (show SH _ _ _ _ _ (⟨_, .move _, _, _, _, _⟩ :: _) _ _ _; refine mov evL ?_) | (show SH _ _ _ _ _ (⟨_, .assign _, _, _, _, _⟩ :: _) _ _ _; refine asg evL ?_) | (show SH _ _ _ _ _ (⟨_, .binOp .eql _ _ _ _, _, _, _, _⟩ :: _) _ _ _; refine eqlT rfl rfl omD ?_) | (show SH _ _ _ _ _ (⟨_, .load _ _, _, _, _, _⟩ :: _) _ _ _; first | refine lbx rfl spL (by rfl) ?_ | refine lba rfl spL (by rfl) ?_) | (show SH _ _ _ _ _ (⟨_, .call ⟨.value (.func 15), _, _⟩, _, _, _, _⟩ :: _) _ _ _; refine cp (callee := .func 15) rfl (fun w hw => hh4 w (Wd.kr hw spL)) rfl rfl ?_) | refine extr rfl rfl ?_ | refine fad rfl ?_ | refine ala rfl (fun b => ?_) | (show SH _ _ _ _ _ (⟨_, .store _ _ _, _, _, _, _⟩ :: _) _ _ _; refine sta rfl rfl rfl spL (by rfl) (by rfl) (by rfl) kpL ?_)) | refine s_nil ?_ | refine kh_normal ?_))
                rintro _ _ ⟨B9, d9, rfl, rfl⟩
                (repeat' (first | (show VH _ _ _ _ _ _ _; first | refine v_seq ?_ | refine r_seq ?_ | refine v_skip ?_ | refine v_cond_f rfl tbL ?_) | (show SH _ _ _ _ _ (_ :: _) _ _ _; first | (show SH _ _ _ _ _ (⟨_, _, _, _, _, some _⟩ :: _) _ _ _; (refine gif rfl rfl ?_; refine giFF tbL ?_)) | (show SH _ _ _ _ _ (⟨_, .move _, _, _, _, _⟩ :: _) _ _ _; refine mov evL ?_) | (show SH _ _ _ _ _ (⟨_, .assign _, _, _, _, _⟩ :: _) _ _ _; refine asg evL ?_) | (show SH _ _ _ _ _ (⟨_, .binOp .neq _ _ _ _, _, _, _, _⟩ :: _) _ _ _; refine neqF rfl rfl omD ?_) | (show SH _ _ _ _ _ (⟨_, .binOp .add _ _ _ _, _, _, _, _⟩ :: _) _ _ _; refine add rfl rfl inL ?_) | (show SH _ _ _ _ _ (⟨_, .call ⟨.value (.func 16), _, _⟩, _, _, _, _⟩ :: _) _ _ _; refine cl (callee := .func 16) rfl (fun w hw => hsF B9 B1 d9 d1 w (hw.rd spL) (hw.rd spL)) rfl rfl ?_) | refine bnoT rfl ?_ | (show SH _ _ _ _ _ (⟨_, .pick _ _ _, _, _, _, _⟩ :: _) _ _ _; refine pkf rfl tbL evL ?_) | refine extr rfl rfl ?_) | refine s_nil ?_ | refine kh_normal ?_ | refine bh_normal ?_))
                exact ⟨agL, i + 1, hsL, enL, hiL, by omega⟩
              · (repeat' (first | (show VH _ _ _ _ _ _ _; first | refine v_seq ?_ | refine r_seq ?_ | refine v_skip ?_ | refine v_cond_f rfl tbL ?_) | (show SH _ _ _ _ _ (_ :: _) _ _ _; first | (show SH _ _ _ _ _ (⟨_, _, _, _, _, some _⟩ :: _) _ _ _; (refine gif rfl rfl ?_; refine giFF tbL ?_)) | (show SH _ _ _ _ _ (⟨_, .move _, _, _, _, _⟩ :: _) _ _ _; refine mov evL ?_) | (show SH _ _ _ _ _ (⟨_, .assign _, _, _, _, _⟩ :: _) _ _ _; refine asg evL ?_) | (show SH _ _ _ _ _ (⟨_, .binOp .neq _ _ _ _, _, _, _, _⟩ :: _) _ _ _; refine neqF rfl rfl omD ?_) | (show SH _ _ _ _ _ (⟨_, .load _ _, _, _, _, _⟩ :: _) _ _ _; first | refine lbx rfl spL (by rfl) ?_ | refine lba rfl spL (by rfl) ?_ | refine lrg rfl (fun _ _ => rdS) (by rfl) omL (by assumption) (by rfl) ?_) | (show SH _ _ _ _ _ (⟨_, .indexAddr _ _ _, _, _, _, _⟩ :: _) _ _ _; refine ix rfl rfl (by with_reducible rfl) (fun _ _ => rdS) (by rfl) omL omL ?_) | refine slen rfl ?_ | (show SH _ _ _ _ _ (⟨_, .call ⟨.value (.func 16), _, _⟩, _, _, _, _⟩ :: _) _ _ _; refine cl (callee := .func 16) rfl (fun w hw => hsF B6 B1 d6 d1 w (hw.rd spL) (hw.rd spL)) rfl rfl ?_) | (show SH _ _ _ _ _ (⟨_, .call ⟨.value (.func 19), _, _⟩, _, _, _, _⟩ :: _) _ _ _; refine cp (callee := .func 19) rfl (fun w hw => hdf w (hr.ext hw.ext)) rfl rfl ?_) | refine bnoT rfl ?_ | (show SH _ _ _ _ _ (⟨_, .pick _ _ _, _, _, _, _⟩ :: _) _ _ _; refine pkf rfl tbL evL ?_) | refine extr rfl rfl ?_ | refine fad rfl ?_ | refine ala rfl (fun b => ?_) | (show SH _ _ _ _ _ (⟨_, .store _ _ _, _, _, _, _⟩ :: _) _ _ _; refine sta rfl rfl rfl spL (by rfl) (by rfl) (by rfl) kpL ?_)) | refine s_nil ?_ | refine kh_normal ?_))
                rintro _ _ ⟨A8, c8, L8, B8, d8, hp8, rfl, rfl⟩
                (repeat' (first | (show VH _ _ _ _ _ _ _; first | refine v_seq ?_ | refine r_seq ?_ | refine v_skip ?_ | refine v_cond_f rfl tbL ?_) | (show SH _ _ _ _ _ (_ :: _) _ _ _; first | (show SH _ _ _ _ _ (⟨_, .move _, _, _, _, _⟩ :: _) _ _ _; refine mov evL ?_) | (show SH _ _ _ _ _ (⟨_, .assign _, _, _, _, _⟩ :: _) _ _ _; refine asg evL ?_) | (show SH _ _ _ _ _ (⟨_, .binOp .eql _ _ _ _, _, _, _, _⟩ :: _) _ _ _; refine eqlF rfl rfl omD ?_) | (show SH _ _ _ _ _ (⟨_, .binOp .neq _ _ _ _, _, _, _, _⟩ :: _) _ _ _; refine neqF rfl rfl omD ?_) | (show SH _ _ _ _ _ (⟨_, .binOp .add _ _ _ _, _, _, _, _⟩ :: _) _ _ _; refine add rfl rfl inL ?_) | refine extr rfl rfl ?_ | refine ala rfl (fun b => ?_) | (show SH _ _ _ _ _ (⟨_, .store _ _ _, _, _, _, _⟩ :: _) _ _ _; refine sta rfl rfl rfl spL (by rfl) (by rfl) (by rfl) kpL ?_)) | refine s_nil ?_ | refine kh_normal ?_ | refine bh_normal ?_))
                exact ⟨agL, i + 1, hsL, enL, hiL, by omega⟩
          · obtain rfl : i = L.length := by omega
            clear hless hdeaf
            (repeat' (first | (show VH _ _ _ _ _ _ _; first | refine v_seq ?_ | refine r_seq ?_ | refine v_ret ?_ | refine v_exit ?_ | refine v_cond_f rfl tbL ?_) | (show SH _ _ _ _ _ (_ :: _) _ _ _; first | (show SH _ _ _ _ _ (⟨_, .move _, _, _, _, _⟩ :: _) _ _ _; refine mov evL ?_) | (show SH _ _ _ _ _ (⟨_, .assign _, _, _, _, _⟩ :: _) _ _ _; refine asg evL ?_) | (show SH _ _ _ _ _ (⟨_, .binOp .lss _ _ _ _, _, _, _, _⟩ :: _) _ _ _; refine lssF rfl rfl omD ?_) | (show SH _ _ _ _ _ (⟨_, .load _ _, _, _, _, _⟩ :: _) _ _ _; refine lbx rfl spL (by rfl) ?_) | refine slen rfl ?_ | refine fad rfl ?_) | refine s_nil ?_ | refine kh_normal ?_ | refine kh_exit ?_ | refine bh_exit ?_))
            exact rh1 rfl rfl ⟨rfl, rfl⟩ (ent_nil _)
    · have hva := fun w hr => valid37_spec t s A L c B gl d w hz hs hr
      rw [show validRm (rom t s L gl) = false from Bool.eq_false_iff.2 fun h => hV (vrom_iff.1 h)] at hva
      unfold rv37 at hsm hva ⊢
      refine enterH Try.func3 rfl rfl Try.ntmps3 rfl (Wd.refl _) ?_
      (repeat' (first | (show VH _ _ _ _ _ _ _; first | refine v_seq ?_ | refine r_seq ?_ | refine v_ret ?_ | refine v_skip ?_ | refine v_cond_t rfl tbL ?_ | refine v_cond_f rfl tbL ?_) | (show SH _ _ _ _ _ (_ :: _) _ _ _; first | (show SH _ _ _ _ _ (⟨_, _, _, _, _, some _⟩ :: _) _ _ _; (refine gif rfl rfl ?_; first | refine giFF tbL ?_ | refine giFT tbL ?_)) | (show SH _ _ _ _ _ (⟨_, .move _, _, _, _, _⟩ :: _) _ _ _; refine mov evL ?_) | (show SH _ _ _ _ _ (⟨_, .assign _, _, _, _, _⟩ :: _) _ _ _; refine asg evL ?_) | (show SH _ _ _ _ _ (⟨_, .load _ _, _, _, _, _⟩ :: _) _ _ _; refine lba rfl spL (by rfl) ?_) | (show SH _ _ _ _ _ (⟨_, .call ⟨.value (.func 11), _, _⟩, _, _, _, _⟩ :: _) _ _ _; refine cl (callee := .func 11) rfl (fun w hw => haw w) rfl rfl ?_) | (show SH _ _ _ _ _ (⟨_, .call ⟨.value (.func 12), _, _⟩, _, _, _, _⟩ :: _) _ _ _; refine cl (callee := .func 12) rfl (fun w hw => hsm w (hr.ext hw.ext)) rfl rfl ?_) | (show SH _ _ _ _ _ (⟨_, .call ⟨.value (.func 13), _, _⟩, _, _, _, _⟩ :: _) _ _ _; refine cl (callee := .func 13) rfl (fun w hw => hva w (hr.ext hw.ext)) rfl rfl ?_) | (show SH _ _ _ _ _ (⟨_, .unOp .not _ _, _, _, _, _⟩ :: _) _ _ _; first | refine bnoT rfl ?_ | refine bnoF rfl ?_) | (show SH _ _ _ _ _ (⟨_, .pick _ _ _, _, _, _, _⟩ :: _) _ _ _; first | refine pkt rfl tbL evL ?_ | refine pkf rfl tbL evL ?_) | (show SH _ _ _ _ _ (⟨_, .box _ _, _, _, _, _⟩ :: _) _ _ _; refine bxx rfl evL rfl (fun b => ?_))) | refine s_nil ?_ | refine kh_normal ?_ | refine kh_ret ?_))
      exact rh1 rfl rfl ⟨rfl, rfl⟩ (ent_nil _)
  · rw [decide_eq_false hS] at hsm
    unfold rv37 at hsm ⊢
    refine enterH Try.func3 rfl rfl Try.ntmps3 rfl (Wd.refl _) ?_
    (repeat' (first | (show VH _ _ _ _ _ _ _; first | refine v_seq ?_ | refine r_seq ?_ | refine v_ret ?_ | refine v_skip ?_ | refine v_cond_t rfl tbL ?_ | refine v_cond_f rfl tbL ?_) | (show SH _ _ _ _ _ (_ :: _) _ _ _; first | (show SH _ _ _ _ _ (⟨_, _, _, _, _, some _⟩ :: _) _ _ _; (refine gif rfl rfl ?_; refine giFT tbL ?_)) | (show SH _ _ _ _ _ (⟨_, .move _, _, _, _, _⟩ :: _) _ _ _; refine mov evL ?_) | (show SH _ _ _ _ _ (⟨_, .assign _, _, _, _, _⟩ :: _) _ _ _; refine asg evL ?_) | (show SH _ _ _ _ _ (⟨_, .load _ _, _, _, _, _⟩ :: _) _ _ _; refine lba rfl spL (by rfl) ?_) | (show SH _ _ _ _ _ (⟨_, .call ⟨.value (.func 11), _, _⟩, _, _, _, _⟩ :: _) _ _ _; refine cl (callee := .func 11) rfl (fun w hw => haw w) rfl rfl ?_) | (show SH _ _ _ _ _ (⟨_, .call ⟨.value (.func 12), _, _⟩, _, _, _, _⟩ :: _) _ _ _; refine cl (callee := .func 12) rfl (fun w hw => hsm w (hr.ext hw.ext)) rfl rfl ?_) | (show SH _ _ _ _ _ (⟨_, .unOp .not _ _, _, _, _, _⟩ :: _) _ _ _; first | refine bnoT rfl ?_ | refine bnoF rfl ?_) | (show SH _ _ _ _ _ (⟨_, .pick _ _ _, _, _, _, _⟩ :: _) _ _ _; refine pkt rfl tbL evL ?_) | (show SH _ _ _ _ _ (⟨_, .box _ _, _, _, _, _⟩ :: _) _ _ _; refine bxx rfl evL rfl (fun b => ?_))) | refine s_nil ?_ | refine kh_normal ?_ | refine kh_ret ?_))
    exact rh1 rfl rfl ⟨rfl, rfl⟩ (ent_nil _)
end Go.Proofs.Ytplhnnlklnbahaa

/- Arguments are opened: structures of numbers, slices of these. -/
namespace Go.Fw
open Go.RowKit
def WfK : List IntKind → List Int → Prop
  | k :: ks, n :: ns => (Lit.int k n).wf = true ∧ WfK ks ns
  | [], [] => True
  | _, _ => False
theorem WfK.len : ∀ {ks : List IntKind} {ns : List Int}, WfK ks ns → ns.length = ks.length
  | [], [], _ => rfl
  | [], _ :: _, h => h.elim
  | _ :: _, [], h => h.elim
  | _ :: ks, _ :: ns, h => by rw [List.length_cons, List.length_cons, WfK.len h.2]
section
variable {H : Type} {enc : TypeId × Value → H} {P : Program} {w : World} {base : Nat} {spare : Nat → Bool} {held : Bool} {fuel : Nat} {t e : TypeId} {cs : List Value} {x : DataW H × List MemPlace} {ks : List IntKind}
/-- Rows of cells, side by side. -/
theorem rd_rows {α : Type} [F : Flat α] {a : Addr} : ∀ (l : List α), (∀ i, i < l.length → ∀ r, r < F.sz → w.cell? (a.add (i * F.sz + r)) = (F.enc (l.getD i F.dflt))[r]?) → Rd w (some a) l := fun l h j u hj => by
  have hp := F.pos
  have hjl : j < l.length * F.sz := by
    have := (List.getElem?_eq_some_iff.1 hj).1
    rwa [encs_len] at this
  have hi : j / F.sz < l.length := (Nat.div_lt_iff_lt_mul hp).2 hjl
  have hr : j % F.sz < F.sz := Nat.mod_lt _ hp
  have hc := h _ hi _ hr
  have hdm : j / F.sz * F.sz + j % F.sz = j := by rw [Nat.mul_comm]; exact Nat.div_add_mod j F.sz
  rw [hdm] at hc
  refine ⟨rfl, ?_⟩
  show w.cell? (a.add j) = some u
  rw [hc]
  have hlen : j % F.sz < (F.enc (l.getD (j / F.sz) F.dflt)).length := by rw [F.len]; exact hr
  have := encs_get hi (List.getElem?_eq_getElem hlen)
  rw [hdm, hj] at this
  rw [List.getElem?_eq_getElem hlen, this]
end
end Go.Fw

/- From what a law's function answers to the given statement: the arguments are read, and read as before behind the call. -/
namespace Go.Proofs.Ytplhnnlklnbahaa
open Go.Fw Go.RowKit Go.ChangeShapes Go.WideShapes Go.ChangeAt
theorem ownK : ownKnob Try.prog.godebug = none := by kernel_rfl
theorem laidK : laidOutB Try.prog = true := by kernel_rfl
section
variable {H : Type} {enc : TypeId × Value → H} {P : Program}
/-- All arguments read behind the call as they did before. -/
theorem trodAll_carry (hl : laidOutB P = true) {W W' : World} (hb : Below W.heap.size W W') : ∀ (ts : List TypeId) (vs : List Value) (ds : List (DataW H)) (ps : List MemPlace), (∀ t ∈ ts, P.readableRec t = true ∧ t < P.types.size) →
    DataW.TrodAll enc P W 0 (fun _ => true) true ts vs ds ps → (∀ x ∈ ps, x.block < W.heap.size) → DataW.TrodAll enc P W' 0 (fun b => decide (b < W.heap.size)) true ts vs ds ps
  | [], [], [], _, _, h, _ => h
  | t :: ts, v :: vs, d :: ds, ps, hr, ⟨p, q, h1, h2, h3⟩, hlt => by
    subst h3
    exact ⟨p, q, Below.trod hl (hr t (by simp)).1 (hr t (by simp)).2 h1 hb (fun x hx => hlt x (by simp [hx])),
      trodAll_carry hl hb ts vs ds q (fun t ht => hr t (by simp [ht])) h2 (fun x hx => hlt x (by simp [hx])), rfl⟩
  | [], _ :: _, _, _, _, h, _ => h.elim
  | [], [], _ :: _, _, _, h, _ => h.elim
  | _ :: _, [], _, _, _, h, _ => h.elim
  | _ :: _, _ :: _, [], _, _, h, _ => h.elim
/-- A law answers true and leaves all as it was: that is what its row asks. -/
theorem law_post {f : Func} {s : ChangeSpec} {tb : TypeId} {W W' : World} {args : Array Value} {ds gs : List (DataW H)} {before : List MemPlace} (hl : laidOutB P = true) (hrb : f.params.toList.all (fun t => P.readableRec t && decide (t < P.types.size)) = true)
    (hres : f.resultTypes = #[tb]) (htb : P.underlying tb = some .bool) (hs : s.vars = []) (hfn : (s.fn H ds).results = [.lit (.bool true)] ∧ (s.fn H ds).args = ds ∧ (s.fn H ds).vars = [])
    (hW : DataW.Whole enc P f.params.toList s.vars false W args.toList ds gs before) (hb : Below W.heap.size W W') : s.post enc P f false true false false W args (.bool true) W' := by
  have hr : ∀ t ∈ f.params.toList, P.readableRec t = true ∧ t < P.types.size := fun t ht => by simpa using List.all_eq_true.1 hrb t ht
  have hlt : ∀ x ∈ before, x.block < W.heap.size := fun x hx => hW.lt x hx
  have hW0 := hW
  obtain ⟨p, q, hA, hV, rfl, _, _⟩ := hW
  rw [hs] at hV
  obtain ⟨rfl, rfl⟩ := trodVars_none hV
  simp only [List.append_nil] at hW0 hlt
  obtain ⟨h1, h2, h3⟩ := hfn
  refine ⟨ds, [], p, [], p, [], hW0, ?_, ?_, ?_, World.keptBut_mono (fun x hx => ⟨hx, .inr (.inl hx)⟩) (hb.frame (· ∈ p)), fun h => by cases h⟩
  · rw [List.append_nil, h1, hres]
    exact ⟨[], [], shut_bool htb true, rfl, rfl⟩
  · rw [List.append_nil, h2]
    exact trodAll_carry hl hb _ _ _ _ hr hA hlt
  · rw [List.append_nil, h3, hs]
    exact rfl
end
theorem i64_of {n : Int} (h : (Lit.int .i64 n).wf = true) : -9223372036854775808 ≤ n ∧ n ≤ 9223372036854775807 := by
  simpa [Lit.wf, IntKind.min, IntKind.max, IntKind.signed, IntKind.bits] using h
end Go.Proofs.Ytplhnnlklnbahaa

/- Layer 37 (chat): words, texts, rooms and things that are done, as arguments. -/
namespace Go.Proofs.Ytplhnnlklnbahaa
open Go.Fw Go.RowKit Go.ChangeShapes Go.WideShapes Go.ChangeAt
section
variable {H : Type} {enc : TypeId × Value → H} {P : Program} {w : World} {base : Nat} {spare : Nat → Bool} {held : Bool} {fuel : Nat} {t e : TypeId} {cs : List Value} {x : DataW H × List MemPlace}
/-- A structure of 2 fields of one cell each. -/
theorem two_openF {f0 f1 : Field} (ht : P.underlying t = some (.struct #[f0, f1])) (hc : P.cellsOf t = 2) (h0 : f0.offset = 0) (h1 : f1.offset = 1) (c0 : P.cellsOf f0.type = 1) (c1 : P.cellsOf f1.type = 1) (h : DataW.trod enc P w base spare held fuel t cs = some x) :
    ∃ m u0 u1 y0 y1, cs = [u0, u1] ∧ DataW.trod enc P w base spare held m f0.type [u0] = some y0 ∧ DataW.trod enc P w base spare held m f1.type [u1] = some y1 := by
  obtain ⟨xs, m, _, _, hl, hxl, hf⟩ := DataW.trod_struct ht h
  rw [hc] at hl
  match xs, hxl with
  | [y0, y1], _ =>
    have e0 := hf 0 f0 rfl
    have e1 := hf 1 f1 rfl
    rw [h0, c0] at e0
    rw [h1, c1] at e1
    match cs, hl with
    | [u0, u1], _ => exact ⟨m, u0, u1, y0, y1, rfl, e0, e1⟩
/-- A structure of 4 fields of one cell each. -/
theorem four_open {f0 f1 f2 f3 : Field} (ht : P.underlying t = some (.struct #[f0, f1, f2, f3])) (hc : P.cellsOf t = 4) (h0 : f0.offset = 0) (h1 : f1.offset = 1) (h2 : f2.offset = 2) (h3 : f3.offset = 3) (c0 : P.cellsOf f0.type = 1) (c1 : P.cellsOf f1.type = 1) (c2 : P.cellsOf f2.type = 1) (c3 : P.cellsOf f3.type = 1) (h : DataW.trod enc P w base spare held fuel t cs = some x) :
    ∃ m u0 u1 u2 u3 y0 y1 y2 y3, cs = [u0, u1, u2, u3] ∧ DataW.trod enc P w base spare held m f0.type [u0] = some y0 ∧ DataW.trod enc P w base spare held m f1.type [u1] = some y1 ∧ DataW.trod enc P w base spare held m f2.type [u2] = some y2 ∧ DataW.trod enc P w base spare held m f3.type [u3] = some y3 := by
  obtain ⟨xs, m, _, _, hl, hxl, hf⟩ := DataW.trod_struct ht h
  rw [hc] at hl
  match xs, hxl with
  | [y0, y1, y2, y3], _ =>
    have e0 := hf 0 f0 rfl
    have e1 := hf 1 f1 rfl
    have e2 := hf 2 f2 rfl
    have e3 := hf 3 f3 rfl
    rw [h0, c0] at e0
    rw [h1, c1] at e1
    rw [h2, c2] at e2
    rw [h3, c3] at e3
    match cs, hl with
    | [u0, u1, u2, u3], _ => exact ⟨m, u0, u1, u2, u3, y0, y1, y2, y3, rfl, e0, e1, e2, e3⟩
/-- A slice of elements of which each is opened. -/
theorem list_open {α : Type} [F : Flat α] (Ok : α → Prop) (he : ∀ n cs y, DataW.trod enc P w base spare held n e cs = some y → ∃ z : α, cs = F.enc z ∧ Ok z) (ht : P.underlying t = some (.slice e)) (hC : P.cellsOf e = F.sz) (h : DataW.trod enc P w base spare held fuel t cs = some x) :
    ∃ A cp, ∃ l : List α, cs = [.slice A l.length cp] ∧ Rd w A l ∧ (∀ y ∈ l, Ok y) ∧ l.length ≤ maxLen ∧ l.length ≤ cp := by
  rcases Go.Deep.open_slice ht h with ⟨rfl, _⟩ | ⟨a, len, cap, m, n, D, Pl, rfl, hb, hl, hm, hmm, rfl, hx⟩
  · exact ⟨none, 0, [], rfl, Rd.nil _ _, fun _ h => by simp at h, by simp, by simp⟩
  · have hlm : len ≤ m := by rw [hmm]; split <;> omega
    have key : ∀ i, i < len → ∃ z : α, Ok z ∧ ∀ r, r < F.sz → w.cell? (a.add (i * F.sz + r)) = (F.enc z)[r]? := fun i hi => by
      obtain ⟨cs', h1, h2⟩ := hx i (by omega)
      obtain ⟨z, rfl, hz⟩ := he _ _ _ h2
      obtain ⟨_, hlen, hc⟩ := World.cells?_some h1
      refine ⟨z, hz, fun r hr => ?_⟩
      have := hc r (by omega)
      rw [hC, Addr.add_add] at this
      exact this
    have hex : ∀ i, ∃ z : α, i < len → Ok z ∧ ∀ r, r < F.sz → w.cell? (a.add (i * F.sz + r)) = (F.enc z)[r]? := fun i => by
      by_cases hi : i < len
      · obtain ⟨z, h1⟩ := key i hi; exact ⟨z, fun _ => h1⟩
      · exact ⟨F.dflt, fun h => absurd h hi⟩
    let V := fun i => Classical.choose (hex i)
    have hV : ∀ i, i < len → Ok (V i) ∧ ∀ r, r < F.sz → w.cell? (a.add (i * F.sz + r)) = (F.enc (V i))[r]? := fun i => Classical.choose_spec (hex i)
    have hll : ((List.range len).map V).length = len := by simp
    refine ⟨some a, cap, (List.range len).map V, by rw [hll], rd_rows _ fun i hi r hr => ?_, fun y hy => ?_, by rw [hll]; omega, by rw [hll]; omega⟩
    · rw [hll] at hi
      obtain ⟨h1, h2⟩ := hV i hi
      rw [h2 r hr]
      have : ((List.range len).map V).getD i F.dflt = V i := by simp [List.getD_eq_getElem?_getD, hi]
      rw [this]
    · obtain ⟨i, hi, rfl⟩ := List.mem_map.1 hy
      exact (hV i (by simpa using hi)).1
end
section
variable {H : Type} {enc : TypeId × Value → H} {W : World} {base : Nat} {spare : Nat → Bool} {held : Bool}
set_option maxRecDepth 100000 in
theorem str_open {n : Nat} {cs : List Value} {y : DataW H × List MemPlace} (h : DataW.trod enc Try.prog W base spare held n 9 cs = some y) : ∃ s : List UInt8, cs = [.string (bs s)] ∧ s.length ≤ maxLen := by
  obtain ⟨s, hc, _, hw⟩ := DataW.trod_string Try.underlying9 h
  exact ⟨s.data.toList, by rw [hc, bs_of], by rw [← bs_size, bs_of]; exact hw⟩
set_option maxRecDepth 100000 in
theorem int_open37 {n : Nat} {cs : List Value} {y : DataW H × List MemPlace} (h : DataW.trod enc Try.prog W base spare held n 3 cs = some y) : ∃ z : Int, cs = Flat.enc z ∧ True := by
  obtain ⟨k, hk, _, _⟩ := DataW.trod_int Try.underlying3 h
  exact ⟨k, hk, trivial⟩
structure MbrOk (W : World) (x : MbrP) : Prop where
  ign : Rd W x.A x.m.ign
  len : x.m.ign.length ≤ maxLen
set_option maxRecDepth 100000 in
theorem mbr_open {n : Nat} {cs : List Value} {y : DataW H × List MemPlace} (h : DataW.trod enc Try.prog W base spare held n 31 cs = some y) : ∃ z : MbrP, cs = Flat.enc z ∧ MbrOk W z := by
  obtain ⟨m, u0, u1, y0, y1, rfl, e0, e1⟩ := two_openF Try.underlying31 (by kernel_rfl) rfl rfl (by kernel_rfl) (by kernel_rfl) h
  obtain ⟨a, ha, _, _⟩ := DataW.trod_int Try.underlying3 e0
  obtain ⟨A, ca, l, hc, hr, _, hl, _⟩ := list_open (fun _ : Int => True) (fun n cs y h => int_open37 h) Try.underlying29 (by kernel_rfl) e1
  injection ha with ha; injection hc with hc
  subst ha hc
  exact ⟨⟨⟨a, l⟩, A, ca⟩, rfl, ⟨hr, hl⟩⟩
set_option maxRecDepth 100000 in
theorem msg_open {n : Nat} {cs : List Value} {y : DataW H × List MemPlace} (h : DataW.trod enc Try.prog W base spare held n 36 cs = some y) : ∃ z : Msg, cs = Flat.enc z ∧ z.txt.length ≤ maxLen := by
  obtain ⟨m, u0, u1, u2, u3, y0, y1, y2, y3, rfl, e0, e1, e2, e3⟩ := four_open Try.underlying36 (by kernel_rfl) rfl rfl rfl rfl (by kernel_rfl) (by kernel_rfl) (by kernel_rfl) (by kernel_rfl) h
  obtain ⟨a, ha, _, _⟩ := DataW.trod_int Try.underlying3 e0
  obtain ⟨b, hb, _, _⟩ := DataW.trod_int Try.underlying3 e1
  obtain ⟨c, hc, _, _⟩ := DataW.trod_int Try.underlying3 e2
  obtain ⟨s, hs, hsl⟩ := str_open e3
  injection ha with ha; injection hb with hb; injection hc with hc; injection hs with hs
  subst ha hb hc hs
  exact ⟨⟨a, b, c, s⟩, rfl, hsl⟩
set_option maxRecDepth 100000 in
theorem open_room {v : Value} {d : DataW H} {p : List MemPlace} (hv0 : Value.okWide Try.prog W .any base 25 v) (h : DataW.Trod enc Try.prog W 0 (fun _ => true) true 25 v d p) :
    ∃ t s A L c B gl d, v = rv37 t s A L c B gl d ∧ RdR W A L B gl ∧ L.length ≤ maxLen ∧ gl.length ≤ maxLen ∧ (∀ x ∈ L, x.m.ign.length ≤ maxLen) ∧ (∀ x ∈ gl, x.txt.length ≤ maxLen) ∧ -9223372036854775808 ≤ s ∧ s ≤ 9223372036854775807 ∧ gl.length ≤ d := by
  obtain ⟨cs, rfl, hsz⟩ := okWide_struct Try.underlying25 hv0
  obtain ⟨fuel, hf⟩ := h
  obtain ⟨m, u0, u1, u2, u3, y0, y1, y2, y3, hcs, e0, e1, e2, e3⟩ := four_open Try.underlying25 (by kernel_rfl) rfl rfl rfl rfl (by kernel_rfl) (by kernel_rfl) (by kernel_rfl) (by kernel_rfl) hf
  obtain ⟨a, ha, _, _⟩ := DataW.trod_int Try.underlying3 e0
  obtain ⟨b, hb, _, hbw⟩ := DataW.trod_int Try.underlying3 e1
  obtain ⟨A, ca, l, hc, hr, hok, hl, _⟩ := list_open (MbrOk W) (fun n cs y h => mbr_open h) Try.underlying22 (by kernel_rfl) e2
  obtain ⟨B, cb, gl, hc2, hr2, hok2, hl2, hl3⟩ := list_open (fun x : Msg => x.txt.length ≤ maxLen) (fun n cs y h => msg_open h) Try.underlying23 (by kernel_rfl) e3
  injection ha with ha; injection hb with hb; injection hc with hc; injection hc2 with hc2
  subst ha hb hc hc2
  obtain ⟨lo, hi⟩ := i64_of hbw
  refine ⟨a, b, A, l, ca, B, gl, cb, ?_, ⟨hr, fun x hx => (hok x hx).ign, hr2⟩, hl, hl2, fun x hx => (hok x hx).len, hok2, lo, hi, hl3⟩
  unfold rv37
  congr 1
  apply Array.ext'
  simpa [Value.cells] using hcs
/-- A thing that is done. -/
structure Do37 where
  kind : Int
  id : Int
  whom : Int
  tick : Int
  txt : List UInt8
instance : Flat Do37 := ⟨5, fun x => [.int .i64 x.kind, .int .i64 x.id, .int .i64 x.whom, .int .i64 x.tick, .string (bs x.txt)], ⟨0, 0, 0, 0, []⟩, fun _ => rfl, fun x v hv => by
  simp at hv; rcases hv with rfl | rfl | rfl | rfl | rfl <;> rfl, by omega⟩
end
end Go.Proofs.Ytplhnnlklnbahaa

