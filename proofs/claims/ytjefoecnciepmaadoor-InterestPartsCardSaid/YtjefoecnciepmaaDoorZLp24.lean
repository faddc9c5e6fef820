/- InterestParts: what the view has. -/
import Derived.Test.YtjefoecnciepmaaDoorZTw
import Derived.Test.YtjefoecnciepmaaDoorZPp24
import Derived.Test.YtjefoecnciepmaaDoorZWy
import Derived.Test.YtjefoecnciepmaaDoorZMk
import Derived.Test.YtjefoecnciepmaaDoorZLj
import Derived.Test.YtjefoecnciepmaaDoorZLk
set_option linter.unusedSimpArgs false
set_option linter.unusedVariables false
namespace Go.Proofs.YtjefoecnciepmaaDoor
open Go.Fw Go.RowKit
set_option maxHeartbeats 4000000 in
set_option maxRecDepth 100000 in
theorem partsLaw (A0 : Option Addr) (c0 : Nat) (l0 : List Form) (a1 : Int) (W : World) (hG : Glob W) (hr0 : Rd W A0 l0) (hb0 : ∀ f ∈ l0, f.Ok) (hl0 : l0.length ≤ maxLen) (lo1 : 0 ≤ a1) (hi1 : a1 ≤ 255) : Ret Tryd.prog 5 [.slice A0 l0.length c0, .int .u8 a1].toArray W (Out W (.bool true)) := by
  have hM := fun w' (he : Ext W w') => made24_spec A0 l0 c0 w' hl0 (hr0.ext he) hb0
  unfold WorldR wv at hM
  have hv0 : ValidW 5 (madeL l0) := made_valid hb0 (by omega) (by omega)
  have hid0 : ∀ e ∈ madeL l0, ∃ i : Nat, i < (madeL l0).length ∧ e.id = 3 + 3 * (i : Int) ∧ (madeL l0).getD i ⟨0, []⟩ = e := fun e he => by
    obtain ⟨i, h1, h2, h3⟩ := made_id he
    exact ⟨i, by unfold madeL; rw [madeN_len]; exact h1, h2, h3⟩
  have hcm0 : ∀ e ∈ madeL l0, e.comps.length ≤ 10 := fun e he => made_comps he
  generalize madeL l0 = es at hM hv0 hid0 hcm0
  clear hb0
  have hA := fun w (h : Ext W w) => awake24_spec w (hG.ext h)
  obtain ⟨ct, hct⟩ : ∃ ct, ct = 1 + a1 % 8 := ⟨_, rfl⟩
  have hc8 : 1 ≤ ct ∧ ct ≤ 8 := by omega
  have hok : OkI ct 5 es := ⟨hc8, hv0⟩
  have hn64 := hv0.len
  refine enterH Tryd.func5 rfl rfl Tryd.ntmps5 rfl (Wd.refl _) ?_
  (repeat' (first | (show VH _ _ _ _ _ _ _; first | refine v_seq ?_ | refine r_seq ?_ | refine v_skip ?_ | refine v_cond_f rfl tbL ?_) | (show SH _ _ _ _ _ (_ :: _) _ _ _; first | (show SH _ _ _ _ _ (⟨_, .move _, _, _, _, _⟩ :: _) _ _ _; refine mov evL ?_) | (show SH _ _ _ _ _ (⟨_, .assign _, _, _, _, _⟩ :: _) _ _ _; refine asg evL ?_) | (show SH _ _ _ _ _ (⟨_, .call ⟨.value (.func 9), _, _⟩, _, _, _, _⟩ :: _) _ _ _; refine cl (callee := .func 9) rfl (fun w hw => hA w hw.ext) rfl rfl ?_) | (show SH _ _ _ _ _ (⟨_, .call ⟨.value (.func 10), _, _⟩, _, _, _, _⟩ :: _) _ _ _; refine cp (callee := .func 10) rfl (fun w hw => hM w hw.ext) rfl rfl ?_) | refine bnoT rfl ?_) | refine s_nil ?_ | refine kh_normal ?_))
  rintro _ _ ⟨A, c, L, rfl, hL, rfl⟩
  clear hM hA hr0
  have hL' : ents L = es := hL
  obtain ⟨hs, hse⟩ := made_sz hL' hv0.len hcm0
  have hLl : L.length = es.length := by rw [← ents_len, hL']
  have hV := fun w hG hr => visI_spec ct 5 A L c w hG hs hr
  have hO := fun w hG hr => ownI_spec ct 5 A L c w hG hs hr
  have hW := fun w hG hr => viewI_spec ct 5 A L c w hG hs hse hr
  rw [hL'] at hV hO hW
  rw [errI_ok hok, visL_ok hok] at hV
  rw [errI_ok hok, ownL_ok hok] at hO
  rw [errI_ok hok, viewL_ok hok, viewT_ok hok] at hW
  unfold wv at *
  (repeat' ((fail_if_success (show VH _ _ (.seq (.region 4 _ _) _) _ _ _ _)); first | (show SH _ _ _ _ _ (_ :: _) _ _ _; first | (show SH _ _ _ _ _ (⟨_, .move _, _, _, _, _⟩ :: _) _ _ _; refine mov evL ?_) | (show SH _ _ _ _ _ (⟨_, .assign _, _, _, _, _⟩ :: _) _ _ _; refine asg evL ?_) | (show SH _ _ _ _ _ (⟨_, .binOp .add _ _ _ _, _, _, _, _⟩ :: _) _ _ _; refine add rfl rfl inL ?_) | (show SH _ _ _ _ _ (⟨_, .binOp .rem _ _ _ _, _, _, _, _⟩ :: _) _ _ _; refine rem rfl rfl omL omL ?_) | (show SH _ _ _ _ _ (⟨_, .convert _ _ _, _, _, _, _⟩ :: _) _ _ _; refine c64 rfl inL ?_) | refine ala rfl (fun b => ?_) | (show SH _ _ _ _ _ (⟨_, .store _ _ _, _, _, _, _⟩ :: _) _ _ _; refine sta rfl rfl rfl spL (by rfl) (by rfl) (by rfl) kpL ?_)) | refine s_nil ?_ | refine kh_normal ?_))
  rw [← hct]
  refine VH.ent (G := [bx b 26 [.int .i64 5, .slice A L.length c], knw A L]) ?_ (Ent.trans (B := [bx b 26 [.int .i64 5, .slice A L.length c], orow 37 A c L, allH (L.map rowOf)]) enL (ent_cons Split.head (ent_knw (G := []))))
  (repeat' (first | (show VH _ _ _ _ _ _ _; first | refine v_seq ?_ | refine r_seq ?_) | (show SH _ _ _ _ _ (_ :: _) _ _ _; first | (show SH _ _ _ _ _ (⟨_, .move _, _, _, _, _⟩ :: _) _ _ _; refine mov evL ?_) | (show SH _ _ _ _ _ (⟨_, .load _ _, _, _, _, _⟩ :: _) _ _ _; refine lba rfl spL (by rfl) ?_) | (show SH _ _ _ _ _ (⟨_, .call ⟨.value (.func 11), _, _⟩, _, _, _, _⟩ :: _) _ _ _; refine cp (callee := .func 11) rfl (fun w hw => hV w (hG.ext hw.ext) (hw.kw spL)) rfl rfl ?_))))
  rintro _ _ ⟨A1, c1, rfl, rfl⟩
  (repeat' (first | (show VH _ _ _ _ _ _ _; first | refine v_seq ?_ | refine r_seq ?_) | (show SH _ _ _ _ _ (_ :: _) _ _ _; first | (show SH _ _ _ _ _ (⟨_, .move _, _, _, _, _⟩ :: _) _ _ _; refine mov evL ?_) | (show SH _ _ _ _ _ (⟨_, .assign _, _, _, _, _⟩ :: _) _ _ _; refine asg evL ?_) | (show SH _ _ _ _ _ (⟨_, .load _ _, _, _, _, _⟩ :: _) _ _ _; refine lba rfl spL (by rfl) ?_) | (show SH _ _ _ _ _ (⟨_, .call ⟨.value (.func 18), _, _⟩, _, _, _, _⟩ :: _) _ _ _; refine cp (callee := .func 18) rfl (fun w hw => hO w (hG.ext hw.ext) (hw.kw spL)) rfl rfl ?_) | refine extr rfl rfl ?_) | refine s_nil ?_ | refine kh_normal ?_))
  rintro _ _ ⟨A2, c2, rfl, rfl⟩
  (repeat' (first | (show VH _ _ _ _ _ _ _; first | refine v_seq ?_ | refine r_seq ?_) | (show SH _ _ _ _ _ (_ :: _) _ _ _; first | (show SH _ _ _ _ _ (⟨_, .move _, _, _, _, _⟩ :: _) _ _ _; refine mov evL ?_) | (show SH _ _ _ _ _ (⟨_, .assign _, _, _, _, _⟩ :: _) _ _ _; refine asg evL ?_) | (show SH _ _ _ _ _ (⟨_, .load _ _, _, _, _, _⟩ :: _) _ _ _; refine lba rfl spL (by rfl) ?_) | (show SH _ _ _ _ _ (⟨_, .call ⟨.value (.func 12), _, _⟩, _, _, _, _⟩ :: _) _ _ _; refine cp (callee := .func 12) rfl (fun w hw => hW w (hG.ext hw.ext) (hw.kw spL)) rfl rfl ?_) | refine extr rfl rfl ?_) | refine s_nil ?_ | refine kh_normal ?_))
  rintro _ _ ⟨A3, c3, L3, rfl, hL3, rfl⟩
  clear hV hO hW
  have hL3' : ents L3 = (es.filter (seesE ct.toNat (ptsE ct es))).map (viewE ct) := hL3
  have hv3 := view_valid (ct := ct) hv0 (seesE ct.toNat (ptsE ct es))
  rw [← hL3'] at hv3
  have hcm3 : ∀ e ∈ ents L3, e.comps.length ≤ 10 := fun e he => by
    rw [hL3'] at he
    obtain ⟨x, hx, rfl⟩ := List.mem_map.1 he
    have h1 := hcm0 x (List.mem_filter.1 hx).1
    have h2 := List.length_filter_le (inMask (maskE ct x)) x.comps
    exact Nat.le_trans h2 h1
  obtain ⟨hs3, hse3⟩ := made_sz rfl hv3.len hcm3
  have hO := fun w hG hr => ownI_spec ct 5 A3 L3 c3 w hG hs3 hr
  rw [errI_ok ⟨hc8, hv3⟩, ownL_ok ⟨hc8, hv3⟩, hL3', view_own hv0 hc8.1] at hO
  unfold wv at hO
  (repeat' ((fail_if_success (show VH _ _ (.seq (.region 7 _ _) _) _ _ _ _)); first | (show SH _ _ _ _ _ (_ :: _) _ _ _; first | (show SH _ _ _ _ _ (⟨_, .move _, _, _, _, _⟩ :: _) _ _ _; refine mov evL ?_) | (show SH _ _ _ _ _ (⟨_, .assign _, _, _, _, _⟩ :: _) _ _ _; refine asg evL ?_) | refine extr rfl rfl ?_ | refine ala rfl (fun b => ?_) | (show SH _ _ _ _ _ (⟨_, .store _ _ _, _, _, _, _⟩ :: _) _ _ _; refine sta rfl rfl rfl spL (by rfl) (by rfl) (by rfl) kpL ?_)) | refine s_nil ?_ | refine kh_normal ?_))
  rename_i b5
  revert b
  intro b11
  obtain ⟨OWN, hOWN⟩ : ∃ o, (es.filter (ownsE ct)).map Ent1.id = o := ⟨_, rfl⟩
  obtain ⟨VIS, hVIS⟩ : ∃ o, es.filter (seesE ct.toNat (ptsE ct es)) = o := ⟨_, rfl⟩
  obtain ⟨IDS, hIDS⟩ : ∃ o, VIS.map Ent1.id = o := ⟨_, rfl⟩
  rw [hOWN] at hO ⊢
  rw [hVIS] at hL3' ⊢
  rw [hIDS]
  refine VH.ent (G := [bx b11 26 [.int .i64 5, .slice A3 L3.length c3], knw A3 L3, orow 3 A2 c2 OWN, orow 3 A1 c1 IDS, bx b5 26 [.int .i64 5, .slice A L.length c], knw A L]) ?_ (ent_cons spL (Ent.trans (B := [orow 37 A3 c3 L3, allH (L3.map rowOf), orow 3 A2 c2 OWN, orow 3 A1 c1 IDS, bx b5 26 [.int .i64 5, .slice A L.length c], knw A L]) enL ent_knw))
  (repeat' (first | (show VH _ _ _ _ _ _ _; first | refine v_seq ?_ | refine r_seq ?_) | (show SH _ _ _ _ _ (_ :: _) _ _ _; first | (show SH _ _ _ _ _ (⟨_, .move _, _, _, _, _⟩ :: _) _ _ _; refine mov evL ?_) | (show SH _ _ _ _ _ (⟨_, .load _ _, _, _, _, _⟩ :: _) _ _ _; refine lba rfl spL (by rfl) ?_) | (show SH _ _ _ _ _ (⟨_, .call ⟨.value (.func 18), _, _⟩, _, _, _, _⟩ :: _) _ _ _; refine cp (callee := .func 18) rfl (fun w hw => hO w (hG.ext hw.ext) (hw.kw spL)) rfl rfl ?_))))
  rintro _ _ ⟨A4, c4, rfl, rfl⟩
  clear hO
  have hVl : VIS.length ≤ 64 := by
    rw [← hVIS]
    have := List.length_filter_le (seesE ct.toNat (ptsE ct es)) es
    omega
  have hl3 : L3.length = VIS.length := by rw [← ents_len, hL3', List.length_map]
  have hli : IDS.length = VIS.length := by rw [← hIDS, List.length_map]
  have hOl : OWN.length ≤ 64 := by
    rw [← hOWN, List.length_map]
    have := List.length_filter_le (ownsE ct) es
    omega
  have hsame := fun w h1 h2 => sameInts_spec A2 A4 OWN OWN c2 c4 w h1 h2 (by omega)
  rw [decide_eq_true rfl] at hsame
  (repeat' (first | (show VH _ _ _ _ _ _ _; first | refine v_seq ?_ | refine r_seq ?_ | refine v_block ?_ | refine v_skip ?_ | refine v_cond_f rfl tbL ?_) | (show SH _ _ _ _ _ (_ :: _) _ _ _; first | (show SH _ _ _ _ _ (⟨_, _, _, _, _, some _⟩ :: _) _ _ _; (refine gif rfl rfl ?_; refine giFF tbL ?_)) | (show SH _ _ _ _ _ (⟨_, .move _, _, _, _, _⟩ :: _) _ _ _; refine mov evL ?_) | (show SH _ _ _ _ _ (⟨_, .assign _, _, _, _, _⟩ :: _) _ _ _; refine asg evL ?_) | (show SH _ _ _ _ _ (⟨_, .binOp .neq _ _ _ _, _, _, _, _⟩ :: _) _ _ _; refine neqF rfl rfl omD ?_) | (show SH _ _ _ _ _ (⟨_, .binOp .add _ _ _ _, _, _, _, _⟩ :: _) _ _ _; refine add rfl rfl inL ?_) | (show SH _ _ _ _ _ (⟨_, .load _ _, _, _, _, _⟩ :: _) _ _ _; refine lbx rfl spL (by rfl) ?_) | refine slen rfl ?_ | (show SH _ _ _ _ _ (⟨_, .call ⟨.value (.func 21), _, _⟩, _, _, _, _⟩ :: _) _ _ _; refine cl (callee := .func 21) rfl (fun w hw => hsame w (hw.rd spL) (hw.rd spL)) rfl rfl ?_) | refine bnoT rfl ?_ | (show SH _ _ _ _ _ (⟨_, .pick _ _ _, _, _, _, _⟩ :: _) _ _ _; refine pkf rfl tbL evL ?_) | refine extr rfl rfl ?_ | refine fad rfl ?_) | refine s_nil ?_ | refine kh_normal ?_))
  clear hsame
  have hat : ∀ k < VIS.length, ∃ i : Nat, i < es.length ∧ es.getD i ⟨0, []⟩ ∈ es ∧ (es.getD i ⟨0, []⟩).id = 3 + 3 * (i : Int) ∧ IDS.getD k 0 = 3 + 3 * (i : Int) ∧ (L3.getD k Flat.dflt).e = viewE ct (es.getD i ⟨0, []⟩) := fun k hk => by
    have hm : VIS.getD k ⟨0, []⟩ ∈ es := by
      have := getD_mem (d := (⟨0, []⟩ : Ent1)) hk
      rw [← hVIS] at this ⊢
      exact (List.mem_filter.1 this).1
    obtain ⟨i, h1, h2, h3⟩ := hid0 _ hm
    refine ⟨i, h1, by rw [h3]; exact hm, by rw [h3]; exact h2, ?_, ?_⟩
    · rw [← h2, ← hIDS]
      simp [List.getD_eq_getElem?_getD, hk]
    · rw [ents_at24 (by omega), hL3', h3]
      simp [List.getD_eq_getElem?_getD, hk]
  clear hid0 hL3 hL3' hVIS hv3 hcm3
  
  refine v_norm [(4,_),(5,_),(9,_),(7,_),(11,_),(83,_),(84,_),(85,_)] heL (fun g => ?_)
  refine v_loop0 [(4,4),(15,18),(20,20),(85,168)] (fun k : Nat => [(85, .int .i64 k)]) (fun k => k ≤ L3.length) (fun k => L3.length - k) 0 hsL (Nat.zero_le _) ?_
  rintro k g hk
  simp only [sets]
  by_cases hkl : k < L3.length
  · obtain ⟨i, hi, hem, hie, hidk, hxe⟩ := hat k (by omega)
    clear hat
    obtain ⟨⟨ei, ec⟩, he0⟩ : ∃ e, es.getD i ⟨0, []⟩ = e := ⟨_, rfl⟩
    have hiL : i < L.length := by omega
    obtain ⟨y, hy⟩ : ∃ y, L.getD i Flat.dflt = y := ⟨_, rfl⟩
    have hye : y.e = ⟨ei, ec⟩ := by rw [← hy, ents_at24 hiL, hL', he0]
    have hry : ∀ w, RdW w A L → Rd w y.A y.e.comps := fun w h => h.2 y (by rw [← hy]; exact getD_mem hiL)
    obtain ⟨x, hx⟩ : ∃ x, L3.getD k Flat.dflt = x := ⟨_, rfl⟩
    have hrx : ∀ w, RdW w A3 L3 → Rd w x.A x.e.comps := fun w h => h.2 x (by rw [← hx]; exact getD_mem hkl)
    have hrt := hv0.right _ hem
    have hec : ec.length ≤ 10 := by have := hcm0 _ hem; rwa [he0] at this
    rw [he0] at hie hxe hem hrt
    rw [hx] at hxe
    have hI := fun w hr => in_spec A2 OWN c2 ei w (by omega) hr
    have hin := filt_in hv0.up (ownsE ct) hem
    rw [hOWN] at hin
    simp only at hin hie
    rw [hin] at hI
    obtain ⟨wo, hwo⟩ : ∃ wo, ownsE ct ⟨ei, ec⟩ = wo := ⟨_, rfl⟩
    rw [hwo] at hI
    obtain ⟨p, hp⟩ : ∃ p, keepC ct ⟨ei, ec⟩ = p := ⟨_, rfl⟩
    have hpv : ∀ z : Comp, p z = (wo || decide (z.kind ≠ 5 ∧ z.kind ≠ 6 ∧ z.kind ≠ 7 ∧ z.kind ≠ 9)) := fun z => by rw [← hp, ← hwo]; rfl
    unfold viewE at hxe
    rw [partC_eq hrt, hp] at hxe
    simp only at hxe
    have hix : (IDS.getD k 0 / 3 - 1).toNat = i := by omega
    clear hin hp hwo hrt
    (repeat' ((fail_if_success (show VH _ _ (.seq (.region 13 _ _) _) _ _ _ _)); first | (show VH _ _ _ _ _ _ _; first | refine v_seq ?_ | refine r_seq ?_ | refine v_block ?_ | refine v_skip ?_ | refine v_cond_t rfl tbL ?_) | (show SH _ _ _ _ _ (_ :: _) _ _ _; first | (show SH _ _ _ _ _ (⟨_, .move _, _, _, _, _⟩ :: _) _ _ _; refine mov evL ?_) | (show SH _ _ _ _ _ (⟨_, .assign _, _, _, _, _⟩ :: _) _ _ _; refine asg evL ?_) | (show SH _ _ _ _ _ (⟨_, .binOp .lss _ _ _ _, _, _, _, _⟩ :: _) _ _ _; refine lssT rfl rfl omD ?_) | (show SH _ _ _ _ _ (⟨_, .load _ _, _, _, _, _⟩ :: _) _ _ _; first | refine lra rfl (fun _ _ => rdY) (by rfl) omL ?_ | refine lra rfl (fun _ _ => rdY) (by rfl) (by simp only [List.length_cons, List.length_nil]; omega) ?_) | (show SH _ _ _ _ _ (⟨_, .indexAddr _ _ _, _, _, _, _⟩ :: _) _ _ _; refine ix rfl rfl (by with_reducible rfl) (fun _ _ => rdY) (by rfl) omL omL ?_) | refine ala rfl (fun b => ?_) | (show SH _ _ _ _ _ (⟨_, .store _ _ _, _, _, _, _⟩ :: _) _ _ _; refine sta rfl rfl rfl spL (by rfl) (by rfl) (by rfl) kpL ?_)) | refine s_nil ?_ | refine kh_normal ?_))
    rw [hx]
    clear hx
    obtain ⟨⟨xi, xc⟩, Ax, cx⟩ := x
    simp only [Ent1.mk.injEq] at hxe hrx
    obtain ⟨rfl, rfl⟩ := hxe
    obtain ⟨⟨yi, yc⟩, Ay, cy⟩ := y
    simp only [Ent1.mk.injEq] at hye hry
    obtain ⟨rfl, rfl⟩ := hye
    rw [show Flat.enc (⟨⟨yi, yc.filter p⟩, Ax, cx⟩ : EntP) = [.int .i64 yi, .slice Ax (yc.filter p).length cx] from rfl]
    revert b
    intro b16
    refine v_seq ?_
    refine r_heldT [bx b5 26 [.int .i64 5, .slice A L.length c], knw A L, orow 3 A1 c1 IDS, bx b16 37 [.int .i64 yi, .slice Ax (yc.filter p).length cx]] (tr [(0, true), (1, true), (2, true), (3, true), (4, true), (5, true), (6, true), (7, true), (8, true), (9, true), (10, false), (11, false)] .nil) hmix (by kernel_rfl) enL ?_
    (repeat' ((fail_if_success (show VH _ _ (.seq (.region 14 _ _) _) _ _ _ _)); first | refine v_seq ?_ | (show SH _ _ _ _ _ (_ :: _) _ _ _; first | (show SH _ _ _ _ _ (⟨_, .move _, _, _, _, _⟩ :: _) _ _ _; refine mov evL ?_) | (show SH _ _ _ _ _ (⟨_, .binOp .sub _ _ _ _, _, _, _, _⟩ :: _) _ _ _; refine sub rfl rfl inL ?_) | (show SH _ _ _ _ _ (⟨_, .binOp .quo _ _ _ _, _, _, _, _⟩ :: _) _ _ _; refine quo rfl rfl omL omL omL ?_) | (show SH _ _ _ _ _ (⟨_, .load _ _, _, _, _, _⟩ :: _) _ _ _; first | refine lin rfl (fun _ _ => rdY) omL ?_ | refine lbx rfl spL (by rfl) ?_ | refine lra rfl (fun _ _ => rdY) (by rfl) omL ?_ | refine lra rfl (fun _ _ => rdY) (by rfl) (by simp only [List.length_cons, List.length_nil]; omega) ?_) | (show SH _ _ _ _ _ (⟨_, .indexAddr _ _ _, _, _, _, _⟩ :: _) _ _ _; first | refine ix rfl rfl (by with_reducible rfl) (fun _ _ => rdY) (by rfl) omL omL ?_ | refine ixi rfl rfl (fun _ _ => rdY) (by rfl) omL omL omL ?_ | refine ixi rfl rfl (fun _ _ => rdY) (by rfl) omL (by first | omega | (simp only [List.length_cons, List.length_nil]; omega)) (by simp only [List.length_cons, List.length_nil]; omega) ?_) | refine fad rfl ?_ | refine ala rfl (fun b => ?_) | (show SH _ _ _ _ _ (⟨_, .store _ _ _, _, _, _, _⟩ :: _) _ _ _; refine sta rfl rfl rfl spL (by rfl) (by rfl) (by rfl) kpL ?_)) | refine s_nil ?_ | refine kh_normal ?_))
    rw [hix, hy, show Flat.enc (⟨⟨yi, yc⟩, Ay, cy⟩ : EntP) = [.int .i64 yi, .slice Ay yc.length cy] from rfl]
    clear hy hix hem
    (repeat' (first | (show VH _ _ _ _ _ _ _; first | refine v_seq ?_ | refine r_seq ?_ | refine r_quiet hmix (by kernel_rfl) ?_ | refine v_block ?_ | refine v_skip ?_ | refine v_cond_f rfl tbL ?_) | (show SH _ _ _ _ _ (_ :: _) _ _ _; first | (show SH _ _ _ _ _ (⟨_, _, _, _, _, some _⟩ :: _) _ _ _; (refine gif rfl rfl ?_; refine giFF tbL ?_)) | (show SH _ _ _ _ _ (⟨_, .move _, _, _, _, _⟩ :: _) _ _ _; refine mov evL ?_) | (show SH _ _ _ _ _ (⟨_, .assign _, _, _, _, _⟩ :: _) _ _ _; refine asg evL ?_) | (show SH _ _ _ _ _ (⟨_, .binOp .neq _ _ _ _, _, _, _, _⟩ :: _) _ _ _; refine neqF rfl rfl omD ?_) | (show SH _ _ _ _ _ (⟨_, .load _ _, _, _, _, _⟩ :: _) _ _ _; first | refine lin rfl (fun _ _ => rdY) omL ?_ | refine lbx rfl spL (by rfl) ?_) | (show SH _ _ _ _ _ (⟨_, .indexAddr _ _ _, _, _, _, _⟩ :: _) _ _ _; refine ix rfl rfl (by with_reducible rfl) (fun _ _ => rdY) (by rfl) omL omL ?_) | refine slen rfl ?_ | (show SH _ _ _ _ _ (⟨_, .pick _ _ _, _, _, _, _⟩ :: _) _ _ _; refine pkf rfl tbL evL ?_) | refine fad rfl ?_) | refine s_nil ?_ | refine kh_normal ?_))
    
    refine v_normS [(4,4),(15,18),(20,20),(85,168)] _ agL [(16,_),(17,_),(18,_),(85,_),(115,_),(116,_),(117,_)] heL (fun g => ?_)
    refine v_loop0 [(4,4),(18,18),(20,20),(117,162)] (fun j : Nat => [(117, .int .i64 j), (18, .int .i64 ((yc.take j).filter p).length)]) (fun j => j ≤ yc.length) (fun j => yc.length - j) 0 hsL (Nat.zero_le _) ?_
    rintro j g2 hj
    simp only [sets]
    by_cases hjl : j < yc.length
    · obtain ⟨z, hz⟩ : ∃ z, yc.getD j Flat.dflt = z := ⟨_, rfl⟩
      have hpz := hpv z
      have hnx := flt_next Flat.dflt p yc hjl
      have hfa := flt_at Flat.dflt p yc j hjl
      rw [hz] at hnx hfa
      clear hpv hidk hie
      obtain ⟨m, hm⟩ : ∃ m, ((yc.take j).filter p).length = m := ⟨_, rfl⟩
      rw [hm] at hnx hfa ⊢
      clear hm
      (repeat' ((fail_if_success (show VH _ _ (.seq (.region 20 _ _) _) _ _ _ _)); first | (show VH _ _ _ _ _ _ _; first | refine v_seq ?_ | refine r_seq ?_ | refine v_block ?_ | refine v_skip ?_ | refine v_cond_t rfl tbL ?_) | (show SH _ _ _ _ _ (_ :: _) _ _ _; first | (show SH _ _ _ _ _ (⟨_, .binOp .lss _ _ _ _, _, _, _, _⟩ :: _) _ _ _; refine lssT rfl rfl omD ?_) | (show SH _ _ _ _ _ (⟨_, .load _ _, _, _, _, _⟩ :: _) _ _ _; first | refine lra rfl (fun _ _ => rdY) (by rfl) omL ?_ | refine lra rfl (fun _ _ => rdY) (by rfl) (by simp only [List.length_cons, List.length_nil]; omega) ?_) | (show SH _ _ _ _ _ (⟨_, .indexAddr _ _ _, _, _, _, _⟩ :: _) _ _ _; refine ix rfl rfl (by with_reducible rfl) (fun _ _ => rdY) (by rfl) omL omL ?_) | refine ala rfl (fun b => ?_) | (show SH _ _ _ _ _ (⟨_, .store _ _ _, _, _, _, _⟩ :: _) _ _ _; refine sta rfl rfl rfl spL (by rfl) (by rfl) (by rfl) kpL ?_)) | refine s_nil ?_ | refine kh_normal ?_))
      rw [hz]
      obtain ⟨zk, za, zb, zc, zd⟩ := z
      simp only at hpz
      rw [show Flat.enc (⟨zk, za, zb, zc, zd⟩ : Comp) = [.int .u8 zk, .int .i64 za, .int .i64 zb, .int .i64 zc, .int .i64 zd] from rfl]
      clear hz
      cases hpb : p ⟨zk, za, zb, zc, zd⟩ with
      | false =>
        rw [hpb, if_neg (by decide), Nat.add_zero] at hnx
        rw [hpb] at hpz
        have hw0 : wo = false := by cases wo with
          | false => rfl
          | true => simp at hpz
        subst hw0
        rw [Bool.false_or] at hpz
        have hk := of_decide_eq_false hpz.symm
        clear hpz hfa hpb
        have hk4 : zk = 5 ∨ zk = 6 ∨ zk = 7 ∨ zk = 9 := by omega
        clear hk
        rcases hk4 with rfl | rfl | rfl | rfl
        all_goals
          (repeat' (first | (show VH _ _ _ _ _ _ _; first | refine v_seq ?_ | refine r_seq ?_ | refine v_exit ?_ | refine v_cond_t rfl tbL ?_) | (show SH _ _ _ _ _ (_ :: _) _ _ _; first | (show SH _ _ _ _ _ (⟨_, _, _, _, _, some _⟩ :: _) _ _ _; (refine gif rfl rfl ?_; first | refine giTT tbL ?_ | refine giFF tbL ?_ | refine giFT tbL ?_)) | (show SH _ _ _ _ _ (⟨_, .move _, _, _, _, _⟩ :: _) _ _ _; refine mov evL ?_) | (show SH _ _ _ _ _ (⟨_, .binOp .eql _ _ _ _, _, _, _, _⟩ :: _) _ _ _; first | refine eqlT rfl rfl omD ?_ | refine eqlF rfl rfl omD ?_) | (show SH _ _ _ _ _ (⟨_, .binOp .add _ _ _ _, _, _, _, _⟩ :: _) _ _ _; refine add rfl rfl inL ?_) | (show SH _ _ _ _ _ (⟨_, .load _ _, _, _, _, _⟩ :: _) _ _ _; refine lbx rfl spL (by rfl) ?_) | (show SH _ _ _ _ _ (⟨_, .call ⟨.value (.func 14), _, _⟩, _, _, _, _⟩ :: _) _ _ _; refine cl (callee := .func 14) rfl (fun w hw => hI w (hw.rd spL)) rfl rfl ?_) | refine bnoF rfl ?_ | (show SH _ _ _ _ _ (⟨_, .pick _ _ _, _, _, _, _⟩ :: _) _ _ _; first | refine pkt rfl tbL evL ?_ | refine pkf rfl tbL evL ?_) | refine fad rfl ?_) | refine s_nil ?_ | refine kh_normal ?_ | refine kh_exit ?_ | refine bh_exit ?_))
          exact ⟨agL, j + 1, by rw [hnx]; (repeat (first | exact trivial | refine And.intro rfl ?_)), enL, by omega, by omega⟩
      | true =>
        rw [hpb, if_pos rfl] at hnx
        rw [hpb] at hpz hfa
        obtain ⟨hm1, hm2⟩ := hfa rfl
        have hfl := List.length_filter_le p yc
        clear hfa hpb
        have hk : wo = true ∨ (wo = false ∧ zk ≠ 5 ∧ zk ≠ 6 ∧ zk ≠ 7 ∧ zk ≠ 9) := by
          cases wo with
          | true => exact .inl rfl
          | false => rw [Bool.false_or] at hpz; exact .inr ⟨rfl, of_decide_eq_true hpz.symm⟩
        clear hpz
        rcases hk with rfl | ⟨rfl, k1, k2, k3, k4⟩
        all_goals
          (repeat' (first | (show VH _ _ _ _ _ _ _; first | refine v_seq ?_ | refine r_seq ?_ | refine v_skip ?_ | refine v_cond_f rfl tbL ?_) | (show SH _ _ _ _ _ (_ :: _) _ _ _; first | (show SH _ _ _ _ _ (⟨_, _, _, _, _, some _⟩ :: _) _ _ _; first | (refine gif rfl rfl ?_; first | refine giTT tbL ?_ | refine giTF tbL ?_ | refine giFF tbL ?_) | refine gu rfl rfl ?_) | (show SH _ _ _ _ _ (⟨_, .move _, _, _, _, _⟩ :: _) _ _ _; refine mov evL ?_) | (show SH _ _ _ _ _ (⟨_, .binOp .eql _ _ _ _, _, _, _, _⟩ :: _) _ _ _; refine eqlF rfl rfl omD ?_) | (show SH _ _ _ _ _ (⟨_, .load _ _, _, _, _, _⟩ :: _) _ _ _; refine lbx rfl spL (by rfl) ?_) | (show SH _ _ _ _ _ (⟨_, .call ⟨.value (.func 14), _, _⟩, _, _, _, _⟩ :: _) _ _ _; refine cl (callee := .func 14) rfl (fun w hw => hI w (hw.rd spL)) rfl rfl ?_) | (show SH _ _ _ _ _ (⟨_, .unOp .not _ _, _, _, _, _⟩ :: _) _ _ _; first | refine bnoT rfl ?_ | refine bnoF rfl ?_) | (show SH _ _ _ _ _ (⟨_, .pick _ _ _, _, _, _, _⟩ :: _) _ _ _; first | refine pkt rfl tbL evL ?_ | refine pkf rfl tbL evL ?_) | refine fad rfl ?_) | refine s_nil ?_ | refine kh_normal ?_))
          refine r_quiet hmix (by kernel_rfl) ?_
          (repeat' ((show SH _ _ _ _ _ (_ :: _) _ _ _; first | (show SH _ _ _ _ _ (⟨_, _, _, _, _, some _⟩ :: _) _ _ _; (refine gif rfl rfl ?_; refine giFF tbL ?_)) | (show SH _ _ _ _ _ (⟨_, .move _, _, _, _, _⟩ :: _) _ _ _; refine mov evL ?_) | (show SH _ _ _ _ _ (⟨_, .binOp .eql _ _ _ _, _, _, _, _⟩ :: _) _ _ _; refine eqlF rfl rfl omD ?_) | (show SH _ _ _ _ _ (⟨_, .load _ _, _, _, _, _⟩ :: _) _ _ _; first | refine lbx rfl spL (by rfl) ?_ | refine lba rfl spL (by rfl) ?_ | refine lra rfl (fun _ _ => rdY) (by rfl) omL ?_ | refine lra rfl (fun _ _ => rdY) (by rfl) (by simp only [List.length_cons, List.length_nil]; omega) ?_) | (show SH _ _ _ _ _ (⟨_, .indexAddr _ _ _, _, _, _, _⟩ :: _) _ _ _; refine ix rfl rfl (by with_reducible rfl) (fun _ _ => rdY) (by rfl) omL omL ?_) | refine slen rfl ?_ | refine fad rfl ?_)))
          refine nea ((yc.filter p).getD m Flat.dflt) (⟨zk, za, zb, zc, zd⟩ : Comp) rfl rfl ?_
          rw [decide_eq_true hm2]
          (repeat' (first | (show VH _ _ _ _ _ _ _; first | refine r_seq ?_ | refine v_skip ?_ | refine v_cond_f rfl tbL ?_) | (show SH _ _ _ _ _ (_ :: _) _ _ _; first | (show SH _ _ _ _ _ (⟨_, .move _, _, _, _, _⟩ :: _) _ _ _; refine mov evL ?_) | (show SH _ _ _ _ _ (⟨_, .assign _, _, _, _, _⟩ :: _) _ _ _; refine asg evL ?_) | (show SH _ _ _ _ _ (⟨_, .binOp .add _ _ _ _, _, _, _, _⟩ :: _) _ _ _; refine add rfl rfl inL ?_) | (show SH _ _ _ _ _ (⟨_, .pick _ _ _, _, _, _, _⟩ :: _) _ _ _; refine pkf rfl tbL evL ?_)) | refine s_nil ?_ | refine kh_normal ?_ | refine bh_normal ?_))
          exact ⟨agL, j + 1, by rw [hnx]; (repeat (first | exact trivial | refine And.intro rfl ?_)), enL, by omega, by omega⟩
    · have hje : j = yc.length := by omega
      rw [hje, List.take_length]
      (repeat' (first | (show VH _ _ _ _ _ _ _; first | refine v_seq ?_ | refine r_seq ?_ | refine v_skip ?_ | refine v_exit ?_ | refine v_cond_f rfl tbL ?_) | (show SH _ _ _ _ _ (_ :: _) _ _ _; first | (show SH _ _ _ _ _ (⟨_, .move _, _, _, _, _⟩ :: _) _ _ _; refine mov evL ?_) | (show SH _ _ _ _ _ (⟨_, .binOp .lss _ _ _ _, _, _, _, _⟩ :: _) _ _ _; refine lssF rfl rfl omD ?_) | (show SH _ _ _ _ _ (⟨_, .binOp .neq _ _ _ _, _, _, _, _⟩ :: _) _ _ _; refine neqF rfl rfl omD ?_) | (show SH _ _ _ _ _ (⟨_, .binOp .add _ _ _ _, _, _, _, _⟩ :: _) _ _ _; refine add rfl rfl inL ?_) | (show SH _ _ _ _ _ (⟨_, .load _ _, _, _, _, _⟩ :: _) _ _ _; refine lbx rfl spL (by rfl) ?_) | refine slen rfl ?_ | refine fad rfl ?_) | refine s_nil ?_ | refine kh_normal ?_ | refine kh_exit ?_ | refine bh_normal ?_ | refine bh_exit ?_))
      exact ⟨agL, k + 1, hsL, enL, by omega, by omega⟩
  · 
    (repeat' (first | (show VH _ _ _ _ _ _ _; first | refine v_seq ?_ | refine r_seq ?_ | refine v_ret ?_ | refine v_exit ?_ | refine v_cond_f rfl tbL ?_) | (show SH _ _ _ _ _ (_ :: _) _ _ _; first | (show SH _ _ _ _ _ (⟨_, .assign _, _, _, _, _⟩ :: _) _ _ _; refine asg evL ?_) | (show SH _ _ _ _ _ (⟨_, .binOp .lss _ _ _ _, _, _, _, _⟩ :: _) _ _ _; refine lssF rfl rfl omD ?_)) | refine s_nil ?_ | refine kh_normal ?_ | refine kh_exit ?_ | refine bh_exit ?_))
    exact rh1 rfl rfl ⟨rfl, rfl⟩ (ent_nil _)
end Go.Proofs.YtjefoecnciepmaaDoor
