/- InterestEach: an entity is visible exactly if the document says so. -/
import Derived.Test.YtjefoecnciepmaaDoorZTw
import Derived.Test.YtjefoecnciepmaaDoorZPf24
import Derived.Test.YtjefoecnciepmaaDoorZVp
import Derived.Test.YtjefoecnciepmaaDoorZMk
import Derived.Test.YtjefoecnciepmaaDoorZLj
import Derived.Test.YtjefoecnciepmaaDoorZLk
set_option linter.unusedSimpArgs false
set_option linter.unusedVariables false
namespace Go.Proofs.YtjefoecnciepmaaDoor
open Go.Fw Go.RowKit
set_option maxHeartbeats 4000000 in
set_option maxRecDepth 100000 in
theorem eachLaw (A0 : Option Addr) (c0 : Nat) (l0 : List Form) (a1 : Int) (W : World) (hG : Glob W) (hr0 : Rd W A0 l0) (hb0 : ∀ f ∈ l0, f.Ok) (hl0 : l0.length ≤ maxLen) (lo1 : 0 ≤ a1) (hi1 : a1 ≤ 255) : Ret Tryd.prog 4 [.slice A0 l0.length c0, .int .u8 a1].toArray W (Out W (.bool true)) := by
  have hM := fun w' (he : Ext W w') => made24_spec A0 l0 c0 w' hl0 (hr0.ext he) hb0
  unfold WorldR wv at hM
  have hv0 : ValidW 5 (madeL l0) := made_valid hb0 (by omega) (by omega)
  have hid0 : ∀ e ∈ madeL l0, ∃ i : Nat, i < (madeL l0).length ∧ e.id = 3 + 3 * (i : Int) ∧ (madeL l0).getD i ⟨0, []⟩ = e := fun e he => by
    obtain ⟨i, h1, h2, h3⟩ := made_id he
    exact ⟨i, by unfold madeL; rw [madeN_len]; exact h1, h2, h3⟩
  have hcm0 : ∀ e ∈ madeL l0, e.comps.length ≤ 10 := fun e he => made_comps he
  generalize madeL l0 = es at hM hv0 hid0 hcm0
  clear hb0
  have hA := fun w (h : Ext W w) => awake24_spec w (hG.ext h)
  obtain ⟨ct, hct⟩ : ∃ ct, ct = 1 + a1 % 8 := ⟨_, rfl⟩
  have hc8 : 1 ≤ ct ∧ ct ≤ 8 := by omega
  have hok : OkI ct 5 es := ⟨hc8, hv0⟩
  refine enterH Tryd.func4 rfl rfl Tryd.ntmps4 rfl (Wd.refl _) ?_
  (repeat' (first | (show VH _ _ _ _ _ _ _; first | refine v_seq ?_ | refine r_seq ?_ | refine v_skip ?_ | refine v_cond_f rfl tbL ?_) | (show SH _ _ _ _ _ (_ :: _) _ _ _; first | refine mov evL ?_ | refine asg evL ?_ | (show SH _ _ _ _ _ (⟨_, .call ⟨.value (.func 9), _, _⟩, _, _, _, _⟩ :: _) _ _ _; refine cl (callee := .func 9) rfl (fun w hw => hA w hw.ext) rfl rfl ?_) | (show SH _ _ _ _ _ (⟨_, .call ⟨.value (.func 10), _, _⟩, _, _, _, _⟩ :: _) _ _ _; refine cp (callee := .func 10) rfl (fun w hw => hM w hw.ext) rfl rfl ?_) | refine bnoT rfl ?_) | refine s_nil ?_ | refine kh_normal ?_))
  rintro _ _ ⟨A, c, L, rfl, hL, rfl⟩
  clear hM hA hr0
  have hL' : ents L = es := hL
  obtain ⟨hs, hse⟩ := made_sz hL' hv0.len hcm0
  have hV := fun w hG hr => visI_spec ct 5 A L c w hG hs hr
  have hO := fun w hG hr => ownI_spec ct 5 A L c w hG hs hr
  have hS := fun id w hG hr => seesI_spec ct id 5 A L c w hG hs hse hr
  have hC := fun id w hG hr => watI_spec id 5 A L c w hG hs hse hr
  rw [hL'] at hV hO hS hC
  rw [errI_ok hok, visL_ok hok] at hV
  rw [errI_ok hok, ownL_ok hok] at hO
  unfold wv at *
  (repeat' ((fail_if_success (show VH _ _ (.seq (.region 4 _ _) _) _ _ _ _)); first | (show SH _ _ _ _ _ (_ :: _) _ _ _; first | refine mov evL ?_ | refine asg evL ?_ | (show SH _ _ _ _ _ (⟨_, .binOp _ _ _ _ _, _, _, _, _⟩ :: _) _ _ _; first | refine add rfl rfl inL ?_ | refine rem rfl rfl omL omL ?_) | refine c64 rfl inL ?_ | refine ala rfl (fun b => ?_) | refine sta rfl rfl rfl spL (by rfl) (by rfl) (by rfl) kpL ?_) | refine s_nil ?_ | refine kh_normal ?_))
  rw [← hct]
  refine VH.ent (G := [bx b 26 [.int .i64 5, .slice A L.length c], knw A L]) ?_ (Ent.trans (B := [bx b 26 [.int .i64 5, .slice A L.length c], orow 37 A c L, allH (L.map rowOf)]) enL (ent_cons Split.head (ent_knw (G := []))))
  (repeat' (first | (show VH _ _ _ _ _ _ _; first | refine v_seq ?_ | refine r_seq ?_) | (show SH _ _ _ _ _ (_ :: _) _ _ _; first | refine mov evL ?_ | refine lba rfl spL (by rfl) ?_ | (show SH _ _ _ _ _ (⟨_, .call ⟨.value (.func 11), _, _⟩, _, _, _, _⟩ :: _) _ _ _; refine cp (callee := .func 11) rfl (fun w hw => hV w (hG.ext hw.ext) (hw.kw spL)) rfl rfl ?_))))
  rintro _ _ ⟨A1, c1, rfl, rfl⟩
  (repeat' (first | (show VH _ _ _ _ _ _ _; first | refine v_seq ?_ | refine r_seq ?_) | (show SH _ _ _ _ _ (_ :: _) _ _ _; first | refine mov evL ?_ | refine asg evL ?_ | refine lba rfl spL (by rfl) ?_ | (show SH _ _ _ _ _ (⟨_, .call ⟨.value (.func 18), _, _⟩, _, _, _, _⟩ :: _) _ _ _; refine cp (callee := .func 18) rfl (fun w hw => hO w (hG.ext hw.ext) (hw.kw spL)) rfl rfl ?_) | refine extr rfl rfl ?_) | refine s_nil ?_ | refine kh_normal ?_))
  rintro _ _ ⟨A2, c2, rfl, rfl⟩
  clear hV hO
  (repeat' (first | (show VH _ _ _ _ _ _ _; first | refine v_seq ?_ | refine r_seq ?_ | refine v_block ?_ | refine v_skip ?_ | refine v_cond_f rfl tbL ?_) | (show SH _ _ _ _ _ (_ :: _) _ _ _; first | refine mov evL ?_ | refine asg evL ?_ | (show SH _ _ _ _ _ (⟨_, .binOp _ _ _ _ _, _, _, _, _⟩ :: _) _ _ _; first | refine neqF rfl rfl omD ?_ | refine add rfl rfl inL ?_) | refine lbx rfl spL (by rfl) ?_ | refine slen rfl ?_ | refine extr rfl rfl ?_ | refine fad rfl ?_) | refine s_nil ?_ | refine kh_normal ?_))
  have hLl : L.length = es.length := by rw [← ents_len, hL']
  have hn64 := hv0.len
  (repeat' (first | (show VH _ _ _ _ _ _ _; first | refine v_seq ?_ | refine r_seq ?_ | refine v_block ?_ | refine v_ret ?_ | refine v_skip ?_ | refine v_exit ?_ | refine v_label ?_ | refine v_cond_t rfl tbL ?_ | refine v_cond_f rfl tbL ?_ | refine v_cond_dec rfl (fun h => ?_) (fun h => ?_) | refine v_cond_ndec rfl (fun h => ?_) (fun h => ?_) | refine v_cond rfl (fun h => ?_) (fun h => ?_)) | (show SH _ _ _ _ _ (_ :: _) _ _ _; first | (show SH _ _ _ _ _ (⟨_, _, _, _, _, some _⟩ :: _) _ _ _; first | (refine gif rfl rfl ?_; first | refine giTT tbL ?_ | refine giTF tbL ?_ | refine giFF tbL ?_ | refine giFT tbL ?_ | refine giTd (fun h => ?_) (fun h => ?_) | refine giFd (fun h => ?_) (fun h => ?_) | refine giT (fun h => ?_) (fun h => ?_) | refine giF (fun h => ?_) (fun h => ?_)) | refine gu rfl rfl ?_ | refine grT rfl rfl tbL ?_ | refine grF rfl rfl tbL ?_) | refine mov evL ?_ | refine asg evL ?_ | (show SH _ _ _ _ _ (⟨_, .binOp _ _ _ _ _, _, _, _, _⟩ :: _) _ _ _; first | refine lssT rfl rfl omD ?_ | refine lssF rfl rfl omD ?_ | refine leqT rfl rfl omD ?_ | refine leqF rfl rfl omD ?_ | refine geqT rfl rfl omD ?_ | refine geqF rfl rfl omD ?_ | refine eqlT rfl rfl omD ?_ | refine eqlF rfl rfl omD ?_ | refine neqT rfl rfl omD ?_ | refine neqF rfl rfl omD ?_ | refine add rfl rfl inL ?_ | refine sub rfl rfl inL ?_ | refine lss rfl rfl ?_ | refine leq rfl rfl ?_ | refine geq rfl rfl ?_ | refine eql rfl rfl ?_ | refine neq rfl rfl ?_ | refine eqn rfl rfl ?_ | refine nen rfl rfl ?_ | refine eqb rfl rfl ?_ | refine neb rfl rfl ?_ | refine sh1 rfl rfl ?_ | refine rem rfl rfl omL omL ?_ | refine quo rfl rfl omL omL omL ?_) | (show SH _ _ _ _ _ (⟨_, .load _ _, _, _, _, _⟩ :: _) _ _ _; first | refine lsl rfl (fun _ _ => rdX) omL (by assumption) ?_ | refine lin rfl (fun _ _ => rdX) omL ?_ | refine lbx rfl spL (by rfl) ?_ | refine lba rfl spL (by rfl) ?_ | refine lbi rfl spL omL ?_ | refine lr1 rfl (fun _ _ => rdX) (by rfl) omL (by rfl) ?_ | refine lra rfl (fun _ _ => rdX) (by rfl) omL ?_ | refine lrf rfl (fun _ _ => rdX) (by rfl) omL (by rfl) ?_ | refine lcell rfl (fun w hw => hw.ext.cell (by assumption)) ?_ | refine lrs rfl (fun _ _ => rdX) (by rfl) omL (by rfl) (by rfl) ?_ | refine lbs rfl spL (by rfl) (by rfl) ?_ | refine lca rfl (fun _ _ => rdX) (by rfl) ?_ | refine lcs rfl (fun _ _ => rdX) (by rfl) ?_ | refine lcf rfl (fun _ _ => rdX) (by rfl) ?_ | refine lrf rfl (fun _ _ => rdX) (by rfl) (by simp only [List.length_cons, List.length_nil]; omega) (by rfl) ?_ | refine lra rfl (fun _ _ => rdX) (by rfl) (by simp only [List.length_cons, List.length_nil]; omega) ?_) | (show SH _ _ _ _ _ (⟨_, .indexAddr _ _ _, _, _, _, _⟩ :: _) _ _ _; first | refine ix rfl rfl (by with_reducible rfl) (fun _ _ => rdX) (by rfl) omL omL ?_ | refine ixi rfl rfl (fun _ _ => rdX) (by rfl) omL omL omL ?_ | refine ixb rfl rfl omL ?_ | refine ixq rfl rfl (by assumption) omL omL ?_ | refine ixA _ rfl rfl rfl omL ?_ | refine ixi rfl rfl (fun _ _ => rdX) (by rfl) omL (by first | omega | (simp only [List.length_cons, List.length_nil]; omega)) (by simp only [List.length_cons, List.length_nil]; omega) ?_) | (show SH _ _ _ _ _ (⟨_, .call ⟨.builtin _, _, _⟩, _, _, _, _⟩ :: _) _ _ _; first | refine slen rfl ?_ | refine bmax rfl rfl ?_) | refine bnoT rfl ?_ | refine bnoF rfl ?_ | refine pkt rfl tbL evL ?_ | refine pkf rfl tbL evL ?_ | refine bnot rfl ?_ | refine neg rfl inL ?_ | refine extr rfl rfl ?_ | refine fad rfl ?_ | refine c64 rfl inL ?_ | refine cu64 rfl omL omL ?_ | refine cnv rfl ?_ | refine al1 rfl (fun b => ?_) | refine ala rfl (fun b => ?_) | refine stb rfl rfl evL spL rfl rfl (by first | decide | exact Nat.zero_lt_succ _ | exact of_decide_eq_true rfl) kpL ?_ | refine sta rfl rfl rfl spL (by rfl) (by rfl) (by rfl) kpL ?_ | refine sti rfl rfl rfl spL omL kpL ?_ | refine sbi rfl rfl rfl spL omL kpL ?_ | refine sbs rfl rfl evL spL (by rfl) (by rfl) (of_decide_eq_true rfl) kpL ?_) | refine s_nil ?_ | refine s_fork ?_ ?_ | refine kh_normal ?_ | refine kh_ret ?_ | refine kh_exit ?_ | refine bh_normal ?_ | refine bh_ret ?_ | refine bh_exit ?_ | refine bh_exit_ne rfl ?_))
  refine v_loop0 [(4,4),(11,12),(14,21),(23,31),(60,193)] (fun k : Nat => [(60, .int .i64 k), (11, .int .i64 (cnt (seesE ct.toNat (ptsE ct es)) es k)), (12, .int .i64 (cnt (ownsE ct) es k))]) (fun k => k ≤ es.length) (fun k => es.length - k) 0 hsL (Nat.zero_le _) ?_
  rintro k g hk
  simp only [sets]
  by_cases hkl : k < es.length
  · have hkL : k < L.length := by omega
    (repeat' ((fail_if_success (show VH _ _ (.seq (.region 12 _ _) _) _ _ _ _)); first | (show VH _ _ _ _ _ _ _; first | refine v_seq ?_ | refine r_seq ?_ | refine v_block ?_ | refine v_skip ?_ | refine v_cond_t rfl tbL ?_) | (show SH _ _ _ _ _ (_ :: _) _ _ _; first | refine lssT rfl rfl omD ?_ | (show SH _ _ _ _ _ (⟨_, .load _ _, _, _, _, _⟩ :: _) _ _ _; first | refine lra rfl (fun _ _ => rdX) (by rfl) omL ?_ | refine lra rfl (fun _ _ => rdX) (by rfl) (by simp only [List.length_cons, List.length_nil]; omega) ?_) | refine ix rfl rfl (by with_reducible rfl) (fun _ _ => rdX) (by rfl) omL omL ?_ | refine ala rfl (fun b => ?_) | refine sta rfl rfl rfl spL (by rfl) (by rfl) (by rfl) kpL ?_) | refine s_nil ?_ | refine kh_normal ?_))
    obtain ⟨x, hx⟩ : ∃ x, L.getD k Flat.dflt = x := ⟨_, rfl⟩
    have hxm : x ∈ L := by rw [← hx]; exact getD_mem hkL
    have hxl : x.e.comps.length ≤ 140737488355328 := hs.el x hxm
    have hxe : x.e = es.getD k ⟨0, []⟩ := by rw [← hx, ← hL']; exact ents_at24 hkL
    have hem : x.e ∈ es := by rw [← hL']; exact List.mem_map_of_mem hxm
    have hH := fun kd w hr => has_spec x kd w hxl hr
    have hi1 := filt_in hv0.up (ownsE ct) hem
    have hi2 := filt_in hv0.up (seesE ct.toNat (ptsE ct es)) hem
    have hS1 := hS x.e.id
    have hC1 := hC x.e.id
    rw [seeB_mem hok hem, seeErr_mem hok hem] at hS1
    rw [watErr_mem hv0 hem] at hC1
    have hi3 := watL_mem (watErr_mem hv0 hem) hc8
    rw [seeB_mem hok hem] at hi3
    have hnx1 := cnt_next (seesE ct.toNat (ptsE ct es)) es hkl
    have hnx2 := cnt_next (ownsE ct) es hkl
    rw [← hxe] at hnx1 hnx2
    have hrx : ∀ w, RdW w A L → Rd w x.A x.e.comps := fun w h => h.2 x hxm
    have hsee := sees_any (ct := ct) (es := es) ct.toNat x.e
    have hf4 : ownsE ct x.e = ((compK 4 x.e.comps).isSome && decide ((compD (compK 4 x.e.comps)).a = ct)) := by
      unfold ownsE
      cases compK 4 x.e.comps <;> rfl
    have hH4 := hH 4
    have hH1 := hH 1
    have hH5 := hH 5
    rw [hx]
    clear hx hH
    obtain ⟨⟨ei, cs⟩, Ax, cx⟩ := x
    simp only at *
    rw [show Flat.enc (⟨⟨ei, cs⟩, Ax, cx⟩ : EntP) = [.int .i64 ei, .slice Ax cs.length cx] from rfl] at *
    obtain ⟨y4, hy4⟩ : ∃ y, compD (compK 4 cs) = y := ⟨_, rfl⟩
    obtain ⟨y1, hy1⟩ : ∃ y, compD (compK 1 cs) = y := ⟨_, rfl⟩
    obtain ⟨y5, hy5⟩ : ∃ y, compD (compK 5 cs) = y := ⟨_, rfl⟩
    obtain ⟨z4, hz4⟩ : ∃ y, (compK 4 cs).isSome = y := ⟨_, rfl⟩
    obtain ⟨z1, hz1⟩ : ∃ y, (compK 1 cs).isSome = y := ⟨_, rfl⟩
    obtain ⟨z5, hz5⟩ : ∃ y, (compK 5 cs).isSome = y := ⟨_, rfl⟩
    rw [hy4, hz4] at hH4 hf4
    rw [hy1, hz1] at hH1
    rw [hy5, hz5] at hH5
    obtain ⟨k4, oa, ob, oc, od⟩ := y4
    obtain ⟨k1, px, py, pz, pw⟩ := y1
    obtain ⟨k5, ha, hb, hc, hd⟩ := y5
    simp only at hf4
    rw [show Flat.enc (⟨k4, oa, ob, oc, od⟩ : Comp) = [.int .u8 k4, .int .i64 oa, .int .i64 ob, .int .i64 oc, .int .i64 od] from rfl] at hH4
    rw [show Flat.enc (⟨k1, px, py, pz, pw⟩ : Comp) = [.int .u8 k1, .int .i64 px, .int .i64 py, .int .i64 pz, .int .i64 pw] from rfl] at hH1
    rw [show Flat.enc (⟨k5, ha, hb, hc, hd⟩ : Comp) = [.int .u8 k5, .int .i64 ha, .int .i64 hb, .int .i64 hc, .int .i64 hd] from rfl] at hH5
    (repeat' ((fail_if_success (show VH _ _ (.seq (.region 15 _ _) _) _ _ _ _)); first | (show VH _ _ _ _ _ _ _; first | refine v_seq ?_ | refine r_seq ?_) | (show SH _ _ _ _ _ (_ :: _) _ _ _; first | refine mov evL ?_ | refine asg evL ?_ | refine lba rfl spL (by rfl) ?_ | (show SH _ _ _ _ _ (⟨_, .call ⟨.value (.func 16), _, _⟩, _, _, _, _⟩ :: _) _ _ _; refine cl (callee := .func 16) rfl (fun w hw => hH4 w (hrx w (hw.kw spL))) rfl rfl ?_) | (show SH _ _ _ _ _ (⟨_, .call ⟨.value (.func 16), _, _⟩, _, _, _, _⟩ :: _) _ _ _; refine cl (callee := .func 16) rfl (fun w hw => hH1 w (hrx w (hw.kw spL))) rfl rfl ?_) | (show SH _ _ _ _ _ (⟨_, .call ⟨.value (.func 16), _, _⟩, _, _, _, _⟩ :: _) _ _ _; refine cl (callee := .func 16) rfl (fun w hw => hH5 w (hrx w (hw.kw spL))) rfl rfl ?_) | refine extr rfl rfl ?_ | refine ala rfl (fun b => ?_) | refine sta rfl rfl rfl spL (by rfl) (by rfl) (by rfl) kpL ?_) | refine s_nil ?_ | refine kh_normal ?_))
    clear hH4 hH1 hH5
    obtain ⟨wn, hwn⟩ : ∃ wn, ownsE ct ⟨ei, cs⟩ = wn := ⟨_, rfl⟩
    rw [hwn] at hf4 hi1 hnx2 hsee
    obtain ⟨OWN, hOWN⟩ : ∃ o, (es.filter (ownsE ct)).map Ent1.id = o := ⟨_, rfl⟩
    obtain ⟨IDS, hIDS⟩ : ∃ o, (es.filter (seesE ct.toNat (ptsE ct es))).map Ent1.id = o := ⟨_, rfl⟩
    have hOl : OWN.length ≤ 64 := by
      rw [← hOWN, List.length_map]
      have := List.length_filter_le (ownsE ct) es
      omega
    have hIl : IDS.length ≤ 64 := by
      rw [← hIDS, List.length_map]
      have := List.length_filter_le (seesE ct.toNat (ptsE ct es)) es
      omega
    rw [hOWN] at hi1 ⊢
    rw [hIDS] at hi2 ⊢
    have hI1 := fun w hr => in_spec A2 OWN c2 ei w (by omega) hr
    rw [hi1] at hI1
    have hI2 := fun w hr => in_spec A1 IDS c1 ei w (by omega) hr
    rw [hi2] at hI2
    refine v_seq ?_
    refine v_cut0 [(21, 21), (79, 86)] (fun _ : Unit => [(21, .bool wn)]) (fun _ => True) ?_ ?_ ent_vh
    · clear hC hC1 hS hS1 hid0 hi1 hi2 hi3 hsee hnx1 hnx2 hI1 hI2
      (repeat' (first | refine r_seq ?_ | (show SH _ _ _ _ _ (_ :: _) _ _ _; first | (refine gif rfl rfl ?_; first | refine giTT tbL ?_ | refine giTF tbL ?_ | refine giT (fun h => ?_) (fun h => ?_)) | refine mov evL ?_ | refine asg evL ?_ | refine eql rfl rfl ?_ | refine lbx rfl spL (by rfl) ?_ | refine ixA _ rfl rfl rfl omL ?_ | refine pkt rfl tbL evL ?_ | refine pkf rfl tbL evL ?_ | refine fad rfl ?_) | refine s_nil ?_ | refine kh_normal ?_))
      · have e : wn = decide (oa = ct) := by rw [hf4, h]; rfl
        rw [e]
        exact ⟨agL, (), hsL, enL, trivial⟩
      · have e : wn = false := by rw [hf4, h]; rfl
        rw [e]
        exact ⟨agL, (), hsL, enL, trivial⟩
    rintro _ g1 _
    simp only [sets]
    (repeat' ((fail_if_success (show VH _ _ (.seq (.seq (.region 18 _ _) _) _) _ _ _ _)); first | (show VH _ _ _ _ _ _ _; first | refine v_seq ?_ | refine r_seq ?_ | refine v_ret ?_ | refine v_skip ?_ | refine v_cond_ndec rfl (fun h => ?_) (fun h => ?_)) | (show SH _ _ _ _ _ (_ :: _) _ _ _; first | refine mov evL ?_ | refine asg evL ?_ | refine neb rfl rfl ?_ | refine lbx rfl spL (by rfl) ?_ | (show SH _ _ _ _ _ (⟨_, .call ⟨.value (.func 14), _, _⟩, _, _, _, _⟩ :: _) _ _ _; refine cl (callee := .func 14) rfl (fun w hw => hI1 w (hw.rd spL)) rfl rfl ?_) | refine fad rfl ?_) | refine s_nil ?_ | refine kh_normal ?_ | refine kh_ret ?_ | refine bh_ret ?_))
    · exact absurd rfl ‹¬wn = wn›
    clear hI1
    refine v_seq ?_
    refine v_cut0 [(12, 12), (93, 95)] (fun _ : Unit => [(12, .int .i64 (cnt (ownsE ct) es (k + 1)))]) (fun _ => True) ?_ ?_ ent_vh
    · rw [hnx2]
      have hcn := cnt_le (ownsE ct) es k
      generalize cnt (ownsE ct) es k = m at hcn ⊢
      clear hC hC1 hS hS1 hid0 hi1 hi2 hi3 hsee hnx1 hnx2 hI2
      (repeat' (first | (show VH _ _ _ _ _ _ _; first | refine v_seq ?_ | refine r_seq ?_ | refine v_skip ?_ | refine v_cond rfl (fun h => ?_) (fun h => ?_)) | (show SH _ _ _ _ _ (_ :: _) _ _ _; first | refine mov evL ?_ | refine asg evL ?_ | refine add rfl rfl inL ?_) | refine s_nil ?_ | refine kh_normal ?_))
      · rw [if_pos h]
        exact ⟨agL, (), hsL, enL, trivial⟩
      · rw [if_neg (by rw [h]; decide), Nat.add_zero]
        exact ⟨agL, (), hsL, enL, trivial⟩
    rintro _ g2 _
    simp only [sets]
    obtain ⟨W2, hW0, hWn, hWl⟩ : ∃ W2 : Nat → Bool, W2 0 = wn ∧ (∀ j, j < OWN.length → W2 (j + 1) = (W2 j || (nearQ ⟨ei, cs⟩ (es.getD (OWN.getD j 0 / 3 - 1).toNat ⟨0, []⟩) && !hidE ct.toNat ⟨ei, cs⟩))) ∧ W2 OWN.length = seesE ct.toNat (ptsE ct es) ⟨ei, cs⟩ :=
      ⟨fun j => wn || (OWN.take j).any fun id => nearQ ⟨ei, cs⟩ (es.getD (id / 3 - 1).toNat ⟨0, []⟩) && !hidE ct.toNat ⟨ei, cs⟩, by simp, fun j hj => by simp only; rw [any_next 0 _ _ hj, Bool.or_assoc], by
        simp only
        rw [List.take_length, ← hOWN, own_any hid0 (ownsE ct) (fun q => nearQ ⟨ei, cs⟩ q && !hidE ct.toNat ⟨ei, cs⟩), hsee]
        unfold seesE
        rw [show ((ct.toNat : Nat) : Int) = ct by omega, hwn]⟩
    have hOm : ∀ j, j < OWN.length → ∃ i : Nat, i < es.length ∧ OWN.getD j 0 = 3 + 3 * (i : Int) := fun j hj => by
      have hm := getD_mem (d := 0) hj
      rw [← hOWN] at hm
      obtain ⟨q, hq, he⟩ := List.mem_map.1 hm
      obtain ⟨i, h1, h2, _⟩ := hid0 q (List.mem_filter.1 hq).1
      exact ⟨i, h1, by rw [← h2, he, hOWN]⟩
    clear hsee
    (repeat' ((fail_if_success (show VH _ _ (.seq (.region 21 _ _) _) _ _ _ _)); first | (show VH _ _ _ _ _ _ _; first | refine v_seq ?_ | refine r_seq ?_ | refine v_block ?_) | (show SH _ _ _ _ _ (_ :: _) _ _ _; first | refine mov evL ?_ | refine slen rfl ?_) | refine s_nil ?_ | refine kh_normal ?_))
    refine v_normS [(4,4),(11,12),(14,21),(23,31),(60,193)] _ agL [(11,_),(12,_),(14,_),(15,_),(17,_),(18,_),(19,_),(21,_),(60,_),(96,_),(97,_),(98,_)] heL (fun g => ?_)
    refine v_loop0 [(21,21),(23,27),(98,150)] (fun j : Nat => [(98, .int .i64 j), (21, .bool (W2 j))]) (fun j => j ≤ OWN.length) (fun j => OWN.length - j) 0 (by rw [hW0]; (repeat (first | exact trivial | refine And.intro rfl ?_))) (Nat.zero_le _) ?_
    rintro j g3 hj
    simp only [sets]
    by_cases hjl : j < OWN.length
    · obtain ⟨i, hi, hid⟩ := hOm j hjl
      have hWj := hWn j hjl
      have hiL : i < L.length := by omega
      rw [hid, show ((3 + 3 * (i : Int)) / 3 - 1).toNat = i by omega] at hWj
      have hix : ((3 + 3 * (i : Int)) / 3 - 1).toNat = i := by omega
      obtain ⟨⟨kq, qx, qy, qz, qw⟩, hyq⟩ : ∃ y, compD (compK 1 (es.getD i ⟨0, []⟩).comps) = y := ⟨_, rfl⟩
      obtain ⟨zq, hzq⟩ : ∃ y, (compK 1 (es.getD i ⟨0, []⟩).comps).isSome = y := ⟨_, rfl⟩
      have hq : ∀ w, RdW w A L → Ret Tryd.prog 16 [.agg (Flat.enc (L.getD ((3 + 3 * (i : Int)) / 3 - 1).toNat Flat.dflt)).toArray, .int .u8 1].toArray w (Out w (.tuple #[.agg #[.int .u8 kq, .int .i64 qx, .int .i64 qy, .int .i64 qz, .int .i64 qw], .bool zq])) := fun w hr => by
        have hm := getD_mem (d := Flat.dflt) (show ((3 + 3 * (i : Int)) / 3 - 1).toNat < L.length by omega)
        have h := has_spec (L.getD ((3 + 3 * (i : Int)) / 3 - 1).toNat Flat.dflt) 1 w (hs.el _ hm) (hr.2 _ hm)
        rw [show (L.getD ((3 + 3 * (i : Int)) / 3 - 1).toNat Flat.dflt).e = es.getD i ⟨0, []⟩ by rw [hix, ents_at24 hiL, hL'], hyq, hzq] at h
        exact h
      have hnq := nearQ_eq (e := ⟨ei, cs⟩) hy1 hz1 hyq hzq
      have hhd := hid_eq (e := ⟨ei, cs⟩) ct.toNat hy5
      rw [hnq, hhd] at hWj
      have hha := hide_in (hv0.right _ hem) hy5
      obtain ⟨hpx, hpy⟩ := pos_in (hv0.right _ hem) hy1
      obtain ⟨hqx, hqy⟩ := pos_in (hv0.right _ (getD_mem hi)) hyq
      (repeat' ((fail_if_success (show VH _ _ (.seq (.region 23 _ _) _) _ _ _ _)); first | (show VH _ _ _ _ _ _ _; first | refine v_seq ?_ | refine r_seq ?_ | refine v_block ?_ | refine v_skip ?_ | refine v_cond_t rfl tbL ?_) | (show SH _ _ _ _ _ (_ :: _) _ _ _; first | refine asg evL ?_ | refine lssT rfl rfl omD ?_ | refine lin rfl (fun _ _ => rdX) omL ?_ | refine ix rfl rfl (by with_reducible rfl) (fun _ _ => rdX) (by rfl) omL omL ?_) | refine s_nil ?_ | refine kh_normal ?_))
      rw [hid]
      clear hWn hWl hOm hC hC1 hS hS1 hi1 hi2 hi3 hI2 hnx1 hid0
      (repeat' ((fail_if_success (show VH _ _ (.seq (.region 24 _ _) _) _ _ _ _)); first | (show VH _ _ _ _ _ _ _; first | refine v_seq ?_ | refine r_seq ?_) | (show SH _ _ _ _ _ (_ :: _) _ _ _; first | refine mov evL ?_ | refine asg evL ?_ | (show SH _ _ _ _ _ (⟨_, .binOp _ _ _ _ _, _, _, _, _⟩ :: _) _ _ _; first | refine sub rfl rfl inL ?_ | refine quo rfl rfl omL omL omL ?_) | (show SH _ _ _ _ _ (⟨_, .load _ _, _, _, _, _⟩ :: _) _ _ _; first | refine lbx rfl spL (by rfl) ?_ | refine lra rfl (fun _ _ => rdX) (by rfl) omL ?_ | refine lra rfl (fun _ _ => rdX) (by rfl) (by simp only [List.length_cons, List.length_nil]; omega) ?_) | (show SH _ _ _ _ _ (⟨_, .indexAddr _ _ _, _, _, _, _⟩ :: _) _ _ _; first | refine ixi rfl rfl (fun _ _ => rdX) (by rfl) omL omL omL ?_ | refine ixi rfl rfl (fun _ _ => rdX) (by rfl) omL (by first | omega | (simp only [List.length_cons, List.length_nil]; omega)) (by simp only [List.length_cons, List.length_nil]; omega) ?_) | (show SH _ _ _ _ _ (⟨_, .call ⟨.value (.func 16), _, _⟩, _, _, _, _⟩ :: _) _ _ _; refine cl (callee := .func 16) rfl (fun w hw => hq w (hw.kw spL)) rfl rfl ?_) | refine extr rfl rfl ?_ | refine fad rfl ?_ | refine ala rfl (fun b => ?_) | refine sta rfl rfl rfl spL (by rfl) (by rfl) (by rfl) kpL ?_) | refine s_nil ?_ | refine kh_normal ?_))
      (repeat' ((fail_if_success (show VH _ _ (.seq (.region 25 _ _) _) _ _ _ _)); first | (show VH _ _ _ _ _ _ _; first | refine v_seq ?_ | refine r_quiet hmix (by kernel_rfl) ?_) | (show SH _ _ _ _ _ (_ :: _) _ _ _; first | refine asg evL ?_ | refine sub rfl rfl inL ?_ | refine lbx rfl spL (by rfl) ?_ | refine ixA _ rfl rfl rfl omL ?_ | refine fad rfl ?_) | refine s_nil ?_ | refine kh_normal ?_))
      clear hnq hhd hyq hzq hq
      (repeat' (first | (show VH _ _ _ _ _ _ _; first | refine v_seq ?_ | refine r_seq ?_ | refine v_skip ?_ | refine v_cond_f rfl tbL ?_) | (show SH _ _ _ _ _ (_ :: _) _ _ _; first | (refine gif rfl rfl ?_; first | refine giTT tbL ?_ | refine giTF tbL ?_ | refine giT (fun h => ?_) (fun h => ?_)) | refine mov evL ?_ | refine add rfl rfl inL ?_ | refine pkt rfl tbL evL ?_ | refine pkf rfl tbL evL ?_ | refine neg rfl inL ?_) | refine s_nil ?_ | refine kh_normal ?_ | refine bh_normal ?_))
      · rw [‹z1 = true›, ‹zq = true›, Bool.true_and, Bool.true_and] at hWj
        obtain ⟨M, hM⟩ : ∃ M, max (px - qx) (max (0 - (px - qx)) (max (py - qy) (0 - (py - qy)))) = M := ⟨_, rfl⟩
        rw [hM] at hWj
        refine bmax4 rfl rfl rfl rfl M (by omega) ?_
        clear hM hpx hpy hqx hqy
        (repeat' (first | (show VH _ _ _ _ _ _ _; first | refine r_seq ?_ | refine v_skip ?_ | refine v_cond_f rfl tbL ?_) | (show SH _ _ _ _ _ (_ :: _) _ _ _; first | (refine gif rfl rfl ?_; first | refine giTT tbL ?_ | refine giTF tbL ?_ | refine giTd (fun h => ?_) (fun h => ?_)) | refine mov evL ?_ | (show SH _ _ _ _ _ (⟨_, .binOp _ _ _ _ _, _, _, _, _⟩ :: _) _ _ _; first | refine add rfl rfl inL ?_ | refine leq rfl rfl ?_) | refine lbx rfl spL (by rfl) ?_ | refine ixA _ rfl rfl rfl omL ?_ | refine pkt rfl tbL evL ?_ | refine pkf rfl tbL evL ?_ | refine fad rfl ?_) | refine s_nil ?_ | refine kh_normal ?_ | refine bh_normal ?_))
        · refine shrw rfl rfl (by omega) _ rfl ?_
          have hsh := hide_shift ha.toNat (by omega) ct.toNat (by omega)
          rw [show ((ha.toNat : Nat) : Int) = ha by omega] at hsh
          (repeat' ((refine gif rfl rfl ?_; refine giTT tbL ?_)))
          refine andw rfl rfl _ hsh ?_
          cases hb : ha.toNat.testBit ct.toNat
          · rw [hb] at hWj
            rw [if_neg (by decide)]
            (repeat' (first | (show VH _ _ _ _ _ _ _; first | refine r_seq ?_ | refine v_cond_t rfl tbL ?_) | (show SH _ _ _ _ _ (_ :: _) _ _ _; first | (refine gif rfl rfl ?_; refine giTT tbL ?_) | refine mov evL ?_ | refine asg evL ?_ | (show SH _ _ _ _ _ (⟨_, .binOp _ _ _ _ _, _, _, _, _⟩ :: _) _ _ _; first | refine eqlT rfl rfl omD ?_ | refine add rfl rfl inL ?_) | refine pkt rfl tbL evL ?_) | refine s_nil ?_ | refine kh_normal ?_ | refine bh_normal ?_))
            all_goals
              have e : W2 (j + 1) = true := by rw [hWj, decide_eq_true (by assumption)]; cases W2 j <;> rfl
              exact ⟨agL, j + 1, by rw [e]; (repeat (first | exact trivial | refine And.intro rfl ?_)), enL, by omega, by omega⟩
          · rw [hb] at hWj
            rw [if_pos rfl]
            (repeat' (first | (show VH _ _ _ _ _ _ _; first | refine r_seq ?_ | refine v_skip ?_ | refine v_cond_f rfl tbL ?_) | (show SH _ _ _ _ _ (_ :: _) _ _ _; first | (refine gif rfl rfl ?_; refine giTT tbL ?_) | refine mov evL ?_ | (show SH _ _ _ _ _ (⟨_, .binOp _ _ _ _ _, _, _, _, _⟩ :: _) _ _ _; first | refine eqlF rfl rfl omD ?_ | refine add rfl rfl inL ?_) | refine pkt rfl tbL evL ?_) | refine s_nil ?_ | refine kh_normal ?_ | refine bh_normal ?_))
            all_goals
              have e : W2 (j + 1) = W2 j := by rw [hWj]; simp
              exact ⟨agL, j + 1, by rw [e]; (repeat (first | exact trivial | refine And.intro rfl ?_)), enL, by omega, by omega⟩
        · have e : W2 (j + 1) = W2 j := by rw [hWj, decide_eq_false (by assumption)]; simp
          exact ⟨agL, j + 1, by rw [e]; (repeat (first | exact trivial | refine And.intro rfl ?_)), enL, by omega, by omega⟩
      · have e : W2 (j + 1) = W2 j := by rw [hWj, ‹z1 = true›, ‹zq = false›]; simp
        exact ⟨agL, j + 1, by rw [e]; (repeat (first | exact trivial | refine And.intro rfl ?_)), enL, by omega, by omega⟩
      · have e : W2 (j + 1) = W2 j := by rw [hWj, ‹z1 = false›]; simp
        exact ⟨agL, j + 1, by rw [e]; (repeat (first | exact trivial | refine And.intro rfl ?_)), enL, by omega, by omega⟩
    · have hje : j = OWN.length := by omega
      rw [hje, hWl]
      
      clear hWn hWl hW0 hOm hid0 hi1 hnx2
      obtain ⟨wt, hwt⟩ : ∃ wt, seesE ct.toNat (ptsE ct es) ⟨ei, cs⟩ = wt := ⟨_, rfl⟩
      rw [hwt] at hS1 hi2 hi3 hnx1 hI2 ⊢
      have hwl : (watL ei 5 es).length ≤ 8 := by
        unfold watL
        split
        · exact watN_len ei 5 es 8
        · exact Nat.zero_le _
      (repeat' ((fail_if_success (show VH _ _ (.seq (.region 29 _ _) _) _ _ _ _)); first | (show VH _ _ _ _ _ _ _; first | refine v_seq ?_ | refine r_seq ?_ | refine v_exit ?_ | refine v_cond_f rfl tbL ?_) | (show SH _ _ _ _ _ (_ :: _) _ _ _; first | refine mov evL ?_ | refine asg evL ?_ | refine lssF rfl rfl omD ?_ | (show SH _ _ _ _ _ (⟨_, .load _ _, _, _, _, _⟩ :: _) _ _ _; first | refine lbx rfl spL (by rfl) ?_ | refine lba rfl spL (by rfl) ?_) | (show SH _ _ _ _ _ (⟨_, .call ⟨.value (.func 19), _, _⟩, _, _, _, _⟩ :: _) _ _ _; refine cl (callee := .func 19) rfl (fun w hw => hS1 w (hG.ext hw.ext) (hw.kw spL)) rfl rfl ?_) | refine extr rfl rfl ?_ | refine fad rfl ?_) | refine s_nil ?_ | refine kh_normal ?_ | refine kh_exit ?_ | refine bh_exit ?_))
      (repeat' (first | (show VH _ _ _ _ _ _ _; first | refine v_seq ?_ | refine r_seq ?_) | (show SH _ _ _ _ _ (_ :: _) _ _ _; first | (show SH _ _ _ _ _ (⟨_, .load _ _, _, _, _, _⟩ :: _) _ _ _; first | refine lbx rfl spL (by rfl) ?_ | refine lba rfl spL (by rfl) ?_) | (show SH _ _ _ _ _ (⟨_, .call ⟨.value (.func 20), _, _⟩, _, _, _, _⟩ :: _) _ _ _; refine cp (callee := .func 20) rfl (fun w hw => hC1 w (hG.ext hw.ext) (hw.kw spL)) rfl rfl ?_) | refine fad rfl ?_)))
      rintro _ _ ⟨A3, c3, rfl, rfl⟩
      have hI3 := fun w hr => in_spec A3 (watL ei 5 es) c3 ct w (by omega) hr
      rw [hi3] at hI3
      (repeat' ((fail_if_success (show VH _ _ (.seq (.region 32 _ _) _) _ _ _ _)); first | (show VH _ _ _ _ _ _ _; first | refine v_seq ?_ | refine r_seq ?_ | refine v_ret ?_ | refine v_skip ?_ | refine v_cond_t rfl tbL ?_ | refine v_cond_f rfl tbL ?_) | (show SH _ _ _ _ _ (_ :: _) _ _ _; first | (refine gif rfl rfl ?_; first | refine giFF tbL ?_ | refine giFT tbL ?_ | refine giF (fun h => ?_) (fun h => ?_)) | refine mov evL ?_ | refine asg evL ?_ | (show SH _ _ _ _ _ (⟨_, .binOp _ _ _ _ _, _, _, _, _⟩ :: _) _ _ _; first | refine neqF rfl rfl omD ?_ | refine add rfl rfl inL ?_ | refine neb rfl rfl ?_) | refine lbx rfl spL (by rfl) ?_ | (show SH _ _ _ _ _ (⟨_, .call ⟨.value (.func 14), _, _⟩, _, _, _, _⟩ :: _) _ _ _; refine cl (callee := .func 14) rfl (fun w hw => hI2 w (hw.rd spL)) rfl rfl ?_) | (show SH _ _ _ _ _ (⟨_, .call ⟨.value (.func 14), _, _⟩, _, _, _, _⟩ :: _) _ _ _; refine cl (callee := .func 14) rfl (fun w hw => hI3 w (hw.rd spL)) rfl rfl ?_) | refine pkt rfl tbL evL ?_ | refine pkf rfl tbL evL ?_ | refine extr rfl rfl ?_ | refine fad rfl ?_) | refine s_nil ?_ | refine kh_normal ?_ | refine kh_ret ?_ | refine bh_ret ?_))
      · have hcs := cnt_le (seesE ct.toNat (ptsE ct es)) es k
        clear hI2 hI3 hS1 hi2 hi3 hS hC hC1
        (repeat' (first | (show VH _ _ _ _ _ _ _; first | refine v_seq ?_ | refine r_seq ?_ | refine v_skip ?_ | refine v_cond rfl (fun h => ?_) (fun h => ?_)) | (show SH _ _ _ _ _ (_ :: _) _ _ _; first | refine mov evL ?_ | refine asg evL ?_ | refine add rfl rfl inL ?_) | refine s_nil ?_ | refine kh_normal ?_ | refine bh_normal ?_))
        · exact ⟨agL, k + 1, by rw [hnx1, if_pos ‹wt = true›]; (repeat (first | exact trivial | refine And.intro rfl ?_)), enL, by omega, by omega⟩
        · exact ⟨agL, k + 1, by rw [hnx1, if_neg (by rw [‹wt = false›]; decide)]; (repeat (first | exact trivial | refine And.intro rfl ?_)), enL, by omega, by omega⟩
      · cases wt <;> simp at h
  · 
    have hke : k = es.length := by omega
    rw [hke, cnt_all, cnt_all]
    clear hid0 hcm0 hS hC
    have hupl : Rising (fun x : Int => x) ((es.filter (seesE ct.toNat (ptsE ct es))).map Ent1.id) := by
      have := visL_up hok
      rwa [visL_ok hok] at this
    obtain ⟨OWN, hOWN⟩ : ∃ o, (es.filter (ownsE ct)).map Ent1.id = o := ⟨_, rfl⟩
    obtain ⟨IDS, hIDS⟩ : ∃ o, (es.filter (seesE ct.toNat (ptsE ct es))).map Ent1.id = o := ⟨_, rfl⟩
    have e1 : (es.filter (seesE ct.toNat (ptsE ct es))).length = IDS.length := by rw [← hIDS, List.length_map]
    have e2 : (es.filter (ownsE ct)).length = OWN.length := by rw [← hOWN, List.length_map]
    have hIl : IDS.length ≤ 64 := by
      rw [← hIDS, List.length_map]
      have := List.length_filter_le (seesE ct.toNat (ptsE ct es)) es
      omega
    rw [hIDS] at hupl ⊢
    rw [hOWN, e1, e2]
    (repeat' (first | (show VH _ _ _ _ _ _ _; first | refine v_seq ?_ | refine r_seq ?_ | refine v_block ?_ | refine v_exit ?_ | refine v_cond_f rfl tbL ?_) | (show SH _ _ _ _ _ (_ :: _) _ _ _; first | refine asg evL ?_ | refine lssF rfl rfl omD ?_) | refine s_nil ?_ | refine kh_normal ?_ | refine kh_exit ?_ | refine bh_exit ?_))
    refine v_norm [(7,_),(9,_),(11,_),(12,_),(32,_)] heL (fun g => ?_)
    refine v_loop0 [(4,4),(32,32),(194,209)] (fun i : Nat => [(32, .int .i64 i)]) (fun i => 1 ≤ i ∧ i ≤ max 1 IDS.length) (fun i => IDS.length + 1 - i) 1 hsL ⟨by omega, by omega⟩ ?_
    rintro i g4 ⟨hi1, hi2⟩
    simp only [sets]
    by_cases hil : i < IDS.length
    · have hlt' : IDS.getD ((i : Int) - 1).toNat 0 < IDS.getD i 0 := by
        rw [show ((i : Int) - 1).toNat = i - 1 by omega]
        exact rising_at 0 hupl (show i - 1 < i by omega) hil
      (repeat' (first | (show VH _ _ _ _ _ _ _; first | refine v_seq ?_ | refine r_seq ?_ | refine r_quiet hmix (by kernel_rfl) ?_ | refine v_block ?_ | refine v_skip ?_ | refine v_cond_t rfl tbL ?_ | refine v_cond_f rfl tbL ?_) | (show SH _ _ _ _ _ (_ :: _) _ _ _; first | refine mov evL ?_ | refine asg evL ?_ | (show SH _ _ _ _ _ (⟨_, .binOp _ _ _ _ _, _, _, _, _⟩ :: _) _ _ _; first | refine lssT rfl rfl omD ?_ | refine geqF rfl rfl omD ?_ | refine add rfl rfl inL ?_ | refine sub rfl rfl inL ?_) | refine lin rfl (fun _ _ => rdX) omL ?_ | (show SH _ _ _ _ _ (⟨_, .indexAddr _ _ _, _, _, _, _⟩ :: _) _ _ _; first | refine ix rfl rfl (by with_reducible rfl) (fun _ _ => rdX) (by rfl) omL omL ?_ | refine ixi rfl rfl (fun _ _ => rdX) (by rfl) omL omL omL ?_ | refine ixi rfl rfl (fun _ _ => rdX) (by rfl) omL (by first | omega | (simp only [List.length_cons, List.length_nil]; omega)) (by simp only [List.length_cons, List.length_nil]; omega) ?_) | refine slen rfl ?_) | refine s_nil ?_ | refine kh_normal ?_ | refine bh_normal ?_))
      exact ⟨agL, i + 1, hsL, enL, ⟨by omega, by omega⟩, by omega⟩
    · (repeat' (first | (show VH _ _ _ _ _ _ _; first | refine v_seq ?_ | refine r_seq ?_ | refine v_ret ?_ | refine v_exit ?_ | refine v_cond_f rfl tbL ?_) | (show SH _ _ _ _ _ (_ :: _) _ _ _; first | (refine gif rfl rfl ?_; refine giTT tbL ?_) | refine mov evL ?_ | refine asg evL ?_ | (show SH _ _ _ _ _ (⟨_, .binOp _ _ _ _ _, _, _, _, _⟩ :: _) _ _ _; first | refine lssF rfl rfl omD ?_ | refine eqlT rfl rfl omD ?_) | refine slen rfl ?_ | refine pkt rfl tbL evL ?_) | refine s_nil ?_ | refine kh_normal ?_ | refine kh_exit ?_ | refine bh_exit ?_))
      exact rh1 rfl rfl ⟨rfl, rfl⟩ (ent_nil _)
end Go.Proofs.YtjefoecnciepmaaDoor
