/- InterestHides: an entity that is hidden from one. -/
import Derived.Test.YtjefoecnciepmaaDoorZTw
import Derived.Test.YtjefoecnciepmaaDoorZPh24
import Derived.Test.YtjefoecnciepmaaDoorZWy
import Derived.Test.YtjefoecnciepmaaDoorZMk
import Derived.Test.YtjefoecnciepmaaDoorZLj
import Derived.Test.YtjefoecnciepmaaDoorZLk
import Derived.Test.YtjefoecnciepmaaDoorZPk
set_option linter.unusedSimpArgs false
set_option linter.unusedVariables false
namespace Go.Proofs.YtjefoecnciepmaaDoor
open Go.Fw Go.RowKit
set_option maxHeartbeats 4000000 in
set_option maxRecDepth 100000 in
theorem hidesLaw (A0 : Option Addr) (c0 : Nat) (l0 : List Form) (a1 a2 : Int) (W : World) (hG : Glob W) (hr0 : Rd W A0 l0) (hb0 : ∀ f ∈ l0, f.Ok) (hl0 : l0.length ≤ maxLen) (lo1 : 0 ≤ a1) (hi1 : a1 ≤ 255) (lo2 : 0 ≤ a2) (hi2 : a2 ≤ 255) :
    Ret Tryd.prog 7 [.slice A0 l0.length c0, .int .u8 a1, .int .u8 a2].toArray W (Out W (.bool true)) := by
  have hM := fun w' (he : Ext W w') => made24_spec A0 l0 c0 w' hl0 (hr0.ext he) hb0
  unfold WorldR wv at hM
  have hv0 : ValidW 5 (madeL l0) := made_valid hb0 (by omega) (by omega)
  have hml : (madeL l0).length = min l0.length 20 := by unfold madeL; rw [madeN_len]
  have hat0 : ∀ k < (madeL l0).length, (madeL l0).getD k ⟨0, []⟩ = formE (3 + 3 * (k : Int)) (l0.getD k Flat.dflt) := fun k hk => by
    rw [hml] at hk
    exact madeN_at hk
  have hcm0 : ∀ e ∈ madeL l0, e.comps.length ≤ 10 := fun e he => made_comps he
  generalize madeL l0 = es at hM hv0 hml hat0 hcm0
  have hA := fun w (h : Ext W w) => awake24_spec w (hG.ext h)
  obtain ⟨ct, hct⟩ : ∃ ct, ct = 1 + a1 % 8 := ⟨_, rfl⟩
  have hc8 : 1 ≤ ct ∧ ct ≤ 8 := by omega
  have hn64 := hv0.len
  have hlm : l0.length ≤ 9223372036854775807 := hl0
  by_cases hne : es.length = 0
  · refine enterH Tryd.func7 rfl rfl Tryd.ntmps7 rfl (Wd.refl _) ?_
    (repeat' (first | (show VH _ _ _ _ _ _ _; first | refine v_seq ?_ | refine r_seq ?_ | refine v_skip ?_ | refine v_cond_f rfl tbL ?_) | (show SH _ _ _ _ _ (_ :: _) _ _ _; first | (show SH _ _ _ _ _ (⟨_, .move _, _, _, _, _⟩ :: _) _ _ _; refine mov evL ?_) | (show SH _ _ _ _ _ (⟨_, .assign _, _, _, _, _⟩ :: _) _ _ _; refine asg evL ?_) | (show SH _ _ _ _ _ (⟨_, .call ⟨.value (.func 9), _, _⟩, _, _, _, _⟩ :: _) _ _ _; refine cl (callee := .func 9) rfl (fun w hw => hA w hw.ext) rfl rfl ?_) | (show SH _ _ _ _ _ (⟨_, .call ⟨.value (.func 10), _, _⟩, _, _, _, _⟩ :: _) _ _ _; refine cp (callee := .func 10) rfl (fun w hw => hM w hw.ext) rfl rfl ?_) | refine bnoT rfl ?_) | refine s_nil ?_ | refine kh_normal ?_))
    rintro _ _ ⟨A, c, L, rfl, hL, rfl⟩
    have hLl : L.length = es.length := by rw [← ents_len, ← hL]; rfl
    clear hM hA hr0 hat0 hcm0 hb0
    (repeat' (first | (show VH _ _ _ _ _ _ _; first | refine v_seq ?_ | refine r_seq ?_ | refine v_ret ?_ | refine v_cond_t rfl tbL ?_) | (show SH _ _ _ _ _ (_ :: _) _ _ _; first | (show SH _ _ _ _ _ (⟨_, .move _, _, _, _, _⟩ :: _) _ _ _; refine mov evL ?_) | (show SH _ _ _ _ _ (⟨_, .assign _, _, _, _, _⟩ :: _) _ _ _; refine asg evL ?_) | (show SH _ _ _ _ _ (⟨_, .binOp .eql _ _ _ _, _, _, _, _⟩ :: _) _ _ _; refine eqlT rfl rfl omD ?_) | (show SH _ _ _ _ _ (⟨_, .binOp .add _ _ _ _, _, _, _, _⟩ :: _) _ _ _; refine add rfl rfl inL ?_) | (show SH _ _ _ _ _ (⟨_, .binOp .rem _ _ _ _, _, _, _, _⟩ :: _) _ _ _; refine rem rfl rfl omL omL ?_) | (show SH _ _ _ _ _ (⟨_, .load _ _, _, _, _, _⟩ :: _) _ _ _; refine lbx rfl spL (by rfl) ?_) | refine slen rfl ?_ | refine fad rfl ?_ | (show SH _ _ _ _ _ (⟨_, .convert _ _ _, _, _, _, _⟩ :: _) _ _ _; refine c64 rfl inL ?_) | refine ala rfl (fun b => ?_) | (show SH _ _ _ _ _ (⟨_, .store _ _ _, _, _, _, _⟩ :: _) _ _ _; refine sta rfl rfl rfl spL (by rfl) (by rfl) (by rfl) kpL ?_)) | refine s_nil ?_ | refine kh_normal ?_ | refine kh_ret ?_))
    exact rh1 rfl rfl ⟨rfl, rfl⟩ (ent_nil _)
  obtain ⟨kn, hkn⟩ : ∃ kn : Nat, a2 % (es.length : Int) = kn := ⟨(a2 % (es.length : Int)).toNat, by
    have := Int.emod_nonneg a2 (show (es.length : Int) ≠ 0 by omega)
    omega⟩
  have hkl : kn < es.length := by
    have := Int.emod_lt_of_pos a2 (show (0 : Int) < (es.length : Int) by omega)
    omega
  have hek := hat0 kn hkl
  have hk20 : kn < 20 := by omega
  have hk0 : kn < l0.length := by omega
  have hfo := hb0 _ (getD_mem (d := Flat.dflt) hk0)
  clear hat0 hb0
  refine enterH Tryd.func7 rfl rfl Tryd.ntmps7 rfl (Wd.refl _) ?_
  (repeat' (first | (show VH _ _ _ _ _ _ _; first | refine v_seq ?_ | refine r_seq ?_ | refine v_skip ?_ | refine v_cond_f rfl tbL ?_) | (show SH _ _ _ _ _ (_ :: _) _ _ _; first | (show SH _ _ _ _ _ (⟨_, .move _, _, _, _, _⟩ :: _) _ _ _; refine mov evL ?_) | (show SH _ _ _ _ _ (⟨_, .assign _, _, _, _, _⟩ :: _) _ _ _; refine asg evL ?_) | (show SH _ _ _ _ _ (⟨_, .call ⟨.value (.func 9), _, _⟩, _, _, _, _⟩ :: _) _ _ _; refine cl (callee := .func 9) rfl (fun w hw => hA w hw.ext) rfl rfl ?_) | (show SH _ _ _ _ _ (⟨_, .call ⟨.value (.func 10), _, _⟩, _, _, _, _⟩ :: _) _ _ _; refine cp (callee := .func 10) rfl (fun w hw => hM w hw.ext) rfl rfl ?_) | refine bnoT rfl ?_) | refine s_nil ?_ | refine kh_normal ?_))
  rintro _ _ ⟨A, c, L, rfl, hL, rfl⟩
  clear hM hA
  have hL' : ents L = es := hL
  obtain ⟨hs, hse⟩ := made_sz hL' hv0.len hcm0
  have hLl : L.length = es.length := by rw [← ents_len, hL']
  have hLk : (L.getD kn Flat.dflt).e.id = 3 + 3 * (kn : Int) := by rw [ents_at24 (by omega), hL', hek]; rfl
  have hcw := fun w hr => copyWorld_spec 5 A L c w (by omega) hse hr
  rw [hL'] at hcw
  unfold WorldR wv at hcw
  (repeat' ((fail_if_success (show VH _ _ (.seq (.region 4 _ _) _) _ _ _ _)); first | refine v_seq ?_ | (show SH _ _ _ _ _ (_ :: _) _ _ _; first | (show SH _ _ _ _ _ (⟨_, .move _, _, _, _, _⟩ :: _) _ _ _; refine mov evL ?_) | (show SH _ _ _ _ _ (⟨_, .assign _, _, _, _, _⟩ :: _) _ _ _; refine asg evL ?_) | (show SH _ _ _ _ _ (⟨_, .binOp .add _ _ _ _, _, _, _, _⟩ :: _) _ _ _; refine add rfl rfl inL ?_) | (show SH _ _ _ _ _ (⟨_, .binOp .rem _ _ _ _, _, _, _, _⟩ :: _) _ _ _; refine rem rfl rfl omL omL ?_) | (show SH _ _ _ _ _ (⟨_, .convert _ _ _, _, _, _, _⟩ :: _) _ _ _; refine c64 rfl inL ?_) | refine ala rfl (fun b => ?_) | (show SH _ _ _ _ _ (⟨_, .store _ _ _, _, _, _, _⟩ :: _) _ _ _; refine sta rfl rfl rfl spL (by rfl) (by rfl) (by rfl) kpL ?_)) | refine s_nil ?_ | refine kh_normal ?_))
  rw [← hct]
  refine VH.ent (G := [bx b 26 [.int .i64 5, .slice A L.length c], knw A L]) ?_ (Ent.trans (B := [bx b 26 [.int .i64 5, .slice A L.length c], orow 37 A c L, allH (L.map rowOf)]) enL (ent_cons Split.head (ent_knw (G := []))))
  revert b
  intro b7
  have hkn' : a2 % (L.length : Int) = kn := by rw [hLl]; exact hkn
  (repeat' ((fail_if_success (show VH _ _ (.seq (.region 7 _ _) _) _ _ _ _)); first | (show VH _ _ _ _ _ _ _; first | refine v_seq ?_ | refine r_seq ?_ | refine v_skip ?_ | refine v_cond_f rfl tbL ?_) | (show SH _ _ _ _ _ (_ :: _) _ _ _; first | (show SH _ _ _ _ _ (⟨_, .move _, _, _, _, _⟩ :: _) _ _ _; refine mov evL ?_) | (show SH _ _ _ _ _ (⟨_, .assign _, _, _, _, _⟩ :: _) _ _ _; refine asg evL ?_) | (show SH _ _ _ _ _ (⟨_, .binOp .eql _ _ _ _, _, _, _, _⟩ :: _) _ _ _; refine eqlF rfl rfl omD ?_) | (show SH _ _ _ _ _ (⟨_, .binOp .rem _ _ _ _, _, _, _, _⟩ :: _) _ _ _; refine rem rfl rfl omL omL ?_) | (show SH _ _ _ _ _ (⟨_, .load _ _, _, _, _, _⟩ :: _) _ _ _; refine lbx rfl spL (by rfl) ?_) | refine slen rfl ?_ | refine fad rfl ?_ | (show SH _ _ _ _ _ (⟨_, .convert _ _ _, _, _, _, _⟩ :: _) _ _ _; refine c64 rfl inL ?_)) | refine s_nil ?_ | refine kh_normal ?_))
  rw [hkn']
  (repeat' ((fail_if_success (show VH _ _ (.seq (.region 8 _ _) _) _ _ _ _)); first | (show VH _ _ _ _ _ _ _; first | refine v_seq ?_ | refine r_seq ?_) | (show SH _ _ _ _ _ (_ :: _) _ _ _; first | (show SH _ _ _ _ _ (⟨_, .move _, _, _, _, _⟩ :: _) _ _ _; refine mov evL ?_) | (show SH _ _ _ _ _ (⟨_, .assign _, _, _, _, _⟩ :: _) _ _ _; refine asg evL ?_) | (show SH _ _ _ _ _ (⟨_, .load _ _, _, _, _, _⟩ :: _) _ _ _; first | refine lbx rfl spL (by rfl) ?_ | refine lrf rfl (fun _ _ => rdY) (by rfl) omL (by rfl) ?_ | refine lrf rfl (fun _ _ => rdY) (by rfl) (by simp only [List.length_cons, List.length_nil]; omega) (by rfl) ?_) | (show SH _ _ _ _ _ (⟨_, .indexAddr _ _ _, _, _, _, _⟩ :: _) _ _ _; refine ix rfl rfl (by with_reducible rfl) (fun _ _ => rdY) (by rfl) omL omL ?_) | refine fad rfl ?_) | refine s_nil ?_ | refine kh_normal ?_))
  rw [hLk]
  obtain ⟨⟨fb, fx, fy, fo, fh, fn⟩, hf⟩ : ∃ f, l0.getD kn Flat.dflt = f := ⟨_, rfl⟩
  rw [hf] at hek hfo
  (repeat' ((fail_if_success (show VH _ _ (.seq (.region 9 _ _) _) _ _ _ _)); first | (show VH _ _ _ _ _ _ _; first | refine v_seq ?_ | refine r_seq ?_) | (show SH _ _ _ _ _ (_ :: _) _ _ _; first | (show SH _ _ _ _ _ (⟨_, .move _, _, _, _, _⟩ :: _) _ _ _; refine mov evL ?_) | (show SH _ _ _ _ _ (⟨_, .load _ _, _, _, _, _⟩ :: _) _ _ _; first | refine lra rfl (fun _ _ => rdY) (by rfl) omL ?_ | refine lra rfl (fun _ _ => rdY) (by rfl) (by simp only [List.length_cons, List.length_nil]; omega) ?_) | (show SH _ _ _ _ _ (⟨_, .indexAddr _ _ _, _, _, _, _⟩ :: _) _ _ _; refine ix rfl rfl (by with_reducible rfl) (fun _ _ => rdY) (by rfl) omL omL ?_) | refine ala rfl (fun b => ?_) | (show SH _ _ _ _ _ (⟨_, .store _ _ _, _, _, _, _⟩ :: _) _ _ _; refine sta rfl rfl rfl spL (by rfl) (by rfl) (by rfl) kpL ?_)) | refine s_nil ?_ | refine kh_normal ?_))
  rw [hf, show Flat.enc (⟨fb, fx, fy, fo, fh, fn⟩ : Form) = [.int .u16 fb, .int .i8 fx, .int .i8 fy, .int .u8 fo, .int .u8 fh, .int .u8 fn] from rfl]
  clear hf hLk hkn hkn'
  revert b
  intro b11
  (repeat' (first | (show VH _ _ _ _ _ _ _; first | refine v_seq ?_ | refine r_seq ?_) | (show SH _ _ _ _ _ (_ :: _) _ _ _; first | (show SH _ _ _ _ _ (⟨_, .load _ _, _, _, _, _⟩ :: _) _ _ _; refine lbx rfl spL (by rfl) ?_) | refine fad rfl ?_)))
  refine orw rfl rfl _ rfl ?_
  (repeat' ((fail_if_success (show VH _ _ (.seq (.region 10 _ _) _) _ _ _ _)); first | (show SH _ _ _ _ _ (_ :: _) _ _ _; first | refine fad rfl ?_ | (show SH _ _ _ _ _ (⟨_, .store _ _ _, _, _, _, _⟩ :: _) _ _ _; refine stb rfl rfl evL spL rfl rfl (by first | decide | exact Nat.zero_lt_succ _ | exact of_decide_eq_true rfl) kpL ?_)) | refine s_nil ?_ | refine kh_normal ?_))
  obtain ⟨cn, hcn⟩ : ∃ cn : Nat, ct = cn + 1 := ⟨(ct - 1).toNat, by omega⟩
  have hcn8 : cn < 8 := by omega
  obtain ⟨h0, hh0⟩ : ∃ h0 : Nat, fh = h0 := ⟨fh.toNat, by have := hfo.hide; simp only at this; omega⟩
  have hh256 : h0 < 256 := by have := hfo.hide; simp only at this; omega
  obtain ⟨g0, hg0⟩ : ∃ x, borK .u16 fb 16 = x := ⟨_, rfl⟩
  rw [hg0]
  refine v_seq ?_
  refine v_cut [(12, 13), (56, 59)] (fun s : (Nat × Option Addr × Nat × List EntP) × (Nat × Option Addr × Nat × List EntP) => [(12, .pointer (some ⟨s.1.1, 0, none⟩)), (13, .pointer (some ⟨s.2.1, 0, none⟩))]) (fun s => [bx s.1.1 26 [.int .i64 5, .slice s.1.2.1 s.1.2.2.2.length s.1.2.2.1], bx s.2.1 26 [.int .i64 5, .slice s.2.2.1 s.2.2.2.2.length s.2.2.2.1], orow 37 s.1.2.1 s.1.2.2.1 s.1.2.2.2, allH (s.1.2.2.2.map rowOf), orow 37 s.2.2.1 s.2.2.2.1 s.2.2.2.2, allH (s.2.2.2.2.map rowOf), bx b11 49 [.int .u16 g0, .int .i8 fx, .int .i8 fy, .int .u8 fo, .int .u8 fh, .int .u8 fn], bx b7 26 [.int .i64 5, .slice A L.length c], knw A L]) (fun s => s.1.2.2.2.map EntP.e = es ∧ s.2.2.2.2.map EntP.e = es) ?_ ?_ ent_vh
  · refine r_heldT [bx b7 26 [.int .i64 5, .slice A L.length c], knw A L] (tr [(0, true), (2, true)] (.fork3 1 (tr [] (.fork3 3 (tr [] (.fork 4 (tr [(5, false), (6, false), (7, false)] .nil) 5 (tr [(4, false), (6, false), (7, false)] .nil))) 4 (tr [] (.fork 3 (tr [(5, false), (6, false), (7, false)] .nil) 5 (tr [(3, false), (6, false), (7, false)] .nil))) 5 (tr [] (.fork 3 (tr [(4, false), (6, false), (7, false)] .nil) 4 (tr [(3, false), (6, false), (7, false)] .nil))))) 4 (tr [] (.fork 1 (tr [] (.fork 3 (tr [(5, false), (6, false), (7, false)] .nil) 5 (tr [(3, false), (6, false), (7, false)] .nil))) 5 (tr [(1, false), (3, false), (6, false), (7, false)] .nil))) 5 (tr [] (.fork 1 (tr [] (.fork 3 (tr [(4, false), (6, false), (7, false)] .nil) 4 (tr [(3, false), (6, false), (7, false)] .nil))) 4 (tr [(1, false), (3, false), (6, false), (7, false)] .nil))))) hmix (by kernel_rfl) enL ?_
    (repeat' (first | (show SH _ _ _ _ _ (_ :: _) _ _ _; first | (show SH _ _ _ _ _ (⟨_, .load _ _, _, _, _, _⟩ :: _) _ _ _; refine lba rfl spL (by rfl) ?_) | (show SH _ _ _ _ _ (⟨_, .call ⟨.value (.func 22), _, _⟩, _, _, _, _⟩ :: _) _ _ _; refine cp (callee := .func 22) rfl (fun w hw => hcw w (hw.kw spL)) rfl rfl ?_) | refine ala rfl (fun b => ?_)) | refine s_fork ?_ ?_ | refine s_fork3 ?_ ?_ ?_))
    all_goals
      rintro _ _ ⟨_, _, _, rfl, hLa, rfl⟩
      (repeat' (first | (show SH _ _ _ _ _ (_ :: _) _ _ _; first | (show SH _ _ _ _ _ (⟨_, .call ⟨.value (.func 22), _, _⟩, _, _, _, _⟩ :: _) _ _ _; refine cp (callee := .func 22) rfl (fun w hw => hcw w (hw.kw spL)) rfl rfl ?_) | refine ala rfl (fun b => ?_)) | refine s_fork ?_ ?_ | refine s_fork3 ?_ ?_ ?_))
    all_goals
      rintro _ _ ⟨_, _, _, rfl, hLb, rfl⟩
      (repeat' (first | (show SH _ _ _ _ _ (_ :: _) _ _ _; first | refine ala rfl (fun b => ?_) | (show SH _ _ _ _ _ (⟨_, .store _ _ _, _, _, _, _⟩ :: _) _ _ _; refine sta rfl rfl rfl spL (by rfl) (by rfl) (by rfl) kpL ?_)) | refine s_nil ?_ | refine s_fork ?_ ?_ | refine kh_normal ?_))
    all_goals
      refine ⟨agL, ((_, _, _, _), (_, _, _, _)), hsL, enL, ?_, ?_⟩
    all_goals assumption
  rintro ⟨⟨b12, Aa, ca, La⟩, ⟨b13, Ab, cb, Lb⟩⟩ g1 ⟨hLa, hLb⟩ _ rfl
  simp only at hLa hLb
  simp only [sets]
  
  clear hcw
  have hLal : La.length = es.length := by rw [← hLa, List.length_map]
  have hLbl : Lb.length = es.length := by rw [← hLb, List.length_map]
  (repeat' ((fail_if_success (show VH _ _ (.seq (.region 11 _ _) _) _ _ _ _)); first | (show VH _ _ _ _ _ _ _; first | refine v_seq ?_ | refine r_seq ?_ | refine r_quiet hmix (by kernel_rfl) ?_ | refine v_block ?_ | refine v_ret ?_ | refine v_skip ?_ | refine v_exit ?_ | refine v_label ?_ | refine v_cond_t rfl tbL ?_ | refine v_cond_f rfl tbL ?_ | refine v_cond_dec rfl (fun h => ?_) (fun h => ?_) | refine v_cond_ndec rfl (fun h => ?_) (fun h => ?_) | refine v_cond rfl (fun h => ?_) (fun h => ?_)) | (show SH _ _ _ _ _ (_ :: _) _ _ _; first | (show SH _ _ _ _ _ (⟨_, _, _, _, _, some _⟩ :: _) _ _ _; first | (refine gif rfl rfl ?_; first | refine giTT tbL ?_ | refine giTF tbL ?_ | refine giFF tbL ?_ | refine giFT tbL ?_ | refine giTd (fun h => ?_) (fun h => ?_) | refine giFd (fun h => ?_) (fun h => ?_) | refine giT (fun h => ?_) (fun h => ?_) | refine giF (fun h => ?_) (fun h => ?_)) | refine gu rfl rfl ?_ | refine grT rfl rfl tbL ?_ | refine grF rfl rfl tbL ?_) | (show SH _ _ _ _ _ (⟨_, .move _, _, _, _, _⟩ :: _) _ _ _; refine mov evL ?_) | (show SH _ _ _ _ _ (⟨_, .assign _, _, _, _, _⟩ :: _) _ _ _; refine asg evL ?_) | (show SH _ _ _ _ _ (⟨_, .binOp .lss _ _ _ _, _, _, _, _⟩ :: _) _ _ _; first | refine lssT rfl rfl omD ?_ | refine lssF rfl rfl omD ?_ | refine lss rfl rfl ?_) | (show SH _ _ _ _ _ (⟨_, .binOp .leq _ _ _ _, _, _, _, _⟩ :: _) _ _ _; first | refine leqT rfl rfl omD ?_ | refine leqF rfl rfl omD ?_ | refine leq rfl rfl ?_) | (show SH _ _ _ _ _ (⟨_, .binOp .eql _ _ _ _, _, _, _, _⟩ :: _) _ _ _; first | refine eqlT rfl rfl omD ?_ | refine eqlF rfl rfl omD ?_ | refine eql rfl rfl ?_ | refine eqn rfl rfl ?_ | refine eqb rfl rfl ?_) | (show SH _ _ _ _ _ (⟨_, .binOp .neq _ _ _ _, _, _, _, _⟩ :: _) _ _ _; first | refine neqT rfl rfl omD ?_ | refine neqF rfl rfl omD ?_ | refine neq rfl rfl ?_ | refine nen rfl rfl ?_ | refine neb rfl rfl ?_) | (show SH _ _ _ _ _ (⟨_, .binOp .add _ _ _ _, _, _, _, _⟩ :: _) _ _ _; refine add rfl rfl inL ?_) | (show SH _ _ _ _ _ (⟨_, .binOp .sub _ _ _ _, _, _, _, _⟩ :: _) _ _ _; refine sub rfl rfl inL ?_) | (show SH _ _ _ _ _ (⟨_, .binOp .rem _ _ _ _, _, _, _, _⟩ :: _) _ _ _; refine rem rfl rfl omL omL ?_) | (show SH _ _ _ _ _ (⟨_, .load _ _, _, _, _, _⟩ :: _) _ _ _; first | refine lin rfl (fun _ _ => rdY) omL ?_ | refine lbx rfl spL (by rfl) ?_ | refine lba rfl spL (by rfl) ?_ | refine lbi rfl spL omL ?_ | refine lr1 rfl (fun _ _ => rdY) (by rfl) omL (by rfl) ?_ | refine lra rfl (fun _ _ => rdY) (by rfl) omL ?_ | refine lrf rfl (fun _ _ => rdY) (by rfl) omL (by rfl) ?_ | refine lcell rfl (fun w hw => hw.ext.cell (by assumption)) ?_ | refine lrs rfl (fun _ _ => rdY) (by rfl) omL (by rfl) (by rfl) ?_ | refine lbs rfl spL (by rfl) (by rfl) ?_ | refine lca rfl (fun _ _ => rdY) (by rfl) ?_ | refine lcs rfl (fun _ _ => rdY) (by rfl) ?_ | refine lcf rfl (fun _ _ => rdY) (by rfl) ?_ | refine lrf rfl (fun _ _ => rdY) (by rfl) (by simp only [List.length_cons, List.length_nil]; omega) (by rfl) ?_ | refine lra rfl (fun _ _ => rdY) (by rfl) (by simp only [List.length_cons, List.length_nil]; omega) ?_) | (show SH _ _ _ _ _ (⟨_, .indexAddr _ _ _, _, _, _, _⟩ :: _) _ _ _; first | refine ix rfl rfl (by with_reducible rfl) (fun _ _ => rdY) (by rfl) omL omL ?_ | refine ixi rfl rfl (fun _ _ => rdY) (by rfl) omL omL omL ?_ | refine ixb rfl rfl omL ?_ | refine ixq rfl rfl (by assumption) omL omL ?_ | refine ixA _ rfl rfl rfl omL ?_ | refine ixi rfl rfl (fun _ _ => rdY) (by rfl) omL (by first | omega | (simp only [List.length_cons, List.length_nil]; omega)) (by simp only [List.length_cons, List.length_nil]; omega) ?_) | refine slen rfl ?_ | (show SH _ _ _ _ _ (⟨_, .unOp .not _ _, _, _, _, _⟩ :: _) _ _ _; first | refine bnoT rfl ?_ | refine bnoF rfl ?_ | refine bnot rfl ?_) | (show SH _ _ _ _ _ (⟨_, .pick _ _ _, _, _, _, _⟩ :: _) _ _ _; first | refine pkt rfl tbL evL ?_ | refine pkf rfl tbL evL ?_) | refine extr rfl rfl ?_ | refine fad rfl ?_ | (show SH _ _ _ _ _ (⟨_, .convert _ _ _, _, _, _, _⟩ :: _) _ _ _; first | refine c64 rfl inL ?_ | refine cu64 rfl omL omL ?_ | refine cnv rfl ?_) | (show SH _ _ _ _ _ (⟨_, .alloc _, _, _, _, _⟩ :: _) _ _ _; first | refine al1 rfl (fun b => ?_) | refine ala rfl (fun b => ?_)) | (show SH _ _ _ _ _ (⟨_, .store _ _ _, _, _, _, _⟩ :: _) _ _ _; first | refine stb rfl rfl evL spL rfl rfl (by first | decide | exact Nat.zero_lt_succ _ | exact of_decide_eq_true rfl) kpL ?_ | refine sta rfl rfl rfl spL (by rfl) (by rfl) (by rfl) kpL ?_ | refine sti rfl rfl rfl spL omL kpL ?_ | refine sbi rfl rfl rfl spL omL kpL ?_ | refine sbs rfl rfl evL spL (by rfl) (by rfl) (of_decide_eq_true rfl) kpL ?_) | (show SH _ _ _ _ _ (⟨_, .buildSlice _ _ _, _, _, _, _⟩ :: _) _ _ _; refine bsl (α := Int) rfl rfl (by repeat (first | exact Vals.nil | (apply Vals.cons; rfl))) rfl (by rfl) (by decide) (fun b => ?_))) | refine s_nil ?_ | refine s_fork ?_ ?_ | refine s_fork3 ?_ ?_ ?_ | refine kh_normal ?_ | refine kh_ret ?_ | refine kh_exit ?_ | refine bh_normal ?_ | refine bh_ret ?_ | refine bh_exit ?_ | refine bh_exit_ne rfl ?_))
  have hsh : IntKind.u8.wrap (1 * 2 ^ (min (ct - 1).toNat IntKind.u8.bits)) = 2 ^ cn := by
    rw [show (ct - 1 : Int) = ((cn : Nat) : Int) by omega]
    exact bit_shl cn hcn8
  refine v_seq ?_
  refine r_heldT [] (tr [(0, true), (2, true), (3, true), (4, true), (1, false), (5, false), (6, false), (7, false)] .nil) hmix (by kernel_rfl) (ent_nil _) ?_
  (repeat' ((show SH _ _ _ _ _ (_ :: _) _ _ _; first | (show SH _ _ _ _ _ (⟨_, .move _, _, _, _, _⟩ :: _) _ _ _; refine mov evL ?_) | (show SH _ _ _ _ _ (⟨_, .binOp .sub _ _ _ _, _, _, _, _⟩ :: _) _ _ _; refine sub rfl rfl inL ?_) | refine fad rfl ?_)))
  refine shlw rfl rfl (by omega) _ hsh ?_
  (repeat' ((show SH _ _ _ _ _ (_ :: _) _ _ _; (show SH _ _ _ _ _ (⟨_, .load _ _, _, _, _, _⟩ :: _) _ _ _; refine lbx rfl spL (by rfl) ?_))))
  refine clrw rfl rfl _ rfl ?_
  (repeat' ((fail_if_success (show VH _ _ (.seq (.region 12 _ _) _) _ _ _ _)); first | (show SH _ _ _ _ _ (_ :: _) _ _ _; first | refine fad rfl ?_ | (show SH _ _ _ _ _ (⟨_, .store _ _ _, _, _, _, _⟩ :: _) _ _ _; refine stb rfl rfl evL spL rfl rfl (by first | decide | exact Nat.zero_lt_succ _ | exact of_decide_eq_true rfl) kpL ?_)) | refine s_nil ?_ | refine kh_normal ?_))
  obtain ⟨x1, hx1⟩ : ∃ x, bclrK .u8 ((h0 : Nat) : Int) (2 ^ cn) = x := ⟨_, rfl⟩
  rw [hh0, hx1]
  have hx1' := bclr8_in h0 hh256 cn hcn8
  rw [hx1] at hx1'
  have hF1 : (⟨g0, fx, fy, fo, x1, fn⟩ : Form) = hideF ⟨fb, fx, fy, fo, fh, fn⟩ x1 := by unfold hideF; rw [hg0]
  have hE1 := fun w => entity24_spec (3 + 3 * (kn : Int)) ⟨g0, fx, fy, fo, x1, fn⟩ (by rw [hF1]; exact hideF_ok hfo hx1') w
  unfold OwnR at hE1
  rw [show Flat.enc (⟨g0, fx, fy, fo, x1, fn⟩ : Form) = [.int .u16 g0, .int .i8 fx, .int .i8 fy, .int .u8 fo, .int .u8 x1, .int .u8 fn] from rfl, hF1] at hE1
  obtain ⟨e1, he1⟩ : ∃ e, formE (3 + 3 * (kn : Int)) (hideF ⟨fb, fx, fy, fo, fh, fn⟩ x1) = e := ⟨_, rfl⟩
  rw [he1] at hE1
  
  refine v_seq ?_
  refine r_heldT [bx b12 26 [.int .i64 5, .slice Aa La.length ca], bx b11 49 [.int .u16 g0, .int .i8 fx, .int .i8 fy, .int .u8 fo, .int .u8 x1, .int .u8 fn]] (tr [(0, true), (1, true), (2, true), (3, true), (4, false), (5, false), (6, false), (7, false)] .nil) hmix (by kernel_rfl) enL ?_
  (repeat' ((show SH _ _ _ _ _ (_ :: _) _ _ _; first | (show SH _ _ _ _ _ (⟨_, .move _, _, _, _, _⟩ :: _) _ _ _; refine mov evL ?_) | (show SH _ _ _ _ _ (⟨_, .load _ _, _, _, _, _⟩ :: _) _ _ _; first | refine lbx rfl spL (by rfl) ?_ | refine lba rfl spL (by rfl) ?_) | (show SH _ _ _ _ _ (⟨_, .call ⟨.value (.func 17), _, _⟩, _, _, _, _⟩ :: _) _ _ _; refine cp (callee := .func 17) rfl (fun w hw => hE1 w) rfl rfl ?_) | refine fad rfl ?_)))
  rintro _ _ ⟨A5, c5, rfl, rfl⟩
  (repeat' ((show SH _ _ _ _ _ (_ :: _) _ _ _; (show SH _ _ _ _ _ (⟨_, .indexAddr _ _ _, _, _, _, _⟩ :: _) _ _ _; refine ix rfl rfl (by with_reducible rfl) (fun _ _ => rdY) (by rfl) omL omL ?_))))
  refine stv (x' := (⟨e1, A5, c5⟩ : EntP)) (i := kn) (l := La) rfl rfl rfl spL rfl (by omega) rfl enL ?_
  (repeat' ((fail_if_success (show VH _ _ (.seq (.region 13 _ _) _) _ _ _ _)); first | refine s_nil ?_ | refine kh_normal ?_))
  
  refine v_seq ?_
  refine r_heldT [] (tr [(0, true), (2, true), (3, true), (4, true), (1, false), (5, false), (6, false), (7, false)] .nil) hmix (by kernel_rfl) (ent_nil _) ?_
  (repeat' ((show SH _ _ _ _ _ (_ :: _) _ _ _; first | (show SH _ _ _ _ _ (⟨_, .move _, _, _, _, _⟩ :: _) _ _ _; refine mov evL ?_) | (show SH _ _ _ _ _ (⟨_, .binOp .sub _ _ _ _, _, _, _, _⟩ :: _) _ _ _; refine sub rfl rfl inL ?_) | refine fad rfl ?_)))
  refine shlw rfl rfl (by omega) _ hsh ?_
  (repeat' ((show SH _ _ _ _ _ (_ :: _) _ _ _; (show SH _ _ _ _ _ (⟨_, .load _ _, _, _, _, _⟩ :: _) _ _ _; refine lbx rfl spL (by rfl) ?_))))
  refine orw rfl rfl _ rfl ?_
  (repeat' ((fail_if_success (show VH _ _ (.seq (.region 14 _ _) _) _ _ _ _)); first | (show SH _ _ _ _ _ (_ :: _) _ _ _; first | refine fad rfl ?_ | (show SH _ _ _ _ _ (⟨_, .store _ _ _, _, _, _, _⟩ :: _) _ _ _; refine stb rfl rfl evL spL rfl rfl (by first | decide | exact Nat.zero_lt_succ _ | exact of_decide_eq_true rfl) kpL ?_)) | refine s_nil ?_ | refine kh_normal ?_))
  obtain ⟨xn, hxn⟩ : ∃ x : Nat, x1 = x := ⟨x1.toNat, by omega⟩
  obtain ⟨x2, hx2⟩ : ∃ x, borK .u8 ((xn : Nat) : Int) (2 ^ cn) = x := ⟨_, rfl⟩
  have hx2' := bor8_in xn (by omega) cn hcn8
  rw [hxn, hx2]
  rw [hx2] at hx2'
  have hF2 : (⟨g0, fx, fy, fo, x2, fn⟩ : Form) = hideF ⟨fb, fx, fy, fo, fh, fn⟩ x2 := by unfold hideF; rw [hg0]
  have hE2 := fun w => entity24_spec (3 + 3 * (kn : Int)) ⟨g0, fx, fy, fo, x2, fn⟩ (by rw [hF2]; exact hideF_ok hfo hx2') w
  unfold OwnR at hE2
  rw [show Flat.enc (⟨g0, fx, fy, fo, x2, fn⟩ : Form) = [.int .u16 g0, .int .i8 fx, .int .i8 fy, .int .u8 fo, .int .u8 x2, .int .u8 fn] from rfl, hF2] at hE2
  obtain ⟨e2, he2⟩ : ∃ e, formE (3 + 3 * (kn : Int)) (hideF ⟨fb, fx, fy, fo, fh, fn⟩ x2) = e := ⟨_, rfl⟩
  rw [he2] at hE2
  
  refine v_seq ?_
  refine r_heldT [bx b13 26 [.int .i64 5, .slice Ab Lb.length cb], bx b11 49 [.int .u16 g0, .int .i8 fx, .int .i8 fy, .int .u8 fo, .int .u8 x2, .int .u8 fn]] (tr [(0, true), (1, true), (2, true), (3, true), (4, false), (5, false), (6, false), (7, false)] .nil) hmix (by kernel_rfl) enL ?_
  (repeat' ((show SH _ _ _ _ _ (_ :: _) _ _ _; first | (show SH _ _ _ _ _ (⟨_, .move _, _, _, _, _⟩ :: _) _ _ _; refine mov evL ?_) | (show SH _ _ _ _ _ (⟨_, .load _ _, _, _, _, _⟩ :: _) _ _ _; first | refine lbx rfl spL (by rfl) ?_ | refine lba rfl spL (by rfl) ?_) | (show SH _ _ _ _ _ (⟨_, .call ⟨.value (.func 17), _, _⟩, _, _, _, _⟩ :: _) _ _ _; refine cp (callee := .func 17) rfl (fun w hw => hE2 w) rfl rfl ?_) | refine fad rfl ?_)))
  rintro _ _ ⟨A6, c6, rfl, rfl⟩
  (repeat' ((show SH _ _ _ _ _ (_ :: _) _ _ _; (show SH _ _ _ _ _ (⟨_, .indexAddr _ _ _, _, _, _, _⟩ :: _) _ _ _; refine ix rfl rfl (by with_reducible rfl) (fun _ _ => rdY) (by rfl) omL omL ?_))))
  refine stv (x' := (⟨e2, A6, c6⟩ : EntP)) (i := kn) (l := Lb) rfl rfl rfl spL rfl (by omega) rfl enL ?_
  (repeat' ((fail_if_success (show VH _ _ (.seq (.region 15 _ _) _) _ _ _ _)); first | refine v_seq ?_ | refine s_nil ?_ | refine kh_normal ?_))
  
  clear hE1 hE2 hsh
  have hY1 : ents (La.set kn ⟨e1, A5, c5⟩) = es.set kn e1 := by unfold ents; rw [List.map_set, hLa]
  have hY2 : ents (Lb.set kn ⟨e2, A6, c6⟩) = es.set kn e2 := by unfold ents; rw [List.map_set, hLb]
  have v1 : ValidW 5 (es.set kn e1) := by
    rw [← he1]
    exact set_valid hv0 hkl (by rw [hek]; rfl) (formE_right (hideF_ok hfo hx1') (by omega))
  have v2 : ValidW 5 (es.set kn e2) := by
    rw [← he2]
    exact set_valid hv0 hkl (by rw [hek]; rfl) (formE_right (hideF_ok hfo hx2') (by omega))
  have hl1 : e1.comps.length ≤ 10 := by rw [← he1]; exact formN_len _ 10
  have hl2 : e2.comps.length ≤ 10 := by rw [← he2]; exact formN_len _ 10
  have hsz : ∀ {e : Ent1}, e.comps.length ≤ 10 → ∀ x ∈ es.set kn e, x.comps.length ≤ 10 := fun {e} he x hx => by
    rcases List.mem_or_eq_of_mem_set hx with h | h
    · exact hcm0 x h
    · rw [h]; exact he
  obtain ⟨hsa, _⟩ := made_sz hY1 v1.len (hsz hl1)
  obtain ⟨hsb, _⟩ := made_sz hY2 v2.len (hsz hl2)
  have hbit1 := bclr8_bit h0 hh256 cn hcn8
  rw [hx1] at hbit1
  have hbit2 := bor8_bit xn (by omega) cn hcn8
  rw [hx2, ← hxn] at hbit2
  have hown : ∀ who, ownsE who e2 = ownsE who (formE (3 + 3 * (kn : Int)) ⟨fb, fx, fy, fo, fh, fn⟩) := fun who => by rw [← he2]; exact hide_owns hfo who
  have hem2 : e2 ∈ es.set kn e2 := List.mem_set (by omega) e2
  have hid2 : e2.id = 3 + 3 * (kn : Int) := by rw [← he2]; rfl
  have hsm : ∀ who : Int, 1 ≤ who ∧ who ≤ 8 → (who ≠ ct ∨ ownsE who e2 = true) → visL who 5 (es.set kn e1) = visL who 5 (es.set kn e2) := fun who hw h => by
    rw [← he1, ← he2]
    refine hides_same hv0 hkl hek hfo hx1' hx2' hw ?_
    rcases h with h | h
    · left
      rw [hbit2 _ (by omega), hbit1 _ (by omega)]
      have e : ¬ who.toNat = cn + 1 := by omega
      simp [e]
    · right
      rw [← hown]; exact h
  have hls : ∀ who : Int, 1 ≤ who ∧ who ≤ 8 → who = ct → ownsE who e2 = false → (visL who 5 (es.set kn e1)).filter (fun x => decide (x ≠ 3 + 3 * (kn : Int))) = visL who 5 (es.set kn e2) := fun who hw h ho => by
    rw [← he1, ← he2]
    refine hides_less hv0 hkl hek hfo hx1' hx2' hw ?_ (by rw [← hown]; exact ho)
    rw [hbit2 _ (by omega)]
    have e : who.toNat = cn + 1 := by omega
    simp [e]
  obtain ⟨es1, hes1⟩ : ∃ x, es.set kn e1 = x := ⟨_, rfl⟩
  obtain ⟨es2, hes2⟩ : ∃ x, es.set kn e2 = x := ⟨_, rfl⟩
  obtain ⟨Ya, hYa⟩ : ∃ x, La.set kn ⟨e1, A5, c5⟩ = x := ⟨_, rfl⟩
  obtain ⟨Yb, hYb⟩ : ∃ x, Lb.set kn ⟨e2, A6, c6⟩ = x := ⟨_, rfl⟩
  have hYal : La.length = Ya.length := by rw [← hYa, List.length_set]
  have hYbl : Lb.length = Yb.length := by rw [← hYb, List.length_set]
  refine VH.ent (G := [bx b12 26 [.int .i64 5, .slice Aa Ya.length ca], knw Aa Ya, bx b13 26 [.int .i64 5, .slice Ab Yb.length cb], knw Ab Yb]) ?_ (by
    have k1 := ent_knw_set (e := 37) (ec := 42) (A := Aa) (c := ca) (k := kn) (l := La) (y := ⟨e1, A5, c5⟩) (G := [bx b13 26 [.int .i64 5, .slice Ab Yb.length cb], knw Ab Yb]) (by omega)
    have k2 := ent_knw_set (e := 37) (ec := 42) (A := Ab) (c := cb) (k := kn) (l := Lb) (y := ⟨e2, A6, c6⟩) (G := []) (by omega)
    rw [hYa] at k1 ⊢
    rw [hYb] at k2 ⊢
    rw [← hYal, ← hYbl] at *
    exact ent_cons spL ((ent_cons spL (ent_cons spL (ent_cons spL (ent_cons spL (Ent.trans enL k2))))).trans k1))
  rw [hYa] at hY1 hsa
  rw [hYb] at hY2 hsb
  rw [hes1] at hY1 v1 hsm hls
  rw [hes2] at hY2 v2 hsm hls hem2
  clear hYa hYb hes1 hes2 hbit1 hbit2 hek hLa hLb
  have hvl : ∀ (who : Int) es', List.length es' ≤ 64 → (visL who 5 es').length ≤ 64 ∧ (ownL who 5 es').length ≤ 64 := fun who es' h => by
    unfold visL ownL
    split
    · rw [List.length_map, List.length_map]
      have h1 := List.length_filter_le (seesE who.toNat (ptsE who es')) es'
      have h2 := List.length_filter_le (ownsE who) es'
      omega
    · exact ⟨Nat.zero_le _, Nat.zero_le _⟩
  have hv1l := v1.len
  have hv2l := v2.len
  clear hx1' hx2' hcm0 hfo hF1 hF2 he1 he2 hown hsz hl1 hl2 hYal hYbl
  clear lo1 hi1 lo2 hi2 hlm hml hct hne hk20 hk0 hkl hLl hcn hcn8 hh0 hh256 hLal hLbl hxn hr0 hg0 hx1 hx2 hn64 hL hL' hs hse hv0 hl0
  
  (repeat' (first | (show VH _ _ _ _ _ _ _; first | refine v_seq ?_ | refine r_seq ?_ | refine v_block ?_) | (show SH _ _ _ _ _ (_ :: _) _ _ _; (show SH _ _ _ _ _ (⟨_, .assign _, _, _, _, _⟩ :: _) _ _ _; refine asg evL ?_)) | refine s_nil ?_ | refine kh_normal ?_))
  refine v_norm [(6,_),(8,_),(10,_),(12,_),(13,_),(14,_)] heL (fun g => ?_)
  refine v_loop0 [(6,6),(14,21),(23,23),(88,145)] (fun i : Nat => [(14, .int .i64 i)]) (fun i => 1 ≤ i ∧ i ≤ 9) (fun i => 9 - i) 1 hsL (by omega) ?_
  rintro i g2 ⟨hi1, hi9⟩
  simp only [sets]
  by_cases hi8 : i ≤ 8
  · have hwho : 1 ≤ (i : Int) ∧ (i : Int) ≤ 8 := by omega
    have h1 := fun w hG hr => visI_spec (i : Int) 5 Aa Ya ca w hG hsa hr
    have h2 := fun w hG hr => visI_spec (i : Int) 5 Ab Yb cb w hG hsb hr
    have h3 := fun w hG hr => ownI_spec (i : Int) 5 Ab Yb cb w hG hsb hr
    rw [hY1, errI_ok ⟨hwho, v1⟩] at h1
    rw [hY2, errI_ok ⟨hwho, v2⟩] at h2 h3
    unfold wv at h1 h2 h3
    have hin := filt_in v2.up (ownsE (i : Int)) hem2
    rw [← ownL_ok ⟨hwho, v2⟩, hid2] at hin
    have hsm' := hsm i hwho
    have hls' := hls i hwho
    obtain ⟨hl1, _⟩ := hvl (i : Int) es1 hv1l
    obtain ⟨hl2, hl3⟩ := hvl (i : Int) es2 hv2l
    obtain ⟨VA, hVA⟩ : ∃ x, visL (i : Int) 5 es1 = x := ⟨_, rfl⟩
    obtain ⟨VB, hVB⟩ : ∃ x, visL (i : Int) 5 es2 = x := ⟨_, rfl⟩
    obtain ⟨OL, hOL⟩ : ∃ x, ownL (i : Int) 5 es2 = x := ⟨_, rfl⟩
    obtain ⟨ob, hob⟩ : ∃ x, ownsE (i : Int) e2 = x := ⟨_, rfl⟩
    rw [hVA] at h1 hsm' hls' hl1
    rw [hVB] at h2 hsm' hls' hl2
    rw [hOL] at h3 hin hl3
    rw [hob] at hin hsm' hls'
    clear hsm hls hvl
    (repeat' (first | (show VH _ _ _ _ _ _ _; first | refine v_seq ?_ | refine r_seq ?_ | refine v_block ?_ | refine v_skip ?_ | refine v_cond_t rfl tbL ?_) | (show SH _ _ _ _ _ (_ :: _) _ _ _; first | (show SH _ _ _ _ _ (⟨_, .move _, _, _, _, _⟩ :: _) _ _ _; refine mov evL ?_) | (show SH _ _ _ _ _ (⟨_, .binOp .leq _ _ _ _, _, _, _, _⟩ :: _) _ _ _; refine leqT rfl rfl omD ?_) | (show SH _ _ _ _ _ (⟨_, .load _ _, _, _, _, _⟩ :: _) _ _ _; refine lba rfl spL (by rfl) ?_) | (show SH _ _ _ _ _ (⟨_, .call ⟨.value (.func 11), _, _⟩, _, _, _, _⟩ :: _) _ _ _; refine cp (callee := .func 11) rfl (fun w hw => h1 w (hG.ext hw.ext) (hw.kw spL)) rfl rfl ?_)) | refine s_nil ?_ | refine kh_normal ?_))
    rintro _ _ ⟨A7, c7, rfl, rfl⟩
    (repeat' (first | (show VH _ _ _ _ _ _ _; first | refine v_seq ?_ | refine r_seq ?_) | (show SH _ _ _ _ _ (_ :: _) _ _ _; first | (show SH _ _ _ _ _ (⟨_, .move _, _, _, _, _⟩ :: _) _ _ _; refine mov evL ?_) | (show SH _ _ _ _ _ (⟨_, .assign _, _, _, _, _⟩ :: _) _ _ _; refine asg evL ?_) | (show SH _ _ _ _ _ (⟨_, .load _ _, _, _, _, _⟩ :: _) _ _ _; refine lba rfl spL (by rfl) ?_) | (show SH _ _ _ _ _ (⟨_, .call ⟨.value (.func 11), _, _⟩, _, _, _, _⟩ :: _) _ _ _; refine cp (callee := .func 11) rfl (fun w hw => h2 w (hG.ext hw.ext) (hw.kw spL)) rfl rfl ?_) | refine extr rfl rfl ?_) | refine s_nil ?_ | refine kh_normal ?_))
    rintro _ _ ⟨A8, c8, rfl, rfl⟩
    (repeat' (first | (show VH _ _ _ _ _ _ _; first | refine v_seq ?_ | refine r_seq ?_) | (show SH _ _ _ _ _ (_ :: _) _ _ _; first | (show SH _ _ _ _ _ (⟨_, .move _, _, _, _, _⟩ :: _) _ _ _; refine mov evL ?_) | (show SH _ _ _ _ _ (⟨_, .assign _, _, _, _, _⟩ :: _) _ _ _; refine asg evL ?_) | (show SH _ _ _ _ _ (⟨_, .load _ _, _, _, _, _⟩ :: _) _ _ _; refine lba rfl spL (by rfl) ?_) | (show SH _ _ _ _ _ (⟨_, .call ⟨.value (.func 18), _, _⟩, _, _, _, _⟩ :: _) _ _ _; refine cp (callee := .func 18) rfl (fun w hw => h3 w (hG.ext hw.ext) (hw.kw spL)) rfl rfl ?_) | refine extr rfl rfl ?_) | refine s_nil ?_ | refine kh_normal ?_))
    rintro _ _ ⟨A9, c9, rfl, rfl⟩
    clear h1 h2 h3
    have hI := fun w hr => in_spec A9 OL c9 (3 + 3 * (kn : Int)) w (by omega) hr
    rw [hin] at hI
    by_cases hcase : (i : Int) ≠ ct ∨ ob = true
    · have hS := fun w h1 h2 => sameInts_spec A7 A8 VA VB c7 c8 w h1 h2 (by omega)
      rw [decide_eq_true (hsm' hcase)] at hS
      clear hsm' hls'
      by_cases hic : (i : Int) = ct
      · have hob1 : ob = true := hcase.resolve_left (fun h => h hic)
        rw [hob1] at hI
        clear hcase
        (repeat' (first | (show VH _ _ _ _ _ _ _; first | refine v_seq ?_ | refine r_seq ?_ | refine v_skip ?_ | refine v_exit ?_ | refine v_cond_t rfl tbL ?_ | refine v_cond_f rfl tbL ?_) | (show SH _ _ _ _ _ (_ :: _) _ _ _; first | (show SH _ _ _ _ _ (⟨_, _, _, _, _, some _⟩ :: _) _ _ _; (refine gif rfl rfl ?_; refine giFF tbL ?_)) | (show SH _ _ _ _ _ (⟨_, .move _, _, _, _, _⟩ :: _) _ _ _; refine mov evL ?_) | (show SH _ _ _ _ _ (⟨_, .assign _, _, _, _, _⟩ :: _) _ _ _; refine asg evL ?_) | (show SH _ _ _ _ _ (⟨_, .binOp .neq _ _ _ _, _, _, _, _⟩ :: _) _ _ _; refine neqF rfl rfl omD ?_) | (show SH _ _ _ _ _ (⟨_, .binOp .add _ _ _ _, _, _, _, _⟩ :: _) _ _ _; refine add rfl rfl inL ?_) | (show SH _ _ _ _ _ (⟨_, .call ⟨.value (.func 14), _, _⟩, _, _, _, _⟩ :: _) _ _ _; refine cl (callee := .func 14) rfl (fun w hw => hI w (hw.rd spL)) rfl rfl ?_) | (show SH _ _ _ _ _ (⟨_, .call ⟨.value (.func 21), _, _⟩, _, _, _, _⟩ :: _) _ _ _; refine cl (callee := .func 21) rfl (fun w hw => hS w (hw.rd spL) (hw.rd spL)) rfl rfl ?_) | refine bnoT rfl ?_ | (show SH _ _ _ _ _ (⟨_, .pick _ _ _, _, _, _, _⟩ :: _) _ _ _; refine pkf rfl tbL evL ?_) | refine extr rfl rfl ?_) | refine s_nil ?_ | refine kh_normal ?_ | refine kh_exit ?_ | refine bh_exit ?_))
        exact ⟨agL, i + 1, hsL, enL, by omega, by omega⟩
      · clear hcase hI
        (repeat' (first | (show VH _ _ _ _ _ _ _; first | refine v_seq ?_ | refine r_seq ?_ | refine v_skip ?_ | refine v_exit ?_ | refine v_cond_t rfl tbL ?_ | refine v_cond_f rfl tbL ?_) | (show SH _ _ _ _ _ (_ :: _) _ _ _; first | (show SH _ _ _ _ _ (⟨_, _, _, _, _, some _⟩ :: _) _ _ _; (refine gif rfl rfl ?_; refine giFT tbL ?_)) | (show SH _ _ _ _ _ (⟨_, .move _, _, _, _, _⟩ :: _) _ _ _; refine mov evL ?_) | (show SH _ _ _ _ _ (⟨_, .assign _, _, _, _, _⟩ :: _) _ _ _; refine asg evL ?_) | (show SH _ _ _ _ _ (⟨_, .binOp .neq _ _ _ _, _, _, _, _⟩ :: _) _ _ _; first | refine neqT rfl rfl omD ?_ | refine neqF rfl rfl omD ?_) | (show SH _ _ _ _ _ (⟨_, .binOp .add _ _ _ _, _, _, _, _⟩ :: _) _ _ _; refine add rfl rfl inL ?_) | (show SH _ _ _ _ _ (⟨_, .call ⟨.value (.func 21), _, _⟩, _, _, _, _⟩ :: _) _ _ _; refine cl (callee := .func 21) rfl (fun w hw => hS w (hw.rd spL) (hw.rd spL)) rfl rfl ?_) | refine bnoT rfl ?_ | (show SH _ _ _ _ _ (⟨_, .pick _ _ _, _, _, _, _⟩ :: _) _ _ _; refine pkt rfl tbL evL ?_) | refine extr rfl rfl ?_) | refine s_nil ?_ | refine kh_normal ?_ | refine kh_exit ?_ | refine bh_exit ?_))
        exact ⟨agL, i + 1, hsL, enL, by omega, by omega⟩
    · have hic : (i : Int) = ct := Decidable.byContradiction fun h => hcase (.inl h)
      have hob1 : ob = false := by
        cases ob with
        | false => rfl
        | true => exact absurd (.inr rfl) hcase
      rw [hob1] at hI
      have hfl := hls' hic hob1
      clear hcase hsm' hls'
      (repeat' (first | (show VH _ _ _ _ _ _ _; first | refine v_seq ?_ | refine r_seq ?_ | refine v_block ?_ | refine v_skip ?_ | refine v_cond_f rfl tbL ?_) | (show SH _ _ _ _ _ (_ :: _) _ _ _; first | (show SH _ _ _ _ _ (⟨_, _, _, _, _, some _⟩ :: _) _ _ _; (refine gif rfl rfl ?_; refine giFF tbL ?_)) | (show SH _ _ _ _ _ (⟨_, .move _, _, _, _, _⟩ :: _) _ _ _; refine mov evL ?_) | (show SH _ _ _ _ _ (⟨_, .assign _, _, _, _, _⟩ :: _) _ _ _; refine asg evL ?_) | (show SH _ _ _ _ _ (⟨_, .binOp .neq _ _ _ _, _, _, _, _⟩ :: _) _ _ _; refine neqF rfl rfl omD ?_) | (show SH _ _ _ _ _ (⟨_, .binOp .add _ _ _ _, _, _, _, _⟩ :: _) _ _ _; refine add rfl rfl inL ?_) | refine slen rfl ?_ | (show SH _ _ _ _ _ (⟨_, .call ⟨.value (.func 14), _, _⟩, _, _, _, _⟩ :: _) _ _ _; refine cl (callee := .func 14) rfl (fun w hw => hI w (hw.rd spL)) rfl rfl ?_) | (show SH _ _ _ _ _ (⟨_, .pick _ _ _, _, _, _, _⟩ :: _) _ _ _; refine pkf rfl tbL evL ?_) | refine extr rfl rfl ?_) | refine s_nil ?_ | refine kh_normal ?_))
      clear hI
      
      refine v_normS [(6,6),(14,21),(23,23),(88,145)] _ agL [(14,_),(15,_),(17,_),(21,_),(128,_),(129,_),(130,_)] heL (fun g => ?_)
      obtain ⟨q, hq⟩ : ∃ q : Int → Bool, (fun x : Int => decide (x ≠ 3 + 3 * (kn : Int))) = q := ⟨_, rfl⟩
      have hqx : ∀ x, q x = decide (x ≠ 3 + 3 * (kn : Int)) := fun x => by rw [← hq]
      rw [hq] at hfl
      clear hq
      refine v_loop [(21,21),(23,23),(130,141)] (fun s : Nat × Option Addr × Nat => [(130, .int .i64 s.1), (21, .slice s.2.1 ((VA.take s.1).filter q).length s.2.2)]) (fun s => [orow 3 s.2.1 s.2.2 ((VA.take s.1).filter q), orow 3 A8 c8 VB, orow 3 A7 c7 VA, bx b12 26 [.int .i64 5, .slice Aa Ya.length ca], knw Aa Ya, bx b13 26 [.int .i64 5, .slice Ab Yb.length cb], knw Ab Yb]) (fun s => s.1 ≤ VA.length) (fun s => VA.length - s.1) (0, none, 0) hsL (ent_nilrow enL) (Nat.zero_le _) ?_
      rintro ⟨j, A4, c4⟩ g3 hj
      simp only [sets]
      simp only at hj
      by_cases hjl : j < VA.length
      · have hts := take_snoc (d := 0) hjl
        have hql := List.length_filter_le q (VA.take j)
        have htl := List.length_take_le' j VA
        have hqj := hqx (VA.getD j 0)
        obtain ⟨M, hM⟩ : ∃ M, (VA.take j).filter q = M := ⟨_, rfl⟩
        rw [hM] at hql
        by_cases hx : VA.getD j 0 = 3 + 3 * (kn : Int)
        · have hn : (VA.take (j + 1)).filter q = M := by
            rw [hts, List.filter_append, hM, List.filter_cons, hqj, decide_eq_false (fun h => h hx)]
            simp
          rw [hM]
          clear hts hM hqj hfl hqx
          (repeat' (first | (show VH _ _ _ _ _ _ _; first | refine v_seq ?_ | refine r_seq ?_ | refine v_block ?_ | refine v_skip ?_ | refine v_cond_t rfl tbL ?_ | refine v_cond_f rfl tbL ?_) | (show SH _ _ _ _ _ (_ :: _) _ _ _; first | (show SH _ _ _ _ _ (⟨_, .move _, _, _, _, _⟩ :: _) _ _ _; refine mov evL ?_) | (show SH _ _ _ _ _ (⟨_, .assign _, _, _, _, _⟩ :: _) _ _ _; refine asg evL ?_) | (show SH _ _ _ _ _ (⟨_, .binOp .lss _ _ _ _, _, _, _, _⟩ :: _) _ _ _; refine lssT rfl rfl omD ?_) | (show SH _ _ _ _ _ (⟨_, .binOp .neq _ _ _ _, _, _, _, _⟩ :: _) _ _ _; refine neqF rfl rfl omD ?_) | (show SH _ _ _ _ _ (⟨_, .binOp .add _ _ _ _, _, _, _, _⟩ :: _) _ _ _; refine add rfl rfl inL ?_) | (show SH _ _ _ _ _ (⟨_, .load _ _, _, _, _, _⟩ :: _) _ _ _; refine lin rfl (fun _ _ => rdY) omL ?_) | (show SH _ _ _ _ _ (⟨_, .indexAddr _ _ _, _, _, _, _⟩ :: _) _ _ _; refine ix rfl rfl (by with_reducible rfl) (fun _ _ => rdY) (by rfl) omL omL ?_)) | refine s_nil ?_ | refine kh_normal ?_ | refine bh_normal ?_))
          refine ⟨agL, (j + 1, A4, c4), by rw [hn]; (repeat (first | exact trivial | refine And.intro rfl ?_)), by rw [hn]; exact enL, hjl, by show _ - (j + 1) < _ - j; omega⟩
        · have hn : (VA.take (j + 1)).filter q = M ++ [VA.getD j 0] := by
            rw [hts, List.filter_append, hM, List.filter_cons, hqj, decide_eq_true hx]
            simp
          rw [hM]
          clear hts hM hqj hfl hqx
          (repeat' (first | (show VH _ _ _ _ _ _ _; first | refine v_seq ?_ | refine r_seq ?_ | refine v_block ?_ | refine v_skip ?_ | refine v_cond_t rfl tbL ?_) | (show SH _ _ _ _ _ (_ :: _) _ _ _; first | (show SH _ _ _ _ _ (⟨_, .move _, _, _, _, _⟩ :: _) _ _ _; refine mov evL ?_) | (show SH _ _ _ _ _ (⟨_, .assign _, _, _, _, _⟩ :: _) _ _ _; refine asg evL ?_) | (show SH _ _ _ _ _ (⟨_, .binOp .lss _ _ _ _, _, _, _, _⟩ :: _) _ _ _; refine lssT rfl rfl omD ?_) | (show SH _ _ _ _ _ (⟨_, .binOp .neq _ _ _ _, _, _, _, _⟩ :: _) _ _ _; refine neqT rfl rfl omD ?_) | (show SH _ _ _ _ _ (⟨_, .load _ _, _, _, _, _⟩ :: _) _ _ _; refine lin rfl (fun _ _ => rdY) omL ?_) | (show SH _ _ _ _ _ (⟨_, .indexAddr _ _ _, _, _, _, _⟩ :: _) _ _ _; refine ix rfl rfl (by with_reducible rfl) (fun _ _ => rdY) (by rfl) omL omL ?_) | (show SH _ _ _ _ _ (⟨_, .buildSlice _ _ _, _, _, _, _⟩ :: _) _ _ _; refine bsl (α := Int) rfl rfl (by repeat (first | exact Vals.nil | (apply Vals.cons; rfl))) rfl (by rfl) (by decide) (fun b => ?_))) | refine s_nil ?_ | refine kh_normal ?_))
          refine app (l := M) (l2 := [VA.getD j 0]) rfl rfl rfl spL (fun w hw => hw.rd spL) rfl rfl rfl (by simp only [List.length_cons, List.length_nil]; omega) (by simp only [List.length_cons, List.length_nil]; omega) (fun A5 c5 => ⟨trivial, ?_⟩)
          (repeat' (first | refine r_seq ?_ | (show SH _ _ _ _ _ (_ :: _) _ _ _; first | (show SH _ _ _ _ _ (⟨_, .move _, _, _, _, _⟩ :: _) _ _ _; refine mov evL ?_) | (show SH _ _ _ _ _ (⟨_, .assign _, _, _, _, _⟩ :: _) _ _ _; refine asg evL ?_) | (show SH _ _ _ _ _ (⟨_, .binOp .add _ _ _ _, _, _, _, _⟩ :: _) _ _ _; refine add rfl rfl inL ?_)) | refine s_nil ?_ | refine kh_normal ?_ | refine bh_normal ?_))
          refine ⟨agL, (j + 1, A5, c5), by rw [hn]; (repeat (first | exact trivial | refine And.intro rfl ?_)), by rw [hn]; exact enL, hjl, by show _ - (j + 1) < _ - j; omega⟩
      · have hje : j = VA.length := by omega
        rw [hje, List.take_length, hfl]
        have hS := fun w h1 h2 => sameInts_spec A4 A8 VB VB c4 c8 w h1 h2 (by omega)
        rw [decide_eq_true rfl] at hS
        clear hfl hqx
        (repeat' (first | (show VH _ _ _ _ _ _ _; first | refine v_seq ?_ | refine r_seq ?_ | refine v_skip ?_ | refine v_exit ?_ | refine v_cond_f rfl tbL ?_) | (show SH _ _ _ _ _ (_ :: _) _ _ _; first | (show SH _ _ _ _ _ (⟨_, .move _, _, _, _, _⟩ :: _) _ _ _; refine mov evL ?_) | (show SH _ _ _ _ _ (⟨_, .assign _, _, _, _, _⟩ :: _) _ _ _; refine asg evL ?_) | (show SH _ _ _ _ _ (⟨_, .binOp .lss _ _ _ _, _, _, _, _⟩ :: _) _ _ _; refine lssF rfl rfl omD ?_) | (show SH _ _ _ _ _ (⟨_, .binOp .add _ _ _ _, _, _, _, _⟩ :: _) _ _ _; refine add rfl rfl inL ?_) | (show SH _ _ _ _ _ (⟨_, .call ⟨.value (.func 21), _, _⟩, _, _, _, _⟩ :: _) _ _ _; refine cl (callee := .func 21) rfl (fun w hw => hS w (hw.rd spL) (hw.rd spL)) rfl rfl ?_) | refine bnoT rfl ?_) | refine s_nil ?_ | refine kh_normal ?_ | refine kh_exit ?_ | refine bh_normal ?_ | refine bh_exit ?_))
        exact ⟨agL, i + 1, hsL, enL, by omega, by omega⟩
  · (repeat' (first | (show VH _ _ _ _ _ _ _; first | refine v_seq ?_ | refine r_seq ?_ | refine v_ret ?_ | refine v_exit ?_ | refine v_cond_f rfl tbL ?_) | (show SH _ _ _ _ _ (_ :: _) _ _ _; first | (show SH _ _ _ _ _ (⟨_, .move _, _, _, _, _⟩ :: _) _ _ _; refine mov evL ?_) | (show SH _ _ _ _ _ (⟨_, .assign _, _, _, _, _⟩ :: _) _ _ _; refine asg evL ?_) | (show SH _ _ _ _ _ (⟨_, .binOp .leq _ _ _ _, _, _, _, _⟩ :: _) _ _ _; refine leqF rfl rfl omD ?_)) | refine s_nil ?_ | refine kh_normal ?_ | refine kh_exit ?_ | refine bh_exit ?_))
    exact rh1 rfl rfl ⟨rfl, rfl⟩ (ent_nil _)
end Go.Proofs.YtjefoecnciepmaaDoor
