/- ChatLast: from the law's function. -/
import Derived.Test.YtplhnnlklnbahaaSAa
import Derived.Test.YtplhnnlklnbahaaSAb
import Derived.Test.YtplhnnlklnbahaaSAc
import Derived.Test.YtplhnnlklnbahaaSAd
import Derived.Test.YtplhnnlklnbahaaSAe
import Derived.Test.YtplhnnlklnbahaaSAf
import Derived.Test.YtplhnnlklnbahaaSAg
import Derived.ProofKit
import Derived.Carry
import Derived.Deep.Slices
import Derived.Lib.SmallJoins
import Derived.OpenShut
import Derived.Test.YtplhnnlklnbahaaRows
import Derived.ChangeMaps5
set_option linter.unusedSimpArgs false
set_option linter.unusedVariables false
/- Layer 37 (chat): Say. -/
namespace Go.Proofs.Ytplhnnlklnbahaa
open Go.Fw Go.RowKit
/-- What Say's change makes of a room. -/
def sayK (mt : List UInt8) (t s : Int) (ms : List Mbr) (log : List Msg) (id tick : Int) (txt : List UInt8) : ResR :=
    if tick37 tick = true then
      if tick < t then (rom0, 370)
      else if textB txt = true then
        if 1099511627776 ≤ s then (rom0, 4)
        else if 4 ≤ recentR log id tick then (rom0, 372)
        else (⟨tick, s + 1, ms, (log ++ [(⟨s + 1, tick, id, mt⟩ : Msg)]).drop (log.length + 1 - 50)⟩, 0)
      else (rom0, 371)
    else (rom0, 2)
theorem sayK0 (mt : List UInt8) (t s : Int) (ms : List Mbr) (log : List Msg) (id tick : Int) (txt : List UInt8) : (sayK mt t s ms log id tick txt).2 ≠ 0 → (sayK mt t s ms log id tick txt).1 = rom0 := by
  unfold sayK
  repeat' split
  all_goals first
    | exact fun _ => rfl
    | exact fun h => absurd rfl h
set_option maxHeartbeats 4000000 in
set_option maxRecDepth 100000 in
theorem say1_spec (t s : Int) (L0 : List MbrP) (gl : List Msg) (k : Nat) (id tick : Int) (txt : List UInt8) (fv : Value) (N : List Nod) (V : List (List Nat)) (a2 a3 a4 a5 : Addr) (w0 : World) (htx : txt.length ≤ 1000000) (hNl : N.length ≤ 1000000) (hf : FilW w0 fv N) (hV : N = [] ∨ FilV N V) (hvr : VRom (rom t s L0 gl))
    (e2 : w0.cell? a2 = some (.int .i64 tick)) (e3 : w0.cell? a3 = some (.string (bs txt))) (e4 : w0.cell? a4 = some (.int .i64 id)) (e5 : w0.cell? a5 = some fv) (hs : -9223372036854775808 ≤ s) :
    Acts37 w0 t s L0 gl k 61 #[] #[.pointer (some a2), .pointer (some a3), .pointer (some a4), .pointer (some a5)] (sayK (maskB N txt) t s (mbrs L0) gl id tick txt) (allH []) (· = allH []) := by
  refine acts37_of (cap := [.pointer (some a2), .pointer (some a3), .pointer (some a4), .pointer (some a5)]) fun w' b A c L B d H hz hp hw => ?_
  have hgl : gl.length ≤ 50 := hvr.logl
  have hti := fun w => isTick37_spec tick w
  have hte := fun w => isText_spec txt w htx
  have hma := fun w (he : Ext w0 w) => mask37_spec fv N V txt w htx hNl (hf.ext he) hV
  have hrc := fun ht w hr => recent_spec t s A L.length c B gl d id tick w (by omega) ht hr
  unfold sayK
  rw [← hp]
  obtain ⟨p, rfl⟩ := hf.ptr
  clear hf hV hp hvr hz
  generalize maskB N txt = mt at hma ⊢
  by_cases h1 : tick37 tick = true
  · rw [if_pos h1]
    have hrc := hrc (tick37_iff.1 h1)
    obtain ⟨ht0, ht1⟩ := tick37_iff.1 h1
    rw [h1] at hti
    clear h1
    by_cases h2 : tick < t
    · rw [if_pos h2]
      refine enterH Try.func61 rfl rfl Try.ntmps61 rfl (by assumption) ?_
      (repeat' (first | (show VH _ _ _ _ _ _ _; first | refine v_seq ?_ | refine r_seq ?_ | refine r_quiet hmix (by kernel_rfl) ?_ | refine v_block ?_ | refine v_ret ?_ | refine v_cond_t rfl tbL ?_ | refine v_cond_f rfl tbL ?_) | (show SH _ _ _ _ _ (_ :: _) _ _ _; first | (show SH _ _ _ _ _ (⟨_, .move _, _, _, _, _⟩ :: _) _ _ _; refine mov evL ?_) | (show SH _ _ _ _ _ (⟨_, .assign _, _, _, _, _⟩ :: _) _ _ _; refine asg evL ?_) | (show SH _ _ _ _ _ (⟨_, .binOp .lss _ _ _ _, _, _, _, _⟩ :: _) _ _ _; refine lssT rfl rfl omD ?_) | (show SH _ _ _ _ _ (⟨_, .load _ _, _, _, _, _⟩ :: _) _ _ _; first | refine lbx rfl spL (by rfl) ?_ | refine lcell rfl (fun w hw => hw.ext.cell (by assumption)) ?_) | (show SH _ _ _ _ _ (⟨_, .call ⟨.value (.func 31), _, _⟩, _, _, _, _⟩ :: _) _ _ _; refine cl (callee := .func 31) rfl (fun w hw => hti w) rfl rfl ?_) | refine bnoT rfl ?_ | refine nlc rfl ?_ | refine fad rfl ?_) | refine s_nil ?_ | refine kh_normal ?_ | refine kh_ret ?_ | refine bh_ret ?_))
      exact rh1 rfl rfl ⟨rfl, allH [], rfl, rfl⟩ enL
    · rw [if_neg h2]
      by_cases h3 : textB txt = true
      · rw [if_pos h3]
        rw [h3] at hte
        clear h3
        by_cases h4 : 1099511627776 ≤ s
        · rw [if_pos h4]
          refine enterH Try.func61 rfl rfl Try.ntmps61 rfl (by assumption) ?_
          (repeat' (first | (show VH _ _ _ _ _ _ _; first | refine v_seq ?_ | refine r_seq ?_ | refine r_quiet hmix (by kernel_rfl) ?_ | refine v_block ?_ | refine v_ret ?_ | refine v_cond_t rfl tbL ?_ | refine v_cond_f rfl tbL ?_) | (show SH _ _ _ _ _ (_ :: _) _ _ _; first | (show SH _ _ _ _ _ (⟨_, .move _, _, _, _, _⟩ :: _) _ _ _; refine mov evL ?_) | (show SH _ _ _ _ _ (⟨_, .assign _, _, _, _, _⟩ :: _) _ _ _; refine asg evL ?_) | (show SH _ _ _ _ _ (⟨_, .binOp .lss _ _ _ _, _, _, _, _⟩ :: _) _ _ _; refine lssF rfl rfl omD ?_) | (show SH _ _ _ _ _ (⟨_, .binOp .geq _ _ _ _, _, _, _, _⟩ :: _) _ _ _; refine geqT rfl rfl omD ?_) | (show SH _ _ _ _ _ (⟨_, .load _ _, _, _, _, _⟩ :: _) _ _ _; first | refine lbx rfl spL (by rfl) ?_ | refine lcell rfl (fun w hw => hw.ext.cell (by assumption)) ?_) | (show SH _ _ _ _ _ (⟨_, .call ⟨.value (.func 31), _, _⟩, _, _, _, _⟩ :: _) _ _ _; refine cl (callee := .func 31) rfl (fun w hw => hti w) rfl rfl ?_) | (show SH _ _ _ _ _ (⟨_, .call ⟨.value (.func 36), _, _⟩, _, _, _, _⟩ :: _) _ _ _; refine cl (callee := .func 36) rfl (fun w hw => hte w) rfl rfl ?_) | refine bnoT rfl ?_ | refine nlc rfl ?_ | refine fad rfl ?_) | refine s_nil ?_ | refine kh_normal ?_ | refine kh_ret ?_ | refine bh_ret ?_))
          exact rh1 rfl rfl ⟨rfl, allH [], rfl, rfl⟩ enL
        · rw [if_neg h4]
          generalize recentR gl id tick = n at hrc ⊢
          by_cases h5 : 4 ≤ n
          · rw [if_pos h5]
            refine enterH Try.func61 rfl rfl Try.ntmps61 rfl (by assumption) ?_
            (repeat' (first | (show VH _ _ _ _ _ _ _; first | refine v_seq ?_ | refine r_seq ?_ | refine r_quiet hmix (by kernel_rfl) ?_ | refine v_block ?_ | refine v_ret ?_ | refine v_cond_t rfl tbL ?_ | refine v_cond_f rfl tbL ?_) | (show SH _ _ _ _ _ (_ :: _) _ _ _; first | (show SH _ _ _ _ _ (⟨_, .move _, _, _, _, _⟩ :: _) _ _ _; refine mov evL ?_) | (show SH _ _ _ _ _ (⟨_, .assign _, _, _, _, _⟩ :: _) _ _ _; refine asg evL ?_) | (show SH _ _ _ _ _ (⟨_, .binOp .lss _ _ _ _, _, _, _, _⟩ :: _) _ _ _; refine lssF rfl rfl omD ?_) | (show SH _ _ _ _ _ (⟨_, .binOp .geq _ _ _ _, _, _, _, _⟩ :: _) _ _ _; first | refine geqT rfl rfl omD ?_ | refine geqF rfl rfl omD ?_) | (show SH _ _ _ _ _ (⟨_, .load _ _, _, _, _, _⟩ :: _) _ _ _; first | refine lbx rfl spL (by rfl) ?_ | refine lba rfl spL (by rfl) ?_ | refine lcell rfl (fun w hw => hw.ext.cell (by assumption)) ?_) | (show SH _ _ _ _ _ (⟨_, .call ⟨.value (.func 31), _, _⟩, _, _, _, _⟩ :: _) _ _ _; refine cl (callee := .func 31) rfl (fun w hw => hti w) rfl rfl ?_) | (show SH _ _ _ _ _ (⟨_, .call ⟨.value (.func 36), _, _⟩, _, _, _, _⟩ :: _) _ _ _; refine cl (callee := .func 36) rfl (fun w hw => hte w) rfl rfl ?_) | (show SH _ _ _ _ _ (⟨_, .call ⟨.value (.func 62), _, _⟩, _, _, _, _⟩ :: _) _ _ _; refine cl (callee := .func 62) rfl (fun w hw => hrc w (hw.rd spL)) rfl rfl ?_) | refine bnoT rfl ?_ | refine nlc rfl ?_ | refine fad rfl ?_) | refine s_nil ?_ | refine kh_normal ?_ | refine kh_ret ?_ | refine bh_ret ?_))
            exact rh1 rfl rfl ⟨rfl, allH [], rfl, rfl⟩ enL
          · rw [if_neg h5]
            obtain ⟨m, hm⟩ : ∃ m : Msg, m = ⟨s + 1, tick, id, mt⟩ := ⟨_, rfl⟩
            rw [← hm]
            have hme : Flat.enc m = [.int .i64 (s + 1), .int .i64 tick, .int .i64 id, .string (bs mt)] := by rw [hm]; rfl
            clear hm
            have hMl : (gl ++ [m]).length = gl.length + 1 := by rw [List.length_append]; rfl
            refine enterH Try.func61 rfl rfl Try.ntmps61 rfl (by assumption) ?_
            (repeat' ((fail_if_success (show VH _ _ (.seq (.region 13 _ _) _) _ _ _ _)); first | (show VH _ _ _ _ _ _ _; first | refine v_seq ?_ | refine r_seq ?_ | refine r_quiet hmix (by kernel_rfl) ?_ | refine v_block ?_ | refine v_skip ?_ | refine v_cond_f rfl tbL ?_) | (show SH _ _ _ _ _ (_ :: _) _ _ _; first | (show SH _ _ _ _ _ (⟨_, .move _, _, _, _, _⟩ :: _) _ _ _; refine mov evL ?_) | (show SH _ _ _ _ _ (⟨_, .assign _, _, _, _, _⟩ :: _) _ _ _; refine asg evL ?_) | (show SH _ _ _ _ _ (⟨_, .binOp .lss _ _ _ _, _, _, _, _⟩ :: _) _ _ _; refine lssF rfl rfl omD ?_) | (show SH _ _ _ _ _ (⟨_, .binOp .geq _ _ _ _, _, _, _, _⟩ :: _) _ _ _; refine geqF rfl rfl omD ?_) | (show SH _ _ _ _ _ (⟨_, .binOp .add _ _ _ _, _, _, _, _⟩ :: _) _ _ _; refine add rfl rfl inL ?_) | (show SH _ _ _ _ _ (⟨_, .load _ _, _, _, _, _⟩ :: _) _ _ _; first | refine lbx rfl spL (by rfl) ?_ | refine lba rfl spL (by rfl) ?_ | refine lcell rfl (fun w hw => hw.ext.cell (by assumption)) ?_) | (show SH _ _ _ _ _ (⟨_, .call ⟨.value (.func 31), _, _⟩, _, _, _, _⟩ :: _) _ _ _; refine cl (callee := .func 31) rfl (fun w hw => hti w) rfl rfl ?_) | (show SH _ _ _ _ _ (⟨_, .call ⟨.value (.func 36), _, _⟩, _, _, _, _⟩ :: _) _ _ _; refine cl (callee := .func 36) rfl (fun w hw => hte w) rfl rfl ?_) | (show SH _ _ _ _ _ (⟨_, .call ⟨.value (.func 62), _, _⟩, _, _, _, _⟩ :: _) _ _ _; refine cl (callee := .func 62) rfl (fun w hw => hrc w (hw.rd spL)) rfl rfl ?_) | refine bnoT rfl ?_ | refine nlc rfl ?_ | refine fad rfl ?_ | (show SH _ _ _ _ _ (⟨_, .store _ _ _, _, _, _, _⟩ :: _) _ _ _; refine stb rfl rfl evL spL rfl rfl (by first | decide | exact Nat.zero_lt_succ _ | exact of_decide_eq_true rfl) kpL ?_)) | refine s_nil ?_ | refine kh_normal ?_ | refine bh_normal ?_))
            refine VH.ent (G := bxR b tick (s + 1) A L.length c B gl.length d :: orow 31 A c L :: orow 36 B d gl :: allH (L.map rowG) :: allH [] :: H) ?_ enL
            refine v_seq ?_
            refine v_cut [(49, 67)] (fun _ : Option Addr × Nat => []) (fun y => bxR b tick (s + 1) A L.length c y.1 (gl ++ [m]).length y.2 :: orow 31 A c L :: orow 36 y.1 y.2 (gl ++ [m]) :: allH (L.map rowG) :: allH [] :: H) (fun _ => True) ?_ ?_ ent_vh
            · refine r_heldT [] (tr [(0, true), (1, true), (2, true), (3, true), (5, true), (6, true), (7, true), (9, true), (10, true), (11, true), (12, true)] (.fork3 4 (tr [] (.fork 8 (tr [(13, false), (14, false), (15, false), (16, false), (17, false), (18, false), (19, false)] .nil) 13 (tr [(8, false), (14, false), (15, false), (16, false), (17, false), (18, false), (19, false)] .nil))) 8 (tr [] (.fork 4 (tr [(13, false), (14, false), (15, false), (16, false), (17, false), (18, false), (19, false)] .nil) 13 (tr [(14, true)] (.fork 4 (tr [(15, false), (16, false), (17, false), (18, false), (19, false)] .nil) 15 (tr [(4, false), (16, false), (17, false), (18, false), (19, false)] .nil))))) 13 (tr [] (.fork 4 (tr [(8, false), (14, false), (15, false), (16, false), (17, false), (18, false), (19, false)] .nil) 8 (tr [(14, true)] (.fork 4 (tr [(15, false), (16, false), (17, false), (18, false), (19, false)] .nil) 15 (tr [(4, false), (16, false), (17, false), (18, false), (19, false)] .nil))))))) hmix (by kernel_rfl) (ent_nil _) ?_
              (repeat' (first | (show SH _ _ _ _ _ (_ :: _) _ _ _; first | (show SH _ _ _ _ _ (⟨_, .move _, _, _, _, _⟩ :: _) _ _ _; refine mov evL ?_) | (show SH _ _ _ _ _ (⟨_, .load _ _, _, _, _, _⟩ :: _) _ _ _; first | refine lbx rfl spL (by rfl) ?_ | refine lcell rfl (fun w hw => hw.ext.cell (by assumption)) ?_) | (show SH _ _ _ _ _ (⟨_, .call ⟨.value (.func 24), _, _⟩, _, _, _, _⟩ :: _) _ _ _; refine cl (callee := .func 24) rfl (fun w hw => hma w hw.ext) rfl rfl ?_) | refine nlc rfl ?_ | refine fad rfl ?_ | refine bld rfl rfl ?_) | refine s_fork ?_ ?_ | refine s_fork3 ?_ ?_ ?_))
              all_goals
                refine bsl (l := [m]) rfl rfl (Vals.cons hme.symm Vals.nil) rfl rfl (by decide) (fun b9 => ?_)
                (repeat' ((show SH _ _ _ _ _ (_ :: _) _ _ _; (show SH _ _ _ _ _ (⟨_, .load _ _, _, _, _, _⟩ :: _) _ _ _; refine lbx rfl spL (by rfl) ?_))))
                refine app (l := gl) (l2 := [m]) rfl rfl rfl spL (fun w hw => hw.rd spL) rfl rfl rfl (by simp only [List.length_singleton]; omega) (by simp only [List.length_singleton]; omega) (fun A4 c4 => ⟨enL, ?_⟩)
                (repeat' (first | (show SH _ _ _ _ _ (_ :: _) _ _ _; first | refine nlc rfl ?_ | refine fad rfl ?_ | (show SH _ _ _ _ _ (⟨_, .store _ _ _, _, _, _, _⟩ :: _) _ _ _; refine stb rfl rfl evL spL rfl rfl (by first | decide | exact Nat.zero_lt_succ _ | exact of_decide_eq_true rfl) kpL ?_)) | refine s_nil ?_ | refine kh_normal ?_))
                exact ⟨agL, (A4, c4), hsL, enL, trivial⟩
            rintro ⟨B2, d2⟩ gg _ G rfl
            simp only [sets]
            generalize hM : gl ++ [m] = M at hMl ⊢
            by_cases h6 : 50 < gl.length + 1
            · rw [show gl.length + 1 - 50 = 1 by omega, List.drop_one, ← List.eraseIdx_zero]
              clear hM
              (repeat' (first | (show VH _ _ _ _ _ _ _; first | refine v_seq ?_ | refine r_seq ?_ | refine v_cond_t rfl tbL ?_) | (show SH _ _ _ _ _ (_ :: _) _ _ _; first | (show SH _ _ _ _ _ (⟨_, .move _, _, _, _, _⟩ :: _) _ _ _; refine mov evL ?_) | (show SH _ _ _ _ _ (⟨_, .binOp .gtr _ _ _ _, _, _, _, _⟩ :: _) _ _ _; refine gtrT rfl rfl omD ?_) | (show SH _ _ _ _ _ (⟨_, .load _ _, _, _, _, _⟩ :: _) _ _ _; refine lbx rfl spL (by rfl) ?_) | refine slen rfl ?_ | refine nlc rfl ?_ | refine fad rfl ?_) | refine s_nil ?_ | refine kh_normal ?_))
              refine cm rfl (fun w2 hw2 => deleteG_spec B2 M d2 0 w0 (bxR b tick (s + 1) A L.length c B2 M.length d2 :: orow 31 A c L :: allH (L.map rowG) :: allH [] :: H) w2 (by omega) (by omega) (Ent.wd enL hw2)) rfl rfl ?_
              rintro _ _ ⟨rfl, rfl⟩
              refine ⟨trivial, ?_⟩
              (repeat' (first | (show VH _ _ _ _ _ _ _; first | refine v_seq ?_ | refine r_seq ?_ | refine v_ret ?_) | (show SH _ _ _ _ _ (_ :: _) _ _ _; first | (show SH _ _ _ _ _ (⟨_, .assign _, _, _, _, _⟩ :: _) _ _ _; refine asg evL ?_) | refine nlc rfl ?_ | refine fad rfl ?_ | (show SH _ _ _ _ _ (⟨_, .store _ _ _, _, _, _, _⟩ :: _) _ _ _; refine stb rfl rfl evL spL rfl rfl (by first | decide | exact Nat.zero_lt_succ _ | exact of_decide_eq_true rfl) kpL ?_)) | refine s_nil ?_ | refine kh_normal ?_))
              exact rh1 rfl rfl ⟨rfl, allH [], rfl, A, c, L, B2, d2, rfl, rfl⟩ enL
            · rw [show gl.length + 1 - 50 = 0 by omega, List.drop_zero]
              clear hM
              (repeat' (first | (show VH _ _ _ _ _ _ _; first | refine v_seq ?_ | refine r_seq ?_ | refine v_ret ?_ | refine v_skip ?_ | refine v_cond_f rfl tbL ?_) | (show SH _ _ _ _ _ (_ :: _) _ _ _; first | (show SH _ _ _ _ _ (⟨_, .move _, _, _, _, _⟩ :: _) _ _ _; refine mov evL ?_) | (show SH _ _ _ _ _ (⟨_, .assign _, _, _, _, _⟩ :: _) _ _ _; refine asg evL ?_) | (show SH _ _ _ _ _ (⟨_, .binOp .gtr _ _ _ _, _, _, _, _⟩ :: _) _ _ _; refine gtrF rfl rfl omD ?_) | (show SH _ _ _ _ _ (⟨_, .load _ _, _, _, _, _⟩ :: _) _ _ _; refine lbx rfl spL (by rfl) ?_) | refine slen rfl ?_ | refine nlc rfl ?_ | refine fad rfl ?_) | refine s_nil ?_ | refine kh_normal ?_))
              exact rh1 rfl rfl ⟨rfl, allH [], rfl, A, c, L, B2, d2, rfl, rfl⟩ enL
      · rw [if_neg h3]
        rw [Bool.not_eq_true] at h3
        rw [h3] at hte
        clear h3
        refine enterH Try.func61 rfl rfl Try.ntmps61 rfl (by assumption) ?_
        (repeat' (first | (show VH _ _ _ _ _ _ _; first | refine v_seq ?_ | refine r_seq ?_ | refine r_quiet hmix (by kernel_rfl) ?_ | refine v_block ?_ | refine v_ret ?_ | refine v_cond_t rfl tbL ?_ | refine v_cond_f rfl tbL ?_) | (show SH _ _ _ _ _ (_ :: _) _ _ _; first | (show SH _ _ _ _ _ (⟨_, .move _, _, _, _, _⟩ :: _) _ _ _; refine mov evL ?_) | (show SH _ _ _ _ _ (⟨_, .assign _, _, _, _, _⟩ :: _) _ _ _; refine asg evL ?_) | (show SH _ _ _ _ _ (⟨_, .binOp .lss _ _ _ _, _, _, _, _⟩ :: _) _ _ _; refine lssF rfl rfl omD ?_) | (show SH _ _ _ _ _ (⟨_, .load _ _, _, _, _, _⟩ :: _) _ _ _; first | refine lbx rfl spL (by rfl) ?_ | refine lcell rfl (fun w hw => hw.ext.cell (by assumption)) ?_) | (show SH _ _ _ _ _ (⟨_, .call ⟨.value (.func 31), _, _⟩, _, _, _, _⟩ :: _) _ _ _; refine cl (callee := .func 31) rfl (fun w hw => hti w) rfl rfl ?_) | (show SH _ _ _ _ _ (⟨_, .call ⟨.value (.func 36), _, _⟩, _, _, _, _⟩ :: _) _ _ _; refine cl (callee := .func 36) rfl (fun w hw => hte w) rfl rfl ?_) | (show SH _ _ _ _ _ (⟨_, .unOp .not _ _, _, _, _, _⟩ :: _) _ _ _; first | refine bnoT rfl ?_ | refine bnoF rfl ?_) | refine nlc rfl ?_ | refine fad rfl ?_) | refine s_nil ?_ | refine kh_normal ?_ | refine kh_ret ?_ | refine bh_ret ?_))
        exact rh1 rfl rfl ⟨rfl, allH [], rfl, rfl⟩ enL
  · rw [if_neg h1]
    rw [Bool.not_eq_true] at h1
    rw [h1] at hti
    clear h1
    refine enterH Try.func61 rfl rfl Try.ntmps61 rfl (by assumption) ?_
    (repeat' (first | (show VH _ _ _ _ _ _ _; first | refine v_seq ?_ | refine r_seq ?_ | refine v_block ?_ | refine v_ret ?_ | refine v_cond_t rfl tbL ?_) | (show SH _ _ _ _ _ (_ :: _) _ _ _; first | (show SH _ _ _ _ _ (⟨_, .assign _, _, _, _, _⟩ :: _) _ _ _; refine asg evL ?_) | (show SH _ _ _ _ _ (⟨_, .load _ _, _, _, _, _⟩ :: _) _ _ _; refine lcell rfl (fun w hw => hw.ext.cell (by assumption)) ?_) | (show SH _ _ _ _ _ (⟨_, .call ⟨.value (.func 31), _, _⟩, _, _, _, _⟩ :: _) _ _ _; refine cl (callee := .func 31) rfl (fun w hw => hti w) rfl rfl ?_) | refine bnoF rfl ?_) | refine s_nil ?_ | refine kh_normal ?_ | refine kh_ret ?_ | refine bh_ret ?_))
    exact rh1 rfl rfl ⟨rfl, allH [], rfl, rfl⟩ enL
end Go.Proofs.Ytplhnnlklnbahaa

/- Layer 37 (chat): Say. -/
namespace Go.Proofs.Ytplhnnlklnbahaa
open Go.Fw Go.RowKit
section
variable {md : Md} {P : Program} {n : Nat} {Q : HQ} {f : Fr} {w0 : World} {H : List HP} {ops : Array Oper} {rest : List Oper} {d : Nat} {ty : TypeId} {pos : String} {aft : Array Edge}
theorem mf4 {fn : Fn} {c0 c1 c2 c3 : Operand} {v0 v1 v2 v3 : Value} (h0 : ev n f c0 = v0) (h1 : ev n f c1 = v1) (h2 : ev n f c2 = v2) (h3 : ev n f c3 = v3) (k : SH (nx md) P n ops Q rest (upd f d (.func fn #[] #[v0, v1, v2, v3])) w0 H) : SH md P n ops Q (⟨some d, .makeFunc fn #[] #[c0, c1, c2, c3], ty, pos, aft, none⟩ :: rest) f w0 H := s_val (fun w hw => by
  intro d pos aft g; simp [execOp, Instr.makeFunc, h0, h1, h2, h3]) k
end
set_option maxHeartbeats 1000000 in
set_option maxRecDepth 100000 in
theorem say37_spec (t s : Int) (A : Option Addr) (L : List MbrP) (c : Nat) (B : Option Addr) (gl : List Msg) (d : Nat) (fv : Value) (N : List Nod) (V : List (List Nat)) (id tick : Int) (txt : List UInt8) (w : World) (hz : SzR L gl) (hs : -9223372036854775808 ≤ s) (hr : RdR w A L B gl) (htx : txt.length ≤ 1000000) (hNl : N.length ≤ 1000000) (hf : FilW w fv N) (hV : N = [] ∨ FilV N V) :
    Ret Try.prog 27 [rv37 t s A L c B gl d, fv, .int .i64 id, .int .i64 tick, .string (bs txt)].toArray w (RP w (OutR (sayR (maskB N) (rom t s L gl) id tick txt))) := by
  have hm := fun (p6 p7 p8 p9 : Nat) w (hr : RdR w A L B gl) (hf : FilW w fv N) e2 e3 e4 e5 => memberP_spec t s A L c B gl d id 61 #[] #[.pointer (some ⟨p8, 0, none⟩), .pointer (some ⟨p9, 0, none⟩), .pointer (some ⟨p7, 0, none⟩), .pointer (some ⟨p6, 0, none⟩)] (fun _ => sayK (maskB N txt) t s (mbrs L) gl id tick txt) w hz hs hr (fun _ => sayK0 _ _ _ _ _ _ _ _) (fun k hv hk => say1_spec t s L gl k id tick txt fv N V ⟨p8, 0, none⟩ ⟨p9, 0, none⟩ ⟨p7, 0, none⟩ ⟨p6, 0, none⟩ w htx hNl hf hV hv e2 e3 e4 e5 hs)
  rw [show sayR (maskB N) (rom t s L gl) id tick txt = memberR (rom t s L gl) id (fun _ => sayK (maskB N txt) t s (mbrs L) gl id tick txt) from rfl]
  obtain ⟨p, rfl⟩ := hf.ptr
  unfold rv37 at hm ⊢
  refine enterH Try.func27 rfl rfl Try.ntmps27 rfl (Wd.refl _) ?_
  (repeat' (first | (show VH _ _ _ _ _ _ _; first | refine v_seq ?_ | refine r_seq ?_) | (show SH _ _ _ _ _ (_ :: _) _ _ _; first | (show SH _ _ _ _ _ (⟨_, .assign _, _, _, _, _⟩ :: _) _ _ _; refine asg evL ?_) | (show SH _ _ _ _ _ (⟨_, .load _ _, _, _, _, _⟩ :: _) _ _ _; first | refine lbx rfl spL (by rfl) ?_ | refine lba rfl spL (by rfl) ?_) | refine ala rfl (fun b => ?_) | (show SH _ _ _ _ _ (⟨_, .box _ _, _, _, _, _⟩ :: _) _ _ _; refine bxx rfl evL rfl (fun b => ?_))) | refine s_nil ?_ | refine kh_normal ?_))
  rename_i b5 b6 b7 b8 b9
  refine mf4 rfl rfl rfl rfl ?_
  refine cp rfl (fun w2 hw => hm b6 b7 b8 b9 w2 (hr.ext hw.ext) (hf.ext hw.ext) (hw.cell (cs := [.int .i64 tick]) spL rfl) (hw.cell (cs := [.string (bs txt)]) spL rfl) (hw.cell (cs := [.int .i64 id]) spL rfl) (hw.cell (cs := [.pointer p]) spL rfl)) rfl rfl ?_
  rintro _ _ ⟨A1, c1, L1, B1, d1, hp1, rfl, rfl⟩
  (repeat' (first | refine v_ret ?_ | (show SH _ _ _ _ _ (_ :: _) _ _ _; first | (show SH _ _ _ _ _ (⟨_, .assign _, _, _, _, _⟩ :: _) _ _ _; refine asg evL ?_) | refine extr rfl rfl ?_ | (show SH _ _ _ _ _ (⟨_, .store _ _ _, _, _, _, _⟩ :: _) _ _ _; refine sta rfl rfl rfl spL (by rfl) (by rfl) (by rfl) kpL ?_)) | refine s_nil ?_ | refine kh_normal ?_))
  exact rhC2 rfl rfl rfl rfl (fun w hw => loadVar_bx hw spL (by rfl)) ⟨A1, c1, L1, B1, d1, hp1, rfl, rfl⟩ enL
end Go.Proofs.Ytplhnnlklnbahaa

/- Layer 37 (chat): filters and rooms of which the memory is known. -/
namespace Go.Proofs.Ytplhnnlklnbahaa
open Go.Fw Go.RowKit
/-- A filter whose nodes are known. -/
def kfil (p : Addr) (N : List Nod) : HP := kno fun w => FilW w (.pointer (some p)) N
theorem ent_fil {b c : Nat} {t e : TypeId} {A : Option Addr} {N : List Nod} {G : List HP} : Ent (bx b t [.slice A N.length c] :: orow e A c N :: G) (kfil ⟨b, 0, none⟩ N :: G) := by
  have h1 : Ent (bx b t [.slice A N.length c] :: orow e A c N :: G) (kno (fun w => w.cell? ((⟨b, 0, none⟩ : Addr).add 0) = some (.slice A N.length c)) :: orow e A c N :: G) := ent_head fun p hp w lo hi => by
    have hp : p = pone b (.cells ([Value.slice A N.length c] : List Value).toArray t (0, 0)) := hp
    subst hp
    have := (hi b _ (pone_at _ _)).2
    rw [Addr.add_lit]
    simp [World.cell?, this]
  exact h1.trans ((ent_cons Split.head (ent_kno_row Split.head (ent_refl _))).trans (ent_kno_and.trans (ent_kno_imp (fun w h => .inr ⟨_, A, c, rfl, h.1, h.2⟩) Split.head (ent_refl _))))
/-- A room whose memory is known. -/
def knr (A : Option Addr) (L : List MbrP) (B : Option Addr) (gl : List Msg) : HP := kno fun w => RdR w A L B gl
theorem ent_knr {e ei em : TypeId} {A : Option Addr} {c d : Nat} {L : List MbrP} {B : Option Addr} {gl : List Msg} {G : List HP} : Ent (orow e A c L :: orow em B d gl :: allH (L.map fun x => orow ei x.A x.ca x.m.ign) :: G) (knr A L B gl :: G) := by
  have h1 : Ent (allH (L.map fun x => orow ei x.A x.ca x.m.ign) :: G) (kno (fun w => ∀ x ∈ L, Rd w x.A x.m.ign) :: G) :=
    (ent_all_out _).trans (ent_kno_map (fun x G => ent_kno_row Split.head (ent_refl _)) L)
  have h3 : Ent (orow e A c L :: orow em B d gl :: allH (L.map fun x => orow ei x.A x.ca x.m.ign) :: G) (kno (fun w => Rd w A L) :: kno (fun w => Rd w B gl) :: kno (fun w => ∀ x ∈ L, Rd w x.A x.m.ign) :: G) :=
    ent_kno_row Split.head (ent_kno_row Split.head h1)
  exact h3.trans ((ent_cons Split.head ent_kno_and).trans (ent_kno_and.trans (ent_kno_imp (fun w h => ⟨h.1, h.2.2, h.2.1⟩) Split.head (ent_refl _))))
theorem Wd.kr {w0 w : World} {H R : List HP} {A : Option Addr} {L : List MbrP} {B : Option Addr} {gl : List Msg} (h : Wd w0 H w) (hs : Split H (knr A L B gl) R) : RdR w A L B gl := h.kn hs
theorem Wd.kf {w0 w : World} {H R : List HP} {p : Addr} {N : List Nod} (h : Wd w0 H w) (hs : Split H (kfil p N) R) : FilW w (.pointer (some p)) N := h.kn hs
/-- A room that comes out, and an error. -/
def OutRK (r : ResR) (v : Value) (H' : List HP) : Prop := ∃ A c L B d, mbrs L = r.1.ms ∧ v = .tuple #[rv37 r.1.tick r.1.said A L c B r.1.log d, .int .i64 r.2] ∧ H' = [knr A L B r.1.log]
theorem outRK_of {r r' : ResR} {g : FuncId} {args : List Value} {w : World} (e : r = r') (h : Ret Try.prog g args.toArray w (RP w (OutR r))) : Ret Try.prog g args.toArray w (RP w (OutRK r')) := by
  subst e
  exact h.mono fun v w' ⟨H', ⟨A, c, L, B, d, hp, hv, hH⟩, hw⟩ => ⟨_, ⟨A, c, L, B, d, hp, hv, rfl⟩, Ent.wd (hH ▸ ent_knr) hw⟩
/-- The words, folded. -/
def voc (ws : List (List UInt8)) : List (List Nat) := (ws.map n8).map foldW
/-- A filter that comes out. -/
def OutBK (ws : List (List UInt8)) (v : Value) (H' : List HP) : Prop :=
  (rightW (ws.map n8) ∧ ∃ p N, v = .tuple #[.pointer (some p), .int .i64 0] ∧ FilV N (voc ws) ∧ N.length ≤ 3000 ∧ H' = [kfil p N]) ∨ (¬ rightW (ws.map n8) ∧ v = .tuple #[.pointer none, .int .i64 2] ∧ H' = [])
theorem buildM_len {ws : List (List Nat)} {N : List Nod} (hb : ∀ w ∈ ws, ∀ b ∈ w, b < 256) (h : buildM ws = some N) : N.length ≤ 3000 := by
  unfold buildM at h
  split at h
  · rename_i h100
    have := trieM_spec ws Trie.zero List.nodup_nil hb
    rw [List.length_nil, List.nil_append] at this
    cases hT : trieM ws [nod0 0] 0 with
    | none => rw [hT] at h; cases h
    | some M =>
      rw [hT] at this h
      obtain ⟨_, _, ⟨P, h3⟩, h4⟩ := this
      obtain ⟨D, L, hl⟩ := linkQ_spec M.length h3.link (by simp)
      injection h with h
      rw [← h, hl]
      simp only [List.length_singleton] at h4
      omega
  · cases h
theorem n8s_lt (ws : List (List UInt8)) : ∀ w ∈ ws.map n8, ∀ b ∈ w, b < 256 := fun w hw => by
  obtain ⟨s, _, rfl⟩ := List.mem_map.1 hw
  exact n8_lt s
theorem buildK_spec (A0 : Option Addr) (c0 : Nat) (ws : List (List UInt8)) (w : World) (hl : ws.length ≤ 1000000) (hsz : ∀ s ∈ ws, s.length ≤ 1000000) (hr : Rd w A0 ws) :
    Ret Try.prog 23 [.slice A0 ws.length c0].toArray w (RP w (OutBK ws)) := by
  refine (build37_spec A0 c0 ws w hl hsz hr).mono fun v w' ⟨H', hB, hw⟩ => ?_
  have hs := buildM_spec (ws.map n8) (n8s_lt ws)
  cases hM : buildM (ws.map n8) with
  | none =>
    rw [hM] at hB hs
    obtain ⟨rfl, rfl⟩ := hB
    exact ⟨[], .inr ⟨hs, rfl, rfl⟩, hw⟩
  | some N =>
    rw [hM] at hB hs
    obtain ⟨b, A, c, rfl, rfl⟩ := hB
    obtain ⟨hR, P, hA⟩ := hs
    refine ⟨[kfil ⟨b, 0, none⟩ N], .inl ⟨hR, ⟨b, 0, none⟩, N, rfl, ⟨?_, fun v hv => (right_len hR v hv).2, P, hA⟩, buildM_len (n8s_lt ws) hM, rfl⟩, Ent.wd ent_fil hw⟩
    unfold voc
    rw [List.length_map]
    exact hR.1
/-- Sizes of a room. -/
def SzM (ms : List Mbr) (gl : List Msg) : Prop := ms.length ≤ 1000 ∧ gl.length ≤ 1000 ∧ (∀ m ∈ ms, m.ign.length ≤ 1000) ∧ ∀ x ∈ gl, x.txt.length ≤ 1000
instance (ms : List Mbr) (gl : List Msg) : Decidable (SzM ms gl) := inferInstanceAs (Decidable (_ ∧ _))
theorem szM_sz {L : List MbrP} {ms : List Mbr} {gl : List Msg} (hp : mbrs L = ms) (h : SzM ms gl) : SzR L gl := by
  subst hp
  obtain ⟨h1, h2, h3, h4⟩ := h
  rw [mbrs_len] at h1
  exact ⟨by omega, by omega, fun x hx => by have := h3 x.m (List.mem_map_of_mem hx); omega, fun x hx => by have := h4 x hx; omega⟩
theorem vrom_sz {r : Rom} (h : VRom r) : SzM r.ms r.log := by
  refine ⟨by have := h.msl; omega, by have := h.logl; omega, fun m hm => by have := (h.mok m hm).len; omega, fun x hx => ?_⟩
  have := h.log.txt x hx
  unfold textB at this
  simp only [Bool.and_eq_true, decide_eq_true_eq] at this
  omega
theorem say_mask {m1 m2 : List UInt8 → List UInt8} {r : Rom} {id tick : Int} {txt : List UInt8} (h : m1 txt = m2 txt) : sayR m1 r id tick txt = sayR m2 r id tick txt := by unfold sayR; rw [h]
theorem FilV.mask_is {N : List Nod} {V : List (List Nat)} (h : FilV N V) {s t : List UInt8} (e : maskS V (n8 s) = n8 t) : maskB N s = t := n8_inj ((h.mask s).trans e)
end Go.Proofs.Ytplhnnlklnbahaa

/- marcheslaw37: awake. -/
namespace Go.Proofs.Ytplhnnlklnbahaa
open Go.Fw Go.RowKit
instance : DecidableEq Mat := fun x y => decidable_of_iff (x.at' = y.at' ∧ x.len = y.len ∧ x.word = y.word) ⟨fun ⟨a, b, c⟩ => by cases x; cases y; simp_all, fun h => by subst h; exact ⟨rfl, rfl, rfl⟩⟩
instance : TCmp Try.prog 53 Mat := ⟨by kernel_rfl, fun x y w => by
  rw [show (10000 : Nat) = 9999 + 1 from rfl, run_equalIn_agg w 9999 _ _ _ (by kernel_rfl) (by kernel_rfl)]
  have ha : ∀ w, (isAgg 3).run Try.prog w = .ok false w := fun w => by kernel_rfl
  simp only [Program.fieldsOf, Try.underlying53, Op.eqFields, part, ha, Sem.run_bind, Result.andThen_ok]
  obtain ⟨a0, a1, a2⟩ := x
  obtain ⟨b0, b1, b2⟩ := y
  by_cases h0 : a0 = b0
  case neg => simp [Flat.enc, ha, run_equalIn_int w 9998 _ .i64 .i64 _ _ Try.underlying3, h0]
  by_cases h1 : a1 = b1
  case neg => simp [Flat.enc, ha, run_equalIn_int w 9998 _ .i64 .i64 _ _ Try.underlying3, h0, h1]
  by_cases h2 : a2 = b2
  case neg => simp [Flat.enc, ha, run_equalIn_int w 9998 _ .i64 .i64 _ _ Try.underlying3, h0, h1, h2]
  simp [Flat.enc, ha, run_equalIn_int w 9998 _ .i64 .i64 _ _ Try.underlying3, h0, h1, h2]⟩
abbrev awW : List (List UInt8) := [[104, 101], [115, 104, 101], [104, 105, 115], [104, 101, 114, 115]]
abbrev awV : List (List UInt8) := [[97, 98], [98, 99]]
instance (ws : List (List Nat)) : Decidable (rightW ws) := inferInstanceAs (Decidable (_ ∧ _))
/-- A filter of words that are right. -/
theorem buildR_spec (A0 : Option Addr) (c0 : Nat) (ws : List (List UInt8)) (w : World) (hl : ws.length ≤ 1000000) (hsz : ∀ s ∈ ws, s.length ≤ 1000000) (hR : rightW (ws.map n8)) (hr : Rd w A0 ws) :
    Ret Try.prog 23 [.slice A0 ws.length c0].toArray w (RP w fun v H' => ∃ p N, v = .tuple #[.pointer (some p), .int .i64 0] ∧ FilV N (voc ws) ∧ N.length ≤ 3000 ∧ H' = [kfil p N]) :=
  (buildK_spec A0 c0 ws w hl hsz hr).mono fun v w' ⟨H', hB, hw⟩ => ⟨H', by
    rcases hB with ⟨_, h⟩ | ⟨h, _⟩
    · exact h
    · exact absurd hR h, hw⟩
theorem aw_rW : rightW (awW.map n8) := by decide
theorem aw_rV : rightW (awV.map n8) := by decide
theorem rd0 {w : World} : RdR w none [] none [] := ⟨Rd.nil _ none, fun x h => (by cases h), Rd.nil _ none⟩
def awG (k : Nat) : List Msg := ⟨1, 5, 1, [117, 42, 42, 42, 42, 42]⟩ :: ([⟨2, 6, 1, [42, 42]⟩, ⟨3, 7, 1, [42, 42]⟩, ⟨4, 8, 1, [42, 42]⟩] : List Msg).take k
theorem aw_sz37 (k : Nat) : SzM [⟨1, []⟩, ⟨2, [1]⟩] (awG k) := by
  refine ⟨by decide, ?_, by decide, fun x hx => ?_⟩
  · unfold awG
    rw [List.length_cons, List.length_take]
    show min k 3 + 1 ≤ 1000
    omega
  · have : x ∈ awG 3 := by
      rcases List.mem_cons.1 hx with rfl | h
      · exact List.mem_cons_self
      · exact List.mem_cons_of_mem _ (List.mem_of_mem_take h)
    revert this
    exact (by decide : ∀ x ∈ awG 3, x.txt.length ≤ 1000) x
theorem aw_say : ∀ k, k < 3 → sayR (fun _ => [42, 42]) (⟨5 + (k : Nat), 1 + (k : Nat), [⟨1, []⟩, ⟨2, [1]⟩], awG k⟩ : Rom) 1 (6 + (k : Nat)) [104, 101] = ((⟨5 + ((k + 1 : Nat) : Int), 1 + ((k + 1 : Nat) : Int), [⟨1, []⟩, ⟨2, [1]⟩], awG (k + 1)⟩ : Rom), 0)
  | 0, _ => by kernel_rfl
  | 1, _ => by kernel_rfl
  | 2, _ => by kernel_rfl
  | n + 3, h => by omega
set_option maxHeartbeats 8000000 in
set_option maxRecDepth 100000 in
theorem awake37_spec (w : World) : Ret Try.prog 11 ([] : List Value).toArray w (Out w (.bool true)) := by
  have hB1 := fun A c w hr => buildR_spec A c awW w (by decide) (by decide) aw_rW hr
  have hB2 := fun A c w hr => buildR_spec A c awV w (by decide) (by decide) aw_rV hr
  refine enterH Try.func11 rfl rfl Try.ntmps11 rfl (Wd.refl _) ?_
  (repeat' (first | (show VH _ _ _ _ _ _ _; first | refine v_seq ?_ | refine r_seq ?_) | (show SH _ _ _ _ _ (_ :: _) _ _ _; (show SH _ _ _ _ _ (⟨_, .assign _, _, _, _, _⟩ :: _) _ _ _; refine asg evL ?_)) | refine s_nil ?_ | refine kh_normal ?_))
  refine bsl (l := awW) rfl rfl (Vals.cons rfl (Vals.cons rfl (Vals.cons rfl (Vals.cons rfl Vals.nil)))) rfl rfl (by decide) (fun b1 => ?_)
  (repeat' ((show SH _ _ _ _ _ (⟨_, .call ⟨.value (.func 23), _, _⟩, _, _, _, _⟩ :: _) _ _ _; refine cp (callee := .func 23) rfl (fun w hw => hB1 _ _ w (hw.rd spL)) rfl rfl ?_)))
  rintro _ _ ⟨p1, N1, rfl, hV1, hN1, rfl⟩
  (repeat' (first | (show VH _ _ _ _ _ _ _; first | refine v_seq ?_ | refine r_seq ?_) | (show SH _ _ _ _ _ (_ :: _) _ _ _; first | (show SH _ _ _ _ _ (⟨_, .move _, _, _, _, _⟩ :: _) _ _ _; refine mov evL ?_) | (show SH _ _ _ _ _ (⟨_, .assign _, _, _, _, _⟩ :: _) _ _ _; refine asg evL ?_) | refine extr rfl rfl ?_) | refine s_nil ?_ | refine kh_normal ?_))
  refine bsl (l := awV) rfl rfl (Vals.cons rfl (Vals.cons rfl Vals.nil)) rfl rfl (by decide) (fun b2 => ?_)
  (repeat' ((show SH _ _ _ _ _ (⟨_, .call ⟨.value (.func 23), _, _⟩, _, _, _, _⟩ :: _) _ _ _; refine cp (callee := .func 23) rfl (fun w hw => hB2 _ _ w (hw.rd spL)) rfl rfl ?_)))
  rintro _ _ ⟨p2, N2, rfl, hV2, hN2, rfl⟩
  have hm1 : matL N1 [117, 115, 104, 101, 114, 115] = [⟨1, 3, 1⟩, ⟨2, 2, 0⟩, ⟨2, 4, 3⟩] := (hV1.mats _).trans (by kernel_rfl)
  have hk1 : maskB N1 [117, 83, 104, 101, 114, 115, 32, 97, 110, 100, 32, 84, 72, 73, 83] = [117, 42, 42, 42, 42, 42, 32, 97, 110, 100, 32, 84, 42, 42, 42] := hV1.mask_is (by kernel_rfl)
  have hk2 : maskB N2 [97, 98, 99, 97, 98] = [42, 42, 42, 42, 42] := hV2.mask_is (by kernel_rfl)
  have hk3 : maskB N1 [117, 115, 104, 101, 114, 115] = [117, 42, 42, 42, 42, 42] := hV1.mask_is (by kernel_rfl)
  have hk4 : maskB N1 [104, 101] = [42, 42] := hV1.mask_is (by kernel_rfl)
  have hF := fun w hf => find37F_spec (.pointer (some p1)) N1 _ [117, 115, 104, 101, 114, 115] w (by decide) (by omega) hf (.inr hV1)
  have hM1 := fun w hf => mask37_spec (.pointer (some p1)) N1 _ [117, 83, 104, 101, 114, 115, 32, 97, 110, 100, 32, 84, 72, 73, 83] w (by decide) (by omega) hf (.inr hV1)
  have hM2 := fun w hf => mask37_spec (.pointer (some p2)) N2 _ [97, 98, 99, 97, 98] w (by decide) (by omega) hf (.inr hV2)
  rw [hm1] at hF
  rw [hk1] at hM1
  rw [hk2] at hM2
  clear hm1 hk1 hk2 hB1 hB2
  (repeat' (first | (show VH _ _ _ _ _ _ _; first | refine v_seq ?_ | refine r_seq ?_ | refine v_skip ?_ | refine v_cond_f rfl tbL ?_) | (show SH _ _ _ _ _ (_ :: _) _ _ _; first | (show SH _ _ _ _ _ (⟨_, _, _, _, _, some _⟩ :: _) _ _ _; (refine gif rfl rfl ?_; refine giFF tbL ?_)) | (show SH _ _ _ _ _ (⟨_, .move _, _, _, _, _⟩ :: _) _ _ _; refine mov evL ?_) | (show SH _ _ _ _ _ (⟨_, .assign _, _, _, _, _⟩ :: _) _ _ _; refine asg evL ?_) | refine peq rfl rfl ?_ | (show SH _ _ _ _ _ (⟨_, .binOp .neq _ _ _ _, _, _, _, _⟩ :: _) _ _ _; refine neqF rfl rfl omD ?_) | (show SH _ _ _ _ _ (⟨_, .call ⟨.value (.func 25), _, _⟩, _, _, _, _⟩ :: _) _ _ _; refine cp (callee := .func 25) rfl (fun w hw => hF w (Wd.kf hw spL)) rfl rfl ?_) | (show SH _ _ _ _ _ (⟨_, .pick _ _ _, _, _, _, _⟩ :: _) _ _ _; refine pkf rfl tbL evL ?_) | refine extr rfl rfl ?_) | refine s_nil ?_ | refine kh_normal ?_))
  rintro _ _ ⟨A5, c5, rfl, rfl⟩
  (repeat' (first | (show VH _ _ _ _ _ _ _; first | refine v_seq ?_ | refine r_seq ?_) | (show SH _ _ _ _ _ (_ :: _) _ _ _; first | (show SH _ _ _ _ _ (⟨_, _, _, _, _, some _⟩ :: _) _ _ _; (refine gif rfl rfl ?_; refine giFF tbL ?_)) | (show SH _ _ _ _ _ (⟨_, .move _, _, _, _, _⟩ :: _) _ _ _; refine mov evL ?_) | (show SH _ _ _ _ _ (⟨_, .assign _, _, _, _, _⟩ :: _) _ _ _; refine asg evL ?_) | refine neq rfl rfl ?_ | (show SH _ _ _ _ _ (⟨_, .load _ _, _, _, _, _⟩ :: _) _ _ _; first | refine lra rfl (fun _ _ => rdS) (by rfl) omL ?_ | refine lra rfl (fun _ _ => rdS) (by rfl) (by simp only [List.length_cons, List.length_nil]; omega) ?_) | (show SH _ _ _ _ _ (⟨_, .indexAddr _ _ _, _, _, _, _⟩ :: _) _ _ _; first | refine ixi rfl rfl (fun _ _ => rdS) (by rfl) omL omL omL ?_ | refine ixi rfl rfl (fun _ _ => rdS) (by rfl) omL (by first | omega | (simp only [List.length_cons, List.length_nil]; omega)) (by simp only [List.length_cons, List.length_nil]; omega) ?_) | refine slen rfl ?_ | refine bld rfl rfl ?_) | refine s_nil ?_ | refine kh_normal ?_))
  refine nea (⟨1, 3, 1⟩ : Mat) (⟨1, 3, 1⟩ : Mat) rfl rfl ?_
  rw [show (!decide ((⟨1, 3, 1⟩ : Mat) = (⟨1, 3, 1⟩ : Mat))) = false by decide]
  (repeat' ((show SH _ _ _ _ _ (_ :: _) _ _ _; first | (show SH _ _ _ _ _ (⟨_, _, _, _, _, some _⟩ :: _) _ _ _; (refine gif rfl rfl ?_; refine giFF tbL ?_)) | (show SH _ _ _ _ _ (⟨_, .move _, _, _, _, _⟩ :: _) _ _ _; refine mov evL ?_) | (show SH _ _ _ _ _ (⟨_, .load _ _, _, _, _, _⟩ :: _) _ _ _; first | refine lra rfl (fun _ _ => rdS) (by rfl) omL ?_ | refine lra rfl (fun _ _ => rdS) (by rfl) (by simp only [List.length_cons, List.length_nil]; omega) ?_) | (show SH _ _ _ _ _ (⟨_, .indexAddr _ _ _, _, _, _, _⟩ :: _) _ _ _; first | refine ixi rfl rfl (fun _ _ => rdS) (by rfl) omL omL omL ?_ | refine ixi rfl rfl (fun _ _ => rdS) (by rfl) omL (by first | omega | (simp only [List.length_cons, List.length_nil]; omega)) (by simp only [List.length_cons, List.length_nil]; omega) ?_) | (show SH _ _ _ _ _ (⟨_, .pick _ _ _, _, _, _, _⟩ :: _) _ _ _; refine pkf rfl tbL evL ?_) | refine bld rfl rfl ?_)))
  refine nea (⟨2, 2, 0⟩ : Mat) (⟨2, 2, 0⟩ : Mat) rfl rfl ?_
  rw [show (!decide ((⟨2, 2, 0⟩ : Mat) = (⟨2, 2, 0⟩ : Mat))) = false by decide]
  (repeat' ((show SH _ _ _ _ _ (_ :: _) _ _ _; first | (show SH _ _ _ _ _ (⟨_, _, _, _, _, some _⟩ :: _) _ _ _; (refine gif rfl rfl ?_; refine giFF tbL ?_)) | (show SH _ _ _ _ _ (⟨_, .move _, _, _, _, _⟩ :: _) _ _ _; refine mov evL ?_) | (show SH _ _ _ _ _ (⟨_, .load _ _, _, _, _, _⟩ :: _) _ _ _; first | refine lra rfl (fun _ _ => rdS) (by rfl) omL ?_ | refine lra rfl (fun _ _ => rdS) (by rfl) (by simp only [List.length_cons, List.length_nil]; omega) ?_) | (show SH _ _ _ _ _ (⟨_, .indexAddr _ _ _, _, _, _, _⟩ :: _) _ _ _; first | refine ixi rfl rfl (fun _ _ => rdS) (by rfl) omL omL omL ?_ | refine ixi rfl rfl (fun _ _ => rdS) (by rfl) omL (by first | omega | (simp only [List.length_cons, List.length_nil]; omega)) (by simp only [List.length_cons, List.length_nil]; omega) ?_) | (show SH _ _ _ _ _ (⟨_, .pick _ _ _, _, _, _, _⟩ :: _) _ _ _; refine pkf rfl tbL evL ?_) | refine bld rfl rfl ?_)))
  refine nea (⟨2, 4, 3⟩ : Mat) (⟨2, 4, 3⟩ : Mat) rfl rfl ?_
  rw [show (!decide ((⟨2, 4, 3⟩ : Mat) = (⟨2, 4, 3⟩ : Mat))) = false by decide]
  (repeat' ((show SH _ _ _ _ _ (_ :: _) _ _ _; first | (show SH _ _ _ _ _ (⟨_, _, _, _, _, some _⟩ :: _) _ _ _; (refine gif rfl rfl ?_; refine giFF tbL ?_)) | (show SH _ _ _ _ _ (⟨_, .move _, _, _, _, _⟩ :: _) _ _ _; refine mov evL ?_) | (show SH _ _ _ _ _ (⟨_, .call ⟨.value (.func 24), _, _⟩, _, _, _, _⟩ :: _) _ _ _; refine cl (callee := .func 24) rfl (fun w hw => hM1 w (Wd.kf hw spL)) rfl rfl ?_) | (show SH _ _ _ _ _ (⟨_, .pick _ _ _, _, _, _, _⟩ :: _) _ _ _; refine pkf rfl tbL evL ?_))))
  refine sneF (s := [117, 42, 42, 42, 42, 42, 32, 97, 110, 100, 32, 84, 42, 42, 42]) (t := [117, 42, 42, 42, 42, 42, 32, 97, 110, 100, 32, 84, 42, 42, 42]) rfl rfl rfl ?_
  (repeat' ((show SH _ _ _ _ _ (_ :: _) _ _ _; first | (show SH _ _ _ _ _ (⟨_, _, _, _, _, some _⟩ :: _) _ _ _; (refine gif rfl rfl ?_; refine giFF tbL ?_)) | (show SH _ _ _ _ _ (⟨_, .move _, _, _, _, _⟩ :: _) _ _ _; refine mov evL ?_) | (show SH _ _ _ _ _ (⟨_, .call ⟨.value (.func 24), _, _⟩, _, _, _, _⟩ :: _) _ _ _; refine cl (callee := .func 24) rfl (fun w hw => hM2 w (Wd.kf hw spL)) rfl rfl ?_) | (show SH _ _ _ _ _ (⟨_, .pick _ _ _, _, _, _, _⟩ :: _) _ _ _; refine pkf rfl tbL evL ?_))))
  refine sneF (s := [42, 42, 42, 42, 42]) (t := [42, 42, 42, 42, 42]) rfl rfl rfl ?_
  (repeat' (first | (show VH _ _ _ _ _ _ _; first | refine v_seq ?_ | refine r_seq ?_ | refine v_skip ?_ | refine v_cond_f rfl tbL ?_) | (show SH _ _ _ _ _ (_ :: _) _ _ _; first | (show SH _ _ _ _ _ (⟨_, .pick _ _ _, _, _, _, _⟩ :: _) _ _ _; refine pkf rfl tbL evL ?_) | refine bld rfl rfl ?_) | refine s_nil ?_ | refine kh_normal ?_))
  clear hF hM1 hM2
  have hz0 : SzR [] [] := szM_sz (L := []) (ms := []) rfl (by decide)
  have h1 := fun w => outRK_of (r' := ((⟨0, 0, [⟨2, []⟩], []⟩ : Rom), 0)) (by kernel_rfl) (join37_spec 0 0 none [] 0 none [] 0 2 w hz0 (by omega) rd0)
  simp only [OutRK, rv37] at h1
  (repeat' ((show SH _ _ _ _ _ (⟨_, .call ⟨.value (.func 18), _, _⟩, _, _, _, _⟩ :: _) _ _ _; refine cp (callee := .func 18) rfl (fun w hw => h1 w) rfl rfl ?_)))
  rintro _ _ ⟨A6, c6, L6, B6, d6, hp6, rfl, rfl⟩
  have h7 := fun w hr => outRK_of (r' := ((⟨0, 0, [⟨1, []⟩, ⟨2, []⟩], []⟩ : Rom), 0)) (by unfold rom; rw [hp6]; kernel_rfl) (join37_spec 0 0 A6 L6 c6 B6 [] d6 1 w (szM_sz hp6 (by decide)) (by omega) hr)
  simp only [OutRK, rv37] at h7
  (repeat' (first | (show VH _ _ _ _ _ _ _; first | refine v_seq ?_ | refine r_seq ?_) | (show SH _ _ _ _ _ (_ :: _) _ _ _; first | (show SH _ _ _ _ _ (⟨_, .move _, _, _, _, _⟩ :: _) _ _ _; refine mov evL ?_) | (show SH _ _ _ _ _ (⟨_, .assign _, _, _, _, _⟩ :: _) _ _ _; refine asg evL ?_) | (show SH _ _ _ _ _ (⟨_, .load _ _, _, _, _, _⟩ :: _) _ _ _; refine lba rfl spL (by rfl) ?_) | (show SH _ _ _ _ _ (⟨_, .call ⟨.value (.func 18), _, _⟩, _, _, _, _⟩ :: _) _ _ _; refine cp (callee := .func 18) rfl (fun w hw => h7 w (Wd.kr hw spL)) rfl rfl ?_) | refine extr rfl rfl ?_ | refine ala rfl (fun b => ?_) | (show SH _ _ _ _ _ (⟨_, .store _ _ _, _, _, _, _⟩ :: _) _ _ _; refine sta rfl rfl rfl spL (by rfl) (by rfl) (by rfl) kpL ?_)) | refine s_nil ?_ | refine kh_normal ?_))
  rintro _ _ ⟨A7, c7, L7, B7, d7, hp7, rfl, rfl⟩
  have h8 := fun w hr hf => outRK_of (r' := ((⟨5, 1, [⟨1, []⟩, ⟨2, []⟩], [⟨1, 5, 1, [117, 42, 42, 42, 42, 42]⟩]⟩ : Rom), 0)) (by unfold rom; rw [hp7]; rw [say_mask (m2 := fun _ => [117, 42, 42, 42, 42, 42]) hk3]; kernel_rfl) (say37_spec 0 0 A7 L7 c7 B7 [] d7 (.pointer (some p1)) N1 _ 1 5 [117, 115, 104, 101, 114, 115] w (szM_sz hp7 (by decide)) (by omega) hr (by decide) (by omega) hf (.inr hV1))
  simp only [OutRK, rv37] at h8
  (repeat' (first | (show VH _ _ _ _ _ _ _; first | refine v_seq ?_ | refine r_seq ?_) | (show SH _ _ _ _ _ (_ :: _) _ _ _; first | (show SH _ _ _ _ _ (⟨_, .move _, _, _, _, _⟩ :: _) _ _ _; refine mov evL ?_) | (show SH _ _ _ _ _ (⟨_, .assign _, _, _, _, _⟩ :: _) _ _ _; refine asg evL ?_) | (show SH _ _ _ _ _ (⟨_, .load _ _, _, _, _, _⟩ :: _) _ _ _; refine lba rfl spL (by rfl) ?_) | (show SH _ _ _ _ _ (⟨_, .call ⟨.value (.func 27), _, _⟩, _, _, _, _⟩ :: _) _ _ _; refine cp (callee := .func 27) rfl (fun w hw => h8 w (Wd.kr hw spL) (Wd.kf hw spL)) rfl rfl ?_) | refine extr rfl rfl ?_ | (show SH _ _ _ _ _ (⟨_, .store _ _ _, _, _, _, _⟩ :: _) _ _ _; refine sta rfl rfl rfl spL (by rfl) (by rfl) (by rfl) kpL ?_)) | refine s_nil ?_ | refine kh_normal ?_))
  rintro _ _ ⟨A8, c8, L8, B8, d8, hp8, rfl, rfl⟩
  have h9 := fun w hr => outRK_of (r' := ((⟨5, 1, [⟨1, []⟩, ⟨2, [1]⟩], [⟨1, 5, 1, [117, 42, 42, 42, 42, 42]⟩]⟩ : Rom), 0)) (by unfold rom; rw [hp8]; kernel_rfl) (ignore37_spec 5 1 A8 L8 c8 B8 [⟨1, 5, 1, [117, 42, 42, 42, 42, 42]⟩] d8 2 1 true w (szM_sz hp8 (by decide)) (by omega) hr)
  simp only [OutRK, rv37] at h9
  (repeat' (first | (show VH _ _ _ _ _ _ _; first | refine v_seq ?_ | refine r_seq ?_) | (show SH _ _ _ _ _ (_ :: _) _ _ _; first | (show SH _ _ _ _ _ (⟨_, .move _, _, _, _, _⟩ :: _) _ _ _; refine mov evL ?_) | (show SH _ _ _ _ _ (⟨_, .assign _, _, _, _, _⟩ :: _) _ _ _; refine asg evL ?_) | (show SH _ _ _ _ _ (⟨_, .load _ _, _, _, _, _⟩ :: _) _ _ _; refine lba rfl spL (by rfl) ?_) | (show SH _ _ _ _ _ (⟨_, .call ⟨.value (.func 19), _, _⟩, _, _, _, _⟩ :: _) _ _ _; refine cp (callee := .func 19) rfl (fun w hw => h9 w (Wd.kr hw spL)) rfl rfl ?_) | refine extr rfl rfl ?_ | (show SH _ _ _ _ _ (⟨_, .store _ _ _, _, _, _, _⟩ :: _) _ _ _; refine sta rfl rfl rfl spL (by rfl) (by rfl) (by rfl) kpL ?_)) | refine s_nil ?_ | refine kh_normal ?_))
  rintro _ _ ⟨A9, c9, L9, B9, d9, hp9, rfl, rfl⟩
  have e10 : hearR (rom 5 1 L9 [⟨1, 5, 1, [117, 42, 42, 42, 42, 42]⟩]) 1 0 = ([⟨1, 5, 1, [117, 42, 42, 42, 42, 42]⟩], 0) := by unfold rom; rw [hp9]; kernel_rfl
  have h10 := fun w hr => hear37_spec 5 1 A9 L9 c9 B9 [⟨1, 5, 1, [117, 42, 42, 42, 42, 42]⟩] d9 1 0 w (szM_sz hp9 (by decide)) (by omega) hr
  rw [e10] at h10
  simp only [OutHe, rv37] at h10
  (repeat' (first | (show VH _ _ _ _ _ _ _; first | refine v_seq ?_ | refine r_seq ?_) | (show SH _ _ _ _ _ (_ :: _) _ _ _; first | (show SH _ _ _ _ _ (⟨_, .move _, _, _, _, _⟩ :: _) _ _ _; refine mov evL ?_) | (show SH _ _ _ _ _ (⟨_, .assign _, _, _, _, _⟩ :: _) _ _ _; refine asg evL ?_) | (show SH _ _ _ _ _ (⟨_, .load _ _, _, _, _, _⟩ :: _) _ _ _; refine lba rfl spL (by rfl) ?_) | (show SH _ _ _ _ _ (⟨_, .call ⟨.value (.func 15), _, _⟩, _, _, _, _⟩ :: _) _ _ _; refine cp (callee := .func 15) rfl (fun w hw => h10 w (Wd.kr hw spL)) rfl rfl ?_) | refine extr rfl rfl ?_ | (show SH _ _ _ _ _ (⟨_, .store _ _ _, _, _, _, _⟩ :: _) _ _ _; refine sta rfl rfl rfl spL (by rfl) (by rfl) (by rfl) kpL ?_)) | refine s_nil ?_ | refine kh_normal ?_))
  rintro _ _ ⟨B10, d10, rfl, rfl⟩
  have e11 : hearR (rom 5 1 L9 [⟨1, 5, 1, [117, 42, 42, 42, 42, 42]⟩]) 2 0 = ([], 0) := by unfold rom; rw [hp9]; kernel_rfl
  have h11 := fun w hr => hear37_spec 5 1 A9 L9 c9 B9 [⟨1, 5, 1, [117, 42, 42, 42, 42, 42]⟩] d9 2 0 w (szM_sz hp9 (by decide)) (by omega) hr
  rw [e11] at h11
  simp only [OutHe, rv37] at h11
  (repeat' (first | (show VH _ _ _ _ _ _ _; first | refine v_seq ?_ | refine r_seq ?_) | (show SH _ _ _ _ _ (_ :: _) _ _ _; first | (show SH _ _ _ _ _ (⟨_, .move _, _, _, _, _⟩ :: _) _ _ _; refine mov evL ?_) | (show SH _ _ _ _ _ (⟨_, .assign _, _, _, _, _⟩ :: _) _ _ _; refine asg evL ?_) | (show SH _ _ _ _ _ (⟨_, .load _ _, _, _, _, _⟩ :: _) _ _ _; refine lba rfl spL (by rfl) ?_) | (show SH _ _ _ _ _ (⟨_, .call ⟨.value (.func 15), _, _⟩, _, _, _, _⟩ :: _) _ _ _; refine cp (callee := .func 15) rfl (fun w hw => h11 w (Wd.kr hw spL)) rfl rfl ?_) | refine extr rfl rfl ?_) | refine s_nil ?_ | refine kh_normal ?_))
  rintro _ _ ⟨B11, d11, rfl, rfl⟩
  (repeat' (first | (show VH _ _ _ _ _ _ _; first | refine v_seq ?_ | refine r_seq ?_ | refine v_block ?_) | (show SH _ _ _ _ _ (_ :: _) _ _ _; first | (show SH _ _ _ _ _ (⟨_, .move _, _, _, _, _⟩ :: _) _ _ _; refine mov evL ?_) | (show SH _ _ _ _ _ (⟨_, .assign _, _, _, _, _⟩ :: _) _ _ _; refine asg evL ?_) | refine extr rfl rfl ?_) | refine s_nil ?_ | refine kh_normal ?_))
  revert b
  intro b6
  trace_state
  refine v_norm [(0,_),(1,_),(6,_),(7,_),(8,_),(9,_),(10,_),(11,_),(12,_),(13,_),(14,_),(15,_)] heL (fun g => ?_)
  refine VH.ent (G := [bx b6 25 [.int .i64 (5 + (0 : Nat)), .int .i64 (1 + (0 : Nat)), .slice A9 L9.length c9, .slice B9 (awG 0).length d9], knr A9 L9 B9 (awG 0), kfil p1 N1, orow 36 B10 d10 ([⟨1, 5, 1, [117, 42, 42, 42, 42, 42]⟩] : List Msg)]) ?_ enL
  refine v_loop [(15,15),(110,120)] (fun y : Nat × (Option Addr × Nat × List MbrP × Option Addr × Nat) => [(15, .int .i64 (6 + (y.1 : Nat)))]) (fun y => [bx b6 25 [.int .i64 (5 + (y.1 : Nat)), .int .i64 (1 + (y.1 : Nat)), .slice y.2.1 y.2.2.2.1.length y.2.2.1, .slice y.2.2.2.2.1 (awG y.1).length y.2.2.2.2.2], knr y.2.1 y.2.2.2.1 y.2.2.2.2.1 (awG y.1), kfil p1 N1, orow 36 B10 d10 ([⟨1, 5, 1, [117, 42, 42, 42, 42, 42]⟩] : List Msg)]) (fun y => y.1 ≤ 3 ∧ mbrs y.2.2.2.1 = [⟨1, []⟩, ⟨2, [1]⟩]) (fun y => 3 - y.1) (0, A9, c9, L9, B9, d9) hsL (ent_refl _) ⟨Nat.zero_le 3, hp9⟩ ?_
  rintro ⟨k, A, c, L, B, d⟩ g ⟨hk, hp⟩
  simp only [sets]
  simp only at hk hp
  have hzk : SzR L (awG k) := szM_sz hp (aw_sz37 k)
  by_cases hk3' : k < 3
  · have e12 : sayR (maskB N1) (rom (5 + (k : Nat)) (1 + (k : Nat)) L (awG k)) 1 (6 + (k : Nat)) [104, 101] = ((⟨5 + ((k + 1 : Nat) : Int), 1 + ((k + 1 : Nat) : Int), [⟨1, []⟩, ⟨2, [1]⟩], awG (k + 1)⟩ : Rom), 0) := by
      unfold rom
      rw [hp, say_mask (m2 := fun _ => [42, 42]) hk4]
      exact aw_say k hk3'
    have h12 := fun w hr hf => outRK_of e12 (say37_spec (5 + (k : Nat)) (1 + (k : Nat)) A L c B (awG k) d (.pointer (some p1)) N1 _ 1 (6 + (k : Nat)) [104, 101] w hzk (by omega) hr (by decide) (by omega) hf (.inr hV1))
    simp only [OutRK, rv37] at h12
    clear e12
    have e6 : (6 : Int) + (k : Nat) + 1 = 6 + ((k + 1 : Nat) : Int) := by omega
    have hk6 : (6 : Int) + (k : Nat) < 9 := by omega
    (repeat' (first | (show VH _ _ _ _ _ _ _; first | refine v_seq ?_ | refine r_seq ?_ | refine v_block ?_ | refine v_skip ?_ | refine v_cond_t rfl tbL ?_) | (show SH _ _ _ _ _ (_ :: _) _ _ _; first | (show SH _ _ _ _ _ (⟨_, .move _, _, _, _, _⟩ :: _) _ _ _; refine mov evL ?_) | (show SH _ _ _ _ _ (⟨_, .binOp .lss _ _ _ _, _, _, _, _⟩ :: _) _ _ _; refine lssT rfl rfl omD ?_) | (show SH _ _ _ _ _ (⟨_, .load _ _, _, _, _, _⟩ :: _) _ _ _; refine lba rfl spL (by rfl) ?_) | (show SH _ _ _ _ _ (⟨_, .call ⟨.value (.func 27), _, _⟩, _, _, _, _⟩ :: _) _ _ _; refine cp (callee := .func 27) rfl (fun w hw => h12 w (Wd.kr hw spL) (Wd.kf hw spL)) rfl rfl ?_)) | refine s_nil ?_ | refine kh_normal ?_))
    rintro _ _ ⟨A', c', L', B', d', hp', rfl, rfl⟩
    (repeat' (first | refine r_seq ?_ | (show SH _ _ _ _ _ (_ :: _) _ _ _; first | (show SH _ _ _ _ _ (⟨_, .move _, _, _, _, _⟩ :: _) _ _ _; refine mov evL ?_) | (show SH _ _ _ _ _ (⟨_, .assign _, _, _, _, _⟩ :: _) _ _ _; refine asg evL ?_) | (show SH _ _ _ _ _ (⟨_, .binOp .add _ _ _ _, _, _, _, _⟩ :: _) _ _ _; refine add rfl rfl inL ?_) | refine extr rfl rfl ?_ | (show SH _ _ _ _ _ (⟨_, .store _ _ _, _, _, _, _⟩ :: _) _ _ _; refine sta rfl rfl rfl spL (by rfl) (by rfl) (by rfl) kpL ?_)) | refine s_nil ?_ | refine kh_normal ?_ | refine bh_normal ?_))
    rw [e6]
    exact ⟨agL, (k + 1, A', c', L', B', d'), hsL, enL, ⟨hk3', hp'⟩, by show 3 - (k + 1) < 3 - k; omega⟩
  · obtain rfl : k = 3 := by omega
    have e13 : sayR (maskB N1) (rom (5 + (3 : Nat)) (1 + (3 : Nat)) L (awG 3)) 1 104 [104, 101] = (rom0, 372) := by
      unfold rom
      rw [hp, say_mask (m2 := fun _ => [42, 42]) hk4]
      kernel_rfl
    have h13 := fun w hr hf => outRK_of e13 (say37_spec (5 + (3 : Nat)) (1 + (3 : Nat)) A L c B (awG 3) d (.pointer (some p1)) N1 _ 1 104 [104, 101] w hzk (by omega) hr (by decide) (by omega) hf (.inr hV1))
    have e14 : sayR (maskB N1) (rom (5 + (3 : Nat)) (1 + (3 : Nat)) L (awG 3)) 1 105 [104, 101] = ((⟨105, 5, [⟨1, []⟩, ⟨2, [1]⟩], (awG 3 ++ [(⟨5, 105, 1, [42, 42]⟩ : Msg)])⟩ : Rom), 0) := by
      unfold rom
      rw [hp, say_mask (m2 := fun _ => [42, 42]) hk4]
      kernel_rfl
    have h14 := fun w hr hf => outRK_of e14 (say37_spec (5 + (3 : Nat)) (1 + (3 : Nat)) A L c B (awG 3) d (.pointer (some p1)) N1 _ 1 105 [104, 101] w hzk (by omega) hr (by decide) (by omega) hf (.inr hV1))
    simp only [OutRK, rv37, rom0] at h13 h14
    clear e13 e14
    have h69 : ¬ (6 : Int) + ((3 : Nat) : Int) < 9 := by omega
    (repeat' (first | (show VH _ _ _ _ _ _ _; first | refine v_seq ?_ | refine r_seq ?_ | refine v_exit ?_ | refine v_cond_f rfl tbL ?_) | (show SH _ _ _ _ _ (_ :: _) _ _ _; first | (show SH _ _ _ _ _ (⟨_, .move _, _, _, _, _⟩ :: _) _ _ _; refine mov evL ?_) | (show SH _ _ _ _ _ (⟨_, .binOp .lss _ _ _ _, _, _, _, _⟩ :: _) _ _ _; refine lssF rfl rfl omD ?_) | (show SH _ _ _ _ _ (⟨_, .load _ _, _, _, _, _⟩ :: _) _ _ _; refine lba rfl spL (by rfl) ?_) | (show SH _ _ _ _ _ (⟨_, .call ⟨.value (.func 27), _, _⟩, _, _, _, _⟩ :: _) _ _ _; refine cp (callee := .func 27) rfl (fun w hw => h13 w (Wd.kr hw spL) (Wd.kf hw spL)) rfl rfl ?_)) | refine s_nil ?_ | refine kh_normal ?_ | refine kh_exit ?_ | refine bh_exit ?_))
    rintro _ _ ⟨A13, c13, L13, B13, d13, hp13, rfl, rfl⟩
    (repeat' (first | (show VH _ _ _ _ _ _ _; first | refine v_seq ?_ | refine r_seq ?_) | (show SH _ _ _ _ _ (_ :: _) _ _ _; first | (show SH _ _ _ _ _ (⟨_, .move _, _, _, _, _⟩ :: _) _ _ _; refine mov evL ?_) | (show SH _ _ _ _ _ (⟨_, .assign _, _, _, _, _⟩ :: _) _ _ _; refine asg evL ?_) | (show SH _ _ _ _ _ (⟨_, .load _ _, _, _, _, _⟩ :: _) _ _ _; refine lba rfl spL (by rfl) ?_) | (show SH _ _ _ _ _ (⟨_, .call ⟨.value (.func 27), _, _⟩, _, _, _, _⟩ :: _) _ _ _; refine cp (callee := .func 27) rfl (fun w hw => h14 w (Wd.kr hw spL) (Wd.kf hw spL)) rfl rfl ?_) | refine extr rfl rfl ?_ | refine ala rfl (fun b => ?_) | (show SH _ _ _ _ _ (⟨_, .store _ _ _, _, _, _, _⟩ :: _) _ _ _; refine sta rfl rfl rfl spL (by rfl) (by rfl) (by rfl) kpL ?_)) | refine s_nil ?_ | refine kh_normal ?_))
    rintro _ _ ⟨A14, c14, L14, B14, d14, hp14, rfl, rfl⟩
    have hval : validRm (rom 105 5 L14 (awG 3 ++ [(⟨5, 105, 1, [42, 42]⟩ : Msg)])) = true := by unfold rom; rw [hp14]; kernel_rfl
    have hv := fun w hr => valid37_spec 105 5 A14 L14 c14 B14 (awG 3 ++ [(⟨5, 105, 1, [42, 42]⟩ : Msg)]) d14 w (szM_sz hp14 (by decide)) (by omega) hr
    rw [hval] at hv
    simp only [rv37] at hv
    clear hval hzk
    generalize (awG 3 ++ [(⟨5, 105, 1, [42, 42]⟩ : Msg)]) = G5 at hv ⊢
    (repeat' (first | (show VH _ _ _ _ _ _ _; first | refine v_seq ?_ | refine r_seq ?_) | (show SH _ _ _ _ _ (_ :: _) _ _ _; first | (show SH _ _ _ _ _ (⟨_, _, _, _, _, some _⟩ :: _) _ _ _; (refine gif rfl rfl ?_; refine giTT tbL ?_)) | (show SH _ _ _ _ _ (⟨_, .move _, _, _, _, _⟩ :: _) _ _ _; refine mov evL ?_) | (show SH _ _ _ _ _ (⟨_, .assign _, _, _, _, _⟩ :: _) _ _ _; refine asg evL ?_) | (show SH _ _ _ _ _ (⟨_, .binOp .eql _ _ _ _, _, _, _, _⟩ :: _) _ _ _; first | refine eqlT rfl rfl omD ?_ | refine eql rfl rfl ?_) | (show SH _ _ _ _ _ (⟨_, .load _ _, _, _, _, _⟩ :: _) _ _ _; first | refine lra rfl (fun _ _ => rdS) (by rfl) omL ?_ | refine lra rfl (fun _ _ => rdS) (by rfl) (by simp only [List.length_cons, List.length_nil]; omega) ?_) | (show SH _ _ _ _ _ (⟨_, .indexAddr _ _ _, _, _, _, _⟩ :: _) _ _ _; first | refine ixi rfl rfl (fun _ _ => rdS) (by rfl) omL omL omL ?_ | refine ixi rfl rfl (fun _ _ => rdS) (by rfl) omL (by first | omega | (simp only [List.length_cons, List.length_nil]; omega)) (by simp only [List.length_cons, List.length_nil]; omega) ?_) | refine slen rfl ?_ | (show SH _ _ _ _ _ (⟨_, .pick _ _ _, _, _, _, _⟩ :: _) _ _ _; refine pkt rfl tbL evL ?_) | refine extr rfl rfl ?_ | refine bld rfl rfl ?_ | (show SH _ _ _ _ _ (⟨_, .store _ _ _, _, _, _, _⟩ :: _) _ _ _; refine sta rfl rfl rfl spL (by rfl) (by rfl) (by rfl) kpL ?_)) | refine s_nil ?_ | refine kh_normal ?_))
    trace_state
    refine eqa ((⟨1, 5, 1, [117, 42, 42, 42, 42, 42]⟩) : Msg) (⟨1, 5, 1, [117, 42, 42, 42, 42, 42]⟩) rfl rfl ?_
    rw [show decide (((⟨1, 5, 1, [117, 42, 42, 42, 42, 42]⟩) : Msg) = (⟨1, 5, 1, [117, 42, 42, 42, 42, 42]⟩)) = true by decide]
    (repeat' (first | refine v_ret ?_ | (show SH _ _ _ _ _ (_ :: _) _ _ _; first | (show SH _ _ _ _ _ (⟨_, _, _, _, _, some _⟩ :: _) _ _ _; (refine gif rfl rfl ?_; refine giTT tbL ?_)) | (show SH _ _ _ _ _ (⟨_, .move _, _, _, _, _⟩ :: _) _ _ _; refine mov evL ?_) | (show SH _ _ _ _ _ (⟨_, .assign _, _, _, _, _⟩ :: _) _ _ _; refine asg evL ?_) | refine eql rfl rfl ?_ | (show SH _ _ _ _ _ (⟨_, .load _ _, _, _, _, _⟩ :: _) _ _ _; first | refine lbx rfl spL (by rfl) ?_ | refine lba rfl spL (by rfl) ?_) | refine slen rfl ?_ | (show SH _ _ _ _ _ (⟨_, .call ⟨.value (.func 13), _, _⟩, _, _, _, _⟩ :: _) _ _ _; refine cl (callee := .func 13) rfl (fun w hw => hv w (Wd.kr hw spL)) rfl rfl ?_) | (show SH _ _ _ _ _ (⟨_, .pick _ _ _, _, _, _, _⟩ :: _) _ _ _; refine pkt rfl tbL evL ?_) | refine fad rfl ?_) | refine s_nil ?_ | refine kh_normal ?_))
    exact rh1 rfl rfl ⟨rfl, rfl⟩ (ent_nil _)
end Go.Proofs.Ytplhnnlklnbahaa

/- Layer 37 (chat): SameInts, CopyInts, Pick; sameMessages.  -/
namespace Go.Proofs.Ytplhnnlklnbahaa
open Go.Fw Go.RowKit
set_option maxRecDepth 100000 in
theorem sameInts_spec (A B : Option Addr) (l m : List Int) (c1 c2 : Nat) (w : World) (hl : l.length ≤ 1000000) (hl2 : m.length ≤ 1000000) (hA : Rd w A l) (hB : Rd w B m) :
    Ret Try.prog 49 [.slice A l.length c1, .slice B m.length c2].toArray w (Out w (.bool (decide (l = m)))) := by
  refine enterH Try.func49 rfl rfl Try.ntmps49 rfl (Wd.refl _) ?_
  (repeat' (first | (show VH _ _ _ _ _ _ _; first | refine v_seq ?_ | refine r_seq ?_ | refine v_block ?_ | refine v_ret ?_ | refine v_skip ?_ | refine v_cond_dec rfl (fun h => ?_) (fun h => ?_)) | (show SH _ _ _ _ _ (_ :: _) _ _ _; first | (show SH _ _ _ _ _ (⟨_, .move _, _, _, _, _⟩ :: _) _ _ _; refine mov evL ?_) | (show SH _ _ _ _ _ (⟨_, .assign _, _, _, _, _⟩ :: _) _ _ _; refine asg evL ?_) | refine neq rfl rfl ?_ | refine slen rfl ?_) | refine s_nil ?_ | refine kh_normal ?_ | refine kh_ret ?_))
  · exact rh1 rfl rfl ⟨congrArg Value.bool (by rw [decide_eq_false]; intro e; rw [e] at h; omega), rfl⟩ (ent_nil _)
  · have hlm : l.length = m.length := by omega
    refine v_loop0 [(4,5),(11,25)] (fun k : Nat => [(5, .int .i64 k)]) (fun k => k ≤ l.length ∧ l.take k = m.take k) (fun k => l.length - k) 0 hsL ⟨Nat.zero_le _, rfl⟩ ?_
    rintro k g ⟨hk, hv⟩
    simp only [sets]
    (repeat' (first | (show VH _ _ _ _ _ _ _; first | refine v_seq ?_ | refine r_seq ?_ | refine r_quiet hmix (by kernel_rfl) ?_ | refine v_block ?_ | refine v_ret ?_ | refine v_skip ?_ | refine v_exit ?_ | refine v_cond_dec rfl (fun h => ?_) (fun h => ?_)) | (show SH _ _ _ _ _ (_ :: _) _ _ _; first | (show SH _ _ _ _ _ (⟨_, .move _, _, _, _, _⟩ :: _) _ _ _; refine mov evL ?_) | (show SH _ _ _ _ _ (⟨_, .assign _, _, _, _, _⟩ :: _) _ _ _; refine asg evL ?_) | refine lss rfl rfl ?_ | refine neq rfl rfl ?_ | (show SH _ _ _ _ _ (⟨_, .binOp .add _ _ _ _, _, _, _, _⟩ :: _) _ _ _; refine add rfl rfl inL ?_) | (show SH _ _ _ _ _ (⟨_, .load _ _, _, _, _, _⟩ :: _) _ _ _; refine lin rfl (fun _ _ => rdS) omL ?_) | (show SH _ _ _ _ _ (⟨_, .indexAddr _ _ _, _, _, _, _⟩ :: _) _ _ _; refine ix rfl rfl (by with_reducible rfl) (fun _ _ => rdS) (by rfl) omL omL ?_) | refine slen rfl ?_) | refine s_nil ?_ | refine kh_normal ?_ | refine kh_ret ?_ | refine kh_exit ?_ | refine bh_normal ?_ | refine bh_ret ?_ | refine bh_exit ?_))
    · exact rh1 rfl rfl ⟨congrArg Value.bool (by rw [decide_eq_false]; intro e; rw [e] at h; exact h rfl), rfl⟩ (ent_nil _)
    · have e : l.getD k 0 = m.getD k 0 := Classical.byContradiction h
      exact ⟨agL, k + 1, hsL, enL, ⟨by omega, by rw [takeI (by omega), takeI (by omega), hv, e]⟩, by omega⟩
    · have e : k = l.length := by omega
      subst e
      rw [List.take_length, hlm, List.take_length] at hv
      exact rh1 rfl rfl ⟨congrArg Value.bool (by rw [decide_eq_true hv]), rfl⟩ (ent_nil _)
section
variable {md : Md} {P : Program} {n : Nat} {Q : HQ} {f : Fr} {w0 : World} {H R : List HP} {ops : Array Oper} {rest : List Oper} {d : Nat} {op : Op} {ty : TypeId} {pos : String} {aft : Array Edge} {v : Value} {x y : Operand}
end
set_option maxHeartbeats 1000000 in
set_option maxRecDepth 100000 in
theorem sameMessages_spec (A B : Option Addr) (l m : List Msg) (c1 c2 : Nat) (w : World) (hl : l.length ≤ 1000000) (hl2 : m.length ≤ 1000000) (hA : Rd w A l) (hB : Rd w B m) :
    Ret Try.prog 16 [.slice A l.length c1, .slice B m.length c2].toArray w (Out w (.bool (decide (l = m)))) := by
  by_cases hlen : l.length = m.length
  · refine enterH Try.func16 rfl rfl Try.ntmps16 rfl (Wd.refl _) ?_
    (repeat' (first | (show VH _ _ _ _ _ _ _; first | refine v_seq ?_ | refine r_seq ?_ | refine v_block ?_ | refine v_skip ?_ | refine v_cond_f rfl tbL ?_) | (show SH _ _ _ _ _ (_ :: _) _ _ _; first | (show SH _ _ _ _ _ (⟨_, .move _, _, _, _, _⟩ :: _) _ _ _; refine mov evL ?_) | (show SH _ _ _ _ _ (⟨_, .assign _, _, _, _, _⟩ :: _) _ _ _; refine asg evL ?_) | (show SH _ _ _ _ _ (⟨_, .binOp .neq _ _ _ _, _, _, _, _⟩ :: _) _ _ _; refine neqF rfl rfl omD ?_) | refine slen rfl ?_) | refine s_nil ?_ | refine kh_normal ?_))
    refine v_norm [(0,_),(1,_),(5,_)] heL (fun g => ?_)
    refine v_loop0 [(4,5),(11,25)] (fun k : Nat => [(5, .int .i64 k)]) (fun k => k ≤ l.length ∧ l.take k = m.take k) (fun k => l.length - k) 0 hsL ⟨Nat.zero_le _, rfl⟩ ?_
    rintro k g ⟨hk, hok⟩
    simp only [sets]
    by_cases hkl : k < l.length
    · have hkm : k < m.length := by omega
      by_cases he : l.getD k Flat.dflt = m.getD k Flat.dflt
      · have hok' : l.take (k + 1) = m.take (k + 1) := by rw [take_snoc (d := Flat.dflt) hkl, take_snoc (d := Flat.dflt) hkm, hok, he]
        clear hok
        (repeat' (first | (show VH _ _ _ _ _ _ _; first | refine v_seq ?_ | refine r_seq ?_ | refine r_quiet hmix (by kernel_rfl) ?_ | refine v_block ?_ | refine v_skip ?_ | refine v_cond_t rfl tbL ?_) | (show SH _ _ _ _ _ (_ :: _) _ _ _; first | (show SH _ _ _ _ _ (⟨_, .move _, _, _, _, _⟩ :: _) _ _ _; refine mov evL ?_) | (show SH _ _ _ _ _ (⟨_, .binOp .lss _ _ _ _, _, _, _, _⟩ :: _) _ _ _; refine lssT rfl rfl omD ?_) | (show SH _ _ _ _ _ (⟨_, .load _ _, _, _, _, _⟩ :: _) _ _ _; first | refine lra rfl (fun _ _ => rdS) (by rfl) omL ?_ | refine lra rfl (fun _ _ => rdS) (by rfl) (by simp only [List.length_cons, List.length_nil]; omega) ?_) | (show SH _ _ _ _ _ (⟨_, .indexAddr _ _ _, _, _, _, _⟩ :: _) _ _ _; refine ix rfl rfl (by with_reducible rfl) (fun _ _ => rdS) (by rfl) omL omL ?_) | refine slen rfl ?_) | refine s_nil ?_ | refine kh_normal ?_))
        refine nea (l.getD k Flat.dflt) (m.getD k Flat.dflt) rfl rfl ?_
        rw [decide_eq_true he]
        (repeat' (first | (show VH _ _ _ _ _ _ _; first | refine r_seq ?_ | refine v_skip ?_ | refine v_cond_f rfl tbL ?_) | (show SH _ _ _ _ _ (_ :: _) _ _ _; first | (show SH _ _ _ _ _ (⟨_, .move _, _, _, _, _⟩ :: _) _ _ _; refine mov evL ?_) | (show SH _ _ _ _ _ (⟨_, .assign _, _, _, _, _⟩ :: _) _ _ _; refine asg evL ?_) | (show SH _ _ _ _ _ (⟨_, .binOp .add _ _ _ _, _, _, _, _⟩ :: _) _ _ _; refine add rfl rfl inL ?_)) | refine s_nil ?_ | refine kh_normal ?_ | refine bh_normal ?_))
        exact ⟨agL, k + 1, hsL, enL, ⟨hkl, hok'⟩, by omega⟩
      · have hne : ¬ l = m := fun e => he (by rw [e])
        rw [decide_eq_false hne]
        clear hok hne
        (repeat' (first | (show VH _ _ _ _ _ _ _; first | refine v_seq ?_ | refine r_seq ?_ | refine r_quiet hmix (by kernel_rfl) ?_ | refine v_block ?_ | refine v_skip ?_ | refine v_cond_t rfl tbL ?_) | (show SH _ _ _ _ _ (_ :: _) _ _ _; first | (show SH _ _ _ _ _ (⟨_, .move _, _, _, _, _⟩ :: _) _ _ _; refine mov evL ?_) | (show SH _ _ _ _ _ (⟨_, .binOp .lss _ _ _ _, _, _, _, _⟩ :: _) _ _ _; refine lssT rfl rfl omD ?_) | (show SH _ _ _ _ _ (⟨_, .load _ _, _, _, _, _⟩ :: _) _ _ _; first | refine lra rfl (fun _ _ => rdS) (by rfl) omL ?_ | refine lra rfl (fun _ _ => rdS) (by rfl) (by simp only [List.length_cons, List.length_nil]; omega) ?_) | (show SH _ _ _ _ _ (⟨_, .indexAddr _ _ _, _, _, _, _⟩ :: _) _ _ _; refine ix rfl rfl (by with_reducible rfl) (fun _ _ => rdS) (by rfl) omL omL ?_) | refine slen rfl ?_) | refine s_nil ?_ | refine kh_normal ?_))
        refine nea (l.getD k Flat.dflt) (m.getD k Flat.dflt) rfl rfl ?_
        rw [decide_eq_false he]
        (repeat' (first | (show VH _ _ _ _ _ _ _; first | refine v_seq ?_ | refine r_seq ?_ | refine v_ret ?_ | refine v_cond_t rfl tbL ?_) | (show SH _ _ _ _ _ (_ :: _) _ _ _; (show SH _ _ _ _ _ (⟨_, .assign _, _, _, _, _⟩ :: _) _ _ _; refine asg evL ?_)) | refine s_nil ?_ | refine kh_normal ?_ | refine kh_ret ?_ | refine bh_ret ?_))
        exact rh1 rfl rfl ⟨rfl, rfl⟩ (ent_nil _)
    · obtain rfl : k = l.length := by omega
      rw [List.take_length, hlen, List.take_length] at hok
      rw [decide_eq_true hok]
      clear hok
      (repeat' (first | (show VH _ _ _ _ _ _ _; first | refine v_seq ?_ | refine r_seq ?_ | refine v_ret ?_ | refine v_exit ?_ | refine v_cond_f rfl tbL ?_) | (show SH _ _ _ _ _ (_ :: _) _ _ _; first | (show SH _ _ _ _ _ (⟨_, .move _, _, _, _, _⟩ :: _) _ _ _; refine mov evL ?_) | (show SH _ _ _ _ _ (⟨_, .assign _, _, _, _, _⟩ :: _) _ _ _; refine asg evL ?_) | (show SH _ _ _ _ _ (⟨_, .binOp .lss _ _ _ _, _, _, _, _⟩ :: _) _ _ _; refine lssF rfl rfl omD ?_) | refine slen rfl ?_) | refine s_nil ?_ | refine kh_normal ?_ | refine kh_exit ?_ | refine bh_exit ?_))
      exact rh1 rfl rfl ⟨rfl, rfl⟩ (ent_nil _)
  · have hne : ¬ l = m := fun e => hlen (by rw [e])
    rw [decide_eq_false hne]
    clear hne
    refine enterH Try.func16 rfl rfl Try.ntmps16 rfl (Wd.refl _) ?_
    (repeat' (first | (show VH _ _ _ _ _ _ _; first | refine v_seq ?_ | refine r_seq ?_ | refine v_ret ?_ | refine v_cond_t rfl tbL ?_) | (show SH _ _ _ _ _ (_ :: _) _ _ _; first | (show SH _ _ _ _ _ (⟨_, .move _, _, _, _, _⟩ :: _) _ _ _; refine mov evL ?_) | (show SH _ _ _ _ _ (⟨_, .assign _, _, _, _, _⟩ :: _) _ _ _; refine asg evL ?_) | (show SH _ _ _ _ _ (⟨_, .binOp .neq _ _ _ _, _, _, _, _⟩ :: _) _ _ _; refine neqT rfl rfl omD ?_) | refine slen rfl ?_) | refine s_nil ?_ | refine kh_normal ?_ | refine kh_ret ?_))
    all_goals first
      | exact rh1 rfl rfl ⟨rfl, rfl⟩ (ent_nil _)
      | exact absurd (by omega) hlen
end Go.Proofs.Ytplhnnlklnbahaa

/- marcheslaw37: small, Same. -/
namespace Go.Proofs.Ytplhnnlklnbahaa
open Go.Fw Go.RowKit
/-- A room that is examined. -/
def SmallM (ms : List Mbr) (gl : List Msg) : Prop := ms.length ≤ 40 ∧ gl.length ≤ 60 ∧ (∀ m ∈ ms, m.ign.length ≤ 40) ∧ ∀ x ∈ gl, x.txt.length ≤ 400
instance (ms : List Mbr) (gl : List Msg) : Decidable (SmallM ms gl) := inferInstanceAs (Decidable (_ ∧ _))
theorem small_sz {ms : List Mbr} {gl : List Msg} (h : SmallM ms gl) : SzM ms gl := by
  obtain ⟨h1, h2, h3, h4⟩ := h
  exact ⟨by omega, by omega, fun m hm => by have := h3 m hm; omega, fun x hx => by have := h4 x hx; omega⟩
theorem all_at {α : Type} (d : α) {l : List α} {p : α → Prop} (h : ∀ j, j < l.length → p (l.getD j d)) : ∀ x ∈ l, p x := fun x hx => by
  obtain ⟨j, hj, e⟩ := List.mem_iff_getElem.1 hx
  have := h j hj
  rwa [List.getD_eq_getElem?_getD, List.getElem?_eq_getElem hj, Option.getD_some, e] at this
set_option maxHeartbeats 2000000 in
set_option maxRecDepth 100000 in
theorem small37_spec (t s : Int) (A : Option Addr) (L : List MbrP) (c : Nat) (B : Option Addr) (gl : List Msg) (d : Nat) (w : World) (hl : L.length ≤ maxLen) (hgl : gl.length ≤ maxLen) (hr : RdR w A L B gl) :
    Ret Try.prog 12 [rv37 t s A L c B gl d].toArray w (Out w (.bool (decide (SmallM (mbrs L) gl)))) := by
  have hml : maxLen ≤ 9223372036854775807 := by decide
  generalize maxLen = ml at hl hgl hml
  obtain ⟨hrA, _, hrB⟩ := hr
  unfold rv37
  have hno : ∀ b, b = false → ¬ SmallM (mbrs L) gl → decide (SmallM (mbrs L) gl) = b := fun b hb h => by rw [hb]; exact decide_eq_false h
  by_cases h40 : L.length ≤ 40 ∧ gl.length ≤ 60
  · obtain ⟨h40, h60⟩ := h40
    refine enterH Try.func12 rfl rfl Try.ntmps12 rfl (Wd.refl _) ?_
    (repeat' (first | (show VH _ _ _ _ _ _ _; first | refine v_seq ?_ | refine r_seq ?_ | refine v_block ?_ | refine v_skip ?_ | refine v_cond_f rfl tbL ?_) | (show SH _ _ _ _ _ (_ :: _) _ _ _; first | (show SH _ _ _ _ _ (⟨_, _, _, _, _, some _⟩ :: _) _ _ _; (refine gif rfl rfl ?_; refine giFF tbL ?_)) | (show SH _ _ _ _ _ (⟨_, .move _, _, _, _, _⟩ :: _) _ _ _; refine mov evL ?_) | (show SH _ _ _ _ _ (⟨_, .assign _, _, _, _, _⟩ :: _) _ _ _; refine asg evL ?_) | (show SH _ _ _ _ _ (⟨_, .binOp .gtr _ _ _ _, _, _, _, _⟩ :: _) _ _ _; refine gtrF rfl rfl omD ?_) | (show SH _ _ _ _ _ (⟨_, .load _ _, _, _, _, _⟩ :: _) _ _ _; refine lbx rfl spL (by rfl) ?_) | refine slen rfl ?_ | (show SH _ _ _ _ _ (⟨_, .pick _ _ _, _, _, _, _⟩ :: _) _ _ _; refine pkf rfl tbL evL ?_) | refine fad rfl ?_ | (show SH _ _ _ _ _ (⟨_, .box _ _, _, _, _, _⟩ :: _) _ _ _; refine bxx rfl evL rfl (fun b => ?_))) | refine s_nil ?_ | refine kh_normal ?_))
    refine v_norm [(1,_),(3,_)] heL (fun g => ?_)
    refine v_loop [(2,3),(15,29)] (fun k : Nat => [(3, .int .i64 k)]) (fun _ => [bxR b t s A L.length c B gl.length d]) (fun k => k ≤ L.length ∧ ∀ j, j < k → (L.getD j Flat.dflt).m.ign.length ≤ 40) (fun k => L.length - k) 0 hsL enL ⟨Nat.zero_le _, fun j h => absurd h (by omega)⟩ ?_
    rintro k g ⟨hk, hok⟩
    simp only [sets]
    by_cases hkl : k < L.length
    · have hme := mbr_enc (l := L) (k := k) rfl
      by_cases hc : (L.getD k Flat.dflt).m.ign.length ≤ 40
      · have hok' : ∀ j, j < k + 1 → (L.getD j Flat.dflt).m.ign.length ≤ 40 := fun j hj => by
          by_cases e : j = k
          · rw [e]; exact hc
          · exact hok j (by omega)
        clear hok hno
        (repeat' (first | (show VH _ _ _ _ _ _ _; first | refine v_seq ?_ | refine r_seq ?_ | refine v_block ?_ | refine v_skip ?_ | refine v_cond_t rfl tbL ?_ | refine v_cond_f rfl tbL ?_) | (show SH _ _ _ _ _ (_ :: _) _ _ _; first | (show SH _ _ _ _ _ (⟨_, .move _, _, _, _, _⟩ :: _) _ _ _; refine mov evL ?_) | (show SH _ _ _ _ _ (⟨_, .assign _, _, _, _, _⟩ :: _) _ _ _; refine asg evL ?_) | (show SH _ _ _ _ _ (⟨_, .binOp .lss _ _ _ _, _, _, _, _⟩ :: _) _ _ _; refine lssT rfl rfl omD ?_) | (show SH _ _ _ _ _ (⟨_, .binOp .gtr _ _ _ _, _, _, _, _⟩ :: _) _ _ _; refine gtrF rfl rfl omD ?_) | (show SH _ _ _ _ _ (⟨_, .binOp .add _ _ _ _, _, _, _, _⟩ :: _) _ _ _; refine add rfl rfl inL ?_) | (show SH _ _ _ _ _ (⟨_, .load _ _, _, _, _, _⟩ :: _) _ _ _; first | refine lbx rfl spL (by rfl) ?_ | refine lrg rfl (fun _ _ => rdS) (by rfl) omL (by assumption) (by rfl) ?_) | (show SH _ _ _ _ _ (⟨_, .indexAddr _ _ _, _, _, _, _⟩ :: _) _ _ _; refine ix rfl rfl (by with_reducible rfl) (fun _ _ => rdS) (by rfl) omL omL ?_) | refine slen rfl ?_ | refine fad rfl ?_) | refine s_nil ?_ | refine kh_normal ?_ | refine bh_normal ?_))
        exact ⟨agL, k + 1, hsL, enL, ⟨hkl, hok'⟩, by omega⟩
      · rw [hno false rfl (fun h => hc (h.2.2.1 _ (List.mem_map_of_mem (getD_mem hkl))))]
        clear hok hno
        (repeat' (first | (show VH _ _ _ _ _ _ _; first | refine v_seq ?_ | refine r_seq ?_ | refine v_block ?_ | refine v_ret ?_ | refine v_skip ?_ | refine v_cond_t rfl tbL ?_) | (show SH _ _ _ _ _ (_ :: _) _ _ _; first | (show SH _ _ _ _ _ (⟨_, .move _, _, _, _, _⟩ :: _) _ _ _; refine mov evL ?_) | (show SH _ _ _ _ _ (⟨_, .assign _, _, _, _, _⟩ :: _) _ _ _; refine asg evL ?_) | (show SH _ _ _ _ _ (⟨_, .binOp .lss _ _ _ _, _, _, _, _⟩ :: _) _ _ _; refine lssT rfl rfl omD ?_) | (show SH _ _ _ _ _ (⟨_, .binOp .gtr _ _ _ _, _, _, _, _⟩ :: _) _ _ _; refine gtrT rfl rfl omD ?_) | (show SH _ _ _ _ _ (⟨_, .load _ _, _, _, _, _⟩ :: _) _ _ _; first | refine lbx rfl spL (by rfl) ?_ | refine lrg rfl (fun _ _ => rdS) (by rfl) omL (by assumption) (by rfl) ?_) | (show SH _ _ _ _ _ (⟨_, .indexAddr _ _ _, _, _, _, _⟩ :: _) _ _ _; refine ix rfl rfl (by with_reducible rfl) (fun _ _ => rdS) (by rfl) omL omL ?_) | refine slen rfl ?_ | refine fad rfl ?_) | refine s_nil ?_ | refine kh_normal ?_ | refine kh_ret ?_ | refine bh_ret ?_))
        exact rh1 rfl rfl ⟨rfl, rfl⟩ (ent_nil _)
    · obtain rfl : k = L.length := by omega
      clear hkl hk
      (repeat' (first | (show VH _ _ _ _ _ _ _; first | refine v_seq ?_ | refine r_seq ?_ | refine v_block ?_ | refine v_exit ?_ | refine v_cond_f rfl tbL ?_) | (show SH _ _ _ _ _ (_ :: _) _ _ _; first | (show SH _ _ _ _ _ (⟨_, .move _, _, _, _, _⟩ :: _) _ _ _; refine mov evL ?_) | (show SH _ _ _ _ _ (⟨_, .assign _, _, _, _, _⟩ :: _) _ _ _; refine asg evL ?_) | (show SH _ _ _ _ _ (⟨_, .binOp .lss _ _ _ _, _, _, _, _⟩ :: _) _ _ _; refine lssF rfl rfl omD ?_) | (show SH _ _ _ _ _ (⟨_, .load _ _, _, _, _, _⟩ :: _) _ _ _; refine lbx rfl spL (by rfl) ?_) | refine slen rfl ?_ | refine fad rfl ?_) | refine s_nil ?_ | refine kh_normal ?_ | refine kh_exit ?_ | refine bh_exit ?_))
      refine v_norm [(1,_),(4,_)] heL (fun g => ?_)
      refine v_loop [(2,2),(4,4),(30,44)] (fun k : Nat => [(4, .int .i64 k)]) (fun _ => [bxR b t s A L.length c B gl.length d]) (fun k => k ≤ gl.length ∧ ∀ j, j < k → (gl.getD j Flat.dflt).txt.length ≤ 400) (fun k => gl.length - k) 0 hsL enL ⟨Nat.zero_le _, fun j h => absurd h (by omega)⟩ ?_
      rintro k g ⟨hk, hok2⟩
      simp only [sets]
      by_cases hkl : k < gl.length
      · have hme := msg_enc (l := gl) (k := k) rfl
        by_cases hc : (gl.getD k Flat.dflt).txt.length ≤ 400
        · have hok' : ∀ j, j < k + 1 → (gl.getD j Flat.dflt).txt.length ≤ 400 := fun j hj => by
            by_cases e : j = k
            · rw [e]; exact hc
            · exact hok2 j (by omega)
          clear hok hok2 hno
          (repeat' (first | (show VH _ _ _ _ _ _ _; first | refine v_seq ?_ | refine r_seq ?_ | refine v_block ?_ | refine v_skip ?_ | refine v_cond_t rfl tbL ?_ | refine v_cond_f rfl tbL ?_) | (show SH _ _ _ _ _ (_ :: _) _ _ _; first | (show SH _ _ _ _ _ (⟨_, .move _, _, _, _, _⟩ :: _) _ _ _; refine mov evL ?_) | (show SH _ _ _ _ _ (⟨_, .assign _, _, _, _, _⟩ :: _) _ _ _; refine asg evL ?_) | (show SH _ _ _ _ _ (⟨_, .binOp .lss _ _ _ _, _, _, _, _⟩ :: _) _ _ _; refine lssT rfl rfl omD ?_) | (show SH _ _ _ _ _ (⟨_, .binOp .gtr _ _ _ _, _, _, _, _⟩ :: _) _ _ _; refine gtrF rfl rfl omD ?_) | (show SH _ _ _ _ _ (⟨_, .binOp .add _ _ _ _, _, _, _, _⟩ :: _) _ _ _; refine add rfl rfl inL ?_) | (show SH _ _ _ _ _ (⟨_, .load _ _, _, _, _, _⟩ :: _) _ _ _; first | refine lbx rfl spL (by rfl) ?_ | refine lrg rfl (fun _ _ => rdS) (by rfl) omL (by assumption) (by rfl) ?_) | (show SH _ _ _ _ _ (⟨_, .indexAddr _ _ _, _, _, _, _⟩ :: _) _ _ _; refine ix rfl rfl (by with_reducible rfl) (fun _ _ => rdS) (by rfl) omL omL ?_) | (show SH _ _ _ _ _ (⟨_, .call ⟨.builtin _, _, _⟩, _, _, _, _⟩ :: _) _ _ _; first | refine slen rfl ?_ | refine sln rfl ?_) | refine fad rfl ?_) | refine s_nil ?_ | refine kh_normal ?_ | refine bh_normal ?_))
          exact ⟨agL, k + 1, hsL, enL, ⟨hkl, hok'⟩, by omega⟩
        · rw [hno false rfl (fun h => hc (h.2.2.2 _ (getD_mem hkl)))]
          clear hok hok2 hno
          (repeat' (first | (show VH _ _ _ _ _ _ _; first | refine v_seq ?_ | refine r_seq ?_ | refine v_block ?_ | refine v_ret ?_ | refine v_skip ?_ | refine v_cond_t rfl tbL ?_) | (show SH _ _ _ _ _ (_ :: _) _ _ _; first | (show SH _ _ _ _ _ (⟨_, .move _, _, _, _, _⟩ :: _) _ _ _; refine mov evL ?_) | (show SH _ _ _ _ _ (⟨_, .assign _, _, _, _, _⟩ :: _) _ _ _; refine asg evL ?_) | (show SH _ _ _ _ _ (⟨_, .binOp .lss _ _ _ _, _, _, _, _⟩ :: _) _ _ _; refine lssT rfl rfl omD ?_) | (show SH _ _ _ _ _ (⟨_, .binOp .gtr _ _ _ _, _, _, _, _⟩ :: _) _ _ _; refine gtrT rfl rfl omD ?_) | (show SH _ _ _ _ _ (⟨_, .load _ _, _, _, _, _⟩ :: _) _ _ _; first | refine lbx rfl spL (by rfl) ?_ | refine lrg rfl (fun _ _ => rdS) (by rfl) omL (by assumption) (by rfl) ?_) | (show SH _ _ _ _ _ (⟨_, .indexAddr _ _ _, _, _, _, _⟩ :: _) _ _ _; refine ix rfl rfl (by with_reducible rfl) (fun _ _ => rdS) (by rfl) omL omL ?_) | (show SH _ _ _ _ _ (⟨_, .call ⟨.builtin _, _, _⟩, _, _, _, _⟩ :: _) _ _ _; first | refine slen rfl ?_ | refine sln rfl ?_) | refine fad rfl ?_) | refine s_nil ?_ | refine kh_normal ?_ | refine kh_ret ?_ | refine bh_ret ?_))
          exact rh1 rfl rfl ⟨rfl, rfl⟩ (ent_nil _)
      · obtain rfl : k = gl.length := by omega
        rw [decide_eq_true (show SmallM (mbrs L) gl from ⟨by rw [mbrs_len]; exact h40, h60, fun m hm => by
          obtain ⟨x, hx, rfl⟩ := List.mem_map.1 hm
          exact all_at (p := fun x : MbrP => x.m.ign.length ≤ 40) Flat.dflt hok x hx, all_at (p := fun x : Msg => x.txt.length ≤ 400) Flat.dflt hok2⟩)]
        clear hok hok2 hno
        (repeat' (first | (show VH _ _ _ _ _ _ _; first | refine v_seq ?_ | refine r_seq ?_ | refine v_ret ?_ | refine v_exit ?_ | refine v_cond_f rfl tbL ?_) | (show SH _ _ _ _ _ (_ :: _) _ _ _; first | (show SH _ _ _ _ _ (⟨_, .move _, _, _, _, _⟩ :: _) _ _ _; refine mov evL ?_) | (show SH _ _ _ _ _ (⟨_, .assign _, _, _, _, _⟩ :: _) _ _ _; refine asg evL ?_) | (show SH _ _ _ _ _ (⟨_, .binOp .lss _ _ _ _, _, _, _, _⟩ :: _) _ _ _; refine lssF rfl rfl omD ?_) | (show SH _ _ _ _ _ (⟨_, .load _ _, _, _, _, _⟩ :: _) _ _ _; refine lbx rfl spL (by rfl) ?_) | refine slen rfl ?_ | refine fad rfl ?_) | refine s_nil ?_ | refine kh_normal ?_ | refine kh_exit ?_ | refine bh_exit ?_))
        exact rh1 rfl rfl ⟨rfl, rfl⟩ (ent_nil _)
  · have hcc : ∀ z : List Value, z = z → ¬ (L.length ≤ 40 ∧ gl.length ≤ 60) := fun _ _ => h40
    rw [hno false rfl (fun h => h40 ⟨by have := h.1; rwa [mbrs_len] at this, h.2.1⟩)]
    clear hno h40
    refine enterH Try.func12 rfl rfl Try.ntmps12 rfl (Wd.refl _) ?_
    by_cases h1 : L.length ≤ 40
    · have h2 : ¬ gl.length ≤ 60 := fun h => hcc [] rfl ⟨h1, h⟩
      clear hcc
      (repeat' (first | (show VH _ _ _ _ _ _ _; first | refine v_seq ?_ | refine r_seq ?_ | refine v_ret ?_ | refine v_cond_t rfl tbL ?_) | (show SH _ _ _ _ _ (_ :: _) _ _ _; first | (show SH _ _ _ _ _ (⟨_, _, _, _, _, some _⟩ :: _) _ _ _; (refine gif rfl rfl ?_; refine giFF tbL ?_)) | (show SH _ _ _ _ _ (⟨_, .move _, _, _, _, _⟩ :: _) _ _ _; refine mov evL ?_) | (show SH _ _ _ _ _ (⟨_, .assign _, _, _, _, _⟩ :: _) _ _ _; refine asg evL ?_) | (show SH _ _ _ _ _ (⟨_, .binOp .gtr _ _ _ _, _, _, _, _⟩ :: _) _ _ _; first | refine gtrT rfl rfl omD ?_ | refine gtrF rfl rfl omD ?_) | (show SH _ _ _ _ _ (⟨_, .load _ _, _, _, _, _⟩ :: _) _ _ _; refine lbx rfl spL (by rfl) ?_) | refine slen rfl ?_ | (show SH _ _ _ _ _ (⟨_, .pick _ _ _, _, _, _, _⟩ :: _) _ _ _; refine pkf rfl tbL evL ?_) | refine fad rfl ?_ | (show SH _ _ _ _ _ (⟨_, .box _ _, _, _, _, _⟩ :: _) _ _ _; refine bxx rfl evL rfl (fun b => ?_))) | refine s_nil ?_ | refine kh_normal ?_ | refine kh_ret ?_))
      exact rh1 rfl rfl ⟨rfl, rfl⟩ (ent_nil _)
    · clear hcc
      (repeat' (first | (show VH _ _ _ _ _ _ _; first | refine v_seq ?_ | refine r_seq ?_ | refine v_ret ?_ | refine v_cond_t rfl tbL ?_) | (show SH _ _ _ _ _ (_ :: _) _ _ _; first | (show SH _ _ _ _ _ (⟨_, _, _, _, _, some _⟩ :: _) _ _ _; (refine gif rfl rfl ?_; refine giFT tbL ?_)) | (show SH _ _ _ _ _ (⟨_, .move _, _, _, _, _⟩ :: _) _ _ _; refine mov evL ?_) | (show SH _ _ _ _ _ (⟨_, .assign _, _, _, _, _⟩ :: _) _ _ _; refine asg evL ?_) | (show SH _ _ _ _ _ (⟨_, .binOp .gtr _ _ _ _, _, _, _, _⟩ :: _) _ _ _; refine gtrT rfl rfl omD ?_) | (show SH _ _ _ _ _ (⟨_, .load _ _, _, _, _, _⟩ :: _) _ _ _; refine lbx rfl spL (by rfl) ?_) | refine slen rfl ?_ | (show SH _ _ _ _ _ (⟨_, .pick _ _ _, _, _, _, _⟩ :: _) _ _ _; refine pkt rfl tbL evL ?_) | refine fad rfl ?_ | (show SH _ _ _ _ _ (⟨_, .box _ _, _, _, _, _⟩ :: _) _ _ _; refine bxx rfl evL rfl (fun b => ?_))) | refine s_nil ?_ | refine kh_normal ?_ | refine kh_ret ?_))
      exact rh1 rfl rfl ⟨rfl, rfl⟩ (ent_nil _)
set_option maxHeartbeats 4000000 in
set_option maxRecDepth 100000 in
theorem same37_spec (t s : Int) (A : Option Addr) (L : List MbrP) (c : Nat) (B : Option Addr) (gl : List Msg) (d : Nat) (t' s' : Int) (A' : Option Addr) (L' : List MbrP) (c' : Nat) (B' : Option Addr) (gl' : List Msg) (d' : Nat) (w : World) (hz : SzR L gl) (hz' : SzR L' gl') (hr : RdR w A L B gl) (hr' : RdR w A' L' B' gl') :
    Ret Try.prog 20 [rv37 t s A L c B gl d, rv37 t' s' A' L' c' B' gl' d'].toArray w (Out w (.bool (decide (rom t s L gl = rom t' s' L' gl')))) := by
  obtain ⟨hl, hgl, hig, _⟩ := hz
  obtain ⟨hl', hgl', hig', _⟩ := hz'
  obtain ⟨hrA, hri, hrB⟩ := hr
  obtain ⟨hrA', hri', hrB'⟩ := hr'
  have hno : ∀ b, b = false → ¬ (rom t s L gl = rom t' s' L' gl') → decide (rom t s L gl = rom t' s' L' gl') = b := fun b hb h => by rw [hb]; exact decide_eq_false h
  unfold rv37
  by_cases h1 : t = t'
  case neg =>
    rw [hno false rfl (fun h => h1 (congrArg Rom.tick h))]
    clear hno
    refine enterH Try.func20 rfl rfl Try.ntmps20 rfl (Wd.refl _) ?_
    (repeat' (first | (show VH _ _ _ _ _ _ _; first | refine v_seq ?_ | refine r_seq ?_ | refine v_ret ?_ | refine v_cond_t rfl tbL ?_) | (show SH _ _ _ _ _ (_ :: _) _ _ _; first | (show SH _ _ _ _ _ (⟨_, _, _, _, _, some _⟩ :: _) _ _ _; (refine gif rfl rfl ?_; refine giFT tbL ?_)) | (show SH _ _ _ _ _ (⟨_, .move _, _, _, _, _⟩ :: _) _ _ _; refine mov evL ?_) | (show SH _ _ _ _ _ (⟨_, .assign _, _, _, _, _⟩ :: _) _ _ _; refine asg evL ?_) | (show SH _ _ _ _ _ (⟨_, .binOp .neq _ _ _ _, _, _, _, _⟩ :: _) _ _ _; refine neqT rfl rfl omD ?_) | (show SH _ _ _ _ _ (⟨_, .load _ _, _, _, _, _⟩ :: _) _ _ _; refine lbx rfl spL (by rfl) ?_) | (show SH _ _ _ _ _ (⟨_, .pick _ _ _, _, _, _, _⟩ :: _) _ _ _; refine pkt rfl tbL evL ?_) | refine fad rfl ?_ | (show SH _ _ _ _ _ (⟨_, .box _ _, _, _, _, _⟩ :: _) _ _ _; refine bxx rfl evL rfl (fun b => ?_))) | refine s_nil ?_ | refine kh_normal ?_ | refine kh_ret ?_))
    exact rh1 rfl rfl ⟨rfl, rfl⟩ (ent_nil _)
  by_cases h2 : s = s'
  case neg =>
    rw [hno false rfl (fun h => h2 (congrArg Rom.said h))]
    clear hno
    refine enterH Try.func20 rfl rfl Try.ntmps20 rfl (Wd.refl _) ?_
    (repeat' (first | (show VH _ _ _ _ _ _ _; first | refine v_seq ?_ | refine r_seq ?_ | refine v_ret ?_ | refine v_cond_t rfl tbL ?_) | (show SH _ _ _ _ _ (_ :: _) _ _ _; first | (show SH _ _ _ _ _ (⟨_, _, _, _, _, some _⟩ :: _) _ _ _; (refine gif rfl rfl ?_; first | refine giFF tbL ?_ | refine giFT tbL ?_)) | (show SH _ _ _ _ _ (⟨_, .move _, _, _, _, _⟩ :: _) _ _ _; refine mov evL ?_) | (show SH _ _ _ _ _ (⟨_, .assign _, _, _, _, _⟩ :: _) _ _ _; refine asg evL ?_) | (show SH _ _ _ _ _ (⟨_, .binOp .neq _ _ _ _, _, _, _, _⟩ :: _) _ _ _; first | refine neqT rfl rfl omD ?_ | refine neqF rfl rfl omD ?_) | (show SH _ _ _ _ _ (⟨_, .load _ _, _, _, _, _⟩ :: _) _ _ _; refine lbx rfl spL (by rfl) ?_) | (show SH _ _ _ _ _ (⟨_, .pick _ _ _, _, _, _, _⟩ :: _) _ _ _; first | refine pkt rfl tbL evL ?_ | refine pkf rfl tbL evL ?_) | refine fad rfl ?_ | (show SH _ _ _ _ _ (⟨_, .box _ _, _, _, _, _⟩ :: _) _ _ _; refine bxx rfl evL rfl (fun b => ?_))) | refine s_nil ?_ | refine kh_normal ?_ | refine kh_ret ?_))
    exact rh1 rfl rfl ⟨rfl, rfl⟩ (ent_nil _)
  by_cases h3 : L.length = L'.length
  case neg =>
    rw [hno false rfl (fun h => h3 (by have := congrArg (fun r => r.ms.length) h; simp only [rom, mbrs_len] at this; exact this))]
    clear hno
    refine enterH Try.func20 rfl rfl Try.ntmps20 rfl (Wd.refl _) ?_
    (repeat' (first | (show VH _ _ _ _ _ _ _; first | refine v_seq ?_ | refine r_seq ?_ | refine v_ret ?_ | refine v_cond_t rfl tbL ?_) | (show SH _ _ _ _ _ (_ :: _) _ _ _; first | (show SH _ _ _ _ _ (⟨_, _, _, _, _, some _⟩ :: _) _ _ _; (refine gif rfl rfl ?_; first | refine giFF tbL ?_ | refine giFT tbL ?_)) | (show SH _ _ _ _ _ (⟨_, .move _, _, _, _, _⟩ :: _) _ _ _; refine mov evL ?_) | (show SH _ _ _ _ _ (⟨_, .assign _, _, _, _, _⟩ :: _) _ _ _; refine asg evL ?_) | (show SH _ _ _ _ _ (⟨_, .binOp .neq _ _ _ _, _, _, _, _⟩ :: _) _ _ _; first | refine neqT rfl rfl omD ?_ | refine neqF rfl rfl omD ?_) | (show SH _ _ _ _ _ (⟨_, .load _ _, _, _, _, _⟩ :: _) _ _ _; refine lbx rfl spL (by rfl) ?_) | refine slen rfl ?_ | (show SH _ _ _ _ _ (⟨_, .pick _ _ _, _, _, _, _⟩ :: _) _ _ _; first | refine pkt rfl tbL evL ?_ | refine pkf rfl tbL evL ?_) | refine fad rfl ?_ | (show SH _ _ _ _ _ (⟨_, .box _ _, _, _, _, _⟩ :: _) _ _ _; refine bxx rfl evL rfl (fun b => ?_))) | refine s_nil ?_ | refine kh_normal ?_ | refine kh_ret ?_))
    exact rh1 rfl rfl ⟨rfl, rfl⟩ (ent_nil _)
  by_cases h4 : gl.length = gl'.length
  case neg =>
    rw [hno false rfl (fun h => h4 (congrArg (fun r => r.log.length) h))]
    clear hno
    refine enterH Try.func20 rfl rfl Try.ntmps20 rfl (Wd.refl _) ?_
    (repeat' (first | (show VH _ _ _ _ _ _ _; first | refine v_seq ?_ | refine r_seq ?_ | refine v_ret ?_ | refine v_cond_t rfl tbL ?_) | (show SH _ _ _ _ _ (_ :: _) _ _ _; first | (show SH _ _ _ _ _ (⟨_, _, _, _, _, some _⟩ :: _) _ _ _; (refine gif rfl rfl ?_; refine giFF tbL ?_)) | (show SH _ _ _ _ _ (⟨_, .move _, _, _, _, _⟩ :: _) _ _ _; refine mov evL ?_) | (show SH _ _ _ _ _ (⟨_, .assign _, _, _, _, _⟩ :: _) _ _ _; refine asg evL ?_) | (show SH _ _ _ _ _ (⟨_, .binOp .neq _ _ _ _, _, _, _, _⟩ :: _) _ _ _; first | refine neqT rfl rfl omD ?_ | refine neqF rfl rfl omD ?_) | (show SH _ _ _ _ _ (⟨_, .load _ _, _, _, _, _⟩ :: _) _ _ _; refine lbx rfl spL (by rfl) ?_) | refine slen rfl ?_ | (show SH _ _ _ _ _ (⟨_, .pick _ _ _, _, _, _, _⟩ :: _) _ _ _; refine pkf rfl tbL evL ?_) | refine fad rfl ?_ | (show SH _ _ _ _ _ (⟨_, .box _ _, _, _, _, _⟩ :: _) _ _ _; refine bxx rfl evL rfl (fun b => ?_))) | refine s_nil ?_ | refine kh_normal ?_ | refine kh_ret ?_))
    exact rh1 rfl rfl ⟨rfl, rfl⟩ (ent_nil _)
  subst h1 h2
  have hyes : (∀ j, j < L.length → (L.getD j Flat.dflt).m = (L'.getD j Flat.dflt).m) → (∀ j, j < gl.length → gl.getD j Flat.dflt = gl'.getD j Flat.dflt) → rom t s L gl = rom t s L' gl' := fun e1 e2 => by
    have g1 : mbrs L = mbrs L' := by
      refine List.ext_getElem (by rw [mbrs_len, mbrs_len]; exact h3) fun j a b => ?_
      have := e1 j (by rw [mbrs_len] at a; exact a)
      rw [← getD_at mbr0 a, ← getD_at mbr0 b, mbrs_at (by rw [mbrs_len] at a; exact a), mbrs_at (by rw [mbrs_len] at b; exact b)]
      exact this
    have g2 : gl = gl' := by
      refine List.ext_getElem h4 fun j a b => ?_
      rw [← getD_at Flat.dflt a, ← getD_at Flat.dflt b]
      exact e2 j a
    unfold rom
    rw [g1, g2]
  refine enterH Try.func20 rfl rfl Try.ntmps20 rfl (Wd.refl _) ?_
  (repeat' (first | (show VH _ _ _ _ _ _ _; first | refine v_seq ?_ | refine r_seq ?_ | refine v_block ?_ | refine v_skip ?_ | refine v_cond_f rfl tbL ?_) | (show SH _ _ _ _ _ (_ :: _) _ _ _; first | (show SH _ _ _ _ _ (⟨_, _, _, _, _, some _⟩ :: _) _ _ _; (refine gif rfl rfl ?_; refine giFF tbL ?_)) | (show SH _ _ _ _ _ (⟨_, .move _, _, _, _, _⟩ :: _) _ _ _; refine mov evL ?_) | (show SH _ _ _ _ _ (⟨_, .assign _, _, _, _, _⟩ :: _) _ _ _; refine asg evL ?_) | (show SH _ _ _ _ _ (⟨_, .binOp .neq _ _ _ _, _, _, _, _⟩ :: _) _ _ _; refine neqF rfl rfl omD ?_) | (show SH _ _ _ _ _ (⟨_, .load _ _, _, _, _, _⟩ :: _) _ _ _; refine lbx rfl spL (by rfl) ?_) | refine slen rfl ?_ | (show SH _ _ _ _ _ (⟨_, .pick _ _ _, _, _, _, _⟩ :: _) _ _ _; refine pkf rfl tbL evL ?_) | refine fad rfl ?_ | (show SH _ _ _ _ _ (⟨_, .box _ _, _, _, _, _⟩ :: _) _ _ _; refine bxx rfl evL rfl (fun b => ?_))) | refine s_nil ?_ | refine kh_normal ?_))
  rename_i b2
  refine v_norm [(2,_),(3,_),(5,_)] heL (fun g => ?_)
  refine v_loop [(4,5),(37,72)] (fun k : Nat => [(5, .int .i64 k)]) (fun _ => [bxR b2 t s A L.length c B gl.length d, bxR b t s A' L'.length c' B' gl'.length d']) (fun k => k ≤ L.length ∧ ∀ j, j < k → (L.getD j Flat.dflt).m = (L'.getD j Flat.dflt).m) (fun k => L.length - k) 0 hsL enL ⟨Nat.zero_le _, fun j h => absurd h (by omega)⟩ ?_
  rintro k g ⟨hk, hok⟩
  simp only [sets]
  by_cases hkl : k < L.length
  · have hkl' : k < L'.length := by omega
    have hme := mbr_enc (l := L) (k := k) rfl
    have hme' := mbr_enc (l := L') (k := k) rfl
    have hS := fun w he => sameInts_spec (L.getD k Flat.dflt).A (L'.getD k Flat.dflt).A _ _ (L.getD k Flat.dflt).ca (L'.getD k Flat.dflt).ca w (hig _ (getD_mem hkl)) (hig' _ (getD_mem hkl')) ((hri _ (getD_mem hkl)).ext he) ((hri' _ (getD_mem hkl')).ext he)
    by_cases g1 : (L.getD k Flat.dflt).m.id = (L'.getD k Flat.dflt).m.id
    · by_cases g2 : (L.getD k Flat.dflt).m.ign = (L'.getD k Flat.dflt).m.ign
      · have hm : (L.getD k Flat.dflt).m = (L'.getD k Flat.dflt).m := by
          generalize (L.getD k Flat.dflt).m = x at g1 g2
          generalize (L'.getD k Flat.dflt).m = y at g1 g2
          cases x; cases y
          simp only at g1 g2
          rw [g1, g2]
        have hok' : ∀ j, j < k + 1 → (L.getD j Flat.dflt).m = (L'.getD j Flat.dflt).m := fun j hj => by
          by_cases e : j = k
          · rw [e]; exact hm
          · exact hok j (by omega)
        rw [decide_eq_true g2] at hS
        clear hok hno hyes hm g2 hri hri' hig hig'
        (repeat' (first | (show VH _ _ _ _ _ _ _; first | refine v_seq ?_ | refine r_seq ?_ | refine r_quiet hmix (by kernel_rfl) ?_ | refine v_block ?_ | refine v_skip ?_ | refine v_cond_t rfl tbL ?_ | refine v_cond_f rfl tbL ?_) | (show SH _ _ _ _ _ (_ :: _) _ _ _; first | (show SH _ _ _ _ _ (⟨_, _, _, _, _, some _⟩ :: _) _ _ _; (refine gif rfl rfl ?_; refine giFF tbL ?_)) | (show SH _ _ _ _ _ (⟨_, .move _, _, _, _, _⟩ :: _) _ _ _; refine mov evL ?_) | (show SH _ _ _ _ _ (⟨_, .assign _, _, _, _, _⟩ :: _) _ _ _; refine asg evL ?_) | (show SH _ _ _ _ _ (⟨_, .binOp .lss _ _ _ _, _, _, _, _⟩ :: _) _ _ _; refine lssT rfl rfl omD ?_) | (show SH _ _ _ _ _ (⟨_, .binOp .neq _ _ _ _, _, _, _, _⟩ :: _) _ _ _; refine neqF rfl rfl omD ?_) | (show SH _ _ _ _ _ (⟨_, .binOp .add _ _ _ _, _, _, _, _⟩ :: _) _ _ _; refine add rfl rfl inL ?_) | (show SH _ _ _ _ _ (⟨_, .load _ _, _, _, _, _⟩ :: _) _ _ _; first | refine lbx rfl spL (by rfl) ?_ | refine lrg rfl (fun _ _ => rdS) (by rfl) omL (by assumption) (by rfl) ?_) | (show SH _ _ _ _ _ (⟨_, .indexAddr _ _ _, _, _, _, _⟩ :: _) _ _ _; refine ix rfl rfl (by with_reducible rfl) (fun _ _ => rdS) (by rfl) omL omL ?_) | refine slen rfl ?_ | (show SH _ _ _ _ _ (⟨_, .call ⟨.value (.func 49), _, _⟩, _, _, _, _⟩ :: _) _ _ _; refine cl (callee := .func 49) rfl (fun w hw => hS w hw.ext) rfl rfl ?_) | refine bnoT rfl ?_ | (show SH _ _ _ _ _ (⟨_, .pick _ _ _, _, _, _, _⟩ :: _) _ _ _; refine pkf rfl tbL evL ?_) | refine fad rfl ?_) | refine s_nil ?_ | refine kh_normal ?_ | refine bh_normal ?_))
        exact ⟨agL, k + 1, hsL, enL, ⟨hkl, hok'⟩, by omega⟩
      · rw [hno false rfl (fun h => g2 (by
          have h5 : mbrs L = mbrs L' := congrArg Rom.ms h
          have := mbrs_at hkl
          rw [h5, mbrs_at hkl'] at this
          rw [this]))]
        rw [decide_eq_false g2] at hS
        clear hok hno hyes g2 hri hri' hig hig'
        (repeat' (first | (show VH _ _ _ _ _ _ _; first | refine v_seq ?_ | refine r_seq ?_ | refine r_quiet hmix (by kernel_rfl) ?_ | refine v_block ?_ | refine v_ret ?_ | refine v_skip ?_ | refine v_cond_t rfl tbL ?_) | (show SH _ _ _ _ _ (_ :: _) _ _ _; first | (show SH _ _ _ _ _ (⟨_, _, _, _, _, some _⟩ :: _) _ _ _; (refine gif rfl rfl ?_; refine giFF tbL ?_)) | (show SH _ _ _ _ _ (⟨_, .move _, _, _, _, _⟩ :: _) _ _ _; refine mov evL ?_) | (show SH _ _ _ _ _ (⟨_, .assign _, _, _, _, _⟩ :: _) _ _ _; refine asg evL ?_) | (show SH _ _ _ _ _ (⟨_, .binOp .lss _ _ _ _, _, _, _, _⟩ :: _) _ _ _; refine lssT rfl rfl omD ?_) | (show SH _ _ _ _ _ (⟨_, .binOp .neq _ _ _ _, _, _, _, _⟩ :: _) _ _ _; refine neqF rfl rfl omD ?_) | (show SH _ _ _ _ _ (⟨_, .load _ _, _, _, _, _⟩ :: _) _ _ _; first | refine lbx rfl spL (by rfl) ?_ | refine lrg rfl (fun _ _ => rdS) (by rfl) omL (by assumption) (by rfl) ?_) | (show SH _ _ _ _ _ (⟨_, .indexAddr _ _ _, _, _, _, _⟩ :: _) _ _ _; refine ix rfl rfl (by with_reducible rfl) (fun _ _ => rdS) (by rfl) omL omL ?_) | refine slen rfl ?_ | (show SH _ _ _ _ _ (⟨_, .call ⟨.value (.func 49), _, _⟩, _, _, _, _⟩ :: _) _ _ _; refine cl (callee := .func 49) rfl (fun w hw => hS w hw.ext) rfl rfl ?_) | refine bnoF rfl ?_ | (show SH _ _ _ _ _ (⟨_, .pick _ _ _, _, _, _, _⟩ :: _) _ _ _; refine pkf rfl tbL evL ?_) | refine fad rfl ?_) | refine s_nil ?_ | refine kh_normal ?_ | refine kh_ret ?_ | refine bh_ret ?_))
        exact rh1 rfl rfl ⟨rfl, rfl⟩ (ent_nil _)
    · rw [hno false rfl (fun h => g1 (by
        have h5 : mbrs L = mbrs L' := congrArg Rom.ms h
        have := mbrs_at hkl
        rw [h5, mbrs_at hkl'] at this
        rw [this]))]
      clear hok hno hyes hS hri hri' hig hig'
      (repeat' (first | (show VH _ _ _ _ _ _ _; first | refine v_seq ?_ | refine r_seq ?_ | refine r_quiet hmix (by kernel_rfl) ?_ | refine v_block ?_ | refine v_ret ?_ | refine v_skip ?_ | refine v_cond_t rfl tbL ?_) | (show SH _ _ _ _ _ (_ :: _) _ _ _; first | (show SH _ _ _ _ _ (⟨_, _, _, _, _, some _⟩ :: _) _ _ _; (refine gif rfl rfl ?_; refine giFT tbL ?_)) | (show SH _ _ _ _ _ (⟨_, .move _, _, _, _, _⟩ :: _) _ _ _; refine mov evL ?_) | (show SH _ _ _ _ _ (⟨_, .assign _, _, _, _, _⟩ :: _) _ _ _; refine asg evL ?_) | (show SH _ _ _ _ _ (⟨_, .binOp .lss _ _ _ _, _, _, _, _⟩ :: _) _ _ _; refine lssT rfl rfl omD ?_) | (show SH _ _ _ _ _ (⟨_, .binOp .neq _ _ _ _, _, _, _, _⟩ :: _) _ _ _; refine neqT rfl rfl omD ?_) | (show SH _ _ _ _ _ (⟨_, .load _ _, _, _, _, _⟩ :: _) _ _ _; first | refine lbx rfl spL (by rfl) ?_ | refine lrg rfl (fun _ _ => rdS) (by rfl) omL (by assumption) (by rfl) ?_) | (show SH _ _ _ _ _ (⟨_, .indexAddr _ _ _, _, _, _, _⟩ :: _) _ _ _; refine ix rfl rfl (by with_reducible rfl) (fun _ _ => rdS) (by rfl) omL omL ?_) | refine slen rfl ?_ | (show SH _ _ _ _ _ (⟨_, .pick _ _ _, _, _, _, _⟩ :: _) _ _ _; refine pkt rfl tbL evL ?_) | refine fad rfl ?_) | refine s_nil ?_ | refine kh_normal ?_ | refine kh_ret ?_ | refine bh_ret ?_))
      exact rh1 rfl rfl ⟨rfl, rfl⟩ (ent_nil _)
  · obtain rfl : k = L.length := by omega
    clear hkl hk hri hri' hig hig'
    (repeat' (first | (show VH _ _ _ _ _ _ _; first | refine v_seq ?_ | refine r_seq ?_ | refine v_block ?_ | refine v_exit ?_ | refine v_cond_f rfl tbL ?_) | (show SH _ _ _ _ _ (_ :: _) _ _ _; first | (show SH _ _ _ _ _ (⟨_, .move _, _, _, _, _⟩ :: _) _ _ _; refine mov evL ?_) | (show SH _ _ _ _ _ (⟨_, .assign _, _, _, _, _⟩ :: _) _ _ _; refine asg evL ?_) | (show SH _ _ _ _ _ (⟨_, .binOp .lss _ _ _ _, _, _, _, _⟩ :: _) _ _ _; refine lssF rfl rfl omD ?_) | (show SH _ _ _ _ _ (⟨_, .load _ _, _, _, _, _⟩ :: _) _ _ _; refine lbx rfl spL (by rfl) ?_) | refine slen rfl ?_ | refine fad rfl ?_) | refine s_nil ?_ | refine kh_normal ?_ | refine kh_exit ?_ | refine bh_exit ?_))
    refine v_norm [(2,_),(3,_),(6,_)] heL (fun g => ?_)
    refine v_loop [(4,4),(6,6),(73,90)] (fun k : Nat => [(6, .int .i64 k)]) (fun _ => [bxR b2 t s A L.length c B gl.length d, bxR b t s A' L'.length c' B' gl'.length d']) (fun k => k ≤ gl.length ∧ ∀ j, j < k → gl.getD j Flat.dflt = gl'.getD j Flat.dflt) (fun k => gl.length - k) 0 hsL enL ⟨Nat.zero_le _, fun j h => absurd h (by omega)⟩ ?_
    rintro k g ⟨hk, hok2⟩
    simp only [sets]
    by_cases hkl : k < gl.length
    · have hkl' : k < gl'.length := by omega
      by_cases g1 : gl.getD k Flat.dflt = gl'.getD k Flat.dflt
      · have hok' : ∀ j, j < k + 1 → gl.getD j Flat.dflt = gl'.getD j Flat.dflt := fun j hj => by
          by_cases e : j = k
          · rw [e]; exact g1
          · exact hok2 j (by omega)
        clear hok hok2 hno hyes
        (repeat' (first | (show VH _ _ _ _ _ _ _; first | refine v_seq ?_ | refine r_seq ?_ | refine r_quiet hmix (by kernel_rfl) ?_ | refine v_block ?_ | refine v_skip ?_ | refine v_cond_t rfl tbL ?_) | (show SH _ _ _ _ _ (_ :: _) _ _ _; first | (show SH _ _ _ _ _ (⟨_, .move _, _, _, _, _⟩ :: _) _ _ _; refine mov evL ?_) | (show SH _ _ _ _ _ (⟨_, .binOp .lss _ _ _ _, _, _, _, _⟩ :: _) _ _ _; refine lssT rfl rfl omD ?_) | (show SH _ _ _ _ _ (⟨_, .load _ _, _, _, _, _⟩ :: _) _ _ _; first | refine lbx rfl spL (by rfl) ?_ | refine lra rfl (fun _ _ => rdS) (by rfl) omL ?_ | refine lra rfl (fun _ _ => rdS) (by rfl) (by simp only [List.length_cons, List.length_nil]; omega) ?_) | (show SH _ _ _ _ _ (⟨_, .indexAddr _ _ _, _, _, _, _⟩ :: _) _ _ _; refine ix rfl rfl (by with_reducible rfl) (fun _ _ => rdS) (by rfl) omL omL ?_) | refine slen rfl ?_ | refine fad rfl ?_) | refine s_nil ?_ | refine kh_normal ?_))
        refine nea (gl.getD k Flat.dflt) (gl'.getD k Flat.dflt) rfl rfl ?_
        rw [decide_eq_true g1]
        (repeat' (first | (show VH _ _ _ _ _ _ _; first | refine r_seq ?_ | refine v_skip ?_ | refine v_cond_f rfl tbL ?_) | (show SH _ _ _ _ _ (_ :: _) _ _ _; first | (show SH _ _ _ _ _ (⟨_, .move _, _, _, _, _⟩ :: _) _ _ _; refine mov evL ?_) | (show SH _ _ _ _ _ (⟨_, .assign _, _, _, _, _⟩ :: _) _ _ _; refine asg evL ?_) | (show SH _ _ _ _ _ (⟨_, .binOp .add _ _ _ _, _, _, _, _⟩ :: _) _ _ _; refine add rfl rfl inL ?_)) | refine s_nil ?_ | refine kh_normal ?_ | refine bh_normal ?_))
        exact ⟨agL, k + 1, hsL, enL, ⟨hkl, hok'⟩, by omega⟩
      · rw [hno false rfl (fun h => g1 (by rw [show gl = gl' from congrArg Rom.log h]))]
        clear hok hok2 hno hyes
        (repeat' (first | (show VH _ _ _ _ _ _ _; first | refine v_seq ?_ | refine r_seq ?_ | refine r_quiet hmix (by kernel_rfl) ?_ | refine v_block ?_ | refine v_skip ?_ | refine v_cond_t rfl tbL ?_) | (show SH _ _ _ _ _ (_ :: _) _ _ _; first | (show SH _ _ _ _ _ (⟨_, .move _, _, _, _, _⟩ :: _) _ _ _; refine mov evL ?_) | (show SH _ _ _ _ _ (⟨_, .binOp .lss _ _ _ _, _, _, _, _⟩ :: _) _ _ _; refine lssT rfl rfl omD ?_) | (show SH _ _ _ _ _ (⟨_, .load _ _, _, _, _, _⟩ :: _) _ _ _; first | refine lbx rfl spL (by rfl) ?_ | refine lra rfl (fun _ _ => rdS) (by rfl) omL ?_ | refine lra rfl (fun _ _ => rdS) (by rfl) (by simp only [List.length_cons, List.length_nil]; omega) ?_) | (show SH _ _ _ _ _ (⟨_, .indexAddr _ _ _, _, _, _, _⟩ :: _) _ _ _; refine ix rfl rfl (by with_reducible rfl) (fun _ _ => rdS) (by rfl) omL omL ?_) | refine slen rfl ?_ | refine fad rfl ?_) | refine s_nil ?_ | refine kh_normal ?_))
        refine nea (gl.getD k Flat.dflt) (gl'.getD k Flat.dflt) rfl rfl ?_
        rw [decide_eq_false g1]
        (repeat' (first | (show VH _ _ _ _ _ _ _; first | refine v_seq ?_ | refine r_seq ?_ | refine v_ret ?_ | refine v_cond_t rfl tbL ?_) | (show SH _ _ _ _ _ (_ :: _) _ _ _; (show SH _ _ _ _ _ (⟨_, .assign _, _, _, _, _⟩ :: _) _ _ _; refine asg evL ?_)) | refine s_nil ?_ | refine kh_normal ?_ | refine kh_ret ?_ | refine bh_ret ?_))
        exact rh1 rfl rfl ⟨rfl, rfl⟩ (ent_nil _)
    · obtain rfl : k = gl.length := by omega
      rw [decide_eq_true (hyes hok hok2)]
      clear hok hok2 hno hyes
      (repeat' (first | (show VH _ _ _ _ _ _ _; first | refine v_seq ?_ | refine r_seq ?_ | refine v_ret ?_ | refine v_exit ?_ | refine v_cond_f rfl tbL ?_) | (show SH _ _ _ _ _ (_ :: _) _ _ _; first | (show SH _ _ _ _ _ (⟨_, .move _, _, _, _, _⟩ :: _) _ _ _; refine mov evL ?_) | (show SH _ _ _ _ _ (⟨_, .assign _, _, _, _, _⟩ :: _) _ _ _; refine asg evL ?_) | (show SH _ _ _ _ _ (⟨_, .binOp .lss _ _ _ _, _, _, _, _⟩ :: _) _ _ _; refine lssF rfl rfl omD ?_) | (show SH _ _ _ _ _ (⟨_, .load _ _, _, _, _, _⟩ :: _) _ _ _; refine lbx rfl spL (by rfl) ?_) | refine slen rfl ?_ | refine fad rfl ?_) | refine s_nil ?_ | refine kh_normal ?_ | refine kh_exit ?_ | refine bh_exit ?_))
      exact rh1 rfl rfl ⟨rfl, rfl⟩ (ent_nil _)
end Go.Proofs.Ytplhnnlklnbahaa

/- Arguments are opened: structures of numbers, slices of these. -/
namespace Go.Fw
open Go.RowKit
def WfK : List IntKind → List Int → Prop
  | k :: ks, n :: ns => (Lit.int k n).wf = true ∧ WfK ks ns
  | [], [] => True
  | _, _ => False
theorem WfK.len : ∀ {ks : List IntKind} {ns : List Int}, WfK ks ns → ns.length = ks.length
  | [], [], _ => rfl
  | [], _ :: _, h => h.elim
  | _ :: _, [], h => h.elim
  | _ :: ks, _ :: ns, h => by rw [List.length_cons, List.length_cons, WfK.len h.2]
section
variable {H : Type} {enc : TypeId × Value → H} {P : Program} {w : World} {base : Nat} {spare : Nat → Bool} {held : Bool} {fuel : Nat} {t e : TypeId} {cs : List Value} {x : DataW H × List MemPlace} {ks : List IntKind}
/-- Rows of cells, side by side. -/
theorem rd_rows {α : Type} [F : Flat α] {a : Addr} : ∀ (l : List α), (∀ i, i < l.length → ∀ r, r < F.sz → w.cell? (a.add (i * F.sz + r)) = (F.enc (l.getD i F.dflt))[r]?) → Rd w (some a) l := fun l h j u hj => by
  have hp := F.pos
  have hjl : j < l.length * F.sz := by
    have := (List.getElem?_eq_some_iff.1 hj).1
    rwa [encs_len] at this
  have hi : j / F.sz < l.length := (Nat.div_lt_iff_lt_mul hp).2 hjl
  have hr : j % F.sz < F.sz := Nat.mod_lt _ hp
  have hc := h _ hi _ hr
  have hdm : j / F.sz * F.sz + j % F.sz = j := by rw [Nat.mul_comm]; exact Nat.div_add_mod j F.sz
  rw [hdm] at hc
  refine ⟨rfl, ?_⟩
  show w.cell? (a.add j) = some u
  rw [hc]
  have hlen : j % F.sz < (F.enc (l.getD (j / F.sz) F.dflt)).length := by rw [F.len]; exact hr
  have := encs_get hi (List.getElem?_eq_getElem hlen)
  rw [hdm, hj] at this
  rw [List.getElem?_eq_getElem hlen, this]
end
end Go.Fw

/- From what a law's function answers to the given statement: the arguments are read, and read as before behind the call. -/
namespace Go.Proofs.Ytplhnnlklnbahaa
open Go.Fw Go.RowKit Go.ChangeShapes Go.WideShapes Go.ChangeAt
theorem ownK : ownKnob Try.prog.godebug = none := by kernel_rfl
theorem laidK : laidOutB Try.prog = true := by kernel_rfl
section
variable {H : Type} {enc : TypeId × Value → H} {P : Program}
/-- All arguments read behind the call as they did before. -/
theorem trodAll_carry (hl : laidOutB P = true) {W W' : World} (hb : Below W.heap.size W W') : ∀ (ts : List TypeId) (vs : List Value) (ds : List (DataW H)) (ps : List MemPlace), (∀ t ∈ ts, P.readableRec t = true ∧ t < P.types.size) →
    DataW.TrodAll enc P W 0 (fun _ => true) true ts vs ds ps → (∀ x ∈ ps, x.block < W.heap.size) → DataW.TrodAll enc P W' 0 (fun b => decide (b < W.heap.size)) true ts vs ds ps
  | [], [], [], _, _, h, _ => h
  | t :: ts, v :: vs, d :: ds, ps, hr, ⟨p, q, h1, h2, h3⟩, hlt => by
    subst h3
    exact ⟨p, q, Below.trod hl (hr t (by simp)).1 (hr t (by simp)).2 h1 hb (fun x hx => hlt x (by simp [hx])),
      trodAll_carry hl hb ts vs ds q (fun t ht => hr t (by simp [ht])) h2 (fun x hx => hlt x (by simp [hx])), rfl⟩
  | [], _ :: _, _, _, _, h, _ => h.elim
  | [], [], _ :: _, _, _, h, _ => h.elim
  | _ :: _, [], _, _, _, h, _ => h.elim
  | _ :: _, _ :: _, [], _, _, h, _ => h.elim
/-- A law answers true and leaves all as it was: that is what its row asks. -/
theorem law_post {f : Func} {s : ChangeSpec} {tb : TypeId} {W W' : World} {args : Array Value} {ds gs : List (DataW H)} {before : List MemPlace} (hl : laidOutB P = true) (hrb : f.params.toList.all (fun t => P.readableRec t && decide (t < P.types.size)) = true)
    (hres : f.resultTypes = #[tb]) (htb : P.underlying tb = some .bool) (hs : s.vars = []) (hfn : (s.fn H ds).results = [.lit (.bool true)] ∧ (s.fn H ds).args = ds ∧ (s.fn H ds).vars = [])
    (hW : DataW.Whole enc P f.params.toList s.vars false W args.toList ds gs before) (hb : Below W.heap.size W W') : s.post enc P f false true false false W args (.bool true) W' := by
  have hr : ∀ t ∈ f.params.toList, P.readableRec t = true ∧ t < P.types.size := fun t ht => by simpa using List.all_eq_true.1 hrb t ht
  have hlt : ∀ x ∈ before, x.block < W.heap.size := fun x hx => hW.lt x hx
  have hW0 := hW
  obtain ⟨p, q, hA, hV, rfl, _, _⟩ := hW
  rw [hs] at hV
  obtain ⟨rfl, rfl⟩ := trodVars_none hV
  simp only [List.append_nil] at hW0 hlt
  obtain ⟨h1, h2, h3⟩ := hfn
  refine ⟨ds, [], p, [], p, [], hW0, ?_, ?_, ?_, World.keptBut_mono (fun x hx => ⟨hx, .inr (.inl hx)⟩) (hb.frame (· ∈ p)), fun h => by cases h⟩
  · rw [List.append_nil, h1, hres]
    exact ⟨[], [], shut_bool htb true, rfl, rfl⟩
  · rw [List.append_nil, h2]
    exact trodAll_carry hl hb _ _ _ _ hr hA hlt
  · rw [List.append_nil, h3, hs]
    exact rfl
end
theorem i64_of {n : Int} (h : (Lit.int .i64 n).wf = true) : -9223372036854775808 ≤ n ∧ n ≤ 9223372036854775807 := by
  simpa [Lit.wf, IntKind.min, IntKind.max, IntKind.signed, IntKind.bits] using h
end Go.Proofs.Ytplhnnlklnbahaa

/- Layer 37 (chat): words, texts, rooms and things that are done, as arguments. -/
namespace Go.Proofs.Ytplhnnlklnbahaa
open Go.Fw Go.RowKit Go.ChangeShapes Go.WideShapes Go.ChangeAt
section
variable {H : Type} {enc : TypeId × Value → H} {P : Program} {w : World} {base : Nat} {spare : Nat → Bool} {held : Bool} {fuel : Nat} {t e : TypeId} {cs : List Value} {x : DataW H × List MemPlace}
/-- A structure of 2 fields of one cell each. -/
theorem two_openF {f0 f1 : Field} (ht : P.underlying t = some (.struct #[f0, f1])) (hc : P.cellsOf t = 2) (h0 : f0.offset = 0) (h1 : f1.offset = 1) (c0 : P.cellsOf f0.type = 1) (c1 : P.cellsOf f1.type = 1) (h : DataW.trod enc P w base spare held fuel t cs = some x) :
    ∃ m u0 u1 y0 y1, cs = [u0, u1] ∧ DataW.trod enc P w base spare held m f0.type [u0] = some y0 ∧ DataW.trod enc P w base spare held m f1.type [u1] = some y1 := by
  obtain ⟨xs, m, _, _, hl, hxl, hf⟩ := DataW.trod_struct ht h
  rw [hc] at hl
  match xs, hxl with
  | [y0, y1], _ =>
    have e0 := hf 0 f0 rfl
    have e1 := hf 1 f1 rfl
    rw [h0, c0] at e0
    rw [h1, c1] at e1
    match cs, hl with
    | [u0, u1], _ => exact ⟨m, u0, u1, y0, y1, rfl, e0, e1⟩
/-- A structure of 4 fields of one cell each. -/
theorem four_open {f0 f1 f2 f3 : Field} (ht : P.underlying t = some (.struct #[f0, f1, f2, f3])) (hc : P.cellsOf t = 4) (h0 : f0.offset = 0) (h1 : f1.offset = 1) (h2 : f2.offset = 2) (h3 : f3.offset = 3) (c0 : P.cellsOf f0.type = 1) (c1 : P.cellsOf f1.type = 1) (c2 : P.cellsOf f2.type = 1) (c3 : P.cellsOf f3.type = 1) (h : DataW.trod enc P w base spare held fuel t cs = some x) :
    ∃ m u0 u1 u2 u3 y0 y1 y2 y3, cs = [u0, u1, u2, u3] ∧ DataW.trod enc P w base spare held m f0.type [u0] = some y0 ∧ DataW.trod enc P w base spare held m f1.type [u1] = some y1 ∧ DataW.trod enc P w base spare held m f2.type [u2] = some y2 ∧ DataW.trod enc P w base spare held m f3.type [u3] = some y3 := by
  obtain ⟨xs, m, _, _, hl, hxl, hf⟩ := DataW.trod_struct ht h
  rw [hc] at hl
  match xs, hxl with
  | [y0, y1, y2, y3], _ =>
    have e0 := hf 0 f0 rfl
    have e1 := hf 1 f1 rfl
    have e2 := hf 2 f2 rfl
    have e3 := hf 3 f3 rfl
    rw [h0, c0] at e0
    rw [h1, c1] at e1
    rw [h2, c2] at e2
    rw [h3, c3] at e3
    match cs, hl with
    | [u0, u1, u2, u3], _ => exact ⟨m, u0, u1, u2, u3, y0, y1, y2, y3, rfl, e0, e1, e2, e3⟩
/-- A structure of 5 fields of one cell each. -/
theorem five_open {f0 f1 f2 f3 f4 : Field} (ht : P.underlying t = some (.struct #[f0, f1, f2, f3, f4])) (hc : P.cellsOf t = 5) (h0 : f0.offset = 0) (h1 : f1.offset = 1) (h2 : f2.offset = 2) (h3 : f3.offset = 3) (h4 : f4.offset = 4) (c0 : P.cellsOf f0.type = 1) (c1 : P.cellsOf f1.type = 1) (c2 : P.cellsOf f2.type = 1) (c3 : P.cellsOf f3.type = 1) (c4 : P.cellsOf f4.type = 1) (h : DataW.trod enc P w base spare held fuel t cs = some x) :
    ∃ m u0 u1 u2 u3 u4 y0 y1 y2 y3 y4, cs = [u0, u1, u2, u3, u4] ∧ DataW.trod enc P w base spare held m f0.type [u0] = some y0 ∧ DataW.trod enc P w base spare held m f1.type [u1] = some y1 ∧ DataW.trod enc P w base spare held m f2.type [u2] = some y2 ∧ DataW.trod enc P w base spare held m f3.type [u3] = some y3 ∧ DataW.trod enc P w base spare held m f4.type [u4] = some y4 := by
  obtain ⟨xs, m, _, _, hl, hxl, hf⟩ := DataW.trod_struct ht h
  rw [hc] at hl
  match xs, hxl with
  | [y0, y1, y2, y3, y4], _ =>
    have e0 := hf 0 f0 rfl
    have e1 := hf 1 f1 rfl
    have e2 := hf 2 f2 rfl
    have e3 := hf 3 f3 rfl
    have e4 := hf 4 f4 rfl
    rw [h0, c0] at e0
    rw [h1, c1] at e1
    rw [h2, c2] at e2
    rw [h3, c3] at e3
    rw [h4, c4] at e4
    match cs, hl with
    | [u0, u1, u2, u3, u4], _ => exact ⟨m, u0, u1, u2, u3, u4, y0, y1, y2, y3, y4, rfl, e0, e1, e2, e3, e4⟩
/-- A slice of elements of which each is opened. -/
theorem list_open {α : Type} [F : Flat α] (Ok : α → Prop) (he : ∀ n cs y, DataW.trod enc P w base spare held n e cs = some y → ∃ z : α, cs = F.enc z ∧ Ok z) (ht : P.underlying t = some (.slice e)) (hC : P.cellsOf e = F.sz) (h : DataW.trod enc P w base spare held fuel t cs = some x) :
    ∃ A cp, ∃ l : List α, cs = [.slice A l.length cp] ∧ Rd w A l ∧ (∀ y ∈ l, Ok y) ∧ l.length ≤ maxLen ∧ l.length ≤ cp := by
  rcases Go.Deep.open_slice ht h with ⟨rfl, _⟩ | ⟨a, len, cap, m, n, D, Pl, rfl, hb, hl, hm, hmm, rfl, hx⟩
  · exact ⟨none, 0, [], rfl, Rd.nil _ _, fun _ h => by simp at h, by simp, by simp⟩
  · have hlm : len ≤ m := by rw [hmm]; split <;> omega
    have key : ∀ i, i < len → ∃ z : α, Ok z ∧ ∀ r, r < F.sz → w.cell? (a.add (i * F.sz + r)) = (F.enc z)[r]? := fun i hi => by
      obtain ⟨cs', h1, h2⟩ := hx i (by omega)
      obtain ⟨z, rfl, hz⟩ := he _ _ _ h2
      obtain ⟨_, hlen, hc⟩ := World.cells?_some h1
      refine ⟨z, hz, fun r hr => ?_⟩
      have := hc r (by omega)
      rw [hC, Addr.add_add] at this
      exact this
    have hex : ∀ i, ∃ z : α, i < len → Ok z ∧ ∀ r, r < F.sz → w.cell? (a.add (i * F.sz + r)) = (F.enc z)[r]? := fun i => by
      by_cases hi : i < len
      · obtain ⟨z, h1⟩ := key i hi; exact ⟨z, fun _ => h1⟩
      · exact ⟨F.dflt, fun h => absurd h hi⟩
    let V := fun i => Classical.choose (hex i)
    have hV : ∀ i, i < len → Ok (V i) ∧ ∀ r, r < F.sz → w.cell? (a.add (i * F.sz + r)) = (F.enc (V i))[r]? := fun i => Classical.choose_spec (hex i)
    have hll : ((List.range len).map V).length = len := by simp
    refine ⟨some a, cap, (List.range len).map V, by rw [hll], rd_rows _ fun i hi r hr => ?_, fun y hy => ?_, by rw [hll]; omega, by rw [hll]; omega⟩
    · rw [hll] at hi
      obtain ⟨h1, h2⟩ := hV i hi
      rw [h2 r hr]
      have : ((List.range len).map V).getD i F.dflt = V i := by simp [List.getD_eq_getElem?_getD, hi]
      rw [this]
    · obtain ⟨i, hi, rfl⟩ := List.mem_map.1 hy
      exact (hV i (by simpa using hi)).1
end
section
variable {H : Type} {enc : TypeId × Value → H} {W : World} {base : Nat} {spare : Nat → Bool} {held : Bool}
set_option maxRecDepth 100000 in
theorem str_open {n : Nat} {cs : List Value} {y : DataW H × List MemPlace} (h : DataW.trod enc Try.prog W base spare held n 9 cs = some y) : ∃ s : List UInt8, cs = [.string (bs s)] ∧ s.length ≤ maxLen := by
  obtain ⟨s, hc, _, hw⟩ := DataW.trod_string Try.underlying9 h
  exact ⟨s.data.toList, by rw [hc, bs_of], by rw [← bs_size, bs_of]; exact hw⟩
set_option maxRecDepth 100000 in
theorem int_open37 {n : Nat} {cs : List Value} {y : DataW H × List MemPlace} (h : DataW.trod enc Try.prog W base spare held n 3 cs = some y) : ∃ z : Int, cs = Flat.enc z ∧ True := by
  obtain ⟨k, hk, _, _⟩ := DataW.trod_int Try.underlying3 h
  exact ⟨k, hk, trivial⟩
structure MbrOk (W : World) (x : MbrP) : Prop where
  ign : Rd W x.A x.m.ign
  len : x.m.ign.length ≤ maxLen
set_option maxRecDepth 100000 in
theorem mbr_open {n : Nat} {cs : List Value} {y : DataW H × List MemPlace} (h : DataW.trod enc Try.prog W base spare held n 31 cs = some y) : ∃ z : MbrP, cs = Flat.enc z ∧ MbrOk W z := by
  obtain ⟨m, u0, u1, y0, y1, rfl, e0, e1⟩ := two_openF Try.underlying31 (by kernel_rfl) rfl rfl (by kernel_rfl) (by kernel_rfl) h
  obtain ⟨a, ha, _, _⟩ := DataW.trod_int Try.underlying3 e0
  obtain ⟨A, ca, l, hc, hr, _, hl, _⟩ := list_open (fun _ : Int => True) (fun n cs y h => int_open37 h) Try.underlying29 (by kernel_rfl) e1
  injection ha with ha; injection hc with hc
  subst ha hc
  exact ⟨⟨⟨a, l⟩, A, ca⟩, rfl, ⟨hr, hl⟩⟩
set_option maxRecDepth 100000 in
theorem msg_open {n : Nat} {cs : List Value} {y : DataW H × List MemPlace} (h : DataW.trod enc Try.prog W base spare held n 36 cs = some y) : ∃ z : Msg, cs = Flat.enc z ∧ z.txt.length ≤ maxLen := by
  obtain ⟨m, u0, u1, u2, u3, y0, y1, y2, y3, rfl, e0, e1, e2, e3⟩ := four_open Try.underlying36 (by kernel_rfl) rfl rfl rfl rfl (by kernel_rfl) (by kernel_rfl) (by kernel_rfl) (by kernel_rfl) h
  obtain ⟨a, ha, _, _⟩ := DataW.trod_int Try.underlying3 e0
  obtain ⟨b, hb, _, _⟩ := DataW.trod_int Try.underlying3 e1
  obtain ⟨c, hc, _, _⟩ := DataW.trod_int Try.underlying3 e2
  obtain ⟨s, hs, hsl⟩ := str_open e3
  injection ha with ha; injection hb with hb; injection hc with hc; injection hs with hs
  subst ha hb hc hs
  exact ⟨⟨a, b, c, s⟩, rfl, hsl⟩
set_option maxRecDepth 100000 in
theorem open_room {v : Value} {d : DataW H} {p : List MemPlace} (hv0 : Value.okWide Try.prog W .any base 25 v) (h : DataW.Trod enc Try.prog W 0 (fun _ => true) true 25 v d p) :
    ∃ t s A L c B gl d, v = rv37 t s A L c B gl d ∧ RdR W A L B gl ∧ L.length ≤ maxLen ∧ gl.length ≤ maxLen ∧ (∀ x ∈ L, x.m.ign.length ≤ maxLen) ∧ (∀ x ∈ gl, x.txt.length ≤ maxLen) ∧ -9223372036854775808 ≤ s ∧ s ≤ 9223372036854775807 ∧ gl.length ≤ d := by
  obtain ⟨cs, rfl, hsz⟩ := okWide_struct Try.underlying25 hv0
  obtain ⟨fuel, hf⟩ := h
  obtain ⟨m, u0, u1, u2, u3, y0, y1, y2, y3, hcs, e0, e1, e2, e3⟩ := four_open Try.underlying25 (by kernel_rfl) rfl rfl rfl rfl (by kernel_rfl) (by kernel_rfl) (by kernel_rfl) (by kernel_rfl) hf
  obtain ⟨a, ha, _, _⟩ := DataW.trod_int Try.underlying3 e0
  obtain ⟨b, hb, _, hbw⟩ := DataW.trod_int Try.underlying3 e1
  obtain ⟨A, ca, l, hc, hr, hok, hl, _⟩ := list_open (MbrOk W) (fun n cs y h => mbr_open h) Try.underlying22 (by kernel_rfl) e2
  obtain ⟨B, cb, gl, hc2, hr2, hok2, hl2, hl3⟩ := list_open (fun x : Msg => x.txt.length ≤ maxLen) (fun n cs y h => msg_open h) Try.underlying23 (by kernel_rfl) e3
  injection ha with ha; injection hb with hb; injection hc with hc; injection hc2 with hc2
  subst ha hb hc hc2
  obtain ⟨lo, hi⟩ := i64_of hbw
  refine ⟨a, b, A, l, ca, B, gl, cb, ?_, ⟨hr, fun x hx => (hok x hx).ign, hr2⟩, hl, hl2, fun x hx => (hok x hx).len, hok2, lo, hi, hl3⟩
  unfold rv37
  congr 1
  apply Array.ext'
  simpa [Value.cells] using hcs
/-- A thing that is done. -/
structure Do37 where
  kind : Int
  id : Int
  whom : Int
  tick : Int
  txt : List UInt8
instance : Flat Do37 := ⟨5, fun x => [.int .i64 x.kind, .int .i64 x.id, .int .i64 x.whom, .int .i64 x.tick, .string (bs x.txt)], ⟨0, 0, 0, 0, []⟩, fun _ => rfl, fun x v hv => by
  simp at hv; rcases hv with rfl | rfl | rfl | rfl | rfl <;> rfl, by omega⟩
set_option maxRecDepth 100000 in
theorem do_open {n : Nat} {cs : List Value} {y : DataW H × List MemPlace} (h : DataW.trod enc Try.prog W base spare held n 56 cs = some y) : ∃ z : Do37, cs = Flat.enc z ∧ z.txt.length ≤ maxLen := by
  obtain ⟨m, u0, u1, u2, u3, u4, y0, y1, y2, y3, y4, rfl, e0, e1, e2, e3, e4⟩ := five_open Try.underlying56 (by kernel_rfl) rfl rfl rfl rfl rfl (by kernel_rfl) (by kernel_rfl) (by kernel_rfl) (by kernel_rfl) (by kernel_rfl) h
  obtain ⟨a, ha, _, _⟩ := DataW.trod_int Try.underlying3 e0
  obtain ⟨b, hb, _, _⟩ := DataW.trod_int Try.underlying3 e1
  obtain ⟨c, hc, _, _⟩ := DataW.trod_int Try.underlying3 e2
  obtain ⟨t, ht, _, _⟩ := DataW.trod_int Try.underlying3 e3
  obtain ⟨s, hs, hsl⟩ := str_open e4
  injection ha with ha; injection hb with hb; injection hc with hc; injection ht with ht; injection hs with hs
  subst ha hb hc ht hs
  exact ⟨⟨a, b, c, t, s⟩, rfl, hsl⟩
set_option maxRecDepth 100000 in
theorem open_do37 {v : Value} {d : DataW H} {p : List MemPlace} (hv0 : Value.okWide Try.prog W .any base 56 v) (h : DataW.Trod enc Try.prog W 0 (fun _ => true) true 56 v d p) :
    ∃ x : Do37, v = .agg (Flat.enc x).toArray ∧ x.txt.length ≤ maxLen := by
  obtain ⟨cs, rfl, hsz⟩ := okWide_struct Try.underlying56 hv0
  obtain ⟨fuel, hf⟩ := h
  obtain ⟨z, hc, hz⟩ := do_open hf
  refine ⟨z, ?_, hz⟩
  rw [← hc]
  simp [Value.cells]
end
end Go.Proofs.Ytplhnnlklnbahaa

/- ChatLast: from the law's function. -/
namespace Go.Proofs.Ytplhnnlklnbahaa
open Go.Fw Go.RowKit
theorem member0 {r : Rom} {id : Int} {f : Nat → ResR} (h : ∀ k, (f k).2 ≠ 0 → (f k).1 = rom0) : (memberR r id f).2 ≠ 0 → (memberR r id f).1 = rom0 := by
  unfold memberR
  split
  · split
    · exact fun _ => rfl
    · exact h _
  · exact fun _ => rfl
theorem say0 {mask : List UInt8 → List UInt8} {r : Rom} {id tick : Int} {s : List UInt8} : (sayR mask r id tick s).2 ≠ 0 → (sayR mask r id tick s).1 = rom0 :=
  member0 (f := fun _ => sayK (mask s) r.tick r.said r.ms r.log id tick s) fun _ => sayK0 _ _ _ _ _ _ _ _
theorem snoc_facts (m : Msg) : ∀ (M K : List Msg), M = K ++ [m] → M.getD (M.length - 1) Flat.dflt = m ∧ M.take (M.length - 1) = K := by
  rintro _ K rfl
  rw [List.length_append, List.length_singleton, Nat.add_sub_cancel]
  refine ⟨?_, List.take_left⟩
  rw [List.getD_eq_getElem?_getD, List.getElem?_append_right (Nat.le_refl _), Nat.sub_self]; rfl
theorem logN_facts (l : List Msg) (m : Msg) (h : l.length ≤ 50) : (logN l m).length = min (l.length + 1) 50 ∧ (logN l m).getD ((logN l m).length - 1) Flat.dflt = m ∧ (logN l m).take ((logN l m).length - 1) = l.drop (l.length + 1 - (logN l m).length) := by
  have hl : (logN l m).length = min (l.length + 1) 50 := by
    unfold logN
    rw [List.length_drop, List.length_append, List.length_singleton]; omega
  have h1 : logN l m = l.drop (l.length + 1 - 50) ++ [m] := by
    unfold logN
    rw [List.drop_append_of_le_length (by omega)]
  obtain ⟨g1, g2⟩ := snoc_facts m _ _ h1
  refine ⟨hl, g1, g2.trans ?_⟩
  rw [hl]
  congr 1; omega
/-- A room with rows of its own, and an error. -/
def OutRM (t s : Int) (ms : List Mbr) (gl : List Msg) (e : Int) (v : Value) (H' : List HP) : Prop := ∃ (A : Option Addr) (c : Nat) (L : List MbrP) (B : Option Addr) (d : Nat), mbrs L = ms ∧ v = .tuple #[.agg #[.int .i64 t, .int .i64 s, .slice A L.length c, .slice B gl.length d], .int .i64 e] ∧ H' = [orow 31 A c L, orow 36 B d gl, allH (L.map rowG)]
theorem outRM_of {t s : Int} {ms : List Mbr} {gl : List Msg} {e : Int} {r : ResR} {g : FuncId} {args : List Value} {w : World} (he : r = (⟨t, s, ms, gl⟩, e)) (h : Ret Try.prog g args.toArray w (RP w (OutR r))) : Ret Try.prog g args.toArray w (RP w (OutRM t s ms gl e)) := by
  subst he; exact h
set_option maxHeartbeats 8000000 in
set_option maxRecDepth 100000 in
theorem lastLaw (t s : Int) (A : Option Addr) (L : List MbrP) (c : Nat) (B : Option Addr) (gl : List Msg) (d : Nat) (x : Do37) (W : World) (hl : L.length ≤ maxLen) (hgl : gl.length ≤ maxLen) (hs : -9223372036854775808 ≤ s) (hcap : gl.length ≤ d) (hr : RdR W A L B gl) :
    Ret Try.prog 8 [rv37 t s A L c B gl d, .agg (Flat.enc x).toArray].toArray W (Out W (.bool true)) := by
  obtain ⟨xk, xi, xw, xt, xs⟩ := x
  rw [show Flat.enc (⟨xk, xi, xw, xt, xs⟩ : Do37) = [.int .i64 xk, .int .i64 xi, .int .i64 xw, .int .i64 xt, .string (bs xs)] from rfl]
  have haw := fun w => awake37_spec w
  have hsm := fun w h => small37_spec t s A L c B gl d w hl hgl h
  by_cases hS : SmallM (mbrs L) gl
  · rw [decide_eq_true hS] at hsm
    have hz := szM_sz rfl (small_sz hS)
    unfold rv37 at hsm ⊢
    by_cases h400 : 400 < xs.length
    · refine enterH Try.func8 rfl rfl Try.ntmps8 rfl (Wd.refl _) ?_
      (repeat' (first | (show VH _ _ _ _ _ _ _; first | refine v_seq ?_ | refine r_seq ?_ | refine v_ret ?_ | refine v_skip ?_ | refine v_cond_t rfl tbL ?_ | refine v_cond_f rfl tbL ?_) | (show SH _ _ _ _ _ (_ :: _) _ _ _; first | (show SH _ _ _ _ _ (⟨_, _, _, _, _, some _⟩ :: _) _ _ _; (refine gif rfl rfl ?_; refine giFF tbL ?_)) | (show SH _ _ _ _ _ (⟨_, .move _, _, _, _, _⟩ :: _) _ _ _; refine mov evL ?_) | (show SH _ _ _ _ _ (⟨_, .assign _, _, _, _, _⟩ :: _) _ _ _; refine asg evL ?_) | (show SH _ _ _ _ _ (⟨_, .binOp .gtr _ _ _ _, _, _, _, _⟩ :: _) _ _ _; refine gtrT rfl rfl omD ?_) | (show SH _ _ _ _ _ (⟨_, .load _ _, _, _, _, _⟩ :: _) _ _ _; first | refine lbx rfl spL (by rfl) ?_ | refine lba rfl spL (by rfl) ?_) | refine sln rfl ?_ | (show SH _ _ _ _ _ (⟨_, .call ⟨.value (.func 11), _, _⟩, _, _, _, _⟩ :: _) _ _ _; refine cl (callee := .func 11) rfl (fun w hw => haw w) rfl rfl ?_) | (show SH _ _ _ _ _ (⟨_, .call ⟨.value (.func 12), _, _⟩, _, _, _, _⟩ :: _) _ _ _; refine cl (callee := .func 12) rfl (fun w hw => hsm w (hr.ext hw.ext)) rfl rfl ?_) | refine bnoT rfl ?_ | (show SH _ _ _ _ _ (⟨_, .pick _ _ _, _, _, _, _⟩ :: _) _ _ _; refine pkf rfl tbL evL ?_) | refine fad rfl ?_ | (show SH _ _ _ _ _ (⟨_, .box _ _, _, _, _, _⟩ :: _) _ _ _; refine bxx rfl evL rfl (fun b => ?_))) | refine s_nil ?_ | refine kh_normal ?_ | refine kh_ret ?_))
      exact rh1 rfl rfl ⟨rfl, rfl⟩ (ent_nil _)
    · have hsay := fun w hr => say37_spec t s A L c B gl d (.pointer none) [] [] xi xt xs w hz hs hr (by omega) (by decide) (.inl ⟨rfl, rfl⟩) (.inl rfl)
      have h0 := say0 (mask := maskB []) (r := rom t s L gl) (id := xi) (tick := xt) (s := xs)
      by_cases he : (sayR (maskB []) (rom t s L gl) xi xt xs).2 = 0
      · obtain ⟨hv, ht, htx, _, hE, hV⟩ := say_val (fun s h => by rw [maskB_nil]; exact h) he
        rw [maskB_nil] at hE hV
        have hsay := fun w hr => outRM_of hE (hsay w hr)
        have hlog : gl.length ≤ 50 := hv.logl
        have hsd : s ≤ 1099511627776 := hv.top
        obtain ⟨m, hm⟩ : ∃ m : Msg, m = ⟨s + 1, xt, xi, xs⟩ := ⟨_, rfl⟩
        rw [show (rom t s L gl).said + 1 = s + 1 from rfl, ← hm] at hV
        simp only [rom] at hsay
        rw [← hm] at hsay
        obtain ⟨g1, g2, g3⟩ := logN_facts gl m hlog
        have hzo := vrom_sz hV
        simp only [rom] at hV hzo
        generalize logN gl m = M at g1 g2 g3 hV hsay hzo
        have hme : [Value.int .i64 (s + 1), .int .i64 xt, .int .i64 xi, .string (bs xs)] = Flat.enc m := by rw [hm]; rfl
        clear hm hE h0 he htx hv
        have hvo := fun A1 L1 c1 B1 d1 w (hp : mbrs L1 = mbrs L) hr => valid37_spec xt (s + 1) A1 L1 c1 B1 M d1 w (szM_sz hp hzo) (by omega) hr
        have hsm2 := fun (B1 : Option Addr) (d1 n1 : Nat) (B2 : Option Addr) (d2 : Nat) w h1 h2 => sameMessages_spec B1 B2 (M.take (M.length - 1)) (gl.drop (gl.length + 1 - M.length)) d1 d2 w (by rw [List.length_take]; omega) (by rw [List.length_drop]; omega) h1 h2
        simp only [rv37] at hsay hvo
        refine enterH Try.func8 rfl rfl Try.ntmps8 rfl (Wd.refl _) ?_
        (repeat' (first | (show VH _ _ _ _ _ _ _; first | refine v_seq ?_ | refine r_seq ?_ | refine v_skip ?_ | refine v_cond_f rfl tbL ?_) | (show SH _ _ _ _ _ (_ :: _) _ _ _; first | (show SH _ _ _ _ _ (⟨_, _, _, _, _, some _⟩ :: _) _ _ _; (refine gif rfl rfl ?_; refine giFF tbL ?_)) | (show SH _ _ _ _ _ (⟨_, .move _, _, _, _, _⟩ :: _) _ _ _; refine mov evL ?_) | (show SH _ _ _ _ _ (⟨_, .assign _, _, _, _, _⟩ :: _) _ _ _; refine asg evL ?_) | (show SH _ _ _ _ _ (⟨_, .binOp .gtr _ _ _ _, _, _, _, _⟩ :: _) _ _ _; refine gtrF rfl rfl omD ?_) | (show SH _ _ _ _ _ (⟨_, .load _ _, _, _, _, _⟩ :: _) _ _ _; first | refine lbx rfl spL (by rfl) ?_ | refine lba rfl spL (by rfl) ?_) | refine sln rfl ?_ | (show SH _ _ _ _ _ (⟨_, .call ⟨.value (.func 11), _, _⟩, _, _, _, _⟩ :: _) _ _ _; refine cl (callee := .func 11) rfl (fun w hw => haw w) rfl rfl ?_) | (show SH _ _ _ _ _ (⟨_, .call ⟨.value (.func 12), _, _⟩, _, _, _, _⟩ :: _) _ _ _; refine cl (callee := .func 12) rfl (fun w hw => hsm w (hr.ext hw.ext)) rfl rfl ?_) | (show SH _ _ _ _ _ (⟨_, .call ⟨.value (.func 27), _, _⟩, _, _, _, _⟩ :: _) _ _ _; refine cp (callee := .func 27) rfl (fun w hw => hsay w (hr.ext hw.ext)) rfl rfl ?_) | refine bnoT rfl ?_ | (show SH _ _ _ _ _ (⟨_, .pick _ _ _, _, _, _, _⟩ :: _) _ _ _; refine pkf rfl tbL evL ?_) | refine fad rfl ?_ | (show SH _ _ _ _ _ (⟨_, .box _ _, _, _, _, _⟩ :: _) _ _ _; refine bxx rfl evL rfl (fun b => ?_))) | refine s_nil ?_ | refine kh_normal ?_))
        rintro _ _ ⟨A1, c1, L1, B1, d1, hp1, rfl, rfl⟩
        have hvo := fun w hr => hvo A1 L1 c1 B1 d1 w hp1 hr
        rw [show validRm (rom xt (s + 1) L1 M) = true by unfold rom; rw [hp1]; exact vrom_iff.2 hV] at hvo
        have hM1 : 1 ≤ M.length := by omega
        have hM2 : M.length ≤ 50 := by omega
        have hMm : ((M.length : Nat) : Int) = min ((gl.length : Int) + 1) 50 := by omega
        clear hsay hV hzo hp1
        (repeat' (first | (show VH _ _ _ _ _ _ _; first | refine v_seq ?_ | refine r_seq ?_ | refine r_quiet hmix (by kernel_rfl) ?_ | refine v_skip ?_ | refine v_cond_f rfl tbL ?_) | (show SH _ _ _ _ _ (_ :: _) _ _ _; first | (show SH _ _ _ _ _ (⟨_, _, _, _, _, some _⟩ :: _) _ _ _; (refine gif rfl rfl ?_; refine giFF tbL ?_)) | (show SH _ _ _ _ _ (⟨_, .move _, _, _, _, _⟩ :: _) _ _ _; refine mov evL ?_) | (show SH _ _ _ _ _ (⟨_, .assign _, _, _, _, _⟩ :: _) _ _ _; refine asg evL ?_) | refine gtr rfl rfl ?_ | refine eql rfl rfl ?_ | (show SH _ _ _ _ _ (⟨_, .binOp .neq _ _ _ _, _, _, _, _⟩ :: _) _ _ _; refine neqF rfl rfl omD ?_) | (show SH _ _ _ _ _ (⟨_, .binOp .add _ _ _ _, _, _, _, _⟩ :: _) _ _ _; refine add rfl rfl inL ?_) | (show SH _ _ _ _ _ (⟨_, .binOp .sub _ _ _ _, _, _, _, _⟩ :: _) _ _ _; refine sub rfl rfl inL ?_) | (show SH _ _ _ _ _ (⟨_, .load _ _, _, _, _, _⟩ :: _) _ _ _; first | refine lbx rfl spL (by rfl) ?_ | refine lba rfl spL (by rfl) ?_ | refine lra rfl (fun _ _ => rdS) (by rfl) omL ?_ | refine lra rfl (fun _ _ => rdS) (by rfl) (by simp only [List.length_cons, List.length_nil]; omega) ?_) | (show SH _ _ _ _ _ (⟨_, .indexAddr _ _ _, _, _, _, _⟩ :: _) _ _ _; first | refine ixi rfl rfl (fun _ _ => rdS) (by rfl) omL omL omL ?_ | refine ixi rfl rfl (fun _ _ => rdS) (by rfl) omL (by first | omega | (simp only [List.length_cons, List.length_nil]; omega)) (by simp only [List.length_cons, List.length_nil]; omega) ?_) | (show SH _ _ _ _ _ (⟨_, .call ⟨.builtin _, _, _⟩, _, _, _, _⟩ :: _) _ _ _; first | refine slen rfl ?_ | refine bmin rfl rfl ?_) | (show SH _ _ _ _ _ (⟨_, .call ⟨.value (.func 13), _, _⟩, _, _, _, _⟩ :: _) _ _ _; refine cl (callee := .func 13) rfl (fun w hw => hvo w (Wd.kr (Ent.wd (Ent.trans (B := [orow 31 A1 c1 L1, orow 36 B1 d1 M, allH (L1.map rowG)]) enL ent_knr) hw) Split.head)) rfl rfl ?_) | refine bnoT rfl ?_ | (show SH _ _ _ _ _ (⟨_, .pick _ _ _, _, _, _, _⟩ :: _) _ _ _; refine pkf rfl tbL evL ?_) | refine extr rfl rfl ?_ | refine fad rfl ?_ | refine bld rfl rfl ?_ | refine ala rfl (fun b => ?_) | (show SH _ _ _ _ _ (⟨_, .store _ _ _, _, _, _, _⟩ :: _) _ _ _; refine sta rfl rfl rfl spL (by rfl) (by rfl) (by rfl) kpL ?_)) | refine s_nil ?_ | refine kh_normal ?_))
        have hnn : ((M.length : Int) - 1).toNat = M.length - 1 := by omega
        have hg2 : M.getD ((M.length : Int) - 1).toNat Flat.dflt = m := by rw [hnn]; exact g2
        refine nea (M.getD ((M.length : Int) - 1).toNat Flat.dflt) m rfl (by rw [← hme]; rfl) ?_
        rw [decide_eq_true hg2]
        (repeat' ((fail_if_success (show VH _ _ (.seq (.region 13 _ _) _) _ _ _ _)); first | (show VH _ _ _ _ _ _ _; first | refine v_skip ?_ | refine v_cond_f rfl tbL ?_) | refine s_nil ?_ | refine kh_normal ?_))
        refine v_cap (e := 36) (A := B1) (cp := d1) (l := M) spL fun hc1 => ?_
        have e1 : (M.take (M.length - 1)).length = ((M.length : Int) - 1).toNat := by rw [List.length_take]; omega
        have e2 : (gl.drop (gl.length + 1 - M.length)).length = gl.length - ((gl.length : Int) + 1 - M.length).toNat := by rw [List.length_drop]; omega
        have e3 : ((gl.length : Int) + 1 - M.length).toNat = gl.length + 1 - M.length := by omega
        rw [e1, e2, decide_eq_true g3] at hsm2
        have h9 := fun w (h : RdR w A L B gl) => (Rd.from (cp := d) h.log (gl.length + 1 - M.length) hcap)
        rw [← e3] at h9
        have hsm2 := fun w h (h2 : RdR w A L B gl) => hsm2 B1 d1 0 (if d = ((gl.length : Int) + 1 - M.length).toNat then B else B.map (·.add (((gl.length : Int) + 1 - M.length).toNat * 4))) (d - ((gl.length : Int) + 1 - M.length).toNat) w h (e3 ▸ h9 w h2)
        refine v_norm [(2,_),(3,_),(4,_),(5,_),(7,_)] heL (fun g => ?_)
        (repeat' (first | (show VH _ _ _ _ _ _ _; first | refine v_seq ?_ | refine r_quiet hmix (by kernel_rfl) ?_ | refine v_ret ?_) | (show SH _ _ _ _ _ (_ :: _) _ _ _; first | (show SH _ _ _ _ _ (⟨_, .move _, _, _, _, _⟩ :: _) _ _ _; refine mov evL ?_) | (show SH _ _ _ _ _ (⟨_, .assign _, _, _, _, _⟩ :: _) _ _ _; refine asg evL ?_) | (show SH _ _ _ _ _ (⟨_, .binOp .add _ _ _ _, _, _, _, _⟩ :: _) _ _ _; refine add rfl rfl inL ?_) | (show SH _ _ _ _ _ (⟨_, .binOp .sub _ _ _ _, _, _, _, _⟩ :: _) _ _ _; refine sub rfl rfl inL ?_) | (show SH _ _ _ _ _ (⟨_, .load _ _, _, _, _, _⟩ :: _) _ _ _; refine lbx rfl spL (by rfl) ?_) | refine slen rfl ?_ | (show SH _ _ _ _ _ (⟨_, .call ⟨.value (.func 16), _, _⟩, _, _, _, _⟩ :: _) _ _ _; refine cl (callee := .func 16) rfl (fun w hw => hsm2 w ((hw.rd spL).take _) (hr.ext hw.ext)) rfl rfl ?_) | refine fad rfl ?_ | (show SH _ _ _ _ _ (⟨_, .slice _ _ _ _ _, _, _, _, _⟩ :: _) _ _ _; first | refine slh rfl rfl omL omL ?_ | refine sll rfl rfl omL omL ?_)) | refine s_nil ?_ | refine kh_normal ?_))
        exact rh1 rfl rfl ⟨rfl, rfl⟩ (ent_nil _)
      · have hR := h0 he
        obtain ⟨e, hee⟩ : ∃ e, (sayR (maskB []) (rom t s L gl) xi xt xs).2 = e := ⟨_, rfl⟩
        have hs2 := fun w hr => outRK_of (r' := (rom0, e)) (Prod.ext hR hee) (hsay w hr)
        have he0 : ¬ e = 0 := by rw [← hee]; exact he
        have hsa := fun A1 L1 c1 B1 d1 w (hp : mbrs L1 = []) hr => same37_spec 0 0 A1 L1 c1 B1 [] d1 0 0 none [] 0 none [] 0 w (szM_sz hp (by decide)) (szM_sz (ms := []) rfl (by decide)) hr rd0
        simp only [OutRK, rv37, rom0] at hs2 hsa
        clear hsay h0 he hR hee
        refine enterH Try.func8 rfl rfl Try.ntmps8 rfl (Wd.refl _) ?_
        (repeat' (first | (show VH _ _ _ _ _ _ _; first | refine v_seq ?_ | refine r_seq ?_ | refine v_skip ?_ | refine v_cond_f rfl tbL ?_) | (show SH _ _ _ _ _ (_ :: _) _ _ _; first | (show SH _ _ _ _ _ (⟨_, _, _, _, _, some _⟩ :: _) _ _ _; (refine gif rfl rfl ?_; refine giFF tbL ?_)) | (show SH _ _ _ _ _ (⟨_, .move _, _, _, _, _⟩ :: _) _ _ _; refine mov evL ?_) | (show SH _ _ _ _ _ (⟨_, .assign _, _, _, _, _⟩ :: _) _ _ _; refine asg evL ?_) | (show SH _ _ _ _ _ (⟨_, .binOp .gtr _ _ _ _, _, _, _, _⟩ :: _) _ _ _; refine gtrF rfl rfl omD ?_) | (show SH _ _ _ _ _ (⟨_, .load _ _, _, _, _, _⟩ :: _) _ _ _; first | refine lbx rfl spL (by rfl) ?_ | refine lba rfl spL (by rfl) ?_) | refine sln rfl ?_ | (show SH _ _ _ _ _ (⟨_, .call ⟨.value (.func 11), _, _⟩, _, _, _, _⟩ :: _) _ _ _; refine cl (callee := .func 11) rfl (fun w hw => haw w) rfl rfl ?_) | (show SH _ _ _ _ _ (⟨_, .call ⟨.value (.func 12), _, _⟩, _, _, _, _⟩ :: _) _ _ _; refine cl (callee := .func 12) rfl (fun w hw => hsm w (hr.ext hw.ext)) rfl rfl ?_) | (show SH _ _ _ _ _ (⟨_, .call ⟨.value (.func 27), _, _⟩, _, _, _, _⟩ :: _) _ _ _; refine cp (callee := .func 27) rfl (fun w hw => hs2 w (hr.ext hw.ext)) rfl rfl ?_) | refine bnoT rfl ?_ | (show SH _ _ _ _ _ (⟨_, .pick _ _ _, _, _, _, _⟩ :: _) _ _ _; refine pkf rfl tbL evL ?_) | refine fad rfl ?_ | (show SH _ _ _ _ _ (⟨_, .box _ _, _, _, _, _⟩ :: _) _ _ _; refine bxx rfl evL rfl (fun b => ?_))) | refine s_nil ?_ | refine kh_normal ?_))
        rintro _ _ ⟨A1, c1, L1, B1, d1, hp1, rfl, rfl⟩
        have hsa := fun w hr => hsa A1 L1 c1 B1 d1 w hp1 hr
        rw [decide_eq_true (show rom 0 0 L1 [] = rom 0 0 [] [] by unfold rom; rw [hp1]; rfl)] at hsa
        (repeat' (first | (show VH _ _ _ _ _ _ _; first | refine v_seq ?_ | refine r_seq ?_ | refine v_ret ?_ | refine v_cond_t rfl tbL ?_) | (show SH _ _ _ _ _ (_ :: _) _ _ _; first | (show SH _ _ _ _ _ (⟨_, .move _, _, _, _, _⟩ :: _) _ _ _; refine mov evL ?_) | (show SH _ _ _ _ _ (⟨_, .assign _, _, _, _, _⟩ :: _) _ _ _; refine asg evL ?_) | (show SH _ _ _ _ _ (⟨_, .binOp .neq _ _ _ _, _, _, _, _⟩ :: _) _ _ _; refine neqT rfl rfl omD ?_) | (show SH _ _ _ _ _ (⟨_, .load _ _, _, _, _, _⟩ :: _) _ _ _; refine lba rfl spL (by rfl) ?_) | (show SH _ _ _ _ _ (⟨_, .call ⟨.value (.func 20), _, _⟩, _, _, _, _⟩ :: _) _ _ _; refine cl (callee := .func 20) rfl (fun w hw => hsa w (Wd.kr hw spL)) rfl rfl ?_) | refine extr rfl rfl ?_ | refine bld rfl rfl ?_ | refine ala rfl (fun b => ?_) | (show SH _ _ _ _ _ (⟨_, .store _ _ _, _, _, _, _⟩ :: _) _ _ _; refine sta rfl rfl rfl spL (by rfl) (by rfl) (by rfl) kpL ?_)) | refine s_nil ?_ | refine kh_normal ?_ | refine kh_ret ?_))
        exact rh1 rfl rfl ⟨rfl, rfl⟩ (ent_nil _)
  · rw [decide_eq_false hS] at hsm
    unfold rv37 at hsm ⊢
    refine enterH Try.func8 rfl rfl Try.ntmps8 rfl (Wd.refl _) ?_
    (repeat' (first | (show VH _ _ _ _ _ _ _; first | refine v_seq ?_ | refine r_seq ?_ | refine v_ret ?_ | refine v_skip ?_ | refine v_cond_t rfl tbL ?_ | refine v_cond_f rfl tbL ?_) | (show SH _ _ _ _ _ (_ :: _) _ _ _; first | (show SH _ _ _ _ _ (⟨_, _, _, _, _, some _⟩ :: _) _ _ _; (refine gif rfl rfl ?_; refine giFT tbL ?_)) | (show SH _ _ _ _ _ (⟨_, .move _, _, _, _, _⟩ :: _) _ _ _; refine mov evL ?_) | (show SH _ _ _ _ _ (⟨_, .assign _, _, _, _, _⟩ :: _) _ _ _; refine asg evL ?_) | (show SH _ _ _ _ _ (⟨_, .load _ _, _, _, _, _⟩ :: _) _ _ _; refine lba rfl spL (by rfl) ?_) | (show SH _ _ _ _ _ (⟨_, .call ⟨.value (.func 11), _, _⟩, _, _, _, _⟩ :: _) _ _ _; refine cl (callee := .func 11) rfl (fun w hw => haw w) rfl rfl ?_) | (show SH _ _ _ _ _ (⟨_, .call ⟨.value (.func 12), _, _⟩, _, _, _, _⟩ :: _) _ _ _; refine cl (callee := .func 12) rfl (fun w hw => hsm w (hr.ext hw.ext)) rfl rfl ?_) | (show SH _ _ _ _ _ (⟨_, .unOp .not _ _, _, _, _, _⟩ :: _) _ _ _; first | refine bnoT rfl ?_ | refine bnoF rfl ?_) | (show SH _ _ _ _ _ (⟨_, .pick _ _ _, _, _, _, _⟩ :: _) _ _ _; refine pkt rfl tbL evL ?_) | (show SH _ _ _ _ _ (⟨_, .box _ _, _, _, _, _⟩ :: _) _ _ _; refine bxx rfl evL rfl (fun b => ?_))) | refine s_nil ?_ | refine kh_normal ?_ | refine kh_ret ?_))
    exact rh1 rfl rfl ⟨rfl, rfl⟩ (ent_nil _)
end Go.Proofs.Ytplhnnlklnbahaa

