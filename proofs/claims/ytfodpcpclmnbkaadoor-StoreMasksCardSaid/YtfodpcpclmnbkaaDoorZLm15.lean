/- StoreMasks (printed by gen_lm15.py). -/
import Derived.Test.YtfodpcpclmnbkaaDoorZTw
import Derived.Test.YtfodpcpclmnbkaaDoorZMp
import Derived.Test.YtfodpcpclmnbkaaDoorZQm
import Derived.Test.YtfodpcpclmnbkaaDoorZRh
import Derived.Test.YtfodpcpclmnbkaaDoorZBu15
import Derived.Test.YtfodpcpclmnbkaaDoorZJc
import Derived.Test.YtfodpcpclmnbkaaDoorZWz
set_option linter.unusedSimpArgs false
set_option linter.unusedVariables false
namespace Go.Proofs.YtfodpcpclmnbkaaDoor
open Go.Fw Go.RowKit
theorem self_nq (z : Bool) : (!(z == z)) = false := by simp
set_option maxHeartbeats 4000000 in
set_option maxRecDepth 100000 in
theorem masksLaw (A0 : Option Addr) (c0 : Nat) (l0 : List U16) (ma mb : Nat) (W : World) (hG : Glob W) (hr0 : Rd W A0 l0) (hb0 : R16 l0) (hl0 : l0.length ≤ maxLen) (hc0 : l0.length ≤ c0) (ha : ma < 4294967296) (hb : mb < 4294967296) :
    Ret Tryd.prog 5 [.slice A0 l0.length c0, .int .u32 ma, .int .u32 mb].toArray W (Out W (.bool true)) := by
  have hB := fun w' (he : Ext W w') => built_spec A0 l0 c0 w' hl0 hc0 (hr0.ext he) hb0
  have hv := built_valid hb0
  have hcm0 : ∀ e ∈ builtL l0, e.comps.length ≤ 10 := fun e he => built_comps he
  have hkd : ∀ e ∈ builtL l0, ∀ c ∈ e.comps, 1 ≤ c.kind ∧ c.kind ≤ 10 := fun e he => built_kinds hv he
  unfold WorldR wv at hB
  generalize builtL l0 = es0 at hB hv hcm0 hkd
  have hA := fun w (h : Ext W w) => awake15_spec w (hG.ext h)
  clear hr0 hb0 hl0 hc0
  refine enterH Tryd.func5 rfl rfl Tryd.ntmps5 rfl (Wd.refl _) ?_
  (repeat' (first | (show VH _ _ _ _ _ _ _; first | refine v_seq ?_ | refine r_seq ?_) | (show SH _ _ _ _ _ (_ :: _) _ _ _; first | (show SH _ _ _ _ _ (⟨_, .move _, _, _, _, _⟩ :: _) _ _ _; refine mov evL ?_) | (show SH _ _ _ _ _ (⟨_, .assign _, _, _, _, _⟩ :: _) _ _ _; refine asg evL ?_) | (show SH _ _ _ _ _ (⟨_, .call ⟨.value (.func 10), _, _⟩, _, _, _, _⟩ :: _) _ _ _; refine cp (callee := .func 10) rfl (fun w hw => hB w hw.ext) rfl rfl ?_)) | refine s_nil ?_ | refine kh_normal ?_))
  rintro _ _ ⟨A, c, L, rfl, hL, rfl⟩
  clear hB
  have hL' : ents L = es0 := hL
  subst hL'
  have hle := ents_len L
  have hl64 := hv.len
  rw [hle] at hl64
  obtain ⟨hs, hl, hse, hse2⟩ := built_sz (L := L) rfl (by omega) hcm0 (by omega)
  have hG0 := fun id k w hG hr => get_spec 5 id k A L c w hG hs hr
  have hW0 := fun (m : Nat) w hG hr => with_spec 5 (m : Int) A L c w hG hs hse2 hr
  simp only [withM_ids hv] at hW0
  unfold wv at hG0 hW0
  (repeat' ((fail_if_success (show VH _ _ (.seq (.region 2 _ _) _) _ _ _ _)); first | (show SH _ _ _ _ _ (_ :: _) _ _ _; first | refine ala rfl (fun b => ?_) | (show SH _ _ _ _ _ (⟨_, .store _ _ _, _, _, _, _⟩ :: _) _ _ _; refine sta rfl rfl rfl spL (by rfl) (by rfl) (by rfl) kpL ?_)) | refine s_nil ?_ | refine kh_normal ?_))
  revert b
  intro b9
  refine VH.ent (G := [bx b9 25 [.int .i64 5, .slice A L.length c], knw A L]) ?_ (Ent.trans (B := [orow 32 A c L, allH (L.map rowOf), bx b9 25 [.int .i64 5, .slice A L.length c]]) enL (ent_knw.trans enL))
  have hCl := ids_len (ma ||| mb) (ents L)
  have hAl := ids_len ma (ents L)
  have hBl := ids_len mb (ents L)
  rw [hle] at hCl hAl hBl
  clear hl hse hL
  (repeat' (first | (show VH _ _ _ _ _ _ _; first | refine v_seq ?_ | refine r_seq ?_) | (show SH _ _ _ _ _ (_ :: _) _ _ _; first | (show SH _ _ _ _ _ (⟨_, .move _, _, _, _, _⟩ :: _) _ _ _; refine mov evL ?_) | (show SH _ _ _ _ _ (⟨_, .load _ _, _, _, _, _⟩ :: _) _ _ _; refine lba rfl spL (by rfl) ?_))))
  refine orw rfl rfl _ (bor32 ha hb) ?_
  have hC := hW0 (ma ||| mb)
  have hAA := hW0 ma
  have hBB := hW0 mb
  clear hW0
  unfold Fresh at hC hAA hBB
  (repeat' ((show SH _ _ _ _ _ (⟨_, .call ⟨.value (.func 20), _, _⟩, _, _, _, _⟩ :: _) _ _ _; refine cp (callee := .func 20) rfl (fun w hw => hC w (hG.ext hw.ext) (hw.kw spL)) rfl rfl ?_)))
  rintro _ _ ⟨AC, cC, rfl, rfl⟩
  (repeat' (first | (show VH _ _ _ _ _ _ _; first | refine v_seq ?_ | refine r_seq ?_) | (show SH _ _ _ _ _ (_ :: _) _ _ _; first | (show SH _ _ _ _ _ (⟨_, .move _, _, _, _, _⟩ :: _) _ _ _; refine mov evL ?_) | (show SH _ _ _ _ _ (⟨_, .assign _, _, _, _, _⟩ :: _) _ _ _; refine asg evL ?_) | (show SH _ _ _ _ _ (⟨_, .load _ _, _, _, _, _⟩ :: _) _ _ _; refine lba rfl spL (by rfl) ?_) | (show SH _ _ _ _ _ (⟨_, .call ⟨.value (.func 20), _, _⟩, _, _, _, _⟩ :: _) _ _ _; refine cp (callee := .func 20) rfl (fun w hw => hAA w (hG.ext hw.ext) (hw.kw spL)) rfl rfl ?_) | refine mkm rfl (fun b => ?_)) | refine s_nil ?_ | refine kh_normal ?_))
  rintro _ _ ⟨AA, cA, rfl, rfl⟩
  revert b
  intro rm
  obtain ⟨n, hM⟩ := msk ha hb hv.up
  clear hC hle
  generalize idsM (ma ||| mb) (ents L) = CL at hM hCl ⊢
  generalize idsM ma (ents L) = AL at hM hAl hAA ⊢
  generalize idsM mb (ents L) = BL at hM hBl hBB
  (repeat' (first | refine v_block ?_ | (show SH _ _ _ _ _ (_ :: _) _ _ _; first | (show SH _ _ _ _ _ (⟨_, .move _, _, _, _, _⟩ :: _) _ _ _; refine mov evL ?_) | refine slen rfl ?_) | refine s_nil ?_ | refine kh_normal ?_))
  refine v_norm [(1,_),(2,_),(7,_),(8,_),(9,_),(35,_),(36,_),(37,_)] heL (fun g => ?_)
  refine v_loop [(11,11),(37,45)] (fun s : Nat × List (Int × Int) => [(37, .int .i64 s.1)]) (fun s => [mpp rm s.2, orow 3 AA cA AL, orow 3 AC cC CL, bx b9 25 [.int .i64 5, .slice A L.length c], knw A L]) (fun s => s.1 ≤ AL.length ∧ Cnt s.2 (fun _ => 0) AL s.1) (fun s => AL.length - s.1) (0, []) hsL enL ⟨Nat.zero_le _, fun j => by simp [mget, mfind]⟩ ?_
  rintro ⟨k, m⟩ g1 ⟨hk, hm⟩
  simp only [sets]
  simp only at hk hm
  by_cases hkl : k < AL.length
  · obtain ⟨q, hq⟩ : ∃ q, AL.getD k 0 = q := ⟨_, rfl⟩
    have hbd := cnt_bound hm (fun j => by omega) (by omega) q
    have hn := cnt_next hkl hm hq rfl
    (repeat' (first | (show VH _ _ _ _ _ _ _; first | refine v_seq ?_ | refine r_seq ?_ | refine v_block ?_ | refine v_skip ?_ | refine v_cond_t rfl tbL ?_) | (show SH _ _ _ _ _ (_ :: _) _ _ _; first | (show SH _ _ _ _ _ (⟨_, .move _, _, _, _, _⟩ :: _) _ _ _; refine mov evL ?_) | (show SH _ _ _ _ _ (⟨_, .assign _, _, _, _, _⟩ :: _) _ _ _; refine asg evL ?_) | (show SH _ _ _ _ _ (⟨_, .binOp .lss _ _ _ _, _, _, _, _⟩ :: _) _ _ _; refine lssT rfl rfl omD ?_) | (show SH _ _ _ _ _ (⟨_, .binOp .add _ _ _ _, _, _, _, _⟩ :: _) _ _ _; refine add rfl rfl inL ?_) | (show SH _ _ _ _ _ (⟨_, .load _ _, _, _, _, _⟩ :: _) _ _ _; refine lgi rfl (fun _ _ => rdY) omL (by assumption) ?_) | (show SH _ _ _ _ _ (⟨_, .indexAddr _ _ _, _, _, _, _⟩ :: _) _ _ _; refine ix rfl rfl (by with_reducible rfl) (fun _ _ => rdY) (by rfl) omL omL ?_) | (show SH _ _ _ _ _ (⟨_, .lookup _ _ _ false, _, _, _, _⟩ :: _) _ _ _; refine lkm rfl rfl spL ?_) | (show SH _ _ _ _ _ (⟨_, .mapUpdate _ _ _ _, _, _, _, _⟩ :: _) _ _ _; refine mup rfl rfl rfl rfl spL kpL ?_)) | refine s_nil ?_ | refine kh_normal ?_ | refine bh_normal ?_))
    exact ⟨agL, (k + 1, mput m q (mget m q + 1)), hsL, enL, ⟨hkl, hn⟩, by show _ - (k + 1) < _ - k; omega⟩
  · obtain rfl : k = AL.length := by omega

    (repeat' (first | (show VH _ _ _ _ _ _ _; first | refine v_seq ?_ | refine r_seq ?_ | refine v_exit ?_ | refine v_cond_f rfl tbL ?_) | (show SH _ _ _ _ _ (_ :: _) _ _ _; first | (show SH _ _ _ _ _ (⟨_, .move _, _, _, _, _⟩ :: _) _ _ _; refine mov evL ?_) | (show SH _ _ _ _ _ (⟨_, .binOp .lss _ _ _ _, _, _, _, _⟩ :: _) _ _ _; refine lssF rfl rfl omD ?_) | (show SH _ _ _ _ _ (⟨_, .load _ _, _, _, _, _⟩ :: _) _ _ _; refine lba rfl spL (by rfl) ?_) | (show SH _ _ _ _ _ (⟨_, .call ⟨.value (.func 20), _, _⟩, _, _, _, _⟩ :: _) _ _ _; refine cp (callee := .func 20) rfl (fun w hw => hBB w (hG.ext hw.ext) (hw.kw spL)) rfl rfl ?_)) | refine s_nil ?_ | refine kh_normal ?_ | refine kh_exit ?_ | refine bh_exit ?_))
    rintro _ _ ⟨AB, cB, rfl, rfl⟩
    have hcA0 : ∀ j, (0 : Int) ≤ (AL.count j : Int) ∧ (AL.count j : Int) ≤ 1000 := fun j => by
      have : AL.count j ≤ AL.length := List.count_le_length
      omega
    have hm1 : Cnt m (fun j => (AL.count j : Int)) BL 0 := fun j => by
      have := hm j
      rw [List.take_length] at this
      rw [this]; simp
    clear hm hk hkl
    (repeat' (first | refine v_block ?_ | (show SH _ _ _ _ _ (_ :: _) _ _ _; first | (show SH _ _ _ _ _ (⟨_, .move _, _, _, _, _⟩ :: _) _ _ _; refine mov evL ?_) | refine slen rfl ?_) | refine s_nil ?_ | refine kh_normal ?_))
    refine v_norm [(1,_),(2,_),(7,_),(8,_),(9,_),(48,_),(49,_),(50,_)] heL (fun g => ?_)
    refine v_loop [(13,13),(50,58)] (fun s : Nat × List (Int × Int) => [(50, .int .i64 s.1)]) (fun s => [mpp rm s.2, orow 3 AB cB BL, orow 3 AC cC CL, bx b9 25 [.int .i64 5, .slice A L.length c], knw A L]) (fun s => s.1 ≤ BL.length ∧ Cnt s.2 (fun j => (AL.count j : Int)) BL s.1) (fun s => BL.length - s.1) (0, m) hsL enL ⟨Nat.zero_le _, hm1⟩ ?_
    rintro ⟨k, m⟩ g2 ⟨hk, hm⟩
    simp only [sets]
    simp only at hk hm
    by_cases hkl : k < BL.length
    · obtain ⟨q, hq⟩ : ∃ q, BL.getD k 0 = q := ⟨_, rfl⟩
      have hbd := cnt_bound hm hcA0 (by omega) q
      have hn := cnt_next hkl hm hq rfl
      (repeat' (first | (show VH _ _ _ _ _ _ _; first | refine v_seq ?_ | refine r_seq ?_ | refine v_block ?_ | refine v_skip ?_ | refine v_cond_t rfl tbL ?_) | (show SH _ _ _ _ _ (_ :: _) _ _ _; first | (show SH _ _ _ _ _ (⟨_, .move _, _, _, _, _⟩ :: _) _ _ _; refine mov evL ?_) | (show SH _ _ _ _ _ (⟨_, .assign _, _, _, _, _⟩ :: _) _ _ _; refine asg evL ?_) | (show SH _ _ _ _ _ (⟨_, .binOp .lss _ _ _ _, _, _, _, _⟩ :: _) _ _ _; refine lssT rfl rfl omD ?_) | (show SH _ _ _ _ _ (⟨_, .binOp .add _ _ _ _, _, _, _, _⟩ :: _) _ _ _; refine add rfl rfl inL ?_) | (show SH _ _ _ _ _ (⟨_, .load _ _, _, _, _, _⟩ :: _) _ _ _; refine lgi rfl (fun _ _ => rdY) omL (by assumption) ?_) | (show SH _ _ _ _ _ (⟨_, .indexAddr _ _ _, _, _, _, _⟩ :: _) _ _ _; refine ix rfl rfl (by with_reducible rfl) (fun _ _ => rdY) (by rfl) omL omL ?_) | (show SH _ _ _ _ _ (⟨_, .lookup _ _ _ false, _, _, _, _⟩ :: _) _ _ _; refine lkm rfl rfl spL ?_) | (show SH _ _ _ _ _ (⟨_, .mapUpdate _ _ _ _, _, _, _, _⟩ :: _) _ _ _; refine mup rfl rfl rfl rfl spL kpL ?_)) | refine s_nil ?_ | refine kh_normal ?_ | refine bh_normal ?_))
      exact ⟨agL, (k + 1, mput m q (mget m q + 1)), hsL, enL, ⟨hkl, hn⟩, by show _ - (k + 1) < _ - k; omega⟩
    · obtain rfl : k = BL.length := by omega

      have hq2 : ∀ k, k < L.length → mget m (L.getD k Flat.dflt).e.id = (if hasM ma (L.getD k Flat.dflt).e = true then 1 else 0) + (if hasM mb (L.getD k Flat.dflt).e = true then 1 else 0) := fun k hk => by
        have h1 := hM.cA k hk
        have h2 := hM.cB k hk
        have h3 := hm (L.getD k Flat.dflt).e.id
        simp only at h3
        rw [List.take_length] at h3
        rw [h3, h1, h2]
        split <;> split <;> rfl
      clear hm hk hkl hm1 hcA0 hBB hBl
      (repeat' (first | (show VH _ _ _ _ _ _ _; first | refine v_seq ?_ | refine r_seq ?_ | refine v_block ?_ | refine v_exit ?_ | refine v_cond_f rfl tbL ?_) | (show SH _ _ _ _ _ (_ :: _) _ _ _; first | (show SH _ _ _ _ _ (⟨_, .move _, _, _, _, _⟩ :: _) _ _ _; refine mov evL ?_) | (show SH _ _ _ _ _ (⟨_, .assign _, _, _, _, _⟩ :: _) _ _ _; refine asg evL ?_) | (show SH _ _ _ _ _ (⟨_, .binOp .lss _ _ _ _, _, _, _, _⟩ :: _) _ _ _; refine lssF rfl rfl omD ?_) | (show SH _ _ _ _ _ (⟨_, .load _ _, _, _, _, _⟩ :: _) _ _ _; refine lbx rfl spL (by rfl) ?_) | refine slen rfl ?_ | refine fad rfl ?_) | refine s_nil ?_ | refine kh_normal ?_ | refine kh_exit ?_ | refine bh_exit ?_))
      refine v_norm [(1,_),(2,_),(7,_),(8,_),(9,_),(14,_),(60,_),(61,_),(62,_)] heL (fun g => ?_)
      refine VH.ent (G := [mpp rm m, orow 3 AC cC CL, bx b9 25 [.int .i64 5, .slice A L.length c], knw A L]) ?_ enL
      refine v_loop0 [(6,6),(14,14),(16,21),(23,24),(62,164)] (fun k : Nat => [(62, .int .i64 k), (14, .int .i64 (n k))]) (fun k => k ≤ L.length) (fun k => L.length - k) 0 ⟨rfl, congrArg (fun z : Nat => Value.int .i64 z) hM.n0.symm, trivial⟩ (Nat.zero_le _) ?_
      rintro k g3 hk
      simp only [sets]
      by_cases hkl : k < L.length
      · have hq := hq2 k hkl
        have hnn := hM.next k hkl
        have hhere := hM.here k hkl
        have hany := hM.any k hkl
        have hxm : (L.getD k Flat.dflt).e ∈ ents L := List.mem_map_of_mem (getD_mem hkl)
        have hxl := hcm0 _ hxm
        have hxk := hkd _ hxm
        have hxr := fun w (h : RdW w A L) => h.2 _ (getD_mem (d := Flat.dflt) hkl)
        have hxg := getM_at hv hv.up hxm
        have hal := allB_all ha hxk
        have hnl := hM.le k hk
        have hpt := fun w h => part_spec (L.getD k Flat.dflt) (ma : Int) w (by omega) h
        clear hM hq2 hcm0 hkd
        obtain ⟨x, hx⟩ : ∃ x, L.getD k Flat.dflt = x := ⟨_, rfl⟩
        have hxE : Flat.enc (L.getD k Flat.dflt) = Flat.enc x := by rw [hx]
        rw [hx] at hq hnn hhere hany hxm hxl hxk hxr hxg hal hpt
        clear hx
        obtain ⟨⟨yi, ys⟩, Ay, cy⟩ := x
        rw [show Flat.enc (⟨⟨yi, ys⟩, Ay, cy⟩ : EntP) = [.int .i64 yi, .slice Ay ys.length cy] from rfl] at hxE
        simp only at hq hnn hhere hany hxm hxl hxk hxr hxg hal hpt
        generalize hasM ma ⟨yi, ys⟩ = pa at *
        generalize hasM mb ⟨yi, ys⟩ = pb at *
        obtain ⟨nk1, hnk1⟩ : ∃ z, n (k + 1) = z := ⟨_, rfl⟩
        rw [hnk1] at hnn
        generalize n k = nk at *
        (repeat' ((fail_if_success (show VH _ _ (.seq (.seq (.region 18 _ _) _) _) _ _ _ _)); first | (show VH _ _ _ _ _ _ _; first | refine v_seq ?_ | refine r_seq ?_ | refine v_block ?_ | refine v_skip ?_ | refine v_cond_t rfl tbL ?_) | (show SH _ _ _ _ _ (_ :: _) _ _ _; first | (show SH _ _ _ _ _ (⟨_, .binOp .lss _ _ _ _, _, _, _, _⟩ :: _) _ _ _; refine lssT rfl rfl omD ?_) | (show SH _ _ _ _ _ (⟨_, .load _ _, _, _, _, _⟩ :: _) _ _ _; refine lag rfl (fun _ _ => rdY) (by rfl) omL (by assumption) ?_) | (show SH _ _ _ _ _ (⟨_, .indexAddr _ _ _, _, _, _, _⟩ :: _) _ _ _; refine ix rfl rfl (by with_reducible rfl) (fun _ _ => rdY) (by rfl) omL omL ?_) | refine ala rfl (fun b => ?_) | (show SH _ _ _ _ _ (⟨_, .store _ _ _, _, _, _, _⟩ :: _) _ _ _; refine sta rfl rfl rfl spL (by rfl) (by rfl) (by rfl) kpL ?_)) | refine s_nil ?_ | refine kh_normal ?_))
        revert b
        intro b16
        refine v_seq ?_
        refine v_cut0 [(14, 14), (66, 85)] (fun _ : Unit => [(14, .int .i64 nk1)]) (fun _ => True) ?_ ?_ ent_vh
        · by_cases hab : (pa && pb) = true
          · rw [if_pos hab] at hnn
            obtain ⟨hh1, hh2⟩ := hhere hab
            rw [Bool.and_eq_true] at hab
            rw [if_pos hab.1, if_pos hab.2] at hq
            clear hhere hab hany hxl hxk hxr hxg hal hpt
            (repeat' (first | (show VH _ _ _ _ _ _ _; first | refine v_seq ?_ | refine r_seq ?_ | refine r_quiet hmix (by kernel_rfl) ?_ | refine v_skip ?_ | refine v_cond_t rfl tbL ?_ | refine v_cond_f rfl tbL ?_) | (show SH _ _ _ _ _ (_ :: _) _ _ _; first | (show SH _ _ _ _ _ (⟨_, _, _, _, _, some _⟩ :: _) _ _ _; (refine gif rfl rfl ?_; refine giFF tbL ?_)) | (show SH _ _ _ _ _ (⟨_, .move _, _, _, _, _⟩ :: _) _ _ _; refine mov evL ?_) | (show SH _ _ _ _ _ (⟨_, .assign _, _, _, _, _⟩ :: _) _ _ _; refine asg evL ?_) | (show SH _ _ _ _ _ (⟨_, .binOp .geq _ _ _ _, _, _, _, _⟩ :: _) _ _ _; refine geqF rfl rfl omD ?_) | (show SH _ _ _ _ _ (⟨_, .binOp .eql _ _ _ _, _, _, _, _⟩ :: _) _ _ _; refine eqlT rfl rfl omD ?_) | (show SH _ _ _ _ _ (⟨_, .binOp .neq _ _ _ _, _, _, _, _⟩ :: _) _ _ _; refine neqF rfl rfl omD ?_) | (show SH _ _ _ _ _ (⟨_, .binOp .add _ _ _ _, _, _, _, _⟩ :: _) _ _ _; refine add rfl rfl inL ?_) | (show SH _ _ _ _ _ (⟨_, .load _ _, _, _, _, _⟩ :: _) _ _ _; first | refine lgi rfl (fun _ _ => rdY) omL (by assumption) ?_ | refine lbx rfl spL (by rfl) ?_) | (show SH _ _ _ _ _ (⟨_, .indexAddr _ _ _, _, _, _, _⟩ :: _) _ _ _; refine ix rfl rfl (by with_reducible rfl) (fun _ _ => rdY) (by rfl) omL omL ?_) | refine slen rfl ?_ | (show SH _ _ _ _ _ (⟨_, .lookup _ _ _ false, _, _, _, _⟩ :: _) _ _ _; refine lkm rfl rfl spL ?_) | (show SH _ _ _ _ _ (⟨_, .pick _ _ _, _, _, _, _⟩ :: _) _ _ _; refine pkf rfl tbL evL ?_) | refine fad rfl ?_) | refine s_nil ?_ | refine kh_normal ?_))
            refine ⟨agL, (), ?_, enL, trivial⟩
            refine ⟨congrArg (Value.int .i64) (by omega), trivial⟩
          · rw [if_neg hab] at hnn
            have hq3 : mget m yi ≠ 2 := by
              rw [hq]
              cases pa <;> cases pb <;> first | exact absurd rfl hab | decide
            clear hhere hab hany hxl hxk hxr hxg hal hpt hq
            (repeat' (first | (show VH _ _ _ _ _ _ _; first | refine v_seq ?_ | refine r_seq ?_ | refine v_skip ?_ | refine v_cond_f rfl tbL ?_) | (show SH _ _ _ _ _ (_ :: _) _ _ _; first | (show SH _ _ _ _ _ (⟨_, .move _, _, _, _, _⟩ :: _) _ _ _; refine mov evL ?_) | (show SH _ _ _ _ _ (⟨_, .binOp .eql _ _ _ _, _, _, _, _⟩ :: _) _ _ _; refine eqlF rfl rfl omD ?_) | (show SH _ _ _ _ _ (⟨_, .load _ _, _, _, _, _⟩ :: _) _ _ _; refine lbx rfl spL (by rfl) ?_) | (show SH _ _ _ _ _ (⟨_, .lookup _ _ _ false, _, _, _, _⟩ :: _) _ _ _; refine lkm rfl rfl spL ?_) | refine fad rfl ?_) | refine s_nil ?_ | refine kh_normal ?_))
            refine ⟨agL, (), ?_, enL, trivial⟩
            refine ⟨congrArg (Value.int .i64) (by omega), trivial⟩
        · rintro _ g4 _
          simp only [sets]
          clear hq hhere hnn hnl
          (repeat' (first | (show VH _ _ _ _ _ _ _; first | refine v_seq ?_ | refine r_seq ?_ | refine v_block ?_) | (show SH _ _ _ _ _ (_ :: _) _ _ _; (show SH _ _ _ _ _ (⟨_, .assign _, _, _, _, _⟩ :: _) _ _ _; refine asg evL ?_)) | refine s_nil ?_ | refine kh_normal ?_))
          refine v_normS [(6,6),(14,14),(16,21),(23,24),(62,164)] _ agL [(14,_),(16,_),(17,_),(18,_),(62,_)] heL (fun g => ?_)
          refine VH.ent (G := [bx b16 32 [.int .i64 yi, .slice Ay ys.length cy], mpp rm m, orow 3 AC cC CL, bx b9 25 [.int .i64 5, .slice A L.length c], knw A L]) ?_ enL
          refine v_loop0 [(17,20),(86,106)] (fun j : Nat => [(18, .int .u8 j), (17, .bool (allB ma ys j))]) (fun j => j ≤ 32) (fun j => 32 - j) 0 ⟨rfl, congrArg Value.bool (allB_zero ma ys).symm, trivial⟩ (Nat.zero_le _) ?_
          rintro j g5 hj
          simp only [sets]
          by_cases hjl : j < 32
          · have hg := fun w hG hr => hG0 yi j w hG hr
            rw [hxg] at hg
            have hbn := allB_next ma ys j
            have hsh := shr32 ma j (by omega)
            have hb1 := band32_one (n := ma / 2 ^ j) (Nat.lt_of_le_of_lt (Nat.div_le_self _ _) ha)
            have hq2 : ma / 2 ^ j % 2 < 2 := Nat.mod_lt _ (by omega)
            generalize ma / 2 ^ j % 2 = q0 at hbn hb1 hq2
            generalize ma / 2 ^ j = q1 at hsh hb1
            generalize (compK (j : Int) ys).isSome = z at hg hbn
            generalize compD (compK (j : Int) ys) = qc at hg
            obtain ⟨zb, hzb⟩ : ∃ zb, allB ma ys (j + 1) = zb := ⟨_, rfl⟩
            rw [hzb] at hbn
            generalize allB ma ys j = za at hbn ⊢
            clear hG0 hxg hal hany hpt hAA hxm hxk hxr
            by_cases hq1 : q0 = 1
            · rw [decide_eq_true hq1, Bool.true_and, Bool.not_not] at hbn
              cases z with
              | true =>
                rw [Bool.and_true] at hbn
                (repeat' (first | (show VH _ _ _ _ _ _ _; first | refine v_seq ?_ | refine r_seq ?_ | refine v_block ?_ | refine v_skip ?_ | refine v_cond_t rfl tbL ?_) | (show SH _ _ _ _ _ (_ :: _) _ _ _; first | (show SH _ _ _ _ _ (⟨_, .move _, _, _, _, _⟩ :: _) _ _ _; refine mov evL ?_) | (show SH _ _ _ _ _ (⟨_, .assign _, _, _, _, _⟩ :: _) _ _ _; refine asg evL ?_) | (show SH _ _ _ _ _ (⟨_, .binOp .lss _ _ _ _, _, _, _, _⟩ :: _) _ _ _; refine lssT rfl rfl omD ?_) | (show SH _ _ _ _ _ (⟨_, .load _ _, _, _, _, _⟩ :: _) _ _ _; first | refine lbx rfl spL (by rfl) ?_ | refine lba rfl spL (by rfl) ?_) | (show SH _ _ _ _ _ (⟨_, .call ⟨.value (.func 19), _, _⟩, _, _, _, _⟩ :: _) _ _ _; refine cl (callee := .func 19) rfl (fun w hw => hg w (hG.ext hw.ext) (hw.kw (A := A) (l := L) spL)) rfl rfl ?_) | refine extr rfl rfl ?_ | refine fad rfl ?_ | refine ala rfl (fun b => ?_) | (show SH _ _ _ _ _ (⟨_, .store _ _ _, _, _, _, _⟩ :: _) _ _ _; refine sta rfl rfl rfl spL (by rfl) (by rfl) (by rfl) kpL ?_)) | refine s_nil ?_ | refine kh_normal ?_))
                refine shrw rfl rfl (by omega) _ hsh ?_
                (repeat' (first | (show VH _ _ _ _ _ _ _; first | refine v_seq ?_ | refine r_seq ?_ | refine r_quiet hmix (by kernel_rfl) ?_ | refine v_block ?_ | refine v_ret ?_ | refine v_skip ?_ | refine v_exit ?_ | refine v_label ?_ | refine v_cond_t rfl tbL ?_ | refine v_cond_f rfl tbL ?_ | refine v_cond_dec rfl (fun h => ?_) (fun h => ?_) | refine v_cond_ndec rfl (fun h => ?_) (fun h => ?_) | refine v_cond rfl (fun h => ?_) (fun h => ?_)) | (show SH _ _ _ _ _ (_ :: _) _ _ _; first | (show SH _ _ _ _ _ (⟨_, _, _, _, _, some _⟩ :: _) _ _ _; first | (refine gif rfl rfl ?_; first | refine giTT tbL ?_ | refine giTF tbL ?_ | refine giFF tbL ?_ | refine giFT tbL ?_ | refine giTd (fun h => ?_) (fun h => ?_) | refine giFd (fun h => ?_) (fun h => ?_) | refine giT (fun h => ?_) (fun h => ?_) | refine giF (fun h => ?_) (fun h => ?_)) | refine gu rfl rfl ?_ | refine grT rfl rfl tbL ?_ | refine grF rfl rfl tbL ?_) | (show SH _ _ _ _ _ (⟨_, .move _, _, _, _, _⟩ :: _) _ _ _; refine mov evL ?_) | (show SH _ _ _ _ _ (⟨_, .assign _, _, _, _, _⟩ :: _) _ _ _; refine asg evL ?_) | (show SH _ _ _ _ _ (⟨_, .binOp .lss _ _ _ _, _, _, _, _⟩ :: _) _ _ _; first | refine lssT rfl rfl omD ?_ | refine lssF rfl rfl omD ?_ | refine lss rfl rfl ?_) | (show SH _ _ _ _ _ (⟨_, .binOp .geq _ _ _ _, _, _, _, _⟩ :: _) _ _ _; first | refine geqT rfl rfl omD ?_ | refine geqF rfl rfl omD ?_ | refine geq rfl rfl ?_) | (show SH _ _ _ _ _ (⟨_, .binOp .eql _ _ _ _, _, _, _, _⟩ :: _) _ _ _; first | refine eqlT rfl rfl omD ?_ | refine eqlF rfl rfl omD ?_ | refine eql rfl rfl ?_ | refine eqn rfl rfl ?_ | refine eqb rfl rfl ?_) | (show SH _ _ _ _ _ (⟨_, .binOp .neq _ _ _ _, _, _, _, _⟩ :: _) _ _ _; first | refine neqT rfl rfl omD ?_ | refine neqF rfl rfl omD ?_ | refine neq rfl rfl ?_ | refine nen rfl rfl ?_ | refine neb rfl rfl ?_) | (show SH _ _ _ _ _ (⟨_, .binOp .add _ _ _ _, _, _, _, _⟩ :: _) _ _ _; refine add rfl rfl inL ?_) | refine sh1 rfl rfl ?_ | (show SH _ _ _ _ _ (⟨_, .load _ _, _, _, _, _⟩ :: _) _ _ _; first | refine lgi rfl (fun _ _ => rdY) omL (by assumption) ?_ | refine lag rfl (fun _ _ => rdY) (by rfl) omL (by assumption) ?_ | refine lrg rfl (fun _ _ => rdY) (by rfl) omL (by assumption) (by rfl) ?_ | refine lin rfl (fun _ _ => rdY) omL ?_ | refine lbx rfl spL (by rfl) ?_ | refine lba rfl spL (by rfl) ?_ | refine lbi rfl spL omL ?_ | refine lr1 rfl (fun _ _ => rdY) (by rfl) omL (by rfl) ?_ | refine lra rfl (fun _ _ => rdY) (by rfl) omL ?_ | refine lrf rfl (fun _ _ => rdY) (by rfl) omL (by rfl) ?_ | refine lcell rfl (fun w hw => hw.ext.cell (by assumption)) ?_ | refine lrs rfl (fun _ _ => rdY) (by rfl) omL (by rfl) (by rfl) ?_ | refine lbs rfl spL (by rfl) (by rfl) ?_ | refine lca rfl (fun _ _ => rdY) (by rfl) ?_ | refine lcs rfl (fun _ _ => rdY) (by rfl) ?_ | refine lcf rfl (fun _ _ => rdY) (by rfl) ?_ | refine lrf rfl (fun _ _ => rdY) (by rfl) (by simp only [List.length_cons, List.length_nil]; omega) (by rfl) ?_ | refine lra rfl (fun _ _ => rdY) (by rfl) (by simp only [List.length_cons, List.length_nil]; omega) ?_) | (show SH _ _ _ _ _ (⟨_, .indexAddr _ _ _, _, _, _, _⟩ :: _) _ _ _; first | refine ix rfl rfl (by with_reducible rfl) (fun _ _ => rdY) (by rfl) omL omL ?_ | refine ixi rfl rfl (fun _ _ => rdY) (by rfl) omL omL omL ?_ | refine ixb rfl rfl omL ?_ | refine ixq rfl rfl (by assumption) omL omL ?_ | refine ixA _ rfl rfl rfl omL ?_ | refine ixi rfl rfl (fun _ _ => rdY) (by rfl) omL (by first | omega | (simp only [List.length_cons, List.length_nil]; omega)) (by simp only [List.length_cons, List.length_nil]; omega) ?_) | (show SH _ _ _ _ _ (⟨_, .call ⟨.builtin _, _, _⟩, _, _, _, _⟩ :: _) _ _ _; first | refine slen rfl ?_ | refine lnm rfl spL ?_) | (show SH _ _ _ _ _ (⟨_, .lookup _ _ _ false, _, _, _, _⟩ :: _) _ _ _; refine lkm rfl rfl spL ?_) | (show SH _ _ _ _ _ (⟨_, .unOp .not _ _, _, _, _, _⟩ :: _) _ _ _; first | refine bnoT rfl ?_ | refine bnoF rfl ?_ | refine bnot rfl ?_) | (show SH _ _ _ _ _ (⟨_, .pick _ _ _, _, _, _, _⟩ :: _) _ _ _; first | refine pkt rfl tbL evL ?_ | refine pkf rfl tbL evL ?_) | refine extr rfl rfl ?_ | refine fad rfl ?_ | (show SH _ _ _ _ _ (⟨_, .alloc _, _, _, _, _⟩ :: _) _ _ _; first | refine al1 rfl (fun b => ?_) | refine ala rfl (fun b => ?_)) | (show SH _ _ _ _ _ (⟨_, .store _ _ _, _, _, _, _⟩ :: _) _ _ _; first | refine stb rfl rfl evL spL rfl rfl (by first | decide | exact Nat.zero_lt_succ _ | exact of_decide_eq_true rfl) kpL ?_ | refine sta rfl rfl rfl spL (by rfl) (by rfl) (by rfl) kpL ?_ | refine sti rfl rfl rfl spL omL kpL ?_ | refine sbi rfl rfl rfl spL omL kpL ?_ | refine sbs rfl rfl evL spL (by rfl) (by rfl) (of_decide_eq_true rfl) kpL ?_) | refine mkm rfl (fun b => ?_) | (show SH _ _ _ _ _ (⟨_, .mapUpdate _ _ _ _, _, _, _, _⟩ :: _) _ _ _; refine mup rfl rfl rfl rfl spL kpL ?_)) | refine s_nil ?_ | refine s_fork ?_ ?_ | refine s_fork3 ?_ ?_ ?_ | refine s_fork4 ?_ ?_ ?_ ?_ | refine kh_normal ?_ | refine kh_ret ?_ | refine kh_exit ?_ | refine bh_normal ?_ | refine bh_ret ?_ | refine bh_exit ?_ | refine bh_exit_ne rfl ?_))
                refine andw rfl rfl _ hb1 ?_
                (repeat' (first | (show VH _ _ _ _ _ _ _; first | refine r_seq ?_ | refine v_skip ?_ | refine v_cond_f rfl tbL ?_) | (show SH _ _ _ _ _ (_ :: _) _ _ _; first | (show SH _ _ _ _ _ (⟨_, _, _, _, _, some _⟩ :: _) _ _ _; (refine gif rfl rfl ?_; refine giTT tbL ?_)) | (show SH _ _ _ _ _ (⟨_, .move _, _, _, _, _⟩ :: _) _ _ _; refine mov evL ?_) | (show SH _ _ _ _ _ (⟨_, .binOp .eql _ _ _ _, _, _, _, _⟩ :: _) _ _ _; refine eqlT rfl rfl omD ?_) | refine bnoT rfl ?_ | (show SH _ _ _ _ _ (⟨_, .pick _ _ _, _, _, _, _⟩ :: _) _ _ _; refine pkt rfl tbL evL ?_)) | refine s_nil ?_ | refine kh_normal ?_ | refine bh_normal ?_))
                refine addw rfl rfl ((j : Int) + 1) (wrap8 (by omega) (by omega)) ?_
                (repeat' (first | (show SH _ _ _ _ _ (_ :: _) _ _ _; (show SH _ _ _ _ _ (⟨_, .assign _, _, _, _, _⟩ :: _) _ _ _; refine asg evL ?_)) | refine s_nil ?_ | refine kh_normal ?_))
                refine ⟨agL, j + 1, ⟨congrArg (Value.int .u8) (by omega), congrArg Value.bool (by rw [hzb, hbn]), trivial⟩, enL, by omega, by omega⟩
              | false =>
                rw [Bool.and_false] at hbn
                (repeat' (first | (show VH _ _ _ _ _ _ _; first | refine v_seq ?_ | refine r_seq ?_ | refine v_block ?_ | refine v_skip ?_ | refine v_cond_t rfl tbL ?_) | (show SH _ _ _ _ _ (_ :: _) _ _ _; first | (show SH _ _ _ _ _ (⟨_, .move _, _, _, _, _⟩ :: _) _ _ _; refine mov evL ?_) | (show SH _ _ _ _ _ (⟨_, .assign _, _, _, _, _⟩ :: _) _ _ _; refine asg evL ?_) | (show SH _ _ _ _ _ (⟨_, .binOp .lss _ _ _ _, _, _, _, _⟩ :: _) _ _ _; refine lssT rfl rfl omD ?_) | (show SH _ _ _ _ _ (⟨_, .load _ _, _, _, _, _⟩ :: _) _ _ _; first | refine lbx rfl spL (by rfl) ?_ | refine lba rfl spL (by rfl) ?_) | (show SH _ _ _ _ _ (⟨_, .call ⟨.value (.func 19), _, _⟩, _, _, _, _⟩ :: _) _ _ _; refine cl (callee := .func 19) rfl (fun w hw => hg w (hG.ext hw.ext) (hw.kw (A := A) (l := L) spL)) rfl rfl ?_) | refine extr rfl rfl ?_ | refine fad rfl ?_ | refine ala rfl (fun b => ?_) | (show SH _ _ _ _ _ (⟨_, .store _ _ _, _, _, _, _⟩ :: _) _ _ _; refine sta rfl rfl rfl spL (by rfl) (by rfl) (by rfl) kpL ?_)) | refine s_nil ?_ | refine kh_normal ?_))
                refine shrw rfl rfl (by omega) _ hsh ?_
                (repeat' (first | (show VH _ _ _ _ _ _ _; first | refine v_seq ?_ | refine r_seq ?_ | refine r_quiet hmix (by kernel_rfl) ?_ | refine v_block ?_ | refine v_ret ?_ | refine v_skip ?_ | refine v_exit ?_ | refine v_label ?_ | refine v_cond_t rfl tbL ?_ | refine v_cond_f rfl tbL ?_ | refine v_cond_dec rfl (fun h => ?_) (fun h => ?_) | refine v_cond_ndec rfl (fun h => ?_) (fun h => ?_) | refine v_cond rfl (fun h => ?_) (fun h => ?_)) | (show SH _ _ _ _ _ (_ :: _) _ _ _; first | (show SH _ _ _ _ _ (⟨_, _, _, _, _, some _⟩ :: _) _ _ _; first | (refine gif rfl rfl ?_; first | refine giTT tbL ?_ | refine giTF tbL ?_ | refine giFF tbL ?_ | refine giFT tbL ?_ | refine giTd (fun h => ?_) (fun h => ?_) | refine giFd (fun h => ?_) (fun h => ?_) | refine giT (fun h => ?_) (fun h => ?_) | refine giF (fun h => ?_) (fun h => ?_)) | refine gu rfl rfl ?_ | refine grT rfl rfl tbL ?_ | refine grF rfl rfl tbL ?_) | (show SH _ _ _ _ _ (⟨_, .move _, _, _, _, _⟩ :: _) _ _ _; refine mov evL ?_) | (show SH _ _ _ _ _ (⟨_, .assign _, _, _, _, _⟩ :: _) _ _ _; refine asg evL ?_) | (show SH _ _ _ _ _ (⟨_, .binOp .lss _ _ _ _, _, _, _, _⟩ :: _) _ _ _; first | refine lssT rfl rfl omD ?_ | refine lssF rfl rfl omD ?_ | refine lss rfl rfl ?_) | (show SH _ _ _ _ _ (⟨_, .binOp .geq _ _ _ _, _, _, _, _⟩ :: _) _ _ _; first | refine geqT rfl rfl omD ?_ | refine geqF rfl rfl omD ?_ | refine geq rfl rfl ?_) | (show SH _ _ _ _ _ (⟨_, .binOp .eql _ _ _ _, _, _, _, _⟩ :: _) _ _ _; first | refine eqlT rfl rfl omD ?_ | refine eqlF rfl rfl omD ?_ | refine eql rfl rfl ?_ | refine eqn rfl rfl ?_ | refine eqb rfl rfl ?_) | (show SH _ _ _ _ _ (⟨_, .binOp .neq _ _ _ _, _, _, _, _⟩ :: _) _ _ _; first | refine neqT rfl rfl omD ?_ | refine neqF rfl rfl omD ?_ | refine neq rfl rfl ?_ | refine nen rfl rfl ?_ | refine neb rfl rfl ?_) | (show SH _ _ _ _ _ (⟨_, .binOp .add _ _ _ _, _, _, _, _⟩ :: _) _ _ _; refine add rfl rfl inL ?_) | refine sh1 rfl rfl ?_ | (show SH _ _ _ _ _ (⟨_, .load _ _, _, _, _, _⟩ :: _) _ _ _; first | refine lgi rfl (fun _ _ => rdY) omL (by assumption) ?_ | refine lag rfl (fun _ _ => rdY) (by rfl) omL (by assumption) ?_ | refine lrg rfl (fun _ _ => rdY) (by rfl) omL (by assumption) (by rfl) ?_ | refine lin rfl (fun _ _ => rdY) omL ?_ | refine lbx rfl spL (by rfl) ?_ | refine lba rfl spL (by rfl) ?_ | refine lbi rfl spL omL ?_ | refine lr1 rfl (fun _ _ => rdY) (by rfl) omL (by rfl) ?_ | refine lra rfl (fun _ _ => rdY) (by rfl) omL ?_ | refine lrf rfl (fun _ _ => rdY) (by rfl) omL (by rfl) ?_ | refine lcell rfl (fun w hw => hw.ext.cell (by assumption)) ?_ | refine lrs rfl (fun _ _ => rdY) (by rfl) omL (by rfl) (by rfl) ?_ | refine lbs rfl spL (by rfl) (by rfl) ?_ | refine lca rfl (fun _ _ => rdY) (by rfl) ?_ | refine lcs rfl (fun _ _ => rdY) (by rfl) ?_ | refine lcf rfl (fun _ _ => rdY) (by rfl) ?_ | refine lrf rfl (fun _ _ => rdY) (by rfl) (by simp only [List.length_cons, List.length_nil]; omega) (by rfl) ?_ | refine lra rfl (fun _ _ => rdY) (by rfl) (by simp only [List.length_cons, List.length_nil]; omega) ?_) | (show SH _ _ _ _ _ (⟨_, .indexAddr _ _ _, _, _, _, _⟩ :: _) _ _ _; first | refine ix rfl rfl (by with_reducible rfl) (fun _ _ => rdY) (by rfl) omL omL ?_ | refine ixi rfl rfl (fun _ _ => rdY) (by rfl) omL omL omL ?_ | refine ixb rfl rfl omL ?_ | refine ixq rfl rfl (by assumption) omL omL ?_ | refine ixA _ rfl rfl rfl omL ?_ | refine ixi rfl rfl (fun _ _ => rdY) (by rfl) omL (by first | omega | (simp only [List.length_cons, List.length_nil]; omega)) (by simp only [List.length_cons, List.length_nil]; omega) ?_) | (show SH _ _ _ _ _ (⟨_, .call ⟨.builtin _, _, _⟩, _, _, _, _⟩ :: _) _ _ _; first | refine slen rfl ?_ | refine lnm rfl spL ?_) | (show SH _ _ _ _ _ (⟨_, .lookup _ _ _ false, _, _, _, _⟩ :: _) _ _ _; refine lkm rfl rfl spL ?_) | (show SH _ _ _ _ _ (⟨_, .unOp .not _ _, _, _, _, _⟩ :: _) _ _ _; first | refine bnoT rfl ?_ | refine bnoF rfl ?_ | refine bnot rfl ?_) | (show SH _ _ _ _ _ (⟨_, .pick _ _ _, _, _, _, _⟩ :: _) _ _ _; first | refine pkt rfl tbL evL ?_ | refine pkf rfl tbL evL ?_) | refine extr rfl rfl ?_ | refine fad rfl ?_ | (show SH _ _ _ _ _ (⟨_, .alloc _, _, _, _, _⟩ :: _) _ _ _; first | refine al1 rfl (fun b => ?_) | refine ala rfl (fun b => ?_)) | (show SH _ _ _ _ _ (⟨_, .store _ _ _, _, _, _, _⟩ :: _) _ _ _; first | refine stb rfl rfl evL spL rfl rfl (by first | decide | exact Nat.zero_lt_succ _ | exact of_decide_eq_true rfl) kpL ?_ | refine sta rfl rfl rfl spL (by rfl) (by rfl) (by rfl) kpL ?_ | refine sti rfl rfl rfl spL omL kpL ?_ | refine sbi rfl rfl rfl spL omL kpL ?_ | refine sbs rfl rfl evL spL (by rfl) (by rfl) (of_decide_eq_true rfl) kpL ?_) | refine mkm rfl (fun b => ?_) | (show SH _ _ _ _ _ (⟨_, .mapUpdate _ _ _ _, _, _, _, _⟩ :: _) _ _ _; refine mup rfl rfl rfl rfl spL kpL ?_)) | refine s_nil ?_ | refine s_fork ?_ ?_ | refine s_fork3 ?_ ?_ ?_ | refine s_fork4 ?_ ?_ ?_ ?_ | refine kh_normal ?_ | refine kh_ret ?_ | refine kh_exit ?_ | refine bh_normal ?_ | refine bh_ret ?_ | refine bh_exit ?_ | refine bh_exit_ne rfl ?_))
                refine andw rfl rfl _ hb1 ?_
                (repeat' (first | (show VH _ _ _ _ _ _ _; first | refine r_seq ?_ | refine v_cond_t rfl tbL ?_) | (show SH _ _ _ _ _ (_ :: _) _ _ _; first | (show SH _ _ _ _ _ (⟨_, _, _, _, _, some _⟩ :: _) _ _ _; (refine gif rfl rfl ?_; refine giTT tbL ?_)) | (show SH _ _ _ _ _ (⟨_, .move _, _, _, _, _⟩ :: _) _ _ _; refine mov evL ?_) | (show SH _ _ _ _ _ (⟨_, .assign _, _, _, _, _⟩ :: _) _ _ _; refine asg evL ?_) | (show SH _ _ _ _ _ (⟨_, .binOp .eql _ _ _ _, _, _, _, _⟩ :: _) _ _ _; refine eqlT rfl rfl omD ?_) | refine bnoF rfl ?_ | (show SH _ _ _ _ _ (⟨_, .pick _ _ _, _, _, _, _⟩ :: _) _ _ _; refine pkt rfl tbL evL ?_)) | refine s_nil ?_ | refine kh_normal ?_ | refine bh_normal ?_))
                refine addw rfl rfl ((j : Int) + 1) (wrap8 (by omega) (by omega)) ?_
                (repeat' (first | (show SH _ _ _ _ _ (_ :: _) _ _ _; (show SH _ _ _ _ _ (⟨_, .assign _, _, _, _, _⟩ :: _) _ _ _; refine asg evL ?_)) | refine s_nil ?_ | refine kh_normal ?_))
                refine ⟨agL, j + 1, ⟨congrArg (Value.int .u8) (by omega), congrArg Value.bool (by rw [hzb, hbn]), trivial⟩, enL, by omega, by omega⟩
            · rw [decide_eq_false hq1, Bool.false_and, Bool.not_false, Bool.and_true] at hbn
              (repeat' (first | (show VH _ _ _ _ _ _ _; first | refine v_seq ?_ | refine r_seq ?_ | refine v_block ?_ | refine v_skip ?_ | refine v_cond_t rfl tbL ?_) | (show SH _ _ _ _ _ (_ :: _) _ _ _; first | (show SH _ _ _ _ _ (⟨_, .move _, _, _, _, _⟩ :: _) _ _ _; refine mov evL ?_) | (show SH _ _ _ _ _ (⟨_, .assign _, _, _, _, _⟩ :: _) _ _ _; refine asg evL ?_) | (show SH _ _ _ _ _ (⟨_, .binOp .lss _ _ _ _, _, _, _, _⟩ :: _) _ _ _; refine lssT rfl rfl omD ?_) | (show SH _ _ _ _ _ (⟨_, .load _ _, _, _, _, _⟩ :: _) _ _ _; first | refine lbx rfl spL (by rfl) ?_ | refine lba rfl spL (by rfl) ?_) | (show SH _ _ _ _ _ (⟨_, .call ⟨.value (.func 19), _, _⟩, _, _, _, _⟩ :: _) _ _ _; refine cl (callee := .func 19) rfl (fun w hw => hg w (hG.ext hw.ext) (hw.kw (A := A) (l := L) spL)) rfl rfl ?_) | refine extr rfl rfl ?_ | refine fad rfl ?_ | refine ala rfl (fun b => ?_) | (show SH _ _ _ _ _ (⟨_, .store _ _ _, _, _, _, _⟩ :: _) _ _ _; refine sta rfl rfl rfl spL (by rfl) (by rfl) (by rfl) kpL ?_)) | refine s_nil ?_ | refine kh_normal ?_))
              refine shrw rfl rfl (by omega) _ hsh ?_
              (repeat' (first | (show VH _ _ _ _ _ _ _; first | refine v_seq ?_ | refine r_seq ?_ | refine r_quiet hmix (by kernel_rfl) ?_ | refine v_block ?_ | refine v_ret ?_ | refine v_skip ?_ | refine v_exit ?_ | refine v_label ?_ | refine v_cond_t rfl tbL ?_ | refine v_cond_f rfl tbL ?_ | refine v_cond_dec rfl (fun h => ?_) (fun h => ?_) | refine v_cond_ndec rfl (fun h => ?_) (fun h => ?_) | refine v_cond rfl (fun h => ?_) (fun h => ?_)) | (show SH _ _ _ _ _ (_ :: _) _ _ _; first | (show SH _ _ _ _ _ (⟨_, _, _, _, _, some _⟩ :: _) _ _ _; first | (refine gif rfl rfl ?_; first | refine giTT tbL ?_ | refine giTF tbL ?_ | refine giFF tbL ?_ | refine giFT tbL ?_ | refine giTd (fun h => ?_) (fun h => ?_) | refine giFd (fun h => ?_) (fun h => ?_) | refine giT (fun h => ?_) (fun h => ?_) | refine giF (fun h => ?_) (fun h => ?_)) | refine gu rfl rfl ?_ | refine grT rfl rfl tbL ?_ | refine grF rfl rfl tbL ?_) | (show SH _ _ _ _ _ (⟨_, .move _, _, _, _, _⟩ :: _) _ _ _; refine mov evL ?_) | (show SH _ _ _ _ _ (⟨_, .assign _, _, _, _, _⟩ :: _) _ _ _; refine asg evL ?_) | (show SH _ _ _ _ _ (⟨_, .binOp .lss _ _ _ _, _, _, _, _⟩ :: _) _ _ _; first | refine lssT rfl rfl omD ?_ | refine lssF rfl rfl omD ?_ | refine lss rfl rfl ?_) | (show SH _ _ _ _ _ (⟨_, .binOp .geq _ _ _ _, _, _, _, _⟩ :: _) _ _ _; first | refine geqT rfl rfl omD ?_ | refine geqF rfl rfl omD ?_ | refine geq rfl rfl ?_) | (show SH _ _ _ _ _ (⟨_, .binOp .eql _ _ _ _, _, _, _, _⟩ :: _) _ _ _; first | refine eqlT rfl rfl omD ?_ | refine eqlF rfl rfl omD ?_ | refine eql rfl rfl ?_ | refine eqn rfl rfl ?_ | refine eqb rfl rfl ?_) | (show SH _ _ _ _ _ (⟨_, .binOp .neq _ _ _ _, _, _, _, _⟩ :: _) _ _ _; first | refine neqT rfl rfl omD ?_ | refine neqF rfl rfl omD ?_ | refine neq rfl rfl ?_ | refine nen rfl rfl ?_ | refine neb rfl rfl ?_) | (show SH _ _ _ _ _ (⟨_, .binOp .add _ _ _ _, _, _, _, _⟩ :: _) _ _ _; refine add rfl rfl inL ?_) | refine sh1 rfl rfl ?_ | (show SH _ _ _ _ _ (⟨_, .load _ _, _, _, _, _⟩ :: _) _ _ _; first | refine lgi rfl (fun _ _ => rdY) omL (by assumption) ?_ | refine lag rfl (fun _ _ => rdY) (by rfl) omL (by assumption) ?_ | refine lrg rfl (fun _ _ => rdY) (by rfl) omL (by assumption) (by rfl) ?_ | refine lin rfl (fun _ _ => rdY) omL ?_ | refine lbx rfl spL (by rfl) ?_ | refine lba rfl spL (by rfl) ?_ | refine lbi rfl spL omL ?_ | refine lr1 rfl (fun _ _ => rdY) (by rfl) omL (by rfl) ?_ | refine lra rfl (fun _ _ => rdY) (by rfl) omL ?_ | refine lrf rfl (fun _ _ => rdY) (by rfl) omL (by rfl) ?_ | refine lcell rfl (fun w hw => hw.ext.cell (by assumption)) ?_ | refine lrs rfl (fun _ _ => rdY) (by rfl) omL (by rfl) (by rfl) ?_ | refine lbs rfl spL (by rfl) (by rfl) ?_ | refine lca rfl (fun _ _ => rdY) (by rfl) ?_ | refine lcs rfl (fun _ _ => rdY) (by rfl) ?_ | refine lcf rfl (fun _ _ => rdY) (by rfl) ?_ | refine lrf rfl (fun _ _ => rdY) (by rfl) (by simp only [List.length_cons, List.length_nil]; omega) (by rfl) ?_ | refine lra rfl (fun _ _ => rdY) (by rfl) (by simp only [List.length_cons, List.length_nil]; omega) ?_) | (show SH _ _ _ _ _ (⟨_, .indexAddr _ _ _, _, _, _, _⟩ :: _) _ _ _; first | refine ix rfl rfl (by with_reducible rfl) (fun _ _ => rdY) (by rfl) omL omL ?_ | refine ixi rfl rfl (fun _ _ => rdY) (by rfl) omL omL omL ?_ | refine ixb rfl rfl omL ?_ | refine ixq rfl rfl (by assumption) omL omL ?_ | refine ixA _ rfl rfl rfl omL ?_ | refine ixi rfl rfl (fun _ _ => rdY) (by rfl) omL (by first | omega | (simp only [List.length_cons, List.length_nil]; omega)) (by simp only [List.length_cons, List.length_nil]; omega) ?_) | (show SH _ _ _ _ _ (⟨_, .call ⟨.builtin _, _, _⟩, _, _, _, _⟩ :: _) _ _ _; first | refine slen rfl ?_ | refine lnm rfl spL ?_) | (show SH _ _ _ _ _ (⟨_, .lookup _ _ _ false, _, _, _, _⟩ :: _) _ _ _; refine lkm rfl rfl spL ?_) | (show SH _ _ _ _ _ (⟨_, .unOp .not _ _, _, _, _, _⟩ :: _) _ _ _; first | refine bnoT rfl ?_ | refine bnoF rfl ?_ | refine bnot rfl ?_) | (show SH _ _ _ _ _ (⟨_, .pick _ _ _, _, _, _, _⟩ :: _) _ _ _; first | refine pkt rfl tbL evL ?_ | refine pkf rfl tbL evL ?_) | refine extr rfl rfl ?_ | refine fad rfl ?_ | (show SH _ _ _ _ _ (⟨_, .alloc _, _, _, _, _⟩ :: _) _ _ _; first | refine al1 rfl (fun b => ?_) | refine ala rfl (fun b => ?_)) | (show SH _ _ _ _ _ (⟨_, .store _ _ _, _, _, _, _⟩ :: _) _ _ _; first | refine stb rfl rfl evL spL rfl rfl (by first | decide | exact Nat.zero_lt_succ _ | exact of_decide_eq_true rfl) kpL ?_ | refine sta rfl rfl rfl spL (by rfl) (by rfl) (by rfl) kpL ?_ | refine sti rfl rfl rfl spL omL kpL ?_ | refine sbi rfl rfl rfl spL omL kpL ?_ | refine sbs rfl rfl evL spL (by rfl) (by rfl) (of_decide_eq_true rfl) kpL ?_) | refine mkm rfl (fun b => ?_) | (show SH _ _ _ _ _ (⟨_, .mapUpdate _ _ _ _, _, _, _, _⟩ :: _) _ _ _; refine mup rfl rfl rfl rfl spL kpL ?_)) | refine s_nil ?_ | refine s_fork ?_ ?_ | refine s_fork3 ?_ ?_ ?_ | refine s_fork4 ?_ ?_ ?_ ?_ | refine kh_normal ?_ | refine kh_ret ?_ | refine kh_exit ?_ | refine bh_normal ?_ | refine bh_ret ?_ | refine bh_exit ?_ | refine bh_exit_ne rfl ?_))
              refine andw rfl rfl _ hb1 ?_
              (repeat' (first | (show VH _ _ _ _ _ _ _; first | refine r_seq ?_ | refine v_skip ?_ | refine v_cond_f rfl tbL ?_) | (show SH _ _ _ _ _ (_ :: _) _ _ _; first | (show SH _ _ _ _ _ (⟨_, _, _, _, _, some _⟩ :: _) _ _ _; (refine gif rfl rfl ?_; refine giTF tbL ?_)) | (show SH _ _ _ _ _ (⟨_, .move _, _, _, _, _⟩ :: _) _ _ _; refine mov evL ?_) | (show SH _ _ _ _ _ (⟨_, .binOp .eql _ _ _ _, _, _, _, _⟩ :: _) _ _ _; refine eqlF rfl rfl omD ?_) | (show SH _ _ _ _ _ (⟨_, .pick _ _ _, _, _, _, _⟩ :: _) _ _ _; refine pkf rfl tbL evL ?_)) | refine s_nil ?_ | refine kh_normal ?_ | refine bh_normal ?_))
              refine addw rfl rfl ((j : Int) + 1) (wrap8 (by omega) (by omega)) ?_
              (repeat' (first | (show SH _ _ _ _ _ (_ :: _) _ _ _; (show SH _ _ _ _ _ (⟨_, .assign _, _, _, _, _⟩ :: _) _ _ _; refine asg evL ?_)) | refine s_nil ?_ | refine kh_normal ?_))
              refine ⟨agL, j + 1, ⟨congrArg (Value.int .u8) (by omega), congrArg Value.bool (by rw [hzb, hbn]), trivial⟩, enL, by omega, by omega⟩
          · obtain rfl : j = 32 := by omega
            rw [hal]
            clear hal hG0 hxg
            (repeat' (first | (show VH _ _ _ _ _ _ _; first | refine v_seq ?_ | refine r_seq ?_ | refine v_exit ?_ | refine v_cond_f rfl tbL ?_) | (show SH _ _ _ _ _ (_ :: _) _ _ _; first | (show SH _ _ _ _ _ (⟨_, .move _, _, _, _, _⟩ :: _) _ _ _; refine mov evL ?_) | (show SH _ _ _ _ _ (⟨_, .assign _, _, _, _, _⟩ :: _) _ _ _; refine asg evL ?_) | (show SH _ _ _ _ _ (⟨_, .binOp .lss _ _ _ _, _, _, _, _⟩ :: _) _ _ _; refine lssF rfl rfl omD ?_) | (show SH _ _ _ _ _ (⟨_, .load _ _, _, _, _, _⟩ :: _) _ _ _; refine lba rfl spL (by rfl) ?_) | (show SH _ _ _ _ _ (⟨_, .call ⟨.value (.func 20), _, _⟩, _, _, _, _⟩ :: _) _ _ _; refine cp (callee := .func 20) rfl (fun w hw => hAA w (hG.ext hw.ext) (hw.kw spL)) rfl rfl ?_)) | refine s_nil ?_ | refine kh_normal ?_ | refine kh_exit ?_ | refine bh_exit ?_))
            rintro _ _ ⟨AD, cD, rfl, rfl⟩
            clear hAA
            (repeat' (first | refine v_block ?_ | (show SH _ _ _ _ _ (_ :: _) _ _ _; first | (show SH _ _ _ _ _ (⟨_, .move _, _, _, _, _⟩ :: _) _ _ _; refine mov evL ?_) | refine slen rfl ?_) | refine s_nil ?_ | refine kh_normal ?_))
            refine v_normS [(6,6),(14,14),(16,21),(23,24),(62,164)] _ agL [(14,_),(16,_),(17,_),(21,_),(62,_),(109,_),(110,_),(111,_)] heL (fun g => ?_)
            refine VH.ent (G := [orow 3 AD cD AL, bx b16 32 [.int .i64 yi, .slice Ay ys.length cy], mpp rm m, orow 3 AC cC CL, bx b9 25 [.int .i64 5, .slice A L.length c], knw A L]) ?_ enL
            refine v_loop0 [(21,21),(23,23),(111,122)] (fun j : Nat => [(111, .int .i64 j), (21, .bool ((AL.take j).any fun i => decide (i = yi)))]) (fun j => j ≤ AL.length) (fun j => AL.length - j) 0 ⟨rfl, rfl, trivial⟩ (Nat.zero_le _) ?_
            rintro j g6 hj5
            simp only [sets]
            by_cases hjl5 : j < AL.length
            · have hn5 := any_next hjl5 yi
              obtain ⟨q, hq⟩ : ∃ q, AL.getD j 0 = q := ⟨_, rfl⟩
              rw [hq] at hn5
              obtain ⟨zb, hzb⟩ : ∃ zb, ((AL.take (j + 1)).any fun i => decide (i = yi)) = zb := ⟨_, rfl⟩
              rw [hzb] at hn5
              generalize ((AL.take j).any fun i => decide (i = yi)) = za at hn5 ⊢
              clear hany hpt hxm hxk hxr
              cases za with
              | true =>
                rw [Bool.true_or] at hn5
                (repeat' (first | (show VH _ _ _ _ _ _ _; first | refine v_seq ?_ | refine r_seq ?_ | refine v_block ?_ | refine v_skip ?_ | refine v_cond_t rfl tbL ?_) | (show SH _ _ _ _ _ (_ :: _) _ _ _; first | (show SH _ _ _ _ _ (⟨_, _, _, _, _, some _⟩ :: _) _ _ _; (refine gif rfl rfl ?_; refine giFT tbL ?_)) | (show SH _ _ _ _ _ (⟨_, .move _, _, _, _, _⟩ :: _) _ _ _; refine mov evL ?_) | (show SH _ _ _ _ _ (⟨_, .assign _, _, _, _, _⟩ :: _) _ _ _; refine asg evL ?_) | (show SH _ _ _ _ _ (⟨_, .binOp .lss _ _ _ _, _, _, _, _⟩ :: _) _ _ _; refine lssT rfl rfl omD ?_) | (show SH _ _ _ _ _ (⟨_, .binOp .add _ _ _ _, _, _, _, _⟩ :: _) _ _ _; refine add rfl rfl inL ?_) | (show SH _ _ _ _ _ (⟨_, .load _ _, _, _, _, _⟩ :: _) _ _ _; refine lgi rfl (fun _ _ => rdY) omL (by assumption) ?_) | (show SH _ _ _ _ _ (⟨_, .indexAddr _ _ _, _, _, _, _⟩ :: _) _ _ _; refine ix rfl rfl (by with_reducible rfl) (fun _ _ => rdY) (by rfl) omL omL ?_) | (show SH _ _ _ _ _ (⟨_, .pick _ _ _, _, _, _, _⟩ :: _) _ _ _; refine pkt rfl tbL evL ?_)) | refine s_nil ?_ | refine kh_normal ?_ | refine bh_normal ?_))
                exact ⟨agL, j + 1, ⟨rfl, congrArg Value.bool (by rw [hzb, hn5]), trivial⟩, enL, by omega, by omega⟩
              | false =>
                rw [Bool.false_or] at hn5
                by_cases hqy : q = yi
                · rw [decide_eq_true hqy] at hn5
                  (repeat' (first | (show VH _ _ _ _ _ _ _; first | refine v_seq ?_ | refine r_seq ?_ | refine v_block ?_ | refine v_skip ?_ | refine v_cond_t rfl tbL ?_) | (show SH _ _ _ _ _ (_ :: _) _ _ _; first | (show SH _ _ _ _ _ (⟨_, _, _, _, _, some _⟩ :: _) _ _ _; (refine gif rfl rfl ?_; refine giFF tbL ?_)) | (show SH _ _ _ _ _ (⟨_, .move _, _, _, _, _⟩ :: _) _ _ _; refine mov evL ?_) | (show SH _ _ _ _ _ (⟨_, .assign _, _, _, _, _⟩ :: _) _ _ _; refine asg evL ?_) | (show SH _ _ _ _ _ (⟨_, .binOp .lss _ _ _ _, _, _, _, _⟩ :: _) _ _ _; refine lssT rfl rfl omD ?_) | (show SH _ _ _ _ _ (⟨_, .binOp .eql _ _ _ _, _, _, _, _⟩ :: _) _ _ _; refine eqlT rfl rfl omD ?_) | (show SH _ _ _ _ _ (⟨_, .binOp .add _ _ _ _, _, _, _, _⟩ :: _) _ _ _; refine add rfl rfl inL ?_) | (show SH _ _ _ _ _ (⟨_, .load _ _, _, _, _, _⟩ :: _) _ _ _; first | refine lgi rfl (fun _ _ => rdY) omL (by assumption) ?_ | refine lbx rfl spL (by rfl) ?_) | (show SH _ _ _ _ _ (⟨_, .indexAddr _ _ _, _, _, _, _⟩ :: _) _ _ _; refine ix rfl rfl (by with_reducible rfl) (fun _ _ => rdY) (by rfl) omL omL ?_) | (show SH _ _ _ _ _ (⟨_, .pick _ _ _, _, _, _, _⟩ :: _) _ _ _; refine pkf rfl tbL evL ?_) | refine fad rfl ?_) | refine s_nil ?_ | refine kh_normal ?_ | refine bh_normal ?_))
                  exact ⟨agL, j + 1, ⟨rfl, congrArg Value.bool (by rw [hzb, hn5]), trivial⟩, enL, by omega, by omega⟩
                · rw [decide_eq_false hqy] at hn5
                  (repeat' (first | (show VH _ _ _ _ _ _ _; first | refine v_seq ?_ | refine r_seq ?_ | refine v_block ?_ | refine v_skip ?_ | refine v_cond_t rfl tbL ?_) | (show SH _ _ _ _ _ (_ :: _) _ _ _; first | (show SH _ _ _ _ _ (⟨_, _, _, _, _, some _⟩ :: _) _ _ _; (refine gif rfl rfl ?_; refine giFF tbL ?_)) | (show SH _ _ _ _ _ (⟨_, .move _, _, _, _, _⟩ :: _) _ _ _; refine mov evL ?_) | (show SH _ _ _ _ _ (⟨_, .assign _, _, _, _, _⟩ :: _) _ _ _; refine asg evL ?_) | (show SH _ _ _ _ _ (⟨_, .binOp .lss _ _ _ _, _, _, _, _⟩ :: _) _ _ _; refine lssT rfl rfl omD ?_) | (show SH _ _ _ _ _ (⟨_, .binOp .eql _ _ _ _, _, _, _, _⟩ :: _) _ _ _; refine eqlF rfl rfl omD ?_) | (show SH _ _ _ _ _ (⟨_, .binOp .add _ _ _ _, _, _, _, _⟩ :: _) _ _ _; refine add rfl rfl inL ?_) | (show SH _ _ _ _ _ (⟨_, .load _ _, _, _, _, _⟩ :: _) _ _ _; first | refine lgi rfl (fun _ _ => rdY) omL (by assumption) ?_ | refine lbx rfl spL (by rfl) ?_) | (show SH _ _ _ _ _ (⟨_, .indexAddr _ _ _, _, _, _, _⟩ :: _) _ _ _; refine ix rfl rfl (by with_reducible rfl) (fun _ _ => rdY) (by rfl) omL omL ?_) | (show SH _ _ _ _ _ (⟨_, .pick _ _ _, _, _, _, _⟩ :: _) _ _ _; refine pkf rfl tbL evL ?_) | refine fad rfl ?_) | refine s_nil ?_ | refine kh_normal ?_ | refine bh_normal ?_))
                  exact ⟨agL, j + 1, ⟨rfl, congrArg Value.bool (by rw [hzb, hn5]), trivial⟩, enL, by omega, by omega⟩
            · obtain rfl : j = AL.length := by omega
              rw [List.take_length, hany]
              clear hany
              have hpar := fun w h => part_spec ⟨⟨yi, ys⟩, Ay, cy⟩ (4294967295 : Int) w (by show ys.length ≤ _; omega) h
              have hpab := fun w h => part_spec ⟨⟨yi, ys⟩, Ay, cy⟩ ((ma &&& mb : Nat) : Int) w (by show ys.length ≤ _; omega) h
              have hpl := part_len (ma : Int) ys
              have hmp := mask_part ha ys
              have hpp := part_part ha hb ys
              have hmk := fun w h => mask_spec ⟨⟨yi, ys⟩, Ay, cy⟩ w (by show ys.length ≤ _; omega) h
              simp only at hpar hmk hpab
              rw [part_all hxk] at hpar
              generalize partC (ma : Int) ys = P at hpt hpl hmp hpp
              have hmkp := fun A3 c3 w h => mask_spec ⟨⟨yi, P⟩, A3, c3⟩ w (by show P.length ≤ _; omega) h
              have hppb := fun A3 c3 w h => part_spec ⟨⟨yi, P⟩, A3, c3⟩ (mb : Int) w (by show P.length ≤ _; omega) h
              simp only at hmkp hppb
              rw [hmp] at hmkp
              rw [hpp] at hppb
              have hql : (partC ((ma &&& mb : Nat) : Int) ys).length ≤ ys.length := part_len _ _
              generalize partC ((ma &&& mb : Nat) : Int) ys = PP at hpab hppb hql
              obtain ⟨r, hrr⟩ : ∃ r, bandK .u32 (maskC ys) (ma : Int) = r := ⟨_, rfl⟩
              rw [hrr] at hmkp
              generalize maskC ys = mk at hmk hrr
              have hs1 := fun A5 c5 w h1 h2 => sameE_spec ⟨⟨yi, ys⟩, A5, c5⟩ ⟨⟨yi, ys⟩, Ay, cy⟩ w h1 h2 (by show ys.length ≤ _; omega)
              have hs2 := fun A5 c5 A6 c6 w h1 h2 => sameE_spec ⟨⟨yi, PP⟩, A5, c5⟩ ⟨⟨yi, PP⟩, A6, c6⟩ w h1 h2 (by show PP.length ≤ _; omega)
              simp only [decide_eq_true] at hs1 hs2
              unfold OwnR at hpt hpar hpab hppb
              simp only at hpt hpar hpab hppb
              have hand := band32 ha hb
              clear hmp hpp hxm hxk hpl hql hxl
              (repeat' (first | (show VH _ _ _ _ _ _ _; first | refine v_seq ?_ | refine r_seq ?_ | refine v_exit ?_ | refine v_cond_f rfl tbL ?_) | (show SH _ _ _ _ _ (_ :: _) _ _ _; first | (show SH _ _ _ _ _ (⟨_, .move _, _, _, _, _⟩ :: _) _ _ _; refine mov evL ?_) | (show SH _ _ _ _ _ (⟨_, .binOp .lss _ _ _ _, _, _, _, _⟩ :: _) _ _ _; refine lssF rfl rfl omD ?_) | (show SH _ _ _ _ _ (⟨_, .load _ _, _, _, _, _⟩ :: _) _ _ _; refine lba rfl spL (by rfl) ?_) | (show SH _ _ _ _ _ (⟨_, .call ⟨.value (.func 21), _, _⟩, _, _, _, _⟩ :: _) _ _ _; refine cp (callee := .func 21) rfl (fun w hw => hpt w (hxr w (hw.kw spL))) rfl rfl ?_)) | refine s_nil ?_ | refine kh_normal ?_ | refine kh_exit ?_ | refine bh_exit ?_))
              rintro _ _ ⟨A3, c3, rfl, rfl⟩
              (repeat' ((fail_if_success (show VH _ _ (.seq (.region 36 _ _) _) _ _ _ _)); first | (show SH _ _ _ _ _ (_ :: _) _ _ _; first | refine ala rfl (fun b => ?_) | (show SH _ _ _ _ _ (⟨_, .store _ _ _, _, _, _, _⟩ :: _) _ _ _; refine sta rfl rfl rfl spL (by rfl) (by rfl) (by rfl) kpL ?_)) | refine s_nil ?_ | refine kh_normal ?_))
              revert b
              intro b24
              have hv1 := self_nq pa
              refine v_seq ?_
              refine r_heldT [bx b24 32 [.int .i64 yi, .slice A3 P.length c3], orow 42 A3 c3 P, bx b16 32 [.int .i64 yi, .slice Ay ys.length cy], knw A L] (tr [(0, true), (1, false), (2, false), (3, false), (4, true), (6, true), (8, true), (5, false), (7, false), (9, false), (10, false), (11, false), (12, false), (13, true), (15, true), (14, false), (16, false), (17, false), (18, false), (19, false), (20, true), (21, true), (23, true), (24, true), (25, true), (26, true), (22, false), (27, false), (28, false), (29, false), (30, false), (31, false), (32, true), (33, true), (34, false), (35, false), (36, false), (37, false)] .nil) hmix (by kernel_rfl) enL ?_
              (repeat' ((show SH _ _ _ _ _ (_ :: _) _ _ _; first | (show SH _ _ _ _ _ (⟨_, _, _, _, _, some _⟩ :: _) _ _ _; (refine gif rfl rfl ?_; refine giFF tbL ?_)) | (show SH _ _ _ _ _ (⟨_, .move _, _, _, _, _⟩ :: _) _ _ _; refine mov evL ?_) | refine neb rfl rfl ?_ | (show SH _ _ _ _ _ (⟨_, .load _ _, _, _, _, _⟩ :: _) _ _ _; refine lba rfl spL (by rfl) ?_) | (show SH _ _ _ _ _ (⟨_, .call ⟨.value (.func 22), _, _⟩, _, _, _, _⟩ :: _) _ _ _; refine cl (callee := .func 22) rfl (fun w hw => hmkp _ _ w (hw.rd spL)) rfl rfl ?_) | (show SH _ _ _ _ _ (⟨_, .call ⟨.value (.func 22), _, _⟩, _, _, _, _⟩ :: _) _ _ _; refine cl (callee := .func 22) rfl (fun w hw => hmk w (hxr w (hw.kw spL))) rfl rfl ?_))))
              refine andw rfl rfl _ hrr ?_
              (repeat' ((show SH _ _ _ _ _ (_ :: _) _ _ _; first | (show SH _ _ _ _ _ (⟨_, _, _, _, _, some _⟩ :: _) _ _ _; (refine gif rfl rfl ?_; refine giFF tbL ?_)) | (show SH _ _ _ _ _ (⟨_, .move _, _, _, _, _⟩ :: _) _ _ _; refine mov evL ?_) | (show SH _ _ _ _ _ (⟨_, .binOp .neq _ _ _ _, _, _, _, _⟩ :: _) _ _ _; refine neqF rfl rfl omD ?_) | (show SH _ _ _ _ _ (⟨_, .load _ _, _, _, _, _⟩ :: _) _ _ _; refine lba rfl spL (by rfl) ?_) | (show SH _ _ _ _ _ (⟨_, .call ⟨.value (.func 21), _, _⟩, _, _, _, _⟩ :: _) _ _ _; refine cp (callee := .func 21) rfl (fun w hw => hpar w (hxr w (hw.kw spL))) rfl rfl ?_) | (show SH _ _ _ _ _ (⟨_, .pick _ _ _, _, _, _, _⟩ :: _) _ _ _; refine pkf rfl tbL evL ?_))))
              rintro _ _ ⟨A5, c5, rfl, rfl⟩
              (repeat' ((show SH _ _ _ _ _ (_ :: _) _ _ _; first | (show SH _ _ _ _ _ (⟨_, _, _, _, _, some _⟩ :: _) _ _ _; (refine gif rfl rfl ?_; refine giFF tbL ?_)) | (show SH _ _ _ _ _ (⟨_, .move _, _, _, _, _⟩ :: _) _ _ _; refine mov evL ?_) | (show SH _ _ _ _ _ (⟨_, .load _ _, _, _, _, _⟩ :: _) _ _ _; refine lba rfl spL (by rfl) ?_) | (show SH _ _ _ _ _ (⟨_, .call ⟨.value (.func 23), _, _⟩, _, _, _, _⟩ :: _) _ _ _; refine cl (callee := .func 23) rfl (fun w hw => hs1 _ _ w (hw.rd spL) (hxr w (hw.kw spL))) rfl rfl ?_) | refine bnoT rfl ?_ | (show SH _ _ _ _ _ (⟨_, .pick _ _ _, _, _, _, _⟩ :: _) _ _ _; refine pkf rfl tbL evL ?_))))
              refine andw rfl rfl _ hand ?_
              (repeat' ((show SH _ _ _ _ _ (_ :: _) _ _ _; first | (show SH _ _ _ _ _ (⟨_, _, _, _, _, some _⟩ :: _) _ _ _; (refine gif rfl rfl ?_; refine giFF tbL ?_)) | (show SH _ _ _ _ _ (⟨_, .call ⟨.value (.func 21), _, _⟩, _, _, _, _⟩ :: _) _ _ _; refine cp (callee := .func 21) rfl (fun w hw => hppb _ _ w (hw.rd spL)) rfl rfl ?_))))
              rintro _ _ ⟨A6, c6, rfl, rfl⟩
              (repeat' ((show SH _ _ _ _ _ (_ :: _) _ _ _; first | (show SH _ _ _ _ _ (⟨_, _, _, _, _, some _⟩ :: _) _ _ _; (refine gif rfl rfl ?_; refine giFF tbL ?_)) | (show SH _ _ _ _ _ (⟨_, .call ⟨.value (.func 21), _, _⟩, _, _, _, _⟩ :: _) _ _ _; refine cp (callee := .func 21) rfl (fun w hw => hpab w (hxr w (hw.kw spL))) rfl rfl ?_))))
              rintro _ _ ⟨A7, c7, rfl, rfl⟩
              (repeat' (first | (show VH _ _ _ _ _ _ _; first | refine r_seq ?_ | refine v_skip ?_ | refine v_cond_f rfl tbL ?_) | (show SH _ _ _ _ _ (_ :: _) _ _ _; first | (show SH _ _ _ _ _ (⟨_, _, _, _, _, some _⟩ :: _) _ _ _; (refine gif rfl rfl ?_; refine giFF tbL ?_)) | (show SH _ _ _ _ _ (⟨_, .move _, _, _, _, _⟩ :: _) _ _ _; refine mov evL ?_) | (show SH _ _ _ _ _ (⟨_, .binOp .neq _ _ _ _, _, _, _, _⟩ :: _) _ _ _; refine neqF rfl rfl omD ?_) | (show SH _ _ _ _ _ (⟨_, .binOp .add _ _ _ _, _, _, _, _⟩ :: _) _ _ _; refine add rfl rfl inL ?_) | (show SH _ _ _ _ _ (⟨_, .load _ _, _, _, _, _⟩ :: _) _ _ _; refine lbx rfl spL (by rfl) ?_) | (show SH _ _ _ _ _ (⟨_, .call ⟨.value (.func 23), _, _⟩, _, _, _, _⟩ :: _) _ _ _; refine cl (callee := .func 23) rfl (fun w hw => hs2 _ _ _ _ w (hw.rd spL) (hw.rd spL)) rfl rfl ?_) | refine bnoT rfl ?_ | (show SH _ _ _ _ _ (⟨_, .pick _ _ _, _, _, _, _⟩ :: _) _ _ _; refine pkf rfl tbL evL ?_) | refine fad rfl ?_) | refine s_nil ?_ | refine kh_normal ?_ | refine bh_normal ?_))
              exact ⟨agL, k + 1, ⟨rfl, congrArg (fun z : Nat => Value.int .i64 z) hnk1.symm, trivial⟩, enL, hkl, by omega⟩
      · obtain rfl : k = L.length := by omega
        have hcl := hM.all
        rw [hcl]
        clear hM hq2 hcm0 hkd hcl
        (repeat' (first | (show VH _ _ _ _ _ _ _; first | refine v_seq ?_ | refine r_seq ?_ | refine v_ret ?_ | refine v_exit ?_ | refine v_cond_f rfl tbL ?_) | (show SH _ _ _ _ _ (_ :: _) _ _ _; first | (show SH _ _ _ _ _ (⟨_, _, _, _, _, some _⟩ :: _) _ _ _; (refine gif rfl rfl ?_; refine giTT tbL ?_)) | (show SH _ _ _ _ _ (⟨_, .move _, _, _, _, _⟩ :: _) _ _ _; refine mov evL ?_) | (show SH _ _ _ _ _ (⟨_, .assign _, _, _, _, _⟩ :: _) _ _ _; refine asg evL ?_) | (show SH _ _ _ _ _ (⟨_, .binOp .lss _ _ _ _, _, _, _, _⟩ :: _) _ _ _; refine lssF rfl rfl omD ?_) | (show SH _ _ _ _ _ (⟨_, .binOp .eql _ _ _ _, _, _, _, _⟩ :: _) _ _ _; refine eqlT rfl rfl omD ?_) | refine slen rfl ?_ | (show SH _ _ _ _ _ (⟨_, .call ⟨.value (.func 14), _, _⟩, _, _, _, _⟩ :: _) _ _ _; refine cl (callee := .func 14) rfl (fun w hw => hA w hw.ext) rfl rfl ?_) | (show SH _ _ _ _ _ (⟨_, .pick _ _ _, _, _, _, _⟩ :: _) _ _ _; refine pkt rfl tbL evL ?_)) | refine s_nil ?_ | refine kh_normal ?_ | refine kh_exit ?_ | refine bh_exit ?_))
        exact rh1 rfl rfl ⟨rfl, rfl⟩ (ent_nil _)
theorem masksLawI (A0 : Option Addr) (c0 : Nat) (l0 : List U16) (a b : Int) (W : World) (hG : Glob W) (hr0 : Rd W A0 l0) (hb0 : R16 l0) (hl0 : l0.length ≤ maxLen) (hc0 : l0.length ≤ c0) (lo1 : 0 ≤ a) (hi1 : a ≤ 4294967295) (lo2 : 0 ≤ b) (hi2 : b ≤ 4294967295) :
    Ret Tryd.prog 5 [.slice A0 l0.length c0, .int .u32 a, .int .u32 b].toArray W (Out W (.bool true)) := by
  obtain ⟨n, rfl⟩ : ∃ n : Nat, a = (n : Int) := ⟨a.toNat, by omega⟩
  obtain ⟨m, rfl⟩ : ∃ m : Nat, b = (m : Int) := ⟨b.toNat, by omega⟩
  exact masksLaw A0 c0 l0 n m W hG hr0 hb0 hl0 hc0 (by omega) (by omega)
end Go.Proofs.YtfodpcpclmnbkaaDoor
