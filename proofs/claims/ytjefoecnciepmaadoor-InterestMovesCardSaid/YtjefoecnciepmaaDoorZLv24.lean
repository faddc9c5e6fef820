/- InterestMoves: everything shifted; without the own entities; with a further own one. -/
import Derived.Test.YtjefoecnciepmaaDoorZTw
import Derived.Test.YtjefoecnciepmaaDoorZPo24
import Derived.Test.YtjefoecnciepmaaDoorZWz
import Derived.Test.YtjefoecnciepmaaDoorZMk
import Derived.Test.YtjefoecnciepmaaDoorZLj
import Derived.Test.YtjefoecnciepmaaDoorZLk
import Derived.Test.YtjefoecnciepmaaDoorZPk
set_option linter.unusedSimpArgs false
set_option linter.unusedVariables false
namespace Go.Proofs.YtjefoecnciepmaaDoor
open Go.Fw Go.RowKit
set_option maxHeartbeats 4000000 in
set_option maxRecDepth 100000 in
theorem movesLaw (A0 : Option Addr) (c0 : Nat) (l0 : List Form) (a1 a2 a3 : Int) (a4 : Form) (W : World) (hG : Glob W) (hr0 : Rd W A0 l0) (hb0 : ∀ f ∈ l0, f.Ok) (hl0 : l0.length ≤ maxLen) (lo1 : 0 ≤ a1) (hi1 : a1 ≤ 255)
    (lo2 : -9223372036854775808 ≤ a2) (hi2 : a2 ≤ 9223372036854775807) (lo3 : -9223372036854775808 ≤ a3) (hi3 : a3 ≤ 9223372036854775807) (hb4 : a4.Ok) :
    Ret Tryd.prog 6 [.slice A0 l0.length c0, .int .u8 a1, .int .i64 a2, .int .i64 a3, .agg (Flat.enc a4).toArray].toArray W (Out W (.bool true)) := by
  have hM := fun w' (he : Ext W w') => made24_spec A0 l0 c0 w' hl0 (hr0.ext he) hb0
  unfold WorldR wv at hM
  have hv0 : ValidW 5 (madeL l0) := made_valid hb0 (by omega) (by omega)
  have hml : (madeL l0).length ≤ 20 := by unfold madeL; rw [madeN_len]; omega
  have hid0 : ∀ e ∈ madeL l0, e.id < 100 := fun e he => by
    obtain ⟨i, h1, h2, h3⟩ := made_id he
    omega
  have hcm0 : ∀ e ∈ madeL l0, e.comps.length ≤ 10 := fun e he => made_comps he
  have hps0 : ∀ e ∈ madeL l0, ∀ c ∈ e.comps, c.kind = 1 → (-32768 ≤ c.a ∧ c.a ≤ 32512) ∧ (-32768 ≤ c.b ∧ c.b ≤ 32512) := fun e he c hc hk => by
    obtain ⟨i, hi, rfl⟩ := madeN_mem.1 he
    exact formN_pos (hb0 _ (getD_mem (by omega))) hc hk
  generalize madeL l0 = es at hM hv0 hml hid0 hcm0 hps0
  have hA := fun w (h : Ext W w) => awake24_spec w (hG.ext h)
  obtain ⟨ct, hct⟩ : ∃ ct, ct = 1 + a1 % 8 := ⟨_, rfl⟩
  have hc8 : 1 ≤ ct ∧ ct ≤ 8 := by omega
  have hok : OkI ct 5 es := ⟨hc8, hv0⟩
  obtain ⟨dx, hdx⟩ : ∃ dx, dx = a2 % 1000001 := ⟨_, rfl⟩
  obtain ⟨dy, hdy⟩ : ∃ dy, dy = a3 % 1000001 := ⟨_, rfl⟩
  have hdx' : 0 ≤ dx ∧ dx ≤ 1000000 := by omega
  have hdy' : 0 ≤ dy ∧ dy ≤ 1000000 := by omega
  have hPx := fun w => pick_spec a2 1000001 w (by omega) (by omega)
  have hPy := fun w => pick_spec a3 1000001 w (by omega) (by omega)
  rw [← hdx] at hPx
  rw [← hdy] at hPy
  obtain ⟨fb, fx, fy, fo, fh, fn⟩ := a4
  rw [show Flat.enc (⟨fb, fx, fy, fo, fh, fn⟩ : Form) = [.int .u16 fb, .int .i8 fx, .int .i8 fy, .int .u8 fo, .int .u8 fh, .int .u8 fn] from rfl]
  clear hb0 lo2 hi2 lo3 hi3 hdx hdy
  refine enterH Tryd.func6 rfl rfl Tryd.ntmps6 rfl (Wd.refl _) ?_
  (repeat' (first | (show VH _ _ _ _ _ _ _; first | refine v_seq ?_ | refine r_seq ?_ | refine v_skip ?_ | refine v_cond_f rfl tbL ?_) | (show SH _ _ _ _ _ (_ :: _) _ _ _; first | (show SH _ _ _ _ _ (⟨_, .move _, _, _, _, _⟩ :: _) _ _ _; refine mov evL ?_) | (show SH _ _ _ _ _ (⟨_, .assign _, _, _, _, _⟩ :: _) _ _ _; refine asg evL ?_) | (show SH _ _ _ _ _ (⟨_, .call ⟨.value (.func 9), _, _⟩, _, _, _, _⟩ :: _) _ _ _; refine cl (callee := .func 9) rfl (fun w hw => hA w hw.ext) rfl rfl ?_) | (show SH _ _ _ _ _ (⟨_, .call ⟨.value (.func 10), _, _⟩, _, _, _, _⟩ :: _) _ _ _; refine cp (callee := .func 10) rfl (fun w hw => hM w hw.ext) rfl rfl ?_) | refine bnoT rfl ?_ | (show SH _ _ _ _ _ (⟨_, .box _ _, _, _, _, _⟩ :: _) _ _ _; refine bxx rfl evL rfl (fun b => ?_))) | refine s_nil ?_ | refine kh_normal ?_))
  rintro _ _ ⟨A, c, L, rfl, hL, rfl⟩
  clear hM hA hr0
  have hL' : ents L = es := hL
  obtain ⟨hs, hse⟩ := made_sz hL' hv0.len hcm0
  have hLl : L.length = es.length := by rw [← ents_len, hL']
  have hV := fun w hG hr => visI_spec ct 5 A L c w hG hs hr
  have hO := fun w hG hr => ownI_spec ct 5 A L c w hG hs hr
  have hcw := fun w hr => copyWorld_spec 5 A L c w (by omega) hse hr
  rw [hL'] at hV hO hcw
  rw [errI_ok hok] at hV hO
  unfold WorldR wv at hcw
  unfold wv at hV hO
  (repeat' ((fail_if_success (show VH _ _ (.seq (.region 4 _ _) _) _ _ _ _)); first | (show SH _ _ _ _ _ (_ :: _) _ _ _; first | (show SH _ _ _ _ _ (⟨_, .move _, _, _, _, _⟩ :: _) _ _ _; refine mov evL ?_) | (show SH _ _ _ _ _ (⟨_, .assign _, _, _, _, _⟩ :: _) _ _ _; refine asg evL ?_) | (show SH _ _ _ _ _ (⟨_, .binOp .add _ _ _ _, _, _, _, _⟩ :: _) _ _ _; refine add rfl rfl inL ?_) | (show SH _ _ _ _ _ (⟨_, .binOp .rem _ _ _ _, _, _, _, _⟩ :: _) _ _ _; refine rem rfl rfl omL omL ?_) | (show SH _ _ _ _ _ (⟨_, .convert _ _ _, _, _, _, _⟩ :: _) _ _ _; refine c64 rfl inL ?_) | refine ala rfl (fun b => ?_) | (show SH _ _ _ _ _ (⟨_, .store _ _ _, _, _, _, _⟩ :: _) _ _ _; refine sta rfl rfl rfl spL (by rfl) (by rfl) (by rfl) kpL ?_)) | refine s_nil ?_ | refine kh_normal ?_))
  rw [← hct]
  clear hct lo1 hi1
  rename_i b9
  revert b
  intro b11
  refine VH.ent (G := [bx b11 26 [.int .i64 5, .slice A L.length c], knw A L, bx b9 49 [.int .u16 fb, .int .i8 fx, .int .i8 fy, .int .u8 fo, .int .u8 fh, .int .u8 fn]]) ?_ (Ent.trans (B := [bx b11 26 [.int .i64 5, .slice A L.length c], orow 37 A c L, allH (L.map rowOf), bx b9 49 [.int .u16 fb, .int .i8 fx, .int .i8 fy, .int .u8 fo, .int .u8 fh, .int .u8 fn]]) enL (ent_cons Split.head ent_knw))
  obtain ⟨IDS, hIDS⟩ : ∃ x, visL ct 5 es = x := ⟨_, rfl⟩
  obtain ⟨OWN, hOWN⟩ : ∃ x, ownL ct 5 es = x := ⟨_, rfl⟩
  rw [hIDS] at hV
  rw [hOWN] at hO
  (repeat' (first | (show VH _ _ _ _ _ _ _; first | refine v_seq ?_ | refine r_seq ?_) | (show SH _ _ _ _ _ (_ :: _) _ _ _; first | (show SH _ _ _ _ _ (⟨_, .move _, _, _, _, _⟩ :: _) _ _ _; refine mov evL ?_) | (show SH _ _ _ _ _ (⟨_, .load _ _, _, _, _, _⟩ :: _) _ _ _; refine lba rfl spL (by rfl) ?_) | (show SH _ _ _ _ _ (⟨_, .call ⟨.value (.func 11), _, _⟩, _, _, _, _⟩ :: _) _ _ _; refine cp (callee := .func 11) rfl (fun w hw => hV w (hG.ext hw.ext) (hw.kw spL)) rfl rfl ?_))))
  rintro _ _ ⟨A1, c1, rfl, rfl⟩
  (repeat' (first | (show VH _ _ _ _ _ _ _; first | refine v_seq ?_ | refine r_seq ?_) | (show SH _ _ _ _ _ (_ :: _) _ _ _; first | (show SH _ _ _ _ _ (⟨_, .move _, _, _, _, _⟩ :: _) _ _ _; refine mov evL ?_) | (show SH _ _ _ _ _ (⟨_, .assign _, _, _, _, _⟩ :: _) _ _ _; refine asg evL ?_) | (show SH _ _ _ _ _ (⟨_, .load _ _, _, _, _, _⟩ :: _) _ _ _; refine lba rfl spL (by rfl) ?_) | (show SH _ _ _ _ _ (⟨_, .call ⟨.value (.func 18), _, _⟩, _, _, _, _⟩ :: _) _ _ _; refine cp (callee := .func 18) rfl (fun w hw => hO w (hG.ext hw.ext) (hw.kw spL)) rfl rfl ?_) | refine extr rfl rfl ?_) | refine s_nil ?_ | refine kh_normal ?_))
  rintro _ _ ⟨A2, c2, rfl, rfl⟩
  clear hV hO
  (repeat' (first | (show VH _ _ _ _ _ _ _; first | refine v_seq ?_ | refine r_seq ?_) | (show SH _ _ _ _ _ (_ :: _) _ _ _; first | (show SH _ _ _ _ _ (⟨_, .move _, _, _, _, _⟩ :: _) _ _ _; refine mov evL ?_) | (show SH _ _ _ _ _ (⟨_, .assign _, _, _, _, _⟩ :: _) _ _ _; refine asg evL ?_) | (show SH _ _ _ _ _ (⟨_, .load _ _, _, _, _, _⟩ :: _) _ _ _; refine lba rfl spL (by rfl) ?_) | (show SH _ _ _ _ _ (⟨_, .call ⟨.value (.func 22), _, _⟩, _, _, _, _⟩ :: _) _ _ _; refine cp (callee := .func 22) rfl (fun w hw => hcw w (hw.kw spL)) rfl rfl ?_) | refine extr rfl rfl ?_) | refine s_nil ?_ | refine kh_normal ?_))
  rintro _ _ ⟨Am, cm, Lm, rfl, hLm, rfl⟩
  (repeat' ((fail_if_success (show VH _ _ (.seq (.region 7 _ _) _) _ _ _ _)); first | refine v_seq ?_ | (show SH _ _ _ _ _ (_ :: _) _ _ _; first | refine bld rfl rfl ?_ | refine ala rfl (fun b => ?_) | (show SH _ _ _ _ _ (⟨_, .store _ _ _, _, _, _, _⟩ :: _) _ _ _; refine sta rfl rfl rfl spL (by rfl) (by rfl) (by rfl) kpL ?_)) | refine s_nil ?_ | refine kh_normal ?_))
  revert b
  intro b18
  revert b
  intro b17
  have hml2 : Lm.length = es.length := by rw [← hLm, List.length_map]
  clear hLl
  (repeat' (first | (show VH _ _ _ _ _ _ _; first | refine v_seq ?_ | refine r_seq ?_ | refine v_block ?_) | (show SH _ _ _ _ _ (_ :: _) _ _ _; first | (show SH _ _ _ _ _ (⟨_, .move _, _, _, _, _⟩ :: _) _ _ _; refine mov evL ?_) | (show SH _ _ _ _ _ (⟨_, .load _ _, _, _, _, _⟩ :: _) _ _ _; refine lbx rfl spL (by rfl) ?_) | refine slen rfl ?_ | refine fad rfl ?_) | refine s_nil ?_ | refine kh_normal ?_))
  obtain ⟨DX, hDX⟩ : ∃ x, dx - 500000 = x := ⟨_, rfl⟩
  obtain ⟨DY, hDY⟩ : ∃ x, dy - 500000 = x := ⟨_, rfl⟩
  have hDX' : -500000 ≤ DX ∧ DX ≤ 500000 := by omega
  have hDY' : -500000 ≤ DY ∧ DY ≤ 500000 := by omega
  have hOWm : ∀ e ∈ es, decide (e.id ∈ OWN) = ownsE ct e := fun e he => by
    rw [← hOWN, ownL_ok hok]
    exact filt_in hv0.up (ownsE ct) he
  have hOl : OWN.length ≤ 64 := by
    rw [← hOWN, ownL_ok hok, List.length_map]
    have := List.length_filter_le (ownsE ct) es
    have := hv0.len
    omega
  have hn64 := hv0.len
  
  refine v_norm [(10,_),(11,_),(12,_),(13,_),(14,_),(15,_),(16,_),(9,_),(2,_),(3,_),(17,_),(18,_),(55,_),(56,_),(57,_)] heL (fun g => ?_)
  refine v_loop [(19,21),(57,129)] (fun s : Nat × List EntP × List EntP × Option Addr × Nat => [(57, .int .i64 s.1)]) (fun s => [bx b17 26 [.int .i64 5, .slice Am Lm.length cm], bx b18 26 [.int .i64 0, .slice s.2.2.2.1 s.2.2.1.length s.2.2.2.2], orow 37 Am cm s.2.1, allH (s.2.1.map rowOf), orow 37 s.2.2.2.1 s.2.2.2.2 s.2.2.1, orow 3 A2 c2 OWN, orow 3 A1 c1 IDS, bx b11 26 [.int .i64 5, .slice A L.length c], knw A L, bx b9 49 [.int .u16 fb, .int .i8 fx, .int .i8 fy, .int .u8 fo, .int .u8 fh, .int .u8 fn]]) (fun s => s.1 ≤ es.length ∧ s.2.1.map EntP.e = mixL (shiftE DX DY) es s.1 ∧ s.2.2.1.map EntP.e = ((es.take s.1).map (shiftE DX DY)).filter (fun e => !ownsE ct e) ∧ ∀ x ∈ s.2.2.1, x ∈ s.2.1.take s.1) (fun s => es.length - s.1) (0, Lm, [], none, 0) hsL ?_ ⟨Nat.zero_le _, by rw [mix_zero]; exact hLm, rfl, fun x hx => by simp at hx⟩ ?_
  · exact ent_cons spL (ent_cons spL (ent_cons spL (ent_cons spL (ent_nilrow enL))))
  rintro ⟨i, X, N, An, cn⟩ g ⟨hi, hX, hN, hNX⟩
  simp only [sets]
  simp only at hi hX hN hNX
  have hXl : X.length = es.length := by rw [← mix_len (shiftE DX DY) es i, ← hX, List.length_map]
  by_cases hil : i < es.length
  · obtain ⟨x0, hx0⟩ : ∃ x, X.getD i Flat.dflt = x := ⟨_, rfl⟩
    have hxe : x0.e = es.getD i ⟨0, []⟩ := by
      rw [← hx0, ents_at24 (by omega)]
      show (X.map EntP.e).getD i ⟨0, []⟩ = _
      rw [hX, mix_get _ hil]
    have hem : x0.e ∈ es := by rw [hxe]; exact getD_mem hil
    have hcl := hcm0 _ hem
    have hps := hps0 _ hem
    have hid := hid0 _ hem
    have hin := hOWm _ hem
    obtain ⟨⟨ei, cs⟩, Ax, cx⟩ := x0
    simp only at hxe hcl hps hid hin
    have hI := fun w hr => in_spec A2 OWN c2 ei w (by omega) hr
    rw [hin] at hI
    have hNl : N.length ≤ 64 := by
      have h1 := congrArg List.length hN
      rw [List.length_map] at h1
      have h2 := List.length_filter_le (fun e => !ownsE ct e) ((es.take i).map (shiftE DX DY))
      rw [List.length_map] at h2
      have h3 := List.length_take_le i es
      omega
    have hx0e : Flat.enc (X.getD i Flat.dflt) = [.int .i64 ei, .slice Ax cs.length cx] := by rw [hx0]; rfl
    clear hOWm hcm0 hps0 hid0 hin
    (repeat' ((fail_if_success (show VH _ _ (.seq (.region 11 _ _) _) _ _ _ _)); first | (show VH _ _ _ _ _ _ _; first | refine v_seq ?_ | refine r_seq ?_ | refine v_block ?_ | refine v_skip ?_ | refine v_cond_t rfl tbL ?_) | (show SH _ _ _ _ _ (_ :: _) _ _ _; first | (show SH _ _ _ _ _ (⟨_, .move _, _, _, _, _⟩ :: _) _ _ _; refine mov evL ?_) | (show SH _ _ _ _ _ (⟨_, .assign _, _, _, _, _⟩ :: _) _ _ _; refine asg evL ?_) | (show SH _ _ _ _ _ (⟨_, .binOp .lss _ _ _ _, _, _, _, _⟩ :: _) _ _ _; refine lssT rfl rfl omD ?_) | (show SH _ _ _ _ _ (⟨_, .load _ _, _, _, _, _⟩ :: _) _ _ _; refine lbx rfl spL (by rfl) ?_) | (show SH _ _ _ _ _ (⟨_, .indexAddr _ _ _, _, _, _, _⟩ :: _) _ _ _; refine ix rfl rfl (by with_reducible rfl) (fun _ _ => rdY) (by rfl) omL omL ?_) | refine fad rfl ?_) | refine s_nil ?_ | refine kh_normal ?_))
    (repeat' (first | (show VH _ _ _ _ _ _ _; first | refine v_seq ?_ | refine r_seq ?_ | refine v_block ?_) | (show SH _ _ _ _ _ (_ :: _) _ _ _; first | (show SH _ _ _ _ _ (⟨_, .move _, _, _, _, _⟩ :: _) _ _ _; refine mov evL ?_) | (show SH _ _ _ _ _ (⟨_, .load _ _, _, _, _, _⟩ :: _) _ _ _; refine lrg rfl (fun _ _ => rdY) (by rfl) omL (by assumption) (by rfl) ?_) | refine slen rfl ?_ | refine nlc rfl ?_ | refine fad rfl ?_) | refine s_nil ?_ | refine kh_normal ?_))
    refine v_normS [(19,21),(57,129)] _ agL [(20,_),(57,_),(67,_),(68,_),(69,_)] heL (fun g => ?_)
    refine VH.ent (G := [orow 42 Ax cx (mixL (shiftC DX DY) cs 0), bx b17 26 [.int .i64 5, .slice Am Lm.length cm], bx b18 26 [.int .i64 0, .slice An N.length cn], orow 37 Am cm X, allH ((X.eraseIdx i).map rowOf), orow 37 An cn N, orow 3 A2 c2 OWN, orow 3 A1 c1 IDS, bx b11 26 [.int .i64 5, .slice A L.length c], knw A L, bx b9 49 [.int .u16 fb, .int .i8 fx, .int .i8 fy, .int .u8 fo, .int .u8 fh, .int .u8 fn]]) ?_ (by
      have h := ent_all_open (d := Flat.dflt) (f := rowOf) (L := X) (k := i) (G := [bx b17 26 [.int .i64 5, .slice Am Lm.length cm], bx b18 26 [.int .i64 0, .slice An N.length cn], orow 37 Am cm X, orow 37 An cn N, orow 3 A2 c2 OWN, orow 3 A1 c1 IDS, bx b11 26 [.int .i64 5, .slice A L.length c], knw A L, bx b9 49 [.int .u16 fb, .int .i8 fx, .int .i8 fy, .int .u8 fo, .int .u8 fh, .int .u8 fn]]) (by omega)
      rw [hx0] at h
      rw [mix_zero]
      exact (Ent.trans enL h).trans enL)
    refine v_loop [(21,21),(69,113)] (fun k : Nat => [(69, .int .i64 k)]) (fun k => [orow 42 Ax cx (mixL (shiftC DX DY) cs k), bx b17 26 [.int .i64 5, .slice Am Lm.length cm], bx b18 26 [.int .i64 0, .slice An N.length cn], orow 37 Am cm X, allH ((X.eraseIdx i).map rowOf), orow 37 An cn N, orow 3 A2 c2 OWN, orow 3 A1 c1 IDS, bx b11 26 [.int .i64 5, .slice A L.length c], knw A L, bx b9 49 [.int .u16 fb, .int .i8 fx, .int .i8 fy, .int .u8 fo, .int .u8 fh, .int .u8 fn]]) (fun k => k ≤ cs.length) (fun k => cs.length - k) 0 hsL enL (Nat.zero_le _) ?_
    · rintro k g3 hk
      simp only [sets]
      by_cases hkl : k < cs.length
      · obtain ⟨z, hz⟩ : ∃ z, cs.getD k Flat.dflt = z := ⟨_, rfl⟩
        have hzm : z ∈ cs := by rw [← hz]; exact getD_mem hkl
        have hzg := mix_get (f := shiftC DX DY) (d := Flat.dflt) hkl
        have hzs := mix_set (f := shiftC DX DY) Flat.dflt hkl
        have hzl := mix_len (shiftC DX DY) cs k
        have hpz := hps z hzm
        rw [hz] at hzg hzs
        obtain ⟨zk, za, zb, zc, zd⟩ := z
        simp only at hpz
        by_cases hk1 : zk = 1
        · obtain ⟨⟨pa1, pa2⟩, pb1, pb2⟩ := hpz hk1
          subst hk1
          rw [show shiftC DX DY (⟨1, za, zb, zc, zd⟩ : Comp) = ⟨1, za + DX, zb + DY, zc, zd⟩ from rfl] at hzs
          obtain ⟨Z, hZ⟩ : ∃ Z, mixL (shiftC DX DY) cs k = Z := ⟨_, rfl⟩
          rw [hZ] at hzg hzs hzl ⊢
          clear hps hz hzm hpz hZ hI hN hNX hX
          have hze : Flat.enc (Z.getD k Flat.dflt) = [.int .u8 1, .int .i64 za, .int .i64 zb, .int .i64 zc, .int .i64 zd] := by rw [hzg]; rfl
          have hkl' : k < Z.length := by omega
          have hiX : i < X.length := by omega
          (repeat' ((fail_if_success (show VH _ _ (.seq (.region 15 _ _) _) _ _ _ _)); first | (show VH _ _ _ _ _ _ _; first | refine v_seq ?_ | refine r_seq ?_ | refine v_block ?_ | refine v_skip ?_ | refine v_cond_t rfl tbL ?_) | (show SH _ _ _ _ _ (_ :: _) _ _ _; first | (show SH _ _ _ _ _ (⟨_, .move _, _, _, _, _⟩ :: _) _ _ _; refine mov evL ?_) | (show SH _ _ _ _ _ (⟨_, .assign _, _, _, _, _⟩ :: _) _ _ _; refine asg evL ?_) | (show SH _ _ _ _ _ (⟨_, .binOp .lss _ _ _ _, _, _, _, _⟩ :: _) _ _ _; refine lssT rfl rfl omD ?_) | (show SH _ _ _ _ _ (⟨_, .binOp .eql _ _ _ _, _, _, _, _⟩ :: _) _ _ _; refine eqlT rfl rfl omD ?_) | (show SH _ _ _ _ _ (⟨_, .load _ _, _, _, _, _⟩ :: _) _ _ _; refine lrg rfl (fun _ _ => rdY) (by rfl) omL (by assumption) (by rfl) ?_) | (show SH _ _ _ _ _ (⟨_, .indexAddr _ _ _, _, _, _, _⟩ :: _) _ _ _; refine ix rfl rfl (by with_reducible rfl) (fun _ _ => rdY) (by rfl) omL omL ?_) | refine nlc rfl ?_ | refine fad rfl ?_) | refine s_nil ?_ | refine kh_normal ?_))
          refine v_some (A := Ax) (l := Z) spL (by omega) (fun hAx => ?_)
          refine v_seq ?_
          refine v_cut [(81, 96)] (fun _ : Unit => []) (fun _ => [orow 42 Ax cx (Z.set k (⟨1, za + (dx - 500000), zb, zc, zd⟩ : Comp)), bx b17 26 [.int .i64 5, .slice Am Lm.length cm], bx b18 26 [.int .i64 0, .slice An N.length cn], orow 37 Am cm X, allH ((X.eraseIdx i).map rowOf), orow 37 An cn N, orow 3 A2 c2 OWN, orow 3 A1 c1 IDS, bx b11 26 [.int .i64 5, .slice A L.length c], knw A L, bx b9 49 [.int .u16 fb, .int .i8 fx, .int .i8 fy, .int .u8 fo, .int .u8 fh, .int .u8 fn]]) (fun _ => True) ?_ ?_ ent_vh
          · refine r_heldT [orow 37 Am cm X] (tr [(0, true), (1, true), (2, true), (3, true), (4, true), (5, true), (6, true), (7, true), (9, true), (13, true), (14, true)] (.fork 8 (tr [(10, false), (11, false), (12, false), (15, false), (16, false)] .nil) 10 (tr [(11, true), (8, false), (12, false), (15, false), (16, false)] .nil))) hmix (by kernel_rfl) enL ?_
            (repeat' (first | (show SH _ _ _ _ _ (_ :: _) _ _ _; first | (show SH _ _ _ _ _ (⟨_, .move _, _, _, _, _⟩ :: _) _ _ _; refine mov evL ?_) | (show SH _ _ _ _ _ (⟨_, .binOp .sub _ _ _ _, _, _, _, _⟩ :: _) _ _ _; refine sub rfl rfl inL ?_) | (show SH _ _ _ _ _ (⟨_, .load _ _, _, _, _, _⟩ :: _) _ _ _; refine lrg rfl (fun _ _ => rdY) (by rfl) omL (by assumption) (by rfl) ?_) | (show SH _ _ _ _ _ (⟨_, .indexAddr _ _ _, _, _, _, _⟩ :: _) _ _ _; first | refine ixq rfl rfl (by assumption) omL omL ?_ | refine ixA _ rfl rfl rfl omL ?_) | (show SH _ _ _ _ _ (⟨_, .call ⟨.value (.func 23), _, _⟩, _, _, _, _⟩ :: _) _ _ _; refine cl (callee := .func 23) rfl (fun w hw => hPx w) rfl rfl ?_) | refine nlc rfl ?_ | refine fad rfl ?_) | refine s_fork ?_ ?_))
            all_goals
              refine lrg (i := k) (off := 1) (l := Z) (A := Ax) rfl (fun w hw => hw.rd spL) rfl (by omega) hze rfl ?_
              (repeat' ((show SH _ _ _ _ _ (_ :: _) _ _ _; first | (show SH _ _ _ _ _ (⟨_, .binOp .add _ _ _ _, _, _, _, _⟩ :: _) _ _ _; refine add rfl rfl inL ?_) | (show SH _ _ _ _ _ (⟨_, .binOp .sub _ _ _ _, _, _, _, _⟩ :: _) _ _ _; refine sub rfl rfl inL ?_) | (show SH _ _ _ _ _ (⟨_, .indexAddr _ _ _, _, _, _, _⟩ :: _) _ _ _; refine ixA _ rfl rfl rfl omL ?_) | (show SH _ _ _ _ _ (⟨_, .call ⟨.value (.func 23), _, _⟩, _, _, _, _⟩ :: _) _ _ _; refine cl (callee := .func 23) rfl (fun w hw => hPx w) rfl rfl ?_))))
            all_goals
              refine stf (x' := (⟨1, za + (dx - 500000), zb, zc, zd⟩ : Comp)) (i := k) (off := 1) (l := Z) (A := Ax) rfl rfl rfl spL rfl (by omega) rfl rfl (by decide) (by rw [hzg]; rfl) enL ?_
              (repeat' (first | refine s_nil ?_ | refine kh_normal ?_))
              exact ⟨agL, (), hsL, enL, trivial⟩
          rintro _ g4 _ _ rfl
          simp only [sets]
          rw [hDX]
          obtain ⟨Z1, hZ1⟩ : ∃ Z1, Z.set k (⟨1, za + DX, zb, zc, zd⟩ : Comp) = Z1 := ⟨_, rfl⟩
          have hz1g : Z1.getD k Flat.dflt = ⟨1, za + DX, zb, zc, zd⟩ := by rw [← hZ1]; simp [List.getD_eq_getElem?_getD, hkl']
          have hz1e : Flat.enc (Z1.getD k Flat.dflt) = [.int .u8 1, .int .i64 (za + DX), .int .i64 zb, .int .i64 zc, .int .i64 zd] := by rw [hz1g]; rfl
          have hz1s : Z1.set k ⟨1, za + DX, zb + DY, zc, zd⟩ = mixL (shiftC DX DY) cs (k + 1) := by rw [← hZ1, List.set_set]; exact hzs
          have hz1l : Z1.length = Z.length := by rw [← hZ1, List.length_set]
          rw [hZ1]
          clear hZ1 hzg hzs hze
          refine v_some (A := Ax) (l := Z1) spL (by omega) (fun hAx2 => ?_)
          refine r_heldT [orow 37 Am cm X] (tr [(0, true), (1, true), (2, true), (3, true), (4, true), (5, true), (6, true), (7, true), (9, true), (13, true), (14, true)] (.fork 8 (tr [(10, false), (11, false), (12, false), (15, false), (16, false)] .nil) 10 (tr [(11, true), (8, false), (12, false), (15, false), (16, false)] .nil))) hmix (by kernel_rfl) enL ?_
          (repeat' (first | (show SH _ _ _ _ _ (_ :: _) _ _ _; first | (show SH _ _ _ _ _ (⟨_, .move _, _, _, _, _⟩ :: _) _ _ _; refine mov evL ?_) | (show SH _ _ _ _ _ (⟨_, .binOp .sub _ _ _ _, _, _, _, _⟩ :: _) _ _ _; refine sub rfl rfl inL ?_) | (show SH _ _ _ _ _ (⟨_, .load _ _, _, _, _, _⟩ :: _) _ _ _; refine lrg rfl (fun _ _ => rdY) (by rfl) omL (by assumption) (by rfl) ?_) | (show SH _ _ _ _ _ (⟨_, .indexAddr _ _ _, _, _, _, _⟩ :: _) _ _ _; first | refine ixq rfl rfl (by assumption) omL omL ?_ | refine ixA _ rfl rfl rfl omL ?_) | (show SH _ _ _ _ _ (⟨_, .call ⟨.value (.func 23), _, _⟩, _, _, _, _⟩ :: _) _ _ _; refine cl (callee := .func 23) rfl (fun w hw => hPy w) rfl rfl ?_) | refine nlc rfl ?_ | refine fad rfl ?_) | refine s_fork ?_ ?_))
          all_goals
            refine lrg (i := k) (off := 2) (l := Z1) (A := Ax) rfl (fun w hw => hw.rd spL) rfl (by omega) hz1e rfl ?_
            (repeat' ((show SH _ _ _ _ _ (_ :: _) _ _ _; first | (show SH _ _ _ _ _ (⟨_, .binOp .add _ _ _ _, _, _, _, _⟩ :: _) _ _ _; refine add rfl rfl inL ?_) | (show SH _ _ _ _ _ (⟨_, .binOp .sub _ _ _ _, _, _, _, _⟩ :: _) _ _ _; refine sub rfl rfl inL ?_) | (show SH _ _ _ _ _ (⟨_, .indexAddr _ _ _, _, _, _, _⟩ :: _) _ _ _; refine ixA _ rfl rfl rfl omL ?_) | (show SH _ _ _ _ _ (⟨_, .call ⟨.value (.func 23), _, _⟩, _, _, _, _⟩ :: _) _ _ _; refine cl (callee := .func 23) rfl (fun w hw => hPy w) rfl rfl ?_))))
          all_goals
            refine stf (x' := (⟨1, za + DX, zb + (dy - 500000), zc, zd⟩ : Comp)) (i := k) (off := 2) (l := Z1) (A := Ax) rfl rfl rfl spL rfl (by omega) rfl rfl (by decide) (by rw [hz1g]; rfl) enL ?_
            rw [hDY, hz1s]
            (repeat' (first | refine r_seq ?_ | (show SH _ _ _ _ _ (_ :: _) _ _ _; first | (show SH _ _ _ _ _ (⟨_, .move _, _, _, _, _⟩ :: _) _ _ _; refine mov evL ?_) | (show SH _ _ _ _ _ (⟨_, .binOp .add _ _ _ _, _, _, _, _⟩ :: _) _ _ _; refine add rfl rfl inL ?_)) | refine s_nil ?_ | refine kh_normal ?_ | refine bh_normal ?_))
            exact ⟨agL, k + 1, hsL, enL, by omega, by omega⟩
        · have hsk := mix_skip (f := shiftC DX DY) (d := Flat.dflt) hkl (by rw [hz]; unfold shiftC; rw [if_neg hk1])
          obtain ⟨Z, hZ⟩ : ∃ Z, mixL (shiftC DX DY) cs k = Z := ⟨_, rfl⟩
          rw [hZ] at hzg hsk hzl ⊢
          have hkl' : k < Z.length := by omega
          have hiX : i < X.length := by omega
          have hze : Flat.enc (Z.getD k Flat.dflt) = [.int .u8 zk, .int .i64 za, .int .i64 zb, .int .i64 zc, .int .i64 zd] := by rw [hzg]; rfl
          clear hzs hps hz hzm hpz hZ hI hN hNX hX hzg
          (repeat' (first | (show VH _ _ _ _ _ _ _; first | refine v_seq ?_ | refine r_seq ?_ | refine v_block ?_ | refine v_skip ?_ | refine v_cond_t rfl tbL ?_ | refine v_cond_f rfl tbL ?_) | (show SH _ _ _ _ _ (_ :: _) _ _ _; first | (show SH _ _ _ _ _ (⟨_, .move _, _, _, _, _⟩ :: _) _ _ _; refine mov evL ?_) | (show SH _ _ _ _ _ (⟨_, .assign _, _, _, _, _⟩ :: _) _ _ _; refine asg evL ?_) | (show SH _ _ _ _ _ (⟨_, .binOp .lss _ _ _ _, _, _, _, _⟩ :: _) _ _ _; refine lssT rfl rfl omD ?_) | (show SH _ _ _ _ _ (⟨_, .binOp .eql _ _ _ _, _, _, _, _⟩ :: _) _ _ _; refine eqlF rfl rfl omD ?_) | (show SH _ _ _ _ _ (⟨_, .binOp .add _ _ _ _, _, _, _, _⟩ :: _) _ _ _; refine add rfl rfl inL ?_) | (show SH _ _ _ _ _ (⟨_, .load _ _, _, _, _, _⟩ :: _) _ _ _; refine lrg rfl (fun _ _ => rdY) (by rfl) omL (by assumption) (by rfl) ?_) | (show SH _ _ _ _ _ (⟨_, .indexAddr _ _ _, _, _, _, _⟩ :: _) _ _ _; refine ix rfl rfl (by with_reducible rfl) (fun _ _ => rdY) (by rfl) omL omL ?_) | refine nlc rfl ?_ | refine fad rfl ?_) | refine s_nil ?_ | refine kh_normal ?_ | refine bh_normal ?_))
          exact ⟨agL, k + 1, hsL, by rw [hsk]; exact enL, by omega, by omega⟩
      · have hke : k = cs.length := by omega
        rw [hke, mix_end]
        
        obtain ⟨x1, hx1⟩ : ∃ x1 : EntP, (⟨shiftE DX DY ⟨ei, cs⟩, Ax, cx⟩ : EntP) = x1 := ⟨_, rfl⟩
        have hx1e : Flat.enc x1 = [.int .i64 ei, .slice Ax cs.length cx] := by
          rw [← hx1]
          show [Value.int .i64 ei, .slice Ax (cs.map (shiftC DX DY)).length cx] = _
          rw [List.length_map]
        have hxe1 : x1.e = shiftE DX DY (es.getD i ⟨0, []⟩) := by rw [← hx1, ← hxe]
        have hiX : i < X.length := by omega
        have hrow : orow 42 Ax cx (cs.map (shiftC DX DY)) = rowOf x1 := by rw [← hx1]; rfl
        have hXs : (X.set i x1).map EntP.e = mixL (shiftE DX DY) es (i + 1) := by
          rw [List.map_set, hX, hxe1]
          exact mix_set _ hil
        have hXo : orow 37 Am cm (X.set i x1) = orow 37 Am cm X := orow_set hiX (by rw [hx1e, hx0e])
        have hXt := take_set_next hiX x1
        have hts := take_snoc (d := (⟨0, []⟩ : Ent1)) hil
        have hcls : ∀ G, Ent (orow 42 Ax cx (cs.map (shiftC DX DY)) :: allH ((X.eraseIdx i).map rowOf) :: G) (allH ((X.set i x1).map rowOf) :: G) := fun G => by
          rw [hrow]; exact ent_all_close (f := rowOf) hiX
        have how : ownsE ct (shiftE DX DY (es.getD i ⟨0, []⟩)) = ownsE ct ⟨ei, cs⟩ := by rw [shift_owns, ← hxe]
        obtain ⟨ob, hob⟩ : ∃ b, ownsE ct ⟨ei, cs⟩ = b := ⟨_, rfl⟩
        rw [hob] at hI how
        clear hps hrow hX hx0 hxe hem hob
        obtain ⟨eI, heI⟩ : ∃ e, es.getD i (⟨0, []⟩ : Ent1) = e := ⟨_, rfl⟩
        rw [heI] at hts how hxe1
        clear heI
        cases ob with
        | true =>
          have hNn : N.map EntP.e = ((es.take (i + 1)).map (shiftE DX DY)).filter (fun e => !ownsE ct e) := by
            rw [hts, List.map_append, List.filter_append, ← hN]
            simp [how]
          have hNm : ∀ x ∈ N, x ∈ (X.set i x1).take (i + 1) := fun x hx => by rw [hXt]; exact List.mem_append_left _ (hNX x hx)
          clear hN hNX hts how hXt hx1 hx1e
          (repeat' (first | (show VH _ _ _ _ _ _ _; first | refine v_seq ?_ | refine r_seq ?_ | refine v_skip ?_ | refine v_exit ?_ | refine v_cond_f rfl tbL ?_) | (show SH _ _ _ _ _ (_ :: _) _ _ _; first | (show SH _ _ _ _ _ (⟨_, .move _, _, _, _, _⟩ :: _) _ _ _; refine mov evL ?_) | (show SH _ _ _ _ _ (⟨_, .binOp .lss _ _ _ _, _, _, _, _⟩ :: _) _ _ _; refine lssF rfl rfl omD ?_) | (show SH _ _ _ _ _ (⟨_, .binOp .add _ _ _ _, _, _, _, _⟩ :: _) _ _ _; refine add rfl rfl inL ?_) | (show SH _ _ _ _ _ (⟨_, .load _ _, _, _, _, _⟩ :: _) _ _ _; refine lrg rfl (fun _ _ => rdY) (by rfl) omL (by assumption) (by rfl) ?_) | (show SH _ _ _ _ _ (⟨_, .call ⟨.value (.func 14), _, _⟩, _, _, _, _⟩ :: _) _ _ _; refine cl (callee := .func 14) rfl (fun w hw => hI w (hw.rd spL)) rfl rfl ?_) | refine bnoT rfl ?_ | refine nlc rfl ?_ | refine fad rfl ?_) | refine s_nil ?_ | refine kh_normal ?_ | refine kh_exit ?_ | refine bh_normal ?_ | refine bh_exit ?_))
          refine ⟨agL, (i + 1, X.set i x1, N, An, cn), hsL, ?_, ⟨hil, hXs, hNn, hNm⟩, by show _ - (i + 1) < _ - i; omega⟩
          rw [hXo]
          exact (Ent.trans (B := orow 42 Ax cx (cs.map (shiftC DX DY)) :: allH ((X.eraseIdx i).map rowOf) :: [bx b17 26 [.int .i64 5, .slice Am Lm.length cm], bx b18 26 [.int .i64 0, .slice An N.length cn], orow 37 Am cm X, orow 37 An cn N, orow 3 A2 c2 OWN, orow 3 A1 c1 IDS, bx b11 26 [.int .i64 5, .slice A L.length c], knw A L, bx b9 49 [.int .u16 fb, .int .i8 fx, .int .i8 fy, .int .u8 fo, .int .u8 fh, .int .u8 fn]]) enL (hcls _)).trans enL
        | false =>
          have hNn : (N ++ [x1]).map EntP.e = ((es.take (i + 1)).map (shiftE DX DY)).filter (fun e => !ownsE ct e) := by
            rw [hts, List.map_append, List.map_append, List.filter_append, ← hN]
            simp [how, hxe1]
          have hNm : ∀ x ∈ N ++ [x1], x ∈ (X.set i x1).take (i + 1) := fun x hx => by
            rw [hXt]
            rcases List.mem_append.1 hx with h | h
            · exact List.mem_append_left _ (hNX x h)
            · exact List.mem_append_right _ h
          clear hN hNX hts how hXt hx1
          (repeat' (first | (show VH _ _ _ _ _ _ _; first | refine v_seq ?_ | refine r_seq ?_ | refine v_exit ?_ | refine v_cond_t rfl tbL ?_ | refine v_cond_f rfl tbL ?_) | (show SH _ _ _ _ _ (_ :: _) _ _ _; first | (show SH _ _ _ _ _ (⟨_, .move _, _, _, _, _⟩ :: _) _ _ _; refine mov evL ?_) | (show SH _ _ _ _ _ (⟨_, .binOp .lss _ _ _ _, _, _, _, _⟩ :: _) _ _ _; refine lssF rfl rfl omD ?_) | (show SH _ _ _ _ _ (⟨_, .load _ _, _, _, _, _⟩ :: _) _ _ _; refine lrg rfl (fun _ _ => rdY) (by rfl) omL (by assumption) (by rfl) ?_) | (show SH _ _ _ _ _ (⟨_, .call ⟨.value (.func 14), _, _⟩, _, _, _, _⟩ :: _) _ _ _; refine cl (callee := .func 14) rfl (fun w hw => hI w (hw.rd spL)) rfl rfl ?_) | refine bnoF rfl ?_ | refine nlc rfl ?_ | refine fad rfl ?_) | refine s_nil ?_ | refine kh_normal ?_ | refine kh_exit ?_ | refine bh_exit ?_))
          refine r_heldT [orow 37 Am cm X] (tr [(0, true), (2, true), (3, true), (4, true)] (.fork 1 (tr [(5, false), (6, false), (7, false), (8, false)] .nil) 5 (tr [(1, false), (6, false), (7, false), (8, false)] .nil))) hmix (by kernel_rfl) enL ?_
          (repeat' (first | (show SH _ _ _ _ _ (_ :: _) _ _ _; first | (show SH _ _ _ _ _ (⟨_, .move _, _, _, _, _⟩ :: _) _ _ _; refine mov evL ?_) | (show SH _ _ _ _ _ (⟨_, .load _ _, _, _, _, _⟩ :: _) _ _ _; first | refine lag rfl (fun _ _ => rdY) (by rfl) omL (by assumption) ?_ | refine lbx rfl spL (by rfl) ?_) | refine nlc rfl ?_ | refine fad rfl ?_) | refine s_fork ?_ ?_))
          all_goals
            refine bsl (l := [x1]) rfl rfl (Vals.cons (by rw [hx1e]; rfl) Vals.nil) rfl rfl (by decide) (fun b30 => ?_)
            (repeat' ((show SH _ _ _ _ _ (_ :: _) _ _ _; (show SH _ _ _ _ _ (⟨_, .load _ _, _, _, _, _⟩ :: _) _ _ _; refine lbx rfl spL (by rfl) ?_))))
          all_goals
            refine app (l := N) (l2 := [x1]) rfl rfl rfl spL (fun w hw => hw.rd spL) rfl rfl rfl (by simp only [List.length_cons, List.length_nil]; omega) (by simp only [List.length_cons, List.length_nil]; omega) (fun A7 c7 => ⟨enL, ?_⟩)
            (repeat' (first | refine r_seq ?_ | (show SH _ _ _ _ _ (_ :: _) _ _ _; first | (show SH _ _ _ _ _ (⟨_, .move _, _, _, _, _⟩ :: _) _ _ _; refine mov evL ?_) | (show SH _ _ _ _ _ (⟨_, .binOp .add _ _ _ _, _, _, _, _⟩ :: _) _ _ _; refine add rfl rfl inL ?_) | refine fad rfl ?_ | (show SH _ _ _ _ _ (⟨_, .store _ _ _, _, _, _, _⟩ :: _) _ _ _; refine stb rfl rfl evL spL rfl rfl (by first | decide | exact Nat.zero_lt_succ _ | exact of_decide_eq_true rfl) kpL ?_)) | refine s_nil ?_ | refine kh_normal ?_ | refine bh_normal ?_))
            refine ⟨agL, (i + 1, X.set i x1, N ++ [x1], A7, c7), hsL, ?_, ⟨hil, hXs, hNn, hNm⟩, by show _ - (i + 1) < _ - i; omega⟩
            rw [hXo]
            exact (Ent.trans (B := orow 42 Ax cx (cs.map (shiftC DX DY)) :: allH ((X.eraseIdx i).map rowOf) :: [bx b17 26 [.int .i64 5, .slice Am Lm.length cm], bx b18 26 [.int .i64 0, .slice A7 (N ++ [x1]).length c7], orow 37 Am cm X, orow 37 A7 c7 (N ++ [x1]), orow 3 A2 c2 OWN, orow 3 A1 c1 IDS, bx b11 26 [.int .i64 5, .slice A L.length c], knw A L, bx b9 49 [.int .u16 fb, .int .i8 fx, .int .i8 fy, .int .u8 fo, .int .u8 fh, .int .u8 fn]]) enL (hcls _)).trans enL
  · 
    have hie : i = es.length := by omega
    rw [hie, mix_end] at hX
    rw [hie, List.take_length] at hN
    have hNX' : ∀ x ∈ N, x ∈ X := fun x hx => List.mem_of_mem_take (hNX x hx)
    have hvX : ValidW 5 (es.map (shiftE DX DY)) := shift_valid hv0 (fun e he c hc hk => by
      obtain ⟨⟨p1, p2⟩, p3, p4⟩ := hps0 e he c hc hk
      omega)
    have hX' : ents X = es.map (shiftE DX DY) := hX
    have hN' : ents N = (es.map (shiftE DX DY)).filter (fun e => !ownsE ct e) := hN
    have hvN : ValidW 0 (ents N) := by rw [hN']; exact filt_valid hvX _ (by omega)
    have hcX : ∀ e ∈ es.map (shiftE DX DY), e.comps.length ≤ 10 := fun e he => by
      obtain ⟨x, hx, rfl⟩ := List.mem_map.1 he
      show (x.comps.map (shiftC DX DY)).length ≤ 10
      rw [List.length_map]; exact hcm0 x hx
    obtain ⟨hsX, _⟩ := made_sz hX' hvX.len hcX
    obtain ⟨hsN, _⟩ := made_sz hN' (by rw [← hN']; exact hvN.len) (fun e he => hcX e (List.mem_filter.1 he).1)
    have hV1 := fun w hG hr => visI_spec ct 5 Am X cm w hG hsX hr
    rw [hX', errI_ok ⟨hc8, hvX⟩, shift_vis hok ⟨hc8, hvX⟩, hIDS] at hV1
    have hV2 := fun w hG hr => visI_spec ct 0 An N cn w hG hsN hr
    have hnv : visL ct 0 (ents N) = [] := none_vis ⟨hc8, hvN⟩ (fun e he => by
      rw [hN'] at he
      have := (List.mem_filter.1 he).2
      simpa using this)
    obtain ⟨NL, hNL⟩ : ∃ x, visL ct 0 (ents N) = x := ⟨_, rfl⟩
    rw [hNL] at hnv
    have hnl : NL.length = 0 := by rw [hnv]; rfl
    rw [errI_ok ⟨hc8, hvN⟩, hNL] at hV2
    have hXL : X.length = Lm.length := by omega
    unfold wv at hV1 hV2
    rw [hXL] at hV1
    refine VH.ent (G := [bx b17 26 [.int .i64 5, .slice Am Lm.length cm], bx b18 26 [.int .i64 0, .slice An N.length cn], kno (fun w => RdW w Am X ∧ RdW w An N), orow 3 A2 c2 OWN, orow 3 A1 c1 IDS, bx b11 26 [.int .i64 5, .slice A L.length c], knw A L, bx b9 49 [.int .u16 fb, .int .i8 fx, .int .i8 fy, .int .u8 fo, .int .u8 fh, .int .u8 fn]]) ?_ (by
      refine Ent.trans (B := [orow 37 Am cm X, allH (X.map rowOf), orow 37 An cn N, bx b17 26 [.int .i64 5, .slice Am Lm.length cm], bx b18 26 [.int .i64 0, .slice An N.length cn], orow 3 A2 c2 OWN, orow 3 A1 c1 IDS, bx b11 26 [.int .i64 5, .slice A L.length c], knw A L, bx b9 49 [.int .u16 fb, .int .i8 fx, .int .i8 fy, .int .u8 fo, .int .u8 fh, .int .u8 fn]]) enL ?_
      refine Ent.trans ent_knw ?_
      refine Ent.trans (ent_kno_row (e := 37) (A := An) (cp := cn) (l := N) (Split.tail Split.head) (ent_refl _)) ?_
      refine Ent.trans ent_kno_and ?_
      refine Ent.trans (ent_kno_imp (Ψ := fun w => RdW w Am X ∧ RdW w An N) (fun w h => ⟨h.2, h.1, fun x hx => h.2.2 x (hNX' x hx)⟩) Split.head (ent_refl _)) ?_
      exact enL)
    clear hX hN hNX hNX' hvX hX' hN' hvN hcX hsX hsN hnv hNL hps0 hXL hPx hPy hLm hOWm hOWN
    (repeat' (first | (show VH _ _ _ _ _ _ _; first | refine v_seq ?_ | refine r_seq ?_ | refine v_exit ?_ | refine v_cond_f rfl tbL ?_) | (show SH _ _ _ _ _ (_ :: _) _ _ _; first | (show SH _ _ _ _ _ (⟨_, .move _, _, _, _, _⟩ :: _) _ _ _; refine mov evL ?_) | (show SH _ _ _ _ _ (⟨_, .binOp .lss _ _ _ _, _, _, _, _⟩ :: _) _ _ _; refine lssF rfl rfl omD ?_) | (show SH _ _ _ _ _ (⟨_, .load _ _, _, _, _, _⟩ :: _) _ _ _; refine lba rfl spL (by rfl) ?_) | (show SH _ _ _ _ _ (⟨_, .call ⟨.value (.func 11), _, _⟩, _, _, _, _⟩ :: _) _ _ _; refine cp (callee := .func 11) rfl (fun w hw => hV1 w (hG.ext hw.ext) (Wd.kn (Φ := fun w => RdW w Am X ∧ RdW w An N) hw spL).1) rfl rfl ?_)) | refine s_nil ?_ | refine kh_normal ?_ | refine kh_exit ?_ | refine bh_exit ?_))
    rintro _ _ ⟨A5, c5, rfl, rfl⟩
    (repeat' (first | (show VH _ _ _ _ _ _ _; first | refine v_seq ?_ | refine r_seq ?_) | (show SH _ _ _ _ _ (_ :: _) _ _ _; first | (show SH _ _ _ _ _ (⟨_, .move _, _, _, _, _⟩ :: _) _ _ _; refine mov evL ?_) | (show SH _ _ _ _ _ (⟨_, .assign _, _, _, _, _⟩ :: _) _ _ _; refine asg evL ?_) | (show SH _ _ _ _ _ (⟨_, .load _ _, _, _, _, _⟩ :: _) _ _ _; refine lba rfl spL (by rfl) ?_) | (show SH _ _ _ _ _ (⟨_, .call ⟨.value (.func 11), _, _⟩, _, _, _, _⟩ :: _) _ _ _; refine cp (callee := .func 11) rfl (fun w hw => hV2 w (hG.ext hw.ext) (Wd.kn (Φ := fun w => RdW w Am X ∧ RdW w An N) hw spL).2) rfl rfl ?_) | refine extr rfl rfl ?_) | refine s_nil ?_ | refine kh_normal ?_))
    rintro _ _ ⟨A6, c6, rfl, rfl⟩
    (repeat' (first | (show VH _ _ _ _ _ _ _; first | refine v_seq ?_ | refine r_seq ?_) | (show SH _ _ _ _ _ (_ :: _) _ _ _; first | (show SH _ _ _ _ _ (⟨_, .move _, _, _, _, _⟩ :: _) _ _ _; refine mov evL ?_) | (show SH _ _ _ _ _ (⟨_, .assign _, _, _, _, _⟩ :: _) _ _ _; refine asg evL ?_) | (show SH _ _ _ _ _ (⟨_, .load _ _, _, _, _, _⟩ :: _) _ _ _; refine lba rfl spL (by rfl) ?_) | (show SH _ _ _ _ _ (⟨_, .call ⟨.value (.func 22), _, _⟩, _, _, _, _⟩ :: _) _ _ _; refine cp (callee := .func 22) rfl (fun w hw => hcw w (hw.kw spL)) rfl rfl ?_) | refine extr rfl rfl ?_) | refine s_nil ?_ | refine kh_normal ?_))
    rintro _ _ ⟨Aq, cq, Lq, rfl, hLq, rfl⟩
    clear hV1 hV2 hcw
    (repeat' ((fail_if_success (show VH _ _ (.seq (.region 24 _ _) _) _ _ _ _)); first | (show SH _ _ _ _ _ (_ :: _) _ _ _; first | refine ala rfl (fun b => ?_) | (show SH _ _ _ _ _ (⟨_, .store _ _ _, _, _, _, _⟩ :: _) _ _ _; refine sta rfl rfl rfl spL (by rfl) (by rfl) (by rfl) kpL ?_)) | refine s_nil ?_ | refine kh_normal ?_))
    revert b
    intro b26
    (repeat' (first | (show VH _ _ _ _ _ _ _; first | refine v_seq ?_ | refine r_seq ?_) | (show SH _ _ _ _ _ (_ :: _) _ _ _; first | (show SH _ _ _ _ _ (⟨_, .load _ _, _, _, _, _⟩ :: _) _ _ _; refine lbx rfl spL (by rfl) ?_) | refine fad rfl ?_)))
    refine orw rfl rfl _ rfl ?_
    (repeat' ((fail_if_success (show VH _ _ (.seq (.region 26 _ _) _) _ _ _ _)); first | (show VH _ _ _ _ _ _ _; first | refine v_seq ?_ | refine r_seq ?_) | (show SH _ _ _ _ _ (_ :: _) _ _ _; first | (show SH _ _ _ _ _ (⟨_, .move _, _, _, _, _⟩ :: _) _ _ _; refine mov evL ?_) | (show SH _ _ _ _ _ (⟨_, .binOp .sub _ _ _ _, _, _, _, _⟩ :: _) _ _ _; refine sub rfl rfl inL ?_) | refine fad rfl ?_ | refine cnv rfl ?_ | (show SH _ _ _ _ _ (⟨_, .store _ _ _, _, _, _, _⟩ :: _) _ _ _; refine stb rfl rfl evL spL rfl rfl (by first | decide | exact Nat.zero_lt_succ _ | exact of_decide_eq_true rfl) kpL ?_)) | refine s_nil ?_ | refine kh_normal ?_))
    have hwr : IntKind.u8.wrap (ct - 1) = ct - 1 := by
      have h : IntKind.u8.wrap (ct - 1) = (ct - 1) % 256 := rfl
      rw [h]; omega
    obtain ⟨g0, hg0⟩ : ∃ x, borK .u16 fb 8 = x := ⟨_, rfl⟩
    rw [hwr, hg0]
    have hF : (⟨g0, fx, fy, ct - 1, fh, fn⟩ : Form) = ownF ⟨fb, fx, fy, fo, fh, fn⟩ (ct - 1) := by unfold ownF; rw [hg0]
    have hE := fun w => entity24_spec 100 ⟨g0, fx, fy, ct - 1, fh, fn⟩ (by rw [hF]; exact ownF_ok hb4 (by omega)) w
    unfold OwnR at hE
    rw [show Flat.enc (⟨g0, fx, fy, ct - 1, fh, fn⟩ : Form) = [.int .u16 g0, .int .i8 fx, .int .i8 fy, .int .u8 (ct - 1), .int .u8 fh, .int .u8 fn] from rfl, hF] at hE
    obtain ⟨y, hy⟩ : ∃ e, formE 100 (ownF ⟨fb, fx, fy, fo, fh, fn⟩ (ct - 1)) = e := ⟨_, rfl⟩
    rw [hy] at hE
    have hyo : ownsE ct y = true := by
      have := ownF_owns (id := 100) hb4 (o := ct - 1) (by omega)
      rw [hy] at this
      rwa [show ct - 1 + 1 = ct by omega] at this
    have hyi : y.id = 100 := by rw [← hy]; rfl
    have hyr : RightE y := by rw [← hy]; exact formE_right (ownF_ok hb4 (by omega)) (by omega)
    have hyl : y.comps.length ≤ 10 := by rw [← hy]; exact formN_len _ 10
    have hvm : ValidW 5 (es ++ [y]) := add_valid hv0 (by omega) (fun e he => by rw [hyi]; exact hid0 e he) hyr
    have hmy := more_own ⟨hc8, hvm⟩ hyo
    have hmi := more_vis hok ⟨hc8, hvm⟩
    rw [hyi] at hmy
    rw [hIDS] at hmi
    have hLq' : ents Lq = es := hLq
    have hLql : Lq.length = es.length := by rw [← ents_len, hLq']
    have hcm1 : ∀ e ∈ es ++ [y], e.comps.length ≤ 10 := fun e he => by
      rcases List.mem_append.1 he with h | h
      · exact hcm0 e h
      · rw [List.mem_singleton.1 h]; exact hyl
    have hIl : IDS.length ≤ 64 := by
      rw [← hIDS, visL_ok hok, List.length_map]
      have := List.length_filter_le (seesE ct.toNat (ptsE ct es)) es
      omega
    have hVl : (visL ct 5 (es ++ [y])).length ≤ 64 := by
      rw [visL_ok ⟨hc8, hvm⟩, List.length_map]
      have := List.length_filter_le (seesE ct.toNat (ptsE ct (es ++ [y]))) (es ++ [y])
      have := hvm.len
      omega
    
    clear hF hg0 hwr hb4 hy hyo hyi hyr hyl hid0 hcm0 hLq hml2
    refine v_seq ?_
    refine v_cut [(152, 158)] (fun _ : (Option Addr × Nat) × (Option Addr × Nat) => []) (fun s => [bx b26 26 [.int .i64 5, .slice s.1.1 (Lq ++ [(⟨y, s.2.1, s.2.2⟩ : EntP)]).length s.1.2], knw s.1.1 (Lq ++ [(⟨y, s.2.1, s.2.2⟩ : EntP)]), orow 3 A6 c6 NL, orow 3 A5 c5 IDS, orow 3 A2 c2 OWN, orow 3 A1 c1 IDS]) (fun _ => True) ?_ ?_ ent_vh
    · refine r_heldT [bx b9 49 [.int .u16 g0, .int .i8 fx, .int .i8 fy, .int .u8 (ct - 1), .int .u8 fh, .int .u8 fn]] (tr [(0, true), (2, true)] (.fork 1 (tr [(3, false), (4, false), (5, false), (6, false), (7, false)] .nil) 3 (tr [] (.fork 1 (tr [(4, false), (5, false), (6, false), (7, false)] .nil) 4 (tr [(1, false), (5, false), (6, false), (7, false)] .nil))))) hmix (by kernel_rfl) enL ?_
      (repeat' (first | (show SH _ _ _ _ _ (_ :: _) _ _ _; first | (show SH _ _ _ _ _ (⟨_, .load _ _, _, _, _, _⟩ :: _) _ _ _; first | refine lbx rfl spL (by rfl) ?_ | refine lba rfl spL (by rfl) ?_) | (show SH _ _ _ _ _ (⟨_, .call ⟨.value (.func 17), _, _⟩, _, _, _, _⟩ :: _) _ _ _; refine cp (callee := .func 17) rfl (fun w hw => hE w) rfl rfl ?_) | refine fad rfl ?_) | refine s_fork ?_ ?_))
      all_goals
        rintro _ _ ⟨A8, c8, rfl, rfl⟩
        (repeat' (first | (show SH _ _ _ _ _ (_ :: _) _ _ _; (show SH _ _ _ _ _ (⟨_, .load _ _, _, _, _, _⟩ :: _) _ _ _; refine lbx rfl spL (by rfl) ?_)) | refine s_fork ?_ ?_))
      all_goals
        refine bsl (l := [(⟨y, A8, c8⟩ : EntP)]) rfl rfl (Vals.cons rfl Vals.nil) rfl rfl (by decide) (fun b31 => ?_)
        (repeat' ((show SH _ _ _ _ _ (_ :: _) _ _ _; (show SH _ _ _ _ _ (⟨_, .load _ _, _, _, _, _⟩ :: _) _ _ _; refine lbx rfl spL (by rfl) ?_))))
      all_goals
        refine app (l := Lq) (l2 := [(⟨y, A8, c8⟩ : EntP)]) rfl rfl rfl spL (fun w hw => hw.rd spL) rfl rfl rfl (by simp only [List.length_cons, List.length_nil]; omega) (by simp only [List.length_cons, List.length_nil]; omega) (fun A9 c9 => ⟨enL, ?_⟩)
        (repeat' (first | (show SH _ _ _ _ _ (_ :: _) _ _ _; first | refine fad rfl ?_ | (show SH _ _ _ _ _ (⟨_, .store _ _ _, _, _, _, _⟩ :: _) _ _ _; refine stb rfl rfl evL spL rfl rfl (by first | decide | exact Nat.zero_lt_succ _ | exact of_decide_eq_true rfl) kpL ?_)) | refine s_nil ?_ | refine kh_normal ?_))
        refine ⟨agL, ((A9, c9), (A8, c8)), hsL, ?_, trivial⟩
        exact Ent.trans (B := [orow 42 A8 c8 y.comps, allH (Lq.map rowOf), bx b26 26 [.int .i64 5, .slice A9 (Lq ++ [(⟨y, A8, c8⟩ : EntP)]).length c9], orow 37 A9 c9 (Lq ++ [(⟨y, A8, c8⟩ : EntP)]), orow 3 A6 c6 NL, orow 3 A5 c5 IDS, orow 3 A2 c2 OWN, orow 3 A1 c1 IDS]) enL
          ((ent_all_snoc (f := rowOf) (x := (⟨y, A8, c8⟩ : EntP))).trans (Ent.trans (B := [bx b26 26 [.int .i64 5, .slice A9 (Lq ++ [(⟨y, A8, c8⟩ : EntP)]).length c9], orow 37 A9 c9 (Lq ++ [(⟨y, A8, c8⟩ : EntP)]), allH ((Lq ++ [(⟨y, A8, c8⟩ : EntP)]).map rowOf), orow 3 A6 c6 NL, orow 3 A5 c5 IDS, orow 3 A2 c2 OWN, orow 3 A1 c1 IDS]) enL (ent_cons Split.head ent_knw)))
    rintro ⟨⟨A9, c9⟩, A8, c8⟩ g6 _ _ rfl
    simp only [sets]
    have hY : ents (Lq ++ [(⟨y, A8, c8⟩ : EntP)]) = es ++ [y] := by rw [map_e_one, hLq']
    obtain ⟨hsY, _⟩ := made_sz hY hvm.len hcm1
    obtain ⟨Y, hYY⟩ : ∃ Y, Lq ++ [(⟨y, A8, c8⟩ : EntP)] = Y := ⟨_, rfl⟩
    rw [hYY] at hY hsY
    simp only [hYY]
    have hV3 := fun w hG hr => visI_spec ct 5 A9 Y c9 w hG hsY hr
    rw [hY, errI_ok ⟨hc8, hvm⟩] at hV3
    obtain ⟨MV, hMV⟩ : ∃ x, visL ct 5 (es ++ [y]) = x := ⟨_, rfl⟩
    rw [hMV] at hV3 hmy hmi hVl
    unfold wv at hV3
    clear hE hvm hcm1 hYY hY hsY hMV hLq' hLql
    (repeat' (first | (show VH _ _ _ _ _ _ _; first | refine v_seq ?_ | refine r_seq ?_) | (show SH _ _ _ _ _ (_ :: _) _ _ _; first | (show SH _ _ _ _ _ (⟨_, .move _, _, _, _, _⟩ :: _) _ _ _; refine mov evL ?_) | (show SH _ _ _ _ _ (⟨_, .load _ _, _, _, _, _⟩ :: _) _ _ _; refine lba rfl spL (by rfl) ?_) | (show SH _ _ _ _ _ (⟨_, .call ⟨.value (.func 11), _, _⟩, _, _, _, _⟩ :: _) _ _ _; refine cp (callee := .func 11) rfl (fun w hw => hV3 w (hG.ext hw.ext) (hw.kw spL)) rfl rfl ?_))))
    rintro _ _ ⟨A10, c10, rfl, rfl⟩
    have hS := fun w h1 h2 => sameInts_spec A1 A5 IDS IDS c1 c5 w h1 h2 (by omega)
    rw [decide_eq_true rfl] at hS
    have hI1 := fun w hr => in_spec A10 MV c10 100 w (by omega) hr
    rw [decide_eq_true hmy] at hI1
    (repeat' (first | (show VH _ _ _ _ _ _ _; first | refine v_seq ?_ | refine r_seq ?_ | refine v_block ?_ | refine v_skip ?_ | refine v_cond_f rfl tbL ?_) | (show SH _ _ _ _ _ (_ :: _) _ _ _; first | (show SH _ _ _ _ _ (⟨_, _, _, _, _, some _⟩ :: _) _ _ _; (refine gif rfl rfl ?_; refine giFF tbL ?_)) | (show SH _ _ _ _ _ (⟨_, .move _, _, _, _, _⟩ :: _) _ _ _; refine mov evL ?_) | (show SH _ _ _ _ _ (⟨_, .assign _, _, _, _, _⟩ :: _) _ _ _; refine asg evL ?_) | (show SH _ _ _ _ _ (⟨_, .binOp .neq _ _ _ _, _, _, _, _⟩ :: _) _ _ _; refine neqF rfl rfl omD ?_) | (show SH _ _ _ _ _ (⟨_, .binOp .add _ _ _ _, _, _, _, _⟩ :: _) _ _ _; refine add rfl rfl inL ?_) | refine slen rfl ?_ | (show SH _ _ _ _ _ (⟨_, .call ⟨.value (.func 21), _, _⟩, _, _, _, _⟩ :: _) _ _ _; refine cl (callee := .func 21) rfl (fun w hw => hS w (hw.rd spL) (hw.rd spL)) rfl rfl ?_) | (show SH _ _ _ _ _ (⟨_, .call ⟨.value (.func 14), _, _⟩, _, _, _, _⟩ :: _) _ _ _; refine cl (callee := .func 14) rfl (fun w hw => hI1 w (hw.rd spL)) rfl rfl ?_) | refine bnoT rfl ?_ | (show SH _ _ _ _ _ (⟨_, .pick _ _ _, _, _, _, _⟩ :: _) _ _ _; refine pkf rfl tbL evL ?_) | refine extr rfl rfl ?_) | refine s_nil ?_ | refine kh_normal ?_))
    clear hS hI1 hmy hV3
    
    refine v_norm [(10,_),(13,_),(27,_),(191,_),(192,_),(193,_)] heL (fun g => ?_)
    refine v_loop0 [(10,10),(30,30),(193,201)] (fun j : Nat => [(193, .int .i64 j)]) (fun j => j ≤ IDS.length) (fun j => IDS.length - j) 0 hsL (Nat.zero_le _) ?_
    rintro j g7 hj
    simp only [sets]
    by_cases hjl : j < IDS.length
    · have hI2 := fun w hr => in_spec A10 MV c10 (IDS.getD j 0) w (by omega) hr
      rw [decide_eq_true (hmi _ (getD_mem hjl))] at hI2
      clear hmi
      (repeat' (first | (show VH _ _ _ _ _ _ _; first | refine v_seq ?_ | refine r_seq ?_ | refine v_block ?_ | refine v_skip ?_ | refine v_cond_t rfl tbL ?_ | refine v_cond_f rfl tbL ?_) | (show SH _ _ _ _ _ (_ :: _) _ _ _; first | (show SH _ _ _ _ _ (⟨_, .move _, _, _, _, _⟩ :: _) _ _ _; refine mov evL ?_) | (show SH _ _ _ _ _ (⟨_, .assign _, _, _, _, _⟩ :: _) _ _ _; refine asg evL ?_) | (show SH _ _ _ _ _ (⟨_, .binOp .lss _ _ _ _, _, _, _, _⟩ :: _) _ _ _; refine lssT rfl rfl omD ?_) | (show SH _ _ _ _ _ (⟨_, .binOp .add _ _ _ _, _, _, _, _⟩ :: _) _ _ _; refine add rfl rfl inL ?_) | (show SH _ _ _ _ _ (⟨_, .load _ _, _, _, _, _⟩ :: _) _ _ _; refine lin rfl (fun _ _ => rdY) omL ?_) | (show SH _ _ _ _ _ (⟨_, .indexAddr _ _ _, _, _, _, _⟩ :: _) _ _ _; refine ix rfl rfl (by with_reducible rfl) (fun _ _ => rdY) (by rfl) omL omL ?_) | (show SH _ _ _ _ _ (⟨_, .call ⟨.value (.func 14), _, _⟩, _, _, _, _⟩ :: _) _ _ _; refine cl (callee := .func 14) rfl (fun w hw => hI2 w (hw.rd spL)) rfl rfl ?_) | refine bnoT rfl ?_) | refine s_nil ?_ | refine kh_normal ?_ | refine bh_normal ?_))
      exact ⟨agL, j + 1, hsL, enL, by omega, by omega⟩
    · clear hmi
      (repeat' (first | (show VH _ _ _ _ _ _ _; first | refine v_seq ?_ | refine r_seq ?_ | refine v_ret ?_ | refine v_exit ?_ | refine v_cond_f rfl tbL ?_) | (show SH _ _ _ _ _ (_ :: _) _ _ _; first | (show SH _ _ _ _ _ (⟨_, .assign _, _, _, _, _⟩ :: _) _ _ _; refine asg evL ?_) | (show SH _ _ _ _ _ (⟨_, .binOp .lss _ _ _ _, _, _, _, _⟩ :: _) _ _ _; refine lssF rfl rfl omD ?_)) | refine s_nil ?_ | refine kh_normal ?_ | refine kh_exit ?_ | refine bh_exit ?_))
      exact rh1 rfl rfl ⟨rfl, rfl⟩ (ent_nil _)

end Go.Proofs.YtjefoecnciepmaaDoor
