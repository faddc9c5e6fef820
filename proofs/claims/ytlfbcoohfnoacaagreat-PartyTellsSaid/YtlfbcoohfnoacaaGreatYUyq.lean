/- marcheslaw36: does. -/
import Derived.Test.YtlfbcoohfnoacaaGreatYTwp
import Derived.Test.YtlfbcoohfnoacaaGreatYMp
import Derived.Test.YtlfbcoohfnoacaaGreatYWz
import Derived.Test.YtlfbcoohfnoacaaGreatYPc
import Derived.Test.YtlfbcoohfnoacaaGreatYUyg
import Derived.Test.YtlfbcoohfnoacaaGreatYPb
import Derived.Test.YtlfbcoohfnoacaaGreatYUvn
set_option linter.unusedSimpArgs false
set_option linter.unusedVariables false
namespace Go.Proofs.YtlfbcoohfnoacaaGreat
open Go.Fw Go.RowKit
/-- The hall behind a thing that is done: what has an error leaves it as it was. -/
def nextH (h : Hal) (kind a b : Int) : Hal := if (doR h kind a b).2 = 0 then (doR h kind a b).1 else h
def RefD (Φ : World → Prop) (H : List HP) (h : Hal) (v : Value) (H' : List HP) : Prop := ∃ A c M, ptys M = h.ps ∧ M.length ≤ c ∧ v = .tuple #[hv36 h.tick h.last A M c, .bool true] ∧ H' = kno (fun w => Φ w ∧ RdP w A M) :: H
theorem takenK_spec (t la : Int) (A : Option Addr) (L : List PtyP) (c : Nat) (w : World) (hz : SzP L) (hr : RdP w A L) :
    Ret Tryz.prog 30 [hv36 t la A L c].toArray w (RP w fun v H' => ∃ A' c' M, ptys M = ptys L ∧ v = hv36 t la A' M c' ∧ H' = [knp A' M]) :=
  (taken_spec t la A L c w hz hr).mono fun v w' ⟨H', ⟨A', c', M, h1, h2, h3⟩, hw⟩ => ⟨_, ⟨A', c', M, h1, h2, rfl⟩, Ent.wd (h3 ▸ ent_knp) hw⟩
theorem ofY_spec (t la : Int) (A : Option Addr) (L : List PtyP) (c : Nat) (who : Int) (w : World) (hz : SzP L) (hr : RdP w A L) :
    Ret Tryz.prog 16 [hv36 t la A L c, .int .i64 who].toArray w (RP w fun v H' => ∃ y : PtyP, y.p = (ofM ⟨t, la, ptys L⟩ who).getD pty0 ∧ v = .tuple #[.agg (Flat.enc y).toArray, .bool (ofM ⟨t, la, ptys L⟩ who).isSome] ∧ H' = [rowM y, rowI y]) :=
  (of_spec t la A L c who w hz hr).mono fun v w' ⟨H', h, hw⟩ => by
    unfold OutP at h
    cases ho : ofM ⟨t, la, ptys L⟩ who with
    | none =>
      rw [ho] at h
      obtain ⟨h1, h2⟩ := h
      subst h1 h2
      exact ⟨_, ⟨⟨pty0, none, 0, none, 0⟩, rfl, rfl, rfl⟩, Ent.wd (ent_nilrow (ent_nilrow (ent_nil _))) hw⟩
    | some p =>
      rw [ho] at h
      obtain ⟨y, h1, h2, h3⟩ := h
      subst h2 h3
      exact ⟨_, ⟨y, h1, rfl, rfl⟩, hw⟩
theorem share_len {L : List PtyP} (hz : SzP L) (t la id amount : Int) : (shareM ⟨t, la, ptys L⟩ id amount).1.length ≤ 1000 := by
  unfold shareM
  split
  · cases hi : idxP id (ptys L) with
    | none => simp
    | some k =>
      have hk := (idxP_some _ hi).1
      simp only
      split
      · unfold sharesM
        rw [List.length_map, List.length_range]
        rw [ptys_len] at hk
        rw [ptys_at hk]
        exact hz.atm hk
      · simp
  · simp
theorem ofP_rd {L : List PtyP} {A : Option Addr} {w : World} (hr : RdP w A L) (t la who : Int) : Rd w ((ofP t la L who).getD Flat.dflt).A ((ofP t la L who).getD Flat.dflt).p.mem ∧ Rd w ((ofP t la L who).getD Flat.dflt).B ((ofP t la L who).getD Flat.dflt).p.inv := by
  unfold ofP
  split
  · cases hf : findM who (ptys L) with
    | none => exact ⟨Rd.nil _ none, Rd.nil _ none⟩
    | some k =>
      have hk := findM_lt hf
      rw [ptys_len] at hk
      exact ⟨hr.mem hk, hr.inv hk⟩
  · exact ⟨Rd.nil _ none, Rd.nil _ none⟩
theorem ofP_sz {L : List PtyP} (hz : SzP L) (t la who : Int) : ((ofP t la L who).getD Flat.dflt).p.mem.length ≤ 1000 ∧ ((ofP t la L who).getD Flat.dflt).p.inv.length ≤ 1000 := by
  unfold ofP
  split
  · cases hf : findM who (ptys L) with
    | none => exact ⟨Nat.zero_le _, Nat.zero_le _⟩
    | some k =>
      have hk := findM_lt hf
      rw [ptys_len] at hk
      exact ⟨hz.atm hk, hz.ati hk⟩
  · exact ⟨Nat.zero_le _, Nat.zero_le _⟩
theorem ofP_getD (o : Option PtyP) : (o.map PtyP.p).getD pty0 = (o.getD Flat.dflt).p := by cases o <;> rfl
theorem ofP_isSome (o : Option PtyP) : (o.map PtyP.p).isSome = o.isSome := by cases o <;> rfl
theorem v_row {α : Type} [F : Flat α] {P : Program} {n : Nat} {Q : HQ} {f : Fr} {w0 : World} {H R : List HP} {c : Code} {e : TypeId} {A : Option Addr} {cp : Nat} {l : List α} (hs : Split H (orow e A cp l) R) (k0 : l.length = 0 → VH P n c Q f w0 R)
    (k1 : ∀ g cs, A = some ⟨g, 0, none⟩ → cs.length = cp * F.sz → l.length ≤ cp → cs.take (l.length * F.sz) = encs l → VH P n c Q f w0 (bx g e cs :: R)) : VH P n c Q f w0 H := ⟨fun w hw => by
  rcases row_bx (hs.wd hw) with ⟨_, h2, _⟩ | ⟨g, cs, h1, h2, _, h3, h4, h5⟩
  · exact (k0 (by rw [h2]; rfl)).out w (hs.wd hw).drop
  · exact (k1 g cs h1 h2 h3 h4).out w h5⟩
theorem ent_two {a b B : HP} {X Y Z : List HP} : Ent (B :: allH (a :: X) :: allH (b :: Y) :: Z) (a :: b :: B :: allH X :: allH Y :: Z) :=
  Ent.trans (B := B :: a :: allH X :: b :: allH Y :: Z) (ent_cons Split.head (ent_all_uncons.trans (ent_cons Split.head (ent_cons Split.head ent_all_uncons)))) (ent_cons spL (ent_cons spL (ent_refl _)))
theorem row_cells {L : List PtyP} {cs : List Value} (h : cs.take (L.length * 4) = encs L) : ∀ j, j < L.length → ∀ r, r < 4 → cs[j * 4 + r]? = (Flat.enc (L.getD j Flat.dflt))[r]? := fun j hj r hr => by
  have hl : (Flat.enc (L.getD j Flat.dflt)).length = 4 := Flat.len _
  have hu : (Flat.enc (L.getD j Flat.dflt))[r]? = some ((Flat.enc (L.getD j Flat.dflt))[r]'(by omega)) := List.getElem?_eq_getElem _
  have h1 := encs_get hj hu
  rw [hu, ← h1, ← h, show Flat.sz PtyP = 4 from rfl, List.getElem?_take, if_pos (by omega)]
set_option maxHeartbeats 4000000 in
set_option maxRecDepth 100000 in
theorem does_spec (t la : Int) (A : Option Addr) (L : List PtyP) (c : Nat) (kind p q : Int) (Φ : World → Prop) (w0 : World) (H : List HP) (w : World) (hz : SzP L) (hc : L.length ≤ c) (hΦ : ∀ w, Φ w → RdP w A L) (hw : Wd w0 (kno Φ :: H) w) :
    Ret Tryz.prog 10 [hv36 t la A L c, .agg #[.int .i64 kind, .int .i64 p, .int .i64 q]].toArray w (RP w0 (RefD Φ H (nextH ⟨t, la, ptys L⟩ kind p q))) := by
  have hT := fun w h => takenK_spec t la A L c w hz h
  have hR := fun w0 H w h => sameR_spec t la A L c kind p q Φ w0 H w hz hc hΦ h
  have hG := fun w h => refOf_spec t la A L c p w hz h
  have hG2 := fun w h => refShare_spec t la A L c q p w hz h
  have hV2 := fun w h => refValid_spec t la A L c w hz h
  have hszD : ∀ M, ptys M = (doR ⟨t, la, ptys L⟩ kind p q).1.ps → SzP M := fun M h => szP_do h
  have hslen := share_len hz t la q p
  have hzr := fun w (h : RdP w A L) => ofP_rd h t la p
  have hzs := ofP_sz hz t la p
  have hT2 : ∀ A2 L2 c2 w, ptys L2 = ptys L → RdP w A2 L2 → Ret Tryz.prog 16 [hv36 t la A2 L2 c2, .int .i64 p].toArray w (RP w fun v H' => ∃ y : PtyP, y.p = ((ofP t la L p).getD Flat.dflt).p ∧ v = .tuple #[.agg (Flat.enc y).toArray, .bool (ofP t la L p).isSome] ∧ H' = [rowM y, rowI y]) := fun A2 L2 c2 w hp h => by
    have := ofY_spec t la A2 L2 c2 p w (szP_of hp hz) h
    rwa [hp, ofP_of, ofP_getD, ofP_isSome] at this
  have hO2 : ∀ A2 L2 c2 w, ptys L2 = ptys L → RdP w A2 L2 → Ret Tryz.prog 13 [hv36 t la A2 L2 c2, .agg #[.int .i64 kind, .int .i64 p, .int .i64 q]].toArray w (RP w (OutH (doR ⟨t, la, ptys L⟩ kind p q))) := fun A2 L2 c2 w hp h => by
    have := one36_spec t la A2 L2 c2 kind p q w (szP_of hp hz) h
    rwa [hp] at this
  have hS2 : ∀ A2 L2 c2 w, ptys L2 = ptys L → RdP w A2 L2 → Ret Tryz.prog 20 [hv36 t la A2 L2 c2, .int .i64 q, .int .i64 p].toArray w (RP w (FreshE 3 (shareM ⟨t, la, ptys L⟩ q p).1 (shareM ⟨t, la, ptys L⟩ q p).2)) := fun A2 L2 c2 w hp h => by
    have := share_spec t la A2 L2 c2 q p w (szP_of hp hz) h
    rwa [hp] at this
  have hV1 : ∀ A2 L2 c2 w, ptys L2 = ptys L → RdP w A2 L2 → Ret Tryz.prog 8 [hv36 t la A2 L2 c2].toArray w (Out w (.bool (validHal ⟨t, la, ptys L⟩))) := fun A2 L2 c2 w hp h => by
    have := valid_spec t la A2 L2 c2 w (szP_of hp hz) h
    rwa [hp] at this
  unfold nextH
  generalize doR ⟨t, la, ptys L⟩ kind p q = r at hR hszD hO2 ⊢
  generalize (ofP t la L p).isSome = zb at hG hT2
  generalize (ofP t la L p).getD Flat.dflt = z at hG hT2 hzr hzs
  generalize shareM ⟨t, la, ptys L⟩ q p = sh at hG2 hS2 hslen
  generalize validHal ⟨t, la, ptys L⟩ = vb at hV1 hV2
  obtain ⟨⟨rt, rl, rp⟩, re⟩ := r
  obtain ⟨sl, se⟩ := sh
  obtain ⟨⟨zi, zl, zm, zv⟩, zA, zca, zB, zcb⟩ := z
  unfold OutH RefC FreshE at *
  simp only at hR hszD hO2 hG2 hS2 hslen hT2 hzr hzs ⊢
  rw [show Flat.enc (⟨⟨zi, zl, zm, zv⟩, zA, zca, zB, zcb⟩ : PtyP) = [.int .i64 zi, .int .i64 zl, .slice zA zm.length zca, .slice zB zv.length zcb] from rfl] at hG
  refine enterH Tryz.func10 rfl rfl Tryz.ntmps10 rfl (by assumption) ?_
  (repeat' (first | (show VH _ _ _ _ _ _ _; first | refine v_seq ?_ | refine r_seq ?_) | (show SH _ _ _ _ _ (_ :: _) _ _ _; first | (show SH _ _ _ _ _ (⟨_, .assign _, _, _, _, _⟩ :: _) _ _ _; refine asg evL ?_) | (show SH _ _ _ _ _ (⟨_, .load _ _, _, _, _, _⟩ :: _) _ _ _; refine lba rfl spL (by rfl) ?_) | (show SH _ _ _ _ _ (⟨_, .call ⟨.value (.func 30), _, _⟩, _, _, _, _⟩ :: _) _ _ _; refine cp (callee := .func 30) rfl (fun w hw => hT w (hΦ _ (hw.kn spL))) rfl rfl ?_) | refine ala rfl (fun b => ?_) | (show SH _ _ _ _ _ (⟨_, .box _ _, _, _, _, _⟩ :: _) _ _ _; refine bxx rfl evL rfl (fun b => ?_))) | refine s_nil ?_ | refine kh_normal ?_))
  rintro _ _ ⟨A2, c2, L2, hp2, rfl, rfl⟩
  rename_i b1 b2
  revert b
  intro b3
  (repeat' (first | (show VH _ _ _ _ _ _ _; first | refine v_seq ?_ | refine r_seq ?_) | (show SH _ _ _ _ _ (_ :: _) _ _ _; first | (show SH _ _ _ _ _ (⟨_, .load _ _, _, _, _, _⟩ :: _) _ _ _; refine lba rfl spL (by rfl) ?_) | (show SH _ _ _ _ _ (⟨_, .call ⟨.value (.func 13), _, _⟩, _, _, _, _⟩ :: _) _ _ _; refine cp (callee := .func 13) rfl (fun w hw => hO2 A2 L2 c2 w hp2 (Wd.kp hw spL)) rfl rfl ?_) | refine ala rfl (fun b => ?_) | (show SH _ _ _ _ _ (⟨_, .store _ _ _, _, _, _, _⟩ :: _) _ _ _; refine sta rfl rfl rfl spL (by rfl) (by rfl) (by rfl) kpL ?_)) | refine s_nil ?_ | refine kh_normal ?_))
  rintro _ _ ⟨A3, c3, L3, hp3, rfl, rfl⟩
  revert b
  intro b6
  (repeat' (first | (show VH _ _ _ _ _ _ _; first | refine v_seq ?_ | refine r_seq ?_) | (show SH _ _ _ _ _ (_ :: _) _ _ _; first | (show SH _ _ _ _ _ (⟨_, .move _, _, _, _, _⟩ :: _) _ _ _; refine mov evL ?_) | (show SH _ _ _ _ _ (⟨_, .assign _, _, _, _, _⟩ :: _) _ _ _; refine asg evL ?_) | (show SH _ _ _ _ _ (⟨_, .load _ _, _, _, _, _⟩ :: _) _ _ _; refine lba rfl spL (by rfl) ?_) | refine extr rfl rfl ?_ | refine ala rfl (fun b => ?_) | (show SH _ _ _ _ _ (⟨_, .store _ _ _, _, _, _, _⟩ :: _) _ _ _; refine sta rfl rfl rfl spL (by rfl) (by rfl) (by rfl) kpL ?_)) | refine s_nil ?_ | refine kh_normal ?_))
  revert b
  intro b7
  refine cm rfl (fun w hw => hR w0 (bx b7 24 [.int .i64 rt, .int .i64 rl, .slice A3 L3.length c3] :: orow 46 A3 c3 L3 :: allH (L3.map rowM) :: allH (L3.map rowI) :: bx b6 24 [.int .i64 t, .int .i64 la, .slice A2 L2.length c2] :: knp A2 L2 :: bx b1 30 [.int .i64 t, .int .i64 la, .slice A L.length c] :: bx b2 36 [.int .i64 kind, .int .i64 p, .int .i64 q] :: bx b3 30 [.int .i64 0, .int .i64 0, .slice none 0 0] :: H) w (Ent.wd enL hw)) rfl rfl ?_
  rintro _ _ ⟨A4, c4, L4, hp4, hc4, rfl, rfl⟩
  refine ⟨enL, ?_⟩
  obtain ⟨Ψ, hΨ⟩ : ∃ Ψ : World → Prop, (fun w => Φ w ∧ RdP w A4 L4) = Ψ := ⟨_, rfl⟩
  rw [hΨ]
  have hΨ2 : ∀ w, Ψ w → Φ w ∧ RdP w A4 L4 := fun w h => by rw [← hΨ] at h; exact h
  clear hΨ
  have hΨL : ∀ w, Ψ w → RdP w A L := fun w h => hΦ w (hΨ2 w h).1
  (repeat' (first | (show VH _ _ _ _ _ _ _; first | refine v_seq ?_ | refine r_seq ?_) | (show SH _ _ _ _ _ (_ :: _) _ _ _; first | (show SH _ _ _ _ _ (⟨_, .move _, _, _, _, _⟩ :: _) _ _ _; refine mov evL ?_) | (show SH _ _ _ _ _ (⟨_, .assign _, _, _, _, _⟩ :: _) _ _ _; refine asg evL ?_) | (show SH _ _ _ _ _ (⟨_, .load _ _, _, _, _, _⟩ :: _) _ _ _; first | refine lbx rfl spL (by rfl) ?_ | refine lba rfl spL (by rfl) ?_) | (show SH _ _ _ _ _ (⟨_, .call ⟨.value (.func 16), _, _⟩, _, _, _, _⟩ :: _) _ _ _; refine cp (callee := .func 16) rfl (fun w hw => hT2 A2 L2 c2 w hp2 (Wd.kp hw spL)) rfl rfl ?_) | refine extr rfl rfl ?_ | refine fad rfl ?_ | refine ala rfl (fun b => ?_) | (show SH _ _ _ _ _ (⟨_, .store _ _ _, _, _, _, _⟩ :: _) _ _ _; refine sta rfl rfl rfl spL (by rfl) (by rfl) (by rfl) kpL ?_)) | refine s_nil ?_ | refine kh_normal ?_))
  rintro _ _ ⟨⟨⟨yi, yl, ym, yv⟩, yA, yca, yB, ycb⟩, hy, rfl, rfl⟩
  rw [show Flat.enc (⟨⟨yi, yl, ym, yv⟩, yA, yca, yB, ycb⟩ : PtyP) = [.int .i64 yi, .int .i64 yl, .slice yA ym.length yca, .slice yB yv.length ycb] from rfl]
  unfold rowM rowI
  simp only at hy ⊢
  revert b
  intro b9
  (repeat' (first | (show VH _ _ _ _ _ _ _; first | refine v_seq ?_ | refine r_seq ?_) | (show SH _ _ _ _ _ (_ :: _) _ _ _; first | (show SH _ _ _ _ _ (⟨_, .move _, _, _, _, _⟩ :: _) _ _ _; refine mov evL ?_) | (show SH _ _ _ _ _ (⟨_, .assign _, _, _, _, _⟩ :: _) _ _ _; refine asg evL ?_) | (show SH _ _ _ _ _ (⟨_, .load _ _, _, _, _, _⟩ :: _) _ _ _; first | refine lbx rfl spL (by rfl) ?_ | refine lba rfl spL (by rfl) ?_) | (show SH _ _ _ _ _ (⟨_, .call ⟨.value (.func 32), _, _⟩, _, _, _, _⟩ :: _) _ _ _; refine cl (callee := .func 32) rfl (fun w hw => hG w (hΨL w (hw.kn spL))) rfl rfl ?_) | (show SH _ _ _ _ _ (⟨_, .call ⟨.value (.func 20), _, _⟩, _, _, _, _⟩ :: _) _ _ _; refine cp (callee := .func 20) rfl (fun w hw => hS2 A2 L2 c2 w hp2 (Wd.kp hw spL)) rfl rfl ?_) | refine extr rfl rfl ?_ | refine fad rfl ?_ | refine ala rfl (fun b => ?_) | (show SH _ _ _ _ _ (⟨_, .store _ _ _, _, _, _, _⟩ :: _) _ _ _; refine sta rfl rfl rfl spL (by rfl) (by rfl) (by rfl) kpL ?_)) | refine s_nil ?_ | refine kh_normal ?_))
  rintro _ _ ⟨A5, c5, rfl, rfl⟩
  rename_i b11
  revert b
  intro b13
  (repeat' (first | (show VH _ _ _ _ _ _ _; first | refine v_seq ?_ | refine r_seq ?_) | (show SH _ _ _ _ _ (_ :: _) _ _ _; first | (show SH _ _ _ _ _ (⟨_, .move _, _, _, _, _⟩ :: _) _ _ _; refine mov evL ?_) | (show SH _ _ _ _ _ (⟨_, .assign _, _, _, _, _⟩ :: _) _ _ _; refine asg evL ?_) | (show SH _ _ _ _ _ (⟨_, .load _ _, _, _, _, _⟩ :: _) _ _ _; first | refine lbx rfl spL (by rfl) ?_ | refine lba rfl spL (by rfl) ?_) | (show SH _ _ _ _ _ (⟨_, .call ⟨.value (.func 33), _, _⟩, _, _, _, _⟩ :: _) _ _ _; refine cp (callee := .func 33) rfl (fun w hw => hG2 w (hΨL w (hw.kn spL))) rfl rfl ?_) | refine extr rfl rfl ?_ | refine fad rfl ?_) | refine s_nil ?_ | refine kh_normal ?_))
  rintro _ _ ⟨A6, c6, rfl, rfl⟩
  (repeat' ((fail_if_success (show VH _ _ (.seq (.region 8 _ _) _) _ _ _ _)); first | refine v_seq ?_ | (show SH _ _ _ _ _ (_ :: _) _ _ _; first | (show SH _ _ _ _ _ (⟨_, .move _, _, _, _, _⟩ :: _) _ _ _; refine mov evL ?_) | (show SH _ _ _ _ _ (⟨_, .assign _, _, _, _, _⟩ :: _) _ _ _; refine asg evL ?_) | refine extr rfl rfl ?_) | refine s_nil ?_ | refine kh_normal ?_))
  injection hy with e1 e2 e3 e4
  subst e1 e2 e3 e4
  have hz2 := szP_of hp2 hz
  have hz3 := hszD L3 hp3
  have hl3 := hz3.len
  have hz4 := hszD L4 hp4
  have hT4 := fun w h => takenK_spec rt rl A4 L4 c4 w hz4 h
  have hTP := fun w a b => takenParty_spec (⟨⟨yi, yl, ym, yv⟩, zA, zca, zB, zcb⟩ : PtyP) w hzs.1 hzs.2 a b
  clear hR hG hG2 hT2 hO2 hS2 hszD
  refine VH.ent (G := orow 3 A6 c6 sl :: orow 3 A5 c5 sl :: bx b13 43 [.int .i64 yi, .int .i64 yl, .slice zA ym.length zca, .slice zB yv.length zcb] :: bx b11 46 [.int .i64 yi, .int .i64 yl, .slice yA ym.length yca, .slice yB yv.length ycb] :: orow 3 yA yca ym :: orow 61 yB ycb yv :: kno Ψ :: bx b9 30 [.int .i64 rt, .int .i64 rl, .slice A4 L4.length c4] :: bx b7 24 [.int .i64 rt, .int .i64 rl, .slice A3 L3.length c3] :: orow 46 A3 c3 L3 :: allH (L3.map rowM) :: allH (L3.map rowI) :: bx b6 24 [.int .i64 t, .int .i64 la, .slice A2 L2.length c2] :: knp A2 L2 :: bx b1 30 [.int .i64 t, .int .i64 la, .slice A L.length c] :: bx b3 30 [.int .i64 0, .int .i64 0, .slice none 0 0] :: H) ?_ enL
  refine v_norm [(2,_),(4,_),(6,_),(7,_),(8,_),(9,_),(10,_),(11,_),(12,_),(13,_),(14,_),(15,_),(16,_),(17,_),(18,_)] heL (fun g => ?_)
  refine v_seq ?_
  refine r_heldT [bx b11 46 [.int .i64 yi, .int .i64 yl, .slice yA ym.length yca, .slice yB yv.length ycb], bx b7 24 [.int .i64 rt, .int .i64 rl, .slice A3 L3.length c3], bx b6 24 [.int .i64 t, .int .i64 la, .slice A2 L2.length c2], bx b1 30 [.int .i64 t, .int .i64 la, .slice A L.length c]] (tr [(0, true), (1, false), (2, false), (3, false), (4, true), (5, false), (6, false), (7, false), (8, false), (9, false), (10, false), (11, true), (12, false), (13, false), (14, false), (15, false), (16, true), (17, false), (18, false), (19, false), (20, false), (21, false), (22, false), (23, true), (24, false), (25, false), (26, false), (27, false), (28, true), (29, false), (30, false), (31, false), (32, false), (33, false), (34, true), (36, true), (35, false), (37, false), (38, false), (39, false)] .nil) hmix (by kernel_rfl) enL ?_
  (repeat' ((show SH _ _ _ _ _ (_ :: _) _ _ _; first | (show SH _ _ _ _ _ (⟨_, _, _, _, _, some _⟩ :: _) _ _ _; (refine gif rfl rfl ?_; refine giFF tbL ?_)) | (show SH _ _ _ _ _ (⟨_, .move _, _, _, _, _⟩ :: _) _ _ _; refine mov evL ?_) | (show SH _ _ _ _ _ (⟨_, .binOp .neq _ _ _ _, _, _, _, _⟩ :: _) _ _ _; refine neqF rfl rfl omD ?_) | (show SH _ _ _ _ _ (⟨_, .load _ _, _, _, _, _⟩ :: _) _ _ _; refine lba rfl spL (by rfl) ?_) | (show SH _ _ _ _ _ (⟨_, .call ⟨.value (.func 30), _, _⟩, _, _, _, _⟩ :: _) _ _ _; refine cp (callee := .func 30) rfl (fun w hw => hT4 w (hΨ2 w (hw.kn spL)).2) rfl rfl ?_))))
  rintro _ _ ⟨A7, c7, L7, hp7, rfl, rfl⟩
  have hz7 := szP_of hp7 hz4
  have hSm := fun w a b => same36_spec rt rl rt rl A3 A7 L3 L7 c3 c7 w hz3 hz7 a b
  rw [hp3, hp7, hp4] at hSm
  simp only [decide_true] at hSm
  (repeat' (first | (show VH _ _ _ _ _ _ _; first | refine v_seq ?_ | refine r_seq ?_ | refine v_ret ?_ | refine v_cond_t rfl tbL ?_) | (show SH _ _ _ _ _ (_ :: _) _ _ _; first | (show SH _ _ _ _ _ (⟨_, _, _, _, _, some _⟩ :: _) _ _ _; (refine gif rfl rfl ?_; first | refine giFF tbL ?_ | refine giFT tbL ?_ | refine giF (fun h => ?_) (fun h => ?_))) | (show SH _ _ _ _ _ (⟨_, .move _, _, _, _, _⟩ :: _) _ _ _; refine mov evL ?_) | (show SH _ _ _ _ _ (⟨_, .assign _, _, _, _, _⟩ :: _) _ _ _; refine asg evL ?_) | refine neb rfl rfl ?_ | (show SH _ _ _ _ _ (⟨_, .load _ _, _, _, _, _⟩ :: _) _ _ _; refine lba rfl spL (by rfl) ?_) | (show SH _ _ _ _ _ (⟨_, .call ⟨.value (.func 34), _, _⟩, _, _, _, _⟩ :: _) _ _ _; refine cl (callee := .func 34) rfl (fun w hw => hSm w (rows_rd enL hw) (Wd.kp hw spL)) rfl rfl ?_) | (show SH _ _ _ _ _ (⟨_, .call ⟨.value (.func 36), _, _⟩, _, _, _, _⟩ :: _) _ _ _; refine cp (callee := .func 36) rfl (fun w hw => hTP w (hzr w (hΨL w (hw.kn spL))).1 (hzr w (hΨL w (hw.kn spL))).2) rfl rfl ?_) | refine bnoT rfl ?_ | (show SH _ _ _ _ _ (⟨_, .pick _ _ _, _, _, _, _⟩ :: _) _ _ _; first | refine pkt rfl tbL evL ?_ | refine pkf rfl tbL evL ?_) | (show SH _ _ _ _ _ (⟨_, .store _ _ _, _, _, _, _⟩ :: _) _ _ _; refine sta rfl rfl rfl spL (by rfl) (by rfl) (by rfl) kpL ?_)) | refine s_nil ?_ | refine kh_normal ?_ | refine kh_ret ?_))
  rotate_left
  · exact absurd h (by cases zb <;> decide)
  rintro _ _ ⟨⟨⟨ui, ul, um, uv⟩, uA, uca, uB, ucb⟩, hu, rfl, rfl⟩
  simp only at hu
  injection hu with e1 e2 e3 e4
  subst e1 e2 e3 e4
  rw [show Flat.enc (⟨⟨ui, ul, um, uv⟩, uA, uca, uB, ucb⟩ : PtyP) = [.int .i64 ui, .int .i64 ul, .slice uA um.length uca, .slice uB uv.length ucb] from rfl]
  unfold rowM rowI
  simp only
  have hSp := fun w a b c d => sameParty_spec (⟨⟨ui, ul, um, uv⟩, yA, yca, yB, ycb⟩ : PtyP) (⟨⟨ui, ul, um, uv⟩, uA, uca, uB, ucb⟩ : PtyP) w (by simp only; omega) (by simp only; omega) (by simp only; omega) (by simp only; omega) a b c d
  simp only [decide_true] at hSp
  rw [show Flat.enc (⟨⟨ui, ul, um, uv⟩, yA, yca, yB, ycb⟩ : PtyP) = [.int .i64 ui, .int .i64 ul, .slice yA um.length yca, .slice yB uv.length ycb] from rfl, show Flat.enc (⟨⟨ui, ul, um, uv⟩, uA, uca, uB, ucb⟩ : PtyP) = [.int .i64 ui, .int .i64 ul, .slice uA um.length uca, .slice uB uv.length ucb] from rfl] at hSp
  have hSi := fun w a b => sameInts_spec A5 A6 sl sl c5 c6 w (by omega) (by omega) a b
  simp only [decide_true] at hSi
  clear hSm
  (repeat' (first | (show VH _ _ _ _ _ _ _; first | refine v_seq ?_ | refine r_seq ?_ | refine v_ret ?_ | refine v_skip ?_ | refine v_cond_ndec rfl (fun h => ?_) (fun h => ?_)) | (show SH _ _ _ _ _ (_ :: _) _ _ _; first | (show SH _ _ _ _ _ (⟨_, _, _, _, _, some _⟩ :: _) _ _ _; (refine gif rfl rfl ?_; refine giFF tbL ?_)) | (show SH _ _ _ _ _ (⟨_, .move _, _, _, _, _⟩ :: _) _ _ _; refine mov evL ?_) | (show SH _ _ _ _ _ (⟨_, .assign _, _, _, _, _⟩ :: _) _ _ _; refine asg evL ?_) | (show SH _ _ _ _ _ (⟨_, .binOp .neq _ _ _ _, _, _, _, _⟩ :: _) _ _ _; first | refine neqF rfl rfl omD ?_ | refine neb rfl rfl ?_) | (show SH _ _ _ _ _ (⟨_, .load _ _, _, _, _, _⟩ :: _) _ _ _; refine lba rfl spL (by rfl) ?_) | (show SH _ _ _ _ _ (⟨_, .call ⟨.value (.func 35), _, _⟩, _, _, _, _⟩ :: _) _ _ _; refine cl (callee := .func 35) rfl (fun w hw => hSp w (Wd.rd hw spL) (Wd.rd hw spL) (Wd.rd hw spL) (Wd.rd hw spL)) rfl rfl ?_) | (show SH _ _ _ _ _ (⟨_, .call ⟨.value (.func 21), _, _⟩, _, _, _, _⟩ :: _) _ _ _; refine cl (callee := .func 21) rfl (fun w hw => hSi w (Wd.rd hw spL) (Wd.rd hw spL)) rfl rfl ?_) | (show SH _ _ _ _ _ (⟨_, .call ⟨.value (.func 8), _, _⟩, _, _, _, _⟩ :: _) _ _ _; refine cl (callee := .func 8) rfl (fun w hw => hV1 A2 L2 c2 w hp2 (Wd.kp hw spL)) rfl rfl ?_) | (show SH _ _ _ _ _ (⟨_, .call ⟨.value (.func 9), _, _⟩, _, _, _, _⟩ :: _) _ _ _; refine cl (callee := .func 9) rfl (fun w hw => hV2 w (hΨL w (hw.kn spL))) rfl rfl ?_) | refine bnoT rfl ?_ | (show SH _ _ _ _ _ (⟨_, .pick _ _ _, _, _, _, _⟩ :: _) _ _ _; refine pkf rfl tbL evL ?_) | (show SH _ _ _ _ _ (⟨_, .store _ _ _, _, _, _, _⟩ :: _) _ _ _; refine sta rfl rfl rfl spL (by rfl) (by rfl) (by rfl) kpL ?_)) | refine s_nil ?_ | refine kh_normal ?_ | refine kh_ret ?_))
  · exact absurd h (by cases vb <;> decide)
  refine cm rfl (fun w hw => over_spec b11 0 46 [.int .i64 ui, .int .i64 ul, .slice yA um.length yca, .slice yB uv.length ycb] yA um yca yB uv ycb w0 (kno Ψ :: bx b9 30 [.int .i64 rt, .int .i64 rl, .slice A4 L4.length c4] :: bx b7 24 [.int .i64 rt, .int .i64 rl, .slice A3 L3.length c3] :: orow 46 A3 c3 L3 :: allH (L3.map rowM) :: allH (L3.map rowI) :: bx b6 24 [.int .i64 t, .int .i64 la, .slice A2 L2.length c2] :: knp A2 L2 :: bx b1 30 [.int .i64 t, .int .i64 la, .slice A L.length c] :: bx b3 30 [.int .i64 0, .int .i64 0, .slice none 0 0] :: H) w (by show 0 + 3 < 4; omega) rfl rfl hzs.1 hzs.2 (Ent.wd enL hw)) rfl rfl ?_
  rintro _ _ rfl
  refine ⟨enL, ?_⟩
  (repeat' (first | (show VH _ _ _ _ _ _ _; first | refine v_seq ?_ | refine r_seq ?_) | (show SH _ _ _ _ _ (_ :: _) _ _ _; (show SH _ _ _ _ _ (⟨_, .assign _, _, _, _, _⟩ :: _) _ _ _; refine asg evL ?_)) | refine s_nil ?_ | refine kh_normal ?_))
  refine v_cut [(19, 19), (108, 119)] (fun _ : Unit => []) (fun _ => kno Ψ :: bx b9 30 [.int .i64 rt, .int .i64 rl, .slice A4 L4.length c4] :: bx b6 24 [.int .i64 t, .int .i64 la, .slice A2 L2.length c2] :: knp A2 L2 :: bx b1 30 [.int .i64 t, .int .i64 la, .slice A L.length c] :: bx b3 30 [.int .i64 0, .int .i64 0, .slice none 0 0] :: H) (fun _ => True) ?_ ?_ ent_vh
  · (repeat' (refine v_block ?_))
    clear hSp hSi hTP hT4 hV1 hV2 hzr
    refine VH.ent (G := orow 46 A3 c3 L3 :: allH (L3.map rowM) :: allH (L3.map rowI) :: bx b7 24 [.int .i64 rt, .int .i64 rl, .slice A3 L3.length c3] :: kno Ψ :: bx b9 30 [.int .i64 rt, .int .i64 rl, .slice A4 L4.length c4] :: bx b6 24 [.int .i64 t, .int .i64 la, .slice A2 L2.length c2] :: knp A2 L2 :: bx b1 30 [.int .i64 t, .int .i64 la, .slice A L.length c] :: bx b3 30 [.int .i64 0, .int .i64 0, .slice none 0 0] :: H) ?_ enL
    refine v_row Split.head (fun hl0 => ?_) (fun g0 cs hA hcl hlc hcs => ?_)
    · refine v_loop [(19,19),(108,119)] (fun s : Nat => [(19, .int .i64 s)]) (fun s => bx b7 24 [.int .i64 rt, .int .i64 rl, .slice A3 L3.length c3] :: kno Ψ :: bx b9 30 [.int .i64 rt, .int .i64 rl, .slice A4 L4.length c4] :: bx b6 24 [.int .i64 t, .int .i64 la, .slice A2 L2.length c2] :: knp A2 L2 :: bx b1 30 [.int .i64 t, .int .i64 la, .slice A L.length c] :: bx b3 30 [.int .i64 0, .int .i64 0, .slice none 0 0] :: H) (fun s => s = 0) (fun s => 0) 0 hsL enL rfl ?_
      rintro k g2 rfl
      simp only [sets]
      (repeat' (first | (show VH _ _ _ _ _ _ _; first | refine v_seq ?_ | refine r_seq ?_ | refine v_exit ?_ | refine v_cond_f rfl tbL ?_) | (show SH _ _ _ _ _ (_ :: _) _ _ _; first | (show SH _ _ _ _ _ (⟨_, .move _, _, _, _, _⟩ :: _) _ _ _; refine mov evL ?_) | (show SH _ _ _ _ _ (⟨_, .binOp .lss _ _ _ _, _, _, _, _⟩ :: _) _ _ _; refine lssF rfl rfl omD ?_) | (show SH _ _ _ _ _ (⟨_, .load _ _, _, _, _, _⟩ :: _) _ _ _; refine lbx rfl spL (by rfl) ?_) | refine slen rfl ?_ | refine fad rfl ?_) | refine s_nil ?_ | refine kh_normal ?_ | refine kh_exit ?_ | refine bh_exit ?_))
      exact ⟨agL, (), trivial, enL, trivial⟩
    · subst hA
      rw [show Flat.sz PtyP = 4 from rfl] at hcl hcs
      have hce := row_cells hcs
      refine v_loop [(19,19),(108,119)] (fun s : Nat × List Value => [(19, .int .i64 s.1)]) (fun s => bx g0 46 s.2 :: allH ((L3.drop s.1).map rowM) :: allH ((L3.drop s.1).map rowI) :: bx b7 24 [.int .i64 rt, .int .i64 rl, .slice (some ⟨g0, 0, none⟩) L3.length c3] :: kno Ψ :: bx b9 30 [.int .i64 rt, .int .i64 rl, .slice A4 L4.length c4] :: bx b6 24 [.int .i64 t, .int .i64 la, .slice A2 L2.length c2] :: knp A2 L2 :: bx b1 30 [.int .i64 t, .int .i64 la, .slice A L.length c] :: bx b3 30 [.int .i64 0, .int .i64 0, .slice none 0 0] :: H) (fun s => s.1 ≤ L3.length ∧ s.2.length = cs.length ∧ ∀ j, s.1 ≤ j → j < L3.length → ∀ r, r < 4 → s.2[j * 4 + r]? = (Flat.enc (L3.getD j Flat.dflt))[r]?) (fun s => L3.length - s.1) (0, cs) hsL (ent_refl _) ⟨Nat.zero_le _, rfl, fun j _ => hce j⟩ ?_
      rintro ⟨i, l2⟩ g2 ⟨hi, hl2, hc2⟩
      simp only at hi hl2 hc2
      simp only [sets]
      by_cases hil : i < L3.length
      · have hx2 := hc2 i (Nat.le_refl _) hil 2 (by omega)
        have hx3 := hc2 i (Nat.le_refl _) hil 3 (by omega)
        have hxm := hz3.atm hil
        have hxv := hz3.ati hil
        rw [drop_cons (d := (Flat.dflt : PtyP)) hil]
        generalize L3.getD i Flat.dflt = x at hx2 hx3 hxm hxv ⊢
        rw [List.map_cons, List.map_cons]
        refine VH.ent ?_ ent_two
        obtain ⟨⟨xi, xl, xm, xv⟩, xA, xca, xB, xcb⟩ := x
        rw [show rowM ⟨⟨xi, xl, xm, xv⟩, xA, xca, xB, xcb⟩ = orow 3 xA xca xm from rfl, show rowI ⟨⟨xi, xl, xm, xv⟩, xA, xca, xB, xcb⟩ = orow 61 xB xcb xv from rfl]
        (repeat' (first | (show VH _ _ _ _ _ _ _; first | refine v_seq ?_ | refine r_seq ?_ | refine v_block ?_ | refine v_skip ?_ | refine v_cond_t rfl tbL ?_) | (show SH _ _ _ _ _ (_ :: _) _ _ _; first | (show SH _ _ _ _ _ (⟨_, .move _, _, _, _, _⟩ :: _) _ _ _; refine mov evL ?_) | (show SH _ _ _ _ _ (⟨_, .binOp .lss _ _ _ _, _, _, _, _⟩ :: _) _ _ _; refine lssT rfl rfl omD ?_) | (show SH _ _ _ _ _ (⟨_, .load _ _, _, _, _, _⟩ :: _) _ _ _; refine lbx rfl spL (by rfl) ?_) | refine slen rfl ?_ | refine fad rfl ?_) | refine s_nil ?_ | refine kh_normal ?_))
        refine ixj (i := i) rfl rfl rfl (by omega) ?_
        (repeat' (first | (show VH _ _ _ _ _ _ _; first | refine v_seq ?_ | refine r_seq ?_ | refine r_quiet hmix (by kernel_rfl) ?_ | refine v_block ?_ | refine v_ret ?_ | refine v_skip ?_ | refine v_exit ?_ | refine v_label ?_ | refine v_cond_t rfl tbL ?_ | refine v_cond_f rfl tbL ?_ | refine v_cond_dec rfl (fun h => ?_) (fun h => ?_) | refine v_cond_ndec rfl (fun h => ?_) (fun h => ?_) | refine v_cond rfl (fun h => ?_) (fun h => ?_)) | (show SH _ _ _ _ _ (_ :: _) _ _ _; first | (show SH _ _ _ _ _ (⟨_, _, _, _, _, some _⟩ :: _) _ _ _; first | (refine gif rfl rfl ?_; first | refine giTT tbL ?_ | refine giTF tbL ?_ | refine giFF tbL ?_ | refine giFT tbL ?_ | refine giTd (fun h => ?_) (fun h => ?_) | refine giFd (fun h => ?_) (fun h => ?_) | refine giT (fun h => ?_) (fun h => ?_) | refine giF (fun h => ?_) (fun h => ?_)) | refine gu rfl rfl ?_ | refine grT rfl rfl tbL ?_ | refine grF rfl rfl tbL ?_) | (show SH _ _ _ _ _ (⟨_, .move _, _, _, _, _⟩ :: _) _ _ _; refine mov evL ?_) | (show SH _ _ _ _ _ (⟨_, .assign _, _, _, _, _⟩ :: _) _ _ _; refine asg evL ?_) | (show SH _ _ _ _ _ (⟨_, .binOp .lss _ _ _ _, _, _, _, _⟩ :: _) _ _ _; first | refine lssT rfl rfl omD ?_ | refine lssF rfl rfl omD ?_ | refine lss rfl rfl ?_) | (show SH _ _ _ _ _ (⟨_, .binOp .neq _ _ _ _, _, _, _, _⟩ :: _) _ _ _; first | refine neqT rfl rfl omD ?_ | refine neqF rfl rfl omD ?_ | refine neq rfl rfl ?_ | refine nen rfl rfl ?_ | refine neb rfl rfl ?_) | (show SH _ _ _ _ _ (⟨_, .binOp .add _ _ _ _, _, _, _, _⟩ :: _) _ _ _; refine add rfl rfl inL ?_) | (show SH _ _ _ _ _ (⟨_, .load _ _, _, _, _, _⟩ :: _) _ _ _; first | refine lbx rfl spL (by rfl) ?_ | refine lba rfl spL (by rfl) ?_ | refine lbs rfl spL (by rfl) (by rfl) ?_ | refine lgi rfl (fun _ _ => rdK) omL (by assumption) ?_ | refine lag rfl (fun _ _ => rdK) (by rfl) omL (by assumption) ?_ | refine lrg rfl (fun _ _ => rdK) (by rfl) omL (by assumption) (by rfl) ?_ | refine lin rfl (fun _ _ => rdK) omL ?_ | refine lbi rfl spL omL ?_ | refine lr1 rfl (fun _ _ => rdK) (by rfl) omL (by rfl) ?_ | refine lra rfl (fun _ _ => rdK) (by rfl) omL ?_ | refine lrf rfl (fun _ _ => rdK) (by rfl) omL (by rfl) ?_ | refine lcell rfl (fun w hw => hw.ext.cell (by assumption)) ?_ | refine lrs rfl (fun _ _ => rdK) (by rfl) omL (by rfl) (by rfl) ?_ | refine lca rfl (fun _ _ => rdK) (by rfl) ?_ | refine lcs rfl (fun _ _ => rdK) (by rfl) ?_ | refine lcf rfl (fun _ _ => rdK) (by rfl) ?_ | refine lrf rfl (fun _ _ => rdK) (by rfl) (by simp only [List.length_cons, List.length_nil]; omega) (by rfl) ?_ | refine lra rfl (fun _ _ => rdK) (by rfl) (by simp only [List.length_cons, List.length_nil]; omega) ?_) | (show SH _ _ _ _ _ (⟨_, .indexAddr _ _ _, _, _, _, _⟩ :: _) _ _ _; first | refine ix rfl rfl (by with_reducible rfl) (fun _ _ => rdK) (by rfl) omL omL ?_ | refine ixi rfl rfl (fun _ _ => rdK) (by rfl) omL omL omL ?_ | refine ixb rfl rfl omL ?_ | refine ixq rfl rfl (by assumption) omL omL ?_ | refine ixA _ rfl rfl rfl omL ?_ | refine ixi rfl rfl (fun _ _ => rdK) (by rfl) omL (by first | omega | (simp only [List.length_cons, List.length_nil]; omega)) (by simp only [List.length_cons, List.length_nil]; omega) ?_) | (show SH _ _ _ _ _ (⟨_, .call ⟨.builtin _, _, _⟩, _, _, _, _⟩ :: _) _ _ _; first | refine slen rfl ?_ | refine lnm rfl spL ?_) | (show SH _ _ _ _ _ (⟨_, .unOp .not _ _, _, _, _, _⟩ :: _) _ _ _; first | refine bnoT rfl ?_ | refine bnoF rfl ?_ | refine bnot rfl ?_) | (show SH _ _ _ _ _ (⟨_, .pick _ _ _, _, _, _, _⟩ :: _) _ _ _; first | refine pkt rfl tbL evL ?_ | refine pkf rfl tbL evL ?_) | refine extr rfl rfl ?_ | refine fad rfl ?_ | (show SH _ _ _ _ _ (⟨_, .alloc _, _, _, _, _⟩ :: _) _ _ _; first | refine al1 rfl (fun b => ?_) | refine ala rfl (fun b => ?_)) | (show SH _ _ _ _ _ (⟨_, .box _ _, _, _, _, _⟩ :: _) _ _ _; refine bxx rfl evL rfl (fun b => ?_)) | (show SH _ _ _ _ _ (⟨_, .store _ _ _, _, _, _, _⟩ :: _) _ _ _; first | refine stb rfl rfl evL spL rfl rfl (by first | decide | exact Nat.zero_lt_succ _ | exact of_decide_eq_true rfl) kpL ?_ | refine sta rfl rfl rfl spL (by rfl) (by rfl) (by rfl) kpL ?_ | refine sti rfl rfl rfl spL omL kpL ?_ | refine sbi rfl rfl rfl spL omL kpL ?_ | refine sbs rfl rfl evL spL (by rfl) (by rfl) (of_decide_eq_true rfl) kpL ?_)) | refine s_nil ?_ | refine s_fork ?_ ?_ | refine s_fork3 ?_ ?_ ?_ | refine s_fork4 ?_ ?_ ?_ ?_ | refine kh_normal ?_ | refine kh_ret ?_ | refine kh_exit ?_ | refine bh_normal ?_ | refine bh_ret ?_ | refine bh_exit ?_ | refine bh_exit_ne rfl ?_))
        refine cm rfl (fun w hw => over_spec g0 (0 + i * 4) 46 l2 xA xm xca xB xv xcb w0 (allH ((L3.drop (i + 1)).map rowM) :: allH ((L3.drop (i + 1)).map rowI) :: bx b7 24 [.int .i64 rt, .int .i64 rl, .slice (some ⟨g0, 0, none⟩) L3.length c3] :: kno Ψ :: bx b9 30 [.int .i64 rt, .int .i64 rl, .slice A4 L4.length c4] :: bx b6 24 [.int .i64 t, .int .i64 la, .slice A2 L2.length c2] :: knp A2 L2 :: bx b1 30 [.int .i64 t, .int .i64 la, .slice A L.length c] :: bx b3 30 [.int .i64 0, .int .i64 0, .slice none 0 0] :: H) w (by omega) (by rw [Nat.zero_add]; exact hx2) (by rw [Nat.zero_add]; exact hx3) hxm hxv (Ent.wd enL hw)) rfl rfl ?_
        rintro _ _ rfl
        refine ⟨enL, ?_⟩
        (repeat' (first | refine r_seq ?_ | (show SH _ _ _ _ _ (_ :: _) _ _ _; first | (show SH _ _ _ _ _ (⟨_, .move _, _, _, _, _⟩ :: _) _ _ _; refine mov evL ?_) | (show SH _ _ _ _ _ (⟨_, .assign _, _, _, _, _⟩ :: _) _ _ _; refine asg evL ?_) | (show SH _ _ _ _ _ (⟨_, .binOp .add _ _ _ _, _, _, _, _⟩ :: _) _ _ _; refine add rfl rfl inL ?_)) | refine s_nil ?_ | refine kh_normal ?_ | refine bh_normal ?_))
        exact ⟨agL, (i + 1, l2.set (0 + i * 4) (.int .i64 (-1))), hsL, enL, ⟨hil, by rw [List.length_set]; exact hl2, fun j h1 h2 r hr => by rw [List.getElem?_set_ne (by omega)]; exact hc2 j (by omega) h2 r hr⟩, by show _ - (i + 1) < _ - i; omega⟩
      · (repeat' (first | (show VH _ _ _ _ _ _ _; first | refine v_seq ?_ | refine r_seq ?_ | refine v_exit ?_ | refine v_cond_f rfl tbL ?_) | (show SH _ _ _ _ _ (_ :: _) _ _ _; first | (show SH _ _ _ _ _ (⟨_, .move _, _, _, _, _⟩ :: _) _ _ _; refine mov evL ?_) | (show SH _ _ _ _ _ (⟨_, .binOp .lss _ _ _ _, _, _, _, _⟩ :: _) _ _ _; refine lssF rfl rfl omD ?_) | (show SH _ _ _ _ _ (⟨_, .load _ _, _, _, _, _⟩ :: _) _ _ _; refine lbx rfl spL (by rfl) ?_) | refine slen rfl ?_ | refine fad rfl ?_) | refine s_nil ?_ | refine kh_normal ?_ | refine kh_exit ?_ | refine bh_exit ?_))
        exact ⟨agL, (), trivial, enL, trivial⟩
  rintro ⟨⟩ g1 - _ rfl
  simp only [sets]
  have hTL := fun w h => takenK_spec t la A L c w hz h
  clear hSp hSi hTP hT4 hV1 hV2 hzr hT
  by_cases he : re = 0
  · rw [if_pos he]
    (repeat' ((fail_if_success (show VH _ _ (.seq (.region 17 _ _) _) _ _ _ _)); first | (show VH _ _ _ _ _ _ _; first | refine v_seq ?_ | refine r_seq ?_ | refine v_skip ?_ | refine v_cond_f rfl tbL ?_) | (show SH _ _ _ _ _ (_ :: _) _ _ _; first | (show SH _ _ _ _ _ (⟨_, .move _, _, _, _, _⟩ :: _) _ _ _; refine mov evL ?_) | (show SH _ _ _ _ _ (⟨_, .binOp .neq _ _ _ _, _, _, _, _⟩ :: _) _ _ _; refine neqF rfl rfl omD ?_)) | refine s_nil ?_ | refine kh_normal ?_))
    refine v_seq ?_
    refine r_heldT [bx b9 30 [.int .i64 rt, .int .i64 rl, .slice A4 L4.length c4], bx b6 24 [.int .i64 t, .int .i64 la, .slice A2 L2.length c2]] (tr [(0, true), (1, true), (2, false), (3, false), (4, false), (5, false), (6, false)] .nil) hmix (by kernel_rfl) enL ?_
    (repeat' ((show SH _ _ _ _ _ (_ :: _) _ _ _; first | (show SH _ _ _ _ _ (⟨_, .load _ _, _, _, _, _⟩ :: _) _ _ _; refine lba rfl spL (by rfl) ?_) | (show SH _ _ _ _ _ (⟨_, .call ⟨.value (.func 30), _, _⟩, _, _, _, _⟩ :: _) _ _ _; refine cp (callee := .func 30) rfl (fun w hw => hTL w (hΨL w (hw.kn spL))) rfl rfl ?_))))
    rintro _ _ ⟨A8, c8, L8, hp8, rfl, rfl⟩
    have hSm := fun w a b => same36_spec t la t la A2 A8 L2 L8 c2 c8 w hz2 (szP_of hp8 hz) a b
    rw [hp2, hp8] at hSm
    simp only [decide_true] at hSm
    (repeat' (first | refine v_ret ?_ | (show SH _ _ _ _ _ (_ :: _) _ _ _; first | (show SH _ _ _ _ _ (⟨_, .assign _, _, _, _, _⟩ :: _) _ _ _; refine asg evL ?_) | (show SH _ _ _ _ _ (⟨_, .call ⟨.value (.func 34), _, _⟩, _, _, _, _⟩ :: _) _ _ _; refine cl (callee := .func 34) rfl (fun w hw => hSm w (Wd.kp hw spL) (Wd.kp hw spL)) rfl rfl ?_) | (show SH _ _ _ _ _ (⟨_, .store _ _ _, _, _, _, _⟩ :: _) _ _ _; refine sta rfl rfl rfl spL (by rfl) (by rfl) (by rfl) kpL ?_)) | refine s_nil ?_ | refine kh_normal ?_))
    exact rhC2 rfl rfl rfl rfl (fun w hw => loadVar_bx hw spL (by rfl)) ⟨A4, c4, L4, hp4, hc4, rfl, rfl⟩ (Ent.trans (B := kno Ψ :: H) enL (ent_ref_fwd hΨ2))
  · rw [if_neg he]
    (repeat' ((fail_if_success (show VH _ _ (.seq (.region 17 _ _) _) _ _ _ _)); first | (show VH _ _ _ _ _ _ _; first | refine v_seq ?_ | refine r_seq ?_ | refine v_cond_t rfl tbL ?_) | (show SH _ _ _ _ _ (_ :: _) _ _ _; first | (show SH _ _ _ _ _ (⟨_, .move _, _, _, _, _⟩ :: _) _ _ _; refine mov evL ?_) | (show SH _ _ _ _ _ (⟨_, .binOp .neq _ _ _ _, _, _, _, _⟩ :: _) _ _ _; refine neqT rfl rfl omD ?_) | (show SH _ _ _ _ _ (⟨_, .load _ _, _, _, _, _⟩ :: _) _ _ _; refine lba rfl spL (by rfl) ?_) | (show SH _ _ _ _ _ (⟨_, .store _ _ _, _, _, _, _⟩ :: _) _ _ _; refine sta rfl rfl rfl spL (by rfl) (by rfl) (by rfl) kpL ?_)) | refine s_nil ?_ | refine kh_normal ?_))
    refine v_seq ?_
    refine r_heldT [bx b9 30 [.int .i64 t, .int .i64 la, .slice A L.length c], bx b6 24 [.int .i64 t, .int .i64 la, .slice A2 L2.length c2]] (tr [(0, true), (1, true), (2, false), (3, false), (4, false), (5, false), (6, false)] .nil) hmix (by kernel_rfl) enL ?_
    (repeat' ((show SH _ _ _ _ _ (_ :: _) _ _ _; first | (show SH _ _ _ _ _ (⟨_, .load _ _, _, _, _, _⟩ :: _) _ _ _; refine lba rfl spL (by rfl) ?_) | (show SH _ _ _ _ _ (⟨_, .call ⟨.value (.func 30), _, _⟩, _, _, _, _⟩ :: _) _ _ _; refine cp (callee := .func 30) rfl (fun w hw => hTL w (hΨL w (hw.kn spL))) rfl rfl ?_))))
    rintro _ _ ⟨A8, c8, L8, hp8, rfl, rfl⟩
    have hSm := fun w a b => same36_spec t la t la A2 A8 L2 L8 c2 c8 w hz2 (szP_of hp8 hz) a b
    rw [hp2, hp8] at hSm
    simp only [decide_true] at hSm
    (repeat' (first | refine v_ret ?_ | (show SH _ _ _ _ _ (_ :: _) _ _ _; first | (show SH _ _ _ _ _ (⟨_, .assign _, _, _, _, _⟩ :: _) _ _ _; refine asg evL ?_) | (show SH _ _ _ _ _ (⟨_, .call ⟨.value (.func 34), _, _⟩, _, _, _, _⟩ :: _) _ _ _; refine cl (callee := .func 34) rfl (fun w hw => hSm w (Wd.kp hw spL) (Wd.kp hw spL)) rfl rfl ?_) | (show SH _ _ _ _ _ (⟨_, .store _ _ _, _, _, _, _⟩ :: _) _ _ _; refine sta rfl rfl rfl spL (by rfl) (by rfl) (by rfl) kpL ?_)) | refine s_nil ?_ | refine kh_normal ?_))
    exact rhC2 rfl rfl rfl rfl (fun w hw => loadVar_bx hw spL (by rfl)) ⟨A, c, L, rfl, hc, rfl, rfl⟩ (Ent.trans (B := kno Ψ :: H) enL (ent_ref_fwd fun w h => ⟨(hΨ2 w h).1, hΨL w h⟩))
end Go.Proofs.YtlfbcoohfnoacaaGreat
