/- The reference of layer 36: Create, lead. -/
import Derived.Test.YtlfbcoohfnoacaaGreatYTwp
import Derived.Test.YtlfbcoohfnoacaaGreatYMp
import Derived.Test.YtlfbcoohfnoacaaGreatYWz
import Derived.Test.YtlfbcoohfnoacaaGreatYPc
set_option linter.unusedSimpArgs false
set_option linter.unusedVariables false
namespace Go.Proofs.YtlfbcoohfnoacaaGreat
open Go.Fw Go.RowKit
section
variable {H R G : List HP}
theorem ent_bxp {b off : Nat} {t : TypeId} {cs : List Value} {v : Value} (h : Split H (bx b t cs) R) (hg : Ent R G) (hv : cs[off]? = some v) : Ent H (cellp ⟨b, off, none⟩ v :: G) :=
  (ent_cons h hg).trans (ent_imp fun p hp w lo hi => by
    have hx : p = _ := hp
    subst hx
    exact cellB (hi b _ (pone_at _ _)).2 (by simpa using hv))
theorem s_cap {α : Type} [Flat α] {md : Md} {P : Program} {n : Nat} {Q : HQ} {f : Fr} {w0 : World} {ops : Array Oper} {rest : List Oper} {e : TypeId} {A : Option Addr} {cp : Nat} {l : List α} (hs : Split H (orow e A cp l) R) (k : l.length ≤ cp → SH md P n ops Q rest f w0 H) : SH md P n ops Q rest f w0 H := ⟨by
  have hc : ∀ w, Wd w0 H w → l.length ≤ cp := fun w hw => (own_cap (hw.own hs)).1
  cases md with
  | seq => exact fun hd w hw => (k (hc w hw)).out hd w hw
  | quiet => exact fun w hw => (k (hc w hw)).out w hw
  | held HS t L => exact fun h1 h2 h3 w hw => (k (hc w hw)).out h1 h2 h3 w hw
  | pick HS i t L => exact fun h1 h2 h3 h4 w hw => (k (hc w hw)).out h1 h2 h3 h4 w hw
  | grd HS i b t L => exact fun h1 h2 od op ty pos aft rest g e1 e2 e3 e4 w hw => (k (hc w hw)).out h1 h2 od op ty pos aft rest g e1 e2 e3 e4 w hw⟩
end
/-- The place of the party that a player leads, and an error. -/
def leadQ (h : Hal) (by' : Int) : Nat × Int :=
  if validHal h then
    match findM by' h.ps with
    | none => (0, 6)
    | some k => if (h.ps.getD k pty0).leader = by' then (k, 0) else (0, 362)
  else (0, 2)
theorem leadM_q (h : Hal) (by' : Int) (f : Nat → ResP) : leadM h by' f = if (leadQ h by').2 = 0 then f (leadQ h by').1 else (hal0, (leadQ h by').2) := by
  unfold leadM leadQ
  split
  · cases findM by' h.ps with
    | none => rfl
    | some k =>
      simp only
      split <;> rfl
  · rfl
theorem leadQ_ok {h : Hal} {by' : Int} (hq : (leadQ h by').2 = 0) : validHal h = true ∧ findM by' h.ps = some (leadQ h by').1 ∧ (leadQ h by').1 < h.ps.length := by
  unfold leadQ at hq ⊢
  split at hq
  · rename_i hv
    rw [if_pos hv]
    cases hf : findM by' h.ps with
    | none => rw [hf] at hq; exact absurd (show (6 : Int) = 0 from hq) (by decide)
    | some k =>
      rw [hf] at hq
      simp only at hq ⊢
      split at hq
      · rename_i he
        rw [if_pos he]
        exact ⟨hv, rfl, findM_lt hf⟩
      · exact absurd hq (by decide)
  · exact absurd hq (by decide)
set_option maxHeartbeats 1000000 in
set_option maxRecDepth 100000 in
theorem refLead_spec (t la : Int) (A : Option Addr) (L : List PtyP) (c : Nat) (who : Int) (w : World) (hz : SzP L) (hr : RdP w A L) :
    Ret Tryz.prog 100 [hv36 t la A L c, .int .i64 who].toArray w (Out w (.tuple #[.int .i64 ((leadQ ⟨t, la, ptys L⟩ who).1 : Nat), .int .i64 (leadQ ⟨t, la, ptys L⟩ who).2])) := by
  have hV := fun w' h => refValid_spec t la A L c w' hz h
  have hF := fun w' h => refFind_spec t la A L c who w' hz h
  have hrA := hr.1
  have hll := hz.len
  unfold leadQ
  unfold findI36 at hF
  cases hv : validHal ⟨t, la, ptys L⟩ with
  | false =>
    simp only [hv] at hV
    rw [if_neg (by decide)]
    refine enterH Tryz.func100 rfl rfl Tryz.ntmps100 rfl (Wd.refl _) ?_
    (repeat' (first | (show VH _ _ _ _ _ _ _; first | refine v_seq ?_ | refine r_seq ?_ | refine v_ret ?_ | refine v_cond_t rfl tbL ?_) | (show SH _ _ _ _ _ (_ :: _) _ _ _; first | (show SH _ _ _ _ _ (⟨_, .assign _, _, _, _, _⟩ :: _) _ _ _; refine asg evL ?_) | (show SH _ _ _ _ _ (⟨_, .load _ _, _, _, _, _⟩ :: _) _ _ _; refine lba rfl spL (by rfl) ?_) | (show SH _ _ _ _ _ (⟨_, .call ⟨.value (.func 9), _, _⟩, _, _, _, _⟩ :: _) _ _ _; refine cl (callee := .func 9) rfl (fun w hw => hV w (hr.ext hw.ext)) rfl rfl ?_) | refine bnoF rfl ?_ | (show SH _ _ _ _ _ (⟨_, .box _ _, _, _, _, _⟩ :: _) _ _ _; refine bxx rfl evL rfl (fun b => ?_))) | refine s_nil ?_ | refine kh_normal ?_ | refine kh_ret ?_))
    exact rh2 rfl rfl rfl ⟨rfl, rfl⟩ (ent_nil _)
  | true =>
    simp only [hv] at hV
    rw [if_pos rfl]
    cases hf : findM who (ptys L) with
    | none =>
      simp only [hf] at hF
      refine enterH Tryz.func100 rfl rfl Tryz.ntmps100 rfl (Wd.refl _) ?_
      (repeat' (first | (show VH _ _ _ _ _ _ _; first | refine v_seq ?_ | refine r_seq ?_ | refine v_ret ?_ | refine v_skip ?_ | refine v_cond_t rfl tbL ?_ | refine v_cond_f rfl tbL ?_) | (show SH _ _ _ _ _ (_ :: _) _ _ _; first | (show SH _ _ _ _ _ (⟨_, .move _, _, _, _, _⟩ :: _) _ _ _; refine mov evL ?_) | (show SH _ _ _ _ _ (⟨_, .assign _, _, _, _, _⟩ :: _) _ _ _; refine asg evL ?_) | (show SH _ _ _ _ _ (⟨_, .binOp .lss _ _ _ _, _, _, _, _⟩ :: _) _ _ _; refine lssT rfl rfl omD ?_) | (show SH _ _ _ _ _ (⟨_, .load _ _, _, _, _, _⟩ :: _) _ _ _; refine lba rfl spL (by rfl) ?_) | (show SH _ _ _ _ _ (⟨_, .call ⟨.value (.func 9), _, _⟩, _, _, _, _⟩ :: _) _ _ _; refine cl (callee := .func 9) rfl (fun w hw => hV w (hr.ext hw.ext)) rfl rfl ?_) | (show SH _ _ _ _ _ (⟨_, .call ⟨.value (.func 75), _, _⟩, _, _, _, _⟩ :: _) _ _ _; refine cl (callee := .func 75) rfl (fun w hw => hF w (hr.ext hw.ext)) rfl rfl ?_) | refine bnoT rfl ?_ | (show SH _ _ _ _ _ (⟨_, .box _ _, _, _, _, _⟩ :: _) _ _ _; refine bxx rfl evL rfl (fun b => ?_))) | refine s_nil ?_ | refine kh_normal ?_ | refine kh_ret ?_))
      exact rh2 rfl rfl rfl ⟨rfl, rfl⟩ (ent_nil _)
    | some k =>
      simp only [hf] at hF
      have hk := findM_lt hf
      rw [ptys_len] at hk
      have hpk := ptys_at hk
      obtain ⟨x, hx⟩ : ∃ x, L.getD k Flat.dflt = x := ⟨_, rfl⟩
      have hxE := pty_enc hx
      simp only
      rw [hpk, hx]
      clear hx hf hpk
      obtain ⟨⟨xi, xl, xm, xv⟩, xA, xca, xB, xcb⟩ := x
      simp only at hxE ⊢
      by_cases hl : xl = who
      · rw [if_pos hl]
        refine enterH Tryz.func100 rfl rfl Tryz.ntmps100 rfl (Wd.refl _) ?_
        (repeat' (first | (show VH _ _ _ _ _ _ _; first | refine v_seq ?_ | refine r_seq ?_ | refine v_ret ?_ | refine v_skip ?_ | refine v_cond_f rfl tbL ?_) | (show SH _ _ _ _ _ (_ :: _) _ _ _; first | (show SH _ _ _ _ _ (⟨_, .move _, _, _, _, _⟩ :: _) _ _ _; refine mov evL ?_) | (show SH _ _ _ _ _ (⟨_, .assign _, _, _, _, _⟩ :: _) _ _ _; refine asg evL ?_) | (show SH _ _ _ _ _ (⟨_, .binOp .lss _ _ _ _, _, _, _, _⟩ :: _) _ _ _; refine lssF rfl rfl omD ?_) | (show SH _ _ _ _ _ (⟨_, .binOp .neq _ _ _ _, _, _, _, _⟩ :: _) _ _ _; refine neqF rfl rfl omD ?_) | (show SH _ _ _ _ _ (⟨_, .load _ _, _, _, _, _⟩ :: _) _ _ _; first | refine lbx rfl spL (by rfl) ?_ | refine lba rfl spL (by rfl) ?_ | refine lrg rfl (fun _ _ => rdK) (by rfl) omL (by assumption) (by rfl) ?_) | (show SH _ _ _ _ _ (⟨_, .indexAddr _ _ _, _, _, _, _⟩ :: _) _ _ _; refine ix rfl rfl (by with_reducible rfl) (fun _ _ => rdK) (by rfl) omL omL ?_) | (show SH _ _ _ _ _ (⟨_, .call ⟨.value (.func 9), _, _⟩, _, _, _, _⟩ :: _) _ _ _; refine cl (callee := .func 9) rfl (fun w hw => hV w (hr.ext hw.ext)) rfl rfl ?_) | (show SH _ _ _ _ _ (⟨_, .call ⟨.value (.func 75), _, _⟩, _, _, _, _⟩ :: _) _ _ _; refine cl (callee := .func 75) rfl (fun w hw => hF w (hr.ext hw.ext)) rfl rfl ?_) | refine bnoT rfl ?_ | refine fad rfl ?_ | (show SH _ _ _ _ _ (⟨_, .box _ _, _, _, _, _⟩ :: _) _ _ _; refine bxx rfl evL rfl (fun b => ?_))) | refine s_nil ?_ | refine kh_normal ?_))
        exact rh2 rfl rfl rfl ⟨rfl, rfl⟩ (ent_nil _)
      · rw [if_neg hl]
        refine enterH Tryz.func100 rfl rfl Tryz.ntmps100 rfl (Wd.refl _) ?_
        (repeat' (first | (show VH _ _ _ _ _ _ _; first | refine v_seq ?_ | refine r_seq ?_ | refine v_ret ?_ | refine v_skip ?_ | refine v_cond_t rfl tbL ?_ | refine v_cond_f rfl tbL ?_) | (show SH _ _ _ _ _ (_ :: _) _ _ _; first | (show SH _ _ _ _ _ (⟨_, .move _, _, _, _, _⟩ :: _) _ _ _; refine mov evL ?_) | (show SH _ _ _ _ _ (⟨_, .assign _, _, _, _, _⟩ :: _) _ _ _; refine asg evL ?_) | (show SH _ _ _ _ _ (⟨_, .binOp .lss _ _ _ _, _, _, _, _⟩ :: _) _ _ _; refine lssF rfl rfl omD ?_) | (show SH _ _ _ _ _ (⟨_, .binOp .neq _ _ _ _, _, _, _, _⟩ :: _) _ _ _; refine neqT rfl rfl omD ?_) | (show SH _ _ _ _ _ (⟨_, .load _ _, _, _, _, _⟩ :: _) _ _ _; first | refine lbx rfl spL (by rfl) ?_ | refine lba rfl spL (by rfl) ?_ | refine lrg rfl (fun _ _ => rdK) (by rfl) omL (by assumption) (by rfl) ?_) | (show SH _ _ _ _ _ (⟨_, .indexAddr _ _ _, _, _, _, _⟩ :: _) _ _ _; refine ix rfl rfl (by with_reducible rfl) (fun _ _ => rdK) (by rfl) omL omL ?_) | (show SH _ _ _ _ _ (⟨_, .call ⟨.value (.func 9), _, _⟩, _, _, _, _⟩ :: _) _ _ _; refine cl (callee := .func 9) rfl (fun w hw => hV w (hr.ext hw.ext)) rfl rfl ?_) | (show SH _ _ _ _ _ (⟨_, .call ⟨.value (.func 75), _, _⟩, _, _, _, _⟩ :: _) _ _ _; refine cl (callee := .func 75) rfl (fun w hw => hF w (hr.ext hw.ext)) rfl rfl ?_) | refine bnoT rfl ?_ | refine fad rfl ?_ | (show SH _ _ _ _ _ (⟨_, .box _ _, _, _, _, _⟩ :: _) _ _ _; refine bxx rfl evL rfl (fun b => ?_))) | refine s_nil ?_ | refine kh_normal ?_ | refine kh_ret ?_))
        exact rh2 rfl rfl rfl ⟨rfl, rfl⟩ (ent_nil _)
theorem kpL {p : Prop} (h : p := by first | exact trivial | exact ent_nil _ | exact ent_cons spL (ent_bxp spL (ent_nil _) rfl) | exact Go.Fw.kpL) : p := h
theorem find_neg {who : Int} {ps : List Pty} (h : who ∉ allM ps) : findI36 who ps = -1 := by
  unfold findI36; rw [(findM_none ps).2 h]
theorem find_pos {who : Int} {ps : List Pty} (h : who ∈ allM ps) : 0 ≤ findI36 who ps := by
  unfold findI36
  cases hf : findM who ps with
  | none => exact absurd h ((findM_none ps).1 hf)
  | some k => exact Int.natCast_nonneg k
set_option maxHeartbeats 4000000 in
set_option maxRecDepth 100000 in
theorem refCreate_spec (t la : Int) (A : Option Addr) (L : List PtyP) (c : Nat) (who : Int) (Φ : World → Prop) (w0 : World) (H : List HP) (w : World) (hz : SzP L) (hc : L.length ≤ c) (hΦ : ∀ w, Φ w → RdP w A L) (hw : Wd w0 (kno Φ :: H) w) :
    Ret Tryz.prog 67 [hv36 t la A L c, .int .i64 who].toArray w (RP w0 (RefC Φ H (createM ⟨t, la, ptys L⟩ who))) := by
  have hV := fun w' h => refValid_spec t la A L c w' hz h
  have hF := fun w' h => refFind_spec t la A L c who w' hz h
  have hI := refId_spec who
  unfold createM
  simp only
  cases hv : validHal ⟨t, la, ptys L⟩ with
  | false =>
    simp only [hv] at hV
    rw [if_neg (by decide)]
    refine enterH Tryz.func67 rfl rfl Tryz.ntmps67 rfl (by assumption) ?_
    (repeat' (first | (show VH _ _ _ _ _ _ _; first | refine v_seq ?_ | refine r_seq ?_ | refine v_ret ?_ | refine v_cond_t rfl tbL ?_) | (show SH _ _ _ _ _ (_ :: _) _ _ _; first | (show SH _ _ _ _ _ (⟨_, _, _, _, _, some _⟩ :: _) _ _ _; (refine gif rfl rfl ?_; refine giFT tbL ?_)) | (show SH _ _ _ _ _ (⟨_, .move _, _, _, _, _⟩ :: _) _ _ _; refine mov evL ?_) | (show SH _ _ _ _ _ (⟨_, .assign _, _, _, _, _⟩ :: _) _ _ _; refine asg evL ?_) | (show SH _ _ _ _ _ (⟨_, .load _ _, _, _, _, _⟩ :: _) _ _ _; refine lba rfl spL (by rfl) ?_) | (show SH _ _ _ _ _ (⟨_, .call ⟨.value (.func 9), _, _⟩, _, _, _, _⟩ :: _) _ _ _; refine cl (callee := .func 9) rfl (fun w hw => hV w (hΦ _ (hw.kn spL))) rfl rfl ?_) | refine bnoF rfl ?_ | (show SH _ _ _ _ _ (⟨_, .pick _ _ _, _, _, _, _⟩ :: _) _ _ _; refine pkt rfl tbL evL ?_) | refine bld rfl rfl ?_ | refine ala rfl (fun b => ?_) | (show SH _ _ _ _ _ (⟨_, .box _ _, _, _, _, _⟩ :: _) _ _ _; refine bxx rfl evL rfl (fun b => ?_)) | (show SH _ _ _ _ _ (⟨_, .store _ _ _, _, _, _, _⟩ :: _) _ _ _; refine sta rfl rfl rfl spL (by rfl) (by rfl) (by rfl) kpL ?_)) | refine s_nil ?_ | refine kh_normal ?_ | refine kh_ret ?_))
    exact rhC2 rfl rfl rfl rfl (fun w hw => loadVar_bx hw spL (by rfl)) refC0 (Ent.trans (B := kno Φ :: H) enL ent_ref0)
  | true =>
    simp only [hv] at hV
    rw [if_pos rfl]
    cases hi : isIdB who with
    | false =>
      simp only [hi] at hI
      rw [if_neg (by decide)]
      refine enterH Tryz.func67 rfl rfl Tryz.ntmps67 rfl (by assumption) ?_
      (repeat' (first | (show VH _ _ _ _ _ _ _; first | refine v_seq ?_ | refine r_seq ?_ | refine v_ret ?_ | refine v_cond_t rfl tbL ?_) | (show SH _ _ _ _ _ (_ :: _) _ _ _; first | (show SH _ _ _ _ _ (⟨_, _, _, _, _, some _⟩ :: _) _ _ _; (refine gif rfl rfl ?_; refine giFF tbL ?_)) | (show SH _ _ _ _ _ (⟨_, .move _, _, _, _, _⟩ :: _) _ _ _; refine mov evL ?_) | (show SH _ _ _ _ _ (⟨_, .assign _, _, _, _, _⟩ :: _) _ _ _; refine asg evL ?_) | (show SH _ _ _ _ _ (⟨_, .load _ _, _, _, _, _⟩ :: _) _ _ _; refine lba rfl spL (by rfl) ?_) | (show SH _ _ _ _ _ (⟨_, .call ⟨.value (.func 9), _, _⟩, _, _, _, _⟩ :: _) _ _ _; refine cl (callee := .func 9) rfl (fun w hw => hV w (hΦ _ (hw.kn spL))) rfl rfl ?_) | (show SH _ _ _ _ _ (⟨_, .call ⟨.value (.func 28), _, _⟩, _, _, _, _⟩ :: _) _ _ _; refine cl (callee := .func 28) rfl (fun w hw => hI w) rfl rfl ?_) | (show SH _ _ _ _ _ (⟨_, .unOp .not _ _, _, _, _, _⟩ :: _) _ _ _; first | refine bnoT rfl ?_ | refine bnoF rfl ?_) | (show SH _ _ _ _ _ (⟨_, .pick _ _ _, _, _, _, _⟩ :: _) _ _ _; refine pkf rfl tbL evL ?_) | refine bld rfl rfl ?_ | refine ala rfl (fun b => ?_) | (show SH _ _ _ _ _ (⟨_, .box _ _, _, _, _, _⟩ :: _) _ _ _; refine bxx rfl evL rfl (fun b => ?_)) | (show SH _ _ _ _ _ (⟨_, .store _ _ _, _, _, _, _⟩ :: _) _ _ _; refine sta rfl rfl rfl spL (by rfl) (by rfl) (by rfl) kpL ?_)) | refine s_nil ?_ | refine kh_normal ?_ | refine kh_ret ?_))
      exact rhC2 rfl rfl rfl rfl (fun w hw => loadVar_bx hw spL (by rfl)) refC0 (Ent.trans (B := kno Φ :: H) enL ent_ref0)
    | true =>
      simp only [hi] at hI
      rw [if_pos rfl]
      by_cases hm : who ∈ allM (ptys L)
      · rw [if_pos hm]
        have hf := find_pos hm
        generalize findI36 who (ptys L) = f at hF hf
        refine enterH Tryz.func67 rfl rfl Tryz.ntmps67 rfl (by assumption) ?_
        (repeat' (first | (show VH _ _ _ _ _ _ _; first | refine v_seq ?_ | refine r_seq ?_ | refine v_ret ?_ | refine v_skip ?_ | refine v_cond_t rfl tbL ?_ | refine v_cond_f rfl tbL ?_) | (show SH _ _ _ _ _ (_ :: _) _ _ _; first | (show SH _ _ _ _ _ (⟨_, _, _, _, _, some _⟩ :: _) _ _ _; (refine gif rfl rfl ?_; refine giFF tbL ?_)) | (show SH _ _ _ _ _ (⟨_, .move _, _, _, _, _⟩ :: _) _ _ _; refine mov evL ?_) | (show SH _ _ _ _ _ (⟨_, .assign _, _, _, _, _⟩ :: _) _ _ _; refine asg evL ?_) | (show SH _ _ _ _ _ (⟨_, .binOp .geq _ _ _ _, _, _, _, _⟩ :: _) _ _ _; refine geqT rfl rfl omD ?_) | (show SH _ _ _ _ _ (⟨_, .load _ _, _, _, _, _⟩ :: _) _ _ _; refine lba rfl spL (by rfl) ?_) | (show SH _ _ _ _ _ (⟨_, .call ⟨.value (.func 9), _, _⟩, _, _, _, _⟩ :: _) _ _ _; refine cl (callee := .func 9) rfl (fun w hw => hV w (hΦ _ (hw.kn spL))) rfl rfl ?_) | (show SH _ _ _ _ _ (⟨_, .call ⟨.value (.func 28), _, _⟩, _, _, _, _⟩ :: _) _ _ _; refine cl (callee := .func 28) rfl (fun w hw => hI w) rfl rfl ?_) | (show SH _ _ _ _ _ (⟨_, .call ⟨.value (.func 75), _, _⟩, _, _, _, _⟩ :: _) _ _ _; refine cl (callee := .func 75) rfl (fun w hw => hF w (hΦ _ (hw.kn spL))) rfl rfl ?_) | refine bnoT rfl ?_ | (show SH _ _ _ _ _ (⟨_, .pick _ _ _, _, _, _, _⟩ :: _) _ _ _; refine pkf rfl tbL evL ?_) | refine bld rfl rfl ?_ | refine ala rfl (fun b => ?_) | (show SH _ _ _ _ _ (⟨_, .box _ _, _, _, _, _⟩ :: _) _ _ _; refine bxx rfl evL rfl (fun b => ?_)) | (show SH _ _ _ _ _ (⟨_, .store _ _ _, _, _, _, _⟩ :: _) _ _ _; refine sta rfl rfl rfl spL (by rfl) (by rfl) (by rfl) kpL ?_)) | refine s_nil ?_ | refine kh_normal ?_ | refine kh_ret ?_))
        exact rhC2 rfl rfl rfl rfl (fun w hw => loadVar_bx hw spL (by rfl)) refC0 (Ent.trans (B := kno Φ :: H) enL ent_ref0)
      · rw [if_neg hm]
        rw [find_neg hm] at hF
        have hb := (valid_iff.1 hv).l1
        have hb0 := (valid_iff.1 hv).l0
        have hn := (valid_iff.1 hv).len
        simp only at hb hb0 hn
        rw [ptys_len] at hn ⊢
        by_cases hful : L.length < 32 ∧ la < 1048576
        · rw [if_pos hful, ← kept_who (valid_iff.1 hv)]
          obtain ⟨f1_, f2_⟩ := hful
          simp only
          have hKl : (keptR t who 0 (ptys L)).length = L.length := by rw [keptR_map, List.length_map, ptys_len]
          refine enterH Tryz.func67 rfl rfl Tryz.ntmps67 rfl (by assumption) ?_
          (repeat' (first | (show VH _ _ _ _ _ _ _; first | refine v_seq ?_ | refine r_seq ?_ | refine v_skip ?_ | refine v_cond_f rfl tbL ?_) | (show SH _ _ _ _ _ (_ :: _) _ _ _; first | (show SH _ _ _ _ _ (⟨_, _, _, _, _, some _⟩ :: _) _ _ _; (refine gif rfl rfl ?_; refine giFF tbL ?_)) | (show SH _ _ _ _ _ (⟨_, .move _, _, _, _, _⟩ :: _) _ _ _; refine mov evL ?_) | (show SH _ _ _ _ _ (⟨_, .assign _, _, _, _, _⟩ :: _) _ _ _; refine asg evL ?_) | (show SH _ _ _ _ _ (⟨_, .binOp .geq _ _ _ _, _, _, _, _⟩ :: _) _ _ _; refine geqF rfl rfl omD ?_) | (show SH _ _ _ _ _ (⟨_, .binOp .eql _ _ _ _, _, _, _, _⟩ :: _) _ _ _; refine eqlF rfl rfl omD ?_) | (show SH _ _ _ _ _ (⟨_, .load _ _, _, _, _, _⟩ :: _) _ _ _; first | refine lbx rfl spL (by rfl) ?_ | refine lba rfl spL (by rfl) ?_) | refine slen rfl ?_ | (show SH _ _ _ _ _ (⟨_, .call ⟨.value (.func 9), _, _⟩, _, _, _, _⟩ :: _) _ _ _; refine cl (callee := .func 9) rfl (fun w hw => hV w (hΦ _ (hw.kn spL))) rfl rfl ?_) | (show SH _ _ _ _ _ (⟨_, .call ⟨.value (.func 28), _, _⟩, _, _, _, _⟩ :: _) _ _ _; refine cl (callee := .func 28) rfl (fun w hw => hI w) rfl rfl ?_) | (show SH _ _ _ _ _ (⟨_, .call ⟨.value (.func 75), _, _⟩, _, _, _, _⟩ :: _) _ _ _; refine cl (callee := .func 75) rfl (fun w hw => hF w (hΦ _ (hw.kn spL))) rfl rfl ?_) | refine bnoT rfl ?_ | (show SH _ _ _ _ _ (⟨_, .pick _ _ _, _, _, _, _⟩ :: _) _ _ _; refine pkf rfl tbL evL ?_) | refine fad rfl ?_ | refine ala rfl (fun b => ?_) | (show SH _ _ _ _ _ (⟨_, .box _ _, _, _, _, _⟩ :: _) _ _ _; refine bxx rfl evL rfl (fun b => ?_))) | refine s_nil ?_ | refine kh_normal ?_))
          rename_i b3
          refine cm rfl (fun w2 hw2 => refKept_spec t la A L c t who 0 Φ w0 (bx b3 30 [.int .i64 t, .int .i64 la, .slice A L.length c] :: bx b 30 [.int .i64 0, .int .i64 0, .slice none 0 0] :: H) w2 hz hc hΦ (Ent.wd enL hw2)) rfl rfl ?_
          rintro _ _ ⟨A1, c1, M, hM, hcM, rfl, rfl⟩
          refine ⟨enL, ?_⟩
          have hMl : M.length = L.length := by rw [← ptys_len, hM, hKl]
          obtain ⟨Ψ, hΨ⟩ : ∃ Ψ : World → Prop, (fun w => Φ w ∧ RdP w A1 M) = Ψ := ⟨_, rfl⟩
          rw [hΨ]
          have hΨ2 : ∀ w, Ψ w → Φ w ∧ RdP w A1 M := fun w h => by rw [← hΨ] at h; exact h
          clear hΨ
          have hMA : ∀ w, Ψ w → Rd w A1 M := fun w h => (hΨ2 w h).2.1
          have hin : ∀ (B : Option Addr) (w : World), Ψ w → Rd w B [who] → ∀ z ∈ M ++ [(⟨⟨la + 1, who, [who], []⟩, B, 1, none, 0⟩ : PtyP)], Rd w z.A z.p.mem ∧ Rd w z.B z.p.inv := fun B w h hb z hz => by
            rcases List.mem_append.1 hz with h2 | h2
            · exact (hΨ2 w h).2.2 z h2
            · rw [List.mem_singleton.1 h2]
              exact ⟨hb, Rd.nil _ none⟩
          have hpt : ∀ B, ptys (M ++ [(⟨⟨la + 1, who, [who], []⟩, B, 1, none, 0⟩ : PtyP)]) = keptR t who 0 (ptys L) ++ [⟨la + 1, who, [who], []⟩] := fun B => by rw [ptys_snoc, hM]
          have hφ : ∀ w, Ψ w → Φ w := fun w h => (hΨ2 w h).1
          clear hM hKl hV hF hI
          (repeat' ((fail_if_success (show VH _ _ (.seq (.region 9 _ _) _) _ _ _ _)); first | (show VH _ _ _ _ _ _ _; first | refine v_seq ?_ | refine r_seq ?_) | (show SH _ _ _ _ _ (_ :: _) _ _ _; first | (show SH _ _ _ _ _ (⟨_, .binOp .add _ _ _ _, _, _, _, _⟩ :: _) _ _ _; refine add rfl rfl inL ?_) | (show SH _ _ _ _ _ (⟨_, .load _ _, _, _, _, _⟩ :: _) _ _ _; refine lbx rfl spL (by rfl) ?_) | refine fad rfl ?_ | (show SH _ _ _ _ _ (⟨_, .store _ _ _, _, _, _, _⟩ :: _) _ _ _; first | refine stb rfl rfl evL spL rfl rfl (by first | decide | exact Nat.zero_lt_succ _ | exact of_decide_eq_true rfl) kpL ?_ | refine sta rfl rfl rfl spL (by rfl) (by rfl) (by rfl) kpL ?_)) | refine s_nil ?_ | refine kh_normal ?_))
          refine v_seq ?_
          refine r_heldT [kno Ψ, cellp ⟨b3, 1, none⟩ (.int .i64 (la + 1))] (tr [(1, true), (4, true), (5, true), (6, true), (7, true)] (.fork3 0 (tr [] (.fork 2 (tr [] (.fork 3 (tr [(8, false), (9, false), (10, false), (11, false), (12, false), (13, false)] .nil) 8 (tr [(9, true)] (.fork 3 (tr [(10, false), (11, false), (12, false), (13, false)] .nil) 10 (tr [(3, false), (11, false), (12, false), (13, false)] .nil))))) 8 (tr [(9, true)] (.fork 2 (tr [] (.fork 3 (tr [(10, false), (11, false), (12, false), (13, false)] .nil) 10 (tr [(3, false), (11, false), (12, false), (13, false)] .nil))) 10 (tr [(2, false), (3, false), (11, false), (12, false), (13, false)] .nil))))) 2 (tr [] (.fork 0 (tr [] (.fork 3 (tr [(8, false), (9, false), (10, false), (11, false), (12, false), (13, false)] .nil) 8 (tr [(9, true)] (.fork 3 (tr [(10, false), (11, false), (12, false), (13, false)] .nil) 10 (tr [(3, false), (11, false), (12, false), (13, false)] .nil))))) 8 (tr [(9, true)] (.fork 0 (tr [] (.fork 3 (tr [(10, false), (11, false), (12, false), (13, false)] .nil) 10 (tr [(3, false), (11, false), (12, false), (13, false)] .nil))) 10 (tr [(0, false), (3, false), (11, false), (12, false), (13, false)] .nil))))) 8 (tr [(9, true)] (.fork3 0 (tr [] (.fork 2 (tr [] (.fork 3 (tr [(10, false), (11, false), (12, false), (13, false)] .nil) 10 (tr [(3, false), (11, false), (12, false), (13, false)] .nil))) 10 (tr [(2, false), (3, false), (11, false), (12, false), (13, false)] .nil))) 2 (tr [] (.fork 0 (tr [] (.fork 3 (tr [(10, false), (11, false), (12, false), (13, false)] .nil) 10 (tr [(3, false), (11, false), (12, false), (13, false)] .nil))) 10 (tr [(0, false), (3, false), (11, false), (12, false), (13, false)] .nil))) 10 (tr [] (.fork 0 (tr [(2, false), (3, false), (11, false), (12, false), (13, false)] .nil) 2 (tr [(0, false), (3, false), (11, false), (12, false), (13, false)] .nil))))))) hmix (by kernel_rfl) (ent_cons spL (ent_bxp spL (ent_nil _) rfl)) ?_
          (repeat' (refine fad rfl ?_))
          refine lcell rfl (fun w hw => hw.cellp spL) ?_
          (repeat' (first | (show SH _ _ _ _ _ (_ :: _) _ _ _; first | (show SH _ _ _ _ _ (⟨_, .move _, _, _, _, _⟩ :: _) _ _ _; refine mov evL ?_) | (show SH _ _ _ _ _ (⟨_, .load _ _, _, _, _, _⟩ :: _) _ _ _; refine lbx rfl spL (by rfl) ?_) | refine bld rfl rfl ?_ | (show SH _ _ _ _ _ (⟨_, .buildSlice _ _ _, _, _, _, _⟩ :: _) _ _ _; refine bsl (α := Int) rfl rfl (by repeat (first | exact Vals.nil | (apply Vals.cons; rfl))) rfl (by rfl) (by decide) (fun b => ?_))) | refine s_fork ?_ ?_ | refine s_fork3 ?_ ?_ ?_))
          repeat' (first
            | (refine s_fork3 ?_ ?_ ?_ <;> (repeat' (first | (show VH _ _ _ _ _ _ _; first | refine v_seq ?_ | refine r_seq ?_ | refine r_quiet hmix (by kernel_rfl) ?_ | refine v_block ?_ | refine v_ret ?_ | refine v_skip ?_ | refine v_exit ?_ | refine v_label ?_ | refine v_cond_t rfl tbL ?_ | refine v_cond_f rfl tbL ?_ | refine v_cond_dec rfl (fun h => ?_) (fun h => ?_) | refine v_cond_ndec rfl (fun h => ?_) (fun h => ?_) | refine v_cond rfl (fun h => ?_) (fun h => ?_)) | (show SH _ _ _ _ _ (_ :: _) _ _ _; first | (show SH _ _ _ _ _ (⟨_, _, _, _, _, some _⟩ :: _) _ _ _; first | (refine gif rfl rfl ?_; first | refine giTT tbL ?_ | refine giTF tbL ?_ | refine giFF tbL ?_ | refine giFT tbL ?_ | refine giTd (fun h => ?_) (fun h => ?_) | refine giFd (fun h => ?_) (fun h => ?_) | refine giT (fun h => ?_) (fun h => ?_) | refine giF (fun h => ?_) (fun h => ?_)) | refine gu rfl rfl ?_ | refine grT rfl rfl tbL ?_ | refine grF rfl rfl tbL ?_) | (show SH _ _ _ _ _ (⟨_, .move _, _, _, _, _⟩ :: _) _ _ _; refine mov evL ?_) | (show SH _ _ _ _ _ (⟨_, .assign _, _, _, _, _⟩ :: _) _ _ _; refine asg evL ?_) | (show SH _ _ _ _ _ (⟨_, .binOp .geq _ _ _ _, _, _, _, _⟩ :: _) _ _ _; first | refine geqT rfl rfl omD ?_ | refine geqF rfl rfl omD ?_ | refine geq rfl rfl ?_) | (show SH _ _ _ _ _ (⟨_, .binOp .eql _ _ _ _, _, _, _, _⟩ :: _) _ _ _; first | refine eqlT rfl rfl omD ?_ | refine eqlF rfl rfl omD ?_ | refine eql rfl rfl ?_ | refine eqn rfl rfl ?_ | refine eqb rfl rfl ?_) | (show SH _ _ _ _ _ (⟨_, .binOp .add _ _ _ _, _, _, _, _⟩ :: _) _ _ _; refine add rfl rfl inL ?_) | (show SH _ _ _ _ _ (⟨_, .load _ _, _, _, _, _⟩ :: _) _ _ _; first | refine lbx rfl spL (by rfl) ?_ | refine lba rfl spL (by rfl) ?_ | refine lbs rfl spL (by rfl) (by rfl) ?_ | refine lgi rfl (fun _ _ => rdK) omL (by assumption) ?_ | refine lag rfl (fun _ _ => rdK) (by rfl) omL (by assumption) ?_ | refine lrg rfl (fun _ _ => rdK) (by rfl) omL (by assumption) (by rfl) ?_ | refine lin rfl (fun _ _ => rdK) omL ?_ | refine lbi rfl spL omL ?_ | refine lr1 rfl (fun _ _ => rdK) (by rfl) omL (by rfl) ?_ | refine lra rfl (fun _ _ => rdK) (by rfl) omL ?_ | refine lrf rfl (fun _ _ => rdK) (by rfl) omL (by rfl) ?_ | refine lcell rfl (fun w hw => hw.ext.cell (by assumption)) ?_ | refine lrs rfl (fun _ _ => rdK) (by rfl) omL (by rfl) (by rfl) ?_ | refine lca rfl (fun _ _ => rdK) (by rfl) ?_ | refine lcs rfl (fun _ _ => rdK) (by rfl) ?_ | refine lcf rfl (fun _ _ => rdK) (by rfl) ?_ | refine lrf rfl (fun _ _ => rdK) (by rfl) (by simp only [List.length_cons, List.length_nil]; omega) (by rfl) ?_ | refine lra rfl (fun _ _ => rdK) (by rfl) (by simp only [List.length_cons, List.length_nil]; omega) ?_) | (show SH _ _ _ _ _ (⟨_, .call ⟨.builtin _, _, _⟩, _, _, _, _⟩ :: _) _ _ _; first | refine slen rfl ?_ | refine lnm rfl spL ?_) | (show SH _ _ _ _ _ (⟨_, .unOp .not _ _, _, _, _, _⟩ :: _) _ _ _; first | refine bnoT rfl ?_ | refine bnoF rfl ?_ | refine bnot rfl ?_) | (show SH _ _ _ _ _ (⟨_, .pick _ _ _, _, _, _, _⟩ :: _) _ _ _; first | refine pkt rfl tbL evL ?_ | refine pkf rfl tbL evL ?_) | refine fad rfl ?_ | (show SH _ _ _ _ _ (⟨_, .build _ _, _, _, _, _⟩ :: _) _ _ _; first | refine bld rfl rfl ?_ | refine bldZ ?_ | refine bldZN ?_) | (show SH _ _ _ _ _ (⟨_, .alloc _, _, _, _, _⟩ :: _) _ _ _; first | refine al1 rfl (fun b => ?_) | refine ala rfl (fun b => ?_)) | (show SH _ _ _ _ _ (⟨_, .box _ _, _, _, _, _⟩ :: _) _ _ _; refine bxx rfl evL rfl (fun b => ?_)) | (show SH _ _ _ _ _ (⟨_, .store _ _ _, _, _, _, _⟩ :: _) _ _ _; first | refine stb rfl rfl evL spL rfl rfl (by first | decide | exact Nat.zero_lt_succ _ | exact of_decide_eq_true rfl) kpL ?_ | refine sta rfl rfl rfl spL (by rfl) (by rfl) (by rfl) kpL ?_ | refine sti rfl rfl rfl spL omL kpL ?_ | refine sbi rfl rfl rfl spL omL kpL ?_ | refine sbs rfl rfl evL spL (by rfl) (by rfl) (of_decide_eq_true rfl) kpL ?_) | (show SH _ _ _ _ _ (⟨_, .buildSlice _ _ _, _, _, _, _⟩ :: _) _ _ _; refine bsl (α := Int) rfl rfl (by repeat (first | exact Vals.nil | (apply Vals.cons; rfl))) rfl (by rfl) (by decide) (fun b => ?_))) | refine s_nil ?_ | refine s_fork ?_ ?_ | refine s_fork3 ?_ ?_ ?_ | refine s_fork4 ?_ ?_ ?_ ?_ | refine kh_normal ?_ | refine kh_ret ?_ | refine kh_exit ?_ | refine bh_normal ?_ | refine bh_ret ?_ | refine bh_exit ?_ | refine bh_exit_ne rfl ?_)))
            | (refine s_fork ?_ ?_ <;> (repeat' (first | (show VH _ _ _ _ _ _ _; first | refine v_seq ?_ | refine r_seq ?_ | refine r_quiet hmix (by kernel_rfl) ?_ | refine v_block ?_ | refine v_ret ?_ | refine v_skip ?_ | refine v_exit ?_ | refine v_label ?_ | refine v_cond_t rfl tbL ?_ | refine v_cond_f rfl tbL ?_ | refine v_cond_dec rfl (fun h => ?_) (fun h => ?_) | refine v_cond_ndec rfl (fun h => ?_) (fun h => ?_) | refine v_cond rfl (fun h => ?_) (fun h => ?_)) | (show SH _ _ _ _ _ (_ :: _) _ _ _; first | (show SH _ _ _ _ _ (⟨_, _, _, _, _, some _⟩ :: _) _ _ _; first | (refine gif rfl rfl ?_; first | refine giTT tbL ?_ | refine giTF tbL ?_ | refine giFF tbL ?_ | refine giFT tbL ?_ | refine giTd (fun h => ?_) (fun h => ?_) | refine giFd (fun h => ?_) (fun h => ?_) | refine giT (fun h => ?_) (fun h => ?_) | refine giF (fun h => ?_) (fun h => ?_)) | refine gu rfl rfl ?_ | refine grT rfl rfl tbL ?_ | refine grF rfl rfl tbL ?_) | (show SH _ _ _ _ _ (⟨_, .move _, _, _, _, _⟩ :: _) _ _ _; refine mov evL ?_) | (show SH _ _ _ _ _ (⟨_, .assign _, _, _, _, _⟩ :: _) _ _ _; refine asg evL ?_) | (show SH _ _ _ _ _ (⟨_, .binOp .geq _ _ _ _, _, _, _, _⟩ :: _) _ _ _; first | refine geqT rfl rfl omD ?_ | refine geqF rfl rfl omD ?_ | refine geq rfl rfl ?_) | (show SH _ _ _ _ _ (⟨_, .binOp .eql _ _ _ _, _, _, _, _⟩ :: _) _ _ _; first | refine eqlT rfl rfl omD ?_ | refine eqlF rfl rfl omD ?_ | refine eql rfl rfl ?_ | refine eqn rfl rfl ?_ | refine eqb rfl rfl ?_) | (show SH _ _ _ _ _ (⟨_, .binOp .add _ _ _ _, _, _, _, _⟩ :: _) _ _ _; refine add rfl rfl inL ?_) | (show SH _ _ _ _ _ (⟨_, .load _ _, _, _, _, _⟩ :: _) _ _ _; first | refine lbx rfl spL (by rfl) ?_ | refine lba rfl spL (by rfl) ?_ | refine lbs rfl spL (by rfl) (by rfl) ?_ | refine lgi rfl (fun _ _ => rdK) omL (by assumption) ?_ | refine lag rfl (fun _ _ => rdK) (by rfl) omL (by assumption) ?_ | refine lrg rfl (fun _ _ => rdK) (by rfl) omL (by assumption) (by rfl) ?_ | refine lin rfl (fun _ _ => rdK) omL ?_ | refine lbi rfl spL omL ?_ | refine lr1 rfl (fun _ _ => rdK) (by rfl) omL (by rfl) ?_ | refine lra rfl (fun _ _ => rdK) (by rfl) omL ?_ | refine lrf rfl (fun _ _ => rdK) (by rfl) omL (by rfl) ?_ | refine lcell rfl (fun w hw => hw.ext.cell (by assumption)) ?_ | refine lrs rfl (fun _ _ => rdK) (by rfl) omL (by rfl) (by rfl) ?_ | refine lca rfl (fun _ _ => rdK) (by rfl) ?_ | refine lcs rfl (fun _ _ => rdK) (by rfl) ?_ | refine lcf rfl (fun _ _ => rdK) (by rfl) ?_ | refine lrf rfl (fun _ _ => rdK) (by rfl) (by simp only [List.length_cons, List.length_nil]; omega) (by rfl) ?_ | refine lra rfl (fun _ _ => rdK) (by rfl) (by simp only [List.length_cons, List.length_nil]; omega) ?_) | (show SH _ _ _ _ _ (⟨_, .call ⟨.builtin _, _, _⟩, _, _, _, _⟩ :: _) _ _ _; first | refine slen rfl ?_ | refine lnm rfl spL ?_) | (show SH _ _ _ _ _ (⟨_, .unOp .not _ _, _, _, _, _⟩ :: _) _ _ _; first | refine bnoT rfl ?_ | refine bnoF rfl ?_ | refine bnot rfl ?_) | (show SH _ _ _ _ _ (⟨_, .pick _ _ _, _, _, _, _⟩ :: _) _ _ _; first | refine pkt rfl tbL evL ?_ | refine pkf rfl tbL evL ?_) | refine fad rfl ?_ | (show SH _ _ _ _ _ (⟨_, .build _ _, _, _, _, _⟩ :: _) _ _ _; first | refine bld rfl rfl ?_ | refine bldZ ?_ | refine bldZN ?_) | (show SH _ _ _ _ _ (⟨_, .alloc _, _, _, _, _⟩ :: _) _ _ _; first | refine al1 rfl (fun b => ?_) | refine ala rfl (fun b => ?_)) | (show SH _ _ _ _ _ (⟨_, .box _ _, _, _, _, _⟩ :: _) _ _ _; refine bxx rfl evL rfl (fun b => ?_)) | (show SH _ _ _ _ _ (⟨_, .store _ _ _, _, _, _, _⟩ :: _) _ _ _; first | refine stb rfl rfl evL spL rfl rfl (by first | decide | exact Nat.zero_lt_succ _ | exact of_decide_eq_true rfl) kpL ?_ | refine sta rfl rfl rfl spL (by rfl) (by rfl) (by rfl) kpL ?_ | refine sti rfl rfl rfl spL omL kpL ?_ | refine sbi rfl rfl rfl spL omL kpL ?_ | refine sbs rfl rfl evL spL (by rfl) (by rfl) (of_decide_eq_true rfl) kpL ?_) | (show SH _ _ _ _ _ (⟨_, .buildSlice _ _ _, _, _, _, _⟩ :: _) _ _ _; refine bsl (α := Int) rfl rfl (by repeat (first | exact Vals.nil | (apply Vals.cons; rfl))) rfl (by rfl) (by decide) (fun b => ?_))) | refine s_nil ?_ | refine s_fork ?_ ?_ | refine s_fork3 ?_ ?_ ?_ | refine s_fork4 ?_ ?_ ?_ ?_ | refine kh_normal ?_ | refine kh_ret ?_ | refine kh_exit ?_ | refine bh_normal ?_ | refine bh_ret ?_ | refine bh_exit ?_ | refine bh_exit_ne rfl ?_)))
            | (refine bsl (l := ([] : List PtyP)) rfl rfl Vals.nil rfl rfl (by decide) (fun b7 => ?_); (repeat' (first | (show SH _ _ _ _ _ (_ :: _) _ _ _; first | (show SH _ _ _ _ _ (⟨_, .load _ _, _, _, _, _⟩ :: _) _ _ _; refine lbx rfl spL (by rfl) ?_) | refine bld rfl rfl ?_ | (show SH _ _ _ _ _ (⟨_, .buildSlice _ _ _, _, _, _, _⟩ :: _) _ _ _; refine bsl (α := Int) rfl rfl (by repeat (first | exact Vals.nil | (apply Vals.cons; rfl))) rfl (by rfl) (by decide) (fun b => ?_))) | refine s_fork ?_ ?_)))
            | (refine bsl (l := [(⟨⟨la + 1, who, [who], []⟩, some ⟨b, 0, none⟩, 1, none, 0⟩ : PtyP)]) rfl rfl (Vals.cons rfl Vals.nil) rfl rfl (by decide) (fun b9 => ?_); (repeat' (first | (show SH _ _ _ _ _ (_ :: _) _ _ _; (show SH _ _ _ _ _ (⟨_, .load _ _, _, _, _, _⟩ :: _) _ _ _; refine lbx rfl spL (by rfl) ?_)) | refine s_fork ?_ ?_)))
            | (refine app (l := ([] : List PtyP)) (l2 := M) rfl rfl rfl spL (fun w hw => rd_thk hMA hw spL) rfl rfl rfl (by simp only [List.length_nil]; omega) (by simp only [List.length_nil]; omega) (fun A2 c2 => ⟨ent_cons spL (ent_bxp spL (ent_nil _) rfl), ?_⟩); (repeat' ((show SH _ _ _ _ _ (_ :: _) _ _ _; first | refine bld rfl rfl ?_ | (show SH _ _ _ _ _ (⟨_, .buildSlice _ _ _, _, _, _, _⟩ :: _) _ _ _; refine bsl (α := Int) rfl rfl (by repeat (first | exact Vals.nil | (apply Vals.cons; rfl))) rfl (by rfl) (by decide) (fun b => ?_))))))
            | (refine app (l := [] ++ M) (l2 := [(⟨⟨la + 1, who, [who], []⟩, some ⟨b, 0, none⟩, 1, none, 0⟩ : PtyP)]) rfl rfl rfl spL (fun w hw => hw.rd spL) rfl rfl rfl (by simp only [List.length_cons, List.length_nil, List.nil_append]; omega) (by simp only [List.length_cons, List.length_nil, List.nil_append]; omega) (fun A3 c3 => ⟨ent_cons spL (ent_bxp spL (ent_nil _) rfl), ?_⟩); refine s_cap (e := 43) (A := A3) (cp := c3) (l := [] ++ M ++ [(⟨⟨la + 1, who, [who], []⟩, some ⟨b, 0, none⟩, 1, none, 0⟩ : PtyP)]) spL (fun hcap => ?_); (repeat' (first | (show VH _ _ _ _ _ _ _; first | refine v_seq ?_ | refine r_seq ?_ | refine v_ret ?_) | (show SH _ _ _ _ _ (_ :: _) _ _ _; first | (show SH _ _ _ _ _ (⟨_, .assign _, _, _, _, _⟩ :: _) _ _ _; refine asg evL ?_) | (show SH _ _ _ _ _ (⟨_, .load _ _, _, _, _, _⟩ :: _) _ _ _; refine lba rfl spL (by rfl) ?_) | refine fad rfl ?_ | (show SH _ _ _ _ _ (⟨_, .store _ _ _, _, _, _, _⟩ :: _) _ _ _; first | refine stb rfl rfl evL spL rfl rfl (by first | decide | exact Nat.zero_lt_succ _ | exact of_decide_eq_true rfl) kpL ?_ | refine sta rfl rfl rfl spL (by rfl) (by rfl) (by rfl) kpL ?_)) | refine s_nil ?_ | refine kh_normal ?_))))
          all_goals exact rhC2 rfl rfl rfl rfl (fun w hw => loadVar_bx hw spL (by rfl)) ⟨A3, c3, M ++ [(⟨⟨la + 1, who, [who], []⟩, some ⟨b, 0, none⟩, 1, none, 0⟩ : PtyP)], hpt _, hcap, rfl, rfl⟩ (Ent.trans (B := orow 43 A3 c3 (M ++ [(⟨⟨la + 1, who, [who], []⟩, some ⟨b, 0, none⟩, 1, none, 0⟩ : PtyP)]) :: orow 3 (some ⟨b, 0, none⟩) 1 [who] :: kno Ψ :: H) enL ((ent_ref_mem fun w h1 h2 => hin _ w h1 h2).trans (ent_ref_fwd fun w h => ⟨hφ w h.1, h.2⟩)))
        · rw [if_neg hful]
          have hcc : Hid _ := hful
          clear hful
          refine enterH Tryz.func67 rfl rfl Tryz.ntmps67 rfl (by assumption) ?_
          (repeat' (first | (show VH _ _ _ _ _ _ _; first | refine v_seq ?_ | refine r_seq ?_ | refine v_ret ?_ | refine v_skip ?_ | refine v_cond_t rfl tbL ?_ | refine v_cond_f rfl tbL ?_ | refine v_cond_dec rfl (fun h => ?_) (fun h => ?_)) | (show SH _ _ _ _ _ (_ :: _) _ _ _; first | (show SH _ _ _ _ _ (⟨_, _, _, _, _, some _⟩ :: _) _ _ _; (refine gif rfl rfl ?_; first | refine giFF tbL ?_ | refine giFT tbL ?_ | refine giFd (fun h => ?_) (fun h => ?_))) | (show SH _ _ _ _ _ (⟨_, .move _, _, _, _, _⟩ :: _) _ _ _; refine mov evL ?_) | (show SH _ _ _ _ _ (⟨_, .assign _, _, _, _, _⟩ :: _) _ _ _; refine asg evL ?_) | (show SH _ _ _ _ _ (⟨_, .binOp .geq _ _ _ _, _, _, _, _⟩ :: _) _ _ _; refine geqF rfl rfl omD ?_) | refine eql rfl rfl ?_ | (show SH _ _ _ _ _ (⟨_, .load _ _, _, _, _, _⟩ :: _) _ _ _; first | refine lbx rfl spL (by rfl) ?_ | refine lba rfl spL (by rfl) ?_) | refine slen rfl ?_ | (show SH _ _ _ _ _ (⟨_, .call ⟨.value (.func 9), _, _⟩, _, _, _, _⟩ :: _) _ _ _; refine cl (callee := .func 9) rfl (fun w hw => hV w (hΦ _ (hw.kn spL))) rfl rfl ?_) | (show SH _ _ _ _ _ (⟨_, .call ⟨.value (.func 28), _, _⟩, _, _, _, _⟩ :: _) _ _ _; refine cl (callee := .func 28) rfl (fun w hw => hI w) rfl rfl ?_) | (show SH _ _ _ _ _ (⟨_, .call ⟨.value (.func 75), _, _⟩, _, _, _, _⟩ :: _) _ _ _; refine cl (callee := .func 75) rfl (fun w hw => hF w (hΦ _ (hw.kn spL))) rfl rfl ?_) | refine bnoT rfl ?_ | (show SH _ _ _ _ _ (⟨_, .pick _ _ _, _, _, _, _⟩ :: _) _ _ _; first | refine pkt rfl tbL evL ?_ | refine pkf rfl tbL evL ?_) | refine fad rfl ?_ | refine bld rfl rfl ?_ | refine ala rfl (fun b => ?_) | (show SH _ _ _ _ _ (⟨_, .box _ _, _, _, _, _⟩ :: _) _ _ _; refine bxx rfl evL rfl (fun b => ?_)) | (show SH _ _ _ _ _ (⟨_, .store _ _ _, _, _, _, _⟩ :: _) _ _ _; refine sta rfl rfl rfl spL (by rfl) (by rfl) (by rfl) kpL ?_)) | refine s_nil ?_ | refine kh_normal ?_ | refine kh_ret ?_))
          all_goals first
            | exact rhC2 rfl rfl rfl rfl (fun w hw => loadVar_bx hw spL (by rfl)) refC0 (Ent.trans (B := kno Φ :: H) enL ent_ref0)
            | exact absurd ⟨by omega, by omega⟩ hcc
end Go.Proofs.YtlfbcoohfnoacaaGreat
