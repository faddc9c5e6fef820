/- Package party: Accept, Decline. -/
import Derived.Test.YtlfbcoohfnoacaaGreatYTwp
import Derived.Test.YtlfbcoohfnoacaaGreatYMp
import Derived.Test.YtlfbcoohfnoacaaGreatYWz
import Derived.Test.YtlfbcoohfnoacaaGreatYUvk
set_option linter.unusedSimpArgs false
set_option linter.unusedVariables false
namespace Go.Proofs.YtlfbcoohfnoacaaGreat
open Go.Fw Go.RowKit
set_option maxRecDepth 100000 in
theorem ans11_spec (i : Inv) (who : Int) (a : Addr) (w : World) (h1 : w.cell? a = some (.int .i64 who)) : Ret Tryz.prog 82 [.agg (Flat.enc i).toArray, .pointer (some a)].toArray w (Out w (.bool (decide (i.who = who)))) := by
  obtain ⟨iw, it⟩ := i
  rw [show Flat.enc (⟨iw, it⟩ : Inv) = [.int .i64 iw, .int .i64 it] from rfl]
  refine enterH Tryz.func82 rfl rfl Tryz.ntmps82 rfl (Wd.refl _) ?_
  (repeat' (first | (show VH _ _ _ _ _ _ _; first | refine v_seq ?_ | refine r_seq ?_ | refine v_ret ?_) | (show SH _ _ _ _ _ (_ :: _) _ _ _; first | (show SH _ _ _ _ _ (⟨_, .assign _, _, _, _, _⟩ :: _) _ _ _; refine asg evL ?_) | refine eql rfl rfl ?_ | (show SH _ _ _ _ _ (⟨_, .load _ _, _, _, _, _⟩ :: _) _ _ _; first | refine lbx rfl spL (by rfl) ?_ | refine lcell rfl (fun w hw => hw.ext.cell (by assumption)) ?_) | refine fad rfl ?_ | (show SH _ _ _ _ _ (⟨_, .box _ _, _, _, _, _⟩ :: _) _ _ _; refine bxx rfl evL rfl (fun b => ?_))) | refine s_nil ?_ | refine kh_normal ?_))
  exact rh1 rfl rfl ⟨rfl, rfl⟩ (ent_nil _)
def askB (who id : Int) (p : Pty) : Bool := decide (p.id = id) && p.inv.any fun i => decide (i.who = who)
theorem idx_asked (who id : Int) : ∀ (L : List PtyP) (i : Int), idxFrom (fun x : PtyP => askB who id x.p) i L = match askedM who id (ptys L) with | none => -1 | some k => i + (k : Int)
  | [], i => rfl
  | x :: L, i => by
    have hb : askB who id x.p = true ↔ x.p.id = id ∧ who ∈ x.p.inv.map Inv.who := by
      unfold askB
      rw [Bool.and_eq_true, decide_eq_true_eq, List.any_eq_true, List.mem_map]
      simp only [decide_eq_true_eq]
    show idxFrom _ i (x :: L) = match askedM who id (x.p :: ptys L) with | none => -1 | some k => i + (k : Int)
    rw [idxFrom, askedM]
    by_cases h : askB who id x.p = true
    · rw [if_pos h, if_pos (hb.1 h)]; simp
    · rw [if_neg h, if_neg (fun e => h (hb.2 e)), idx_asked who id L (i + 1)]
      cases askedM who id (ptys L) with
      | none => rfl
      | some k => show i + 1 + (k : Int) = i + ((k + 1 : Nat) : Int); omega
theorem asked_lt (who id : Int) : ∀ (L : List PtyP) {k : Nat}, askedM who id (ptys L) = some k → k < L.length
  | [], k, h => by cases h
  | x :: L, k, h => by
    change askedM who id (x.p :: ptys L) = some k at h
    rw [askedM] at h
    split at h
    · injection h with h; subst h; simp
    · cases ha : askedM who id (ptys L) with
      | none => rw [ha] at h; cases h
      | some j => rw [ha] at h; have h2 : some (j + 1) = some k := h; injection h2 with h2; have := asked_lt who id L ha; simp only [List.length_cons]; omega
set_option maxRecDepth 100000 in
theorem ans12_spec (x : PtyP) (who id : Int) (a1 a2 a6 : Addr) (w : World) (hl : x.p.inv.length ≤ 1000000) (hr : Rd w x.B x.p.inv) (h1 : w.cell? a1 = some (.int .i64 who)) (h2 : w.cell? a2 = some (.int .i64 id)) (h6 : w.cell? a6 = some (.func (.func 82) #[] #[.pointer (some a1)])) :
    Ret Tryz.prog 83 [.agg (Flat.enc x).toArray, .pointer (some a2), .pointer (some a6)].toArray w (Out w (.bool (askB who id x.p))) := by
  have hc := fun w' (he : Ext w w') => containsFuncI_spec x.B x.p.inv x.cb _ (fun i => decide (i.who = who)) w' (by omega) (hr.ext he) (fun1_cap (c := .pointer (some a1)) fun w2 he2 i _ => ans11_spec i who a1 w2 (he2.cell (he.cell h1)))
  obtain ⟨⟨xi, xl, xm, xv⟩, xA, xca, xB, xcb⟩ := x
  unfold askB
  simp only at hc hr hl ⊢
  rw [show Flat.enc (⟨⟨xi, xl, xm, xv⟩, xA, xca, xB, xcb⟩ : PtyP) = [.int .i64 xi, .int .i64 xl, .slice xA xm.length xca, .slice xB xv.length xcb] from rfl]
  by_cases h : xi = id
  · rw [decide_eq_true h, Bool.true_and]
    refine enterH Tryz.func83 rfl rfl Tryz.ntmps83 rfl (Wd.refl _) ?_
    (repeat' (first | (show VH _ _ _ _ _ _ _; first | refine v_seq ?_ | refine r_seq ?_ | refine v_ret ?_) | (show SH _ _ _ _ _ (_ :: _) _ _ _; first | (show SH _ _ _ _ _ (⟨_, _, _, _, _, some _⟩ :: _) _ _ _; (refine gif rfl rfl ?_; refine giTT tbL ?_)) | (show SH _ _ _ _ _ (⟨_, .move _, _, _, _, _⟩ :: _) _ _ _; refine mov evL ?_) | (show SH _ _ _ _ _ (⟨_, .assign _, _, _, _, _⟩ :: _) _ _ _; refine asg evL ?_) | (show SH _ _ _ _ _ (⟨_, .binOp .eql _ _ _ _, _, _, _, _⟩ :: _) _ _ _; refine eqlT rfl rfl omD ?_) | (show SH _ _ _ _ _ (⟨_, .load _ _, _, _, _, _⟩ :: _) _ _ _; first | refine lbx rfl spL (by rfl) ?_ | refine lcell rfl (fun w hw => hw.ext.cell (by assumption)) ?_) | (show SH _ _ _ _ _ (⟨_, .call ⟨.value (.func 84), _, _⟩, _, _, _, _⟩ :: _) _ _ _; refine cl (callee := .func 84) rfl (fun w hw => hc w hw.ext) rfl rfl ?_) | (show SH _ _ _ _ _ (⟨_, .pick _ _ _, _, _, _, _⟩ :: _) _ _ _; refine pkt rfl tbL evL ?_) | refine fad rfl ?_ | (show SH _ _ _ _ _ (⟨_, .box _ _, _, _, _, _⟩ :: _) _ _ _; refine bxx rfl evL rfl (fun b => ?_))) | refine s_nil ?_ | refine kh_normal ?_))
    exact rh1 rfl rfl ⟨rfl, rfl⟩ (ent_nil _)
  · rw [decide_eq_false h, Bool.false_and]
    refine enterH Tryz.func83 rfl rfl Tryz.ntmps83 rfl (Wd.refl _) ?_
    (repeat' (first | (show VH _ _ _ _ _ _ _; first | refine v_seq ?_ | refine r_seq ?_ | refine v_ret ?_) | (show SH _ _ _ _ _ (_ :: _) _ _ _; first | (show SH _ _ _ _ _ (⟨_, _, _, _, _, some _⟩ :: _) _ _ _; (refine gif rfl rfl ?_; refine giTF tbL ?_)) | (show SH _ _ _ _ _ (⟨_, .move _, _, _, _, _⟩ :: _) _ _ _; refine mov evL ?_) | (show SH _ _ _ _ _ (⟨_, .assign _, _, _, _, _⟩ :: _) _ _ _; refine asg evL ?_) | (show SH _ _ _ _ _ (⟨_, .binOp .eql _ _ _ _, _, _, _, _⟩ :: _) _ _ _; refine eqlF rfl rfl omD ?_) | (show SH _ _ _ _ _ (⟨_, .load _ _, _, _, _, _⟩ :: _) _ _ _; first | refine lbx rfl spL (by rfl) ?_ | refine lcell rfl (fun w hw => hw.ext.cell (by assumption)) ?_) | (show SH _ _ _ _ _ (⟨_, .pick _ _ _, _, _, _, _⟩ :: _) _ _ _; refine pkf rfl tbL evL ?_) | refine fad rfl ?_ | (show SH _ _ _ _ _ (⟨_, .box _ _, _, _, _, _⟩ :: _) _ _ _; refine bxx rfl evL rfl (fun b => ?_))) | refine s_nil ?_ | refine kh_normal ?_))
    exact rh1 rfl rfl ⟨rfl, rfl⟩ (ent_nil _)
set_option maxRecDepth 100000 in
theorem ans13_spec (x : PtyP) (i : Inv) (who id : Int) (yes : Bool) (a1 a2 a3 a6 : Addr) (w : World) (h1 : w.cell? a1 = some (.int .i64 who)) (h2 : w.cell? a2 = some (.int .i64 id)) (h3 : w.cell? a3 = some (.bool yes)) (h6 : w.cell? a6 = some (.func (.func 82) #[] #[.pointer (some a1)])) :
    Ret Tryz.prog 85 [.agg (Flat.enc x).toArray, .agg (Flat.enc i).toArray, .pointer (some a6), .pointer (some a3), .pointer (some a2)].toArray w (Out w (.bool (decide (i.who = who) && (yes || decide (x.p.id = id))))) := by
  have hm := fun w' (he : Ext w w') => ans11_spec i who a1 w' (he.cell h1)
  obtain ⟨⟨xi, xl, xm, xv⟩, xA, xca, xB, xcb⟩ := x
  simp only at hm ⊢
  rw [show Flat.enc (⟨⟨xi, xl, xm, xv⟩, xA, xca, xB, xcb⟩ : PtyP) = [.int .i64 xi, .int .i64 xl, .slice xA xm.length xca, .slice xB xv.length xcb] from rfl]
  by_cases hw0 : i.who = who
  · simp only [decide_eq_true hw0] at hm ⊢
    cases yes with
    | true =>
      refine enterH Tryz.func85 rfl rfl Tryz.ntmps85 rfl (Wd.refl _) ?_
      (repeat' (first | (show VH _ _ _ _ _ _ _; first | refine v_seq ?_ | refine r_seq ?_ | refine v_ret ?_) | (show SH _ _ _ _ _ (_ :: _) _ _ _; first | (show SH _ _ _ _ _ (⟨_, _, _, _, _, some _⟩ :: _) _ _ _; (refine gif rfl rfl ?_; first | refine giTT tbL ?_ | refine giFT tbL ?_)) | (show SH _ _ _ _ _ (⟨_, .move _, _, _, _, _⟩ :: _) _ _ _; refine mov evL ?_) | (show SH _ _ _ _ _ (⟨_, .assign _, _, _, _, _⟩ :: _) _ _ _; refine asg evL ?_) | (show SH _ _ _ _ _ (⟨_, .load _ _, _, _, _, _⟩ :: _) _ _ _; first | refine lba rfl spL (by rfl) ?_ | refine lcell rfl (fun w hw => hw.ext.cell (by assumption)) ?_) | (show SH _ _ _ _ _ (⟨_, .call ⟨.value (.tmp _), _, _⟩, _, _, _, _⟩ :: _) _ _ _; refine cl (callee := .tmp _) rfl (fun w hw => hm w hw.ext) rfl rfl ?_) | (show SH _ _ _ _ _ (⟨_, .pick _ _ _, _, _, _, _⟩ :: _) _ _ _; refine pkt rfl tbL evL ?_) | (show SH _ _ _ _ _ (⟨_, .box _ _, _, _, _, _⟩ :: _) _ _ _; refine bxx rfl evL rfl (fun b => ?_))) | refine s_nil ?_ | refine kh_normal ?_))
      exact rh1 rfl rfl ⟨rfl, rfl⟩ (ent_nil _)
    | false =>
      refine enterH Tryz.func85 rfl rfl Tryz.ntmps85 rfl (Wd.refl _) ?_
      (repeat' (first | (show VH _ _ _ _ _ _ _; first | refine v_seq ?_ | refine r_seq ?_ | refine v_ret ?_) | (show SH _ _ _ _ _ (_ :: _) _ _ _; first | (show SH _ _ _ _ _ (⟨_, _, _, _, _, some _⟩ :: _) _ _ _; (refine gif rfl rfl ?_; first | refine giTT tbL ?_ | refine giFF tbL ?_)) | (show SH _ _ _ _ _ (⟨_, .move _, _, _, _, _⟩ :: _) _ _ _; refine mov evL ?_) | (show SH _ _ _ _ _ (⟨_, .assign _, _, _, _, _⟩ :: _) _ _ _; refine asg evL ?_) | refine eql rfl rfl ?_ | (show SH _ _ _ _ _ (⟨_, .load _ _, _, _, _, _⟩ :: _) _ _ _; first | refine lbx rfl spL (by rfl) ?_ | refine lba rfl spL (by rfl) ?_ | refine lcell rfl (fun w hw => hw.ext.cell (by assumption)) ?_) | (show SH _ _ _ _ _ (⟨_, .call ⟨.value (.tmp _), _, _⟩, _, _, _, _⟩ :: _) _ _ _; refine cl (callee := .tmp _) rfl (fun w hw => hm w hw.ext) rfl rfl ?_) | (show SH _ _ _ _ _ (⟨_, .pick _ _ _, _, _, _, _⟩ :: _) _ _ _; first | refine pkt rfl tbL evL ?_ | refine pkf rfl tbL evL ?_) | refine fad rfl ?_ | (show SH _ _ _ _ _ (⟨_, .box _ _, _, _, _, _⟩ :: _) _ _ _; refine bxx rfl evL rfl (fun b => ?_))) | refine s_nil ?_ | refine kh_normal ?_))
      exact rh1 rfl rfl ⟨congrArg Value.bool (by simp), rfl⟩ (ent_nil _)
  · simp only [decide_eq_false hw0] at hm ⊢
    refine enterH Tryz.func85 rfl rfl Tryz.ntmps85 rfl (Wd.refl _) ?_
    (repeat' (first | (show VH _ _ _ _ _ _ _; first | refine v_seq ?_ | refine r_seq ?_ | refine v_ret ?_) | (show SH _ _ _ _ _ (_ :: _) _ _ _; first | (show SH _ _ _ _ _ (⟨_, _, _, _, _, some _⟩ :: _) _ _ _; first | (refine gif rfl rfl ?_; refine giTF tbL ?_) | refine gu rfl rfl ?_) | (show SH _ _ _ _ _ (⟨_, .move _, _, _, _, _⟩ :: _) _ _ _; refine mov evL ?_) | (show SH _ _ _ _ _ (⟨_, .assign _, _, _, _, _⟩ :: _) _ _ _; refine asg evL ?_) | (show SH _ _ _ _ _ (⟨_, .load _ _, _, _, _, _⟩ :: _) _ _ _; first | refine lba rfl spL (by rfl) ?_ | refine lcell rfl (fun w hw => hw.ext.cell (by assumption)) ?_) | (show SH _ _ _ _ _ (⟨_, .call ⟨.value (.tmp _), _, _⟩, _, _, _, _⟩ :: _) _ _ _; refine cl (callee := .tmp _) rfl (fun w hw => hm w hw.ext) rfl rfl ?_) | (show SH _ _ _ _ _ (⟨_, .pick _ _ _, _, _, _, _⟩ :: _) _ _ _; refine pkf rfl tbL evL ?_) | (show SH _ _ _ _ _ (⟨_, .box _ _, _, _, _, _⟩ :: _) _ _ _; refine bxx rfl evL rfl (fun b => ?_))) | refine s_nil ?_ | refine kh_normal ?_))
    exact rh1 rfl rfl ⟨rfl, rfl⟩ (ent_nil _)
def ansR (t la : Int) (ps : List Pty) (who id : Int) (yes : Bool) : ResP :=
  match askedM who id ps with
  | none => (hal0, 6)
  | some k =>
    let qs := uninvM (fun p i => decide (i.who = who) && (yes || decide (p.id = id))) ps
    (⟨t, la, if yes then qs.set k { qs.getD k pty0 with mem := (qs.getD k pty0).mem ++ [who] } else qs⟩, 0)
theorem ansR0 (t la : Int) (ps : List Pty) (who id : Int) (yes : Bool) : (ansR t la ps who id yes).2 ≠ 0 → (ansR t la ps who id yes).1 = hal0 := by
  unfold ansR
  cases askedM who id ps with
  | none => intro _; rfl
  | some k => intro h; exact absurd rfl h
set_option maxHeartbeats 2000000 in
set_option maxRecDepth 100000 in
theorem ans1_spec (t la : Int) (L0 : List PtyP) (who id : Int) (yes : Bool) (a1 a2 a3 : Addr) (w : World) (h1 : w.cell? a1 = some (.int .i64 who)) (h2 : w.cell? a2 = some (.int .i64 id)) (h3 : w.cell? a3 = some (.bool yes)) :
    Acts w t la L0 81 #[] #[.pointer (some a1), .pointer (some a2), .pointer (some a3)] (ansR t la (ptys L0) who id yes) := by
  refine acts_of (cap := [.pointer (some a1), .pointer (some a2), .pointer (some a3)]) fun w' bh A c L H hz hp hw => ?_
  rw [← hp]
  have hll := hz.len
  have hix := idx_asked who id L 0
  unfold ansR
  refine enterH Tryz.func81 rfl rfl Tryz.ntmps81 rfl (by assumption) ?_
  (repeat' ((fail_if_success (show VH _ _ (.seq (.region 2 _ _) _) _ _ _ _)); first | (show VH _ _ _ _ _ _ _; first | refine v_seq ?_ | refine r_seq ?_) | (show SH _ _ _ _ _ (_ :: _) _ _ _; first | (show SH _ _ _ _ _ (⟨_, .assign _, _, _, _, _⟩ :: _) _ _ _; refine asg evL ?_) | (show SH _ _ _ _ _ (⟨_, .makeFunc _ _ _, _, _, _, _⟩ :: _) _ _ _; refine mf1 evL ?_) | refine al1 rfl (fun b => ?_) | (show SH _ _ _ _ _ (⟨_, .store _ _ _, _, _, _, _⟩ :: _) _ _ _; refine stb rfl rfl evL spL rfl rfl (by first | decide | exact Nat.zero_lt_succ _ | exact of_decide_eq_true rfl) kpL ?_)) | refine s_nil ?_ | refine kh_normal ?_))
  revert b
  intro b6
  have hif := fun (w2 : World) (hw2 : Wd w (bx b6 106 [.func (.func 82) #[] #[.pointer (some a1)]] :: hallH bh t la A c L H) w2) => indexFuncP_spec A L c _ (fun x => askB who id x.p) w2 (by omega) (rows_rd (c := c) enL hw2).1 ⟨83, #[], #[.pointer (some a2), .pointer (some ⟨b6, 0, none⟩)], rfl, fun w3 he x hx => ans12_spec x who id a1 a2 ⟨b6, 0, none⟩ w3 (by have := hz.inv x hx; omega) (((rows_rd (c := c) (L := L) (A := A) enL hw2).ext he).2 x hx).2 (he.cell (hw2.ext.cell h1)) (he.cell (hw2.ext.cell h2)) (he.cell (hw2.cell (cs := [.func (.func 82) #[] #[.pointer (some a1)]]) spL rfl))⟩
  unfold idxOf at hif
  rw [hix] at hif
  clear hix
  cases ha : askedM who id (ptys L) with
  | none =>
    rw [ha] at hif
    simp only at hif ⊢
    (repeat' (first | (show VH _ _ _ _ _ _ _; first | refine v_seq ?_ | refine r_seq ?_ | refine v_ret ?_ | refine v_cond_t rfl tbL ?_) | (show SH _ _ _ _ _ (_ :: _) _ _ _; first | (show SH _ _ _ _ _ (⟨_, .move _, _, _, _, _⟩ :: _) _ _ _; refine mov evL ?_) | (show SH _ _ _ _ _ (⟨_, .assign _, _, _, _, _⟩ :: _) _ _ _; refine asg evL ?_) | (show SH _ _ _ _ _ (⟨_, .binOp .lss _ _ _ _, _, _, _, _⟩ :: _) _ _ _; refine lssT rfl rfl omD ?_) | (show SH _ _ _ _ _ (⟨_, .load _ _, _, _, _, _⟩ :: _) _ _ _; refine lbx rfl spL (by rfl) ?_) | (show SH _ _ _ _ _ (⟨_, .call ⟨.value (.func 59), _, _⟩, _, _, _, _⟩ :: _) _ _ _; refine cl (callee := .func 59) rfl (fun w hw => hif w (Ent.wd enL hw)) rfl rfl ?_) | refine nlc rfl ?_ | refine fad rfl ?_ | (show SH _ _ _ _ _ (⟨_, .makeFunc _ _ _, _, _, _, _⟩ :: _) _ _ _; refine mf2 evL evL ?_)) | refine s_nil ?_ | refine kh_normal ?_ | refine kh_ret ?_))
    exact rh1 rfl rfl ⟨rfl, rfl⟩ enL
  | some k =>
    rw [ha] at hif
    have hk := asked_lt who id L ha
    simp only [Int.zero_add] at hif ⊢
    (repeat' (first | (show VH _ _ _ _ _ _ _; first | refine v_seq ?_ | refine r_seq ?_ | refine v_skip ?_ | refine v_cond_f rfl tbL ?_) | (show SH _ _ _ _ _ (_ :: _) _ _ _; first | (show SH _ _ _ _ _ (⟨_, .move _, _, _, _, _⟩ :: _) _ _ _; refine mov evL ?_) | (show SH _ _ _ _ _ (⟨_, .assign _, _, _, _, _⟩ :: _) _ _ _; refine asg evL ?_) | (show SH _ _ _ _ _ (⟨_, .binOp .lss _ _ _ _, _, _, _, _⟩ :: _) _ _ _; refine lssF rfl rfl omD ?_) | (show SH _ _ _ _ _ (⟨_, .load _ _, _, _, _, _⟩ :: _) _ _ _; refine lbx rfl spL (by rfl) ?_) | (show SH _ _ _ _ _ (⟨_, .call ⟨.value (.func 59), _, _⟩, _, _, _, _⟩ :: _) _ _ _; refine cl (callee := .func 59) rfl (fun w hw => hif w (Ent.wd enL hw)) rfl rfl ?_) | refine nlc rfl ?_ | refine fad rfl ?_ | (show SH _ _ _ _ _ (⟨_, .makeFunc _ _ _, _, _, _, _⟩ :: _) _ _ _; first | refine mf2 evL evL ?_ | refine mf3 evL evL evL ?_)) | refine s_nil ?_ | refine kh_normal ?_))
    refine cm rfl (fun w2 hw2 => uninv_spec t la A L c bh _ (fun p i => decide (i.who = who) && (yes || decide (p.id = id))) w (bx b6 106 [.func (.func 82) #[] #[.pointer (some a1)]] :: H) w2 hz ⟨85, #[], #[.pointer (some ⟨b6, 0, none⟩), .pointer (some a3), .pointer (some a2)], rfl, fun w3 hw3 x i => ans13_spec x i who id yes a1 a2 a3 ⟨b6, 0, none⟩ w3 (hw3.ext.cell h1) (hw3.ext.cell h2) (hw3.ext.cell h3) (hw3.cell (cs := [.func (.func 82) #[] #[.pointer (some a1)]]) spL rfl)⟩ (Ent.wd enL hw2)) rfl rfl ?_
    rintro _ _ rfl
    refine ⟨trivial, ?_⟩
    clear hif
    have hpu := ptys_un (fun p i => decide (i.who = who) && (yes || decide (p.id = id))) L
    rw [← hpu]
    have hMl : (L.map (unP fun p i => decide (i.who = who) && (yes || decide (p.id = id)))).length = L.length := List.length_map ..
    have hMm : ((L.map (unP fun p i => decide (i.who = who) && (yes || decide (p.id = id)))).getD k Flat.dflt).p.mem.length ≤ 1000 := by
      rw [List.getD_eq_getElem?_getD, List.getElem?_map, List.getElem?_eq_getElem hk]
      show (L[k]).p.mem.length ≤ 1000
      exact hz.mem _ (List.getElem_mem hk)
    generalize L.map (unP fun p i => decide (i.who = who) && (yes || decide (p.id = id))) = M at hMl hMm ⊢
    clear hpu
    rw [ptys_at (by omega)]
    cases yes with
    | false =>
      (repeat' (first | (show VH _ _ _ _ _ _ _; first | refine v_seq ?_ | refine r_seq ?_ | refine v_ret ?_ | refine v_skip ?_ | refine v_cond_f rfl tbL ?_) | (show SH _ _ _ _ _ (_ :: _) _ _ _; first | (show SH _ _ _ _ _ (⟨_, .assign _, _, _, _, _⟩ :: _) _ _ _; refine asg evL ?_) | (show SH _ _ _ _ _ (⟨_, .load _ _, _, _, _, _⟩ :: _) _ _ _; refine lcell rfl (fun w hw => hw.ext.cell (by assumption)) ?_)) | refine s_nil ?_ | refine kh_normal ?_))
      exact rh1 rfl rfl ⟨rfl, A, c, M, rfl, rfl⟩ enL
    | true =>
      have hkM : k < M.length := by omega
      obtain ⟨x, hx⟩ : ∃ x, M.getD k Flat.dflt = x := ⟨_, rfl⟩
      have hxE := pty_enc hx
      have hopM : ∀ G, Ent (allH (M.map rowM) :: G) (rowM x :: allH ((M.eraseIdx k).map rowM) :: G) := fun G => by
        have := ent_all_open (f := rowM) (L := M) (k := k) (d := Flat.dflt) (G := G) hkM
        rw [hx] at this
        exact this
      have hcM : ∀ y G, Ent (rowM y :: allH ((M.eraseIdx k).map rowM) :: G) (allH ((M.set k y).map rowM) :: G) := fun y G => ent_all_close hkM
      have hcI : ∀ y : PtyP, rowI y = rowI x → (M.set k y).map rowI = M.map rowI := fun y hy => by
        rw [List.map_set, hy, ← hx]
        exact set_same (f := rowI) hkM
      rw [hx] at hMm ⊢
      have hps := ptys_set M k
      clear hx
      obtain ⟨⟨xi, xl, xm, xv⟩, xA, xca, xB, xcb⟩ := x
      simp only at hMm hxE hopM hcM hcI ⊢
      unfold rowM at hopM
      (repeat' (first | (show VH _ _ _ _ _ _ _; first | refine v_seq ?_ | refine r_seq ?_ | refine v_cond_t rfl tbL ?_) | (show SH _ _ _ _ _ (_ :: _) _ _ _; (show SH _ _ _ _ _ (⟨_, .load _ _, _, _, _, _⟩ :: _) _ _ _; refine lcell rfl (fun w hw => hw.ext.cell (by assumption)) ?_)) | refine s_nil ?_ | refine kh_normal ?_))
      refine VH.ent (G := hb36 bh t la A M c :: orow 3 xA xca xm :: allH ((M.eraseIdx k).map rowM) :: orow 46 A c M :: allH (M.map rowI) :: H) ?_ (Ent.trans (B := allH (M.map rowM) :: hb36 bh t la A M c :: orow 46 A c M :: allH (M.map rowI) :: H) enL ((hopM _).trans enL))
      refine v_some (A := A) (l := M) spL (by omega) (fun hA => ?_)
      refine r_heldT [hb36 bh t la A M c] (tr [(0, true), (1, true), (2, true), (3, true), (4, true), (5, true), (6, true), (7, true), (8, true), (9, true), (10, true), (11, true), (13, true)] (.fork 12 (tr [(14, false), (15, false), (16, false), (17, false), (18, false)] .nil) 14 (tr [(12, false), (15, false), (16, false), (17, false), (18, false)] .nil))) hmix (by kernel_rfl) enL ?_
      (repeat' (first | (show SH _ _ _ _ _ (_ :: _) _ _ _; first | (show SH _ _ _ _ _ (⟨_, .move _, _, _, _, _⟩ :: _) _ _ _; refine mov evL ?_) | (show SH _ _ _ _ _ (⟨_, .load _ _, _, _, _, _⟩ :: _) _ _ _; first | refine lbx rfl spL (by rfl) ?_ | refine lrg rfl (fun _ _ => rdP) (by rfl) omL (by assumption) (by rfl) ?_ | refine lcell rfl (fun w hw => hw.ext.cell (by assumption)) ?_) | (show SH _ _ _ _ _ (⟨_, .indexAddr _ _ _, _, _, _, _⟩ :: _) _ _ _; refine ixq rfl rfl (by assumption) omL omL ?_) | refine nlc rfl ?_ | refine fad rfl ?_ | (show SH _ _ _ _ _ (⟨_, .buildSlice _ _ _, _, _, _, _⟩ :: _) _ _ _; refine bsl (α := Int) rfl rfl (by repeat (first | exact Vals.nil | (apply Vals.cons; rfl))) rfl (by rfl) (by decide) (fun b => ?_))) | refine s_fork ?_ ?_))
      all_goals
        refine app (l := xm) (l2 := [who]) rfl rfl rfl spL (fun w hw => hw.rd spL) rfl rfl rfl (by simp only [List.length_singleton]; omega) (by simp only [List.length_singleton]; omega) (fun A4 c4 => ⟨enL, ?_⟩)
        (repeat' ((show SH _ _ _ _ _ (_ :: _) _ _ _; first | (show SH _ _ _ _ _ (⟨_, .indexAddr _ _ _, _, _, _, _⟩ :: _) _ _ _; refine ix rfl rfl (by with_reducible rfl) (fun _ _ => rdP) (by rfl) omL omL ?_) | refine fad rfl ?_)))
        refine stf (⟨⟨xi, xl, xm ++ [who], xv⟩, A4, c4, xB, xcb⟩ : PtyP) rfl rfl rfl spL rfl hkM rfl rfl (by decide) (by rw [hxE]; rfl) enL ?_
        (repeat' (first | (show VH _ _ _ _ _ _ _; first | refine v_seq ?_ | refine r_seq ?_ | refine v_ret ?_) | (show SH _ _ _ _ _ (_ :: _) _ _ _; (show SH _ _ _ _ _ (⟨_, .assign _, _, _, _, _⟩ :: _) _ _ _; refine asg evL ?_)) | refine s_nil ?_ | refine kh_normal ?_))
        refine rh1 rfl rfl ⟨rfl, A, c, M.set k (⟨⟨xi, xl, xm ++ [who], xv⟩, A4, c4, xB, xcb⟩ : PtyP), hps _, rfl⟩ ?_
        unfold hallH hb36
        rw [hcI (⟨⟨xi, xl, xm ++ [who], xv⟩, A4, c4, xB, xcb⟩ : PtyP) rfl, List.length_set]
        refine Ent.trans (B := rowM (⟨⟨xi, xl, xm ++ [who], xv⟩, A4, c4, xB, xcb⟩ : PtyP) :: allH ((M.eraseIdx k).map rowM) :: hb36 bh t la A M c :: orow 46 A c (M.set k (⟨⟨xi, xl, xm ++ [who], xv⟩, A4, c4, xB, xcb⟩ : PtyP)) :: allH (M.map rowI) :: H) enL ((hcM _ _).trans enL)
set_option maxHeartbeats 1000000 in
set_option maxRecDepth 100000 in
theorem answer_spec (t la : Int) (A : Option Addr) (L : List PtyP) (c : Nat) (who id : Int) (yes : Bool) (w : World) (hz : SzP L) (hr : RdP w A L) : Ret Tryz.prog 43 [hv36 t la A L c, .int .i64 who, .int .i64 id, .bool yes].toArray w (RP w (OutH (answerM ⟨t, la, ptys L⟩ who id yes))) := by
  rw [show answerM ⟨t, la, ptys L⟩ who id yes = if validHal ⟨t, la, ptys L⟩ then ansR t la (ptys L) who id yes else (hal0, 2) from rfl]
  refine enterH Tryz.func43 rfl rfl Tryz.ntmps43 rfl (Wd.refl _) ?_
  (repeat' (first | (show VH _ _ _ _ _ _ _; first | refine v_seq ?_ | refine r_seq ?_) | (show SH _ _ _ _ _ (_ :: _) _ _ _; first | (show SH _ _ _ _ _ (⟨_, .assign _, _, _, _, _⟩ :: _) _ _ _; refine asg evL ?_) | (show SH _ _ _ _ _ (⟨_, .load _ _, _, _, _, _⟩ :: _) _ _ _; refine lba rfl spL (by rfl) ?_) | (show SH _ _ _ _ _ (⟨_, .makeFunc _ _ _, _, _, _, _⟩ :: _) _ _ _; refine mf3 evL evL evL ?_) | refine ala rfl (fun b => ?_) | (show SH _ _ _ _ _ (⟨_, .box _ _, _, _, _, _⟩ :: _) _ _ _; refine bxx rfl evL rfl (fun b => ?_))) | refine s_nil ?_ | refine kh_normal ?_))
  rename_i b4 b5 b6 b7
  refine cp rfl (fun w2 hw => change_spec t la A L c 81 #[] #[.pointer (some ⟨b5, 0, none⟩), .pointer (some ⟨b6, 0, none⟩), .pointer (some ⟨b7, 0, none⟩)] _ w2 hz (hr.ext hw.ext) (ansR0 _ _ _ _ _ _) (fun hv => ans1_spec t la L who id yes _ _ _ w2 (hw.cell (cs := [.int .i64 who]) spL rfl) (hw.cell (cs := [.int .i64 id]) spL rfl) (hw.cell (cs := [.bool yes]) spL rfl))) rfl rfl ?_
  rintro _ _ ⟨A1, c1, L1, hp1, rfl, rfl⟩
  (repeat' (first | refine v_ret ?_ | (show SH _ _ _ _ _ (_ :: _) _ _ _; first | (show SH _ _ _ _ _ (⟨_, .assign _, _, _, _, _⟩ :: _) _ _ _; refine asg evL ?_) | refine extr rfl rfl ?_ | (show SH _ _ _ _ _ (⟨_, .store _ _ _, _, _, _, _⟩ :: _) _ _ _; refine sta rfl rfl rfl spL (by rfl) (by rfl) (by rfl) kpL ?_)) | refine s_nil ?_ | refine kh_normal ?_))
  exact rhC2 rfl rfl rfl rfl (fun w hw => loadVar_bx hw spL (by rfl)) ⟨A1, c1, L1, hp1, rfl, rfl⟩ enL
set_option maxRecDepth 100000 in
theorem accept_spec (t la : Int) (A : Option Addr) (L : List PtyP) (c : Nat) (who id : Int) (w : World) (hz : SzP L) (hr : RdP w A L) : Ret Tryz.prog 14 [hv36 t la A L c, .int .i64 who, .int .i64 id].toArray w (RP w (OutH (answerM ⟨t, la, ptys L⟩ who id true))) := by
  have hl := fun w hr => answer_spec t la A L c who id true w hz hr
  refine enterH Tryz.func14 rfl rfl Tryz.ntmps14 rfl (Wd.refl _) ?_
  (repeat' (first | (show VH _ _ _ _ _ _ _; first | refine v_seq ?_ | refine r_seq ?_) | (show SH _ _ _ _ _ (_ :: _) _ _ _; first | (show SH _ _ _ _ _ (⟨_, .move _, _, _, _, _⟩ :: _) _ _ _; refine mov evL ?_) | (show SH _ _ _ _ _ (⟨_, .assign _, _, _, _, _⟩ :: _) _ _ _; refine asg evL ?_) | (show SH _ _ _ _ _ (⟨_, .load _ _, _, _, _, _⟩ :: _) _ _ _; refine lba rfl spL (by rfl) ?_) | (show SH _ _ _ _ _ (⟨_, .call ⟨.value (.func 43), _, _⟩, _, _, _, _⟩ :: _) _ _ _; refine cp (callee := .func 43) rfl (fun w hw => hl w (hr.ext hw.ext)) rfl rfl ?_) | refine ala rfl (fun b => ?_) | (show SH _ _ _ _ _ (⟨_, .box _ _, _, _, _, _⟩ :: _) _ _ _; refine bxx rfl evL rfl (fun b => ?_))) | refine s_nil ?_ | refine kh_normal ?_))
  rintro _ _ ⟨A1, c1, L1, hp1, rfl, rfl⟩
  (repeat' (first | refine v_ret ?_ | (show SH _ _ _ _ _ (_ :: _) _ _ _; first | (show SH _ _ _ _ _ (⟨_, .assign _, _, _, _, _⟩ :: _) _ _ _; refine asg evL ?_) | refine extr rfl rfl ?_ | (show SH _ _ _ _ _ (⟨_, .store _ _ _, _, _, _, _⟩ :: _) _ _ _; refine sta rfl rfl rfl spL (by rfl) (by rfl) (by rfl) kpL ?_)) | refine s_nil ?_ | refine kh_normal ?_))
  exact rhC2 rfl rfl rfl rfl (fun w hw => loadVar_bx hw spL (by rfl)) ⟨A1, c1, L1, hp1, rfl, rfl⟩ enL
set_option maxRecDepth 100000 in
theorem decline_spec (t la : Int) (A : Option Addr) (L : List PtyP) (c : Nat) (who id : Int) (w : World) (hz : SzP L) (hr : RdP w A L) : Ret Tryz.prog 39 [hv36 t la A L c, .int .i64 who, .int .i64 id].toArray w (RP w (OutH (answerM ⟨t, la, ptys L⟩ who id false))) := by
  have hl := fun w hr => answer_spec t la A L c who id false w hz hr
  refine enterH Tryz.func39 rfl rfl Tryz.ntmps39 rfl (Wd.refl _) ?_
  (repeat' (first | (show VH _ _ _ _ _ _ _; first | refine v_seq ?_ | refine r_seq ?_) | (show SH _ _ _ _ _ (_ :: _) _ _ _; first | (show SH _ _ _ _ _ (⟨_, .move _, _, _, _, _⟩ :: _) _ _ _; refine mov evL ?_) | (show SH _ _ _ _ _ (⟨_, .assign _, _, _, _, _⟩ :: _) _ _ _; refine asg evL ?_) | (show SH _ _ _ _ _ (⟨_, .load _ _, _, _, _, _⟩ :: _) _ _ _; refine lba rfl spL (by rfl) ?_) | (show SH _ _ _ _ _ (⟨_, .call ⟨.value (.func 43), _, _⟩, _, _, _, _⟩ :: _) _ _ _; refine cp (callee := .func 43) rfl (fun w hw => hl w (hr.ext hw.ext)) rfl rfl ?_) | refine ala rfl (fun b => ?_) | (show SH _ _ _ _ _ (⟨_, .box _ _, _, _, _, _⟩ :: _) _ _ _; refine bxx rfl evL rfl (fun b => ?_))) | refine s_nil ?_ | refine kh_normal ?_))
  rintro _ _ ⟨A1, c1, L1, hp1, rfl, rfl⟩
  (repeat' (first | refine v_ret ?_ | (show SH _ _ _ _ _ (_ :: _) _ _ _; first | (show SH _ _ _ _ _ (⟨_, .assign _, _, _, _, _⟩ :: _) _ _ _; refine asg evL ?_) | refine extr rfl rfl ?_ | (show SH _ _ _ _ _ (⟨_, .store _ _ _, _, _, _, _⟩ :: _) _ _ _; refine sta rfl rfl rfl spL (by rfl) (by rfl) (by rfl) kpL ?_)) | refine s_nil ?_ | refine kh_normal ?_))
  exact rhC2 rfl rfl rfl rfl (fun w hw => loadVar_bx hw spL (by rfl)) ⟨A1, c1, L1, hp1, rfl, rfl⟩ enL
end Go.Proofs.YtlfbcoohfnoacaaGreat
