/- marcheslaw36: awake (printed by gen_aw36.py). -/
import Derived.Test.YtlfbcoohfnoacaaGreatYTwp
import Derived.Test.YtlfbcoohfnoacaaGreatYMp
import Derived.Test.YtlfbcoohfnoacaaGreatYWz
import Derived.Test.YtlfbcoohfnoacaaGreatYUwb
set_option linter.unusedSimpArgs false
set_option linter.unusedVariables false
namespace Go.Proofs.YtlfbcoohfnoacaaGreat
open Go.Fw Go.RowKit
/-- A thing that is done. -/
structure Do3 where
  kind : Int
  a : Int
  b : Int
  deriving DecidableEq
instance : Flat Do3 := ⟨3, fun x => [.int .i64 x.kind, .int .i64 x.a, .int .i64 x.b], ⟨0, 0, 0⟩, fun _ => rfl, fun x v hv => by
  simp at hv; rcases hv with rfl | rfl | rfl <;> rfl, by omega⟩
theorem do3_enc {l : List Do3} {k : Nat} {x : Do3} (hx : l.getD k Flat.dflt = x) : Flat.enc (l.getD k Flat.dflt) = [.int .i64 x.kind, .int .i64 x.a, .int .i64 x.b] := by rw [hx]; rfl
/-- A hall that comes out, and an error; its memory is known. -/
def OutK (r : ResP) (v : Value) (H' : List HP) : Prop := ∃ A c L, ptys L = r.1.ps ∧ v = .tuple #[hv36 r.1.tick r.1.last A L c, .int .i64 r.2] ∧ H' = [knp A L]
theorem outK_of {r r' : ResP} {g : FuncId} {args : List Value} {w : World} (e : r = r') (h : Ret Tryz.prog g args.toArray w (RP w (OutH r))) : Ret Tryz.prog g args.toArray w (RP w (OutK r')) := by
  subst e
  exact h.mono fun v w' ⟨H', ⟨A, c, L, hp, hv, hH⟩, hw⟩ => ⟨_, ⟨A, c, L, hp, hv, rfl⟩, Ent.wd (hH ▸ ent_knp) hw⟩
/-- A party that comes out; its memory is known. -/
def OutQ (r : Option Pty) (v : Value) (H' : List HP) : Prop :=
  match r with
  | none => v = .tuple #[.agg #[.int .i64 0, .int .i64 0, .slice none 0 0, .slice none 0 0], .bool false] ∧ H' = []
  | some p => ∃ y : PtyP, y.p = p ∧ v = .tuple #[.agg (Flat.enc y).toArray, .bool true] ∧ H' = [kno fun w => Rd w y.A y.p.mem ∧ Rd w y.B y.p.inv]
theorem ent_party {G : List HP} {y : PtyP} : Ent (rowM y :: rowI y :: G) ((kno fun w => Rd w y.A y.p.mem ∧ Rd w y.B y.p.inv) :: G) :=
  (ent_cons Split.head (ent_kno_row Split.head (ent_refl _))).trans ((ent_kno_row Split.head (ent_refl _)).trans ent_kno_and)
theorem outQ_of {r r' : Option Pty} {g : FuncId} {args : List Value} {w : World} (e : r = r') (h : Ret Tryz.prog g args.toArray w (RP w (OutP r))) : Ret Tryz.prog g args.toArray w (RP w (OutQ r')) := by
  subst e
  cases r with
  | none => exact h
  | some p => exact h.mono fun v w' ⟨H', ⟨y, hp, hv, hH⟩, hw⟩ => ⟨_, ⟨y, hp, hv, rfl⟩, Ent.wd (hH ▸ ent_party) hw⟩
def SzQ (ps : List Pty) : Prop := ps.length ≤ 1000 ∧ ∀ p ∈ ps, p.mem.length ≤ 1000 ∧ p.inv.length ≤ 1000
instance (ps : List Pty) : Decidable (SzQ ps) := inferInstanceAs (Decidable (_ ∧ _))
theorem szQ_sz {L : List PtyP} {ps : List Pty} (hp : ptys L = ps) (h : SzQ ps) : SzP L := by
  subst hp
  exact ⟨by have := h.1; rwa [ptys_len] at this, fun x hx => (h.2 x.p (List.mem_map_of_mem hx)).1, fun x hx => (h.2 x.p (List.mem_map_of_mem hx)).2⟩
theorem ent_kn0 {G : List HP} : Ent G (knp none [] :: G) :=
  Ent.trans (B := orow 46 none 0 ([] : List PtyP) :: allH (([] : List PtyP).map rowM) :: allH (([] : List PtyP).map rowI) :: G) (ent_nilrow (ent_all_nil (ent_all_nil (ent_refl _)))) ent_knp
def awL : List Do3 := [⟨1, 7, 0⟩, ⟨1, 8, 0⟩, ⟨2, 7, 9⟩, ⟨2, 8, 9⟩, ⟨3, 9, 1⟩]
def awH : Nat → Hal
  | 0 => ⟨0, 0, []⟩
  | 1 => ⟨0, 1, [⟨1, 7, [7], []⟩]⟩
  | 2 => ⟨0, 2, [⟨1, 7, [7], []⟩, ⟨2, 8, [8], []⟩]⟩
  | 3 => ⟨0, 2, [⟨1, 7, [7], [⟨9, 600⟩]⟩, ⟨2, 8, [8], []⟩]⟩
  | 4 => ⟨0, 2, [⟨1, 7, [7], [⟨9, 600⟩]⟩, ⟨2, 8, [8], [⟨9, 600⟩]⟩]⟩
  | _ => ⟨0, 2, [⟨1, 7, [7, 9], []⟩, ⟨2, 8, [8], []⟩]⟩
theorem aw_step : ∀ k, k < 5 → doR ⟨0, (awH k).last, (awH k).ps⟩ (awL.getD k Flat.dflt).kind (awL.getD k Flat.dflt).a (awL.getD k Flat.dflt).b = (awH (k + 1), 0)
  | 0, _ => by kernel_rfl
  | 1, _ => by kernel_rfl
  | 2, _ => by kernel_rfl
  | 3, _ => by kernel_rfl
  | 4, _ => by kernel_rfl
  | n + 5, h => by omega
theorem aw_sz : ∀ k, k ≤ 5 → SzQ (awH k).ps
  | 0, _ => by decide
  | 1, _ => by decide
  | 2, _ => by decide
  | 3, _ => by decide
  | 4, _ => by decide
  | 5, _ => by decide
  | n + 6, h => by omega
theorem aw_tick : ∀ k, (awH k).tick = 0
  | 0 => rfl
  | 1 => rfl
  | 2 => rfl
  | 3 => rfl
  | 4 => rfl
  | n + 5 => rfl
set_option maxHeartbeats 8000000 in
set_option maxRecDepth 100000 in
theorem awake36_spec (w : World) : Ret Tryz.prog 6 ([] : List Value).toArray w (Out w (.bool true)) := by
  refine enterH Tryz.func6 rfl rfl Tryz.ntmps6 rfl (Wd.refl _) ?_
  (repeat' (first | (show VH _ _ _ _ _ _ _; first | refine v_seq ?_ | refine r_seq ?_) | (show SH _ _ _ _ _ (_ :: _) _ _ _; first | (show SH _ _ _ _ _ (⟨_, .assign _, _, _, _, _⟩ :: _) _ _ _; refine asg evL ?_) | refine bld rfl rfl ?_ | refine ala rfl (fun b => ?_)) | refine s_nil ?_ | refine kh_normal ?_))
  revert b
  intro b1
  refine bsl (l := awL) rfl rfl (Vals.cons rfl (Vals.cons rfl (Vals.cons rfl (Vals.cons rfl (Vals.cons rfl Vals.nil))))) rfl rfl (by decide) (fun bl => ?_)
  (repeat' (first | (show VH _ _ _ _ _ _ _; first | refine v_seq ?_ | refine r_seq ?_ | refine v_block ?_) | (show SH _ _ _ _ _ (_ :: _) _ _ _; (show SH _ _ _ _ _ (⟨_, .assign _, _, _, _, _⟩ :: _) _ _ _; refine asg evL ?_)) | refine s_nil ?_ | refine kh_normal ?_))
  refine v_norm [(0,_),(1,_),(2,_),(3,_)] heL (fun g => ?_)
  refine VH.ent (G := [bx b1 24 [.int .i64 0, .int .i64 (awH 0).last, .slice none 0 0], knp none [], orow 36 (some ⟨bl, 0, none⟩) 5 awL]) ?_ (ent_kn0.trans enL)
  refine v_loop [(0,0),(3,5),(37,54)] (fun y : Nat × Option Addr × Nat × List PtyP => [(3, .int .i64 y.1)]) (fun y => [bx b1 24 [.int .i64 0, .int .i64 (awH y.1).last, .slice y.2.1 y.2.2.2.length y.2.2.1], knp y.2.1 y.2.2.2, orow 36 (some ⟨bl, 0, none⟩) 5 awL]) (fun y => y.1 ≤ 5 ∧ ptys y.2.2.2 = (awH y.1).ps) (fun y => 5 - y.1) (0, none, 0, []) hsL enL ⟨Nat.zero_le _, rfl⟩ ?_
  rintro ⟨k, A, c, L⟩ g ⟨hk, hp⟩
  simp only [sets]
  simp only at hk hp
  have hlen : awL.length = 5 := rfl
  by_cases hkl : k < 5
  · have hst := aw_step k hkl
    have hz := szQ_sz hp (aw_sz k hk)
    have htk := aw_tick (k + 1)
    rw [← hp] at hst
    obtain ⟨x, hx⟩ : ∃ x, awL.getD k Flat.dflt = x := ⟨_, rfl⟩
    have hxE := do3_enc hx
    rw [hx] at hst
    clear hx
    obtain ⟨xk, xa, xb⟩ := x
    simp only at hst hxE
    have ho := fun w hr => outK_of hst (one36_spec 0 (awH k).last A L c xk xa xb w hz hr)
    unfold OutK at ho
    simp only [htk] at ho
    (repeat' (first | (show VH _ _ _ _ _ _ _; first | refine v_seq ?_ | refine r_seq ?_ | refine v_block ?_ | refine v_skip ?_ | refine v_cond_t rfl tbL ?_) | (show SH _ _ _ _ _ (_ :: _) _ _ _; first | (show SH _ _ _ _ _ (⟨_, .move _, _, _, _, _⟩ :: _) _ _ _; refine mov evL ?_) | (show SH _ _ _ _ _ (⟨_, .binOp .lss _ _ _ _, _, _, _, _⟩ :: _) _ _ _; refine lssT rfl rfl omD ?_) | refine slen rfl ?_) | refine s_nil ?_ | refine kh_normal ?_))
    refine r_heldT [bx b1 24 _, orow 36 (some ⟨bl, 0, none⟩) 5 awL] (tr [(0, true), (1, true), (2, true), (3, true), (4, true)] (.fork 5 (tr [(6, true), (7, true), (8, true), (9, false), (10, false), (11, false)] .nil) 9 (tr [(5, false), (6, false), (7, true), (8, true), (10, false), (11, false)] .nil))) hmix (by kernel_rfl) enL ?_
    (repeat' (first | (show SH _ _ _ _ _ (_ :: _) _ _ _; first | (show SH _ _ _ _ _ (⟨_, .move _, _, _, _, _⟩ :: _) _ _ _; refine mov evL ?_) | (show SH _ _ _ _ _ (⟨_, .load _ _, _, _, _, _⟩ :: _) _ _ _; first | refine lba rfl spL (by rfl) ?_ | refine lag rfl (fun _ _ => rdP) (by rfl) omL (by assumption) ?_) | (show SH _ _ _ _ _ (⟨_, .indexAddr _ _ _, _, _, _, _⟩ :: _) _ _ _; refine ix rfl rfl (by with_reducible rfl) (fun _ _ => rdP) (by rfl) omL omL ?_) | (show SH _ _ _ _ _ (⟨_, .call ⟨.value (.func 13), _, _⟩, _, _, _, _⟩ :: _) _ _ _; refine cp (callee := .func 13) rfl (fun w hw => ho w (Wd.kp hw spL)) rfl rfl ?_) | refine ala rfl (fun b => ?_)) | refine s_fork ?_ ?_))
    all_goals
      rintro _ _ ⟨A1, c1, L1, hp1, rfl, rfl⟩
      (repeat' (first | (show VH _ _ _ _ _ _ _; first | refine v_seq ?_ | refine r_seq ?_ | refine v_skip ?_ | refine v_cond_f rfl tbL ?_) | (show SH _ _ _ _ _ (_ :: _) _ _ _; first | (show SH _ _ _ _ _ (⟨_, .move _, _, _, _, _⟩ :: _) _ _ _; refine mov evL ?_) | (show SH _ _ _ _ _ (⟨_, .assign _, _, _, _, _⟩ :: _) _ _ _; refine asg evL ?_) | (show SH _ _ _ _ _ (⟨_, .binOp .neq _ _ _ _, _, _, _, _⟩ :: _) _ _ _; refine neqF rfl rfl omD ?_) | (show SH _ _ _ _ _ (⟨_, .binOp .add _ _ _ _, _, _, _, _⟩ :: _) _ _ _; refine add rfl rfl inL ?_) | (show SH _ _ _ _ _ (⟨_, .load _ _, _, _, _, _⟩ :: _) _ _ _; refine lba rfl spL (by rfl) ?_) | refine extr rfl rfl ?_ | refine ala rfl (fun b => ?_) | (show SH _ _ _ _ _ (⟨_, .store _ _ _, _, _, _, _⟩ :: _) _ _ _; refine sta rfl rfl rfl spL (by rfl) (by rfl) (by rfl) kpL ?_)) | refine s_nil ?_ | refine kh_normal ?_ | refine bh_normal ?_))
      exact ⟨agL, (k + 1, A1, c1, L1), hsL, enL, ⟨hkl, hp1⟩, by show 5 - (k + 1) < 5 - k; omega⟩
  obtain rfl : k = 5 := by omega
  clear hkl hk
  have hp5 : ptys L = [⟨1, 7, [7, 9], []⟩, ⟨2, 8, [8], []⟩] := hp
  clear hp
  revert A c L
  intro A5 c5 L5 hp5
  have hz5 := szQ_sz hp5 (by decide)
  rw [show (awH 5).last = 2 from rfl]
  (repeat' ((fail_if_success (show VH _ _ (.seq (.region 10 _ _) _) _ _ _ _)); first | (show VH _ _ _ _ _ _ _; first | refine v_seq ?_ | refine r_seq ?_ | refine v_exit ?_ | refine v_cond_f rfl tbL ?_) | (show SH _ _ _ _ _ (_ :: _) _ _ _; first | (show SH _ _ _ _ _ (⟨_, .move _, _, _, _, _⟩ :: _) _ _ _; refine mov evL ?_) | (show SH _ _ _ _ _ (⟨_, .binOp .lss _ _ _ _, _, _, _, _⟩ :: _) _ _ _; refine lssF rfl rfl omD ?_) | refine slen rfl ?_) | refine s_nil ?_ | refine kh_normal ?_ | refine kh_exit ?_ | refine bh_exit ?_))
  (repeat' (first | (show VH _ _ _ _ _ _ _; first | refine v_seq ?_ | refine r_seq ?_) | (show SH _ _ _ _ _ (_ :: _) _ _ _; first | (show SH _ _ _ _ _ (⟨_, .load _ _, _, _, _, _⟩ :: _) _ _ _; refine lba rfl spL (by rfl) ?_) | (show SH _ _ _ _ _ (⟨_, .call ⟨.value (.func 14), _, _⟩, _, _, _, _⟩ :: _) _ _ _; refine cp (callee := .func 14) rfl (fun w hw => outK_of (r' := (hal0, 6)) (by rw [hp5]; kernel_rfl) (accept_spec 0 2 A5 L5 c5 9 2 w hz5 (Wd.kp hw spL))) rfl rfl ?_))))
  rintro _ _ ⟨A10, c10, L10, hp10, rfl, rfl⟩
  try simp only
  (repeat' ((fail_if_success (show VH _ _ (.seq (.region 11 _ _) _) _ _ _ _)); first | (show SH _ _ _ _ _ (_ :: _) _ _ _; first | (show SH _ _ _ _ _ (⟨_, .move _, _, _, _, _⟩ :: _) _ _ _; refine mov evL ?_) | (show SH _ _ _ _ _ (⟨_, .assign _, _, _, _, _⟩ :: _) _ _ _; refine asg evL ?_) | refine extr rfl rfl ?_ | refine ala rfl (fun b => ?_) | (show SH _ _ _ _ _ (⟨_, .store _ _ _, _, _, _, _⟩ :: _) _ _ _; refine sta rfl rfl rfl spL (by rfl) (by rfl) (by rfl) kpL ?_)) | refine s_nil ?_ | refine kh_normal ?_))
  refine v_norm [(1,_),(7,_)] heL (fun g => ?_)
  refine VH.ent (G := [bx b1 24 [.int .i64 0, .int .i64 2, .slice A5 L5.length c5], knp A5 L5]) ?_ enL
  (repeat' (first | (show VH _ _ _ _ _ _ _; first | refine v_seq ?_ | refine r_seq ?_) | (show SH _ _ _ _ _ (_ :: _) _ _ _; first | (show SH _ _ _ _ _ (⟨_, .load _ _, _, _, _, _⟩ :: _) _ _ _; refine lba rfl spL (by rfl) ?_) | (show SH _ _ _ _ _ (⟨_, .call ⟨.value (.func 15), _, _⟩, _, _, _, _⟩ :: _) _ _ _; refine cp (callee := .func 15) rfl (fun w hw => outK_of (r' := (hal0, 362)) (by rw [hp5]; kernel_rfl) (invited_spec 0 2 A5 L5 c5 9 5 w hz5 (Wd.kp hw spL))) rfl rfl ?_))))
  rintro _ _ ⟨A11, c11, L11, hp11, rfl, rfl⟩
  try simp only
  (repeat' ((fail_if_success (show VH _ _ (.seq (.region 12 _ _) _) _ _ _ _)); first | (show SH _ _ _ _ _ (_ :: _) _ _ _; first | (show SH _ _ _ _ _ (⟨_, .move _, _, _, _, _⟩ :: _) _ _ _; refine mov evL ?_) | (show SH _ _ _ _ _ (⟨_, .assign _, _, _, _, _⟩ :: _) _ _ _; refine asg evL ?_) | refine extr rfl rfl ?_ | refine ala rfl (fun b => ?_) | (show SH _ _ _ _ _ (⟨_, .store _ _ _, _, _, _, _⟩ :: _) _ _ _; refine sta rfl rfl rfl spL (by rfl) (by rfl) (by rfl) kpL ?_)) | refine s_nil ?_ | refine kh_normal ?_))
  refine v_norm [(1,_),(7,_),(9,_)] heL (fun g => ?_)
  refine VH.ent (G := [bx b1 24 [.int .i64 0, .int .i64 2, .slice A5 L5.length c5], knp A5 L5]) ?_ enL
  (repeat' (first | (show VH _ _ _ _ _ _ _; first | refine v_seq ?_ | refine r_seq ?_) | (show SH _ _ _ _ _ (_ :: _) _ _ _; first | (show SH _ _ _ _ _ (⟨_, .load _ _, _, _, _, _⟩ :: _) _ _ _; refine lba rfl spL (by rfl) ?_) | (show SH _ _ _ _ _ (⟨_, .call ⟨.value (.func 15), _, _⟩, _, _, _, _⟩ :: _) _ _ _; refine cp (callee := .func 15) rfl (fun w hw => outK_of (r' := (hal0, 361)) (by rw [hp5]; kernel_rfl) (invited_spec 0 2 A5 L5 c5 7 8 w hz5 (Wd.kp hw spL))) rfl rfl ?_))))
  rintro _ _ ⟨A12, c12, L12, hp12, rfl, rfl⟩
  try simp only
  (repeat' ((fail_if_success (show VH _ _ (.seq (.region 13 _ _) _) _ _ _ _)); first | (show SH _ _ _ _ _ (_ :: _) _ _ _; first | (show SH _ _ _ _ _ (⟨_, .move _, _, _, _, _⟩ :: _) _ _ _; refine mov evL ?_) | (show SH _ _ _ _ _ (⟨_, .assign _, _, _, _, _⟩ :: _) _ _ _; refine asg evL ?_) | refine extr rfl rfl ?_ | refine ala rfl (fun b => ?_) | (show SH _ _ _ _ _ (⟨_, .store _ _ _, _, _, _, _⟩ :: _) _ _ _; refine sta rfl rfl rfl spL (by rfl) (by rfl) (by rfl) kpL ?_)) | refine s_nil ?_ | refine kh_normal ?_))
  refine v_norm [(1,_),(7,_),(9,_),(11,_)] heL (fun g => ?_)
  refine VH.ent (G := [bx b1 24 [.int .i64 0, .int .i64 2, .slice A5 L5.length c5], knp A5 L5]) ?_ enL
  (repeat' (first | (show VH _ _ _ _ _ _ _; first | refine v_seq ?_ | refine r_seq ?_) | (show SH _ _ _ _ _ (_ :: _) _ _ _; first | (show SH _ _ _ _ _ (⟨_, .load _ _, _, _, _, _⟩ :: _) _ _ _; refine lba rfl spL (by rfl) ?_) | (show SH _ _ _ _ _ (⟨_, .call ⟨.value (.func 16), _, _⟩, _, _, _, _⟩ :: _) _ _ _; refine cp (callee := .func 16) rfl (fun w hw => outQ_of (r' := some ⟨1, 7, [7, 9], []⟩) (by rw [hp5]; kernel_rfl) (of_spec 0 2 A5 L5 c5 9 w hz5 (Wd.kp hw spL))) rfl rfl ?_))))
  rintro _ _ ⟨⟨⟨y13i, y13l, y13m, y13v⟩, y13A, y13ca, y13B, y13cb⟩, hy, rfl, rfl⟩
  injection hy with e1 e2 e3 e4
  subst e1 e2 e3 e4
  try simp only
  (repeat' ((fail_if_success (show VH _ _ (.seq (.region 14 _ _) _) _ _ _ _)); first | (show SH _ _ _ _ _ (_ :: _) _ _ _; first | (show SH _ _ _ _ _ (⟨_, .move _, _, _, _, _⟩ :: _) _ _ _; refine mov evL ?_) | (show SH _ _ _ _ _ (⟨_, .assign _, _, _, _, _⟩ :: _) _ _ _; refine asg evL ?_) | refine extr rfl rfl ?_ | refine ala rfl (fun b => ?_) | (show SH _ _ _ _ _ (⟨_, .store _ _ _, _, _, _, _⟩ :: _) _ _ _; refine sta rfl rfl rfl spL (by rfl) (by rfl) (by rfl) kpL ?_)) | refine s_nil ?_ | refine kh_normal ?_))
  revert b
  intro bb13
  refine v_norm [(1,_),(7,_),(9,_),(11,_),(12,_),(13,_)] heL (fun g => ?_)
  refine VH.ent (G := [bx b1 24 [.int .i64 0, .int .i64 2, .slice A5 L5.length c5], knp A5 L5, bx bb13 46 [.int .i64 1, .int .i64 7, .slice y13A ([7, 9] : List Int).length y13ca, .slice y13B ([] : List Inv).length y13cb], kno fun w => Rd w y13A ([7, 9] : List Int) ∧ Rd w y13B ([] : List Inv)]) ?_ enL
  (repeat' (first | (show VH _ _ _ _ _ _ _; first | refine v_seq ?_ | refine r_seq ?_) | (show SH _ _ _ _ _ (_ :: _) _ _ _; first | (show SH _ _ _ _ _ (⟨_, .load _ _, _, _, _, _⟩ :: _) _ _ _; refine lba rfl spL (by rfl) ?_) | (show SH _ _ _ _ _ (⟨_, .call ⟨.value (.func 17), _, _⟩, _, _, _, _⟩ :: _) _ _ _; refine cp (callee := .func 17) rfl (fun w hw => outK_of (r' := ((⟨0, 2, [⟨1, 9, [9], []⟩, ⟨2, 8, [8], []⟩]⟩ : Hal), 0)) (by rw [hp5]; kernel_rfl) (leaveO_spec 0 2 A5 L5 c5 7 w hz5 (Wd.kp hw spL))) rfl rfl ?_))))
  rintro _ _ ⟨A14, c14, L14, hp14, rfl, rfl⟩
  try simp only at hp14
  have hz14 := szQ_sz hp14 (by decide)
  try simp only
  (repeat' ((fail_if_success (show VH _ _ (.seq (.region 15 _ _) _) _ _ _ _)); first | (show SH _ _ _ _ _ (_ :: _) _ _ _; first | (show SH _ _ _ _ _ (⟨_, .move _, _, _, _, _⟩ :: _) _ _ _; refine mov evL ?_) | (show SH _ _ _ _ _ (⟨_, .assign _, _, _, _, _⟩ :: _) _ _ _; refine asg evL ?_) | refine extr rfl rfl ?_ | (show SH _ _ _ _ _ (⟨_, .store _ _ _, _, _, _, _⟩ :: _) _ _ _; refine sta rfl rfl rfl spL (by rfl) (by rfl) (by rfl) kpL ?_)) | refine s_nil ?_ | refine kh_normal ?_))
  refine v_norm [(1,_),(7,_),(9,_),(11,_),(12,_),(13,_),(14,_)] heL (fun g => ?_)
  refine VH.ent (G := [bx b1 24 [.int .i64 0, .int .i64 2, .slice A14 L14.length c14], bx bb13 46 [.int .i64 1, .int .i64 7, .slice y13A ([7, 9] : List Int).length y13ca, .slice y13B ([] : List Inv).length y13cb], kno fun w => Rd w y13A ([7, 9] : List Int) ∧ Rd w y13B ([] : List Inv), knp A14 L14]) ?_ enL
  (repeat' (first | (show VH _ _ _ _ _ _ _; first | refine v_seq ?_ | refine r_seq ?_) | (show SH _ _ _ _ _ (_ :: _) _ _ _; first | (show SH _ _ _ _ _ (⟨_, .load _ _, _, _, _, _⟩ :: _) _ _ _; refine lba rfl spL (by rfl) ?_) | (show SH _ _ _ _ _ (⟨_, .call ⟨.value (.func 16), _, _⟩, _, _, _, _⟩ :: _) _ _ _; refine cp (callee := .func 16) rfl (fun w hw => outQ_of (r' := some ⟨1, 9, [9], []⟩) (by rw [hp14]; kernel_rfl) (of_spec 0 2 A14 L14 c14 9 w hz14 (Wd.kp hw spL))) rfl rfl ?_))))
  rintro _ _ ⟨⟨⟨y15i, y15l, y15m, y15v⟩, y15A, y15ca, y15B, y15cb⟩, hy, rfl, rfl⟩
  injection hy with e1 e2 e3 e4
  subst e1 e2 e3 e4
  try simp only
  (repeat' ((fail_if_success (show VH _ _ (.seq (.region 16 _ _) _) _ _ _ _)); first | (show SH _ _ _ _ _ (_ :: _) _ _ _; first | (show SH _ _ _ _ _ (⟨_, .move _, _, _, _, _⟩ :: _) _ _ _; refine mov evL ?_) | (show SH _ _ _ _ _ (⟨_, .assign _, _, _, _, _⟩ :: _) _ _ _; refine asg evL ?_) | refine extr rfl rfl ?_ | refine ala rfl (fun b => ?_) | (show SH _ _ _ _ _ (⟨_, .store _ _ _, _, _, _, _⟩ :: _) _ _ _; refine sta rfl rfl rfl spL (by rfl) (by rfl) (by rfl) kpL ?_)) | refine s_nil ?_ | refine kh_normal ?_))
  revert b
  intro bb15
  refine v_norm [(1,_),(7,_),(9,_),(11,_),(12,_),(13,_),(14,_),(15,_),(16,_)] heL (fun g => ?_)
  refine VH.ent (G := [bx b1 24 [.int .i64 0, .int .i64 2, .slice A14 L14.length c14], bx bb13 46 [.int .i64 1, .int .i64 7, .slice y13A ([7, 9] : List Int).length y13ca, .slice y13B ([] : List Inv).length y13cb], kno fun w => Rd w y13A ([7, 9] : List Int) ∧ Rd w y13B ([] : List Inv), knp A14 L14, bx bb15 46 [.int .i64 1, .int .i64 9, .slice y15A ([9] : List Int).length y15ca, .slice y15B ([] : List Inv).length y15cb], kno fun w => Rd w y15A ([9] : List Int) ∧ Rd w y15B ([] : List Inv)]) ?_ enL
  (repeat' (first | (show VH _ _ _ _ _ _ _; first | refine v_seq ?_ | refine r_seq ?_) | (show SH _ _ _ _ _ (_ :: _) _ _ _; first | (show SH _ _ _ _ _ (⟨_, .load _ _, _, _, _, _⟩ :: _) _ _ _; refine lba rfl spL (by rfl) ?_) | (show SH _ _ _ _ _ (⟨_, .call ⟨.value (.func 17), _, _⟩, _, _, _, _⟩ :: _) _ _ _; refine cp (callee := .func 17) rfl (fun w hw => outK_of (r' := ((⟨0, 2, [⟨2, 8, [8], []⟩]⟩ : Hal), 0)) (by rw [hp14]; kernel_rfl) (leaveO_spec 0 2 A14 L14 c14 9 w hz14 (Wd.kp hw spL))) rfl rfl ?_))))
  rintro _ _ ⟨A16, c16, L16, hp16, rfl, rfl⟩
  try simp only at hp16
  have hz16 := szQ_sz hp16 (by decide)
  try simp only
  (repeat' ((fail_if_success (show VH _ _ (.seq (.region 17 _ _) _) _ _ _ _)); first | (show SH _ _ _ _ _ (_ :: _) _ _ _; first | (show SH _ _ _ _ _ (⟨_, .move _, _, _, _, _⟩ :: _) _ _ _; refine mov evL ?_) | (show SH _ _ _ _ _ (⟨_, .assign _, _, _, _, _⟩ :: _) _ _ _; refine asg evL ?_) | refine extr rfl rfl ?_ | (show SH _ _ _ _ _ (⟨_, .store _ _ _, _, _, _, _⟩ :: _) _ _ _; refine sta rfl rfl rfl spL (by rfl) (by rfl) (by rfl) kpL ?_)) | refine s_nil ?_ | refine kh_normal ?_))
  refine v_norm [(1,_),(7,_),(9,_),(11,_),(12,_),(13,_),(14,_),(15,_),(16,_),(17,_)] heL (fun g => ?_)
  refine VH.ent (G := [bx b1 24 [.int .i64 0, .int .i64 2, .slice A16 L16.length c16], bx bb13 46 [.int .i64 1, .int .i64 7, .slice y13A ([7, 9] : List Int).length y13ca, .slice y13B ([] : List Inv).length y13cb], kno fun w => Rd w y13A ([7, 9] : List Int) ∧ Rd w y13B ([] : List Inv), bx bb15 46 [.int .i64 1, .int .i64 9, .slice y15A ([9] : List Int).length y15ca, .slice y15B ([] : List Inv).length y15cb], kno fun w => Rd w y15A ([9] : List Int) ∧ Rd w y15B ([] : List Inv), knp A16 L16]) ?_ enL
  (repeat' (first | (show VH _ _ _ _ _ _ _; first | refine v_seq ?_ | refine r_seq ?_) | (show SH _ _ _ _ _ (_ :: _) _ _ _; first | (show SH _ _ _ _ _ (⟨_, .load _ _, _, _, _, _⟩ :: _) _ _ _; refine lba rfl spL (by rfl) ?_) | (show SH _ _ _ _ _ (⟨_, .call ⟨.value (.func 18), _, _⟩, _, _, _, _⟩ :: _) _ _ _; refine cp (callee := .func 18) rfl (fun w hw => outK_of (r' := ((⟨0, 3, [⟨2, 8, [8], []⟩, ⟨3, 9, [9], []⟩]⟩ : Hal), 0)) (by rw [hp16]; kernel_rfl) (create_spec 0 2 A16 L16 c16 9 w hz16 (Wd.kp hw spL))) rfl rfl ?_))))
  rintro _ _ ⟨A17, c17, L17, hp17, rfl, rfl⟩
  try simp only at hp17
  have hz17 := szQ_sz hp17 (by decide)
  try simp only
  (repeat' ((fail_if_success (show VH _ _ (.seq (.region 18 _ _) _) _ _ _ _)); first | (show SH _ _ _ _ _ (_ :: _) _ _ _; first | (show SH _ _ _ _ _ (⟨_, .move _, _, _, _, _⟩ :: _) _ _ _; refine mov evL ?_) | (show SH _ _ _ _ _ (⟨_, .assign _, _, _, _, _⟩ :: _) _ _ _; refine asg evL ?_) | refine extr rfl rfl ?_ | (show SH _ _ _ _ _ (⟨_, .store _ _ _, _, _, _, _⟩ :: _) _ _ _; refine sta rfl rfl rfl spL (by rfl) (by rfl) (by rfl) kpL ?_)) | refine s_nil ?_ | refine kh_normal ?_))
  refine v_norm [(1,_),(7,_),(9,_),(11,_),(12,_),(13,_),(14,_),(15,_),(16,_),(17,_),(18,_)] heL (fun g => ?_)
  refine VH.ent (G := [bx b1 24 [.int .i64 0, .int .i64 3, .slice A17 L17.length c17], bx bb13 46 [.int .i64 1, .int .i64 7, .slice y13A ([7, 9] : List Int).length y13ca, .slice y13B ([] : List Inv).length y13cb], kno fun w => Rd w y13A ([7, 9] : List Int) ∧ Rd w y13B ([] : List Inv), bx bb15 46 [.int .i64 1, .int .i64 9, .slice y15A ([9] : List Int).length y15ca, .slice y15B ([] : List Inv).length y15cb], kno fun w => Rd w y15A ([9] : List Int) ∧ Rd w y15B ([] : List Inv), knp A17 L17]) ?_ enL
  (repeat' (first | (show VH _ _ _ _ _ _ _; first | refine v_seq ?_ | refine r_seq ?_) | (show SH _ _ _ _ _ (_ :: _) _ _ _; first | (show SH _ _ _ _ _ (⟨_, .load _ _, _, _, _, _⟩ :: _) _ _ _; refine lba rfl spL (by rfl) ?_) | (show SH _ _ _ _ _ (⟨_, .call ⟨.value (.func 15), _, _⟩, _, _, _, _⟩ :: _) _ _ _; refine cp (callee := .func 15) rfl (fun w hw => outK_of (r' := ((⟨0, 3, [⟨2, 8, [8], []⟩, ⟨3, 9, [9], [⟨1, 600⟩]⟩]⟩ : Hal), 0)) (by rw [hp17]; kernel_rfl) (invited_spec 0 3 A17 L17 c17 9 1 w hz17 (Wd.kp hw spL))) rfl rfl ?_))))
  rintro _ _ ⟨A18, c18, L18, hp18, rfl, rfl⟩
  try simp only at hp18
  have hz18 := szQ_sz hp18 (by decide)
  try simp only
  (repeat' ((fail_if_success (show VH _ _ (.seq (.region 19 _ _) _) _ _ _ _)); first | (show SH _ _ _ _ _ (_ :: _) _ _ _; first | (show SH _ _ _ _ _ (⟨_, .move _, _, _, _, _⟩ :: _) _ _ _; refine mov evL ?_) | (show SH _ _ _ _ _ (⟨_, .assign _, _, _, _, _⟩ :: _) _ _ _; refine asg evL ?_) | refine extr rfl rfl ?_ | (show SH _ _ _ _ _ (⟨_, .store _ _ _, _, _, _, _⟩ :: _) _ _ _; refine sta rfl rfl rfl spL (by rfl) (by rfl) (by rfl) kpL ?_)) | refine s_nil ?_ | refine kh_normal ?_))
  refine v_norm [(1,_),(7,_),(9,_),(11,_),(12,_),(13,_),(14,_),(15,_),(16,_),(17,_),(18,_),(19,_)] heL (fun g => ?_)
  refine VH.ent (G := [bx b1 24 [.int .i64 0, .int .i64 3, .slice A18 L18.length c18], bx bb13 46 [.int .i64 1, .int .i64 7, .slice y13A ([7, 9] : List Int).length y13ca, .slice y13B ([] : List Inv).length y13cb], kno fun w => Rd w y13A ([7, 9] : List Int) ∧ Rd w y13B ([] : List Inv), bx bb15 46 [.int .i64 1, .int .i64 9, .slice y15A ([9] : List Int).length y15ca, .slice y15B ([] : List Inv).length y15cb], kno fun w => Rd w y15A ([9] : List Int) ∧ Rd w y15B ([] : List Inv), knp A18 L18]) ?_ enL
  (repeat' (first | (show VH _ _ _ _ _ _ _; first | refine v_seq ?_ | refine r_seq ?_) | (show SH _ _ _ _ _ (_ :: _) _ _ _; first | (show SH _ _ _ _ _ (⟨_, .load _ _, _, _, _, _⟩ :: _) _ _ _; refine lba rfl spL (by rfl) ?_) | (show SH _ _ _ _ _ (⟨_, .call ⟨.value (.func 15), _, _⟩, _, _, _, _⟩ :: _) _ _ _; refine cp (callee := .func 15) rfl (fun w hw => outK_of (r' := ((⟨0, 3, [⟨2, 8, [8], []⟩, ⟨3, 9, [9], [⟨1, 600⟩, ⟨2, 600⟩]⟩]⟩ : Hal), 0)) (by rw [hp18]; kernel_rfl) (invited_spec 0 3 A18 L18 c18 9 2 w hz18 (Wd.kp hw spL))) rfl rfl ?_))))
  rintro _ _ ⟨A19, c19, L19, hp19, rfl, rfl⟩
  try simp only at hp19
  have hz19 := szQ_sz hp19 (by decide)
  try simp only
  (repeat' ((fail_if_success (show VH _ _ (.seq (.region 20 _ _) _) _ _ _ _)); first | (show SH _ _ _ _ _ (_ :: _) _ _ _; first | (show SH _ _ _ _ _ (⟨_, .move _, _, _, _, _⟩ :: _) _ _ _; refine mov evL ?_) | (show SH _ _ _ _ _ (⟨_, .assign _, _, _, _, _⟩ :: _) _ _ _; refine asg evL ?_) | refine extr rfl rfl ?_ | (show SH _ _ _ _ _ (⟨_, .store _ _ _, _, _, _, _⟩ :: _) _ _ _; refine sta rfl rfl rfl spL (by rfl) (by rfl) (by rfl) kpL ?_)) | refine s_nil ?_ | refine kh_normal ?_))
  refine v_norm [(1,_),(7,_),(9,_),(11,_),(12,_),(13,_),(14,_),(15,_),(16,_),(17,_),(18,_),(19,_),(20,_)] heL (fun g => ?_)
  refine VH.ent (G := [bx b1 24 [.int .i64 0, .int .i64 3, .slice A19 L19.length c19], bx bb13 46 [.int .i64 1, .int .i64 7, .slice y13A ([7, 9] : List Int).length y13ca, .slice y13B ([] : List Inv).length y13cb], kno fun w => Rd w y13A ([7, 9] : List Int) ∧ Rd w y13B ([] : List Inv), bx bb15 46 [.int .i64 1, .int .i64 9, .slice y15A ([9] : List Int).length y15ca, .slice y15B ([] : List Inv).length y15cb], kno fun w => Rd w y15A ([9] : List Int) ∧ Rd w y15B ([] : List Inv), knp A19 L19]) ?_ enL
  (repeat' (first | (show VH _ _ _ _ _ _ _; first | refine v_seq ?_ | refine r_seq ?_) | (show SH _ _ _ _ _ (_ :: _) _ _ _; first | (show SH _ _ _ _ _ (⟨_, .load _ _, _, _, _, _⟩ :: _) _ _ _; refine lba rfl spL (by rfl) ?_) | (show SH _ _ _ _ _ (⟨_, .call ⟨.value (.func 19), _, _⟩, _, _, _, _⟩ :: _) _ _ _; refine cp (callee := .func 19) rfl (fun w hw => outK_of (r' := ((⟨599, 3, [⟨2, 8, [8], []⟩, ⟨3, 9, [9], [⟨1, 600⟩, ⟨2, 600⟩]⟩]⟩ : Hal), 0)) (by rw [hp19]; kernel_rfl) (advance_spec 0 3 A19 L19 c19 599 w hz19 (Wd.kp hw spL))) rfl rfl ?_))))
  rintro _ _ ⟨A20, c20, L20, hp20, rfl, rfl⟩
  try simp only at hp20
  have hz20 := szQ_sz hp20 (by decide)
  try simp only
  (repeat' ((fail_if_success (show VH _ _ (.seq (.region 21 _ _) _) _ _ _ _)); first | (show SH _ _ _ _ _ (_ :: _) _ _ _; first | (show SH _ _ _ _ _ (⟨_, .move _, _, _, _, _⟩ :: _) _ _ _; refine mov evL ?_) | (show SH _ _ _ _ _ (⟨_, .assign _, _, _, _, _⟩ :: _) _ _ _; refine asg evL ?_) | refine extr rfl rfl ?_ | refine ala rfl (fun b => ?_) | (show SH _ _ _ _ _ (⟨_, .store _ _ _, _, _, _, _⟩ :: _) _ _ _; refine sta rfl rfl rfl spL (by rfl) (by rfl) (by rfl) kpL ?_)) | refine s_nil ?_ | refine kh_normal ?_))
  revert b
  intro bb20
  refine v_norm [(1,_),(7,_),(9,_),(11,_),(12,_),(13,_),(14,_),(15,_),(16,_),(17,_),(18,_),(19,_),(20,_),(21,_),(22,_)] heL (fun g => ?_)
  refine VH.ent (G := [bx b1 24 [.int .i64 0, .int .i64 3, .slice A19 L19.length c19], bx bb13 46 [.int .i64 1, .int .i64 7, .slice y13A ([7, 9] : List Int).length y13ca, .slice y13B ([] : List Inv).length y13cb], kno fun w => Rd w y13A ([7, 9] : List Int) ∧ Rd w y13B ([] : List Inv), bx bb15 46 [.int .i64 1, .int .i64 9, .slice y15A ([9] : List Int).length y15ca, .slice y15B ([] : List Inv).length y15cb], kno fun w => Rd w y15A ([9] : List Int) ∧ Rd w y15B ([] : List Inv), knp A19 L19, bx bb20 24 [.int .i64 599, .int .i64 3, .slice A20 L20.length c20], knp A20 L20]) ?_ enL
  (repeat' (first | (show VH _ _ _ _ _ _ _; first | refine v_seq ?_ | refine r_seq ?_) | (show SH _ _ _ _ _ (_ :: _) _ _ _; first | (show SH _ _ _ _ _ (⟨_, .load _ _, _, _, _, _⟩ :: _) _ _ _; refine lba rfl spL (by rfl) ?_) | (show SH _ _ _ _ _ (⟨_, .call ⟨.value (.func 14), _, _⟩, _, _, _, _⟩ :: _) _ _ _; refine cp (callee := .func 14) rfl (fun w hw => outK_of (r' := ((⟨599, 3, [⟨2, 8, [8], []⟩, ⟨3, 9, [9, 1], [⟨2, 600⟩]⟩]⟩ : Hal), 0)) (by rw [hp20]; kernel_rfl) (accept_spec 599 3 A20 L20 c20 1 3 w hz20 (Wd.kp hw spL))) rfl rfl ?_))))
  rintro _ _ ⟨A21, c21, L21, hp21, rfl, rfl⟩
  try simp only
  (repeat' ((fail_if_success (show VH _ _ (.seq (.region 22 _ _) _) _ _ _ _)); first | (show SH _ _ _ _ _ (_ :: _) _ _ _; first | (show SH _ _ _ _ _ (⟨_, .move _, _, _, _, _⟩ :: _) _ _ _; refine mov evL ?_) | (show SH _ _ _ _ _ (⟨_, .assign _, _, _, _, _⟩ :: _) _ _ _; refine asg evL ?_) | refine extr rfl rfl ?_ | refine ala rfl (fun b => ?_) | (show SH _ _ _ _ _ (⟨_, .store _ _ _, _, _, _, _⟩ :: _) _ _ _; refine sta rfl rfl rfl spL (by rfl) (by rfl) (by rfl) kpL ?_)) | refine s_nil ?_ | refine kh_normal ?_))
  refine v_norm [(1,_),(7,_),(9,_),(11,_),(12,_),(13,_),(14,_),(15,_),(16,_),(17,_),(18,_),(19,_),(20,_),(21,_),(22,_),(24,_)] heL (fun g => ?_)
  refine VH.ent (G := [bx b1 24 [.int .i64 0, .int .i64 3, .slice A19 L19.length c19], bx bb13 46 [.int .i64 1, .int .i64 7, .slice y13A ([7, 9] : List Int).length y13ca, .slice y13B ([] : List Inv).length y13cb], kno fun w => Rd w y13A ([7, 9] : List Int) ∧ Rd w y13B ([] : List Inv), bx bb15 46 [.int .i64 1, .int .i64 9, .slice y15A ([9] : List Int).length y15ca, .slice y15B ([] : List Inv).length y15cb], kno fun w => Rd w y15A ([9] : List Int) ∧ Rd w y15B ([] : List Inv), knp A19 L19, bx bb20 24 [.int .i64 599, .int .i64 3, .slice A20 L20.length c20], knp A20 L20]) ?_ enL
  (repeat' (first | (show VH _ _ _ _ _ _ _; first | refine v_seq ?_ | refine r_seq ?_) | (show SH _ _ _ _ _ (_ :: _) _ _ _; first | (show SH _ _ _ _ _ (⟨_, .load _ _, _, _, _, _⟩ :: _) _ _ _; refine lba rfl spL (by rfl) ?_) | (show SH _ _ _ _ _ (⟨_, .call ⟨.value (.func 19), _, _⟩, _, _, _, _⟩ :: _) _ _ _; refine cp (callee := .func 19) rfl (fun w hw => outK_of (r' := ((⟨600, 3, [⟨2, 8, [8], []⟩, ⟨3, 9, [9], []⟩]⟩ : Hal), 0)) (by rw [hp19]; kernel_rfl) (advance_spec 0 3 A19 L19 c19 600 w hz19 (Wd.kp hw spL))) rfl rfl ?_))))
  rintro _ _ ⟨A22, c22, L22, hp22, rfl, rfl⟩
  try simp only at hp22
  have hz22 := szQ_sz hp22 (by decide)
  try simp only
  (repeat' ((fail_if_success (show VH _ _ (.seq (.region 23 _ _) _) _ _ _ _)); first | (show SH _ _ _ _ _ (_ :: _) _ _ _; first | (show SH _ _ _ _ _ (⟨_, .move _, _, _, _, _⟩ :: _) _ _ _; refine mov evL ?_) | (show SH _ _ _ _ _ (⟨_, .assign _, _, _, _, _⟩ :: _) _ _ _; refine asg evL ?_) | refine extr rfl rfl ?_ | refine ala rfl (fun b => ?_) | (show SH _ _ _ _ _ (⟨_, .store _ _ _, _, _, _, _⟩ :: _) _ _ _; refine sta rfl rfl rfl spL (by rfl) (by rfl) (by rfl) kpL ?_)) | refine s_nil ?_ | refine kh_normal ?_))
  revert b
  intro bb22
  refine v_norm [(1,_),(7,_),(9,_),(11,_),(12,_),(13,_),(14,_),(15,_),(16,_),(17,_),(18,_),(19,_),(20,_),(21,_),(22,_),(24,_),(25,_),(26,_)] heL (fun g => ?_)
  refine VH.ent (G := [bx b1 24 [.int .i64 0, .int .i64 3, .slice A19 L19.length c19], bx bb13 46 [.int .i64 1, .int .i64 7, .slice y13A ([7, 9] : List Int).length y13ca, .slice y13B ([] : List Inv).length y13cb], kno fun w => Rd w y13A ([7, 9] : List Int) ∧ Rd w y13B ([] : List Inv), bx bb15 46 [.int .i64 1, .int .i64 9, .slice y15A ([9] : List Int).length y15ca, .slice y15B ([] : List Inv).length y15cb], kno fun w => Rd w y15A ([9] : List Int) ∧ Rd w y15B ([] : List Inv), knp A19 L19, bx bb20 24 [.int .i64 599, .int .i64 3, .slice A20 L20.length c20], knp A20 L20, bx bb22 24 [.int .i64 600, .int .i64 3, .slice A22 L22.length c22], knp A22 L22]) ?_ enL
  (repeat' (first | (show VH _ _ _ _ _ _ _; first | refine v_seq ?_ | refine r_seq ?_) | (show SH _ _ _ _ _ (_ :: _) _ _ _; first | (show SH _ _ _ _ _ (⟨_, .load _ _, _, _, _, _⟩ :: _) _ _ _; refine lba rfl spL (by rfl) ?_) | (show SH _ _ _ _ _ (⟨_, .call ⟨.value (.func 14), _, _⟩, _, _, _, _⟩ :: _) _ _ _; refine cp (callee := .func 14) rfl (fun w hw => outK_of (r' := (hal0, 6)) (by rw [hp22]; kernel_rfl) (accept_spec 600 3 A22 L22 c22 1 3 w hz22 (Wd.kp hw spL))) rfl rfl ?_))))
  rintro _ _ ⟨A23, c23, L23, hp23, rfl, rfl⟩
  try simp only
  (repeat' ((fail_if_success (show VH _ _ (.seq (.region 24 _ _) _) _ _ _ _)); first | refine v_seq ?_ | (show SH _ _ _ _ _ (_ :: _) _ _ _; first | (show SH _ _ _ _ _ (⟨_, .move _, _, _, _, _⟩ :: _) _ _ _; refine mov evL ?_) | (show SH _ _ _ _ _ (⟨_, .assign _, _, _, _, _⟩ :: _) _ _ _; refine asg evL ?_) | refine extr rfl rfl ?_ | refine ala rfl (fun b => ?_) | (show SH _ _ _ _ _ (⟨_, .store _ _ _, _, _, _, _⟩ :: _) _ _ _; refine sta rfl rfl rfl spL (by rfl) (by rfl) (by rfl) kpL ?_)) | refine s_nil ?_ | refine kh_normal ?_))
  refine v_norm [(1,_),(7,_),(9,_),(11,_),(12,_),(13,_),(14,_),(15,_),(16,_),(17,_),(18,_),(19,_),(20,_),(21,_),(22,_),(24,_),(25,_),(26,_),(28,_)] heL (fun g => ?_)
  refine VH.ent (G := [bx b1 24 [.int .i64 0, .int .i64 3, .slice A19 L19.length c19], bx bb13 46 [.int .i64 1, .int .i64 7, .slice y13A ([7, 9] : List Int).length y13ca, .slice y13B ([] : List Inv).length y13cb], kno fun w => Rd w y13A ([7, 9] : List Int) ∧ Rd w y13B ([] : List Inv), bx bb15 46 [.int .i64 1, .int .i64 9, .slice y15A ([9] : List Int).length y15ca, .slice y15B ([] : List Inv).length y15cb], kno fun w => Rd w y15A ([9] : List Int) ∧ Rd w y15B ([] : List Inv), knp A19 L19, bx bb20 24 [.int .i64 599, .int .i64 3, .slice A20 L20.length c20], knp A20 L20, bx bb22 24 [.int .i64 600, .int .i64 3, .slice A22 L22.length c22], knp A22 L22]) ?_ enL
  have hva : validHal ⟨0, 3, ptys L19⟩ = true := by rw [hp19]; kernel_rfl
  have hvs := fun w hr => hva ▸ valid_spec 0 3 A19 L19 c19 w hz19 hr
  have hsh : shareM ⟨599, 3, ptys L20⟩ 3 11 = ([11], 0) := by rw [hp20]; kernel_rfl
  have hss := fun w hr => share_spec 599 3 A20 L20 c20 3 11 w hz20 hr
  rw [hsh] at hss
  clear hva hsh
  (repeat' (first | (show VH _ _ _ _ _ _ _; first | refine v_seq ?_ | refine r_seq ?_ | refine v_skip ?_ | refine v_cond_f rfl tbL ?_) | (show SH _ _ _ _ _ (_ :: _) _ _ _; first | (show SH _ _ _ _ _ (⟨_, _, _, _, _, some _⟩ :: _) _ _ _; (refine gif rfl rfl ?_; refine giFF tbL ?_)) | (show SH _ _ _ _ _ (⟨_, .move _, _, _, _, _⟩ :: _) _ _ _; refine mov evL ?_) | (show SH _ _ _ _ _ (⟨_, .binOp .neq _ _ _ _, _, _, _, _⟩ :: _) _ _ _; refine neqF rfl rfl omD ?_) | (show SH _ _ _ _ _ (⟨_, .binOp .add _ _ _ _, _, _, _, _⟩ :: _) _ _ _; refine add rfl rfl inL ?_) | (show SH _ _ _ _ _ (⟨_, .load _ _, _, _, _, _⟩ :: _) _ _ _; refine lba rfl spL (by rfl) ?_) | (show SH _ _ _ _ _ (⟨_, .call ⟨.value (.func 8), _, _⟩, _, _, _, _⟩ :: _) _ _ _; refine cl (callee := .func 8) rfl (fun w hw => hvs w (Wd.kp hw spL)) rfl rfl ?_) | (show SH _ _ _ _ _ (⟨_, .call ⟨.value (.func 20), _, _⟩, _, _, _, _⟩ :: _) _ _ _; refine cp (callee := .func 20) rfl (fun w hw => hss w (Wd.kp hw spL)) rfl rfl ?_) | refine bnoT rfl ?_ | (show SH _ _ _ _ _ (⟨_, .pick _ _ _, _, _, _, _⟩ :: _) _ _ _; refine pkf rfl tbL evL ?_)) | refine s_nil ?_ | refine kh_normal ?_))
  rintro _ _ ⟨AS, cS, rfl, rfl⟩
  try simp only
  have hs1 := fun (B : Option Addr) (d : Nat) w h1 h2 => sameInts_spec y13A B [7, 9] [7, 9] y13ca d w (by decide) (by decide) h1 h2
  have hs2 := fun (B : Option Addr) (d : Nat) w h1 h2 => sameInts_spec AS B [11] [11] cS d w (by decide) (by decide) h1 h2
  simp only [decide_true] at hs1 hs2
  (repeat' (first | (show VH _ _ _ _ _ _ _; first | refine v_seq ?_ | refine r_seq ?_ | refine v_ret ?_) | (show SH _ _ _ _ _ (_ :: _) _ _ _; first | (show SH _ _ _ _ _ (⟨_, _, _, _, _, some _⟩ :: _) _ _ _; (refine gif rfl rfl ?_; refine giTT tbL ?_)) | (show SH _ _ _ _ _ (⟨_, .move _, _, _, _, _⟩ :: _) _ _ _; refine mov evL ?_) | (show SH _ _ _ _ _ (⟨_, .assign _, _, _, _, _⟩ :: _) _ _ _; refine asg evL ?_) | (show SH _ _ _ _ _ (⟨_, .binOp .eql _ _ _ _, _, _, _, _⟩ :: _) _ _ _; first | refine eqlT rfl rfl omD ?_ | refine eql rfl rfl ?_) | (show SH _ _ _ _ _ (⟨_, .load _ _, _, _, _, _⟩ :: _) _ _ _; refine lbx rfl spL (by rfl) ?_) | refine slen rfl ?_ | (show SH _ _ _ _ _ (⟨_, .call ⟨.value (.func 21), _, _⟩, _, _, _, _⟩ :: _) _ _ _; refine cl (callee := .func 21) rfl (fun w hw => hs1 _ _ w (Wd.kn hw (Φ := fun w => Rd w y13A [7, 9] ∧ Rd w y13B []) spL).1 (hw.rd spL)) rfl rfl ?_) | (show SH _ _ _ _ _ (⟨_, .call ⟨.value (.func 21), _, _⟩, _, _, _, _⟩ :: _) _ _ _; refine cl (callee := .func 21) rfl (fun w hw => hs2 _ _ w (hw.rd spL) (hw.rd spL)) rfl rfl ?_) | (show SH _ _ _ _ _ (⟨_, .pick _ _ _, _, _, _, _⟩ :: _) _ _ _; refine pkt rfl tbL evL ?_) | refine extr rfl rfl ?_ | refine fad rfl ?_ | (show SH _ _ _ _ _ (⟨_, .buildSlice _ _ _, _, _, _, _⟩ :: _) _ _ _; refine bsl (α := Int) rfl rfl (by repeat (first | exact Vals.nil | (apply Vals.cons; rfl))) rfl (by rfl) (by decide) (fun b => ?_))) | refine s_nil ?_ | refine kh_normal ?_))
  exact rh1 rfl rfl ⟨rfl, rfl⟩ (ent_nil _)
end Go.Proofs.YtlfbcoohfnoacaaGreat
