/- InterestWrong: worlds that are not valid, clients that there are not, IDs of no entity. -/
import Derived.Test.YtjefoecnciepmaaDoorZTw
import Derived.Test.YtjefoecnciepmaaDoorZPw24
import Derived.Test.YtjefoecnciepmaaDoorZWr
import Derived.Test.YtjefoecnciepmaaDoorZPk
import Derived.Test.YtjefoecnciepmaaDoorZMk
import Derived.Test.YtjefoecnciepmaaDoorZLj
import Derived.Test.YtjefoecnciepmaaDoorZLk
set_option linter.unusedSimpArgs false
set_option linter.unusedVariables false
namespace Go.Proofs.YtjefoecnciepmaaDoor
open Go.Fw Go.RowKit
instance : TAgg Tryd.prog 63 3 [.int .i64 0, .slice none 0 0, .int .i64 0] := ⟨fun w => by kernel_rfl, fun w => by kernel_rfl, fun w => by kernel_rfl⟩
instance : TStN Tryd.prog 63 [(0, 2), (2, 1)] [.int .i64 0, .slice none 0 0, .int .i64 0] := ⟨⟨_, Tryd.underlying63, fun w => by kernel_rfl⟩, fun w => by kernel_rfl⟩
instance : TFld Tryd.prog 63 0 0 := tfld_of 1 Tryd.underlying63 rfl rfl (fun w => by kernel_rfl)
instance : TFld Tryd.prog 63 1 2 := tfld_of 0 Tryd.underlying63 rfl rfl (fun w => by kernel_rfl)
instance : TSl Tryd.prog 64 63 3 40 := ⟨by kernel_rfl, by kernel_rfl⟩
instance : TEl Tryd.prog 63 3 40 := tel_of (z := .agg #[.int .i64 0, .slice none 0 0, .int .i64 0]) (by kernel_rfl) rfl (by omega)
instance : TOne Tryd.prog 64 (.slice none 0 0) := ⟨fun w => by kernel_rfl, fun w => by kernel_rfl, fun w => by kernel_rfl, rfl⟩
section
variable {md : Md} {n : Nat} {Q : HQ} {f : Fr} {w0 : World} {H R : List HP} {ops : Array Oper} {rest : List Oper} {d : Nat} {op : Op} {ty : TypeId} {pos : String} {aft : Array Edge} {v : Value} {x y : Operand}
theorem bldWC {t cl : Int} {A : Option Addr} {m c : Nat} (h0 : ev n f x = .agg #[.int .i64 t, .slice A m c]) (h1 : ev n f y = .int .i64 cl) (k : SH (nx md) Tryd.prog n ops Q rest (upd f d (.agg (Flat.enc (⟨t, A, m, c, cl⟩ : WC)).toArray)) w0 H) :
    SH md Tryd.prog n ops Q (⟨some d, .build 63 #[(0, x), (1, y)], ty, pos, aft, none⟩ :: rest) f w0 H :=
  bldN (parts := [(0, x), (1, y)]) (cs := Flat.enc (⟨t, A, m, c, cl⟩ : WC)) (by simp [Instr.fill, h0, h1, Value.cells, Flat.enc]) k
end
section
variable {ct t : Int} (A : Option Addr) (l : List EntP) (c : Nat) (h : ¬ OkI ct t (ents l)) (hs : Sz l)
theorem own_not (N : List Int) (hN : N = []) (h : ¬ OkI ct t (ents l)) (hs : Sz l) (w : World) (hG : Glob w) (hr : RdW w A l) : Ret Tryd.prog 18 [.agg #[.int .i64 t, .slice A l.length c], .int .i64 ct].toArray w (RP w (FreshE 3 N 2)) := by
  have := ownI_spec ct t A l c w hG hs hr
  rwa [ownL_not h, errI_not h, ← hN] at this
theorem vis_not (N : List Int) (hN : N = []) (h : ¬ OkI ct t (ents l)) (hs : Sz l) (w : World) (hG : Glob w) (hr : RdW w A l) : Ret Tryd.prog 11 [.agg #[.int .i64 t, .slice A l.length c], .int .i64 ct].toArray w (RP w (FreshE 3 N 2)) := by
  have := visI_spec ct t A l c w hG hs hr
  rwa [visL_not h, errI_not h, ← hN] at this
theorem sees_not (id : Int) (h : ¬ OkI ct t (ents l)) (hs : Sz l) (hse : ∀ x ∈ l, x.e.comps.length ≤ 1000000) (w : World) (hG : Glob w) (hr : RdW w A l) : Ret Tryd.prog 19 [.agg #[.int .i64 t, .slice A l.length c], .int .i64 ct, .int .i64 id].toArray w (Out w (.tuple #[.bool false, .int .i64 2])) := by
  have := seesI_spec ct id t A l c w hG hs hse hr
  rwa [seeB_not h, seeErr_not h] at this
theorem view_not (h : ¬ OkI ct t (ents l)) (hs : Sz l) (hse : ∀ x ∈ l, x.e.comps.length ≤ 1000000) (w : World) (hG : Glob w) (hr : RdW w A l) : Ret Tryd.prog 12 [.agg #[.int .i64 t, .slice A l.length c], .int .i64 ct].toArray w (RP w fun v H' => ∃ A' c' L, v = .tuple #[.agg #[.int .i64 0, .slice A' L.length c'], .int .i64 2] ∧ L.map EntP.e = [] ∧ H' = [orow 37 A' c' L, allH (L.map rowOf)]) := by
  have := viewI_spec ct t A l c w hG hs hse hr
  rwa [viewL_not h, errI_not h, viewT_not h] at this
end
set_option maxHeartbeats 4000000 in
set_option maxRecDepth 100000 in
theorem wrongLaw (A0 : Option Addr) (c0 : Nat) (l0 : List Form) (a1 a2 : Int) (W : World) (hG : Glob W) (hr0 : Rd W A0 l0) (hb0 : ∀ f ∈ l0, f.Ok) (hl0 : l0.length ≤ maxLen) (lo1 : -9223372036854775808 ≤ a1) (hi1 : a1 ≤ 9223372036854775807) (lo2 : 0 ≤ a2) (hi2 : a2 ≤ 255) :
    Ret Tryd.prog 8 [.slice A0 l0.length c0, .int .i64 a1, .int .u8 a2].toArray W (Out W (.bool true)) := by
  have hM := fun w' (he : Ext W w') => made24_spec A0 l0 c0 w' hl0 (hr0.ext he) hb0
  unfold WorldR wv at hM
  have hv0 : ValidW 5 (madeL l0) := made_valid hb0 (by omega) (by omega)
  have hid0 : ∀ e ∈ madeL l0, ∃ i : Nat, i < (madeL l0).length ∧ e.id = 3 + 3 * (i : Int) ∧ (madeL l0).getD i ⟨0, []⟩ = e := fun e he => by
    obtain ⟨i, h1, h2, h3⟩ := made_id he
    exact ⟨i, by unfold madeL; rw [madeN_len]; exact h1, h2, h3⟩
  have hcm0 : ∀ e ∈ madeL l0, e.comps.length ≤ 10 := fun e he => made_comps he
  generalize madeL l0 = es at hM hv0 hid0 hcm0
  clear hb0
  have hn64 := hv0.len
  have hA := fun w (h : Ext W w) => awake24_spec w (hG.ext h)
  obtain ⟨q, hq⟩ : ∃ q, a2 % 4 = q := ⟨_, rfl⟩
  have hq4 : 0 ≤ q ∧ q ≤ 3 := by omega
  refine enterH Tryd.func8 rfl rfl Tryd.ntmps8 rfl (Wd.refl _) ?_
  (repeat' (first | (show VH _ _ _ _ _ _ _; first | refine v_seq ?_ | refine r_seq ?_ | refine v_skip ?_ | refine v_cond_f rfl tbL ?_) | (show SH _ _ _ _ _ (_ :: _) _ _ _; first | refine mov evL ?_ | refine asg evL ?_ | (show SH _ _ _ _ _ (⟨_, .call ⟨.value (.func 9), _, _⟩, _, _, _, _⟩ :: _) _ _ _; refine cl (callee := .func 9) rfl (fun w hw => hA w hw.ext) rfl rfl ?_) | (show SH _ _ _ _ _ (⟨_, .call ⟨.value (.func 10), _, _⟩, _, _, _, _⟩ :: _) _ _ _; refine cp (callee := .func 10) rfl (fun w hw => hM w hw.ext) rfl rfl ?_) | refine bnoT rfl ?_) | refine s_nil ?_ | refine kh_normal ?_))
  rintro _ _ ⟨A, c, L, rfl, hL, rfl⟩
  clear hM hA hr0
  have hL' : ents L = es := hL
  obtain ⟨hs, hse⟩ := made_sz hL' hv0.len hcm0
  have hLl : L.length = es.length := by rw [← ents_len, hL']
  have hcw := fun w hr => copyWorld_spec 5 A L c w (by omega) hse hr
  rw [hL'] at hcw
  unfold WorldR wv at hcw
  (repeat' ((fail_if_success (show VH _ _ (.seq (.region 4 _ _) _) _ _ _ _)); first | (show SH _ _ _ _ _ (_ :: _) _ _ _; first | refine ala rfl (fun b => ?_) | refine sta rfl rfl rfl spL (by rfl) (by rfl) (by rfl) kpL ?_) | refine s_nil ?_ | refine kh_normal ?_))
  refine VH.ent (G := [bx b 26 [.int .i64 5, .slice A L.length c], knw A L]) ?_ (Ent.trans (B := [bx b 26 [.int .i64 5, .slice A L.length c], orow 37 A c L, allH (L.map rowOf)]) enL (ent_cons Split.head (ent_knw (G := []))))
  (repeat' (first | (show VH _ _ _ _ _ _ _; first | refine v_seq ?_ | refine r_seq ?_) | (show SH _ _ _ _ _ (_ :: _) _ _ _; first | refine lba rfl spL (by rfl) ?_ | (show SH _ _ _ _ _ (⟨_, .call ⟨.value (.func 22), _, _⟩, _, _, _, _⟩ :: _) _ _ _; refine cp (callee := .func 22) rfl (fun w hw => hcw w (hw.kw spL)) rfl rfl ?_))))
  rintro _ _ ⟨A1, c1, L1, rfl, hL1, rfl⟩
  clear hcw
  have hL1' : ents L1 = es := hL1
  obtain ⟨hs1, hse1⟩ := made_sz hL1' hv0.len hcm0
  have hLl1 : L1.length = es.length := by rw [← ents_len, hL1']
  (repeat' ((fail_if_success (show VH _ _ (.seq (.seq (.region 5 _ _) _) _) _ _ _ _)); first | (show SH _ _ _ _ _ (_ :: _) _ _ _; first | refine ala rfl (fun b => ?_) | refine sta rfl rfl rfl spL (by rfl) (by rfl) (by rfl) kpL ?_) | refine s_nil ?_ | refine kh_normal ?_))
  rename_i b7
  revert b
  intro b8
  refine v_seq ?_
  refine v_cut [(33, 71)] (fun _ : Int × Option Addr × List EntP × Nat => []) (fun s => [bx b8 26 [.int .i64 s.1, .slice s.2.1 s.2.2.1.length s.2.2.2], knw s.2.1 s.2.2.1, bx b7 26 [.int .i64 5, .slice A L.length c], knw A L]) (fun s => ¬ ValidW s.1 (ents s.2.2.1) ∧ Sz s.2.2.1 ∧ ∀ x ∈ s.2.2.1, x.e.comps.length ≤ 1000000) ?_ ?_ ent_vh
  · rcases (show q = 0 ∨ q = 1 ∨ q = 2 ∨ q = 3 by omega) with e | e | e | e
    · (repeat' (first | (show VH _ _ _ _ _ _ _; first | refine v_seq ?_ | refine r_seq ?_ | refine v_block ?_ | refine v_cond_t rfl tbL ?_) | (show SH _ _ _ _ _ (_ :: _) _ _ _; first | refine mov evL ?_ | refine asg evL ?_ | (show SH _ _ _ _ _ (⟨_, .binOp _ _ _ _ _, _, _, _, _⟩ :: _) _ _ _; first | refine eqlT rfl rfl omD ?_ | refine rem rfl rfl omL omL ?_) | refine fad rfl ?_ | refine stb rfl rfl evL spL rfl rfl (by first | decide | exact Nat.zero_lt_succ _ | exact of_decide_eq_true rfl) kpL ?_) | refine s_nil ?_ | refine kh_normal ?_ | refine bh_normal ?_))
      refine ⟨agL, (-1, A1, L1, c1), hsL, ?_, bad_tick, hs1, hse1⟩
      exact Ent.trans (B := [bx b8 26 [.int .i64 (-1), .slice A1 L1.length c1], orow 37 A1 c1 L1, allH (L1.map rowOf), bx b7 26 [.int .i64 5, .slice A L.length c], knw A L]) enL (ent_cons Split.head ent_knw)
    · (repeat' (first | (show VH _ _ _ _ _ _ _; first | refine v_seq ?_ | refine r_seq ?_ | refine v_block ?_ | refine v_cond_t rfl tbL ?_ | refine v_cond_f rfl tbL ?_) | (show SH _ _ _ _ _ (_ :: _) _ _ _; first | refine mov evL ?_ | refine asg evL ?_ | (show SH _ _ _ _ _ (⟨_, .binOp _ _ _ _ _, _, _, _, _⟩ :: _) _ _ _; first | refine eqlT rfl rfl omD ?_ | refine eqlF rfl rfl omD ?_ | refine rem rfl rfl omL omL ?_)) | refine s_nil ?_ | refine kh_normal ?_))
      refine r_heldT [] (tr [(0, true)] (.fork 1 (tr [(2, false), (3, false), (4, false), (5, false), (6, false), (7, false), (8, false), (9, false), (10, false), (11, false)] .nil) 2 (tr [] (.fork 1 (tr [(3, false), (4, false), (5, false), (6, false), (7, false), (8, false), (9, false), (10, false), (11, false)] .nil) 3 (tr [] (.fork 1 (tr [(4, false), (5, false), (6, false), (7, false), (8, false), (9, false), (10, false), (11, false)] .nil) 4 (tr [] (.fork 1 (tr [(5, false), (6, false), (7, false), (8, false), (9, false), (10, false), (11, false)] .nil) 5 (tr [] (.fork 1 (tr [(6, false), (7, false), (8, false), (9, false), (10, false), (11, false)] .nil) 6 (tr [] (.fork 1 (tr [(7, false), (8, false), (9, false), (10, false), (11, false)] .nil) 7 (tr [] (.fork 1 (tr [(8, false), (9, false), (10, false), (11, false)] .nil) 8 (tr [(1, false), (9, false), (10, false), (11, false)] .nil))))))))))))))) hmix (by kernel_rfl) (ent_nil _) ?_
      (repeat' (first | (show SH _ _ _ _ _ (_ :: _) _ _ _; first | refine lbx rfl spL (by rfl) ?_ | (show SH _ _ _ _ _ (⟨_, .call ⟨.value (.func 25), _, _⟩, _, _, _, _⟩ :: _) _ _ _; refine cl (callee := .func 25) rfl (fun w hw => lcomp_spec _ _ _ w) rfl rfl ?_) | refine fad rfl ?_) | refine s_fork ?_ ?_))
      all_goals
        refine bsl (l := [(⟨1, 0, 0, 0, 0⟩ : Comp)]) rfl rfl (Vals.cons rfl Vals.nil) rfl rfl (by decide) (fun d1 => ?_)
        (repeat' (first | (show SH _ _ _ _ _ (_ :: _) _ _ _; first | refine lbx rfl spL (by rfl) ?_ | (show SH _ _ _ _ _ (⟨_, .call ⟨.value (.func 25), _, _⟩, _, _, _, _⟩ :: _) _ _ _; refine cl (callee := .func 25) rfl (fun w hw => lcomp_spec _ _ _ w) rfl rfl ?_) | (show SH _ _ _ _ _ (⟨_, .call ⟨.value (.func 24), _, _⟩, _, _, _, _⟩ :: _) _ _ _; refine cl (callee := .func 24) rfl (fun w hw => lthing_spec _ _ _ _ w) rfl rfl ?_)) | refine s_fork ?_ ?_))
      all_goals
        refine bsl (l := [(⟨1, 0, 0, 0, 0⟩ : Comp)]) rfl rfl (Vals.cons rfl Vals.nil) rfl rfl (by decide) (fun d2 => ?_)
        (repeat' (first | (show SH _ _ _ _ _ (_ :: _) _ _ _; first | refine lbx rfl spL (by rfl) ?_ | (show SH _ _ _ _ _ (⟨_, .call ⟨.value (.func 24), _, _⟩, _, _, _, _⟩ :: _) _ _ _; refine cl (callee := .func 24) rfl (fun w hw => lthing_spec _ _ _ _ w) rfl rfl ?_)) | refine s_fork ?_ ?_))
      all_goals
        refine bsl (l := [(⟨⟨2, [⟨1, 0, 0, 0, 0⟩]⟩, some ⟨d1, 0, none⟩, 1⟩ : EntP), (⟨⟨2, [⟨1, 0, 0, 0, 0⟩]⟩, some ⟨d2, 0, none⟩, 1⟩ : EntP)]) rfl rfl (Vals.cons rfl (Vals.cons rfl Vals.nil)) rfl rfl (by decide) (fun d9 => ?_)
        (repeat' (refine lbx rfl spL (by rfl) ?_))
      all_goals
        refine app (l := L1) (l2 := [(⟨⟨2, [⟨1, 0, 0, 0, 0⟩]⟩, some ⟨d1, 0, none⟩, 1⟩ : EntP), (⟨⟨2, [⟨1, 0, 0, 0, 0⟩]⟩, some ⟨d2, 0, none⟩, 1⟩ : EntP)]) rfl rfl rfl spL (fun w hw => hw.rd spL) rfl rfl rfl (by simp only [List.length_cons, List.length_nil]; omega) (by simp only [List.length_cons, List.length_nil]; omega) (fun A4 c4 => ⟨ent_nil _, ?_⟩)
        (repeat' (first | (show SH _ _ _ _ _ (_ :: _) _ _ _; first | refine fad rfl ?_ | refine stb rfl rfl evL spL rfl rfl (by first | decide | exact Nat.zero_lt_succ _ | exact of_decide_eq_true rfl) kpL ?_) | refine s_nil ?_ | refine kh_normal ?_ | refine bh_normal ?_))
        refine ⟨agL, (5, A4, L1 ++ [(⟨⟨2, [⟨1, 0, 0, 0, 0⟩]⟩, some ⟨d1, 0, none⟩, 1⟩ : EntP), (⟨⟨2, [⟨1, 0, 0, 0, 0⟩]⟩, some ⟨d2, 0, none⟩, 1⟩ : EntP)], c4), hsL, ?_, by show ¬ ValidW 5 (ents (L1 ++ [(⟨⟨2, [⟨1, 0, 0, 0, 0⟩]⟩, some ⟨d1, 0, none⟩, 1⟩ : EntP), (⟨⟨2, [⟨1, 0, 0, 0, 0⟩]⟩, some ⟨d2, 0, none⟩, 1⟩ : EntP)])); rw [map_e_two, hL1']; exact bad_twice, ⟨by simp only [List.length_append, List.length_cons, List.length_nil]; omega, (sz_two hs1.el (Nat.le_of_ble_eq_true rfl) (Nat.le_of_ble_eq_true rfl))⟩, (sz_two hse1 (Nat.le_of_ble_eq_true rfl) (Nat.le_of_ble_eq_true rfl))⟩
        exact Ent.trans (B := [orow 42 (some ⟨d1, 0, none⟩) 1 [(⟨1, 0, 0, 0, 0⟩ : Comp)], orow 42 (some ⟨d2, 0, none⟩) 1 [(⟨1, 0, 0, 0, 0⟩ : Comp)], allH (L1.map rowOf), bx b8 26 [.int .i64 5, .slice A4 (L1 ++ [(⟨⟨2, [⟨1, 0, 0, 0, 0⟩]⟩, some ⟨d1, 0, none⟩, 1⟩ : EntP), (⟨⟨2, [⟨1, 0, 0, 0, 0⟩]⟩, some ⟨d2, 0, none⟩, 1⟩ : EntP)]).length c4], orow 37 A4 c4 (L1 ++ [(⟨⟨2, [⟨1, 0, 0, 0, 0⟩]⟩, some ⟨d1, 0, none⟩, 1⟩ : EntP), (⟨⟨2, [⟨1, 0, 0, 0, 0⟩]⟩, some ⟨d2, 0, none⟩, 1⟩ : EntP)]), bx b7 26 [.int .i64 5, .slice A L.length c], knw A L]) enL
          ((ent_all_two (f := rowOf) (x := (⟨⟨2, [⟨1, 0, 0, 0, 0⟩]⟩, some ⟨d1, 0, none⟩, 1⟩ : EntP)) (y := (⟨⟨2, [⟨1, 0, 0, 0, 0⟩]⟩, some ⟨d2, 0, none⟩, 1⟩ : EntP))).trans (Ent.trans (B := [bx b8 26 [.int .i64 5, .slice A4 (L1 ++ [(⟨⟨2, [⟨1, 0, 0, 0, 0⟩]⟩, some ⟨d1, 0, none⟩, 1⟩ : EntP), (⟨⟨2, [⟨1, 0, 0, 0, 0⟩]⟩, some ⟨d2, 0, none⟩, 1⟩ : EntP)]).length c4], orow 37 A4 c4 (L1 ++ [(⟨⟨2, [⟨1, 0, 0, 0, 0⟩]⟩, some ⟨d1, 0, none⟩, 1⟩ : EntP), (⟨⟨2, [⟨1, 0, 0, 0, 0⟩]⟩, some ⟨d2, 0, none⟩, 1⟩ : EntP)]), allH ((L1 ++ [(⟨⟨2, [⟨1, 0, 0, 0, 0⟩]⟩, some ⟨d1, 0, none⟩, 1⟩ : EntP), (⟨⟨2, [⟨1, 0, 0, 0, 0⟩]⟩, some ⟨d2, 0, none⟩, 1⟩ : EntP)]).map rowOf), bx b7 26 [.int .i64 5, .slice A L.length c], knw A L]) enL (ent_cons Split.head ent_knw)))
    · (repeat' (first | (show VH _ _ _ _ _ _ _; first | refine v_seq ?_ | refine r_seq ?_ | refine v_block ?_ | refine v_cond_t rfl tbL ?_ | refine v_cond_f rfl tbL ?_) | (show SH _ _ _ _ _ (_ :: _) _ _ _; first | refine mov evL ?_ | refine asg evL ?_ | (show SH _ _ _ _ _ (⟨_, .binOp _ _ _ _ _, _, _, _, _⟩ :: _) _ _ _; first | refine eqlT rfl rfl omD ?_ | refine eqlF rfl rfl omD ?_ | refine rem rfl rfl omL omL ?_)) | refine s_nil ?_ | refine kh_normal ?_))
      refine r_heldT [] (tr [(0, true)] (.fork 1 (tr [(2, false), (3, false), (4, false), (5, false), (6, false), (7, false), (8, false)] .nil) 2 (tr [] (.fork 1 (tr [(3, false), (4, false), (5, false), (6, false), (7, false), (8, false)] .nil) 3 (tr [] (.fork 1 (tr [(4, false), (5, false), (6, false), (7, false), (8, false)] .nil) 4 (tr [] (.fork 1 (tr [(5, false), (6, false), (7, false), (8, false)] .nil) 5 (tr [(1, false), (6, false), (7, false), (8, false)] .nil))))))))) hmix (by kernel_rfl) (ent_nil _) ?_
      (repeat' (first | (show SH _ _ _ _ _ (_ :: _) _ _ _; first | refine lbx rfl spL (by rfl) ?_ | (show SH _ _ _ _ _ (⟨_, .call ⟨.value (.func 25), _, _⟩, _, _, _, _⟩ :: _) _ _ _; refine cl (callee := .func 25) rfl (fun w hw => lcomp_spec _ _ _ w) rfl rfl ?_) | refine fad rfl ?_) | refine s_fork ?_ ?_))
      all_goals
        refine bsl (l := [(⟨4, 9, 0, 0, 0⟩ : Comp)]) rfl rfl (Vals.cons rfl Vals.nil) rfl rfl (by decide) (fun d1 => ?_)
        (repeat' (first | (show SH _ _ _ _ _ (_ :: _) _ _ _; first | refine lbx rfl spL (by rfl) ?_ | (show SH _ _ _ _ _ (⟨_, .call ⟨.value (.func 24), _, _⟩, _, _, _, _⟩ :: _) _ _ _; refine cl (callee := .func 24) rfl (fun w hw => lthing_spec _ _ _ _ w) rfl rfl ?_)) | refine s_fork ?_ ?_))
      all_goals
        refine bsl (l := [(⟨⟨200, [⟨4, 9, 0, 0, 0⟩]⟩, some ⟨d1, 0, none⟩, 1⟩ : EntP)]) rfl rfl (Vals.cons rfl Vals.nil) rfl rfl (by decide) (fun d9 => ?_)
        (repeat' (refine lbx rfl spL (by rfl) ?_))
      all_goals
        refine app (l := L1) (l2 := [(⟨⟨200, [⟨4, 9, 0, 0, 0⟩]⟩, some ⟨d1, 0, none⟩, 1⟩ : EntP)]) rfl rfl rfl spL (fun w hw => hw.rd spL) rfl rfl rfl (by simp only [List.length_cons, List.length_nil]; omega) (by simp only [List.length_cons, List.length_nil]; omega) (fun A4 c4 => ⟨ent_nil _, ?_⟩)
        (repeat' (first | (show SH _ _ _ _ _ (_ :: _) _ _ _; first | refine fad rfl ?_ | refine stb rfl rfl evL spL rfl rfl (by first | decide | exact Nat.zero_lt_succ _ | exact of_decide_eq_true rfl) kpL ?_) | refine s_nil ?_ | refine kh_normal ?_ | refine bh_normal ?_))
        refine ⟨agL, (5, A4, L1 ++ [(⟨⟨200, [⟨4, 9, 0, 0, 0⟩]⟩, some ⟨d1, 0, none⟩, 1⟩ : EntP)], c4), hsL, ?_, by show ¬ ValidW 5 (ents (L1 ++ [(⟨⟨200, [⟨4, 9, 0, 0, 0⟩]⟩, some ⟨d1, 0, none⟩, 1⟩ : EntP)])); rw [map_e_one, hL1']; exact bad_owner, ⟨by simp only [List.length_append, List.length_cons, List.length_nil]; omega, (sz_one hs1.el (Nat.le_of_ble_eq_true rfl))⟩, (sz_one hse1 (Nat.le_of_ble_eq_true rfl))⟩
        exact Ent.trans (B := [orow 42 (some ⟨d1, 0, none⟩) 1 [(⟨4, 9, 0, 0, 0⟩ : Comp)], allH (L1.map rowOf), bx b8 26 [.int .i64 5, .slice A4 (L1 ++ [(⟨⟨200, [⟨4, 9, 0, 0, 0⟩]⟩, some ⟨d1, 0, none⟩, 1⟩ : EntP)]).length c4], orow 37 A4 c4 (L1 ++ [(⟨⟨200, [⟨4, 9, 0, 0, 0⟩]⟩, some ⟨d1, 0, none⟩, 1⟩ : EntP)]), bx b7 26 [.int .i64 5, .slice A L.length c], knw A L]) enL
          ((ent_all_snoc (f := rowOf) (x := (⟨⟨200, [⟨4, 9, 0, 0, 0⟩]⟩, some ⟨d1, 0, none⟩, 1⟩ : EntP))).trans (Ent.trans (B := [bx b8 26 [.int .i64 5, .slice A4 (L1 ++ [(⟨⟨200, [⟨4, 9, 0, 0, 0⟩]⟩, some ⟨d1, 0, none⟩, 1⟩ : EntP)]).length c4], orow 37 A4 c4 (L1 ++ [(⟨⟨200, [⟨4, 9, 0, 0, 0⟩]⟩, some ⟨d1, 0, none⟩, 1⟩ : EntP)]), allH ((L1 ++ [(⟨⟨200, [⟨4, 9, 0, 0, 0⟩]⟩, some ⟨d1, 0, none⟩, 1⟩ : EntP)]).map rowOf), bx b7 26 [.int .i64 5, .slice A L.length c], knw A L]) enL (ent_cons Split.head ent_knw)))
    · (repeat' (first | (show VH _ _ _ _ _ _ _; first | refine v_seq ?_ | refine r_seq ?_ | refine v_block ?_ | refine v_cond_t rfl tbL ?_ | refine v_cond_f rfl tbL ?_) | (show SH _ _ _ _ _ (_ :: _) _ _ _; first | refine mov evL ?_ | refine asg evL ?_ | (show SH _ _ _ _ _ (⟨_, .binOp _ _ _ _ _, _, _, _, _⟩ :: _) _ _ _; first | refine eqlT rfl rfl omD ?_ | refine eqlF rfl rfl omD ?_ | refine rem rfl rfl omL omL ?_)) | refine s_nil ?_ | refine kh_normal ?_))
      refine r_heldT [] (tr [(0, true)] (.fork 1 (tr [(2, false), (3, false), (4, false), (5, false), (6, false), (7, false), (8, false), (9, false)] .nil) 2 (tr [] (.fork 1 (tr [(3, false), (4, false), (5, false), (6, false), (7, false), (8, false), (9, false)] .nil) 3 (tr [] (.fork 1 (tr [(4, false), (5, false), (6, false), (7, false), (8, false), (9, false)] .nil) 4 (tr [] (.fork 1 (tr [(5, false), (6, false), (7, false), (8, false), (9, false)] .nil) 5 (tr [] (.fork 1 (tr [(6, false), (7, false), (8, false), (9, false)] .nil) 6 (tr [(1, false), (7, false), (8, false), (9, false)] .nil))))))))))) hmix (by kernel_rfl) (ent_nil _) ?_
      (repeat' (first | (show SH _ _ _ _ _ (_ :: _) _ _ _; first | refine lbx rfl spL (by rfl) ?_ | (show SH _ _ _ _ _ (⟨_, .call ⟨.value (.func 25), _, _⟩, _, _, _, _⟩ :: _) _ _ _; refine cl (callee := .func 25) rfl (fun w hw => lcomp_spec _ _ _ w) rfl rfl ?_) | refine fad rfl ?_) | refine s_fork ?_ ?_))
      all_goals
        refine bsl (l := [(⟨10, 0, 0, 0, 0⟩ : Comp), (⟨10, 0, 0, 0, 0⟩ : Comp)]) rfl rfl (Vals.cons rfl (Vals.cons rfl Vals.nil)) rfl rfl (by decide) (fun d1 => ?_)
        (repeat' (first | (show SH _ _ _ _ _ (_ :: _) _ _ _; first | refine lbx rfl spL (by rfl) ?_ | (show SH _ _ _ _ _ (⟨_, .call ⟨.value (.func 24), _, _⟩, _, _, _, _⟩ :: _) _ _ _; refine cl (callee := .func 24) rfl (fun w hw => lthing_spec _ _ _ _ w) rfl rfl ?_)) | refine s_fork ?_ ?_))
      all_goals
        refine bsl (l := [(⟨⟨200, [⟨10, 0, 0, 0, 0⟩, ⟨10, 0, 0, 0, 0⟩]⟩, some ⟨d1, 0, none⟩, 2⟩ : EntP)]) rfl rfl (Vals.cons rfl Vals.nil) rfl rfl (by decide) (fun d9 => ?_)
        (repeat' (refine lbx rfl spL (by rfl) ?_))
      all_goals
        refine app (l := L1) (l2 := [(⟨⟨200, [⟨10, 0, 0, 0, 0⟩, ⟨10, 0, 0, 0, 0⟩]⟩, some ⟨d1, 0, none⟩, 2⟩ : EntP)]) rfl rfl rfl spL (fun w hw => hw.rd spL) rfl rfl rfl (by simp only [List.length_cons, List.length_nil]; omega) (by simp only [List.length_cons, List.length_nil]; omega) (fun A4 c4 => ⟨ent_nil _, ?_⟩)
        (repeat' (first | (show SH _ _ _ _ _ (_ :: _) _ _ _; first | refine fad rfl ?_ | refine stb rfl rfl evL spL rfl rfl (by first | decide | exact Nat.zero_lt_succ _ | exact of_decide_eq_true rfl) kpL ?_) | refine s_nil ?_ | refine kh_normal ?_ | refine bh_normal ?_))
        refine ⟨agL, (5, A4, L1 ++ [(⟨⟨200, [⟨10, 0, 0, 0, 0⟩, ⟨10, 0, 0, 0, 0⟩]⟩, some ⟨d1, 0, none⟩, 2⟩ : EntP)], c4), hsL, ?_, by show ¬ ValidW 5 (ents (L1 ++ [(⟨⟨200, [⟨10, 0, 0, 0, 0⟩, ⟨10, 0, 0, 0, 0⟩]⟩, some ⟨d1, 0, none⟩, 2⟩ : EntP)])); rw [map_e_one, hL1']; exact bad_tags, ⟨by simp only [List.length_append, List.length_cons, List.length_nil]; omega, (sz_one hs1.el (Nat.le_of_ble_eq_true rfl))⟩, (sz_one hse1 (Nat.le_of_ble_eq_true rfl))⟩
        exact Ent.trans (B := [orow 42 (some ⟨d1, 0, none⟩) 2 [(⟨10, 0, 0, 0, 0⟩ : Comp), (⟨10, 0, 0, 0, 0⟩ : Comp)], allH (L1.map rowOf), bx b8 26 [.int .i64 5, .slice A4 (L1 ++ [(⟨⟨200, [⟨10, 0, 0, 0, 0⟩, ⟨10, 0, 0, 0, 0⟩]⟩, some ⟨d1, 0, none⟩, 2⟩ : EntP)]).length c4], orow 37 A4 c4 (L1 ++ [(⟨⟨200, [⟨10, 0, 0, 0, 0⟩, ⟨10, 0, 0, 0, 0⟩]⟩, some ⟨d1, 0, none⟩, 2⟩ : EntP)]), bx b7 26 [.int .i64 5, .slice A L.length c], knw A L]) enL
          ((ent_all_snoc (f := rowOf) (x := (⟨⟨200, [⟨10, 0, 0, 0, 0⟩, ⟨10, 0, 0, 0, 0⟩]⟩, some ⟨d1, 0, none⟩, 2⟩ : EntP))).trans (Ent.trans (B := [bx b8 26 [.int .i64 5, .slice A4 (L1 ++ [(⟨⟨200, [⟨10, 0, 0, 0, 0⟩, ⟨10, 0, 0, 0, 0⟩]⟩, some ⟨d1, 0, none⟩, 2⟩ : EntP)]).length c4], orow 37 A4 c4 (L1 ++ [(⟨⟨200, [⟨10, 0, 0, 0, 0⟩, ⟨10, 0, 0, 0, 0⟩]⟩, some ⟨d1, 0, none⟩, 2⟩ : EntP)]), allH ((L1 ++ [(⟨⟨200, [⟨10, 0, 0, 0, 0⟩, ⟨10, 0, 0, 0, 0⟩]⟩, some ⟨d1, 0, none⟩, 2⟩ : EntP)]).map rowOf), bx b7 26 [.int .i64 5, .slice A L.length c], knw A L]) enL (ent_cons Split.head ent_knw)))
  rintro ⟨tb, Ab, Lb, cb⟩ g ⟨hvb, hsb, hseb⟩ _ rfl
  simp only at hvb hsb hseb
  simp only [sets]
  
  (repeat' ((fail_if_success (show VH _ _ (.seq (.seq (.region 15 _ _) _) _) _ _ _ _)); first | (show VH _ _ _ _ _ _ _; first | refine v_seq ?_ | refine r_seq ?_) | (show SH _ _ _ _ _ (_ :: _) _ _ _; first | refine mov evL ?_ | refine asg evL ?_) | refine s_nil ?_ | refine kh_normal ?_))
  refine v_seq ?_
  refine v_cut0 [(9, 9), (72, 78)] (fun nn : Int => [(9, .int .i64 nn)]) (fun nn => ¬ (1 ≤ nn ∧ nn ≤ 8) ∧ -9223372036854775808 ≤ nn ∧ nn ≤ 9223372036854775807) ?_ ?_ ent_vh
  · (repeat' (first | (show VH _ _ _ _ _ _ _; first | refine v_seq ?_ | refine r_seq ?_ | refine v_skip ?_ | refine v_cond_f rfl tbL ?_ | refine v_cond_dec rfl (fun h => ?_) (fun h => ?_)) | (show SH _ _ _ _ _ (_ :: _) _ _ _; first | (refine gif rfl rfl ?_; first | refine giTT tbL ?_ | refine giTF tbL ?_ | refine giTd (fun h => ?_) (fun h => ?_)) | refine mov evL ?_ | refine asg evL ?_ | (show SH _ _ _ _ _ (⟨_, .binOp _ _ _ _ _, _, _, _, _⟩ :: _) _ _ _; first | refine leq rfl rfl ?_ | refine geq rfl rfl ?_) | refine pkt rfl tbL evL ?_ | refine pkf rfl tbL evL ?_) | refine s_nil ?_ | refine kh_normal ?_))
    · exact ⟨agL, 0, hsL, enL, by omega, by omega, by omega⟩
    · exact ⟨agL, a1, hsL, enL, by omega, by omega, by omega⟩
    · exact ⟨agL, a1, hsL, enL, by omega, by omega, by omega⟩
  rintro nn g1 ⟨hnn, hnn1, hnn2⟩
  simp only [sets]
  (repeat' (first | (show VH _ _ _ _ _ _ _; first | refine v_seq ?_ | refine r_seq ?_) | refine lba rfl spL (by rfl) ?_))
  refine bldWC rfl rfl ?_
  (repeat' ((show SH _ _ _ _ _ (_ :: _) _ _ _; first | refine mov evL ?_ | refine lba rfl spL (by rfl) ?_)))
  refine bldWC rfl rfl ?_
  (repeat' (refine lba rfl spL (by rfl) ?_))
  refine bldWC rfl rfl ?_
  (repeat' (first | (show VH _ _ _ _ _ _ _; first | refine v_seq ?_ | refine r_seq ?_ | refine r_quiet hmix (by kernel_rfl) ?_ | refine v_block ?_ | refine v_ret ?_ | refine v_skip ?_ | refine v_exit ?_ | refine v_label ?_ | refine v_cond_t rfl tbL ?_ | refine v_cond_f rfl tbL ?_ | refine v_cond_dec rfl (fun h => ?_) (fun h => ?_) | refine v_cond_ndec rfl (fun h => ?_) (fun h => ?_) | refine v_cond rfl (fun h => ?_) (fun h => ?_)) | (show SH _ _ _ _ _ (_ :: _) _ _ _; first | (show SH _ _ _ _ _ (⟨_, _, _, _, _, some _⟩ :: _) _ _ _; first | (refine gif rfl rfl ?_; first | refine giTT tbL ?_ | refine giTF tbL ?_ | refine giFF tbL ?_ | refine giFT tbL ?_ | refine giTd (fun h => ?_) (fun h => ?_) | refine giFd (fun h => ?_) (fun h => ?_) | refine giT (fun h => ?_) (fun h => ?_) | refine giF (fun h => ?_) (fun h => ?_)) | refine gu rfl rfl ?_ | refine grT rfl rfl tbL ?_ | refine grF rfl rfl tbL ?_) | refine mov evL ?_ | refine asg evL ?_ | (show SH _ _ _ _ _ (⟨_, .binOp _ _ _ _ _, _, _, _, _⟩ :: _) _ _ _; first | refine lssT rfl rfl omD ?_ | refine lssF rfl rfl omD ?_ | refine leqT rfl rfl omD ?_ | refine leqF rfl rfl omD ?_ | refine geqT rfl rfl omD ?_ | refine geqF rfl rfl omD ?_ | refine eqlT rfl rfl omD ?_ | refine eqlF rfl rfl omD ?_ | refine neqT rfl rfl omD ?_ | refine neqF rfl rfl omD ?_ | refine add rfl rfl inL ?_ | refine lss rfl rfl ?_ | refine leq rfl rfl ?_ | refine geq rfl rfl ?_ | refine eql rfl rfl ?_ | refine neq rfl rfl ?_ | refine eqn rfl rfl ?_ | refine nen rfl rfl ?_ | refine eqb rfl rfl ?_ | refine neb rfl rfl ?_ | refine rem rfl rfl omL omL ?_) | (show SH _ _ _ _ _ (⟨_, .load _ _, _, _, _, _⟩ :: _) _ _ _; first | refine lsl rfl (fun _ _ => rdX) omL (by assumption) ?_ | refine lin rfl (fun _ _ => rdX) omL ?_ | refine lbx rfl spL (by rfl) ?_ | refine lba rfl spL (by rfl) ?_ | refine lbi rfl spL omL ?_ | refine lr1 rfl (fun _ _ => rdX) (by rfl) omL (by rfl) ?_ | refine lra rfl (fun _ _ => rdX) (by rfl) omL ?_ | refine lrf rfl (fun _ _ => rdX) (by rfl) omL (by rfl) ?_ | refine lcell rfl (fun w hw => hw.ext.cell (by assumption)) ?_ | refine lrs rfl (fun _ _ => rdX) (by rfl) omL (by rfl) (by rfl) ?_ | refine lbs rfl spL (by rfl) (by rfl) ?_ | refine lca rfl (fun _ _ => rdX) (by rfl) ?_ | refine lcs rfl (fun _ _ => rdX) (by rfl) ?_ | refine lcf rfl (fun _ _ => rdX) (by rfl) ?_ | refine lrf rfl (fun _ _ => rdX) (by rfl) (by simp only [List.length_cons, List.length_nil]; omega) (by rfl) ?_ | refine lra rfl (fun _ _ => rdX) (by rfl) (by simp only [List.length_cons, List.length_nil]; omega) ?_) | (show SH _ _ _ _ _ (⟨_, .indexAddr _ _ _, _, _, _, _⟩ :: _) _ _ _; first | refine ix rfl rfl (by with_reducible rfl) (fun _ _ => rdX) (by rfl) omL omL ?_ | refine ixi rfl rfl (fun _ _ => rdX) (by rfl) omL omL omL ?_ | refine ixb rfl rfl omL ?_ | refine ixq rfl rfl (by assumption) omL omL ?_ | refine ixA _ rfl rfl rfl omL ?_ | refine ixi rfl rfl (fun _ _ => rdX) (by rfl) omL (by first | omega | (simp only [List.length_cons, List.length_nil]; omega)) (by simp only [List.length_cons, List.length_nil]; omega) ?_) | refine slen rfl ?_ | refine bnoT rfl ?_ | refine bnoF rfl ?_ | refine pkt rfl tbL evL ?_ | refine pkf rfl tbL evL ?_ | refine bnot rfl ?_ | refine extr rfl rfl ?_ | refine fad rfl ?_ | refine bld rfl rfl ?_ | refine al1 rfl (fun b => ?_) | refine ala rfl (fun b => ?_) | refine stb rfl rfl evL spL rfl rfl (by first | decide | exact Nat.zero_lt_succ _ | exact of_decide_eq_true rfl) kpL ?_ | refine sta rfl rfl rfl spL (by rfl) (by rfl) (by rfl) kpL ?_ | refine sti rfl rfl rfl spL omL kpL ?_ | refine sbi rfl rfl rfl spL omL kpL ?_ | refine bsl (α := Int) rfl rfl (by repeat (first | exact Vals.nil | (apply Vals.cons; rfl))) rfl (by rfl) (by decide) (fun b => ?_) | refine bldZ ?_ | refine bldZN ?_ | refine sbs rfl rfl evL spL (by rfl) (by rfl) (of_decide_eq_true rfl) kpL ?_) | refine s_nil ?_ | refine s_fork ?_ ?_ | refine kh_normal ?_ | refine kh_ret ?_ | refine kh_exit ?_ | refine bh_normal ?_ | refine bh_ret ?_ | refine bh_exit ?_ | refine bh_exit_ne rfl ?_))
  obtain ⟨X, hX⟩ : ∃ X, [(⟨tb, Ab, Lb.length, cb, 1⟩ : WC), ⟨5, A, L.length, c, nn⟩, ⟨5, A, L.length, c, 9⟩] = X := ⟨_, rfl⟩
  have hXl : X.length = 3 := by rw [← hX]; rfl
  have hXk : ∀ k < 3, ∃ t' A' L' c' cl', X.getD k Flat.dflt = ⟨t', A', List.length L', c', cl'⟩ ∧ ¬ OkI cl' t' (ents L') ∧ Sz L' ∧ (∀ x ∈ L', x.e.comps.length ≤ 1000000) ∧ ∀ w, RdW w Ab Lb → RdW w A L → RdW w A' L' := fun k hk => by
    rw [← hX]
    rcases (show k = 0 ∨ k = 1 ∨ k = 2 by omega) with rfl | rfl | rfl
    · exact ⟨tb, Ab, Lb, cb, 1, rfl, fun h => hvb h.2, hsb, hseb, fun w h _ => h⟩
    · exact ⟨5, A, L, c, nn, rfl, fun h => hnn h.1, hs, hse, fun w _ h => h⟩
    · exact ⟨5, A, L, c, 9, rfl, fun h => by have := h.1; omega, hs, hse, fun w _ h => h⟩
  refine bsl (l := [(⟨tb, Ab, Lb.length, cb, 1⟩ : WC), ⟨5, A, L.length, c, nn⟩, ⟨5, A, L.length, c, 9⟩]) rfl rfl (Vals.cons rfl (Vals.cons rfl (Vals.cons rfl Vals.nil))) rfl rfl (by decide) (fun b9 => ?_)
  rw [hX]
  (repeat' (first | refine v_block ?_ | (show SH _ _ _ _ _ (_ :: _) _ _ _; first | refine mov evL ?_ | refine slen rfl ?_) | refine s_nil ?_ | refine kh_normal ?_))
  clear hX
  obtain ⟨N, hN, hN0⟩ : ∃ N : List Int, N = [] ∧ N.length = 0 := ⟨[], rfl, rfl⟩
  
  refine v_norm [(1,_),(6,_),(7,_),(8,_),(86,_),(87,_),(88,_)] heL (fun g => ?_)
  refine v_loop0 [(6,6),(11,19),(88,159)] (fun k : Nat => [(88, .int .i64 k)]) (fun k => k ≤ 3) (fun k => 3 - k) 0 hsL (Nat.zero_le _) ?_
  rintro k g2 hk
  simp only [sets]
  by_cases hk3 : k < 3
  · obtain ⟨t', A', L', c', cl', he, hno, hs', hse', hrd⟩ := hXk k hk3
    (repeat' ((fail_if_success (show VH _ _ (.seq (.region 20 _ _) _) _ _ _ _)); first | (show VH _ _ _ _ _ _ _; first | refine v_seq ?_ | refine r_seq ?_ | refine v_block ?_ | refine v_skip ?_ | refine v_cond_t rfl tbL ?_) | (show SH _ _ _ _ _ (_ :: _) _ _ _; first | refine lssT rfl rfl omD ?_ | (show SH _ _ _ _ _ (⟨_, .load _ _, _, _, _, _⟩ :: _) _ _ _; first | refine lra rfl (fun _ _ => rdX) (by rfl) omL ?_ | refine lra rfl (fun _ _ => rdX) (by rfl) (by simp only [List.length_cons, List.length_nil]; omega) ?_) | refine ix rfl rfl (by with_reducible rfl) (fun _ _ => rdX) (by rfl) omL omL ?_ | refine ala rfl (fun b => ?_) | refine sta rfl rfl rfl spL (by rfl) (by rfl) (by rfl) kpL ?_) | refine s_nil ?_ | refine kh_normal ?_))
    rw [he, show Flat.enc (⟨t', A', L'.length, c', cl'⟩ : WC) = [.int .i64 t', .slice A' L'.length c', .int .i64 cl'] from rfl]
    clear he hXk
    have h1 := fun w hG hr => own_not A' L' c' N hN hno hs' w hG hr
    have h2 := fun w hG hr => vis_not A' L' c' N hN hno hs' w hG hr
    have h3 := fun w hG hr => sees_not A' L' c' 3 hno hs' hse' w hG hr
    have h4 := fun w hG hr => view_not A' L' c' hno hs' hse' w hG hr
    (repeat' (first | (show VH _ _ _ _ _ _ _; first | refine v_seq ?_ | refine r_seq ?_) | (show SH _ _ _ _ _ (_ :: _) _ _ _; first | (show SH _ _ _ _ _ (⟨_, .load _ _, _, _, _, _⟩ :: _) _ _ _; first | refine lbx rfl spL (by rfl) ?_ | refine lbs rfl spL (by rfl) (by rfl) ?_) | (show SH _ _ _ _ _ (⟨_, .call ⟨.value (.func 18), _, _⟩, _, _, _, _⟩ :: _) _ _ _; refine cp (callee := .func 18) rfl (fun w hw => h1 w (hG.ext hw.ext) (hrd w (hw.kw spL) (hw.kw spL))) rfl rfl ?_) | refine fad rfl ?_)))
    rintro _ _ ⟨A3, c3, rfl, rfl⟩
    (repeat' (first | (show VH _ _ _ _ _ _ _; first | refine v_seq ?_ | refine r_seq ?_) | (show SH _ _ _ _ _ (_ :: _) _ _ _; first | refine mov evL ?_ | refine asg evL ?_ | (show SH _ _ _ _ _ (⟨_, .load _ _, _, _, _, _⟩ :: _) _ _ _; first | refine lbx rfl spL (by rfl) ?_ | refine lbs rfl spL (by rfl) (by rfl) ?_) | (show SH _ _ _ _ _ (⟨_, .call ⟨.value (.func 11), _, _⟩, _, _, _, _⟩ :: _) _ _ _; refine cp (callee := .func 11) rfl (fun w hw => h2 w (hG.ext hw.ext) (hrd w (hw.kw spL) (hw.kw spL))) rfl rfl ?_) | refine extr rfl rfl ?_ | refine fad rfl ?_) | refine s_nil ?_ | refine kh_normal ?_))
    rintro _ _ ⟨A4, c4, rfl, rfl⟩
    (repeat' (first | (show VH _ _ _ _ _ _ _; first | refine v_seq ?_ | refine r_seq ?_) | (show SH _ _ _ _ _ (_ :: _) _ _ _; first | refine mov evL ?_ | refine asg evL ?_ | (show SH _ _ _ _ _ (⟨_, .load _ _, _, _, _, _⟩ :: _) _ _ _; first | refine lbx rfl spL (by rfl) ?_ | refine lbs rfl spL (by rfl) (by rfl) ?_) | (show SH _ _ _ _ _ (⟨_, .call ⟨.value (.func 19), _, _⟩, _, _, _, _⟩ :: _) _ _ _; refine cl (callee := .func 19) rfl (fun w hw => h3 w (hG.ext hw.ext) (hrd w (hw.kw spL) (hw.kw spL))) rfl rfl ?_) | (show SH _ _ _ _ _ (⟨_, .call ⟨.value (.func 12), _, _⟩, _, _, _, _⟩ :: _) _ _ _; refine cp (callee := .func 12) rfl (fun w hw => h4 w (hG.ext hw.ext) (hrd w (hw.kw spL) (hw.kw spL))) rfl rfl ?_) | refine extr rfl rfl ?_ | refine fad rfl ?_) | refine s_nil ?_ | refine kh_normal ?_))
    rintro _ _ ⟨A5, c5, L5, rfl, hL5, rfl⟩
    have hL5' : L5.length = 0 := by rw [List.map_eq_nil_iff.1 hL5]; rfl
    clear h1 h2 h3 h4
    (repeat' (first | (show VH _ _ _ _ _ _ _; first | refine v_seq ?_ | refine r_seq ?_ | refine v_skip ?_ | refine v_cond_f rfl tbL ?_) | (show SH _ _ _ _ _ (_ :: _) _ _ _; first | (refine gif rfl rfl ?_; refine giFF tbL ?_) | refine mov evL ?_ | refine asg evL ?_ | (show SH _ _ _ _ _ (⟨_, .binOp _ _ _ _ _, _, _, _, _⟩ :: _) _ _ _; first | refine neqF rfl rfl omD ?_ | refine add rfl rfl inL ?_) | refine lbx rfl spL (by rfl) ?_ | refine slen rfl ?_ | refine pkf rfl tbL evL ?_ | refine extr rfl rfl ?_ | refine fad rfl ?_ | refine ala rfl (fun b => ?_) | refine sta rfl rfl rfl spL (by rfl) (by rfl) (by rfl) kpL ?_) | refine s_nil ?_ | refine kh_normal ?_ | refine bh_normal ?_))
    exact ⟨agL, k + 1, hsL, enL, by omega, by omega⟩
  · 
    clear hXk
    (repeat' ((fail_if_success (show VH _ _ (.seq (.seq (.region 28 _ _) _) _) _ _ _ _)); first | (show VH _ _ _ _ _ _ _; first | refine v_seq ?_ | refine r_seq ?_ | refine v_exit ?_ | refine v_cond_f rfl tbL ?_) | (show SH _ _ _ _ _ (_ :: _) _ _ _; first | refine mov evL ?_ | refine asg evL ?_ | refine lssF rfl rfl omD ?_) | refine s_nil ?_ | refine kh_normal ?_ | refine kh_exit ?_ | refine bh_exit ?_))
    refine v_seq ?_
    refine v_cut0 [(20, 20), (161, 163)] (fun i : Int => [(20, .int .i64 i)]) (fun i => i % 3 ≠ 0) ?_ ?_ ent_vh
    · obtain ⟨e1, e2, e3, e4⟩ := pick_eq (n := a1) (show (0 : Int) < 3 by omega)
      (repeat' (first | (show VH _ _ _ _ _ _ _; first | refine v_seq ?_ | refine r_seq ?_) | refine mov evL ?_))
      refine remT rfl rfl (by omega) ?_
      generalize a1.tmod 3 = r at e1 e2 e3 e4 ⊢
      (repeat' (first | (show VH _ _ _ _ _ _ _; first | refine r_seq ?_ | refine v_skip ?_ | refine v_cond_dec rfl (fun h => ?_) (fun h => ?_)) | (show SH _ _ _ _ _ (_ :: _) _ _ _; first | refine asg evL ?_ | refine eql rfl rfl ?_) | refine s_nil ?_ | refine kh_normal ?_))
      · exact ⟨agL, 1, hsL, enL, by omega⟩
      · exact ⟨agL, a1, hsL, enL, by omega⟩
    rintro id' g3 hi3
    simp only [sets]
    have hno : entOf id' (ents L) = none := entOf_none fun e he => by
      rw [hL'] at he
      obtain ⟨i, _, h1, _⟩ := hid0 e he
      omega
    have hv5 : ValidW 5 (ents L) := by rw [hL']; exact hv0
    have h1 := fun w hG hr => seesI_spec 1 id' 5 A L c w hG hs hse hr
    rw [seeB_none hno, seeErr_none ⟨by omega, hv5⟩ hno] at h1
    have h2 := fun w hG hr => watI_spec id' 5 A L c w hG hs hse hr
    rw [watL_none hv5 hno, watErr_none hv5 hno, ← hN] at h2
    have h3 := fun w hG hr => watI_spec 3 tb Ab Lb cb w hG hsb hseb hr
    rw [watL_not hvb, watErr_not hvb, ← hN] at h3
    unfold wv at h1 h2 h3
    (repeat' (first | (show VH _ _ _ _ _ _ _; first | refine v_seq ?_ | refine r_seq ?_) | (show SH _ _ _ _ _ (_ :: _) _ _ _; first | refine mov evL ?_ | refine asg evL ?_ | refine lba rfl spL (by rfl) ?_ | (show SH _ _ _ _ _ (⟨_, .call ⟨.value (.func 19), _, _⟩, _, _, _, _⟩ :: _) _ _ _; refine cl (callee := .func 19) rfl (fun w hw => h1 w (hG.ext hw.ext) (hw.kw spL)) rfl rfl ?_) | (show SH _ _ _ _ _ (⟨_, .call ⟨.value (.func 20), _, _⟩, _, _, _, _⟩ :: _) _ _ _; refine cp (callee := .func 20) rfl (fun w hw => h2 w (hG.ext hw.ext) (hw.kw spL)) rfl rfl ?_) | refine extr rfl rfl ?_) | refine s_nil ?_ | refine kh_normal ?_))
    rintro _ _ ⟨A3, c3, rfl, rfl⟩
    (repeat' (first | (show VH _ _ _ _ _ _ _; first | refine v_seq ?_ | refine r_seq ?_) | (show SH _ _ _ _ _ (_ :: _) _ _ _; first | refine mov evL ?_ | refine asg evL ?_ | refine lba rfl spL (by rfl) ?_ | (show SH _ _ _ _ _ (⟨_, .call ⟨.value (.func 20), _, _⟩, _, _, _, _⟩ :: _) _ _ _; refine cp (callee := .func 20) rfl (fun w hw => h3 w (hG.ext hw.ext) (hw.kw spL)) rfl rfl ?_) | refine extr rfl rfl ?_) | refine s_nil ?_ | refine kh_normal ?_))
    rintro _ _ ⟨A4, c4, rfl, rfl⟩
    (repeat' (first | (show VH _ _ _ _ _ _ _; first | refine v_seq ?_ | refine r_seq ?_ | refine v_ret ?_) | (show SH _ _ _ _ _ (_ :: _) _ _ _; first | (refine gif rfl rfl ?_; refine giTT tbL ?_) | refine mov evL ?_ | refine asg evL ?_ | (show SH _ _ _ _ _ (⟨_, .binOp _ _ _ _ _, _, _, _, _⟩ :: _) _ _ _; first | refine eqlT rfl rfl omD ?_ | refine add rfl rfl inL ?_) | refine slen rfl ?_ | refine bnoF rfl ?_ | refine pkt rfl tbL evL ?_ | refine extr rfl rfl ?_) | refine s_nil ?_ | refine kh_normal ?_))
    exact rh1 rfl rfl ⟨rfl, rfl⟩ (ent_nil _)
end Go.Proofs.YtjefoecnciepmaaDoor
