/- The law's package of layer 24: the world of the examples. -/
import Derived.Test.YtjefoecnciepmaaDoorZTw
import Derived.Test.YtjefoecnciepmaaDoorZLj
set_option linter.unusedSimpArgs false
set_option linter.unusedVariables false
namespace Go.Proofs.YtjefoecnciepmaaDoor
open Go.Fw Go.RowKit
theorem ent_all_of {H : List HP} (X : List HP) (h : Ent H X) : Ent H [allH X] := h.trans (by have := ent_all_in X (G := []); rwa [List.append_nil] at this)
def exC1 : List Comp := [⟨1, 0, 0, 0, 0⟩, ⟨4, 1, 0, 0, 0⟩, ⟨9, 50, 0, 0, 0⟩]
def exC2 : List Comp := [⟨1, 16384, -16384, 0, 0⟩, ⟨4, 2, 0, 0, 0⟩, ⟨8, 9, 0, 0, 0⟩, ⟨9, 7, 0, 0, 0⟩]
def exC3 : List Comp := [⟨1, 16385, 0, 0, 0⟩]
def exC4 : List Comp := [⟨1, 5, 5, 0, 0⟩, ⟨5, 2, 0, 0, 0⟩]
def exC5 : List Comp := [⟨10, 1, 0, 0, 0⟩]
def exC6 : List Comp := [⟨4, 1, 0, 0, 0⟩, ⟨5, 2, 0, 0, 0⟩]
def exL : List Ent1 := [⟨1, exC1⟩, ⟨2, exC2⟩, ⟨3, exC3⟩, ⟨4, exC4⟩, ⟨5, exC5⟩, ⟨6, exC6⟩]
set_option maxHeartbeats 4000000 in
set_option maxRecDepth 100000 in
theorem example_spec (w : World) : Ret Tryd.prog 26 ([] : List Value).toArray w (RP w (WorldR 9 exL)) := by
  unfold WorldR
  refine enterH Tryd.func26 rfl rfl Tryd.ntmps26 rfl (Wd.refl _) ?_
  (repeat' (first | (show VH _ _ _ _ _ _ _; first | refine v_seq ?_ | refine r_seq ?_) | (show SH _ _ _ _ _ (_ :: _) _ _ _; first | (show SH _ _ _ _ _ (⟨_, .call ⟨.value (.func 25), _, _⟩, _, _, _, _⟩ :: _) _ _ _; refine cl (callee := .func 25) rfl (fun w hw => lcomp_spec _ _ _ w) rfl rfl ?_) | refine ala rfl (fun b => ?_)) | refine s_nil ?_ | refine kh_normal ?_))
  refine bsl (l := exC1) rfl rfl (Vals.cons rfl (Vals.cons rfl (Vals.cons rfl Vals.nil))) rfl rfl (by decide) (fun b1 => ?_)
  (repeat' ((show SH _ _ _ _ _ (_ :: _) _ _ _; first | (show SH _ _ _ _ _ (⟨_, .call ⟨.value (.func 25), _, _⟩, _, _, _, _⟩ :: _) _ _ _; refine cl (callee := .func 25) rfl (fun w hw => lcomp_spec _ _ _ w) rfl rfl ?_) | (show SH _ _ _ _ _ (⟨_, .call ⟨.value (.func 24), _, _⟩, _, _, _, _⟩ :: _) _ _ _; refine cl (callee := .func 24) rfl (fun w hw => lthing_spec _ _ _ _ w) rfl rfl ?_))))
  refine bsl (l := exC2) rfl rfl (Vals.cons rfl (Vals.cons rfl (Vals.cons rfl (Vals.cons rfl Vals.nil)))) rfl rfl (by decide) (fun b2 => ?_)
  (repeat' ((show SH _ _ _ _ _ (_ :: _) _ _ _; first | (show SH _ _ _ _ _ (⟨_, .call ⟨.value (.func 25), _, _⟩, _, _, _, _⟩ :: _) _ _ _; refine cl (callee := .func 25) rfl (fun w hw => lcomp_spec _ _ _ w) rfl rfl ?_) | (show SH _ _ _ _ _ (⟨_, .call ⟨.value (.func 24), _, _⟩, _, _, _, _⟩ :: _) _ _ _; refine cl (callee := .func 24) rfl (fun w hw => lthing_spec _ _ _ _ w) rfl rfl ?_))))
  refine bsl (l := exC3) rfl rfl (Vals.cons rfl Vals.nil) rfl rfl (by decide) (fun b3 => ?_)
  (repeat' ((show SH _ _ _ _ _ (_ :: _) _ _ _; first | (show SH _ _ _ _ _ (⟨_, .call ⟨.value (.func 25), _, _⟩, _, _, _, _⟩ :: _) _ _ _; refine cl (callee := .func 25) rfl (fun w hw => lcomp_spec _ _ _ w) rfl rfl ?_) | (show SH _ _ _ _ _ (⟨_, .call ⟨.value (.func 24), _, _⟩, _, _, _, _⟩ :: _) _ _ _; refine cl (callee := .func 24) rfl (fun w hw => lthing_spec _ _ _ _ w) rfl rfl ?_))))
  refine bsl (l := exC4) rfl rfl (Vals.cons rfl (Vals.cons rfl Vals.nil)) rfl rfl (by decide) (fun b4 => ?_)
  (repeat' ((show SH _ _ _ _ _ (_ :: _) _ _ _; first | (show SH _ _ _ _ _ (⟨_, .call ⟨.value (.func 25), _, _⟩, _, _, _, _⟩ :: _) _ _ _; refine cl (callee := .func 25) rfl (fun w hw => lcomp_spec _ _ _ w) rfl rfl ?_) | (show SH _ _ _ _ _ (⟨_, .call ⟨.value (.func 24), _, _⟩, _, _, _, _⟩ :: _) _ _ _; refine cl (callee := .func 24) rfl (fun w hw => lthing_spec _ _ _ _ w) rfl rfl ?_))))
  refine bsl (l := exC5) rfl rfl (Vals.cons rfl Vals.nil) rfl rfl (by decide) (fun b5 => ?_)
  (repeat' ((show SH _ _ _ _ _ (_ :: _) _ _ _; first | (show SH _ _ _ _ _ (⟨_, .call ⟨.value (.func 25), _, _⟩, _, _, _, _⟩ :: _) _ _ _; refine cl (callee := .func 25) rfl (fun w hw => lcomp_spec _ _ _ w) rfl rfl ?_) | (show SH _ _ _ _ _ (⟨_, .call ⟨.value (.func 24), _, _⟩, _, _, _, _⟩ :: _) _ _ _; refine cl (callee := .func 24) rfl (fun w hw => lthing_spec _ _ _ _ w) rfl rfl ?_))))
  refine bsl (l := exC6) rfl rfl (Vals.cons rfl (Vals.cons rfl Vals.nil)) rfl rfl (by decide) (fun b6 => ?_)
  (repeat' ((show SH _ _ _ _ _ (⟨_, .call ⟨.value (.func 24), _, _⟩, _, _, _, _⟩ :: _) _ _ _; refine cl (callee := .func 24) rfl (fun w hw => lthing_spec _ _ _ _ w) rfl rfl ?_)))
  refine bsl (l := [(⟨⟨1, exC1⟩, some ⟨b1, 0, none⟩, 3⟩ : EntP), ⟨⟨2, exC2⟩, some ⟨b2, 0, none⟩, 4⟩, ⟨⟨3, exC3⟩, some ⟨b3, 0, none⟩, 1⟩, ⟨⟨4, exC4⟩, some ⟨b4, 0, none⟩, 2⟩, ⟨⟨5, exC5⟩, some ⟨b5, 0, none⟩, 1⟩, ⟨⟨6, exC6⟩, some ⟨b6, 0, none⟩, 2⟩]) rfl rfl (Vals.cons rfl (Vals.cons rfl (Vals.cons rfl (Vals.cons rfl (Vals.cons rfl (Vals.cons rfl Vals.nil)))))) rfl rfl (by decide) (fun b7 => ?_)
  (repeat' (first | refine v_ret ?_ | (show SH _ _ _ _ _ (_ :: _) _ _ _; first | refine bld rfl rfl ?_ | (show SH _ _ _ _ _ (⟨_, .store _ _ _, _, _, _, _⟩ :: _) _ _ _; refine sta rfl rfl rfl spL (by rfl) (by rfl) (by rfl) kpL ?_)) | refine s_nil ?_ | refine kh_normal ?_))
  refine rhC rfl rfl rfl (fun w hw => loadVar_bx hw spL (by rfl)) ⟨some ⟨b7, 0, none⟩, 6, [(⟨⟨1, exC1⟩, some ⟨b1, 0, none⟩, 3⟩ : EntP), ⟨⟨2, exC2⟩, some ⟨b2, 0, none⟩, 4⟩, ⟨⟨3, exC3⟩, some ⟨b3, 0, none⟩, 1⟩, ⟨⟨4, exC4⟩, some ⟨b4, 0, none⟩, 2⟩, ⟨⟨5, exC5⟩, some ⟨b5, 0, none⟩, 1⟩, ⟨⟨6, exC6⟩, some ⟨b6, 0, none⟩, 2⟩], rfl, rfl, rfl⟩ ?_
  exact Ent.trans (B := [orow 37 (some ⟨b7, 0, none⟩) 6 [(⟨⟨1, exC1⟩, some ⟨b1, 0, none⟩, 3⟩ : EntP), ⟨⟨2, exC2⟩, some ⟨b2, 0, none⟩, 4⟩, ⟨⟨3, exC3⟩, some ⟨b3, 0, none⟩, 1⟩, ⟨⟨4, exC4⟩, some ⟨b4, 0, none⟩, 2⟩, ⟨⟨5, exC5⟩, some ⟨b5, 0, none⟩, 1⟩, ⟨⟨6, exC6⟩, some ⟨b6, 0, none⟩, 2⟩], orow 42 (some ⟨b1, 0, none⟩) 3 exC1, orow 42 (some ⟨b2, 0, none⟩) 4 exC2, orow 42 (some ⟨b3, 0, none⟩) 1 exC3, orow 42 (some ⟨b4, 0, none⟩) 2 exC4, orow 42 (some ⟨b5, 0, none⟩) 1 exC5, orow 42 (some ⟨b6, 0, none⟩) 2 exC6]) enL (ent_cons Split.head (ent_all_of _ (ent_refl _)))
theorem wR {t : Int} {es : List Ent1} {L : List EntP} (h : L.map EntP.e = es) : ents L = es := h
theorem sz_ex {L : List EntP} (h : ents L = exL) : Sz L ∧ ∀ x ∈ L, x.e.comps.length ≤ 1000000 := by
  have hl : L.length = 6 := by rw [← ents_len, h]; rfl
  have hx : ∀ x ∈ L, x.e.comps.length ≤ 4 := fun x hx => by
    have : x.e ∈ exL := by rw [← h]; exact List.mem_map_of_mem hx
    have hall : ∀ e ∈ exL, e.comps.length ≤ 4 := by decide
    exact hall _ this
  exact ⟨⟨by omega, fun x h => by have := hx x h; omega⟩, fun x h => by have := hx x h; omega⟩
theorem ex_v1 : visL 1 9 exL = [1, 2, 6] ∧ errI 1 9 exL = 0 := by decide
theorem ex_v2 : visL 2 9 exL = [1, 2, 3] ∧ errI 2 9 exL = 0 := by decide
theorem ex_v3 : visL 3 9 exL = [] ∧ errI 3 9 exL = 0 := by decide
theorem ex_w1 : watL 1 9 exL = [1, 2] ∧ watErr 1 9 exL = 0 := by decide
theorem ex_w5 : watL 5 9 exL = [] ∧ watErr 5 9 exL = 0 := by decide
theorem ex_view : viewL 1 9 exL = [⟨1, exC1⟩, ⟨2, [⟨1, 16384, -16384, 0, 0⟩, ⟨4, 2, 0, 0, 0⟩, ⟨8, 9, 0, 0, 0⟩]⟩, ⟨6, exC6⟩] ∧ viewT 1 9 exL = 9 := by decide
set_option maxHeartbeats 4000000 in
set_option maxRecDepth 100000 in
theorem awake24_spec (w : World) (hG : Glob w) : Ret Tryd.prog 9 ([] : List Value).toArray w (Out w (.bool true)) := by
  have hx := fun w => example_spec w
  unfold WorldR at hx
  refine enterH Tryd.func9 rfl rfl Tryd.ntmps9 rfl (Wd.refl _) ?_
  (repeat' (first | (show VH _ _ _ _ _ _ _; first | refine v_seq ?_ | refine r_seq ?_) | (show SH _ _ _ _ _ (_ :: _) _ _ _; first | (show SH _ _ _ _ _ (⟨_, .assign _, _, _, _, _⟩ :: _) _ _ _; refine asg evL ?_) | (show SH _ _ _ _ _ (⟨_, .call ⟨.value (.func 26), _, _⟩, _, _, _, _⟩ :: _) _ _ _; refine cp (callee := .func 26) rfl (fun w hw => hx w) rfl rfl ?_)) | refine s_nil ?_ | refine kh_normal ?_))
  rintro _ _ ⟨A, c, L, rfl, hL, rfl⟩
  have hL' : ents L = exL := hL
  obtain ⟨hs, hse⟩ := sz_ex hL'
  have hV := fun ct w hG hr => visI_spec ct 9 A L c w hG hs hr
  have hW := fun id w hG hr => viewI_spec id 9 A L c w hG hs hse hr
  have hC := fun id w hG hr => watI_spec id 9 A L c w hG hs hse hr
  rw [hL'] at hV hW hC
  have hV1 := fun w hG hr => hV 1 w hG hr
  have hV2 := fun w hG hr => hV 2 w hG hr
  have hV3 := fun w hG hr => hV 3 w hG hr
  have hC1 := fun w hG hr => hC 1 w hG hr
  have hC5 := fun w hG hr => hC 5 w hG hr
  have hW1 := fun w hG hr => hW 1 w hG hr
  rw [ex_v1.1, ex_v1.2] at hV1
  rw [ex_v2.1, ex_v2.2] at hV2
  rw [ex_v3.1, ex_v3.2] at hV3
  rw [ex_w1.1, ex_w1.2] at hC1
  rw [ex_w5.1, ex_w5.2] at hC5
  rw [ex_view.1, ex_view.2, ex_v1.2] at hW1
  have hS : ∀ A1 A2 (l : List Int) c1 c2 w, l.length ≤ 100 → Rd w A1 l → Rd w A2 l → Ret Tryd.prog 21 [.slice A1 l.length c1, .slice A2 l.length c2].toArray w (Out w (.bool true)) := fun A1 A2 l c1 c2 w hl h1 h2 => by
    have := sameInts_spec A1 A2 l l c1 c2 w h1 h2 (by omega)
    rwa [decide_eq_true rfl] at this
  clear hV hW hC hse hx hs hL hL'
  (repeat' ((fail_if_success (show VH _ _ (.seq (.region 2 _ _) _) _ _ _ _)); first | (show SH _ _ _ _ _ (_ :: _) _ _ _; first | refine ala rfl (fun b => ?_) | (show SH _ _ _ _ _ (⟨_, .store _ _ _, _, _, _, _⟩ :: _) _ _ _; refine sta rfl rfl rfl spL (by rfl) (by rfl) (by rfl) kpL ?_)) | refine s_nil ?_ | refine kh_normal ?_))
  refine VH.ent (G := [bx b 26 [.int .i64 9, .slice A L.length c], knw A L]) ?_ (Ent.trans (B := [bx b 26 [.int .i64 9, .slice A L.length c], orow 37 A c L, allH (L.map rowOf)]) enL (ent_cons Split.head (ent_knw (G := []))))
  unfold wv at *
  (repeat' (first | (show VH _ _ _ _ _ _ _; first | refine v_seq ?_ | refine r_seq ?_) | (show SH _ _ _ _ _ (_ :: _) _ _ _; first | (show SH _ _ _ _ _ (⟨_, .load _ _, _, _, _, _⟩ :: _) _ _ _; refine lba rfl spL (by rfl) ?_) | (show SH _ _ _ _ _ (⟨_, .call ⟨.value (.func 11), _, _⟩, _, _, _, _⟩ :: _) _ _ _; refine cp (callee := .func 11) rfl (fun w hw => hV1 w (hG.ext hw.ext) (hw.kw spL)) rfl rfl ?_))))
  rintro _ _ ⟨A1, c1, rfl, rfl⟩
  (repeat' (first | (show VH _ _ _ _ _ _ _; first | refine v_seq ?_ | refine r_seq ?_) | (show SH _ _ _ _ _ (_ :: _) _ _ _; first | (show SH _ _ _ _ _ (⟨_, .move _, _, _, _, _⟩ :: _) _ _ _; refine mov evL ?_) | (show SH _ _ _ _ _ (⟨_, .assign _, _, _, _, _⟩ :: _) _ _ _; refine asg evL ?_) | (show SH _ _ _ _ _ (⟨_, .load _ _, _, _, _, _⟩ :: _) _ _ _; refine lba rfl spL (by rfl) ?_) | (show SH _ _ _ _ _ (⟨_, .call ⟨.value (.func 11), _, _⟩, _, _, _, _⟩ :: _) _ _ _; refine cp (callee := .func 11) rfl (fun w hw => hV2 w (hG.ext hw.ext) (hw.kw spL)) rfl rfl ?_) | refine extr rfl rfl ?_) | refine s_nil ?_ | refine kh_normal ?_))
  rintro _ _ ⟨A2, c2, rfl, rfl⟩
  (repeat' (first | (show VH _ _ _ _ _ _ _; first | refine v_seq ?_ | refine r_seq ?_) | (show SH _ _ _ _ _ (_ :: _) _ _ _; first | (show SH _ _ _ _ _ (⟨_, .move _, _, _, _, _⟩ :: _) _ _ _; refine mov evL ?_) | (show SH _ _ _ _ _ (⟨_, .assign _, _, _, _, _⟩ :: _) _ _ _; refine asg evL ?_) | (show SH _ _ _ _ _ (⟨_, .load _ _, _, _, _, _⟩ :: _) _ _ _; refine lba rfl spL (by rfl) ?_) | (show SH _ _ _ _ _ (⟨_, .call ⟨.value (.func 11), _, _⟩, _, _, _, _⟩ :: _) _ _ _; refine cp (callee := .func 11) rfl (fun w hw => hV3 w (hG.ext hw.ext) (hw.kw spL)) rfl rfl ?_) | refine extr rfl rfl ?_) | refine s_nil ?_ | refine kh_normal ?_))
  rintro _ _ ⟨A3, c3, rfl, rfl⟩
  (repeat' (first | (show VH _ _ _ _ _ _ _; first | refine v_seq ?_ | refine r_seq ?_) | (show SH _ _ _ _ _ (_ :: _) _ _ _; first | (show SH _ _ _ _ _ (⟨_, .move _, _, _, _, _⟩ :: _) _ _ _; refine mov evL ?_) | (show SH _ _ _ _ _ (⟨_, .assign _, _, _, _, _⟩ :: _) _ _ _; refine asg evL ?_) | (show SH _ _ _ _ _ (⟨_, .load _ _, _, _, _, _⟩ :: _) _ _ _; refine lba rfl spL (by rfl) ?_) | (show SH _ _ _ _ _ (⟨_, .call ⟨.value (.func 12), _, _⟩, _, _, _, _⟩ :: _) _ _ _; refine cp (callee := .func 12) rfl (fun w hw => hW1 w (hG.ext hw.ext) (hw.kw spL)) rfl rfl ?_) | refine extr rfl rfl ?_) | refine s_nil ?_ | refine kh_normal ?_))
  rintro _ _ ⟨A4, c4, L4, rfl, hL4, rfl⟩
  obtain ⟨⟨e0, A5, c5⟩, ⟨e1, A6, c6⟩, ⟨e2, A7, c7⟩, rfl⟩ : ∃ x0 x1 x2, L4 = [x0, x1, x2] := by
    have hlen := congrArg List.length hL4
    rw [List.length_map] at hlen
    match L4, hlen with
    | [a, b, c], _ => exact ⟨a, b, c, rfl⟩
  simp only [List.map_cons, List.map_nil, List.cons.injEq, and_true] at hL4
  obtain ⟨rfl, rfl, rfl⟩ := hL4
  (repeat' ((fail_if_success (show VH _ _ (.seq (.region 6 _ _) _) _ _ _ _)); first | (show SH _ _ _ _ _ (_ :: _) _ _ _; first | (show SH _ _ _ _ _ (⟨_, .move _, _, _, _, _⟩ :: _) _ _ _; refine mov evL ?_) | (show SH _ _ _ _ _ (⟨_, .assign _, _, _, _, _⟩ :: _) _ _ _; refine asg evL ?_) | refine extr rfl rfl ?_ | refine ala rfl (fun b => ?_) | (show SH _ _ _ _ _ (⟨_, .store _ _ _, _, _, _, _⟩ :: _) _ _ _; refine sta rfl rfl rfl spL (by rfl) (by rfl) (by rfl) kpL ?_)) | refine s_nil ?_ | refine kh_normal ?_))
  rename_i b1
  revert b
  intro b8
  refine VH.ent (G := orow 42 A5 c5 exC1 :: orow 42 A6 c6 [(⟨1, 16384, -16384, 0, 0⟩ : Comp), ⟨4, 2, 0, 0, 0⟩, ⟨8, 9, 0, 0, 0⟩] :: orow 42 A7 c7 exC6 :: [bx b8 26 [.int .i64 9, .slice A4 3 c4], orow 37 A4 c4 [(⟨⟨1, exC1⟩, A5, c5⟩ : EntP), ⟨⟨2, [⟨1, 16384, -16384, 0, 0⟩, ⟨4, 2, 0, 0, 0⟩, ⟨8, 9, 0, 0, 0⟩]⟩, A6, c6⟩, ⟨⟨6, exC6⟩, A7, c7⟩], orow 3 A3 c3 ([] : List Int), orow 3 A2 c2 [(1 : Int), 2, 3], orow 3 A1 c1 [(1 : Int), 2, 6], bx b1 26 [.int .i64 9, .slice A L.length c], knw A L]) ?_ (Ent.trans (B := allH (List.map rowOf [(⟨⟨1, exC1⟩, A5, c5⟩ : EntP), ⟨⟨2, [⟨1, 16384, -16384, 0, 0⟩, ⟨4, 2, 0, 0, 0⟩, ⟨8, 9, 0, 0, 0⟩]⟩, A6, c6⟩, ⟨⟨6, exC6⟩, A7, c7⟩]) :: [bx b8 26 [.int .i64 9, .slice A4 3 c4], orow 37 A4 c4 [(⟨⟨1, exC1⟩, A5, c5⟩ : EntP), ⟨⟨2, [⟨1, 16384, -16384, 0, 0⟩, ⟨4, 2, 0, 0, 0⟩, ⟨8, 9, 0, 0, 0⟩]⟩, A6, c6⟩, ⟨⟨6, exC6⟩, A7, c7⟩], orow 3 A3 c3 ([] : List Int), orow 3 A2 c2 [(1 : Int), 2, 3], orow 3 A1 c1 [(1 : Int), 2, 6], bx b1 26 [.int .i64 9, .slice A L.length c], knw A L]) enL (ent_all_out _))
  clear hV1 hV2 hV3 hW1
  (repeat' (first | (show VH _ _ _ _ _ _ _; first | refine v_seq ?_ | refine r_seq ?_) | (show SH _ _ _ _ _ (_ :: _) _ _ _; first | (show SH _ _ _ _ _ (⟨_, .load _ _, _, _, _, _⟩ :: _) _ _ _; refine lba rfl spL (by rfl) ?_) | (show SH _ _ _ _ _ (⟨_, .call ⟨.value (.func 20), _, _⟩, _, _, _, _⟩ :: _) _ _ _; refine cp (callee := .func 20) rfl (fun w hw => hC1 w (hG.ext hw.ext) (hw.kw spL)) rfl rfl ?_))))
  rintro _ _ ⟨A8, c8, rfl, rfl⟩
  (repeat' (first | (show VH _ _ _ _ _ _ _; first | refine v_seq ?_ | refine r_seq ?_) | (show SH _ _ _ _ _ (_ :: _) _ _ _; first | (show SH _ _ _ _ _ (⟨_, .move _, _, _, _, _⟩ :: _) _ _ _; refine mov evL ?_) | (show SH _ _ _ _ _ (⟨_, .assign _, _, _, _, _⟩ :: _) _ _ _; refine asg evL ?_) | (show SH _ _ _ _ _ (⟨_, .load _ _, _, _, _, _⟩ :: _) _ _ _; refine lba rfl spL (by rfl) ?_) | (show SH _ _ _ _ _ (⟨_, .call ⟨.value (.func 20), _, _⟩, _, _, _, _⟩ :: _) _ _ _; refine cp (callee := .func 20) rfl (fun w hw => hC5 w (hG.ext hw.ext) (hw.kw spL)) rfl rfl ?_) | refine extr rfl rfl ?_) | refine s_nil ?_ | refine kh_normal ?_))
  rintro _ _ ⟨A9, c9, rfl, rfl⟩
  clear hC1 hC5
  (repeat' (first | (show VH _ _ _ _ _ _ _; first | refine v_seq ?_ | refine r_seq ?_) | (show SH _ _ _ _ _ (_ :: _) _ _ _; first | (show SH _ _ _ _ _ (⟨_, _, _, _, _, some _⟩ :: _) _ _ _; (refine gif rfl rfl ?_; refine giFF tbL ?_)) | (show SH _ _ _ _ _ (⟨_, .move _, _, _, _, _⟩ :: _) _ _ _; refine mov evL ?_) | (show SH _ _ _ _ _ (⟨_, .assign _, _, _, _, _⟩ :: _) _ _ _; refine asg evL ?_) | (show SH _ _ _ _ _ (⟨_, .binOp .neq _ _ _ _, _, _, _, _⟩ :: _) _ _ _; refine neqF rfl rfl omD ?_) | (show SH _ _ _ _ _ (⟨_, .binOp .add _ _ _ _, _, _, _, _⟩ :: _) _ _ _; refine add rfl rfl inL ?_) | refine extr rfl rfl ?_ | (show SH _ _ _ _ _ (⟨_, .buildSlice _ _ _, _, _, _, _⟩ :: _) _ _ _; refine bsl (α := Int) rfl rfl (by repeat (first | exact Vals.nil | (apply Vals.cons; rfl))) rfl (by rfl) (by decide) (fun b => ?_))) | refine s_nil ?_ | refine kh_normal ?_))
  refine cl (callee := .func 21) rfl (fun w hw => hS A1 (some ⟨b, 0, none⟩) [1, 2, 6] _ _ w (by decide) (hw.rd spL) (hw.rd spL)) rfl rfl ?_
  (repeat' ((show SH _ _ _ _ _ (_ :: _) _ _ _; first | (show SH _ _ _ _ _ (⟨_, _, _, _, _, some _⟩ :: _) _ _ _; (refine gif rfl rfl ?_; refine giFF tbL ?_)) | (show SH _ _ _ _ _ (⟨_, .move _, _, _, _, _⟩ :: _) _ _ _; refine mov evL ?_) | refine bnoT rfl ?_ | (show SH _ _ _ _ _ (⟨_, .pick _ _ _, _, _, _, _⟩ :: _) _ _ _; refine pkf rfl tbL evL ?_) | (show SH _ _ _ _ _ (⟨_, .buildSlice _ _ _, _, _, _, _⟩ :: _) _ _ _; refine bsl (α := Int) rfl rfl (by repeat (first | exact Vals.nil | (apply Vals.cons; rfl))) rfl (by rfl) (by decide) (fun b => ?_)))))
  refine cl (callee := .func 21) rfl (fun w hw => hS A2 (some ⟨b, 0, none⟩) [1, 2, 3] _ _ w (by decide) (hw.rd spL) (hw.rd spL)) rfl rfl ?_
  (repeat' ((show SH _ _ _ _ _ (_ :: _) _ _ _; first | (show SH _ _ _ _ _ (⟨_, _, _, _, _, some _⟩ :: _) _ _ _; (refine gif rfl rfl ?_; refine giFF tbL ?_)) | (show SH _ _ _ _ _ (⟨_, .move _, _, _, _, _⟩ :: _) _ _ _; refine mov evL ?_) | refine neq rfl rfl ?_ | refine slen rfl ?_ | refine bnoT rfl ?_ | (show SH _ _ _ _ _ (⟨_, .pick _ _ _, _, _, _, _⟩ :: _) _ _ _; refine pkf rfl tbL evL ?_) | (show SH _ _ _ _ _ (⟨_, .buildSlice _ _ _, _, _, _, _⟩ :: _) _ _ _; refine bsl (α := Int) rfl rfl (by repeat (first | exact Vals.nil | (apply Vals.cons; rfl))) rfl (by rfl) (by decide) (fun b => ?_)))))
  refine cl (callee := .func 21) rfl (fun w hw => hS A8 (some ⟨b, 0, none⟩) [1, 2] _ _ w (by decide) (hw.rd spL) (hw.rd spL)) rfl rfl ?_
  (repeat' (first | (show VH _ _ _ _ _ _ _; first | refine v_seq ?_ | refine r_seq ?_ | refine v_skip ?_ | refine v_cond_f rfl tbL ?_) | (show SH _ _ _ _ _ (_ :: _) _ _ _; first | (show SH _ _ _ _ _ (⟨_, _, _, _, _, some _⟩ :: _) _ _ _; (refine gif rfl rfl ?_; first | refine giTT tbL ?_ | refine giFF tbL ?_)) | (show SH _ _ _ _ _ (⟨_, .move _, _, _, _, _⟩ :: _) _ _ _; refine mov evL ?_) | (show SH _ _ _ _ _ (⟨_, .binOp .eql _ _ _ _, _, _, _, _⟩ :: _) _ _ _; first | refine eqlT rfl rfl omD ?_ | refine eql rfl rfl ?_) | (show SH _ _ _ _ _ (⟨_, .load _ _, _, _, _, _⟩ :: _) _ _ _; first | refine lbx rfl spL (by rfl) ?_ | refine lrf rfl (fun _ _ => rdX) (by rfl) omL (by rfl) ?_ | refine lrf rfl (fun _ _ => rdX) (by rfl) (by simp only [List.length_cons, List.length_nil]; omega) (by rfl) ?_) | (show SH _ _ _ _ _ (⟨_, .indexAddr _ _ _, _, _, _, _⟩ :: _) _ _ _; first | refine ixi rfl rfl (fun _ _ => rdX) (by rfl) omL omL omL ?_ | refine ixi rfl rfl (fun _ _ => rdX) (by rfl) omL (by first | omega | (simp only [List.length_cons, List.length_nil]; omega)) (by simp only [List.length_cons, List.length_nil]; omega) ?_) | refine slen rfl ?_ | refine bnoT rfl ?_ | (show SH _ _ _ _ _ (⟨_, .pick _ _ _, _, _, _, _⟩ :: _) _ _ _; first | refine pkt rfl tbL evL ?_ | refine pkf rfl tbL evL ?_) | refine fad rfl ?_) | refine s_nil ?_ | refine kh_normal ?_))
  refine ixi (α := Comp) (A := A6) (l := [(⟨1, 16384, -16384, 0, 0⟩ : Comp), ⟨4, 2, 0, 0, 0⟩, ⟨8, 9, 0, 0, 0⟩]) (i := 2) rfl rfl (fun w hw => hw.rd spL) rfl (by omega) (by show (2 : Int) < ((3 : Nat) : Int); omega) (by simp only [List.length_cons, List.length_nil]; omega) ?_
  (repeat' (first | refine v_ret ?_ | (show SH _ _ _ _ _ (_ :: _) _ _ _; first | (show SH _ _ _ _ _ (⟨_, _, _, _, _, some _⟩ :: _) _ _ _; (refine gif rfl rfl ?_; refine giTT tbL ?_)) | (show SH _ _ _ _ _ (⟨_, .assign _, _, _, _, _⟩ :: _) _ _ _; refine asg evL ?_) | refine eql rfl rfl ?_ | (show SH _ _ _ _ _ (⟨_, .load _ _, _, _, _, _⟩ :: _) _ _ _; first | refine lrf rfl (fun _ _ => rdX) (by rfl) omL (by rfl) ?_ | refine lrf rfl (fun _ _ => rdX) (by rfl) (by simp only [List.length_cons, List.length_nil]; omega) (by rfl) ?_) | (show SH _ _ _ _ _ (⟨_, .pick _ _ _, _, _, _, _⟩ :: _) _ _ _; refine pkt rfl tbL evL ?_) | refine fad rfl ?_) | refine s_nil ?_ | refine kh_normal ?_))
  exact rh1 rfl rfl ⟨rfl, rfl⟩ (ent_nil _)
end Go.Proofs.YtjefoecnciepmaaDoor
