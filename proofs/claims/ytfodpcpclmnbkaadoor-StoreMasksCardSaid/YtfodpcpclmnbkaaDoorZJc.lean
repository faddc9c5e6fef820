/- The law's package of layer 15: the world of the examples. -/
import Derived.Test.YtfodpcpclmnbkaaDoorZTw
import Derived.Test.YtfodpcpclmnbkaaDoorZJb
import Derived.Test.YtfodpcpclmnbkaaDoorZSl
import Derived.Test.YtfodpcpclmnbkaaDoorZSx
import Derived.Test.YtfodpcpclmnbkaaDoorZWz
set_option linter.unusedSimpArgs false
set_option linter.unusedVariables false
namespace Go.Proofs.YtfodpcpclmnbkaaDoor
open Go.Fw Go.RowKit
section
variable {md : Md} {n : Nat} {Q : HQ} {f : Fr} {w0 : World} {H R : List HP} {ops : Array Oper} {rest : List Oper} {d : Nat} {ty : TypeId} {pos : String} {aft : Array Edge} {x y : Operand}
theorem bldQ1 {a : Int} (h0 : ev n f x = .int .i64 a) (k : SH (nx md) Tryd.prog n ops Q rest (upd f d (.agg [.int .i64 a, .int .i64 0, .int .i64 0, .int .i64 0].toArray)) w0 H) :
    SH md Tryd.prog n ops Q (⟨some d, .build 40 #[(0, x)], ty, pos, aft, none⟩ :: rest) f w0 H :=
  bldA (parts := [(0, x)]) (cs := [.int .i64 a, .int .i64 0, .int .i64 0, .int .i64 0]) (by simp [Instr.fill, h0, Value.cells]) k
theorem bldQ2 {a b : Int} (h0 : ev n f x = .int .i64 a) (h1 : ev n f y = .int .i64 b) (k : SH (nx md) Tryd.prog n ops Q rest (upd f d (.agg [.int .i64 a, .int .i64 b, .int .i64 0, .int .i64 0].toArray)) w0 H) :
    SH md Tryd.prog n ops Q (⟨some d, .build 40 #[(0, x), (1, y)], ty, pos, aft, none⟩ :: rest) f w0 H :=
  bldA (parts := [(0, x), (1, y)]) (cs := [.int .i64 a, .int .i64 b, .int .i64 0, .int .i64 0]) (by simp [Instr.fill, h0, h1, Value.cells]) k
theorem bldC {kd a b c e : Int} (h0 : ev n f x = .int .u8 kd) (h1 : ev n f y = .agg #[.int .i64 a, .int .i64 b, .int .i64 c, .int .i64 e]) (k : SH (nx md) Tryd.prog n ops Q rest (upd f d (.agg (Flat.enc (⟨kd, a, b, c, e⟩ : Comp)).toArray)) w0 H) :
    SH md Tryd.prog n ops Q (⟨some d, .build 42 #[(0, x), (1, y)], ty, pos, aft, none⟩ :: rest) f w0 H :=
  bldN (parts := [(0, x), (1, y)]) (cs := Flat.enc (⟨kd, a, b, c, e⟩ : Comp)) (by simp [Instr.fill, h0, h1, Value.cells, Flat.enc]) k
theorem bldC0 {kd : Int} (h0 : ev n f x = .int .u8 kd) (k : SH (nx md) Tryd.prog n ops Q rest (upd f d (.agg (Flat.enc (⟨kd, 0, 0, 0, 0⟩ : Comp)).toArray)) w0 H) :
    SH md Tryd.prog n ops Q (⟨some d, .build 42 #[(0, x)], ty, pos, aft, none⟩ :: rest) f w0 H :=
  bldN (parts := [(0, x)]) (cs := Flat.enc (⟨kd, 0, 0, 0, 0⟩ : Comp)) (by simp [Instr.fill, h0, Value.cells, Flat.enc]) k
end
def ex1 : List Comp := [⟨1, 5, 6, 0, 0⟩, ⟨8, 9, 0, 0, 0⟩]
def ex2 : List Comp := [⟨1, 1, 1, 0, 0⟩]
def exW : List Ent1 := [⟨2, ex1⟩, ⟨7, ex2⟩]
theorem ent_all_of {H : List HP} (X : List HP) (h : Ent H X) : Ent H [allH X] := h.trans (by have := ent_all_in X (G := []); rwa [List.append_nil] at this)
set_option maxHeartbeats 4000000 in
set_option maxRecDepth 100000 in
theorem example15_spec (w : World) : Ret Tryd.prog 48 ([] : List Value).toArray w (RP w (WorldR 0 exW)) := by
  unfold WorldR
  refine enterH Tryd.func48 rfl rfl Tryd.ntmps48 rfl (Wd.refl _) ?_
  (repeat' (first | (show VH _ _ _ _ _ _ _; first | refine v_seq ?_ | refine r_seq ?_) | refine ala rfl (fun b => ?_) | refine s_nil ?_ | refine kh_normal ?_))
  refine bldQ2 rfl rfl ?_
  refine bldC rfl rfl ?_
  refine bldQ1 rfl ?_
  refine bldC rfl rfl ?_
  (repeat' (first | (show VH _ _ _ _ _ _ _; first | refine v_seq ?_ | refine r_seq ?_ | refine r_quiet hmix (by kernel_rfl) ?_ | refine v_block ?_ | refine v_ret ?_ | refine v_skip ?_ | refine v_exit ?_ | refine v_label ?_ | refine v_cond_t rfl tbL ?_ | refine v_cond_f rfl tbL ?_ | refine v_cond_dec rfl (fun h => ?_) (fun h => ?_) | refine v_cond_ndec rfl (fun h => ?_) (fun h => ?_) | refine v_cond rfl (fun h => ?_) (fun h => ?_)) | (show SH _ _ _ _ _ (_ :: _) _ _ _; first | (show SH _ _ _ _ _ (⟨_, .build _ _, _, _, _, _⟩ :: _) _ _ _; first | refine bld rfl rfl ?_ | refine bldZ ?_ | refine bldZN ?_) | (show SH _ _ _ _ _ (⟨_, .alloc _, _, _, _, _⟩ :: _) _ _ _; first | refine al1 rfl (fun b => ?_) | refine ala rfl (fun b => ?_)) | (show SH _ _ _ _ _ (⟨_, .store _ _ _, _, _, _, _⟩ :: _) _ _ _; first | refine stb rfl rfl evL spL rfl rfl (by first | decide | exact Nat.zero_lt_succ _ | exact of_decide_eq_true rfl) kpL ?_ | refine sta rfl rfl rfl spL (by rfl) (by rfl) (by rfl) kpL ?_ | refine sti rfl rfl rfl spL omL kpL ?_ | refine sbi rfl rfl rfl spL omL kpL ?_ | refine sbs rfl rfl evL spL (by rfl) (by rfl) (of_decide_eq_true rfl) kpL ?_) | (show SH _ _ _ _ _ (⟨_, .buildSlice _ _ _, _, _, _, _⟩ :: _) _ _ _; refine bsl (α := Int) rfl rfl (by repeat (first | exact Vals.nil | (apply Vals.cons; rfl))) rfl (by rfl) (by decide) (fun b => ?_))) | refine s_nil ?_ | refine s_fork ?_ ?_ | refine s_fork3 ?_ ?_ ?_ | refine s_fork4 ?_ ?_ ?_ ?_ | refine kh_normal ?_ | refine kh_ret ?_ | refine kh_exit ?_ | refine bh_normal ?_ | refine bh_ret ?_ | refine bh_exit ?_ | refine bh_exit_ne rfl ?_))
  refine bsl (l := ex1) rfl rfl (Vals.cons rfl (Vals.cons rfl Vals.nil)) rfl rfl (by decide) (fun b1 => ?_)
  (repeat' (refine bld rfl rfl ?_))
  refine bldQ2 rfl rfl ?_
  refine bldC rfl rfl ?_
  refine bsl (l := ex2) rfl rfl (Vals.cons rfl Vals.nil) rfl rfl (by decide) (fun b2 => ?_)
  (repeat' (refine bld rfl rfl ?_))
  refine bsl (l := [(⟨⟨2, ex1⟩, some ⟨b1, 0, none⟩, 2⟩ : EntP), ⟨⟨7, ex2⟩, some ⟨b2, 0, none⟩, 1⟩]) rfl rfl (Vals.cons rfl (Vals.cons rfl Vals.nil)) rfl rfl (by decide) (fun b7 => ?_)
  (repeat' (first | refine v_ret ?_ | (show SH _ _ _ _ _ (_ :: _) _ _ _; first | refine bld rfl rfl ?_ | (show SH _ _ _ _ _ (⟨_, .store _ _ _, _, _, _, _⟩ :: _) _ _ _; refine sta rfl rfl rfl spL (by rfl) (by rfl) (by rfl) kpL ?_)) | refine s_nil ?_ | refine kh_normal ?_))
  refine rhC rfl rfl rfl (fun w hw => loadVar_bx hw spL (by rfl)) ⟨some ⟨b7, 0, none⟩, 2, [(⟨⟨2, ex1⟩, some ⟨b1, 0, none⟩, 2⟩ : EntP), ⟨⟨7, ex2⟩, some ⟨b2, 0, none⟩, 1⟩], rfl, rfl, rfl⟩ ?_
  exact Ent.trans (B := [orow 32 (some ⟨b7, 0, none⟩) 2 [(⟨⟨2, ex1⟩, some ⟨b1, 0, none⟩, 2⟩ : EntP), ⟨⟨7, ex2⟩, some ⟨b2, 0, none⟩, 1⟩], orow 42 (some ⟨b1, 0, none⟩) 2 ex1, orow 42 (some ⟨b2, 0, none⟩) 1 ex2]) enL (ent_cons Split.head (ent_all_of _ enL))
def exS : List Comp := [⟨1, 5, 6, 0, 0⟩, ⟨2, 3, 0, 0, 0⟩, ⟨8, 9, 0, 0, 0⟩]
theorem ex_next : ValidW 0 exW ∧ nextI exW 1 = 1 := by decide
theorem ex_set1 : setErr 0 2 ⟨2, 3, 0, 0, 0⟩ exW = 0 ∧ setL 2 ⟨2, 3, 0, 0, 0⟩ exW = [⟨2, exS⟩, ⟨7, ex2⟩] := by decide
theorem ex_set2 : setErr 0 3 ⟨2, 0, 0, 0, 0⟩ exW = 6 := by decide
theorem ex_set3 : setErr 0 2 ⟨4, 9, 0, 0, 0⟩ exW = 2 := by decide
theorem ex_add : addErr 0 ⟨7, []⟩ exW = 2 := by decide
theorem ex_with : withM 0 2 exW = [2, 7] ∧ withM 0 258 exW = [2] ∧ maskC exS = 262 := by decide +kernel
theorem sz_exW {L : List EntP} (h : ents L = exW) : Sz L ∧ L.length ≤ 1000000 ∧ (∀ x ∈ L, x.e.comps.length ≤ 100000) ∧ ∀ x ∈ L, x.e.comps.length ≤ 1000000 := by
  have hl : L.length = 2 := by rw [← ents_len, h]; rfl
  have hx : ∀ x ∈ L, x.e.comps.length ≤ 4 := fun x hx => by
    have : x.e ∈ exW := by rw [← h]; exact List.mem_map_of_mem hx
    have hall : ∀ e ∈ exW, e.comps.length ≤ 4 := by decide
    exact hall _ this
  exact ⟨⟨by omega, fun x h => by have := hx x h; omega⟩, by omega, fun x h => by have := hx x h; omega, fun x h => by have := hx x h; omega⟩
set_option maxHeartbeats 4000000 in
set_option maxRecDepth 100000 in
theorem awake15_spec (w : World) (hG : Glob w) : Ret Tryd.prog 14 ([] : List Value).toArray w (Out w (.bool true)) := by
  have hx := fun w => example15_spec w
  unfold WorldR at hx
  refine enterH Tryd.func14 rfl rfl Tryd.ntmps14 rfl (Wd.refl _) ?_
  (repeat' (first | (show VH _ _ _ _ _ _ _; first | refine v_seq ?_ | refine r_seq ?_) | (show SH _ _ _ _ _ (_ :: _) _ _ _; first | (show SH _ _ _ _ _ (⟨_, .assign _, _, _, _, _⟩ :: _) _ _ _; refine asg evL ?_) | (show SH _ _ _ _ _ (⟨_, .call ⟨.value (.func 48), _, _⟩, _, _, _, _⟩ :: _) _ _ _; refine cp (callee := .func 48) rfl (fun w hw => hx w) rfl rfl ?_)) | refine s_nil ?_ | refine kh_normal ?_))
  rintro _ _ ⟨A, c, L, rfl, hL, rfl⟩
  have hL' : ents L = exW := hL
  obtain ⟨hs, hl, hse, hse2⟩ := sz_exW hL'
  have hN := fun w hG hr => next_spec 0 A L c w hG hs hr
  have hS := fun id cm w hG hr => set_spec 0 id cm A L c w hG hs hl hse hr
  have hA := fun w hG hr => add_spec 0 (⟨⟨7, []⟩, none, 0⟩ : EntP) A L c w hG hs hl hse hr (by simp) (Rd.nil _ none)
  have hW := fun m w hG hr => with_spec 0 m A L c w hG hs hse2 hr
  rw [hL'] at hN hS hA hW
  rw [if_pos ex_next.1, if_pos ex_next.1, ex_next.2] at hN
  have hS1 := fun w hG hr => hS 2 ⟨2, 3, 0, 0, 0⟩ w hG hr
  have hS2 := fun w hG hr => hS 3 ⟨2, 0, 0, 0, 0⟩ w hG hr
  have hS3 := fun w hG hr => hS 2 ⟨4, 9, 0, 0, 0⟩ w hG hr
  have hW1 := fun w hG hr => hW 2 w hG hr
  have hW2 := fun w hG hr => hW 258 w hG hr
  rw [ex_set1.1, ex_set1.2] at hS1
  rw [ex_set2] at hS2
  rw [ex_set3] at hS3
  rw [show addErr 0 (⟨⟨7, []⟩, none, 0⟩ : EntP).e exW = 2 from ex_add] at hA
  rw [ex_with.1] at hW1
  rw [ex_with.2.1] at hW2
  unfold ChgR at hS1 hS2 hS3 hA
  simp only [if_true, show ((6 : Int) = 0) = False from by simp, show ((2 : Int) = 0) = False from by simp, if_false] at hS1 hS2 hS3 hA
  unfold wv at hN hS1 hS2 hS3 hA hW1 hW2
  have hI : ∀ A1 A2 (l : List Int) c1 c2 w, l.length ≤ 100 → Rd w A1 l → Rd w A2 l → Ret Tryd.prog 34 [.slice A1 l.length c1, .slice A2 l.length c2].toArray w (Out w (.bool true)) := fun A1 A2 l c1 c2 w hl h1 h2 => by
    have := ints_spec A1 A2 l l c1 c2 w h1 h2 (by omega)
    rwa [decide_eq_true rfl] at this
  clear hS hW hx hs hL hL' hl hse hse2
  (repeat' ((fail_if_success (show VH _ _ (.seq (.region 2 _ _) _) _ _ _ _)); first | (show SH _ _ _ _ _ (_ :: _) _ _ _; first | refine ala rfl (fun b => ?_) | (show SH _ _ _ _ _ (⟨_, .store _ _ _, _, _, _, _⟩ :: _) _ _ _; refine sta rfl rfl rfl spL (by rfl) (by rfl) (by rfl) kpL ?_)) | refine s_nil ?_ | refine kh_normal ?_))
  refine VH.ent (G := [bx b 25 [.int .i64 0, .slice A L.length c], knw A L]) ?_ (Ent.trans (B := [bx b 25 [.int .i64 0, .slice A L.length c], orow 32 A c L, allH (L.map rowOf)]) enL (ent_cons Split.head (ent_knw (G := []))))
  (repeat' (first | (show VH _ _ _ _ _ _ _; first | refine v_seq ?_ | refine r_seq ?_) | (show SH _ _ _ _ _ (_ :: _) _ _ _; first | (show SH _ _ _ _ _ (⟨_, .move _, _, _, _, _⟩ :: _) _ _ _; refine mov evL ?_) | (show SH _ _ _ _ _ (⟨_, .assign _, _, _, _, _⟩ :: _) _ _ _; refine asg evL ?_) | (show SH _ _ _ _ _ (⟨_, .load _ _, _, _, _, _⟩ :: _) _ _ _; refine lba rfl spL (by rfl) ?_) | (show SH _ _ _ _ _ (⟨_, .call ⟨.value (.func 11), _, _⟩, _, _, _, _⟩ :: _) _ _ _; refine cl (callee := .func 11) rfl (fun w hw => hN w (hG.ext hw.ext) (hw.kw spL)) rfl rfl ?_) | refine extr rfl rfl ?_) | refine s_nil ?_ | refine kh_normal ?_))
  refine bldQ1 rfl ?_
  refine bldC rfl rfl ?_
  (repeat' ((show SH _ _ _ _ _ (⟨_, .call ⟨.value (.func 16), _, _⟩, _, _, _, _⟩ :: _) _ _ _; refine cp (callee := .func 16) rfl (fun w hw => hS1 w (hG.ext hw.ext) (hw.kw spL)) rfl rfl ?_)))
  rintro _ _ ⟨A1, c1, L1, rfl, hL1, rfl⟩
  obtain ⟨⟨e0, A5, c5⟩, ⟨e1, A6, c6⟩, rfl⟩ : ∃ x0 x1, L1 = [x0, x1] := by
    have hlen := congrArg List.length hL1
    rw [List.length_map] at hlen
    match L1, hlen with
    | [a, b], _ => exact ⟨a, b, rfl⟩
  simp only [List.map_cons, List.map_nil, List.cons.injEq, and_true] at hL1
  obtain ⟨rfl, rfl⟩ := hL1
  (repeat' ((fail_if_success (show VH _ _ (.seq (.region 4 _ _) _) _ _ _ _)); first | (show SH _ _ _ _ _ (_ :: _) _ _ _; first | (show SH _ _ _ _ _ (⟨_, .move _, _, _, _, _⟩ :: _) _ _ _; refine mov evL ?_) | (show SH _ _ _ _ _ (⟨_, .assign _, _, _, _, _⟩ :: _) _ _ _; refine asg evL ?_) | refine extr rfl rfl ?_ | refine ala rfl (fun b => ?_) | (show SH _ _ _ _ _ (⟨_, .store _ _ _, _, _, _, _⟩ :: _) _ _ _; refine sta rfl rfl rfl spL (by rfl) (by rfl) (by rfl) kpL ?_)) | refine s_nil ?_ | refine kh_normal ?_))
  rename_i b1
  revert b
  intro b4
  refine VH.ent (G := [orow 42 A5 c5 exS, bx b4 25 [.int .i64 0, .slice A1 2 c1], orow 32 A1 c1 [(⟨⟨2, exS⟩, A5, c5⟩ : EntP), ⟨⟨7, ex2⟩, A6, c6⟩], bx b1 25 [.int .i64 0, .slice A L.length c], knw A L]) ?_ (Ent.trans (B := allH (rowOf (⟨⟨2, exS⟩, A5, c5⟩ : EntP) :: [rowOf (⟨⟨7, ex2⟩, A6, c6⟩ : EntP)]) :: [bx b4 25 [.int .i64 0, .slice A1 2 c1], orow 32 A1 c1 [(⟨⟨2, exS⟩, A5, c5⟩ : EntP), ⟨⟨7, ex2⟩, A6, c6⟩], bx b1 25 [.int .i64 0, .slice A L.length c], knw A L]) enL (ent_all_uncons.trans enL))
  clear hS1 hN
  have hE0 : Flat.enc ([(⟨⟨2, exS⟩, A5, c5⟩ : EntP), ⟨⟨7, ex2⟩, A6, c6⟩].getD 0 Flat.dflt) = [.int .i64 2, .slice A5 exS.length c5] := rfl
  have hM := fun w hr => mask_spec (⟨⟨2, exS⟩, A5, c5⟩ : EntP) w (show exS.length ≤ 1000000 by decide) hr
  rw [show (⟨⟨2, exS⟩, A5, c5⟩ : EntP).e.comps = exS from rfl, ex_with.2.2] at hM
  rw [show Flat.enc (⟨⟨2, exS⟩, A5, c5⟩ : EntP) = [.int .i64 2, .slice A5 exS.length c5] from rfl] at hM
  have hel : exS.length = 3 := rfl
  generalize exS = eS at hE0 hM hel
  (repeat' (first | (show VH _ _ _ _ _ _ _; first | refine v_seq ?_ | refine r_seq ?_) | (show SH _ _ _ _ _ (_ :: _) _ _ _; (show SH _ _ _ _ _ (⟨_, .load _ _, _, _, _, _⟩ :: _) _ _ _; refine lba rfl spL (by rfl) ?_))))
  refine bldC0 rfl ?_
  (repeat' ((show SH _ _ _ _ _ (⟨_, .call ⟨.value (.func 16), _, _⟩, _, _, _, _⟩ :: _) _ _ _; refine cp (callee := .func 16) rfl (fun w hw => hS2 w (hG.ext hw.ext) (hw.kw spL)) rfl rfl ?_)))
  rintro _ _ ⟨A2, c2, L2, rfl, hL2, rfl⟩
  clear hS2
  (repeat' (first | (show VH _ _ _ _ _ _ _; first | refine v_seq ?_ | refine r_seq ?_) | (show SH _ _ _ _ _ (_ :: _) _ _ _; first | (show SH _ _ _ _ _ (⟨_, .move _, _, _, _, _⟩ :: _) _ _ _; refine mov evL ?_) | (show SH _ _ _ _ _ (⟨_, .assign _, _, _, _, _⟩ :: _) _ _ _; refine asg evL ?_) | (show SH _ _ _ _ _ (⟨_, .load _ _, _, _, _, _⟩ :: _) _ _ _; refine lba rfl spL (by rfl) ?_) | refine extr rfl rfl ?_ | refine ala rfl (fun b => ?_) | (show SH _ _ _ _ _ (⟨_, .store _ _ _, _, _, _, _⟩ :: _) _ _ _; refine sta rfl rfl rfl spL (by rfl) (by rfl) (by rfl) kpL ?_)) | refine s_nil ?_ | refine kh_normal ?_))
  refine bldQ1 rfl ?_
  refine bldC rfl rfl ?_
  (repeat' ((show SH _ _ _ _ _ (⟨_, .call ⟨.value (.func 16), _, _⟩, _, _, _, _⟩ :: _) _ _ _; refine cp (callee := .func 16) rfl (fun w hw => hS3 w (hG.ext hw.ext) (hw.kw spL)) rfl rfl ?_)))
  rintro _ _ ⟨A3, c3, L3, rfl, hL3, rfl⟩
  clear hS3
  (repeat' (first | (show VH _ _ _ _ _ _ _; first | refine v_seq ?_ | refine r_seq ?_) | (show SH _ _ _ _ _ (_ :: _) _ _ _; first | (show SH _ _ _ _ _ (⟨_, .move _, _, _, _, _⟩ :: _) _ _ _; refine mov evL ?_) | (show SH _ _ _ _ _ (⟨_, .assign _, _, _, _, _⟩ :: _) _ _ _; refine asg evL ?_) | (show SH _ _ _ _ _ (⟨_, .load _ _, _, _, _, _⟩ :: _) _ _ _; refine lba rfl spL (by rfl) ?_) | (show SH _ _ _ _ _ (⟨_, .call ⟨.value (.func 13), _, _⟩, _, _, _, _⟩ :: _) _ _ _; refine cp (callee := .func 13) rfl (fun w hw => hA w (hG.ext hw.ext) (hw.kw spL)) rfl rfl ?_) | refine extr rfl rfl ?_ | refine bld rfl rfl ?_ | refine ala rfl (fun b => ?_) | (show SH _ _ _ _ _ (⟨_, .store _ _ _, _, _, _, _⟩ :: _) _ _ _; refine sta rfl rfl rfl spL (by rfl) (by rfl) (by rfl) kpL ?_)) | refine s_nil ?_ | refine kh_normal ?_))
  rintro _ _ ⟨A4, c4, L4, rfl, hL4, rfl⟩
  clear hA
  (repeat' (first | (show VH _ _ _ _ _ _ _; first | refine v_seq ?_ | refine r_seq ?_) | (show SH _ _ _ _ _ (_ :: _) _ _ _; first | (show SH _ _ _ _ _ (⟨_, _, _, _, _, some _⟩ :: _) _ _ _; (refine gif rfl rfl ?_; refine giTT tbL ?_)) | (show SH _ _ _ _ _ (⟨_, .move _, _, _, _, _⟩ :: _) _ _ _; refine mov evL ?_) | (show SH _ _ _ _ _ (⟨_, .assign _, _, _, _, _⟩ :: _) _ _ _; refine asg evL ?_) | (show SH _ _ _ _ _ (⟨_, .binOp .eql _ _ _ _, _, _, _, _⟩ :: _) _ _ _; refine eqlT rfl rfl omD ?_) | (show SH _ _ _ _ _ (⟨_, .load _ _, _, _, _, _⟩ :: _) _ _ _; refine lba rfl spL (by rfl) ?_) | (show SH _ _ _ _ _ (⟨_, .call ⟨.value (.func 20), _, _⟩, _, _, _, _⟩ :: _) _ _ _; refine cp (callee := .func 20) rfl (fun w hw => hW1 w (hG.ext hw.ext) (hw.kw spL)) rfl rfl ?_) | (show SH _ _ _ _ _ (⟨_, .pick _ _ _, _, _, _, _⟩ :: _) _ _ _; refine pkt rfl tbL evL ?_) | refine extr rfl rfl ?_ | refine ala rfl (fun b => ?_) | (show SH _ _ _ _ _ (⟨_, .store _ _ _, _, _, _, _⟩ :: _) _ _ _; refine sta rfl rfl rfl spL (by rfl) (by rfl) (by rfl) kpL ?_)) | refine s_nil ?_ | refine kh_normal ?_))
  rintro _ _ ⟨A7, c7, rfl, rfl⟩
  clear hW1
  (repeat' ((show SH _ _ _ _ _ (_ :: _) _ _ _; first | (show SH _ _ _ _ _ (⟨_, _, _, _, _, some _⟩ :: _) _ _ _; (refine gif rfl rfl ?_; refine giTT tbL ?_)) | (show SH _ _ _ _ _ (⟨_, .buildSlice _ _ _, _, _, _, _⟩ :: _) _ _ _; refine bsl (α := Int) rfl rfl (by repeat (first | exact Vals.nil | (apply Vals.cons; rfl))) rfl (by rfl) (by decide) (fun b => ?_)))))
  refine cl (callee := .func 34) rfl (fun w hw => hI A7 (some ⟨b, 0, none⟩) [2, 7] _ _ w (by decide) (hw.rd spL) (hw.rd spL)) rfl rfl ?_
  (repeat' ((show SH _ _ _ _ _ (_ :: _) _ _ _; first | (show SH _ _ _ _ _ (⟨_, _, _, _, _, some _⟩ :: _) _ _ _; (refine gif rfl rfl ?_; refine giTT tbL ?_)) | (show SH _ _ _ _ _ (⟨_, .move _, _, _, _, _⟩ :: _) _ _ _; refine mov evL ?_) | (show SH _ _ _ _ _ (⟨_, .load _ _, _, _, _, _⟩ :: _) _ _ _; refine lba rfl spL (by rfl) ?_) | (show SH _ _ _ _ _ (⟨_, .call ⟨.value (.func 20), _, _⟩, _, _, _, _⟩ :: _) _ _ _; refine cp (callee := .func 20) rfl (fun w hw => hW2 w (hG.ext hw.ext) (hw.kw spL)) rfl rfl ?_) | (show SH _ _ _ _ _ (⟨_, .pick _ _ _, _, _, _, _⟩ :: _) _ _ _; refine pkt rfl tbL evL ?_))))
  rintro _ _ ⟨A8, c8, rfl, rfl⟩
  clear hW2
  (repeat' ((show SH _ _ _ _ _ (_ :: _) _ _ _; first | (show SH _ _ _ _ _ (⟨_, _, _, _, _, some _⟩ :: _) _ _ _; (refine gif rfl rfl ?_; refine giTT tbL ?_)) | (show SH _ _ _ _ _ (⟨_, .buildSlice _ _ _, _, _, _, _⟩ :: _) _ _ _; refine bsl (α := Int) rfl rfl (by repeat (first | exact Vals.nil | (apply Vals.cons; rfl))) rfl (by rfl) (by decide) (fun b => ?_)))))
  refine cl (callee := .func 34) rfl (fun w hw => hI A8 (some ⟨b, 0, none⟩) [2] _ _ w (by decide) (hw.rd spL) (hw.rd spL)) rfl rfl ?_
  (repeat' (first | refine v_ret ?_ | (show SH _ _ _ _ _ (_ :: _) _ _ _; first | (show SH _ _ _ _ _ (⟨_, _, _, _, _, some _⟩ :: _) _ _ _; (refine gif rfl rfl ?_; refine giTT tbL ?_)) | (show SH _ _ _ _ _ (⟨_, .move _, _, _, _, _⟩ :: _) _ _ _; refine mov evL ?_) | (show SH _ _ _ _ _ (⟨_, .assign _, _, _, _, _⟩ :: _) _ _ _; refine asg evL ?_) | (show SH _ _ _ _ _ (⟨_, .binOp .eql _ _ _ _, _, _, _, _⟩ :: _) _ _ _; refine eqlT rfl rfl omD ?_) | (show SH _ _ _ _ _ (⟨_, .load _ _, _, _, _, _⟩ :: _) _ _ _; first | refine lbx rfl spL (by rfl) ?_ | refine lra rfl (fun _ _ => rdY) (by rfl) omL ?_ | refine lra rfl (fun _ _ => rdY) (by rfl) (by simp only [List.length_cons, List.length_nil]; omega) ?_) | (show SH _ _ _ _ _ (⟨_, .indexAddr _ _ _, _, _, _, _⟩ :: _) _ _ _; first | refine ixi rfl rfl (fun _ _ => rdY) (by rfl) omL omL omL ?_ | refine ixi rfl rfl (fun _ _ => rdY) (by rfl) omL (by first | omega | (simp only [List.length_cons, List.length_nil]; omega)) (by simp only [List.length_cons, List.length_nil]; omega) ?_) | refine slen rfl ?_ | (show SH _ _ _ _ _ (⟨_, .call ⟨.value (.func 22), _, _⟩, _, _, _, _⟩ :: _) _ _ _; refine cl (callee := .func 22) rfl (fun w hw => hM w (hw.rd spL)) rfl rfl ?_) | (show SH _ _ _ _ _ (⟨_, .pick _ _ _, _, _, _, _⟩ :: _) _ _ _; refine pkt rfl tbL evL ?_) | refine fad rfl ?_) | refine s_nil ?_ | refine kh_normal ?_))
  exact rh1 rfl rfl ⟨rfl, rfl⟩ (ent_nil _)
end Go.Proofs.YtfodpcpclmnbkaaDoor
