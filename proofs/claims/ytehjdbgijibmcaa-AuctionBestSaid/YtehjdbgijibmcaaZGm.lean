/- The law's function AuctionBest answers true. -/
import Derived.Test.YtehjdbgijibmcaaZGa
import Derived.Test.YtehjdbgijibmcaaZGe
import Derived.Test.YtehjdbgijibmcaaZAz
import Derived.Test.YtehjdbgijibmcaaZVa
set_option linter.unusedSimpArgs false
set_option linter.unusedVariables false
namespace Go.Proofs.Ytehjdbgijibmcaa
open Go.Fw Go.RowKit
/-- Two numbers. -/
structure P2 where
  a : Int
  b : Int
  deriving DecidableEq
instance : Flat P2 := ⟨2, fun x => [.int .i64 x.a, .int .i64 x.b], ⟨0, 0⟩, fun _ => rfl, fun x v hv => by simp at hv; rcases hv with rfl | rfl <;> rfl, by omega⟩
instance : TSl Try.prog 22 33 2 16 := ⟨by kernel_rfl, by kernel_rfl⟩
instance : TArr Try.prog 33 2 3 1 := ⟨by kernel_rfl, by kernel_rfl, by omega⟩
section
variable {md : Md} {P : Program} {n : Nat} {Q : HQ} {f : Fr} {w0 : World} {H R : List HP} {ops : Array Oper} {rest : List Oper} {d : Nat} {op : Op} {ty : TypeId} {pos : String} {aft : Array Edge} {v : Value} {x y : Operand}
theorem ixA {t e : TypeId} {len sz : Nat} {a : Addr} {K : IntKind} {i : Int} (j : Nat) [TArr P t len e sz] (hx : ev n f x = .pointer (some a)) (hy : ev n f y = .int K i) (hj : i = (j : Int)) (h1 : j < len) (k : SH (nx md) P n ops Q rest (upd f d (.pointer (some (a.add (j * sz))))) w0 H) :
    SH md P n ops Q (⟨some d, .indexAddr t x y, ty, pos, aft, none⟩ :: rest) f w0 H := s_val (fun w hw => by
      subst hj
      have := ox_indexArr (P := P) (t := t) (w := w) (ty := ty) hx hy (Int.natCast_nonneg _) (Int.ofNat_lt.2 h1)
      rwa [Int.toNat_natCast] at this) k
end
set_option maxHeartbeats 8000000 in
set_option maxRecDepth 100000 in
theorem bestLaw (reserve : Int) (A1 : Option Addr) (c1 : Nat) (l : List P2) (w : World) (hr1 : Rd w A1 l) : Ret Try.prog 3 [.int .i64 reserve, .slice A1 l.length c1].toArray w (Out w (.bool true)) := by
  by_cases h40 : 40 < l.length
  · refine enterH Try.func3 rfl rfl Try.ntmps3 rfl (Wd.refl _) ?_
    (repeat' (first | (show VH _ _ _ _ _ _ _; first | refine v_seq ?_ | refine r_seq ?_ | refine v_ret ?_ | refine v_skip ?_ | refine v_cond_t rfl tbL ?_ | refine v_cond_f rfl tbL ?_) | (show SH _ _ _ _ _ (_ :: _) _ _ _; first | refine mov evL ?_ | refine asg evL ?_ | refine gtrT rfl rfl omD ?_ | refine slen rfl ?_ | (show SH _ _ _ _ _ (⟨_, .call ⟨.value (.func 12), _, _⟩, _, _, _, _⟩ :: _) _ _ _; refine cl (callee := .func 12) rfl (fun w hw => awake_spec w) rfl rfl ?_) | refine bnoT rfl ?_) | refine s_nil ?_ | refine kh_normal ?_ | refine kh_ret ?_))
    exact rh1 rfl rfl ⟨rfl, rfl⟩ (ent_nil _)
  have hp0 : ∀ w, Ret Try.prog 14 [.int .i64 reserve, .int .i64 1048576].toArray w (Out w (.int .i64 (reserve % 1048576))) := fun w => pick_spec reserve 1048576 w (by omega) (by omega)
  have hO := fun w => open_spec none 0 house0 20 2 3 (1 + reserve % 1048576) 100 w (by simp [house0]) (Rd.nil w none)
  have hres : 1 ≤ 1 + reserve % 1048576 ∧ 1 + reserve % 1048576 ≤ 1048576 := by omega
  rw [open0 _ hres] at hO
  have hW0 := won0 _ hres
  unfold OutR hv house0 oneLot at hO
  simp only [List.length_nil, List.length_cons, Nat.zero_add] at hO
  have hb0 : 0 ≤ reserve % 1048576 ∧ reserve % 1048576 < 1048576 := by omega
  refine enterH Try.func3 rfl rfl Try.ntmps3 rfl (Wd.refl _) ?_
  (repeat' (first | (show VH _ _ _ _ _ _ _; first | refine v_seq ?_ | refine r_seq ?_ | refine v_skip ?_ | refine v_cond_f rfl tbL ?_) | (show SH _ _ _ _ _ (_ :: _) _ _ _; first | refine mov evL ?_ | refine asg evL ?_ | (show SH _ _ _ _ _ (⟨_, .binOp _ _ _ _ _, _, _, _, _⟩ :: _) _ _ _; first | refine gtrF rfl rfl omD ?_ | refine add rfl rfl inL ?_) | refine slen rfl ?_ | (show SH _ _ _ _ _ (⟨_, .call ⟨.value (.func 12), _, _⟩, _, _, _, _⟩ :: _) _ _ _; refine cl (callee := .func 12) rfl (fun w hw => awake_spec w) rfl rfl ?_) | (show SH _ _ _ _ _ (⟨_, .call ⟨.value (.func 14), _, _⟩, _, _, _, _⟩ :: _) _ _ _; refine cl (callee := .func 14) rfl (fun w hw => hp0 w) rfl rfl ?_) | (show SH _ _ _ _ _ (⟨_, .call ⟨.value (.func 13), _, _⟩, _, _, _, _⟩ :: _) _ _ _; refine cp (callee := .func 13) rfl (fun w hw => hO w) rfl rfl ?_) | refine bnoT rfl ?_ | refine bld rfl rfl ?_) | refine s_nil ?_ | refine kh_normal ?_))
  rintro _ _ ⟨Ah, ch, Bm, dm, rfl, rfl⟩
  clear hO hp0 hb0
  generalize 1 + reserve % 1048576 = r at hres hW0 ⊢
  (repeat' (first | (show VH _ _ _ _ _ _ _; first | refine v_seq ?_ | refine r_seq ?_ | refine v_skip ?_ | refine v_cond_f rfl tbL ?_) | (show SH _ _ _ _ _ (_ :: _) _ _ _; first | refine mov evL ?_ | refine asg evL ?_ | refine neqF rfl rfl omD ?_ | refine extr rfl rfl ?_ | refine ala rfl (fun b => ?_) | refine sta rfl rfl rfl spL (by rfl) (by rfl) (by rfl) kpL ?_) | refine s_nil ?_ | refine kh_normal ?_))
  refine mkz (α := Int) (z := .int .i64 0) (by kernel_rfl) rfl rfl rfl rfl rfl rfl (by decide) (by decide) (by decide) (by decide) (fun b8 => ?_)
  (repeat' (first | (show VH _ _ _ _ _ _ _; first | refine v_seq ?_ | refine r_seq ?_) | refine asg evL ?_ | refine s_nil ?_ | refine kh_normal ?_))
  refine mkz (α := Int) (z := .int .i64 0) (by kernel_rfl) rfl rfl rfl rfl rfl rfl (by decide) (by decide) (by decide) (by decide) (fun b9 => ?_)
  (repeat' (first | (show VH _ _ _ _ _ _ _; first | refine v_seq ?_ | refine r_seq ?_ | refine v_block ?_) | refine asg evL ?_ | refine s_nil ?_ | refine kh_normal ?_))
  revert b
  intro b5
  refine v_norm [(1,_),(5,_),(8,_),(9,_),(10,_),(11,_),(12,_)] heL (fun g => ?_)
  refine v_loop [(4,4),(10,20),(45,218)] (fun y : (Nat × Nat) × (Lot × Option Addr × Nat) × List Int × List Int => [(12, .int .i64 y.1.1), (10, .int .i64 y.1.2), (11, .int .i64 y.2.1.1.price)]) (fun y => [bx b5 26 [.int .i64 0, .int .i64 1, .slice y.2.1.2.1 1 y.2.1.2.2], orow 38 y.2.1.2.1 y.2.1.2.2 [y.2.1.1], orow 3 (some ⟨b8, 0, none⟩) 9 y.2.2.1, orow 3 (some ⟨b9, 0, none⟩) 21 y.2.2.2])
    (fun y => y.1.1 ≤ l.length ∧ Won y.2.1.1 y.2.2.1 y.2.2.2 y.1.2) (fun y => l.length - y.1.1) ((0, 0), (lot0 r, Ah, ch), List.replicate 9 0, List.replicate 21 0) hsL enL ⟨Nat.zero_le _, hW0⟩ ?_
  rintro ⟨⟨k, ldr⟩, ⟨x, A2, c2⟩, most, paid⟩ g ⟨hk, hW⟩
  simp only [sets]
  simp only at hk hW
  clear hW0
  by_cases hkl : k < l.length
  · have hP1 : ∀ w, Ret Try.prog 14 [.int .i64 (l.getD k Flat.dflt).a, .int .i64 8].toArray w (Out w (.int .i64 ((l.getD k Flat.dflt).a % 8))) := fun w => pick_spec _ 8 w (by omega) (by omega)
    have hP2 : ∀ w, Ret Try.prog 14 [.int .i64 (l.getD k Flat.dflt).b, .int .i64 2097152].toArray w (Out w (.int .i64 ((l.getD k Flat.dflt).b % 2097152))) := fun w => pick_spec _ 2097152 w (by omega) (by omega)
    obtain ⟨who, hwho⟩ : ∃ who : Nat, 1 + (l.getD k Flat.dflt).a % 8 = (who : Int) := ⟨(1 + (l.getD k Flat.dflt).a % 8).toNat, by omega⟩
    obtain ⟨n, hn⟩ : ∃ n, 1 + (l.getD k Flat.dflt).b % 2097152 = n := ⟨_, rfl⟩
    have hw8 : 1 ≤ who ∧ who ≤ 8 := by omega
    have hn8 : 1 ≤ n ∧ n ≤ 2097152 := by omega
    have hb1 : 0 ≤ (l.getD k Flat.dflt).a % 8 ∧ (l.getD k Flat.dflt).a % 8 ≤ 7 := by omega
    have hb2 : 0 ≤ (l.getD k Flat.dflt).b % 2097152 ∧ (l.getD k Flat.dflt).b % 2097152 ≤ 2097151 := by omega
    have hB := fun w hr => bid_spec A2 c2 (oneLot x) 1 who n w (by show 1 ≤ 1000000; omega) hr
    rw [bid_one hW hw8 hn8] at hB
    (repeat' ((fail_if_success (show VH _ _ (.seq (.region 14 _ _) _) _ _ _ _)); first | (show VH _ _ _ _ _ _ _; first | refine v_seq ?_ | refine r_seq ?_ | refine v_block ?_ | refine v_skip ?_ | refine v_cond_t rfl tbL ?_) | (show SH _ _ _ _ _ (_ :: _) _ _ _; first | refine mov evL ?_ | refine lssT rfl rfl omD ?_ | refine slen rfl ?_) | refine s_nil ?_ | refine kh_normal ?_))
    refine v_seq ?_
    refine r_quiet hmix (by kernel_rfl) ?_
    (repeat' ((show SH _ _ _ _ _ (_ :: _) _ _ _; first | refine mov evL ?_ | refine ix rfl rfl (by with_reducible rfl) (fun _ _ => rdL) (by rfl) omL omL ?_)))
    refine ixA 0 rfl rfl rfl (by decide) ?_
    (repeat' ((show SH _ _ _ _ _ (_ :: _) _ _ _; first | refine mov evL ?_ | refine add rfl rfl inL ?_ | refine lrf rfl (fun _ _ => rdL) (by rfl) omL (by rfl) ?_ | refine ix rfl rfl (by with_reducible rfl) (fun _ _ => rdL) (by rfl) omL omL ?_ | (show SH _ _ _ _ _ (⟨_, .call ⟨.value (.func 14), _, _⟩, _, _, _, _⟩ :: _) _ _ _; refine cl (callee := .func 14) rfl (fun w hw => hP1 w) rfl rfl ?_))))
    refine ixA 1 rfl rfl rfl (by decide) ?_
    (repeat' ((fail_if_success (show VH _ _ (.seq (.region 15 _ _) _) _ _ _ _)); first | (show SH _ _ _ _ _ (_ :: _) _ _ _; first | refine asg evL ?_ | refine add rfl rfl inL ?_ | refine lrf rfl (fun _ _ => rdL) (by rfl) omL (by rfl) ?_ | (show SH _ _ _ _ _ (⟨_, .call ⟨.value (.func 14), _, _⟩, _, _, _, _⟩ :: _) _ _ _; refine cl (callee := .func 14) rfl (fun w hw => hP2 w) rfl rfl ?_)) | refine s_nil ?_ | refine kh_normal ?_))
    refine v_normS [(4,4),(10,20),(45,218)] _ agL [(10,_),(11,_),(12,_),(13,_),(14,_)] heL (fun g => ?_)
    rw [hwho, hn]
    clear hP1 hP2 hb1 hb2
    cases hbl : bidLot x who n with
    | none =>
      rw [hbl] at hB
      unfold OutR hv house0 oneLot at hB
      simp only [List.length_nil, List.length_cons, Nat.zero_add] at hB
      (repeat' (first | (show VH _ _ _ _ _ _ _; first | refine v_seq ?_ | refine r_seq ?_) | (show SH _ _ _ _ _ (_ :: _) _ _ _; first | refine mov evL ?_ | refine lba rfl spL (by rfl) ?_ | (show SH _ _ _ _ _ (⟨_, .call ⟨.value (.func 15), _, _⟩, _, _, _, _⟩ :: _) _ _ _; refine cp (callee := .func 15) rfl (fun w hw => hB w (hw.rd spL)) rfl rfl ?_))))
      rintro _ _ ⟨A3, c3, B3, d3, rfl, rfl⟩
      clear hB
      (repeat' (first | (show VH _ _ _ _ _ _ _; first | refine v_seq ?_ | refine r_seq ?_ | refine v_skip ?_ | refine v_exit ?_ | refine v_cond_t rfl tbL ?_ | refine v_cond_f rfl tbL ?_) | (show SH _ _ _ _ _ (_ :: _) _ _ _; first | refine mov evL ?_ | refine asg evL ?_ | (show SH _ _ _ _ _ (⟨_, .binOp _ _ _ _ _, _, _, _, _⟩ :: _) _ _ _; first | refine neqT rfl rfl omD ?_ | refine neqF rfl rfl omD ?_ | refine add rfl rfl inL ?_) | refine extr rfl rfl ?_ | refine ala rfl (fun b => ?_) | refine sta rfl rfl rfl spL (by rfl) (by rfl) (by rfl) kpL ?_) | refine s_nil ?_ | refine kh_normal ?_ | refine kh_exit ?_ | refine bh_exit ?_))
      exact ⟨agL, ((k + 1, ldr), (x, A2, c2), most, paid), hsL, enL, ⟨hkl, hW⟩, by show _ - (k + 1) < _ - k; omega⟩
    | some y =>
      obtain ⟨l', m⟩ := y
      rw [hbl] at hB
      obtain ⟨hW', q1, q2, q3⟩ := won_step hW hw8 hn8 hbl
      obtain ⟨hml, hmm⟩ := moves_one hW hw8 hn8 hbl
      have hpb := won_bound hW
      have hmo := won_most hW
      have hml0 := hW.bids.lm
      have hl8 := hW.bids.le8
      obtain ⟨x', hx'⟩ : ∃ x' : Lot, { l' with till := max l'.till (0 + 20) } = x' := ⟨_, rfl⟩
      have e1 : l'.price = x'.price := by rw [← hx']
      have e2 : l'.reserve = x'.reserve := by rw [← hx']
      have e3 : l'.most = x'.most := by rw [← hx']
      rw [e1] at q1 q2 q3
      rw [e2] at q2
      rw [e3] at q3
      unfold OutR hv oneLot at hB
      simp only [List.length_nil, List.length_cons, Nat.zero_add] at hB
      rw [hx'] at hW' hB
      clear hx' e1 e2 e3 hbl
      obtain ⟨ldr', hldr⟩ : ∃ q : Nat, (if n > most.getD ldr 0 ∨ ldr = 0 then who else ldr) = q := ⟨_, rfl⟩
      rw [hldr] at hW'
      (repeat' (first | (show VH _ _ _ _ _ _ _; first | refine v_seq ?_ | refine r_seq ?_) | (show SH _ _ _ _ _ (_ :: _) _ _ _; first | refine mov evL ?_ | refine lba rfl spL (by rfl) ?_ | (show SH _ _ _ _ _ (⟨_, .call ⟨.value (.func 15), _, _⟩, _, _, _, _⟩ :: _) _ _ _; refine cp (callee := .func 15) rfl (fun w hw => hB w (hw.rd spL)) rfl rfl ?_))))
      rintro _ _ ⟨A3, c3, B3, d3, rfl, rfl⟩
      clear hB
      (repeat' (first | (show VH _ _ _ _ _ _ _; first | refine v_seq ?_ | refine r_seq ?_ | refine v_block ?_ | refine v_skip ?_ | refine v_cond_f rfl tbL ?_) | (show SH _ _ _ _ _ (_ :: _) _ _ _; first | refine mov evL ?_ | refine asg evL ?_ | refine neqF rfl rfl omD ?_ | refine lba rfl spL (by rfl) ?_ | refine extr rfl rfl ?_ | refine ala rfl (fun b => ?_) | refine sta rfl rfl rfl spL (by rfl) (by rfl) (by rfl) kpL ?_) | refine s_nil ?_ | refine kh_normal ?_))
      refine v_normS [(4,4),(10,20),(45,218)] _ agL [(10,_),(11,_),(12,_),(13,_),(14,_),(16,_),(18,_)] heL (fun g => ?_)
      refine VH.ent (G := [bx b5 26 _, orow 38 A3 c3 [x'], orow 36 B3 d3 m, orow 3 (some ⟨b8, 0, none⟩) 9 most, orow 3 (some ⟨b9, 0, none⟩) 21 paid]) ?_ enL
      refine v_loop [(18,18),(78,113)] (fun j : Nat => [(18, .int .i64 j)]) (fun j => [orow 3 (some ⟨b9, 0, none⟩) 21 ((m.take j).foldl payL paid), bx b5 26 [.int .i64 0, .int .i64 1, .slice A3 1 c3], orow 38 A3 c3 [x'], orow 36 B3 d3 m, orow 3 (some ⟨b8, 0, none⟩) 9 most]) (fun j => j ≤ m.length) (fun j => m.length - j) 0 hsL enL (Nat.zero_le _) ?_
      rintro j g5 hj
      simp only [sets]
      by_cases hjm : j < m.length
      · have hb := pay_bound payL (fun _ _ => .inl rfl) (m.take j) paid 2097152 hpb (fun x hx => by have := hmm x (List.mem_of_mem_take hx); omega)
        have hjt : (m.take j).length = j := by rw [List.length_take]; omega
        rw [hjt] at hb
        have hts : (m.take (j + 1)).foldl payL paid = payL ((m.take j).foldl payL paid) (m.getD j Flat.dflt) := by
          rw [take_snoc (d := Flat.dflt) hjm, List.foldl_append]; rfl
        have hx := hmm _ (mv_mem hjm)
        generalize (m.take j).foldl payL paid = P at hb hts ⊢
        obtain ⟨hPl, hPb⟩ := hb
        have hPs := hPb (m.getD j Flat.dflt).src.toNat (by omega)
        have hPd := hPb (m.getD j Flat.dflt).dst.toNat (by omega)
        have hPd2 : (P.set (m.getD j Flat.dflt).src.toNat (P.getD (m.getD j Flat.dflt).src.toNat 0 + (m.getD j Flat.dflt).n)).getD (m.getD j Flat.dflt).dst.toNat 0 = P.getD (m.getD j Flat.dflt).dst.toNat 0 := by
          rw [getD_set_all, if_neg (by omega)]
        have hts2 : payL P (m.getD j Flat.dflt) = (P.set (m.getD j Flat.dflt).src.toNat (P.getD (m.getD j Flat.dflt).src.toNat 0 + (m.getD j Flat.dflt).n)).set (m.getD j Flat.dflt).dst.toNat (P.getD (m.getD j Flat.dflt).dst.toNat 0 - (m.getD j Flat.dflt).n) := by
          rw [payL, hPd2]
        rw [hts2] at hts
        clear hts2 hPb hmm hpb hmo hW hW'
        (repeat' (first | (show VH _ _ _ _ _ _ _; first | refine v_seq ?_ | refine r_seq ?_ | refine v_block ?_ | refine v_skip ?_ | refine v_cond_t rfl tbL ?_) | (show SH _ _ _ _ _ (_ :: _) _ _ _; first | refine mov evL ?_ | refine lssT rfl rfl omD ?_ | refine slen rfl ?_) | refine s_nil ?_ | refine kh_normal ?_))
        refine r_heldT [orow 36 B3 d3 m] (tr [(0, true), (1, true), (2, true), (3, true), (4, true), (5, true), (8, true), (9, true), (10, true), (11, true), (12, true), (6, false), (7, false), (13, false), (14, false), (15, false)] .nil) hmix (by kernel_rfl) enL ?_
        (repeat' (first | (show SH _ _ _ _ _ (_ :: _) _ _ _; first | refine mov evL ?_ | refine add rfl rfl inL ?_ | (show SH _ _ _ _ _ (⟨_, .load _ _, _, _, _, _⟩ :: _) _ _ _; first | refine lin rfl (fun _ _ => rdL) omL ?_ | refine lrf rfl (fun _ _ => rdL) (by rfl) omL (by rfl) ?_) | (show SH _ _ _ _ _ (⟨_, .indexAddr _ _ _, _, _, _, _⟩ :: _) _ _ _; first | refine ix rfl rfl (by with_reducible rfl) (fun _ _ => rdL) (by rfl) omL omL ?_ | refine ixi rfl rfl (fun _ _ => rdL) (by rfl) omL omL omL ?_) | refine fad rfl ?_ | refine sti rfl rfl rfl spL omL kpL ?_) | refine s_nil ?_ | refine kh_normal ?_))
        obtain ⟨P2, hP2⟩ : ∃ P2, P.set (m.getD j Flat.dflt).src.toNat (P.getD (m.getD j Flat.dflt).src.toNat 0 + (m.getD j Flat.dflt).n) = P2 := ⟨_, rfl⟩
        have hP2l : P2.length = 21 := by rw [← hP2, List.length_set]; exact hPl
        rw [hP2] at hPd2 hts ⊢
        rw [← hPd2] at hPd hts
        clear hP2 hPd2
        refine r_heldT [orow 36 B3 d3 m] (tr [(0, true), (1, true), (2, true), (3, true), (4, true), (5, true), (8, true), (9, true), (10, true), (11, true), (12, true), (6, false), (7, false), (13, false), (14, false), (15, false)] .nil) hmix (by kernel_rfl) enL ?_
        (repeat' (first | refine r_seq ?_ | (show SH _ _ _ _ _ (_ :: _) _ _ _; first | refine mov evL ?_ | refine asg evL ?_ | (show SH _ _ _ _ _ (⟨_, .binOp _ _ _ _ _, _, _, _, _⟩ :: _) _ _ _; first | refine add rfl rfl inL ?_ | refine sub rfl rfl inL ?_) | (show SH _ _ _ _ _ (⟨_, .load _ _, _, _, _, _⟩ :: _) _ _ _; first | refine lin rfl (fun _ _ => rdL) omL ?_ | refine lrf rfl (fun _ _ => rdL) (by rfl) omL (by rfl) ?_) | (show SH _ _ _ _ _ (⟨_, .indexAddr _ _ _, _, _, _, _⟩ :: _) _ _ _; first | refine ix rfl rfl (by with_reducible rfl) (fun _ _ => rdL) (by rfl) omL omL ?_ | refine ixi rfl rfl (fun _ _ => rdL) (by rfl) omL omL omL ?_) | refine fad rfl ?_ | refine sti rfl rfl rfl spL omL kpL ?_) | refine s_nil ?_ | refine kh_normal ?_ | refine bh_normal ?_))
        exact ⟨agL, j + 1, hsL, by rw [hts]; exact enL, hjm, by show _ - (j + 1) < _ - j; omega⟩
      · have hje : j = m.length := by omega
        subst hje
        rw [List.take_length]
        obtain ⟨paid', hpd⟩ : ∃ p, m.foldl payL paid = p := ⟨_, rfl⟩
        rw [hpd] at hW' ⊢
        clear hpb hmm hpd hmo
        (repeat' ((fail_if_success (show VH _ _ (.seq (.seq (.region 25 _ _) _) _) _ _ _ _)); first | (show VH _ _ _ _ _ _ _; first | refine v_seq ?_ | refine r_seq ?_ | refine v_exit ?_ | refine v_cond_f rfl tbL ?_) | (show SH _ _ _ _ _ (_ :: _) _ _ _; first | refine mov evL ?_ | refine lssF rfl rfl omD ?_ | refine slen rfl ?_) | refine s_nil ?_ | refine kh_normal ?_ | refine kh_exit ?_ | refine bh_exit ?_))
        have hwm : who < most.length := by omega
        refine v_seq ?_
        refine v_cut0 [(10, 10), (114, 124)] (fun _ : Unit => [(10, .int .i64 (ldr' : Int))]) (fun _ => True) ?_ ?_ ent_vh
        · by_cases ha : n > most.getD ldr 0
          · rw [if_pos (.inl ha)] at hldr
            subst hldr
            (repeat' (first | (show VH _ _ _ _ _ _ _; first | refine v_seq ?_ | refine r_seq ?_ | refine v_cond_t rfl tbL ?_) | (show SH _ _ _ _ _ (_ :: _) _ _ _; first | (refine gif rfl rfl ?_; refine giFT tbL ?_) | refine mov evL ?_ | refine asg evL ?_ | refine gtrT rfl rfl omD ?_ | refine lin rfl (fun _ _ => rdL) omL ?_ | refine ix rfl rfl (by with_reducible rfl) (fun _ _ => rdL) (by rfl) omL omL ?_ | refine pkt rfl tbL evL ?_) | refine s_nil ?_ | refine kh_normal ?_))
            exact ⟨agL, (), hsL, enL, trivial⟩
          · by_cases hb : ldr = 0
            · rw [if_pos (.inr hb)] at hldr
              subst hldr
              (repeat' (first | (show VH _ _ _ _ _ _ _; first | refine v_seq ?_ | refine r_seq ?_ | refine v_cond_t rfl tbL ?_) | (show SH _ _ _ _ _ (_ :: _) _ _ _; first | (refine gif rfl rfl ?_; refine giFF tbL ?_) | refine mov evL ?_ | refine asg evL ?_ | (show SH _ _ _ _ _ (⟨_, .binOp _ _ _ _ _, _, _, _, _⟩ :: _) _ _ _; first | refine gtrF rfl rfl omD ?_ | refine eqlT rfl rfl omD ?_) | refine lin rfl (fun _ _ => rdL) omL ?_ | refine ix rfl rfl (by with_reducible rfl) (fun _ _ => rdL) (by rfl) omL omL ?_ | refine pkf rfl tbL evL ?_) | refine s_nil ?_ | refine kh_normal ?_))
              exact ⟨agL, (), hsL, enL, trivial⟩
            · rw [if_neg (by omega)] at hldr
              subst hldr
              (repeat' (first | (show VH _ _ _ _ _ _ _; first | refine v_seq ?_ | refine r_seq ?_ | refine v_skip ?_ | refine v_cond_f rfl tbL ?_) | (show SH _ _ _ _ _ (_ :: _) _ _ _; first | (refine gif rfl rfl ?_; refine giFF tbL ?_) | refine mov evL ?_ | (show SH _ _ _ _ _ (⟨_, .binOp _ _ _ _ _, _, _, _, _⟩ :: _) _ _ _; first | refine gtrF rfl rfl omD ?_ | refine eqlF rfl rfl omD ?_) | refine lin rfl (fun _ _ => rdL) omL ?_ | refine ix rfl rfl (by with_reducible rfl) (fun _ _ => rdL) (by rfl) omL omL ?_ | refine pkf rfl tbL evL ?_) | refine s_nil ?_ | refine kh_normal ?_))
              exact ⟨agL, (), hsL, enL, trivial⟩
        rintro _ g6 _
        simp only [sets]
        clear hldr
        (repeat' ((fail_if_success (show VH _ _ (.seq (.region 28 _ _) _) _ _ _ _)); first | (show VH _ _ _ _ _ _ _; first | refine v_seq ?_ | refine r_seq ?_) | (show SH _ _ _ _ _ (_ :: _) _ _ _; first | refine mov evL ?_ | refine lin rfl (fun _ _ => rdL) omL ?_ | refine ix rfl rfl (by with_reducible rfl) (fun _ _ => rdL) (by rfl) omL omL ?_ | refine bmax rfl rfl ?_ | refine sti rfl rfl rfl spL omL kpL ?_) | refine s_nil ?_ | refine kh_normal ?_))
        obtain ⟨most', hmo'⟩ : ∃ q, most.set who (max (most.getD who 0) n) = q := ⟨_, rfl⟩
        rw [hmo'] at hW' ⊢
        have hlm' := hW'.bids.lm
        have hld' := hW'.bids.ldr
        have hle8 := hW'.bids.le8
        have hlmo := hW'.bids.lmost
        clear hmo' hwm hml0 hl8
        (repeat' ((fail_if_success (show VH _ _ (.seq (.region 31 _ _) _) _ _ _ _)); first | (show VH _ _ _ _ _ _ _; first | refine v_seq ?_ | refine r_seq ?_ | refine v_skip ?_ | refine v_cond_f rfl tbL ?_) | (show SH _ _ _ _ _ (_ :: _) _ _ _; first | refine neqF rfl rfl omD ?_ | refine lbx rfl spL (by rfl) ?_ | refine slen rfl ?_ | refine fad rfl ?_) | refine s_nil ?_ | refine kh_normal ?_))
        refine ix (α := Lot) (l := [x']) (i := 0) rfl rfl rfl (fun w hw => hw.rd spL) rfl (by decide) (by simp) ?_
        refine lra (α := Lot) (l := [x']) (i := 0) rfl (fun w hw => hw.rd spL) rfl (by simp) ?_
        rw [show ([x'] : List Lot).getD 0 Flat.dflt = x' from rfl]
        (repeat' ((fail_if_success (show VH _ _ (.seq (.region 31 _ _) _) _ _ _ _)); first | refine v_seq ?_ | (show SH _ _ _ _ _ (_ :: _) _ _ _; first | refine ala rfl (fun b => ?_) | refine sta rfl rfl rfl spL (by rfl) (by rfl) (by rfl) kpL ?_) | refine s_nil ?_ | refine kh_normal ?_))
        revert b
        intro b19
        have hmine := hW'.bids.mine
        have hrest := hW'.bids.rest
        have hlp' := hW'.bids.lp
        clear hj hjm hn hwho
        (repeat' (refine v_seq ?_))
        refine v_normS [(4,4),(10,20),(45,218)] _ agL [(10,_),(11,_),(12,_),(19,_)] heL (fun g => ?_)
        refine VH.ent (G := [bx b19 38 (Flat.enc x'), bx b5 26 [.int .i64 0, .int .i64 1, .slice A3 1 c3], orow 38 A3 c3 [x'], orow 3 (some ⟨b8, 0, none⟩) 9 most', orow 3 (some ⟨b9, 0, none⟩) 21 paid']) ?_ enL
        (repeat' (first | (show VH _ _ _ _ _ _ _; first | refine v_seq ?_ | refine r_seq ?_ | refine r_quiet hmix (by kernel_rfl) ?_ | refine v_block ?_ | refine v_skip ?_ | refine v_cond_f rfl tbL ?_) | (show SH _ _ _ _ _ (_ :: _) _ _ _; first | (refine gif rfl rfl ?_; refine giFF tbL ?_) | refine mov evL ?_ | refine asg evL ?_ | (show SH _ _ _ _ _ (⟨_, .binOp _ _ _ _ _, _, _, _, _⟩ :: _) _ _ _; first | refine lssF rfl rfl omD ?_ | refine gtrF rfl rfl omD ?_ | refine neqF rfl rfl omD ?_) | (show SH _ _ _ _ _ (⟨_, .load _ _, _, _, _, _⟩ :: _) _ _ _; first | refine lin rfl (fun _ _ => rdL) omL ?_ | refine lbx rfl spL (by rfl) ?_) | refine ix rfl rfl (by with_reducible rfl) (fun _ _ => rdL) (by rfl) omL omL ?_ | refine pkf rfl tbL evL ?_ | refine fad rfl ?_) | refine s_nil ?_ | refine kh_normal ?_))
        refine v_loop0 [(4,4),(20,20),(175,216)] (fun q : Nat => [(20, .int .i64 q)]) (fun q => 1 ≤ q ∧ q ≤ 9) (fun q => 9 - q) 1 hsL ⟨Nat.le_refl _, by omega⟩ ?_
        rintro q g7 ⟨hq1, hq9⟩
        simp only [sets]
        by_cases hq8 : q ≤ 8
        · by_cases e : q = ldr'
          · have hm2 := hmine (by omega)
            rw [← e] at hm2
            clear hmine hrest
            (repeat' (first | (show VH _ _ _ _ _ _ _; first | refine v_seq ?_ | refine r_seq ?_ | refine r_quiet hmix (by kernel_rfl) ?_ | refine v_block ?_ | refine v_skip ?_ | refine v_cond_t rfl tbL ?_ | refine v_cond_f rfl tbL ?_) | (show SH _ _ _ _ _ (_ :: _) _ _ _; first | (refine gif rfl rfl ?_; first | refine giTT tbL ?_ | refine giTF tbL ?_ | refine giFF tbL ?_) | refine mov evL ?_ | refine asg evL ?_ | (show SH _ _ _ _ _ (⟨_, .binOp _ _ _ _ _, _, _, _, _⟩ :: _) _ _ _; first | refine leqT rfl rfl omD ?_ | refine eqlT rfl rfl omD ?_ | refine neqF rfl rfl omD ?_ | refine add rfl rfl inL ?_) | (show SH _ _ _ _ _ (⟨_, .load _ _, _, _, _, _⟩ :: _) _ _ _; first | refine lin rfl (fun _ _ => rdL) omL ?_ | refine lbx rfl spL (by rfl) ?_) | refine ix rfl rfl (by with_reducible rfl) (fun _ _ => rdL) (by rfl) omL omL ?_ | refine pkt rfl tbL evL ?_ | refine pkf rfl tbL evL ?_ | refine fad rfl ?_) | refine s_nil ?_ | refine kh_normal ?_ | refine bh_normal ?_))
            exact ⟨agL, q + 1, hsL, enL, ⟨by omega, by omega⟩, by show 9 - (q + 1) < 9 - q; omega⟩
          · obtain ⟨hr1', hr2', hr3'⟩ := hrest q hq1 hq8 e
            clear hmine hrest
            (repeat' (first | (show VH _ _ _ _ _ _ _; first | refine v_seq ?_ | refine r_seq ?_ | refine r_quiet hmix (by kernel_rfl) ?_ | refine v_block ?_ | refine v_skip ?_ | refine v_cond_t rfl tbL ?_ | refine v_cond_f rfl tbL ?_) | (show SH _ _ _ _ _ (_ :: _) _ _ _; first | (refine gif rfl rfl ?_; first | refine giTT tbL ?_ | refine giTF tbL ?_ | refine giFF tbL ?_) | refine mov evL ?_ | refine asg evL ?_ | (show SH _ _ _ _ _ (⟨_, .binOp _ _ _ _ _, _, _, _, _⟩ :: _) _ _ _; first | refine leqT rfl rfl omD ?_ | refine gtrF rfl rfl omD ?_ | refine eqlF rfl rfl omD ?_ | refine neqT rfl rfl omD ?_ | refine neqF rfl rfl omD ?_ | refine add rfl rfl inL ?_) | (show SH _ _ _ _ _ (⟨_, .load _ _, _, _, _, _⟩ :: _) _ _ _; first | refine lin rfl (fun _ _ => rdL) omL ?_ | refine lbx rfl spL (by rfl) ?_) | refine ix rfl rfl (by with_reducible rfl) (fun _ _ => rdL) (by rfl) omL omL ?_ | refine pkt rfl tbL evL ?_ | refine pkf rfl tbL evL ?_ | refine fad rfl ?_) | refine s_nil ?_ | refine kh_normal ?_ | refine bh_normal ?_))
            exact ⟨agL, q + 1, hsL, enL, ⟨by omega, by omega⟩, by show 9 - (q + 1) < 9 - q; omega⟩
        · clear hmine hrest
          (repeat' (first | (show VH _ _ _ _ _ _ _; first | refine v_seq ?_ | refine r_seq ?_ | refine v_exit ?_ | refine v_cond_f rfl tbL ?_) | (show SH _ _ _ _ _ (_ :: _) _ _ _; first | refine mov evL ?_ | refine asg evL ?_ | (show SH _ _ _ _ _ (⟨_, .binOp _ _ _ _ _, _, _, _, _⟩ :: _) _ _ _; first | refine leqF rfl rfl omD ?_ | refine add rfl rfl inL ?_) | refine lbx rfl spL (by rfl) ?_ | refine fad rfl ?_) | refine s_nil ?_ | refine kh_normal ?_ | refine kh_exit ?_ | refine bh_normal ?_ | refine bh_exit ?_))
          exact ⟨agL, ((k + 1, ldr'), (x', A3, c3), most', paid'), hsL, enL, ⟨hkl, hW'⟩, by show _ - (k + 1) < _ - k; omega⟩
  · 
    have hA := fun w hr => adv_spec A2 c2 (oneLot x) 200 w (by show 1 ≤ 1000000; omega) hr
    rw [end_one hW] at hA
    have hE := ended_one hW
    have hpb := won_bound hW
    have hl8 := hW.bids.le8
    generalize endMoves x = m at hA hE
    obtain ⟨hpos, hle3, hok, hlast, hhouse, hsell, hmine, hrest⟩ := hE
    have hpr : 0 ≤ x.price ∧ x.price ≤ 2097152 := by
      have ht := hW.bids.top
      have hr := hW.bids.right.led
      have hrs := hW.bids.right.reserve
      omega
    clear hW
    unfold OutR hv oneLot at hA
    simp only [List.length_nil, List.length_cons, Nat.zero_add] at hA
    (repeat' (first | (show VH _ _ _ _ _ _ _; first | refine v_seq ?_ | refine r_seq ?_ | refine v_exit ?_ | refine v_cond_f rfl tbL ?_) | (show SH _ _ _ _ _ (_ :: _) _ _ _; first | refine mov evL ?_ | refine lssF rfl rfl omD ?_ | refine lba rfl spL (by rfl) ?_ | refine slen rfl ?_ | (show SH _ _ _ _ _ (⟨_, .call ⟨.value (.func 16), _, _⟩, _, _, _, _⟩ :: _) _ _ _; refine cp (callee := .func 16) rfl (fun w hw => hA w (hw.rd spL)) rfl rfl ?_)) | refine s_nil ?_ | refine kh_normal ?_ | refine kh_exit ?_ | refine bh_exit ?_))
    rintro _ _ ⟨A3, c3, B3, d3, rfl, rfl⟩
    clear hA
    (repeat' (first | (show VH _ _ _ _ _ _ _; first | refine v_seq ?_ | refine r_seq ?_ | refine v_block ?_) | (show SH _ _ _ _ _ (_ :: _) _ _ _; first | refine mov evL ?_ | refine asg evL ?_ | refine extr rfl rfl ?_ | refine ala rfl (fun b => ?_) | refine sta rfl rfl rfl spL (by rfl) (by rfl) (by rfl) kpL ?_) | refine s_nil ?_ | refine kh_normal ?_))
    refine v_norm [(9,_),(10,_),(11,_),(21,_),(22,_),(23,_),(24,_)] heL (fun g => ?_)
    revert b
    intro b21
    refine VH.ent (G := [bx b21 26 _, orow 38 A3 c3 _, orow 36 B3 d3 m, orow 3 (some ⟨b9, 0, none⟩) 21 paid]) ?_ enL
    clear hres
    refine v_loop [(24,24),(225,266)] (fun j : Nat => [(24, .int .i64 j)]) (fun j => [orow 3 (some ⟨b9, 0, none⟩) 21 ((m.take j).foldl payI paid), bx b21 26 [.int .i64 200, .int .i64 1, .slice A3 0 c3], orow 36 B3 d3 m]) (fun j => j ≤ m.length) (fun j => m.length - j) 0 hsL enL (Nat.zero_le _) ?_
    rintro j g5 hj
    simp only [sets]
    by_cases hjm : j < m.length
    · have hb := pay_bound payI (fun p y => by unfold payI; split; exact .inl rfl; exact .inr rfl) (m.take j) paid 2097152 hpb (fun y hy => hok y (List.mem_of_mem_take hy))
      have hjt : (m.take j).length = j := by rw [List.length_take]; omega
      rw [hjt] at hb
      have hts : (m.take (j + 1)).foldl payI paid = payI ((m.take j).foldl payI paid) (m.getD j Flat.dflt) := by
        rw [take_snoc (d := Flat.dflt) hjm, List.foldl_append]; rfl
      have hx := hok _ (mv_mem hjm)
      generalize (m.take j).foldl payI paid = P at hb hts ⊢
      obtain ⟨hPl, hPb⟩ := hb
      clear hok hlast hhouse hsell hmine hrest hpr hpb
      by_cases hi0 : (m.getD j Flat.dflt).item = 0
      · have hPs := hPb (m.getD j Flat.dflt).src.toNat (by omega)
        have hPd := hPb (m.getD j Flat.dflt).dst.toNat (by omega)
        have hPd2 : (P.set (m.getD j Flat.dflt).src.toNat (P.getD (m.getD j Flat.dflt).src.toNat 0 + (m.getD j Flat.dflt).n)).getD (m.getD j Flat.dflt).dst.toNat 0 = P.getD (m.getD j Flat.dflt).dst.toNat 0 := by
          rw [getD_set_all, if_neg (by omega)]
        have hts2 : payI P (m.getD j Flat.dflt) = (P.set (m.getD j Flat.dflt).src.toNat (P.getD (m.getD j Flat.dflt).src.toNat 0 + (m.getD j Flat.dflt).n)).set (m.getD j Flat.dflt).dst.toNat (P.getD (m.getD j Flat.dflt).dst.toNat 0 - (m.getD j Flat.dflt).n) := by
          unfold payI
          rw [if_pos hi0, payL, hPd2]
        rw [hts2] at hts
        clear hts2 hPb
        (repeat' (first | (show VH _ _ _ _ _ _ _; first | refine v_seq ?_ | refine r_seq ?_ | refine v_block ?_ | refine v_skip ?_ | refine v_cond_t rfl tbL ?_) | (show SH _ _ _ _ _ (_ :: _) _ _ _; first | refine mov evL ?_ | (show SH _ _ _ _ _ (⟨_, .binOp _ _ _ _ _, _, _, _, _⟩ :: _) _ _ _; first | refine lssT rfl rfl omD ?_ | refine eqlT rfl rfl omD ?_) | refine lrf rfl (fun _ _ => rdL) (by rfl) omL (by rfl) ?_ | refine ix rfl rfl (by with_reducible rfl) (fun _ _ => rdL) (by rfl) omL omL ?_ | refine slen rfl ?_ | refine fad rfl ?_) | refine s_nil ?_ | refine kh_normal ?_))
        refine r_heldT [orow 36 B3 d3 m] (tr [(0, true), (1, true), (2, true), (3, true), (4, true), (5, true), (8, true), (9, true), (10, true), (11, true), (12, true), (6, false), (7, false), (13, false), (14, false), (15, false)] .nil) hmix (by kernel_rfl) enL ?_
        (repeat' (first | (show SH _ _ _ _ _ (_ :: _) _ _ _; first | refine mov evL ?_ | refine add rfl rfl inL ?_ | (show SH _ _ _ _ _ (⟨_, .load _ _, _, _, _, _⟩ :: _) _ _ _; first | refine lin rfl (fun _ _ => rdL) omL ?_ | refine lrf rfl (fun _ _ => rdL) (by rfl) omL (by rfl) ?_) | (show SH _ _ _ _ _ (⟨_, .indexAddr _ _ _, _, _, _, _⟩ :: _) _ _ _; first | refine ix rfl rfl (by with_reducible rfl) (fun _ _ => rdL) (by rfl) omL omL ?_ | refine ixi rfl rfl (fun _ _ => rdL) (by rfl) omL omL omL ?_) | refine fad rfl ?_ | refine sti rfl rfl rfl spL omL kpL ?_) | refine s_nil ?_ | refine kh_normal ?_))
        obtain ⟨P2, hP2⟩ : ∃ P2, P.set (m.getD j Flat.dflt).src.toNat (P.getD (m.getD j Flat.dflt).src.toNat 0 + (m.getD j Flat.dflt).n) = P2 := ⟨_, rfl⟩
        have hP2l : P2.length = 21 := by rw [← hP2, List.length_set]; exact hPl
        rw [hP2] at hPd2 hts ⊢
        rw [← hPd2] at hPd hts
        clear hP2 hPd2
        refine r_heldT [orow 36 B3 d3 m] (tr [(0, true), (1, true), (2, true), (3, true), (4, true), (5, true), (8, true), (9, true), (10, true), (11, true), (12, true), (6, false), (7, false), (13, false), (14, false), (15, false)] .nil) hmix (by kernel_rfl) enL ?_
        (repeat' (first | refine r_seq ?_ | (show SH _ _ _ _ _ (_ :: _) _ _ _; first | refine mov evL ?_ | refine asg evL ?_ | (show SH _ _ _ _ _ (⟨_, .binOp _ _ _ _ _, _, _, _, _⟩ :: _) _ _ _; first | refine add rfl rfl inL ?_ | refine sub rfl rfl inL ?_) | (show SH _ _ _ _ _ (⟨_, .load _ _, _, _, _, _⟩ :: _) _ _ _; first | refine lin rfl (fun _ _ => rdL) omL ?_ | refine lrf rfl (fun _ _ => rdL) (by rfl) omL (by rfl) ?_) | (show SH _ _ _ _ _ (⟨_, .indexAddr _ _ _, _, _, _, _⟩ :: _) _ _ _; first | refine ix rfl rfl (by with_reducible rfl) (fun _ _ => rdL) (by rfl) omL omL ?_ | refine ixi rfl rfl (fun _ _ => rdL) (by rfl) omL omL omL ?_) | refine fad rfl ?_ | refine sti rfl rfl rfl spL omL kpL ?_) | refine s_nil ?_ | refine kh_normal ?_ | refine bh_normal ?_))
        exact ⟨agL, j + 1, hsL, by rw [hts]; exact enL, hjm, by show _ - (j + 1) < _ - j; omega⟩
      · have hts2 : payI P (m.getD j Flat.dflt) = P := by unfold payI; rw [if_neg hi0]
        rw [hts2] at hts
        (repeat' (first | (show VH _ _ _ _ _ _ _; first | refine v_seq ?_ | refine r_seq ?_ | refine v_block ?_ | refine v_skip ?_ | refine v_cond_t rfl tbL ?_ | refine v_cond_f rfl tbL ?_) | (show SH _ _ _ _ _ (_ :: _) _ _ _; first | refine mov evL ?_ | refine asg evL ?_ | (show SH _ _ _ _ _ (⟨_, .binOp _ _ _ _ _, _, _, _, _⟩ :: _) _ _ _; first | refine lssT rfl rfl omD ?_ | refine eqlF rfl rfl omD ?_ | refine add rfl rfl inL ?_) | refine lrf rfl (fun _ _ => rdL) (by rfl) omL (by rfl) ?_ | refine ix rfl rfl (by with_reducible rfl) (fun _ _ => rdL) (by rfl) omL omL ?_ | refine slen rfl ?_ | refine fad rfl ?_) | refine s_nil ?_ | refine kh_normal ?_ | refine bh_normal ?_))
        exact ⟨agL, j + 1, hsL, by rw [hts]; exact enL, hjm, by show _ - (j + 1) < _ - j; omega⟩
    · have hje : j = m.length := by omega
      subst hje
      rw [List.take_length]
      have hPl : (m.foldl payI paid).length = 21 := by
        have := (pay_bound payI (fun p y => by unfold payI; split; exact .inl rfl; exact .inr rfl) m paid 2097152 hpb hok).1
        exact this
      generalize m.foldl payI paid = P at hhouse hsell hmine hrest hPl ⊢
      clear hok hpb hj hjm
      (repeat' (first | (show VH _ _ _ _ _ _ _; first | refine v_seq ?_ | refine r_seq ?_ | refine v_block ?_ | refine v_skip ?_ | refine v_exit ?_ | refine v_cond_f rfl tbL ?_) | (show SH _ _ _ _ _ (_ :: _) _ _ _; first | (refine gif rfl rfl ?_; refine giFF tbL ?_) | refine mov evL ?_ | refine asg evL ?_ | (show SH _ _ _ _ _ (⟨_, .binOp _ _ _ _ _, _, _, _, _⟩ :: _) _ _ _; first | refine lssF rfl rfl omD ?_ | refine eqlF rfl rfl omD ?_ | refine neqF rfl rfl omD ?_) | (show SH _ _ _ _ _ (⟨_, .load _ _, _, _, _, _⟩ :: _) _ _ _; first | refine lin rfl (fun _ _ => rdL) omL ?_ | refine lbx rfl spL (by rfl) ?_) | refine ixi rfl rfl (fun _ _ => rdL) (by rfl) omL omL omL ?_ | refine slen rfl ?_ | refine pkf rfl tbL evL ?_ | refine neg rfl inL ?_ | refine fad rfl ?_) | refine s_nil ?_ | refine kh_normal ?_ | refine kh_exit ?_ | refine bh_exit ?_))
      refine v_loop0 [(4,4),(25,25),(294,320)] (fun q : Nat => [(25, .int .i64 q)]) (fun q => 1 ≤ q ∧ q ≤ 9) (fun q => 9 - q) 1 hsL ⟨Nat.le_refl _, by omega⟩ ?_
      rintro q g7 ⟨hq1, hq9⟩
      simp only [sets]
      by_cases hq8 : q ≤ 8
      · by_cases e : q = ldr
        · have hm2 := hmine (by omega)
          rw [← e] at hm2
          clear hmine hrest
          (repeat' (first | (show VH _ _ _ _ _ _ _; first | refine v_seq ?_ | refine r_seq ?_ | refine v_block ?_ | refine v_skip ?_ | refine v_cond_t rfl tbL ?_ | refine v_cond_f rfl tbL ?_) | (show SH _ _ _ _ _ (_ :: _) _ _ _; first | (refine gif rfl rfl ?_; first | refine giTT tbL ?_ | refine giTF tbL ?_ | refine giFF tbL ?_) | refine mov evL ?_ | refine asg evL ?_ | (show SH _ _ _ _ _ (⟨_, .binOp _ _ _ _ _, _, _, _, _⟩ :: _) _ _ _; first | refine leqT rfl rfl omD ?_ | refine eqlT rfl rfl omD ?_ | refine neqF rfl rfl omD ?_ | refine add rfl rfl inL ?_) | refine lin rfl (fun _ _ => rdL) omL ?_ | refine ix rfl rfl (by with_reducible rfl) (fun _ _ => rdL) (by rfl) omL omL ?_ | refine pkt rfl tbL evL ?_ | refine pkf rfl tbL evL ?_) | refine s_nil ?_ | refine kh_normal ?_ | refine bh_normal ?_))
          exact ⟨agL, q + 1, hsL, enL, ⟨by omega, by omega⟩, by show 9 - (q + 1) < 9 - q; omega⟩
        · have hr1' := hrest q hq1 hq8 e
          clear hmine hrest
          (repeat' (first | (show VH _ _ _ _ _ _ _; first | refine v_seq ?_ | refine r_seq ?_ | refine v_block ?_ | refine v_skip ?_ | refine v_cond_t rfl tbL ?_ | refine v_cond_f rfl tbL ?_) | (show SH _ _ _ _ _ (_ :: _) _ _ _; first | (refine gif rfl rfl ?_; first | refine giTT tbL ?_ | refine giTF tbL ?_ | refine giFF tbL ?_) | refine mov evL ?_ | refine asg evL ?_ | (show SH _ _ _ _ _ (⟨_, .binOp _ _ _ _ _, _, _, _, _⟩ :: _) _ _ _; first | refine leqT rfl rfl omD ?_ | refine eqlF rfl rfl omD ?_ | refine neqT rfl rfl omD ?_ | refine neqF rfl rfl omD ?_ | refine add rfl rfl inL ?_) | refine lin rfl (fun _ _ => rdL) omL ?_ | refine ix rfl rfl (by with_reducible rfl) (fun _ _ => rdL) (by rfl) omL omL ?_ | refine pkt rfl tbL evL ?_ | refine pkf rfl tbL evL ?_) | refine s_nil ?_ | refine kh_normal ?_ | refine bh_normal ?_))
          exact ⟨agL, q + 1, hsL, enL, ⟨by omega, by omega⟩, by show 9 - (q + 1) < 9 - q; omega⟩
      · clear hmine hrest
        obtain ⟨mm, hmm⟩ : ∃ mm : Nat, m.length = mm + 1 := ⟨m.length - 1, by omega⟩
        have hml1 : (m.length : Int) - 1 = (mm : Int) := by omega
        rw [show m.length - 1 = mm by omega] at hlast
        by_cases hl0 : ldr = 0
        · subst hl0
          rw [if_pos rfl] at hlast
          (repeat' (first | (show VH _ _ _ _ _ _ _; first | refine v_seq ?_ | refine r_seq ?_ | refine v_exit ?_ | refine v_cond_t rfl tbL ?_ | refine v_cond_f rfl tbL ?_) | (show SH _ _ _ _ _ (_ :: _) _ _ _; first | refine mov evL ?_ | refine asg evL ?_ | (show SH _ _ _ _ _ (⟨_, .binOp _ _ _ _ _, _, _, _, _⟩ :: _) _ _ _; first | refine leqF rfl rfl omD ?_ | refine eqlT rfl rfl omD ?_)) | refine s_nil ?_ | refine kh_normal ?_ | refine kh_exit ?_ | refine bh_exit ?_))
          refine r_quiet hmix (by kernel_rfl) ?_
          (repeat' ((fail_if_success (show VH _ _ (.seq (.region 99 _ _) _) _ _ _ _)); (show SH _ _ _ _ _ (_ :: _) _ _ _; first | refine mov evL ?_ | refine sub rfl rfl inL ?_ | refine lra rfl (fun _ _ => rdL) (by rfl) omL ?_ | refine ixi rfl rfl (fun _ _ => rdL) (by rfl) omL omL omL ?_ | refine slen rfl ?_)))
          rw [hml1]
          (repeat' ((show SH _ _ _ _ _ (⟨_, .call ⟨.value (.func 17), _, _⟩, _, _, _, _⟩ :: _) _ _ _; refine cl (callee := .func 17) rfl (fun w hw => mv_spec 0 20 2 3 w) rfl rfl ?_)))
          refine eqa (m.getD mm Flat.dflt) (⟨0, 20, 2, 3⟩ : Mv) rfl rfl ?_
          rw [decide_eq_true hlast]
          (repeat' (first | refine v_ret ?_ | refine asg evL ?_ | refine s_nil ?_ | refine kh_normal ?_))
          exact rh1 rfl rfl ⟨rfl, rfl⟩ (ent_nil _)
        · rw [if_neg hl0] at hlast
          (repeat' (first | (show VH _ _ _ _ _ _ _; first | refine v_seq ?_ | refine r_seq ?_ | refine v_skip ?_ | refine v_exit ?_ | refine v_cond_f rfl tbL ?_) | (show SH _ _ _ _ _ (_ :: _) _ _ _; first | refine mov evL ?_ | refine asg evL ?_ | (show SH _ _ _ _ _ (⟨_, .binOp _ _ _ _ _, _, _, _, _⟩ :: _) _ _ _; first | refine leqF rfl rfl omD ?_ | refine eqlF rfl rfl omD ?_)) | refine s_nil ?_ | refine kh_normal ?_ | refine kh_exit ?_ | refine bh_exit ?_))
          refine r_quiet hmix (by kernel_rfl) ?_
          (repeat' ((fail_if_success (show VH _ _ (.seq (.region 99 _ _) _) _ _ _ _)); (show SH _ _ _ _ _ (_ :: _) _ _ _; first | refine mov evL ?_ | refine sub rfl rfl inL ?_ | refine lra rfl (fun _ _ => rdL) (by rfl) omL ?_ | refine ixi rfl rfl (fun _ _ => rdL) (by rfl) omL omL omL ?_ | refine slen rfl ?_)))
          rw [hml1]
          (repeat' ((show SH _ _ _ _ _ (⟨_, .call ⟨.value (.func 17), _, _⟩, _, _, _, _⟩ :: _) _ _ _; refine cl (callee := .func 17) rfl (fun w hw => mv_spec 0 ldr 2 3 w) rfl rfl ?_)))
          refine eqa (m.getD mm Flat.dflt) (⟨0, ldr, 2, 3⟩ : Mv) rfl rfl ?_
          rw [decide_eq_true hlast]
          (repeat' (first | refine v_ret ?_ | refine asg evL ?_ | refine s_nil ?_ | refine kh_normal ?_))
          exact rh1 rfl rfl ⟨rfl, rfl⟩ (ent_nil _)
end Go.Proofs.Ytehjdbgijibmcaa
