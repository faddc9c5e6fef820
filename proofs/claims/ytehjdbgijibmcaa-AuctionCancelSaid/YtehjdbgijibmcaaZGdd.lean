/- AuctionCancel: where Open finds a fault. -/
import Derived.Test.YtehjdbgijibmcaaZGa
import Derived.Test.YtehjdbgijibmcaaZVa
import Derived.Test.YtehjdbgijibmcaaZDo
import Derived.Test.YtehjdbgijibmcaaZAy
set_option linter.unusedSimpArgs false
set_option linter.unusedVariables false
namespace Go.Proofs.Ytehjdbgijibmcaa
open Go.Fw Go.RowKit
set_option maxHeartbeats 4000000 in
set_option maxRecDepth 100000 in
theorem cancelLaw_err0 (A : Option Addr) (c0 : Nat) (tick last : Int) (lots : List Lot) (kk a it c d e other er : Int) (w : World) (hr : Rd w A lots) (h40 : ¬ 40 < lots.length)
    (hvs : ∀ w, Rd w A lots → Ret Try.prog 18 [.agg #[.int .i64 tick, .int .i64 last, .slice A lots.length c0]].toArray w (Out w (.bool true)))
    (hO : ∀ w, Rd w A lots → Ret Try.prog 13 [.agg #[.int .i64 tick, .int .i64 last, .slice A lots.length c0], .int .i64 a, .int .i64 it, .int .i64 c, .int .i64 d, .int .i64 e].toArray w (RP w (OutR (house0, [], er)))) (q3 : er = 2 ∨ er = 4) :
    Ret Try.prog 10 [.agg #[.int .i64 tick, .int .i64 last, .slice A lots.length c0], .agg #[.int .i64 kk, .int .i64 a, .int .i64 it, .int .i64 c, .int .i64 d, .int .i64 e], .int .i64 other].toArray w (Out w (.bool true)) := by
  unfold OutR hv house0 at hO
  simp only at hO
  rcases q3 with rfl | rfl
  all_goals
    refine enterH Try.func10 rfl rfl Try.ntmps10 rfl (Wd.refl _) ?_
    (repeat' (first | (show VH _ _ _ _ _ _ _; first | refine v_seq ?_ | refine r_seq ?_ | refine v_skip ?_ | refine v_cond_f rfl tbL ?_) | (show SH _ _ _ _ _ (_ :: _) _ _ _; first | (refine gif rfl rfl ?_; refine giFF tbL ?_) | refine mov evL ?_ | refine asg evL ?_ | refine gtrF rfl rfl omD ?_ | (show SH _ _ _ _ _ (⟨_, .load _ _, _, _, _, _⟩ :: _) _ _ _; first | refine lbx rfl spL (by rfl) ?_ | refine lba rfl spL (by rfl) ?_) | refine slen rfl ?_ | (show SH _ _ _ _ _ (⟨_, .call ⟨.value (.func 12), _, _⟩, _, _, _, _⟩ :: _) _ _ _; refine cl (callee := .func 12) rfl (fun w hw => awake_spec w) rfl rfl ?_) | (show SH _ _ _ _ _ (⟨_, .call ⟨.value (.func 18), _, _⟩, _, _, _, _⟩ :: _) _ _ _; refine cl (callee := .func 18) rfl (fun w hw => hvs _ (hr.ext hw.ext)) rfl rfl ?_) | (show SH _ _ _ _ _ (⟨_, .call ⟨.value (.func 13), _, _⟩, _, _, _, _⟩ :: _) _ _ _; refine cp (callee := .func 13) rfl (fun w hw => hO _ (hr.ext hw.ext)) rfl rfl ?_) | refine bnoT rfl ?_ | refine pkf rfl tbL evL ?_ | refine fad rfl ?_ | refine bxx rfl evL rfl (fun b => ?_)) | refine s_nil ?_ | refine kh_normal ?_))
    rintro _ _ ⟨A1, c1, B, d, rfl, rfl⟩
    clear hvs hO
    (repeat' (first | (show VH _ _ _ _ _ _ _; first | refine v_seq ?_ | refine r_seq ?_ | refine v_ret ?_ | refine v_cond_t rfl tbL ?_) | (show SH _ _ _ _ _ (_ :: _) _ _ _; first | (refine gif rfl rfl ?_; first | refine giTT tbL ?_ | refine giFF tbL ?_ | refine giFT tbL ?_) | refine mov evL ?_ | refine asg evL ?_ | (show SH _ _ _ _ _ (⟨_, .binOp _ _ _ _ _, _, _, _, _⟩ :: _) _ _ _; first | refine eqlT rfl rfl omD ?_ | refine eqlF rfl rfl omD ?_ | refine neqT rfl rfl omD ?_) | refine pkt rfl tbL evL ?_ | refine pkf rfl tbL evL ?_ | refine extr rfl rfl ?_ | refine ala rfl (fun b => ?_) | refine sta rfl rfl rfl spL (by rfl) (by rfl) (by rfl) kpL ?_) | refine s_nil ?_ | refine kh_normal ?_ | refine kh_ret ?_))
    exact rh1 rfl rfl ⟨rfl, rfl⟩ (ent_nil _)
theorem cancelLaw_err (A : Option Addr) (c0 : Nat) (h : House) (x : Do6) (other : Int) (w : World) (hr : Rd w A h.lots) (h40 : ¬ 40 < h.lots.length)
    (hvs : ∀ w, Rd w A h.lots → Ret Try.prog 18 [hv A c0 h].toArray w (Out w (.bool true))) (he : ¬ (openH h x.a x.b x.c x.d x.e).2.2 = 0) :
    Ret Try.prog 10 [hv A c0 h, .agg (Flat.enc x).toArray, .int .i64 other].toArray w (Out w (.bool true)) := by
  have hO := fun w hr => open_spec A c0 h x.a x.b x.c x.d x.e w (by omega) hr
  obtain ⟨q1, q2, q3⟩ := open_err he
  generalize openH h x.a x.b x.c x.d x.e = r at he hO q1 q2 q3
  obtain ⟨h', m', e'⟩ := r
  simp only at q1 q2 q3 he
  subst q1 q2
  exact cancelLaw_err0 A c0 h.tick h.last h.lots x.k x.a x.b x.c x.d x.e other e' w hr h40 hvs hO q3
end Go.Proofs.Ytehjdbgijibmcaa
