/- Code over a frame and pieces of memory: the rules of control, calls, regions. -/
import Derived.Test.YtehjdbgijibmcaaHp
import Derived.OrdersHeld
set_option linter.unusedSimpArgs false
set_option linter.unusedVariables false
namespace Go.Fw
open Go.RowKit

abbrev HQ := Exit → Fr → List HP → Prop
def low (w0 : World) (Q : HQ) : Exit → Fr → World → Prop := fun e f w => ∃ H, Q e f H ∧ Wd w0 H w
structure VH (P : Program) (n : Nat) (c : Code) (Q : HQ) (f : Fr) (w0 : World) (H : List HP) : Prop where
  out : ∀ w, Wd w0 H w → W P n c (low w0 Q) f w
structure WH (P : Program) (n : Nat) (ops : Array Oper) (Q : HQ) (l : List Oper) (f : Fr) (w0 : World) (H : List HP) : Prop where
  out : ∀ w, Wd w0 H w → WL P n ops (low w0 Q) l f w
def thenHD (K : Fr → List HP → Prop) (Q : HQ) : HQ
  | .normal, f, H => K f H
  | e, f, H => Q e f H
structure thenH (K : Fr → List HP → Prop) (Q : HQ) (e : Exit) (f : Fr) (H : List HP) : Prop where
  out : thenHD K Q e f H
def blockHD (id : Nat) (Q : HQ) : HQ
  | .exit id', f, H => if id' = id then Q .normal f H else Q (.exit id') f H
  | e, f, H => Q e f H
structure blockH (id : Nat) (Q : HQ) (e : Exit) (f : Fr) (H : List HP) : Prop where
  out : blockHD id Q e f H
/-- The answer of a call: what it returns and the pieces that it leaves, above w0. -/
def RP (w0 : World) (R : Value → List HP → Prop) (v : Value) (w' : World) : Prop := ∃ H', R v H' ∧ Wd w0 H' w'
/-- The value v, and nothing else of one's own. -/
def Sc (v : Value) (u : Value) (H : List HP) : Prop := u = v ∧ H = []
/-- The block of the rounds' deferred calls: none. -/
def dfr (D : Nat) : HP := .oth fun p => p = pone D (.deferred (some []))
def markD (D : Nat) : Deferred := ⟨.collected D, #[]⟩
/-- What is left of the pieces when the marks are taken. -/
inductive Left : List Deferred → List HP → List HP → Prop where
  | nil {H : List HP} : Left [] H H
  | mark {D : Nat} {H R : List HP} (h : Split H (dfr D) R) : Left [markD D] H R
def retHD (P : Program) (n : Nat) (fn : Func) (w0 : World) (R : Value → List HP → Prop) : HQ
  | .normal, f, H | .ret, f, H => ∃ H1, Left f.c.ds H H1 ∧ ∀ w, Wd w0 H1 w → ∃ v, (results fn (rep n f).tmps).run P w = .ok v w ∧ ∃ H', R v H' ∧ Ent H1 H'
  | _, _, _ => False
structure retH (P : Program) (n : Nat) (fn : Func) (w0 : World) (R : Value → List HP → Prop) (e : Exit) (f : Fr) (H : List HP) : Prop where
  out : retHD P n fn w0 R e f H

section
variable {P : Program} {n : Nat} {Q : HQ} {f : Fr} {w0 : World} {H : List HP} {K : Fr → List HP → Prop}
theorem kh_normal (h : K f H) : thenH K Q .normal f H := ⟨h⟩
theorem kh_ret (h : Q .ret f H) : thenH K Q .ret f H := ⟨h⟩
theorem kh_exit {i : Nat} (h : Q (.exit i) f H) : thenH K Q (.exit i) f H := ⟨h⟩
theorem bh_normal {i : Nat} (h : Q .normal f H) : blockH i Q .normal f H := ⟨h⟩
theorem bh_ret {i : Nat} (h : Q .ret f H) : blockH i Q .ret f H := ⟨h⟩
theorem bh_exit {i : Nat} (h : Q .normal f H) : blockH i Q (.exit i) f H := ⟨by simp [blockHD, h]⟩
theorem bh_exit_ne {i j : Nat} (hij : Nat.beq j i = false) (h : Q (.exit j) f H) : blockH i Q (.exit j) f H := by
  have : j ≠ i := fun e => by subst e; simp at hij
  exact ⟨by simp [blockHD, this, h]⟩
theorem VH.mono {c : Code} {Q' : HQ} (h : VH P n c Q f w0 H) (hq : ∀ e f H, Q e f H → Q' e f H) : VH P n c Q' f w0 H :=
  ⟨fun w hw => (h.out w hw).mono fun e f _ ⟨H, h1, h2⟩ => ⟨H, hq e f H h1, h2⟩⟩
theorem VH.ent {c : Code} {G : List HP} (h : VH P n c Q f w0 G) (he : Ent H G) : VH P n c Q f w0 H := ⟨fun w hw => h.out w (he.wd hw)⟩
theorem WH.ent {ops : Array Oper} {l : List Oper} {G : List HP} (h : WH P n ops Q l f w0 G) (he : Ent H G) : WH P n ops Q l f w0 H := ⟨fun w hw => h.out w (he.wd hw)⟩
theorem v_skip (h : Q .normal f H) : VH P n .skip Q f w0 H := ⟨fun _ hw => w_skip ⟨H, h, hw⟩⟩
theorem v_label {l : Nat} (h : Q .normal f H) : VH P n (.label l) Q f w0 H := ⟨fun _ hw => w_label ⟨H, h, hw⟩⟩
theorem v_exit {i : Nat} (h : Q (.exit i) f H) : VH P n (.exit i) Q f w0 H := ⟨fun _ hw => w_exit ⟨H, h, hw⟩⟩
theorem v_ret (h : Q .ret f H) : VH P n .ret Q f w0 H := ⟨fun _ hw => w_ret ⟨H, h, hw⟩⟩
theorem v_seq {x y : Code} (h : VH P n x (thenH (fun f H => VH P n y Q f w0 H) Q) f w0 H) : VH P n (.seq x y) Q f w0 H :=
  ⟨fun w hw => w_seq ((h.out w hw).mono fun e f w ⟨H, ⟨h1⟩, h2⟩ => ⟨by
    cases e <;> first | exact VH.out h1 w h2 | exact ⟨H, h1, h2⟩⟩)⟩
theorem v_block {i : Nat} {c : Code} (h : VH P n c (blockH i Q) f w0 H) : VH P n (.block i c) Q f w0 H :=
  ⟨fun w hw => w_block ((h.out w hw).mono fun e f w ⟨H, ⟨h1⟩, h2⟩ => ⟨by
    cases e with
    | exit j =>
      simp only [blockHD] at h1
      simp only [blockD]
      split
      · rename_i hj; rw [if_pos hj] at h1; exact ⟨H, h1, h2⟩
      · rename_i hj; rw [if_neg hj] at h1; exact ⟨H, h1, h2⟩
    | _ => exact ⟨H, h1, h2⟩⟩)⟩
section conds
variable {c : Operand} {x y : Code}
theorem v_cond {t : Bool} (hc : ev n f c = .bool t) (ht : t = true → VH P n x Q f w0 H) (hf : t = false → VH P n y Q f w0 H) : VH P n (.cond c x y) Q f w0 H :=
  ⟨fun w hw => w_cond hc (fun h => (ht h).out w hw) (fun h => (hf h).out w hw)⟩
theorem v_cond_t {t : Bool} (hc : ev n f c = .bool t) (ht : t = true) (h : VH P n x Q f w0 H) : VH P n (.cond c x y) Q f w0 H :=
  v_cond hc (fun _ => h) (fun h => by rw [ht] at h; cases h)
theorem v_cond_f {t : Bool} (hc : ev n f c = .bool t) (ht : t = false) (h : VH P n y Q f w0 H) : VH P n (.cond c x y) Q f w0 H :=
  v_cond hc (fun h => by rw [ht] at h; cases h) (fun _ => h)
theorem v_cond_dec {p : Prop} [Decidable p] (hc : ev n f c = .bool (decide p)) (ht : p → VH P n x Q f w0 H) (hf : ¬ p → VH P n y Q f w0 H) : VH P n (.cond c x y) Q f w0 H :=
  v_cond hc (fun h => ht (of_decide_eq_true h)) (fun h => hf (of_decide_eq_false h))
theorem v_cond_ndec {p : Prop} [Decidable p] (hc : ev n f c = .bool (!decide p)) (ht : ¬ p → VH P n x Q f w0 H) (hf : p → VH P n y Q f w0 H) : VH P n (.cond c x y) Q f w0 H :=
  v_cond hc (fun h => ht (by simpa using h)) (fun h => hf (by simpa using h))
end conds
/-- The loop rule: the slots in S are written in a round; those in 'ovr x' are known at a round's head, and the pieces are 'Hp x'. -/
theorem v_loop {c : Code} {α : Type} (S : List (Nat × Nat)) (ovr : α → List (Nat × Value)) (Hp : α → List HP) (I : α → Prop) (μ : α → Nat) (x : α) (h0 : Has f (ovr x)) (hH : Ent H (Hp x)) (hI : I x)
    (round : ∀ x g, I x → VH P n c (thenH (fun f' H' => Agree S f' f ∧ ∃ x', Has f' (ovr x') ∧ Ent H' (Hp x') ∧ I x' ∧ μ x' < μ x) Q) (sets (mix S g f) (ovr x)) w0 (Hp x)) : VH P n (.loop c) Q f w0 H :=
  ⟨fun w hw => w_loop S ovr (fun x w => I x ∧ Wd w0 (Hp x) w) μ x h0 ⟨hI, hH.wd hw⟩ fun x g w ⟨hI, hw⟩ => ((round x g hI).out w hw).mono fun e f w ⟨H, ⟨h1⟩, h2⟩ => ⟨by
    cases e with
    | normal => obtain ⟨ha, x', hh, he, hi, hm⟩ := h1; exact ⟨ha, x', hh, ⟨hi, he.wd h2⟩, hm⟩
    | _ => exact ⟨H, h1, h2⟩⟩⟩
/-- The same, where no piece is changed. -/
theorem v_loop0 {c : Code} {α : Type} (S : List (Nat × Nat)) (ovr : α → List (Nat × Value)) (I : α → Prop) (μ : α → Nat) (x : α) (h0 : Has f (ovr x)) (hI : I x)
    (round : ∀ x g, I x → VH P n c (thenH (fun f' H' => Agree S f' f ∧ ∃ x', Has f' (ovr x') ∧ Ent H' H ∧ I x' ∧ μ x' < μ x) Q) (sets (mix S g f) (ovr x)) w0 H) : VH P n (.loop c) Q f w0 H :=
  v_loop S ovr (fun _ => H) I μ x h0 (ent_refl H) hI round
/-- The piece of code ahead of a meeting point: what is known of slots and pieces behind it. -/
theorem v_cut {c : Code} {α : Type} (S : List (Nat × Nat)) (ovr : α → List (Nat × Value)) (Hp : α → List HP) (I : α → Prop) {K : Fr → List HP → Prop}
    (h : VH P n c (thenH (fun f' H' => Agree S f' f ∧ ∃ x, Has f' (ovr x) ∧ Ent H' (Hp x) ∧ I x) Q) f w0 H)
    (k : ∀ x g, I x → ∀ G, G = Hp x → K (sets (mix S g f) (ovr x)) G) (hK : ∀ f H G, K f G → Ent H G → K f H) : VH P n c (thenH K Q) f w0 H :=
  h.mono fun e f' H' ⟨h1⟩ => ⟨by
    cases e with
    | normal =>
      obtain ⟨ha, x, hh, he, hi⟩ := h1
      have := k x f' hi _ rfl
      rw [← ha.mix_eq, sets_has hh] at this
      exact hK _ _ _ this he
    | _ => exact h1⟩
theorem v_cut0 {c : Code} {α : Type} (S : List (Nat × Nat)) (ovr : α → List (Nat × Value)) (I : α → Prop) {K : Fr → List HP → Prop}
    (h : VH P n c (thenH (fun f' H' => Agree S f' f ∧ ∃ x, Has f' (ovr x) ∧ Ent H' H ∧ I x) Q) f w0 H)
    (k : ∀ x g, I x → K (sets (mix S g f) (ovr x)) H) (hK : ∀ f H G, K f G → Ent H G → K f H) : VH P n c (thenH K Q) f w0 H :=
  v_cut S ovr (fun _ => H) I h (fun x g hi _ hG => by rw [hG]; exact k x g hi) hK
/-- The frame is forgotten, but for the slots of l. -/
theorem v_norm {c : Code} {cx : Cx} (l : List (Nat × Value)) (h : Has f l) (k : ∀ g : Nat → Value, VH P n c Q (sets ⟨g, cx⟩ l) w0 H) (hc : f.c = cx := by conv => lhs; whnf) : VH P n c Q f w0 H := by
  have := k f.s
  rw [← hc] at this
  rwa [sets_has h] at this
theorem ent_vh {y : Code} (f : Fr) (H G : List HP) (h : VH P n y Q f w0 G) (he : Ent H G) : VH P n y Q f w0 H := h.ent he
end

section
variable {P : Program} {n : Nat} {Q : HQ} {f : Fr} {w0 : World} {H : List HP} {ops : Array Oper} {rest : List Oper} {d : Nat} {op : Op} {ty : TypeId} {pos : String} {aft : Array Edge} {v : Value}
theorem wh_nil (h : Q .normal f H) : WH P n ops Q [] f w0 H := ⟨fun _ hw => wl_nil ⟨H, h, hw⟩⟩
theorem wh_val (h : ∀ w, Wd w0 H w → OX P n f op ty w v w) (k : WH P n ops Q rest (upd f d v) w0 H) : WH P n ops Q (⟨some d, op, ty, pos, aft, none⟩ :: rest) f w0 H :=
  ⟨fun w hw => wl_val (h w hw) (k.out w hw)⟩
theorem wh_val0 (h : ∀ w, Wd w0 H w → OX P n f op ty w v w) (k : WH P n ops Q rest f w0 H) : WH P n ops Q (⟨none, op, ty, pos, aft, none⟩ :: rest) f w0 H :=
  ⟨fun w hw => wl_val0 (h w hw) (k.out w hw)⟩
section guards
variable {od : Option Nat} {j : Nat} {want b : Bool}
theorem wh_run (hy : yld n ops f j = .bool b) (hb : b = want) (h : WH P n ops Q (⟨od, op, ty, pos, aft, none⟩ :: rest) f w0 H) : WH P n ops Q (⟨od, op, ty, pos, aft, some (j, want)⟩ :: rest) f w0 H :=
  ⟨fun w hw => wl_run hy hb (h.out w hw)⟩
theorem wh_pass (hy : yld n ops f j = .bool b) (hb : b = !want) (h : WH P n ops Q rest (upd f d undef) w0 H) : WH P n ops Q (⟨some d, op, ty, pos, aft, some (j, want)⟩ :: rest) f w0 H :=
  ⟨fun w hw => wl_pass hy hb (h.out w hw)⟩
theorem wh_pass_undef (hy : yld n ops f j = undef) (h : WH P n ops Q rest (upd f d undef) w0 H) : WH P n ops Q (⟨some d, op, ty, pos, aft, some (j, want)⟩ :: rest) f w0 H :=
  ⟨fun w hw => wl_pass_undef hy (h.out w hw)⟩
theorem wh_split (hy : yld n ops f j = .bool b) (h1 : b = want → WH P n ops Q (⟨some d, op, ty, pos, aft, none⟩ :: rest) f w0 H) (h2 : b = !want → WH P n ops Q rest (upd f d undef) w0 H) :
    WH P n ops Q (⟨some d, op, ty, pos, aft, some (j, want)⟩ :: rest) f w0 H :=
  ⟨fun w hw => wl_split hy (fun h => (h1 h).out w hw) (fun h => (h2 h).out w hw)⟩
theorem wh_split_dt {p : Prop} [Decidable p] (hy : yld n ops f j = .bool (decide p)) (h1 : p → WH P n ops Q (⟨some d, op, ty, pos, aft, none⟩ :: rest) f w0 H) (h2 : ¬ p → WH P n ops Q rest (upd f d undef) w0 H) :
    WH P n ops Q (⟨some d, op, ty, pos, aft, some (j, true)⟩ :: rest) f w0 H :=
  wh_split hy (fun h => h1 (of_decide_eq_true h)) (fun h => h2 (of_decide_eq_false (by simpa using h)))
theorem wh_split_df {p : Prop} [Decidable p] (hy : yld n ops f j = .bool (decide p)) (h1 : ¬ p → WH P n ops Q (⟨some d, op, ty, pos, aft, none⟩ :: rest) f w0 H) (h2 : p → WH P n ops Q rest (upd f d undef) w0 H) :
    WH P n ops Q (⟨some d, op, ty, pos, aft, some (j, false)⟩ :: rest) f w0 H :=
  wh_split hy (fun h => h1 (of_decide_eq_false h)) (fun h => h2 (of_decide_eq_true (by simpa using h)))
end guards
section calls
variable {callee : Operand} {xs : List Operand} {at_ : Array TypeId} {g : FuncId} {fst cap : Array Value} {vs : List Value} {R : Value → List HP → Prop}
/-- A call that may change pieces. -/
theorem wh_callm (h : ∀ w, Wd w0 H w → Ret P g vs.toArray w (RP w0 R)) (hc : ev n f callee = .func (.func g) fst cap) (hv : fst.toList ++ xs.map (ev n f) ++ cap.toList = vs)
    (k : ∀ v H', R v H' → WH P n ops Q rest (upd f d v) w0 H') : WH P n ops Q (⟨some d, .call { callee := .value callee, args := xs.toArray, argTypes := at_ }, ty, pos, aft, none⟩ :: rest) f w0 H :=
  ⟨fun w hw => wl_call (h w hw) hc hv fun v w' ⟨H', h1, h2⟩ => (k v H' h1).out w' h2⟩
theorem wh_callm0 (h : ∀ w, Wd w0 H w → Ret P g vs.toArray w (RP w0 R)) (hc : ev n f callee = .func (.func g) fst cap) (hv : fst.toList ++ xs.map (ev n f) ++ cap.toList = vs)
    (k : ∀ v H', R v H' → WH P n ops Q rest f w0 H') : WH P n ops Q (⟨none, .call { callee := .value callee, args := xs.toArray, argTypes := at_ }, ty, pos, aft, none⟩ :: rest) f w0 H :=
  ⟨fun w hw => wl_call0' (h w hw) hc hv fun v w' ⟨H', h1, h2⟩ => (k v H' h1).out w' h2⟩
/-- A call that leaves what is there as it is, and adds pieces. -/
theorem wh_callp (h : ∀ w, Wd w0 H w → Ret P g vs.toArray w (RP w R)) (hc : ev n f callee = .func (.func g) fst cap) (hv : fst.toList ++ xs.map (ev n f) ++ cap.toList = vs)
    (k : ∀ v H', R v H' → WH P n ops Q rest (upd f d v) w0 (H' ++ H)) : WH P n ops Q (⟨some d, .call { callee := .value callee, args := xs.toArray, argTypes := at_ }, ty, pos, aft, none⟩ :: rest) f w0 H :=
  ⟨fun w hw => wl_call (h w hw) hc hv fun v w' ⟨H', h1, h2⟩ => (k v H' h1).out w' (hw.over h2)⟩
/-- A call that gives the value v. -/
theorem wh_call (h : ∀ w, Wd w0 H w → Ret P g vs.toArray w (RP w (Sc v))) (hc : ev n f callee = .func (.func g) fst cap) (hv : fst.toList ++ xs.map (ev n f) ++ cap.toList = vs)
    (k : WH P n ops Q rest (upd f d v) w0 H) : WH P n ops Q (⟨some d, .call { callee := .value callee, args := xs.toArray, argTypes := at_ }, ty, pos, aft, none⟩ :: rest) f w0 H :=
  wh_callp h hc hv fun u H' ⟨h1, h2⟩ => by subst h1 h2; exact k
end calls

/-! the function's entry and its return -/
theorem left_shut {ds : List Deferred} {H1 : List HP} (hl : Left ds H H1) {w : World} (hw : Wd w0 H w) : ∃ w', Shut ds w w' ∧ Wd w0 H1 w' := by
  cases hl with
  | nil => exact ⟨w, .nil, hw⟩
  | @mark D _ R hs =>
    obtain ⟨he, q, ⟨p1, p2, hx, hs2, hd, rfl⟩, hp⟩ := hs.wd hw
    have hx : p1 = pone D (.deferred (some [])) := hx
    subst hx
    have hD := hp D (.deferred (some [])) (by simp [pjoin, pone_at])
    refine ⟨_, .mark hD.2, ?_⟩
    refine Wd.off hw.1 hs2 (hp.right hd) hD.1 (fun o ho => ?_)
    rcases hd D with h | h
    · rw [pone_at] at h; cases h
    · rw [h] at ho; cases ho
theorem enterH {g : FuncId} {fn : Func} {c : Code} {vs : List Value} {w : World} {R : Value → List HP → Prop} (hf : P.funcs[g]? = some fn) (hb : fn.body = some c)
    (hnm : (fn.name == "runtime.NumGoroutine") = false) (hn : fn.ntmps = n) (hlen : Nat.ble vs.length n = true) (hw : Wd w0 H w) (h : VH P n c (retH P n fn w0 R) (init vs) w0 H) : Ret P g vs.toArray w (RP w0 R) :=
  enter hf hb hnm hn hlen ((h.out w hw).mono fun e f w ⟨H, ⟨h1⟩, h2⟩ => ⟨by
    have key : (∃ H1, Left f.c.ds H H1 ∧ ∀ w, Wd w0 H1 w → ∃ v, (results fn (rep n f).tmps).run P w = .ok v w ∧ ∃ H', R v H' ∧ Ent H1 H') → ∃ w', Shut f.c.ds w w' ∧ ∃ v, (results fn (rep n f).tmps).run P w' = .ok v w' ∧ RP w0 R v w' := fun ⟨H1, hl, hr⟩ => by
      obtain ⟨w', hs, hw'⟩ := left_shut hl h2
      obtain ⟨v, hv, H', h3, h4⟩ := hr w' hw'
      exact ⟨w', hs, v, hv, H', h3, h4.wd hw'⟩
    cases e with
    | normal => exact key h1
    | ret => exact key h1
    | exit _ => exact h1.elim
    | goto _ => exact h1.elim
    | panic _ => exact h1.elim
    | outgrown => exact h1.elim⟩)
section rets
variable {fn : Func} {R : Value → List HP → Prop} {H' : List HP}
theorem ret_plain {e : Exit} (he : e = .normal ∨ e = .ret) (hd : f.c.ds = []) (h : ∀ w, Wd w0 H w → ∃ v, (results fn (rep n f).tmps).run P w = .ok v w ∧ ∃ H', R v H' ∧ Ent H H') : retH P n fn w0 R e f H :=
  ⟨by rcases he with rfl | rfl <;> exact ⟨H, hd ▸ .nil, h⟩⟩
/-- The mark is taken. -/
theorem rh_mark {e : Exit} {D : Nat} {ro : Option Nat} {H1 : List HP} (hd : f.c = ⟨[markD D], ro⟩) (hs : Split H (dfr D) H1) (h : retH P n fn w0 R e ⟨f.s, ⟨[], ro⟩⟩ H1) : retH P n fn w0 R e f H := ⟨by
  have h := h.out
  have key : (∃ H2, Left [] H1 H2 ∧ ∀ w, Wd w0 H2 w → ∃ v, (results fn (rep n ⟨f.s, ⟨[], ro⟩⟩).tmps).run P w = .ok v w ∧ ∃ H', R v H' ∧ Ent H2 H') → ∃ H2, Left f.c.ds H H2 ∧ ∀ w, Wd w0 H2 w → ∃ v, (results fn (rep n f).tmps).run P w = .ok v w ∧ ∃ H', R v H' ∧ Ent H2 H' := fun ⟨H2, hl, hr⟩ => by
    cases hl
    exact ⟨H1, by rw [hd]; exact .mark hs, hr⟩
  cases e with
  | normal => exact key h
  | ret => exact key h
  | exit _ => exact h.elim
  | goto _ => exact h.elim
  | panic _ => exact h.elim
  | outgrown => exact h.elim⟩
theorem rh0 (hr : fn.results = #[]) (h : R (.tuple #[]) H') (he : Ent H H') (hd : f.c.ds = [] := by rfl) : retH P n fn w0 R .ret f H := ret_plain (.inr rfl) hd fun w _ => ⟨_, results_none hr _ P w, H', h, he⟩
theorem rh0n (hr : fn.results = #[]) (h : R (.tuple #[]) H') (he : Ent H H') (hd : f.c.ds = [] := by rfl) : retH P n fn w0 R .normal f H := ret_plain (.inl rfl) hd fun w _ => ⟨_, results_none hr _ P w, H', h, he⟩
theorem rh1 {t : Nat} (hr : fn.results = #[.tmp t]) (ht : Nat.blt t n = true) (h : R (f t) H') (he : Ent H H') (hd : f.c.ds = [] := by rfl) : retH P n fn w0 R .ret f H :=
  ret_plain (.inr rfl) hd fun w _ => ⟨_, results_tmp hr _ P w, H', by rw [rep_get ht]; exact h, he⟩
theorem rh2 {t u : Nat} (hr : fn.results = #[.tmp t, .tmp u]) (ht : Nat.blt t n = true) (hu : Nat.blt u n = true) (h : R (.tuple #[f t, f u]) H') (he : Ent H H') (hd : f.c.ds = [] := by rfl) : retH P n fn w0 R .ret f H :=
  ret_plain (.inr rfl) hd fun w _ => ⟨_, results_tmp2 hr _ P w, H', by rw [rep_get ht, rep_get hu]; exact h, he⟩
theorem rh3 {t u x : Nat} (hr : fn.results = #[.tmp t, .tmp u, .tmp x]) (ht : Nat.blt t n = true) (hu : Nat.blt u n = true) (hx : Nat.blt x n = true) (h : R (.tuple #[f t, f u, f x]) H') (he : Ent H H') (hd : f.c.ds = [] := by rfl) : retH P n fn w0 R .ret f H :=
  ret_plain (.inr rfl) hd fun w _ => ⟨_, by simp [results, hr]; rfl, H', by
    have h1 := rep_get (f := f) ht; have h2 := rep_get (f := f) hu; have h3 := rep_get (f := f) hx
    simp only [Array.getD_eq_getD_getElem?] at h1 h2 h3
    rw [h1, h2, h3]; exact h, he⟩
/-- The result lies in memory. -/
theorem rhC {t : Nat} {T : TypeId} {a : Addr} (hr : fn.results = #[.cell t T]) (ht : Nat.blt t n = true) (hp : f t = .pointer (some a)) (hl : ∀ w, Wd w0 H w → (loadVar T a).run P w = .ok v w) (h : R v H') (he : Ent H H') (hd : f.c.ds = [] := by rfl) : retH P n fn w0 R .ret f H :=
  ret_plain (.inr rfl) hd fun w hw => ⟨v, by
    have h1 := rep_get (f := f) ht
    rw [hp] at h1
    simp only [Array.getD_eq_getD_getElem?] at h1
    simp [results, hr, h1, asAddr, hl w hw], H', h, he⟩
end rets

theorem WQ.mono {w : World} {l : List Oper} {K K' : Fr → Prop} (h : WQ P n ops w K l f) (hk : ∀ f, K f → K' f) : WQ P n ops w K' l f :=
  ⟨wpQuiet_mono (fun _ ⟨f, ha, hr, hf⟩ => ⟨f, ha, hr, hk f hf⟩) _ _ h.out⟩
end
end Go.Fw
