/- Rules for the operations: what each of them comes to, over frames that are functions. -/
import Derived.Test.YtehjdbgijibmcaaFw
set_option linter.unusedSimpArgs false
set_option linter.unusedVariables false
namespace Go.Fw
open Go.RowKit

/-- The operation gives the value v and leaves the world w'. -/
def OX (P : Program) (n : Nat) (f : Fr) (op : Op) (ty : TypeId) (w : World) (v : Value) (w' : World) : Prop :=
  ∀ d pos aft g, (execOp (ev n f) ⟨d, op, ty, pos, aft, g⟩).run P w = .ok (.value v) w'
/-- The operation gives nothing and leaves the world w'. -/
def OS (P : Program) (n : Nat) (f : Fr) (op : Op) (ty : TypeId) (w : World) (w' : World) : Prop :=
  ∀ d pos aft g, (execOp (ev n f) ⟨d, op, ty, pos, aft, g⟩).run P w = .ok .skip w'

structure WL (P : Program) (n : Nat) (ops : Array Oper) (Q : Exit → Fr → World → Prop) (l : List Oper) (f : Fr) (w : World) : Prop where
  out : wpList P ops (lift n f.c.ro Q) l (rep n f) w

/-- The slot of operation j. -/
def dstAt : List Oper → Nat → Option Nat
  | [], _ => none
  | o :: _, 0 => o.dst
  | _ :: l, j + 1 => dstAt l j
theorem dstAt_eq : ∀ (l : List Oper) (j : Nat), (l[j]?).bind (·.dst) = dstAt l j
  | [], j => by simp [dstAt]
  | o :: l, 0 => rfl
  | o :: l, j + 1 => by rw [List.getElem?_cons_succ, dstAt_eq l j, dstAt]
/-- What the guard's operation has left. -/
def yld (n : Nat) (ops : Array Oper) (f : Fr) (j : Nat) : Value :=
  match dstAt ops.toList j with
  | some d => bif Nat.blt d n then f.s d else undef
  | none => undef

structure HasBody (P : Program) (g : FuncId) : Prop where
  body : ∃ fn, P.funcs[g]? = some fn ∧ fn.body.isNone = false ∧ (fn.name == "runtime.NumGoroutine") = false

/-- The call returns, and R holds of what it returns and of the world it leaves. -/
def Ret (P : Program) (g : FuncId) (args : Array Value) (w : World) (R : Value → World → Prop) : Prop :=
  HasBody P g ∧ Calls P g args w fun e w' => ∃ v, e = .returned v ∧ R v w'
theorem Ret.mono {P : Program} {g : FuncId} {args : Array Value} {w : World} {R R' : Value → World → Prop} (h : Ret P g args w R) (hr : ∀ v w', R v w' → R' v w') : Ret P g args w R' :=
  ⟨h.1, h.2.mono fun _ _ ⟨v, he, hv⟩ => ⟨v, he, hr v _ hv⟩⟩

def init (args : List Value) : Fr := ⟨fun i => args.getD i undef, ⟨[], none⟩⟩
/-- The marks are taken: their blocks are shut. -/
inductive Shut : List Deferred → World → World → Prop where
  | nil {w : World} : Shut [] w w
  | mark {D : Nat} {w : World} (h : w.heap[D]? = some (.deferred (some []))) : Shut [⟨.collected D, #[]⟩] w (w.putObj D (.deferred none))
def retD (P : Program) (n : Nat) (fn : Func) (R : Value → World → Prop) : Exit → Fr → World → Prop
  | .normal, f, w | .ret, f, w => ∃ w', Shut f.c.ds w w' ∧ ∃ v, (results fn (rep n f).tmps).run P w' = .ok v w' ∧ R v w'
  | _, _, _ => False
structure retK (P : Program) (n : Nat) (fn : Func) (R : Value → World → Prop) (e : Exit) (f : Fr) (w : World) : Prop where
  out : retD P n fn R e f w

section
variable {P : Program} {n : Nat} {Q : Exit → Fr → World → Prop} {f : Fr} {w w' : World} {ops : Array Oper} {rest : List Oper} {d : Nat} {op : Op} {ty : TypeId} {pos : String} {aft : Array Edge} {v : Value}

/-- No operation is a defer statement. -/
def noDef (l : List Oper) : Bool := l.all fun o => match o.op with | .defer _ => false | _ => true
theorem noDef_spec {l : List Oper} (h : noDef l = true) {o : Oper} (ho : o ∈ l) : ∀ c, o.op ≠ .defer c := fun c e => by
  have := List.all_eq_true.1 h o ho
  rw [e] at this; cases this
theorem callsIn_fen {r : Option Nat} {m : Nat} {g : FuncId} {args : Array Value} {w : World} {R : Ending → World → Prop} (h : Calls P g args w R) : CallsIn (fen r) m P g args w R := by
  have h1 : CallsIn Fence.wide m P g args w R := callsIn_wide.2 h
  cases r with
  | none => exact h1
  | some l => exact h1.inRound l
theorem op_in {o : Oper} {a : Act} {K K' : Act → World → Prop} {Q : Exit → Act → World → Prop} (hd : ∀ c, o.op ≠ .defer c) (r : Option Nat) (m : Nat) (hk : ∀ a w, K a w → K' a w) (h : o.wp P a w K Q) : o.wpIn (fen r) m P a w K' Q := by
  refine ⟨fun _ _ => trivial, ?_⟩
  rw [show (fen r).round = r from rfl, Oper.semAt_eq _ _ _ hd]
  unfold Oper.wp at h
  generalize (execOp a.eval o).run P w = q at *
  cases q with
  | ok x w' =>
    cases x <;> simp only [Oper.upon] at h <;> simp only [Oper.uponIn]
    case value => exact hk _ _ h
    case skip => exact hk _ _ h
    case defer => exact hk _ _ h
    case enter f args => exact ⟨fun e => by simp [fen, Fence.wide] at e, (callsIn_fen h).mono fun e w'' he => by cases e <;> first | exact hk _ _ he | exact he⟩
    case row row args => exact ⟨fun e => by simp [fen, Fence.wide] at e, fun c cs _ => let ⟨v, w', hv, hs⟩ := h c cs; ⟨v, w', hk _ _ hv, stepsIn_wide.2 hs⟩⟩
  | halt x w' => cases x <;> simp only [Oper.upon] at h <;> simp only [Oper.uponIn] <;> exact h
theorem list_in {Q : Exit → Act → World → Prop} (hQ : ¬ LetsOut Q) (r : Option Nat) (m : Nat) : ∀ (l : List Oper) (a : Act) (w : World), noDef l = true → wpList P ops Q l a w → wpListIn (fen r) m P ops Q l a w
  | [], _, _, _, h => h
  | o :: l, a, w, hd, h => by
    have ho := noDef_spec hd (List.mem_cons_self (a := o) (l := l))
    have hl : noDef l = true := by unfold noDef at *; rw [List.all_cons, Bool.and_eq_true] at hd; exact hd.2
    unfold wpList at h
    unfold wpListIn
    split
    · rename_i hw
      rw [if_pos hw] at h
      rcases h with h | ⟨_, h⟩
      · exact op_in ho r m (fun a w h => list_in hQ r m l a w hl h) h
      · exact (hQ h).elim
    · rename_i hw
      rw [if_neg hw] at h
      exact ⟨fun _ _ => trivial, list_in hQ r m l _ _ hl h⟩
theorem any_in {Q : Exit → Act → World → Prop} (hQ : ¬ LetsOut Q) (hd : noDef ops.toList = true) (r : Option Nat) (m : Nat) : ∀ (k : Nat) (L : Array Bool) (a : Act) (w : World), wpAny P .any ops Q k L a w → wpAnyIn (fen r) m P .any ops Q k L a w
  | 0, _, _, _, h => h
  | k + 1, L, a, w, h => ⟨h.1, fun i hi => by
    have h2 := h.2 i hi
    unfold wpOp at h2
    unfold wpOpIn
    cases ho : ops[i]? with
    | none => rw [ho] at h2; exact any_in hQ hd r m k _ a w h2
    | some o =>
      rw [ho] at h2
      simp only at h2 ⊢
      have ho' : o ∈ ops.toList := by
        obtain ⟨hlt, rfl⟩ := Array.getElem?_eq_some_iff.1 ho
        simp
      split
      · rename_i hw
        rw [if_pos hw] at h2
        rcases h2 with h2 | ⟨_, h2⟩
        · exact op_in (noDef_spec hd ho') r m (fun a w h => any_in hQ hd r m k _ a w h) h2
        · exact (hQ h2).elim
      · rename_i hw
        rw [if_neg hw] at h2
        exact ⟨fun _ _ => trivial, any_in hQ hd r m k _ _ w h2⟩⟩
theorem w_region {id : Nat} {l : List Oper} (hd : noDef l = true) (h : WL P n l.toArray Q l f w) : W P n (.region id l.toArray false) Q f w :=
  ⟨fun m => wpIn_region_lit (list_in lift_out _ m l _ _ hd h.out)⟩
theorem w_any {id : Nat} {l : List Oper} (hm : P.follows .mixedOrders = true) (hd : noDef l = true) (h : wpAny P .any l.toArray (lift n f.c.ro Q) l.toArray.size (Array.replicate l.toArray.size false) (rep n f) { w with drawn := w.drawn + 1 }) : W P n (.region id l.toArray true) Q f w :=
  ⟨fun m => wpIn_region_any hm (any_in lift_out (by simpa using hd) _ m _ _ _ _ h)⟩
theorem wl_nil (h : Q .normal f w) : WL P n ops Q [] f w := ⟨lift_n rfl h⟩
theorem wl_val (h : OX P n f op ty w v w') (k : WL P n ops Q rest (upd f d v) w') : WL P n ops Q (⟨some d, op, ty, pos, aft, none⟩ :: rest) f w :=
  WL.mk <| wpList_plain rfl fun K hK => by
    unfold Oper.wp
    rw [rep_eval, h]
    simp only [Oper.upon]
    rw [rep_put]
    exact hK _ _ k.out
theorem wl_val0 (h : OX P n f op ty w v w') (k : WL P n ops Q rest f w') : WL P n ops Q (⟨none, op, ty, pos, aft, none⟩ :: rest) f w :=
  WL.mk <| wpList_plain rfl fun K hK => by
    unfold Oper.wp
    rw [rep_eval, h]
    simp only [Oper.upon]
    exact hK _ _ k.out
theorem wl_skip (h : OS P n f op ty w w') (k : WL P n ops Q rest f w') : WL P n ops Q (⟨none, op, ty, pos, aft, none⟩ :: rest) f w :=
  WL.mk <| wpList_plain rfl fun K hK => by
    unfold Oper.wp
    rw [rep_eval, h]
    simp only [Oper.upon]
    exact hK _ _ k.out

theorem yielded_rep (j : Nat) : yielded ops (rep n f).tmps j = match yld n ops f j with | .bool b => some b | _ => none := by
  unfold yielded yld
  rw [← dstAt_eq, ← Array.getElem?_toList]
  cases hd : (ops.toList[j]?).bind (·.dst) with
  | none => rfl
  | some d =>
    simp only [Option.bind_some]
    by_cases h : d < n
    · have hb : Nat.blt d n = true := by rw [Nat.blt_eq]; exact h
      have : (rep n f).tmps[d]? = some (f.s d) := by simp [rep, h]
      rw [this, hb]
      simp only [cond_true]
      cases f.s d <;> rfl
    · have hb : Nat.blt d n = false := by
        cases hb : Nat.blt d n with
        | false => rfl
        | true => exact absurd (by rw [Nat.blt_eq] at hb; exact hb) h
      have : (rep n f).tmps[d]? = none := by simp [rep, h]
      rw [this, hb]
      rfl

theorem wl_run {od : Option Nat} {j : Nat} {want b : Bool} (hy : yld n ops f j = .bool b) (hb : b = want)
    (h : WL P n ops Q (⟨od, op, ty, pos, aft, none⟩ :: rest) f w) : WL P n ops Q (⟨od, op, ty, pos, aft, some (j, want)⟩ :: rest) f w := by
  constructor
  have h := h.out
  unfold wpList at *
  have hw : Region.wanted ⟨od, op, ty, pos, aft, some (j, want)⟩ (yielded ops (rep n f).tmps) = true := by
    simp only [Region.wanted, yielded_rep, hy, hb]; simp
  have hw' : Region.wanted ⟨od, op, ty, pos, aft, none⟩ (yielded ops (rep n f).tmps) = true := by simp [Region.wanted]
  rw [if_pos hw'] at h
  rw [if_pos hw]
  exact h
theorem wl_pass {j : Nat} {want b : Bool} (hy : yld n ops f j = .bool b) (hb : b = !want)
    (h : WL P n ops Q rest (upd f d undef) w) : WL P n ops Q (⟨some d, op, ty, pos, aft, some (j, want)⟩ :: rest) f w := by
  constructor
  have h := h.out
  unfold wpList at *
  have hw : Region.wanted ⟨some d, op, ty, pos, aft, some (j, want)⟩ (yielded ops (rep n f).tmps) = false := by
    simp only [Region.wanted, yielded_rep, hy, hb]; cases want <;> simp
  rw [if_neg (by rw [hw]; simp), rep_put]
  cases rest <;> exact h
theorem wl_pass_undef {j : Nat} {want : Bool} (hy : yld n ops f j = undef)
    (h : WL P n ops Q rest (upd f d undef) w) : WL P n ops Q (⟨some d, op, ty, pos, aft, some (j, want)⟩ :: rest) f w := by
  constructor
  have h := h.out
  unfold wpList at *
  have hw : Region.wanted ⟨some d, op, ty, pos, aft, some (j, want)⟩ (yielded ops (rep n f).tmps) = false := by
    simp only [Region.wanted, yielded_rep, hy]; rfl
  rw [if_neg (by rw [hw]; simp), rep_put]
  cases rest <;> exact h
theorem wl_split {j : Nat} {want b : Bool} (hy : yld n ops f j = .bool b)
    (h1 : b = want → WL P n ops Q (⟨some d, op, ty, pos, aft, none⟩ :: rest) f w)
    (h2 : b = !want → WL P n ops Q rest (upd f d undef) w) : WL P n ops Q (⟨some d, op, ty, pos, aft, some (j, want)⟩ :: rest) f w := by
  by_cases hb : b = want
  · exact wl_run hy hb (h1 hb)
  · exact wl_pass hy (by cases b <;> cases want <;> simp_all) (h2 (by cases b <;> cases want <;> simp_all))

theorem wl_split_dt {j : Nat} {p : Prop} [Decidable p] (hy : yld n ops f j = .bool (decide p))
    (h1 : p → WL P n ops Q (⟨some d, op, ty, pos, aft, none⟩ :: rest) f w)
    (h2 : ¬ p → WL P n ops Q rest (upd f d undef) w) : WL P n ops Q (⟨some d, op, ty, pos, aft, some (j, true)⟩ :: rest) f w :=
  wl_split hy (fun h => h1 (of_decide_eq_true h)) (fun h => h2 (of_decide_eq_false (by simpa using h)))
theorem wl_split_df {j : Nat} {p : Prop} [Decidable p] (hy : yld n ops f j = .bool (decide p))
    (h1 : ¬ p → WL P n ops Q (⟨some d, op, ty, pos, aft, none⟩ :: rest) f w)
    (h2 : p → WL P n ops Q rest (upd f d undef) w) : WL P n ops Q (⟨some d, op, ty, pos, aft, some (j, false)⟩ :: rest) f w :=
  wl_split hy (fun h => h1 (of_decide_eq_false h)) (fun h => h2 (of_decide_eq_true (by simpa using h)))

/-! calls -/
theorem run_callFunc {g : FuncId} {args : Array Value} (h : HasBody P g) : (callFunc g args).run P w = .ok (.enter g args) w := by
  obtain ⟨fn, h1, h2, h3⟩ := h.body
  have h4 : fn.name ≠ "runtime.NumGoroutine" := fun e => by rw [e] at h3; simp at h3
  have h5 : fn.body ≠ none := fun e => by rw [e] at h2; simp at h2
  simp [callFunc, program, Sem.run, h1, h4, h5]
theorem wl_call {callee : Operand} {xs : List Operand} {at_ : Array TypeId} {g : FuncId} {fst cap : Array Value} {vs : List Value} {R : Value → World → Prop}
    (h : Ret P g vs.toArray w R) (hc : ev n f callee = .func (.func g) fst cap) (hv : fst.toList ++ xs.map (ev n f) ++ cap.toList = vs)
    (k : ∀ v w', R v w' → WL P n ops Q rest (upd f d v) w') :
    WL P n ops Q (⟨some d, .call { callee := .value callee, args := xs.toArray, argTypes := at_ }, ty, pos, aft, none⟩ :: rest) f w :=
  WL.mk <| wpList_plain rfl fun K hK => by
    have hargs : (fst ++ (xs.toArray.map (ev n f))) ++ cap = vs.toArray := by
      apply Array.toList_inj.1; simp [← hv]
    have hrun : (execOp (ev n f) ⟨some d, .call { callee := .value callee, args := xs.toArray, argTypes := at_ }, ty, pos, aft, none⟩).run P w = .ok (.enter g vs.toArray) w := by
      simp only [execOp, resolve, hc, Deferred.ofValue, invoke, Sem.run_bind, Sem.run_pure, Result.andThen_ok, hargs]
      exact run_callFunc h.1
    unfold Oper.wp
    rw [rep_eval, hrun]
    simp only [Oper.upon]
    refine h.2.mono fun e w' ⟨v, he, hR⟩ => ?_
    subst he
    simp only [rep_put]
    exact hK _ _ (k v w' hR).out
theorem wl_call0' {callee : Operand} {xs : List Operand} {at_ : Array TypeId} {g : FuncId} {fst cap : Array Value} {vs : List Value} {R : Value → World → Prop}
    (h : Ret P g vs.toArray w R) (hc : ev n f callee = .func (.func g) fst cap) (hv : fst.toList ++ xs.map (ev n f) ++ cap.toList = vs)
    (k : ∀ v w', R v w' → WL P n ops Q rest f w') :
    WL P n ops Q (⟨none, .call { callee := .value callee, args := xs.toArray, argTypes := at_ }, ty, pos, aft, none⟩ :: rest) f w :=
  WL.mk <| wpList_plain rfl fun K hK => by
    have hargs : (fst ++ (xs.toArray.map (ev n f))) ++ cap = vs.toArray := by
      apply Array.toList_inj.1; simp [← hv]
    have hrun : (execOp (ev n f) ⟨none, .call { callee := .value callee, args := xs.toArray, argTypes := at_ }, ty, pos, aft, none⟩).run P w = .ok (.enter g vs.toArray) w := by
      simp only [execOp, resolve, hc, Deferred.ofValue, invoke, Sem.run_bind, Sem.run_pure, Result.andThen_ok, hargs]
      exact run_callFunc h.1
    unfold Oper.wp
    rw [rep_eval, hrun]
    simp only [Oper.upon]
    refine h.2.mono fun e w' ⟨v, he, hR⟩ => ?_
    subst he
    exact hK _ _ (k v w' hR).out

/-! the function's entry and its return -/
theorem enter {g : FuncId} {fn : Func} {c : Code} {vs : List Value} {R : Value → World → Prop} (hf : P.funcs[g]? = some fn) (hb : fn.body = some c)
    (hnm : (fn.name == "runtime.NumGoroutine") = false) (hn : fn.ntmps = n) (hlen : Nat.ble vs.length n = true) (h : W P n c (retK P n fn R) (init vs) w) : Ret P g vs.toArray w R := by
  refine ⟨⟨fn, hf, by rw [hb]; rfl, hnm⟩, (callsIn_wide (n := 0)).1 (callsIn_of_wp_marks hf hb trivial ?_)⟩
  have hle : vs.length ≤ n := Nat.le_of_ble_eq_true hlen
  · have hrep : ({ tmps := vs.toArray ++ Array.replicate (fn.ntmps - vs.toArray.size) undef, defers := [] } : Act) = rep n (init vs) := by
      simp only [rep, hn]
      congr 1
      apply Array.ext
      · simp; omega
      · intro i h1 h2
        simp only [Array.getElem_ofFn, init]
        simp only [List.getD_eq_getElem?_getD]
        by_cases hi : i < vs.length
        · rw [Array.getElem_append_left (by simpa using hi)]; simp [hi]
        · rw [Array.getElem_append_right (by simp; omega)]
          simp [hi]
    rw [hrep]
    have key : ∀ (f' : Fr) (w' : World), (∃ w'', Shut f'.c.ds w' w'' ∧ ∃ v, (results fn (rep n f').tmps).run P w'' = .ok v w'' ∧ R v w'') → LeavesInM Fence.wide 0 P fn (rep n f').tmps (fun e w' => ∃ v, e = .returned v ∧ R v w') f'.c.ds .returning w' := by
      rintro f' w' ⟨w'', hs, v, h1, h2⟩
      generalize f'.c.ds = ds at hs
      cases hs with
      | nil => exact ⟨v, h1, v, rfl, h2⟩
      | mark hD => exact ⟨by simp, .inl ⟨_, _, rfl, run_takeDeferred hD, v, h1, v, rfl, h2⟩⟩
    refine wpIn_mono (h.out 0) fun e a w' ⟨he, f', ha, _, ⟨hq⟩⟩ => ?_
    subst ha
    cases e with
    | normal => exact key f' w' hq
    | ret => exact key f' w' hq
    | exit _ => exact hq.elim
    | goto _ => exact hq.elim
    | panic _ => exact hq.elim
    | outgrown => exact hq.elim
end
end Go.Fw
