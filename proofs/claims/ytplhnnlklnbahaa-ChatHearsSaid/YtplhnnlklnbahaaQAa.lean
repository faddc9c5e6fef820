/- Rules of the walk. -/
import Derived.Tactics
import Derived.Deep.Quiet
import Derived.StillTail
import Derived.Below
import Derived.Laws.OwnMore
import Derived.Laws.MakeOwn
import Derived.Laws.Entries
import Derived.IntWalk
import Derived.LoopNIn
import Derived.OrdersIn
import Derived.RangeFuncLeaves
import Derived.RangeFuncRecord
import Derived.RangeFuncSeq
import Derived.RangeFuncCalls
import Derived.TacticsIn
import Derived.KernelRfl
import Derived.WalkSpells
set_option linter.unusedSimpArgs false
set_option linter.unusedVariables false
/- Rules of the walk. -/
/- A small calculus of weakest preconditions over frames that are functions: rules, one per operation, that the walks of this seat use. -/
namespace Go.Fw
open Go.RowKit

/-- What a frame is besides its slots: the marks among its deferred calls, and the round that it runs, if it runs one. -/
structure Cx where
  ds : List Deferred
  ro : Option Nat
structure Fr where
  s : Nat → Value
  c : Cx
instance : CoeFun Fr (fun _ => Nat → Value) := ⟨Fr.s⟩
theorem Fr.ext' {f g : Fr} (h : f.s = g.s) (k : f.c = g.c) : f = g := by cases f; cases g; cases h; cases k; rfl
def upd (f : Fr) (i : Nat) (v : Value) : Fr := ⟨fun j => bif Nat.beq j i then v else f.s j, f.c⟩
def rep (n : Nat) (f : Fr) : Act := { tmps := Array.ofFn (n := n) (fun i => f.s i.val), defers := f.c.ds }
def ev (n : Nat) (f : Fr) : Operand → Value
  | .tmp t => bif Nat.blt t n then f.s t else undef
  | .const v => v
  | .global g => .pointer (some ⟨g, 0, none⟩)
  | .func g => .func (.func g) #[] #[]

theorem rep_eval (n : Nat) (f : Fr) : (rep n f).eval = ev n f := by
  funext x
  cases x with
  | tmp t =>
    simp only [Act.eval, rep, ev]
    by_cases h : t < n
    · have : Nat.blt t n = true := by simpa [Nat.blt_eq] using h
      simp [this, h]
    · have : Nat.blt t n = false := by
        cases hb : Nat.blt t n with
        | false => rfl
        | true => exact absurd (by rw [Nat.blt_eq] at hb; exact hb) h
      simp [this, h]
  | const v => rfl
  | global g => rfl
  | func g => rfl
theorem rep_put (n : Nat) (f : Fr) (d : Nat) (v : Value) : (rep n f).put (some d) v = rep n (upd f d v) := by
  simp only [Act.put, rep]
  congr 1
  apply Array.ext
  · simp
  · intro i h1 h2
    simp only [Array.size_setIfInBounds, Array.size_ofFn] at h1
    simp only [Array.getElem_ofFn, upd]
    by_cases h : d = i
    · subst h; simp
    · have : Nat.beq i d = false := by
        cases hb : Nat.beq i d with
        | false => rfl
        | true => exact absurd (Nat.eq_of_beq_eq_true hb).symm h
      rw [Array.getElem_setIfInBounds_ne (by simpa using h1) h]
      rw [this]
      exact Array.getElem_ofFn _
def fen (r : Option Nat) : Fence := { Fence.wide with round := r }
def lift (n : Nat) (ro : Option Nat) (Q : Exit → Fr → World → Prop) : Exit → Act → World → Prop := fun e a w => e ≠ .outgrown ∧ ∃ f, a = rep n f ∧ f.c.ro = ro ∧ Q e f w
theorem lift_out {n : Nat} {ro : Option Nat} {Q : Exit → Fr → World → Prop} : ¬ LetsOut (lift n ro Q) := fun ⟨_, _, h, _⟩ => h rfl
theorem lift_n {n : Nat} {ro : Option Nat} {Q : Exit → Fr → World → Prop} {f : Fr} {w : World} (hr : f.c.ro = ro) (h : Q .normal f w) : lift n ro Q .normal (rep n f) w := ⟨Exit.noConfusion, f, rfl, hr, h⟩
structure W (P : Program) (n : Nat) (c : Code) (Q : Exit → Fr → World → Prop) (f : Fr) (w : World) : Prop where
  out : ∀ m, c.wpIn (fen f.c.ro) m P (lift n f.c.ro Q) (rep n f) w
def thenD (K : Fr → World → Prop) (Q : Exit → Fr → World → Prop) : Exit → Fr → World → Prop
  | .normal, f, w => K f w
  | e, f, w => Q e f w
def blockD (id : Nat) (Q : Exit → Fr → World → Prop) : Exit → Fr → World → Prop
  | .exit id', f, w => if id' = id then Q .normal f w else Q (.exit id') f w
  | e, f, w => Q e f w
structure thenK (K : Fr → World → Prop) (Q : Exit → Fr → World → Prop) (e : Exit) (f : Fr) (w : World) : Prop where
  out : thenD K Q e f w
structure blockK (id : Nat) (Q : Exit → Fr → World → Prop) (e : Exit) (f : Fr) (w : World) : Prop where
  out : blockD id Q e f w

section
variable {P : Program} {n : Nat} {Q : Exit → Fr → World → Prop} {f : Fr} {w : World} {K : Fr → World → Prop}

theorem lift_mono {n : Nat} {ro : Option Nat} {Q' : Exit → Fr → World → Prop} (hq : ∀ e f w, f.c.ro = ro → Q e f w → Q' e f w) {e : Exit} {a : Act} {w : World} (h : lift n ro Q e a w) : lift n ro Q' e a w :=
  let ⟨he, f, ha, hr, hf⟩ := h; ⟨he, f, ha, hr, hq e f w hr hf⟩
theorem W.mono {c : Code} {Q' : Exit → Fr → World → Prop} (h : W P n c Q f w) (hq : ∀ e f w, Q e f w → Q' e f w) : W P n c Q' f w :=
  ⟨fun m => wpIn_mono (h.out m) fun _ _ _ h => lift_mono (fun e f w _ => hq e f w) h⟩
theorem w_skip (h : Q .normal f w) : W P n .skip Q f w := ⟨fun _ => wpIn_skip (lift_n rfl h)⟩
theorem w_label {l : Nat} (h : Q .normal f w) : W P n (.label l) Q f w := ⟨fun _ => wpIn_label (lift_n rfl h)⟩
theorem w_exit {i : Nat} (h : Q (.exit i) f w) : W P n (.exit i) Q f w := ⟨fun _ => wpIn_exit ⟨Exit.noConfusion, f, rfl, rfl, h⟩⟩
theorem w_ret (h : Q .ret f w) : W P n .ret Q f w := ⟨fun _ => wpIn_ret ⟨Exit.noConfusion, f, rfl, rfl, h⟩⟩
theorem w_seq {x y : Code} (h : W P n x (thenK (W P n y Q) Q) f w) : W P n (.seq x y) Q f w :=
  ⟨fun m => wpIn_seq (wpIn_mono (h.out m) fun e a w ⟨he, f', ha, hr, ⟨hf⟩⟩ => by
    subst ha
    cases e with
    | normal => have := (W.out hf) m; rw [hr] at this; exact this
    | outgrown => exact (he rfl).elim
    | _ => exact ⟨Exit.noConfusion, f', rfl, hr, hf⟩)⟩
theorem w_block {i : Nat} {c : Code} (h : W P n c (blockK i Q) f w) : W P n (.block i c) Q f w :=
  ⟨fun m => wpIn_block (wpIn_mono (h.out m) fun e a w ⟨he, f', ha, hr, ⟨hf⟩⟩ => by
    subst ha
    cases e with
    | exit j =>
      simp only [blockD] at hf
      simp only [Exit.inBlock]
      split
      · rename_i hj; rw [if_pos hj] at hf; exact lift_n hr hf
      · rename_i hj; rw [if_neg hj] at hf; exact ⟨Exit.noConfusion, f', rfl, hr, hf⟩
    | outgrown => exact (he rfl).elim
    | _ => exact ⟨Exit.noConfusion, f', rfl, hr, hf⟩)⟩
theorem w_cond {c : Operand} {x y : Code} {t : Bool} (hc : ev n f c = .bool t) (ht : t = true → W P n x Q f w) (hf : t = false → W P n y Q f w) :
    W P n (.cond c x y) Q f w := ⟨fun m => wpIn_cond_split (by rw [rep_eval]; exact hc) (fun h => (ht h).out m) (fun h => (hf h).out m)⟩
/-! loops: the slots that the body writes are listed; the frame at a round's head is the frame before the loop, with other values in those slots -/
def mem (S : List (Nat × Nat)) (i : Nat) : Bool := S.any fun p => Nat.ble p.1 i && Nat.ble i p.2
/-- The ranges of S lie inside those of T. -/
def inside (T S : List (Nat × Nat)) : Bool := T.all fun p => S.any fun q => Nat.ble q.1 p.1 && Nat.ble p.2 q.2
def mix (S : List (Nat × Nat)) (g f : Fr) : Fr := ⟨fun i => bif mem S i then g.s i else f.s i, f.c⟩
structure Agree (S : List (Nat × Nat)) (f' f : Fr) : Prop where
  at_ : ∀ i, mem S i = false → f'.s i = f.s i
  cx : f'.c = f.c
theorem Agree.mix_eq {S : List (Nat × Nat)} {f' f : Fr} (h : Agree S f' f) : f' = mix S f' f := by
  refine Fr.ext' ?_ h.cx
  funext i
  show _ = bif mem S i then f'.s i else f.s i
  cases hm : mem S i with
  | false => simp [h.at_ i hm]
  | true => rfl
theorem agree_refl (S : List (Nat × Nat)) (f : Fr) : Agree S f f := ⟨fun _ _ => rfl, rfl⟩
theorem agree_mix (S : List (Nat × Nat)) (g f : Fr) : Agree S (mix S g f) f := ⟨fun i h => by simp [mix, h], rfl⟩
theorem agree_upd {S : List (Nat × Nat)} {f' f : Fr} {d : Nat} {v : Value} (hd : mem S d = true) (h : Agree S f' f) : Agree S (upd f' d v) f := ⟨fun i hi => by
  have : Nat.beq i d = false := by
    cases hb : Nat.beq i d with
    | false => rfl
    | true => have := Nat.eq_of_beq_eq_true hb; subst this; rw [hd] at hi; cases hi
  simp [upd, this, h.at_ i hi], h.cx⟩
theorem agree_mix_of {S T : List (Nat × Nat)} {g f' f : Fr} (hs : inside T S = true) (h : Agree S f' f) : Agree S (mix T g f') f := ⟨fun i hi => by
  have : mem T i = false := by
    cases hb : mem T i with
    | false => rfl
    | true =>
      unfold mem at hb
      obtain ⟨x, hx, hx2⟩ := List.any_eq_true.1 hb
      obtain ⟨q, hq, hq2⟩ := List.any_eq_true.1 (List.all_eq_true.1 hs x hx)
      simp only [Bool.and_eq_true, Nat.ble_eq] at hx2 hq2
      have : mem S i = true := List.any_eq_true.2 ⟨q, hq, by simp only [Bool.and_eq_true, Nat.ble_eq]; omega⟩
      rw [this] at hi; cases hi
  simp [mix, this, h.at_ i hi], h.cx⟩
/-- 'α' is what a round is about; 'I x f w' is what holds at its head. -/
theorem w_loop0 {c : Code} {α : Type} (S : List (Nat × Nat)) (I : α → Fr → World → Prop) (μ : α → Nat) (x : α) (h0 : I x f w)
    (round : ∀ x g w, I x (mix S g f) w → W P n c (thenK (fun f' w' => Agree S f' f ∧ ∃ x', I x' f' w' ∧ μ x' < μ x) Q) (mix S g f) w) : W P n (.loop c) Q f w := by
  refine ⟨fun m => ?_⟩
  have key : ∀ k x g w, μ x < k → I x (mix S g f) w → Code.roundsIn (fen f.c.ro) m P c (lift n f.c.ro Q) k (rep n (mix S g f)) w := by
    intro k
    induction k with
    | zero => intro x g w hm; omega
    | succ k ih =>
      intro x g w hm hI
      refine wpIn_mono ((round x g w hI).out m) fun e a w ⟨he, f', ha, hr, ⟨hf⟩⟩ => ?_
      subst ha
      cases e with
      | normal =>
        obtain ⟨hag, x', hI', hlt⟩ := hf
        have hfe : f' = mix S f' f := hag.mix_eq
        rw [hfe] at hI' ⊢
        exact ih x' f' w (by omega) hI'
      | outgrown => exact (he rfl).elim
      | _ => exact ⟨Exit.noConfusion, f', rfl, hr, hf⟩
  have hf : f = mix S f f := (agree_refl S f).mix_eq
  have := key (μ x + 1) x f w (by omega) (by rw [← hf]; exact h0)
  rw [← hf] at this
  exact wpIn_loop_rounds _ this
/-- Slots that hold given values. -/
def Has (f : Fr) : List (Nat × Value) → Prop
  | [] => True
  | p :: l => f.s p.1 = p.2 ∧ Has f l
def sets (f : Fr) : List (Nat × Value) → Fr
  | [] => f
  | p :: l => upd (sets f l) p.1 p.2
theorem sets_cx {f : Fr} : ∀ {l : List (Nat × Value)}, (sets f l).c = f.c
  | [] => rfl
  | _ :: l => sets_cx (l := l)
theorem sets_has {f : Fr} : ∀ {l : List (Nat × Value)}, Has f l → sets f l = f
  | [], _ => rfl
  | p :: l, h => by
    refine Fr.ext' ?_ sets_cx
    funext i
    simp only [sets, upd, sets_has h.2]
    cases hb : Nat.beq i p.1 with
    | false => rfl
    | true => have := Nat.eq_of_beq_eq_true hb; subst this; simp [h.1]
/-- The loop rule: the slots in S are written in a round; those in 'ovr x' are known at a round's head. -/
theorem w_loop {c : Code} {α : Type} (S : List (Nat × Nat)) (ovr : α → List (Nat × Value)) (I : α → World → Prop) (μ : α → Nat) (x : α) (h0 : Has f (ovr x)) (hI : I x w)
    (round : ∀ x g w, I x w → W P n c (thenK (fun f' w' => Agree S f' f ∧ ∃ x', Has f' (ovr x') ∧ I x' w' ∧ μ x' < μ x) Q) (sets (mix S g f) (ovr x)) w) : W P n (.loop c) Q f w :=
  w_loop0 S (fun x f w => Has f (ovr x) ∧ I x w) μ x ⟨h0, hI⟩ fun x g w ⟨hh, hi⟩ => by
    have := round x g w hi
    rw [sets_has hh] at this
    exact this.mono fun e f w h => by
      refine ⟨?_⟩
      have h := h.out
      cases e with
      | normal => obtain ⟨h1, x', h2, h3, h4⟩ := h; exact ⟨h1, x', ⟨h2, h3⟩, h4⟩
      | _ => exact h
end
end Go.Fw

/- Rules for the operations: what each of them comes to, over frames that are functions. -/
namespace Go.Fw
open Go.RowKit

/-- The operation gives the value v and leaves the world w'. -/
def OX (P : Program) (n : Nat) (f : Fr) (op : Op) (ty : TypeId) (w : World) (v : Value) (w' : World) : Prop :=
  ∀ d pos aft g, (execOp (ev n f) ⟨d, op, ty, pos, aft, g⟩).run P w = .ok (.value v) w'
/-- The operation gives nothing and leaves the world w'. -/
def OS (P : Program) (n : Nat) (f : Fr) (op : Op) (ty : TypeId) (w : World) (w' : World) : Prop :=
  ∀ d pos aft g, (execOp (ev n f) ⟨d, op, ty, pos, aft, g⟩).run P w = .ok .skip w'

structure WL (P : Program) (n : Nat) (ops : Array Oper) (Q : Exit → Fr → World → Prop) (l : List Oper) (f : Fr) (w : World) : Prop where
  out : wpList P ops (lift n f.c.ro Q) l (rep n f) w

/-- The slot of operation j. -/
def dstAt : List Oper → Nat → Option Nat
  | [], _ => none
  | o :: _, 0 => o.dst
  | _ :: l, j + 1 => dstAt l j
theorem dstAt_eq : ∀ (l : List Oper) (j : Nat), (l[j]?).bind (·.dst) = dstAt l j
  | [], j => by simp [dstAt]
  | o :: l, 0 => rfl
  | o :: l, j + 1 => by rw [List.getElem?_cons_succ, dstAt_eq l j, dstAt]
/-- What the guard's operation has left. -/
def yld (n : Nat) (ops : Array Oper) (f : Fr) (j : Nat) : Value :=
  match dstAt ops.toList j with
  | some d => bif Nat.blt d n then f.s d else undef
  | none => undef

structure HasBody (P : Program) (g : FuncId) : Prop where
  body : ∃ fn, P.funcs[g]? = some fn ∧ fn.body.isNone = false ∧ (fn.name == "runtime.NumGoroutine") = false

/-- The call returns, and R holds of what it returns and of the world it leaves. -/
def Ret (P : Program) (g : FuncId) (args : Array Value) (w : World) (R : Value → World → Prop) : Prop :=
  HasBody P g ∧ Calls P g args w fun e w' => ∃ v, e = .returned v ∧ R v w'
theorem Ret.mono {P : Program} {g : FuncId} {args : Array Value} {w : World} {R R' : Value → World → Prop} (h : Ret P g args w R) (hr : ∀ v w', R v w' → R' v w') : Ret P g args w R' :=
  ⟨h.1, h.2.mono fun _ _ ⟨v, he, hv⟩ => ⟨v, he, hr v _ hv⟩⟩

def init (args : List Value) : Fr := ⟨fun i => args.getD i undef, ⟨[], none⟩⟩
/-- The marks are taken: their blocks are shut. -/
inductive Shut : List Deferred → World → World → Prop where
  | nil {w : World} : Shut [] w w
  | mark {D : Nat} {w : World} (h : w.heap[D]? = some (.deferred (some []))) : Shut [⟨.collected D, #[]⟩] w (w.putObj D (.deferred none))
def retD (P : Program) (n : Nat) (fn : Func) (R : Value → World → Prop) : Exit → Fr → World → Prop
  | .normal, f, w | .ret, f, w => ∃ w', Shut f.c.ds w w' ∧ ∃ v, (results fn (rep n f).tmps).run P w' = .ok v w' ∧ R v w'
  | _, _, _ => False
structure retK (P : Program) (n : Nat) (fn : Func) (R : Value → World → Prop) (e : Exit) (f : Fr) (w : World) : Prop where
  out : retD P n fn R e f w

section
variable {P : Program} {n : Nat} {Q : Exit → Fr → World → Prop} {f : Fr} {w w' : World} {ops : Array Oper} {rest : List Oper} {d : Nat} {op : Op} {ty : TypeId} {pos : String} {aft : Array Edge} {v : Value}

/-- No operation is a defer statement. -/
def noDef (l : List Oper) : Bool := l.all fun o => match o.op with | .defer _ => false | _ => true
theorem noDef_spec {l : List Oper} (h : noDef l = true) {o : Oper} (ho : o ∈ l) : ∀ c, o.op ≠ .defer c := fun c e => by
  have := List.all_eq_true.1 h o ho
  rw [e] at this; cases this
theorem callsIn_fen {r : Option Nat} {m : Nat} {g : FuncId} {args : Array Value} {w : World} {R : Ending → World → Prop} (h : Calls P g args w R) : CallsIn (fen r) m P g args w R := by
  have h1 : CallsIn Fence.wide m P g args w R := callsIn_wide.2 h
  cases r with
  | none => exact h1
  | some l => exact h1.inRound l
theorem op_in {o : Oper} {a : Act} {K K' : Act → World → Prop} {Q : Exit → Act → World → Prop} (hd : ∀ c, o.op ≠ .defer c) (r : Option Nat) (m : Nat) (hk : ∀ a w, K a w → K' a w) (h : o.wp P a w K Q) : o.wpIn (fen r) m P a w K' Q := by
  refine ⟨fun _ _ => trivial, ?_⟩
  rw [show (fen r).round = r from rfl, Oper.semAt_eq _ _ _ hd]
  unfold Oper.wp at h
  generalize (execOp a.eval o).run P w = q at *
  cases q with
  | ok x w' =>
    cases x <;> simp only [Oper.upon] at h <;> simp only [Oper.uponIn]
    case value => exact hk _ _ h
    case skip => exact hk _ _ h
    case defer => exact hk _ _ h
    case enter f args => exact ⟨fun e => by simp [fen, Fence.wide] at e, (callsIn_fen h).mono fun e w'' he => by cases e <;> first | exact hk _ _ he | exact he⟩
    case row row args => exact ⟨fun e => by simp [fen, Fence.wide] at e, fun c cs _ => let ⟨v, w', hv, hs⟩ := h c cs; ⟨v, w', hk _ _ hv, stepsIn_wide.2 hs⟩⟩
  | halt x w' => cases x <;> simp only [Oper.upon] at h <;> simp only [Oper.uponIn] <;> exact h
theorem any_in {Q : Exit → Act → World → Prop} (hQ : ¬ LetsOut Q) (hd : noDef ops.toList = true) (r : Option Nat) (m : Nat) : ∀ (k : Nat) (L : Array Bool) (a : Act) (w : World), wpAny P .any ops Q k L a w → wpAnyIn (fen r) m P .any ops Q k L a w
  | 0, _, _, _, h => h
  | k + 1, L, a, w, h => ⟨h.1, fun i hi => by
    have h2 := h.2 i hi
    unfold wpOp at h2
    unfold wpOpIn
    cases ho : ops[i]? with
    | none => rw [ho] at h2; exact any_in hQ hd r m k _ a w h2
    | some o =>
      rw [ho] at h2
      simp only at h2 ⊢
      have ho' : o ∈ ops.toList := by
        obtain ⟨hlt, rfl⟩ := Array.getElem?_eq_some_iff.1 ho
        simp
      split
      · rename_i hw
        rw [if_pos hw] at h2
        rcases h2 with h2 | ⟨_, h2⟩
        · exact op_in (noDef_spec hd ho') r m (fun a w h => any_in hQ hd r m k _ a w h) h2
        · exact (hQ h2).elim
      · rename_i hw
        rw [if_neg hw] at h2
        exact ⟨fun _ _ => trivial, any_in hQ hd r m k _ _ w h2⟩⟩
theorem w_any {id : Nat} {l : List Oper} (hm : P.follows .mixedOrders = true) (hd : noDef l = true) (h : wpAny P .any l.toArray (lift n f.c.ro Q) l.toArray.size (Array.replicate l.toArray.size false) (rep n f) { w with drawn := w.drawn + 1 }) : W P n (.region id l.toArray true) Q f w :=
  ⟨fun m => wpIn_region_any hm (any_in lift_out (by simpa using hd) _ m _ _ _ _ h)⟩
theorem wl_nil (h : Q .normal f w) : WL P n ops Q [] f w := ⟨lift_n rfl h⟩
theorem wl_val (h : OX P n f op ty w v w') (k : WL P n ops Q rest (upd f d v) w') : WL P n ops Q (⟨some d, op, ty, pos, aft, none⟩ :: rest) f w :=
  WL.mk <| wpList_plain rfl fun K hK => by
    unfold Oper.wp
    rw [rep_eval, h]
    simp only [Oper.upon]
    rw [rep_put]
    exact hK _ _ k.out
theorem wl_val0 (h : OX P n f op ty w v w') (k : WL P n ops Q rest f w') : WL P n ops Q (⟨none, op, ty, pos, aft, none⟩ :: rest) f w :=
  WL.mk <| wpList_plain rfl fun K hK => by
    unfold Oper.wp
    rw [rep_eval, h]
    simp only [Oper.upon]
    exact hK _ _ k.out
theorem wl_skip (h : OS P n f op ty w w') (k : WL P n ops Q rest f w') : WL P n ops Q (⟨none, op, ty, pos, aft, none⟩ :: rest) f w :=
  WL.mk <| wpList_plain rfl fun K hK => by
    unfold Oper.wp
    rw [rep_eval, h]
    simp only [Oper.upon]
    exact hK _ _ k.out

theorem yielded_rep (j : Nat) : yielded ops (rep n f).tmps j = match yld n ops f j with | .bool b => some b | _ => none := by
  unfold yielded yld
  rw [← dstAt_eq, ← Array.getElem?_toList]
  cases hd : (ops.toList[j]?).bind (·.dst) with
  | none => rfl
  | some d =>
    simp only [Option.bind_some]
    by_cases h : d < n
    · have hb : Nat.blt d n = true := by rw [Nat.blt_eq]; exact h
      have : (rep n f).tmps[d]? = some (f.s d) := by simp [rep, h]
      rw [this, hb]
      simp only [cond_true]
      cases f.s d <;> rfl
    · have hb : Nat.blt d n = false := by
        cases hb : Nat.blt d n with
        | false => rfl
        | true => exact absurd (by rw [Nat.blt_eq] at hb; exact hb) h
      have : (rep n f).tmps[d]? = none := by simp [rep, h]
      rw [this, hb]
      rfl

/-! calls -/
theorem run_callFunc {g : FuncId} {args : Array Value} (h : HasBody P g) : (callFunc g args).run P w = .ok (.enter g args) w := by
  obtain ⟨fn, h1, h2, h3⟩ := h.body
  have h4 : fn.name ≠ "runtime.NumGoroutine" := fun e => by rw [e] at h3; simp at h3
  have h5 : fn.body ≠ none := fun e => by rw [e] at h2; simp at h2
  simp [callFunc, program, Sem.run, h1, h4, h5]
theorem wl_call {callee : Operand} {xs : List Operand} {at_ : Array TypeId} {g : FuncId} {fst cap : Array Value} {vs : List Value} {R : Value → World → Prop}
    (h : Ret P g vs.toArray w R) (hc : ev n f callee = .func (.func g) fst cap) (hv : fst.toList ++ xs.map (ev n f) ++ cap.toList = vs)
    (k : ∀ v w', R v w' → WL P n ops Q rest (upd f d v) w') :
    WL P n ops Q (⟨some d, .call { callee := .value callee, args := xs.toArray, argTypes := at_ }, ty, pos, aft, none⟩ :: rest) f w :=
  WL.mk <| wpList_plain rfl fun K hK => by
    have hargs : (fst ++ (xs.toArray.map (ev n f))) ++ cap = vs.toArray := by
      apply Array.toList_inj.1; simp [← hv]
    have hrun : (execOp (ev n f) ⟨some d, .call { callee := .value callee, args := xs.toArray, argTypes := at_ }, ty, pos, aft, none⟩).run P w = .ok (.enter g vs.toArray) w := by
      simp only [execOp, resolve, hc, Deferred.ofValue, invoke, Sem.run_bind, Sem.run_pure, Result.andThen_ok, hargs]
      exact run_callFunc h.1
    unfold Oper.wp
    rw [rep_eval, hrun]
    simp only [Oper.upon]
    refine h.2.mono fun e w' ⟨v, he, hR⟩ => ?_
    subst he
    simp only [rep_put]
    exact hK _ _ (k v w' hR).out
/-! the function's entry and its return -/
theorem enter {g : FuncId} {fn : Func} {c : Code} {vs : List Value} {R : Value → World → Prop} (hf : P.funcs[g]? = some fn) (hb : fn.body = some c)
    (hnm : (fn.name == "runtime.NumGoroutine") = false) (hn : fn.ntmps = n) (hlen : Nat.ble vs.length n = true) (h : W P n c (retK P n fn R) (init vs) w) : Ret P g vs.toArray w R := by
  refine ⟨⟨fn, hf, by rw [hb]; rfl, hnm⟩, (callsIn_wide (n := 0)).1 (callsIn_of_wp_marks hf hb trivial ?_)⟩
  have hle : vs.length ≤ n := Nat.le_of_ble_eq_true hlen
  · have hrep : ({ tmps := vs.toArray ++ Array.replicate (fn.ntmps - vs.toArray.size) undef, defers := [] } : Act) = rep n (init vs) := by
      simp only [rep, hn]
      congr 1
      apply Array.ext
      · simp; omega
      · intro i h1 h2
        simp only [Array.getElem_ofFn, init]
        simp only [List.getD_eq_getElem?_getD]
        by_cases hi : i < vs.length
        · rw [Array.getElem_append_left (by simpa using hi)]; simp [hi]
        · rw [Array.getElem_append_right (by simp; omega)]
          simp [hi]
    rw [hrep]
    have key : ∀ (f' : Fr) (w' : World), (∃ w'', Shut f'.c.ds w' w'' ∧ ∃ v, (results fn (rep n f').tmps).run P w'' = .ok v w'' ∧ R v w'') → LeavesInM Fence.wide 0 P fn (rep n f').tmps (fun e w' => ∃ v, e = .returned v ∧ R v w') f'.c.ds .returning w' := by
      rintro f' w' ⟨w'', hs, v, h1, h2⟩
      generalize f'.c.ds = ds at hs
      cases hs with
      | nil => exact ⟨v, h1, v, rfl, h2⟩
      | mark hD => exact ⟨by simp, .inl ⟨_, _, rfl, run_takeDeferred hD, v, h1, v, rfl, h2⟩⟩
    refine wpIn_mono (h.out 0) fun e a w' ⟨he, f', ha, _, ⟨hq⟩⟩ => ?_
    subst ha
    cases e with
    | normal => exact key f' w' hq
    | ret => exact key f' w' hq
    | exit _ => exact hq.elim
    | goto _ => exact hq.elim
    | panic _ => exact hq.elim
    | outgrown => exact hq.elim
end
end Go.Fw

/- Rules for the operations that only compute or read. -/
namespace Go.Fw
open Go.RowKit

/-- t is a type of slices: of elements of type e, of sz cells and by_ bytes. -/
class TSl (P : Program) (t : TypeId) (e : outParam TypeId) (sz by_ : outParam Nat) : Prop where
  und : P.underlying t = some (.slice e)
  inf : (P.info? e).map (fun i => (i.size, i.bytes)) = some (sz, by_)
/-- A variable of the type t is one cell. -/
class TOne (P : Program) (t : TypeId) (z : outParam Value) : Prop where
  agg : ∀ w, (isAgg t).run P w = .ok false w
  siz : ∀ w, (sizeOf t).run P w = .ok 1 w
  zer : ∀ w, (zeroValue t).run P w = .ok z w
  one : z.cells = #[z]
/-- t is a struct or array of sz cells. -/
class TAgg (P : Program) (t : TypeId) (sz : outParam Nat) (z : outParam (List Value)) : Prop where
  agg : ∀ w, (isAgg t).run P w = .ok true w
  siz : ∀ w, (sizeOf t).run P w = .ok sz w
  zer : ∀ w, (zeroValue t).run P w = .ok (.agg z.toArray) w
/-- Field k of the struct type s lies off cells behind its beginning. -/
class TFld (P : Program) (s : TypeId) (k : Nat) (off : outParam Nat) : Prop where
  adr : ∀ a w, (Instr.fieldAt s (.pointer (some a)) k).run P w = .ok (.pointer (some (a.add off))) w

/-- The numbers of type int. -/
def In64 (n : Int) : Prop := -9223372036854775808 ≤ n ∧ n ≤ 9223372036854775807
theorem wrap_in {n : Int} (h : In64 n) : IntKind.i64.wrap n = n := by
  obtain ⟨h1, h2⟩ := h
  rw [IntKind.wrap_i64]; omega

section
variable {P : Program} {n : Nat} {f : Fr} {w w' : World} {ty : TypeId} {v : Value} {x y c : Operand}

theorem ox_move (h : ev n f x = v) : OX P n f (.move x) ty w v w := by intro d pos aft g; simp [execOp, h]
theorem ox_assign (h : ev n f x = v) : OX P n f (.assign x) ty w v w := by intro d pos aft g; simp [execOp, h]
theorem ox_pick_t {t : Bool} (hc : ev n f c = .bool t) (ht : t = true) (h : ev n f x = v) : OX P n f (.pick c x y) ty w v w := by
  subst ht; intro d pos aft g; simp [execOp, hc, h, asBool]
theorem ox_pick_f {t : Bool} (hc : ev n f c = .bool t) (ht : t = false) (h : ev n f y = v) : OX P n f (.pick c x y) ty w v w := by
  subst ht; intro d pos aft g; simp [execOp, hc, h, asBool]
section ints
variable {a b : Int} {k : IntKind} {t1 t2 : TypeId}
theorem ox_add (hx : ev n f x = .int k a) (hy : ev n f y = .int k b) : OX P n f (.binOp .add t1 x y t2) ty w (.int k (k.wrap (a + b))) w := by
  intro d pos aft g; simp [execOp, hx, hy, eqGuard, binOp, Op.intArith]
theorem ox_sub (hx : ev n f x = .int k a) (hy : ev n f y = .int k b) : OX P n f (.binOp .sub t1 x y t2) ty w (.int k (k.wrap (a - b))) w := by
  intro d pos aft g; simp [execOp, hx, hy, eqGuard, binOp, Op.intArith]
theorem ox_mul (hx : ev n f x = .int k a) (hy : ev n f y = .int k b) : OX P n f (.binOp .mul t1 x y t2) ty w (.int k (k.wrap (a * b))) w := by
  intro d pos aft g; simp [execOp, hx, hy, eqGuard, binOp, Op.intArith]
theorem ox_quo (hx : ev n f x = .int k a) (hy : ev n f y = .int k b) (hb : b ≠ 0) : OX P n f (.binOp .quo t1 x y t2) ty w (.int k (k.wrap (a.tdiv b))) w := by
  intro d pos aft g; simp [execOp, hx, hy, eqGuard, binOp, Op.intDiv, hb]
theorem ox_rem (hx : ev n f x = .int k a) (hy : ev n f y = .int k b) (hb : b ≠ 0) : OX P n f (.binOp .rem t1 x y t2) ty w (.int k (a.tmod b)) w := by
  intro d pos aft g; simp [execOp, hx, hy, eqGuard, binOp, Op.intDiv, hb]
theorem ox_add64 (hx : ev n f x = .int .i64 a) (hy : ev n f y = .int .i64 b) (h : In64 (a + b)) : OX P n f (.binOp .add t1 x y t2) ty w (.int .i64 (a + b)) w := by
  have := ox_add (P := P) (w := w) (ty := ty) (t1 := t1) (t2 := t2) hx hy
  rwa [wrap_in h] at this
theorem ox_sub64 (hx : ev n f x = .int .i64 a) (hy : ev n f y = .int .i64 b) (h : In64 (a - b)) : OX P n f (.binOp .sub t1 x y t2) ty w (.int .i64 (a - b)) w := by
  have := ox_sub (P := P) (w := w) (ty := ty) (t1 := t1) (t2 := t2) hx hy
  rwa [wrap_in h] at this
theorem ox_mul64 (hx : ev n f x = .int .i64 a) (hy : ev n f y = .int .i64 b) (h : In64 (a * b)) : OX P n f (.binOp .mul t1 x y t2) ty w (.int .i64 (a * b)) w := by
  have := ox_mul (P := P) (w := w) (ty := ty) (t1 := t1) (t2 := t2) hx hy
  rwa [wrap_in h] at this
theorem ox_lss (hx : ev n f x = .int k a) (hy : ev n f y = .int k b) : OX P n f (.binOp .lss t1 x y t2) ty w (.bool (decide (a < b))) w := by
  intro d pos aft g; simp [execOp, hx, hy, eqGuard, binOp, Op.intCmp]
theorem ox_leq (hx : ev n f x = .int k a) (hy : ev n f y = .int k b) : OX P n f (.binOp .leq t1 x y t2) ty w (.bool (decide (a ≤ b))) w := by
  intro d pos aft g; simp [execOp, hx, hy, eqGuard, binOp, Op.intCmp]
theorem ox_gtr (hx : ev n f x = .int k a) (hy : ev n f y = .int k b) : OX P n f (.binOp .gtr t1 x y t2) ty w (.bool (decide (b < a))) w := by
  intro d pos aft g; simp [execOp, hx, hy, eqGuard, binOp, Op.intCmp]
theorem ox_geq (hx : ev n f x = .int k a) (hy : ev n f y = .int k b) : OX P n f (.binOp .geq t1 x y t2) ty w (.bool (decide (b ≤ a))) w := by
  intro d pos aft g; simp [execOp, hx, hy, eqGuard, binOp, Op.intCmp]
theorem ox_eql (hx : ev n f x = .int k a) (hy : ev n f y = .int k b) : OX P n f (.binOp .eql t1 x y t2) ty w (.bool (decide (a = b))) w := by
  intro d pos aft g; simp [execOp, hx, hy, eqGuard, binOp, Op.intCmp]; rw [Bool.eq_iff_iff]; simp
theorem ox_neq (hx : ev n f x = .int k a) (hy : ev n f y = .int k b) : OX P n f (.binOp .neq t1 x y t2) ty w (.bool (decide (a ≠ b))) w := by
  intro d pos aft g; simp [execOp, hx, hy, eqGuard, binOp, Op.intCmp]; rw [Bool.eq_iff_iff]; simp
theorem ox_neg (hx : ev n f x = .int k a) : OX P n f (.unOp .neg t1 x) ty w (.int k (k.wrap (0 - a))) w := by
  intro d pos aft g; simp [execOp, hx, Op.unary, Op.intArith]
theorem ox_neg64 (hx : ev n f x = .int .i64 a) (h : In64 (-a)) : OX P n f (.unOp .neg t1 x) ty w (.int .i64 (-a)) w := by
  have := ox_neg (P := P) (w := w) (ty := ty) (t1 := t1) hx
  rw [Int.zero_sub, wrap_in h] at this; exact this
theorem ox_not {b : Bool} (hx : ev n f x = .bool b) : OX P n f (.unOp .not t1 x) ty w (.bool !b) w := by
  intro d pos aft g; simp [execOp, hx, Op.unary]
end ints
theorem ox_len {t e : TypeId} {sz by_ : Nat} {A : Option Addr} {m cp : Nat} [h : TSl P t e sz by_] (hx : ev n f x = .slice A m cp) :
    OX P n f (.call { callee := .builtin .len, args := #[x], argTypes := #[t] }) ty w (.int .i64 m) w := by
  intro d pos aft g
  simp [execOp, resolve, invoke, builtin, Builtin.len_, hx, run_underlying h.und, goInt]
theorem ox_extract {vs : List Value} {k : Nat} {t : TypeId} (hx : ev n f x = .tuple vs.toArray) (hk : vs[k]? = some v) : OX P n f (.extract x k) t w v w := by
  intro d pos aft g; simp [execOp, Instr.extract, hx, hk]
theorem ox_load {t : TypeId} {z : Value} {a : Addr} [h : TOne P t z] (hx : ev n f x = .pointer (some a)) (hc : w.cell? a = some v) : OX P n f (.load t x) ty w v w := by
  intro d pos aft g
  simp [execOp, Instr.loadAt, Instr.sureAddr, loadVar, hx, h.agg, load, Sem.run, hc]
theorem ox_index {t e : TypeId} {sz by_ : Nat} {a : Addr} {m cp : Nat} {k : IntKind} {i : Int} [h : TSl P t e sz by_] (hx : ev n f x = .slice (some a) m cp) (hy : ev n f y = .int k i)
    (h0 : 0 ≤ i) (h1 : i < m) : OX P n f (.indexAddr t x y) ty w (.pointer (some (a.add (i.toNat * sz)))) w := by
  intro d pos aft g
  obtain ⟨info, hi, hp⟩ : ∃ info, P.info? e = some info ∧ (info.size, info.bytes) = (sz, by_) := by
    have := h.inf
    cases hi : P.info? e with
    | none => rw [hi] at this; simp at this
    | some info => rw [hi] at this; exact ⟨info, rfl, by simpa using this⟩
  have hsz : info.size = sz := by injection hp
  simp [execOp, Instr.indexAt, asIntOf, hx, hy, run_underlying h.und, sizeOf, typeInfo, program, Sem.run, hi, hsz, h0, h1]
theorem ox_field {s : TypeId} {k off : Nat} {a : Addr} [h : TFld P s k off] (hx : ev n f x = .pointer (some a)) : OX P n f (.fieldAddr s x k) ty w (.pointer (some (a.add off))) w := by
  intro d pos aft g; simp [execOp, hx, h.adr]
end
end Go.Fw
namespace Go.Fw
section
variable {n : Nat} {f : Fr}
theorem rep_get {t : Nat} (ht : Nat.blt t n = true) : (rep n f).tmps.getD t undef = f t := by
  have := congrFun (rep_eval n f) (.tmp t)
  simpa [Act.eval, ev, ht] using this
end
end Go.Fw

namespace Go.Fw
def adr (A : Option Addr) : Addr := A.getD default
/-- The slice at A reads as the numbers l. -/
structure Ints (w : World) (A : Option Addr) (l : List Int) : Prop where
  get : ∀ k, k < l.length → A = some (adr A) ∧ w.cell? ((adr A).add k) = some (.int .i64 (l.getD k 0))
  rng : ∀ x ∈ l, In64 x
section
variable {P : Program} {n : Nat} {f : Fr} {w w' : World} {ty : TypeId} {v : Value} {x y c : Operand}
end
end Go.Fw

/- Regions that draw their order: one walk of the text's order serves, where the operations only read, and calls leave old memory as it was; a last part, that waits for all others, may write. -/
namespace Go.Fw
open Go.RowKit

/-- w' is w with more: what lay in w's memory lies there as it did. -/
def Ext (w w' : World) : Prop := Below w.heap.size w w'
theorem Ext.refl (w : World) : Ext w w := Below.refl _ _
theorem Ext.trans {a b c : World} (h : Ext a b) (k : Ext b c) : Ext a c := Below.trans h (k.mono h.size)
theorem Ext.cell {w w' : World} (h : Ext w w') {a : Addr} {v : Value} (hc : w.cell? a = some v) : w'.cell? a = some v := by
  rw [Below.cell h (World.block_lt_of_cell? w a hc)]; exact hc
theorem Ext.size {w w' : World} (h : Ext w w') : w.heap.size ≤ w'.heap.size := Below.size h
theorem Ext.block {w w' : World} (h : Ext w w') {k : Nat} (hk : k < w.heap.size) : w'.heap[k]? = w.heap[k]? := Below.block h k hk
theorem Ext.heap {w w' : World} (h : Ext w w') {k : Nat} {o : Obj} (hk : w.heap[k]? = some o) : w'.heap[k]? = some o := by
  rw [h.block (Array.getElem?_eq_some_iff.1 hk).1]; exact hk
theorem Ext.drew (w : World) : Ext w { w with drawn := w.drawn + 1 } := ⟨rfl, rfl, rfl, Nat.le_refl _, fun _ _ => rfl⟩
theorem Ext.alloc (w : World) (o : Obj) : Ext w (w.alloc o) := Below.alloc (Below.refl _ _) (Nat.le_refl _) o
theorem Ints.ext {w w' : World} {A : Option Addr} {l : List Int} (h : Ints w A l) (he : Ext w w') : Ints w' A l :=
  ⟨fun k hk => ⟨(h.get k hk).1, he.cell (h.get k hk).2⟩, h.rng⟩

theorem wpQuiet_mono {P : Program} {ops : Array Oper} {C : World → Prop} {Q Q' : Act → Prop} (hq : ∀ a, Q a → Q' a) : ∀ (l : List Oper) (a : Act), wpQuiet P ops C Q l a → wpQuiet P ops C Q' l a
  | [], a, h => hq a h
  | o :: rest, a, h => by
    unfold wpQuiet at *
    split
    · rename_i hw
      rw [if_pos hw] at h
      exact Oper.quiet_mono (fun a h => wpQuiet_mono hq rest a h) h
    · rename_i hw
      rw [if_neg hw] at h
      exact wpQuiet_mono hq rest _ h
/-- The text's order, every operation in every world that extends w. -/
structure WQ (P : Program) (n : Nat) (ops : Array Oper) (w : World) (K : Fr → Prop) (l : List Oper) (f : Fr) : Prop where
  out : wpQuiet P ops (Ext w) (fun a => ∃ f', a = rep n f' ∧ f'.c.ro = f.c.ro ∧ K f') l (rep n f)
section
variable {P : Program} {n : Nat} {K : Fr → Prop} {f : Fr} {w w' : World} {ops : Array Oper} {rest : List Oper} {d : Nat} {op : Op} {ty : TypeId} {pos : String} {aft : Array Edge} {v : Value} {Q : Exit → Fr → World → Prop}

theorem w_quiet {id : Nat} {l : List Oper} (hm : P.follows .mixedOrders = true) (hB : (Region.lexB .any l.toArray && noDef l) = true)
    (h : WQ P n l.toArray w (fun f' => ∀ w', Ext w w' → Q .normal f' w') l f) : W P n (.region id l.toArray true) Q f w := by
  rw [Bool.and_eq_true] at hB
  have hB1 := hB.1
  simp only [Region.lexB, Bool.and_eq_true] at hB1
  refine w_any hm hB.2 (wpAny_of_quiet (C := Ext w) (Q := fun a => ∃ f', a = rep n f' ∧ f'.c.ro = f.c.ro ∧ ∀ w', Ext w w' → Q .normal f' w') (fun a w' hw' ⟨f', ha, hr, hk⟩ => ⟨Exit.noConfusion, f', ha, hr, hk w' hw'⟩) _ _ _ _ (Ext.drew w) ?_)
  have := wpAnyQ_lex (C := Ext w) (md := .any) hB1.1 l 0 (Array.replicate l.toArray.size false) (rep n f) (by simp) (by simpa using hB1.2) h.out
  simpa using this
theorem wq_nil (h : K f) : WQ P n ops w K [] f := ⟨⟨f, rfl, rfl, h⟩⟩
theorem wq_val (h : ∀ w', Ext w w' → OX P n f op ty w' v w') (k : WQ P n ops w K rest (upd f d v)) : WQ P n ops w K (⟨some d, op, ty, pos, aft, none⟩ :: rest) f := by
  refine ⟨wpQuiet_step fun K' hK => ?_⟩
  rw [if_pos (by simp [Region.wanted])]
  refine ⟨v, fun w' hw' => ?_, by rw [rep_put]; exact hK _ k.out⟩
  unfold Oper.quietAt
  rw [rep_eval, h w' hw']
  exact ⟨rfl, rfl⟩
theorem wq_call {callee : Operand} {xs : List Operand} {at_ : Array TypeId} {g : FuncId} {fst cap : Array Value} {vs : List Value}
    (h : ∀ w', Ext w w' → Ret P g vs.toArray w' fun u w'' => u = v ∧ Ext w' w'') (hc : ev n f callee = .func (.func g) fst cap) (hv : fst.toList ++ xs.map (ev n f) ++ cap.toList = vs)
    (k : WQ P n ops w K rest (upd f d v)) :
    WQ P n ops w K (⟨some d, .call { callee := .value callee, args := xs.toArray, argTypes := at_ }, ty, pos, aft, none⟩ :: rest) f := by
  refine ⟨wpQuiet_step fun K' hK => ?_⟩
  rw [if_pos (by simp [Region.wanted])]
  refine ⟨v, fun w' hw' => ?_, by rw [rep_put]; exact hK _ k.out⟩
  have hargs : (fst ++ (xs.toArray.map (ev n f))) ++ cap = vs.toArray := by
    apply Array.toList_inj.1; simp [← hv]
  have hrun : (execOp (ev n f) ⟨some d, .call { callee := .value callee, args := xs.toArray, argTypes := at_ }, ty, pos, aft, none⟩).run P w' = .ok (.enter g vs.toArray) w' := by
    simp only [execOp, resolve, hc, Deferred.ofValue, invoke, Sem.run_bind, Sem.run_pure, Result.andThen_ok, hargs]
    exact run_callFunc (h w' hw').1
  unfold Oper.quietAt
  rw [rep_eval, hrun]
  exact ⟨rfl, (h w' hw').2.mono fun e w'' ⟨u, he, hu, hx⟩ => ⟨by rw [he, hu], hw'.trans hx⟩⟩
section guards
variable {od : Option Nat} {j : Nat} {want b : Bool}
theorem wanted_yes (hy : yld n ops f j = .bool b) (hb : b = want) : Region.wanted ⟨od, op, ty, pos, aft, some (j, want)⟩ (yielded ops (rep n f).tmps) = true := by
  simp only [Region.wanted, yielded_rep, hy, hb]; simp
theorem wanted_no (hy : yld n ops f j = .bool b) (hb : b = !want) : Region.wanted ⟨od, op, ty, pos, aft, some (j, want)⟩ (yielded ops (rep n f).tmps) = false := by
  simp only [Region.wanted, yielded_rep, hy, hb]; cases want <;> simp
theorem wanted_undef (hy : yld n ops f j = undef) : Region.wanted ⟨od, op, ty, pos, aft, some (j, want)⟩ (yielded ops (rep n f).tmps) = false := by
  simp only [Region.wanted, yielded_rep, hy]; rfl
theorem wanted_free : Region.wanted ⟨od, op, ty, pos, aft, none⟩ (yielded ops (rep n f).tmps) = true := by simp [Region.wanted]
theorem wq_run (hy : yld n ops f j = .bool b) (hb : b = want) (h : WQ P n ops w K (⟨od, op, ty, pos, aft, none⟩ :: rest) f) : WQ P n ops w K (⟨od, op, ty, pos, aft, some (j, want)⟩ :: rest) f := by
  constructor
  have h := h.out
  unfold wpQuiet at *
  rw [if_pos wanted_free] at h
  rw [if_pos (wanted_yes hy hb)]
  exact h
theorem wq_pass (hy : yld n ops f j = .bool b) (hb : b = !want) (h : WQ P n ops w K rest (upd f d undef)) : WQ P n ops w K (⟨some d, op, ty, pos, aft, some (j, want)⟩ :: rest) f := by
  constructor
  rw [wpQuiet, if_neg (by rw [wanted_no hy hb]; simp), rep_put]
  exact h.out
theorem wq_pass_undef (hy : yld n ops f j = undef) (h : WQ P n ops w K rest (upd f d undef)) : WQ P n ops w K (⟨some d, op, ty, pos, aft, some (j, want)⟩ :: rest) f := by
  constructor
  rw [wpQuiet, if_neg (by rw [wanted_undef hy]; simp), rep_put]
  exact h.out
end guards
end
end Go.Fw

/- Rules for the operations that make memory or write to it. -/
namespace Go.Fw
open Go.RowKit

/-- w1 is w and one block more, number b, which is o. -/
structure New (w w1 : World) (b : Nat) (o : Obj) : Prop where
  ext : Ext w w1
  at_ : w1.heap[b]? = some o
  num : b = w.heap.size
  size : w1.heap.size = b + 1
theorem New.mk' (w : World) (o : Obj) : New w (w.alloc o) w.heap.size o := ⟨Ext.alloc w o, heap_alloc_new w o, rfl, by simp⟩
/-- w1 is w with block g written. -/
structure Wrt (w w1 : World) (g : Nat) : Prop where
  grown : w.grownBy w1 (some g)
  size : w1.heap.size = w.heap.size
theorem Wrt.mk' (w : World) (g : Nat) (cs : Array Value) : Wrt w (w.setRow g cs) g :=
  ⟨⟨rfl, rfl, rfl, by simp, fun k _ hk => setRow_other w g k cs (fun e => hk (by rw [e]))⟩, by simp⟩
theorem Wrt.heap {w w1 : World} {g k : Nat} {o : Obj} (h : Wrt w w1 g) (hk : w.heap[k]? = some o) (hne : k ≠ g) : w1.heap[k]? = some o := by
  rw [h.grown.block k (Array.getElem?_eq_some_iff.1 hk).1 (fun e => hne (by injection e))]; exact hk
theorem Ext.grown {w0 w w1 : World} {row : Option Nat} (h : Ext w0 w) (hw : w.grownBy w1 row) (hg : ∀ k, row = some k → w0.heap.size ≤ k) : Ext w0 w1 :=
  Below.grown h hw h.size hg
theorem Ext.grown0 {w w1 : World} (hw : w.grownBy w1 none) : Ext w w1 := (Ext.refl w).grown hw (fun k hk => by cases hk)
theorem Ext.grownBy {w w1 : World} (h : Ext w w1) (row : Option Nat) : w.grownBy w1 row := ⟨h.os, h.tape, h.output, h.size, fun k hk _ => h.block hk⟩

/-- A row of the call's own: the slice's cells are cs. -/
abbrev Own (w : World) (base : Nat) (e : TypeId) (sz : Nat) (A : Option Addr) (m cp : Nat) (cs : List Value) : Prop := w.ownsRow base e sz (.slice A m cp) m cs
def blk (A : Option Addr) : Option Nat := A.map (·.block)
theorem own_cap {w : World} {base : Nat} {e : TypeId} {sz : Nat} {A : Option Addr} {m cp : Nat} {cs : List Value} (h : Own w base e sz A m cp cs) : m ≤ cp ∧ cp ≤ maxLen := by
  rcases h.2 with ⟨hv, hm⟩ | ⟨g, cap, cur, hv, _, _, h1, h2, _⟩
  · injection hv with _ _ hc; subst hc; exact ⟨by omega, by simp [maxLen]⟩
  · injection hv with _ _ hc; subst hc; exact ⟨h1, h2⟩
theorem own_cell {w : World} {base : Nat} {e : TypeId} {sz : Nat} {A : Option Addr} {m cp : Nat} {cs : List Value} (h : Own w base e sz A m cp cs) {j : Nat} {u : Value} (hj : cs[j]? = some u) :
    A = some (adr A) ∧ w.cell? ((adr A).add j) = some u := by
  rcases h.2 with ⟨hv, hm⟩ | ⟨g, cap, cur, hv, _⟩
  · have := h.1; rw [hm] at this; simp at this; subst this; simp at hj
  · injection hv with hA _ _
    subst hA
    exact ⟨rfl, h.cells (g := g) rfl j u hj⟩
theorem own_base {w : World} {base base' : Nat} {e : TypeId} {sz : Nat} {A : Option Addr} {m cp : Nat} {cs : List Value} (h : Own w base e sz A m cp cs) (hb : base' ≤ base) : Own w base' e sz A m cp cs := by
  refine ⟨h.1, ?_⟩
  rcases h.2 with h2 | ⟨g, cap, cur, hv, hg, r⟩
  · exact .inl h2
  · exact .inr ⟨g, cap, cur, hv, Nat.le_trans hb hg, r⟩
def ints (l : List Int) : List Value := l.map (Value.int .i64)
theorem ints_get {l : List Int} {k : Nat} (hk : k < l.length) : (ints l)[k]? = some (.int .i64 (l.getD k 0)) := by simp [ints, hk]
theorem ints_len (l : List Int) : (ints l).length = l.length := by simp [ints]
/-! values put side by side -/
theorem foldl_seg (off : Nat) : ∀ (cs : List Value) (k : Nat) (a : Array Value), off + k + cs.length ≤ a.size →
    (cs.zipIdx k).foldl (fun (A : Array Value) (p : Value × Nat) => A.setIfInBounds (off + p.2) p.1) a = (a.toList.take (off + k) ++ cs ++ a.toList.drop (off + k + cs.length)).toArray
  | [], k, a, _ => by simp
  | c :: cs, k, a, h => by
    simp only [List.zipIdx_cons, List.foldl_cons]
    simp only [List.length_cons] at h
    rw [foldl_seg off cs (k + 1) _ (by simp; omega)]
    congr 1
    have := list_seg_step a.toList (off + k) c cs (by simp; omega)
    simp only [Array.toList_setIfInBounds, List.length_cons]
    rw [← Nat.add_assoc off k 1]
    exact this
theorem fill_seg (off : Nat) (cs : List Value) (a : Array Value) (h : off + cs.length ≤ a.size) :
    cs.toArray.zipIdx.foldl (fun (A : Array Value) (p : Value × Nat) => A.setIfInBounds (off + p.2) p.1) a = (a.toList.take off ++ cs ++ a.toList.drop (off + cs.length)).toArray := by
  have := foldl_seg off cs 0 a (by omega)
  rw [← Array.foldl_toList]
  simpa using this
def numbered (k : Nat) : List Value → List (Nat × Value)
  | [] => []
  | v :: vs => (k, v) :: numbered (k + 1) vs
theorem fill_all (sz : Nat) : ∀ (vs : List Value) (pre post : List Value) (k : Nat), pre.length = k * sz → post.length = vs.length * sz → (∀ v ∈ vs, v.cells.size = sz) →
    Instr.fill (fun i => some (i * sz, sz)) (pre ++ post).toArray (numbered k vs) = some (pre ++ vs.flatMap (·.cells.toList)).toArray
  | [], pre, post, k, _, hp, _ => by
    have : post = [] := List.eq_nil_of_length_eq_zero (by simpa using hp)
    subst this; simp [numbered, Instr.fill]
  | v :: vs, pre, post, k, hk, hp, hs => by
    have hv : v.cells.size = sz := hs v (by simp)
    simp only [List.length_cons, Nat.succ_mul] at hp
    have hc : ¬ ((v.cells.size ≠ sz || k * sz + v.cells.size > (pre ++ post).toArray.size) = true) := by
      simp only [hv, List.size_toArray, List.length_append, hk, hp]; simp
    have hf := fill_seg (k * sz) v.cells.toList (pre ++ post).toArray (by simp [hk, hp, hv])
    simp only [Array.toArray_toList] at hf
    simp only [numbered, Instr.fill, if_neg hc]
    rw [hf]
    have h1 : (pre ++ post).toArray.toList.take (k * sz) = pre := by simp [← hk]
    have h2 : (pre ++ post).toArray.toList.drop (k * sz + v.cells.toList.length) = post.drop sz := by
      simp [hv, ← hk, List.drop_append]
    rw [h1, h2]
    have := fill_all sz vs (pre ++ v.cells.toList) (post.drop sz) (k + 1) (by simp [hk, hv, Nat.succ_mul]) (by simp [hp]) (fun u hu => hs u (by simp [hu]))
    rw [this]
    simp

class TEl (P : Program) (e : TypeId) (sz by_ : outParam Nat) : Prop where
  inf : ∃ i z, P.info? e = some i ∧ i.size = sz ∧ i.bytes = by_ ∧ i.zero = some z ∧ z.cells.size = sz
  pos : 0 < sz

section
variable {P : Program} {n : Nat} {Q : Exit → Fr → World → Prop} {f : Fr} {w : World} {ops : Array Oper} {rest : List Oper} {d : Nat} {ty : TypeId} {pos : String} {aft : Array Edge} {v : Value} {x y : Operand}

theorem wl_alloc1 {t : TypeId} {z : Value} [h : TOne P t z] (k : ∀ w1 b, New w w1 b (.cells #[z] t (0, 0)) → WL P n ops Q rest (upd f d (.pointer (some ⟨b, 0, none⟩))) w1) :
    WL P n ops Q (⟨some d, .alloc t, ty, pos, aft, none⟩ :: rest) f w :=
  wl_val (v := .pointer (some ⟨w.heap.size, 0, none⟩)) (w' := w.alloc (.cells #[z] t (0, 0)))
    (by intro d pos aft g; simp [execOp, Instr.alloc, h.zer, newVar, newRow, newObj, Sem.run, h.one]) (k _ _ (New.mk' w _))
theorem wl_allocA {t : TypeId} {sz : Nat} {z : List Value} [h : TAgg P t sz z] (k : ∀ w1 b, New w w1 b (.cells z.toArray t (0, 0)) → WL P n ops Q rest (upd f d (.pointer (some ⟨b, 0, none⟩))) w1) :
    WL P n ops Q (⟨some d, .alloc t, ty, pos, aft, none⟩ :: rest) f w :=
  wl_val (v := .pointer (some ⟨w.heap.size, 0, none⟩)) (w' := w.alloc (.cells z.toArray t (0, 0)))
    (by intro d pos aft g; simp [execOp, Instr.alloc, h.zer, newVar, newRow, newObj, Sem.run, Value.cells]) (k _ _ (New.mk' w _))
theorem wl_box {t : TypeId} {cs : Array Value} (hx : ev n f x = v) (hv : v.cells = cs) (k : ∀ w1 b, New w w1 b (.cells cs t (0, 0)) → WL P n ops Q rest (upd f d (.pointer (some ⟨b, 0, none⟩))) w1) :
    WL P n ops Q (⟨some d, .box t x, ty, pos, aft, none⟩ :: rest) f w :=
  wl_val (v := .pointer (some ⟨w.heap.size, 0, none⟩)) (w' := w.alloc (.cells cs t (0, 0)))
    (by intro d pos aft g; simp [execOp, Instr.box, hx, newVar, newRow, newObj, Sem.run, hv]) (k _ _ (New.mk' w _))
/-- A store of cs into a block at off. -/
theorem wl_store {t te : TypeId} {g off : Nat} {a : Addr} {cur : Array Value} {cs : List Value} (hx : ev n f x = .pointer (some a)) (ha : a = ⟨g, off, none⟩) (hy : ev n f y = v) (hv : v.cells.toList = cs)
    (hsz : ∀ w, (sizeOf t).run P w = .ok cs.length w) (hone : cs.all (·.oneCell') = true) (hg : w.heap[g]? = some (.cells cur te (0, 0))) (hoff : off + cs.length ≤ cur.size)
    (k : ∀ w1, Wrt w w1 g → w1.heap[g]? = some (.cells (cur.toList.take off ++ cs ++ cur.toList.drop (off + cs.length)).toArray te (0, 0)) → WL P n ops Q rest f w1) :
    WL P n ops Q (⟨none, .store t x y, ty, pos, aft, none⟩ :: rest) f w :=
  wl_skip (w' := w.setRow g (cur.toList.take off ++ cs ++ cur.toList.drop (off + cs.length)).toArray)
    (by
      intro d pos aft gg
      have hst := run_storeCells_at P g off te cs 0 cur w hg (by omega) (fun v hv => List.all_eq_true.1 hone v hv)
      have hsz' : v.cells.size = cs.length := by rw [← hv]; simp
      simp [execOp, Instr.storeAt, Instr.sureAddr, storeVar, hx, hy, hsz, hsz', hv, ha, hst])
    (k _ (Wrt.mk' w g _) (setRow_heap w g cur _ te _ hg))
theorem wl_bslice {t e : TypeId} {sz by_ : Nat} {parts : List (Nat × Operand)} {vs : List Value} [ht : TSl P t e sz by_] [he : TEl P e sz by_] (len : Nat)
    (hp : parts.map (fun p => (p.1, ev n f p.2)) = numbered 0 vs) (hl : vs.length = len) (hs : ∀ v ∈ vs, v.cells.size = sz) (hsmall : len * sz ≤ 16777216)
    (k : ∀ w1 b, New w w1 b (.cells (vs.flatMap (·.cells.toList)).toArray e (0, 0)) → Own w1 b e sz (some ⟨b, 0, none⟩) len len (vs.flatMap (·.cells.toList)) → WL P n ops Q rest (upd f d (.slice (some ⟨b, 0, none⟩) len len)) w1) :
    WL P n ops Q (⟨some d, .buildSlice t len parts.toArray, ty, pos, aft, none⟩ :: rest) f w := by
  obtain ⟨i, z, hi, hisz, _, hz, hzs⟩ := he.inf
  have hpos := he.pos
  have hflen : (vs.flatMap (·.cells.toList)).length = len * sz := by
    subst hl
    clear hp k hsmall
    induction vs with
    | nil => simp
    | cons v vs ih => simp [Nat.succ_mul, hs v (by simp)]; have := ih (fun u hu => hs u (by simp [hu])); simp at this; omega
  refine wl_val (v := .slice (some ⟨w.heap.size, 0, none⟩) len len) (w' := w.alloc (.cells (vs.flatMap (·.cells.toList)).toArray e (0, 0))) ?_ (k _ _ (New.mk' w _) ?_)
  · intro d pos aft g
    have hfill : ∀ zs : Array Value, zs.size = len * sz → Instr.fill (fun i => some (i * sz, sz)) zs (numbered 0 vs) = some (vs.flatMap (·.cells.toList)).toArray := by
      intro zs hzs
      have := fill_all sz vs [] zs.toList 0 (by simp) (by simp [hzs, hl]) hs
      simpa using this
    have hp' : (parts.toArray.map fun (p : Nat × Operand) => (p.1, ev n f p.2)).toList = numbered 0 vs := by simpa using hp
    simp only [execOp, Instr.buildSlice, hp', run_underlying ht.und, sizeOf, typeInfo, program, Sem.run_bind, Sem.run, hi, Sem.run_pure, Result.andThen_ok, hisz]
    rw [if_neg (by omega)]
    by_cases h0 : len * sz = 0
    · rw [if_pos h0]
      have h2 := hfill ((Array.range (len * sz)).map ((#[] : Array Value)[· % (#[] : Array Value).size]!)) (by simp)
      simp only [Sem.run_bind, Sem.run_pure, Result.andThen_ok, pure, Sem.run]
      rw [h2]
      simp [newRow, newObj, Sem.run]
    · rw [if_neg h0]
      simp only [zeroValue, typeInfo, program, Sem.run_bind, Sem.run, hi, Sem.run_pure, Result.andThen_ok, hz]
      rw [hfill _ (by simp)]
      simp [newRow, newObj, Sem.run]
  · refine ⟨hflen, .inr ⟨w.heap.size, len, _, rfl, Nat.le_refl _, heap_alloc_new w _, Nat.le_refl _, ?_, by simpa using hflen, ?_⟩⟩
    · have : len ≤ len * sz := Nat.le_mul_of_pos_right _ hpos
      simp only [maxLen]; omega
    · exact List.take_of_length_le (by simp only [List.length_append, hflen]; omega)
/-- The source of an append. -/
def Src (w : World) (B : Option Addr) (news : List Value) : Prop := ∀ j u, news[j]? = some u → B = some (adr B) ∧ w.cell? ((adr B).add j) = some u
theorem src_own {base : Nat} {e : TypeId} {sz : Nat} {A : Option Addr} {m cp : Nat} {cs : List Value} (h : Own w base e sz A m cp cs) : Src w A cs := fun _ _ hj => own_cell h hj
end
end Go.Fw

/- More rules: conversions, shifts, slices of slices, make, clear, structs and arrays, results that lie in memory. -/
namespace Go.Fw
open Go.RowKit

class TInt (P : Program) (t : TypeId) (k : outParam IntKind) : Prop where
  und : P.underlying t = some (.int k)
/-- t is an array type: len elements of type e, of sz cells. -/
class TArr (P : Program) (t : TypeId) (len : outParam Nat) (e : outParam TypeId) (sz : outParam Nat) : Prop where
  und : P.underlying t = some (.array len e)
  inf : (P.info? e).map (·.size) = some sz
  big : 1 < len
/-- Field k of a struct of type s, by value: one cell, number off. -/
class TFlv (P : Program) (s : TypeId) (k : Nat) (off : outParam Nat) : Prop where
  val : ∀ cs v w, cs[off]? = some v → (Instr.field s (.agg cs) k).run P w = .ok v w
/-- t is a struct of sz fields of one cell each. -/
class TSt (P : Program) (t : TypeId) (sz : outParam Nat) (zs : outParam (List Value)) : Prop where
  und : ∃ fs, P.underlying t = some (.struct fs) ∧ ∀ w, (fs.mapM fun (f : Field) => do pure (f.offset, ← sizeOf f.type)).run P w = .ok ((List.range sz).map fun i => (i, 1)).toArray w
  zer : ∀ w, (zeroValue t).run P w = .ok (.agg zs.toArray) w
  len : zs.length = sz

def setAt : List Value → List (Nat × Value) → List Value
  | zs, [] => zs
  | zs, (i, v) :: ps => setAt (zs.set i v) ps

theorem fill_ones (sz : Nat) : ∀ (ps : List (Nat × Value)) (zs : List Value), zs.length = sz → (∀ p ∈ ps, p.1 < sz ∧ p.2.cells = #[p.2]) →
    Instr.fill (((List.range sz).map fun i => (i, 1)).toArray[·]?) zs.toArray ps = some (setAt zs ps).toArray
  | [], zs, _, _ => by simp [Instr.fill, setAt]
  | (i, v) :: ps, zs, hz, hp => by
    obtain ⟨h1, h2⟩ := hp (i, v) (by simp)
    simp only at h1 h2
    have hpl : (((List.range sz).map fun i => (i, 1)).toArray)[i]? = some (i, 1) := by simp [h1]
    simp only [Instr.fill, hpl, h2]
    rw [if_neg (by simp; omega)]
    have : (#[v].zipIdx.foldl (fun cs (x : Value × Nat) => cs.setIfInBounds (i + x.2) x.1) zs.toArray) = (zs.set i v).toArray := by simp
    rw [this]
    exact fill_ones sz ps (zs.set i v) (by simp [hz]) (fun p hp' => hp p (by simp [hp']))

section
variable {P : Program} {n : Nat} {Q : Exit → Fr → World → Prop} {f : Fr} {w : World} {ops : Array Oper} {rest : List Oper} {d : Nat} {ty : TypeId} {pos : String} {aft : Array Edge} {v : Value} {x y : Operand}

theorem ox_conv {s t : TypeId} {ks k : IntKind} {a : Int} [hs : TInt P s ks] [ht : TInt P t k] {k0 : IntKind} (hx : ev n f x = .int k0 a) : OX P n f (.convert s t x) ty w (.int k (k.wrap a)) w := by
  intro d pos aft g
  simp [execOp, convert, hx, run_underlying hs.und, run_underlying ht.und, Conv.intToInt]
theorem ox_shr {k kk : IntKind} {a b : Int} {t1 t2 : TypeId} (hx : ev n f x = .int k a) (hy : ev n f y = .int kk b) (h0 : 0 ≤ b) : OX P n f (.binOp .shr t1 x y t2) ty w (.int k (a.fdiv (2 ^ (min b.toNat k.bits)))) w := by
  intro d pos aft g
  simp [execOp, hx, hy, eqGuard, binOp, Op.shift, show ¬ b < 0 by omega]
theorem ox_eqnil {t e : TypeId} {sz by_ : Nat} {t2 : TypeId} {A : Option Addr} {m cp : Nat} [h : TSl P t e sz by_] (hx : ev n f x = .slice A m cp) (hy : ev n f y = .slice none 0 0) :
    OX P n f (.binOp .eql t x y t2) ty w (.bool A.isNone) w := by
  intro d pos aft g
  have := Lib.run_eql_slice_nil (P := P) w t e A m cp 0 0 h.und
  simp [execOp, hx, hy, eqGuard, this]
theorem ox_makeFunc2 {fn : Fn} {c0 c1 : Operand} {v0 v1 : Value} (h0 : ev n f c0 = v0) (h1 : ev n f c1 = v1) : OX P n f (.makeFunc fn #[] #[c0, c1]) ty w (.func fn #[] #[v0, v1]) w := by
  intro d pos aft g; simp [execOp, Instr.makeFunc, h0, h1]
theorem ox_makeFunc3 {fn : Fn} {c0 c1 c2 : Operand} {v0 v1 v2 : Value} (h0 : ev n f c0 = v0) (h1 : ev n f c1 = v1) (h2 : ev n f c2 = v2) : OX P n f (.makeFunc fn #[] #[c0, c1, c2]) ty w (.func fn #[] #[v0, v1, v2]) w := by
  intro d pos aft g; simp [execOp, Instr.makeFunc, h0, h1, h2]
theorem ox_build {t : TypeId} {sz : Nat} {zs : List Value} {parts : List (Nat × Operand)} {ps : List (Nat × Value)} [h : TSt P t sz zs] (hp : parts.map (fun p => (p.1, ev n f p.2)) = ps) (h1 : ∀ p ∈ ps, p.1 < sz ∧ p.2.cells = #[p.2]) :
    OX P n f (.build t parts.toArray) ty w (.agg (setAt zs ps).toArray) w := by
  intro d pos aft g
  obtain ⟨fs, hu, hm⟩ := h.und
  have hf := fill_ones sz ps zs h.len h1
  have hp' : (parts.toArray.map fun (p : Nat × Operand) => (p.1, ev n f p.2)).toList = ps := by simpa using hp
  simp only [execOp, Instr.build, h.zer, run_underlying hu, Sem.run_bind, Sem.run_pure, Result.andThen_ok, Value.cells, hm, hp']
  rw [hf]
  simp
theorem ox_loadA {t : TypeId} {sz : Nat} {z : List Value} {a : Addr} {cs : List Value} [h : TAgg P t sz z] (hx : ev n f x = .pointer (some a)) (hc : ∀ j u, cs[j]? = some u → w.cell? (a.add j) = some u) (hl : cs.length = sz) :
    OX P n f (.load t x) ty w (.agg cs.toArray) w := by
  intro d pos aft g
  have key : ∀ (k i : Nat) (acc : Array Value), i + k = cs.length → (loadCellsFrom a i k acc).run P w = .ok (acc ++ (cs.drop i).toArray) w := by
    intro k
    induction k with
    | zero => intro i acc hi; simp [loadCellsFrom, List.drop_of_length_le (by omega : cs.length ≤ i)]
    | succ k ih =>
      intro i acc hi
      have hlt : i < cs.length := by omega
      have hcell := hc i cs[i] (by simp [hlt])
      simp only [loadCellsFrom, load, Sem.run_bind, Sem.run, hcell, Result.andThen_ok]
      rw [ih (i + 1) _ (by omega)]
      congr 1
      apply Array.toList_inj.1
      rw [List.drop_eq_getElem_cons hlt]
      simp
  have := key sz 0 #[] (by omega)
  simp [execOp, Instr.loadAt, Instr.sureAddr, loadVar, hx, h.agg, h.siz, loadCells, this]
theorem ox_indexArr {t e : TypeId} {len sz : Nat} {a : Addr} {k : IntKind} {i : Int} [h : TArr P t len e sz] (hx : ev n f x = .pointer (some a)) (hy : ev n f y = .int k i) (h0 : 0 ≤ i) (h1 : i < len) :
    OX P n f (.indexAddr t x y) ty w (.pointer (some (a.add (i.toNat * sz)))) w := by
  intro d pos aft g
  obtain ⟨info, hi, hp⟩ : ∃ info, P.info? e = some info ∧ info.size = sz := by
    have := h.inf
    cases hi : P.info? e with
    | none => rw [hi] at this; simp at this
    | some info => rw [hi] at this; exact ⟨info, rfl, by simpa using this⟩
  simp [execOp, Instr.indexAt, asIntOf, Instr.sureAddr, hx, hy, run_underlying h.und, sizeOf, typeInfo, program, Sem.run, hi, hp, h0, h1]

/-- x[lo:hi] of a slice. -/
theorem slice_size {t e : TypeId} {sz by_ : Nat} [h : TSl P t e sz by_] : ∀ w, (sizeOf e).run P w = .ok sz w := by
  intro w
  have := h.inf
  cases hi : P.info? e with
  | none => rw [hi] at this; simp at this
  | some info =>
    rw [hi] at this
    simp only [Option.map_some, Option.some.injEq, Prod.mk.injEq] at this
    simp [sizeOf, typeInfo, program, Sem.run, hi, this.1]
theorem not_array {t e : TypeId} {sz by_ : Nat} (h : TSl P t e sz by_) {X : Value} {lo hi mx : Option Value} : (Instr.sliceAt t X lo hi mx).run P w = (Instr.slice t X lo hi mx).run P w := by
  simp [Instr.sliceAt, run_underlying h.und]
theorem ox_slice_hi {t e : TypeId} {sz by_ : Nat} {A : Option Addr} {m cp : Nat} {k : IntKind} {hi : Int} [h : TSl P t e sz by_] (hx : ev n f x = .slice A m cp) (hy : ev n f y = .int k hi) (h0 : 0 ≤ hi) (h1 : hi ≤ cp) :
    OX P n f (.slice t x none (some y) none) ty w (.slice A hi.toNat cp) w := by
  intro d pos aft g
  have hsz := slice_size (P := P) (t := t) (e := e)
  have hA : (if cp = 0 then A else Option.map (fun a => a.add 0) A) = A := by
    split
    · rfl
    · cases A <;> simp [Addr.add]
  simp [execOp, not_array h, Instr.slice, hx, hy, run_underlying h.und, Instr.sliceBounds, Instr.sliceBound, asIntOf, h0, h1, hsz, hA]
theorem ox_slice_lo {t e : TypeId} {sz by_ : Nat} {A : Option Addr} {m cp : Nat} {k : IntKind} {lo : Int} [h : TSl P t e sz by_] (hx : ev n f x = .slice A m cp) (hy : ev n f y = .int k lo) (h0 : 0 ≤ lo) (h1 : lo ≤ m) :
    OX P n f (.slice t x (some y) none none) ty w (.slice (if cp = lo.toNat then A else A.map (·.add (lo.toNat * sz))) (m - lo.toNat) (cp - lo.toNat)) w := by
  intro d pos aft g
  have hsz := slice_size (P := P) (t := t) (e := e)
  simp [execOp, not_array h, Instr.slice, hx, hy, run_underlying h.und, Instr.sliceBounds, Instr.sliceBound, asIntOf, h0, h1, hsz]
theorem ox_slice_arr {t e : TypeId} {len sz : Nat} {a : Addr} {k : IntKind} {hi : Int} [h : TArr P t len e sz] (hx : ev n f x = .pointer (some a)) (hy : ev n f y = .int k hi) (h0 : 0 ≤ hi) (h1 : hi ≤ len) :
    OX P n f (.slice t x none (some y) none) ty w (.slice (some a) hi.toNat len) w := by
  intro d pos aft g
  have hb := h.big
  obtain ⟨info, hi', hp⟩ : ∃ info, P.info? e = some info ∧ info.size = sz := by
    have := h.inf
    cases hi : P.info? e with
    | none => rw [hi] at this; simp at this
    | some info => rw [hi] at this; exact ⟨info, rfl, by simpa using this⟩
  simp [execOp, Instr.sliceAt, Instr.sureAddr, hx, hy, run_underlying h.und, Instr.sliceBounds, Instr.sliceBound, asIntOf, h0, h1, sizeOf, typeInfo, program, Sem.run, hi', hp, show len ≠ 0 by omega, Addr.add]

end
end Go.Fw
namespace Go.Fw
theorem cellB {w : World} {b off : Nat} {cs : Array Value} {t : TypeId} {fr : Nat × Nat} {v : Value} (h : w.heap[b]? = some (.cells cs t fr)) (hv : cs[off]? = some v) : w.cell? ⟨b, off, none⟩ = some v := by
  simp [World.cell?, h, hv]
/-- Facts on memory that go over to a world that extends this one. -/
class Stays (p : World → Prop) : Prop where
  ext : ∀ {w w'}, p w → Ext w w' → p w'
instance (A : Option Addr) (l : List Int) : Stays (fun w => Ints w A l) := ⟨fun h he => h.ext he⟩
end Go.Fw
namespace Go.Fw
open Go.RowKit
section
variable {P : Program} {n : Nat} {f : Fr} {w w' : World} {ty : TypeId} {v : Value} {x y c : Operand}
theorem ox_conv64 {s t : TypeId} {ks k0 : IntKind} {a : Int} [hs : TInt P s ks] [ht : TInt P t .i64] (hx : ev n f x = .int k0 a) (h : In64 a) : OX P n f (.convert s t x) ty w (.int .i64 a) w := by
  have := ox_conv (P := P) (w := w) (ty := ty) (s := s) (t := t) hx
  rwa [wrap_in h] at this
theorem ox_convU64 {s t : TypeId} {ks k0 : IntKind} {a : Int} [hs : TInt P s ks] [ht : TInt P t .u64] (hx : ev n f x = .int k0 a) (h0 : 0 ≤ a) (h1 : a ≤ 9223372036854775807) : OX P n f (.convert s t x) ty w (.int .u64 a) w := by
  have := ox_conv (P := P) (w := w) (ty := ty) (s := s) (t := t) hx
  have hw : IntKind.u64.wrap a = a := by rw [IntKind.wrap_u64]; omega
  rwa [hw] at this
theorem ox_shr1 {kk : IntKind} {a : Int} {t1 t2 : TypeId} (hx : ev n f x = .int .u64 a) (hy : ev n f y = .int kk 1) : OX P n f (.binOp .shr t1 x y t2) ty w (.int .u64 (a / 2)) w := by
  have := ox_shr (P := P) (w := w) (ty := ty) (t1 := t1) (t2 := t2) hx hy (by omega)
  have e : a.fdiv (2 ^ (min (1 : Int).toNat IntKind.u64.bits)) = a / 2 := by
    have : min (1 : Int).toNat IntKind.u64.bits = 1 := by decide
    rw [this]
    exact Int.fdiv_eq_ediv_of_nonneg _ (by decide)
  rwa [e] at this
theorem ox_remN {a b : Int} {k : IntKind} {t1 t2 : TypeId} (hx : ev n f x = .int k a) (hy : ev n f y = .int k b) (h0 : 0 ≤ a) (hb : 0 < b) : OX P n f (.binOp .rem t1 x y t2) ty w (.int k (a % b)) w := by
  have := ox_rem (P := P) (w := w) (ty := ty) (t1 := t1) (t2 := t2) hx hy (by omega)
  rwa [Int.tmod_eq_emod_of_nonneg h0] at this
end
end Go.Fw

/- Rows of the call's own, written in place; rows of several cells; blocks of integers. -/
namespace Go.Fw
open Go.RowKit
theorem add_add (a : Addr) (m n : Nat) : (a.add m).add n = a.add (m + n) := by
  unfold Addr.add
  by_cases hm : m = 0
  · subst hm; simp
  · by_cases hn : n = 0
    · subst hn; simp
    · simp [hm, hn, Nat.add_assoc]
theorem ints_set (L : List Int) (i : Nat) (v : Int) : (ints L).set i (.int .i64 v) = ints (L.set i v) := by simp [ints, List.map_set]
theorem ints_take (L : List Int) (i : Nat) : (ints L).take i = ints (L.take i) := by simp [ints, List.map_take]
theorem own_take {w : World} {base : Nat} {e : TypeId} {A : Option Addr} {m cp k : Nat} {cs : List Value} (h : Own w base e 1 A m cp cs) (hk : k ≤ m) : Own w base e 1 A k cp (cs.take k) := by
  refine ⟨by rw [List.length_take, h.1]; omega, ?_⟩
  rcases h.2 with ⟨hv, hm⟩ | ⟨g, cap, cur, hv, hg, hh, h1, h2, h3, h4⟩
  · injection hv with a b c
    exact .inl ⟨by rw [a, c]; congr 1; omega, by omega⟩
  · injection hv with a b c
    refine .inr ⟨g, cap, cur, by rw [a, c], hg, hh, by omega, h2, h3, ?_⟩
    rw [← h4, List.take_take]
    congr 1
    omega
theorem own_some {w : World} {base : Nat} {e : TypeId} {sz : Nat} {A : Option Addr} {m cp : Nat} {cs : List Value} (h : Own w base e sz A m cp cs) (hm : 0 < m) :
    ∃ g cur, A = some ⟨g, 0, none⟩ ∧ base ≤ g ∧ w.heap[g]? = some (.cells cur e (0, 0)) ∧ m ≤ cp ∧ cp ≤ maxLen ∧ cur.size = cp * sz ∧ cur.toList.take (m * sz) = cs := by
  rcases h.2 with ⟨hv, hm'⟩ | ⟨g, cap, cur, hv, hg, hh, h1, h2, h3, h4⟩
  · omega
  · injection hv with a b c
    subst c
    exact ⟨g, cur, a, hg, hh, h1, h2, h3, h4⟩
section
variable {P : Program} {n : Nat} {Q : Exit → Fr → World → Prop} {f : Fr} {w : World} {ops : Array Oper} {rest : List Oper} {d : Nat} {ty : TypeId} {pos : String} {aft : Array Edge} {v : Value} {x y : Operand}

/-- clear(x[k:]) of a row of integers of the call's own -/
theorem wl_clear {t e : TypeId} {by_ : Nat} {base : Nat} {A A' : Option Addr} {m m' cp cp' k : Nat} {L : List Int} [ht : TSl P t e 1 by_] [he : TOne P e (.int .i64 0)] (ho : Own w base e 1 A m cp (ints L))
    (hx : ev n f x = .slice A' m' cp') (hA : A' = (if cp = k then A else A.map (·.add (k * 1)))) (hm' : m' = m - k) (hk : k ≤ m)
    (kk : ∀ w1, Own w1 base e 1 A k cp (ints (L.take k)) → w.grownBy w1 (blk A) → w1.heap.size = w.heap.size → WL P n ops Q rest f w1) :
    WL P n ops Q (⟨none, .call { callee := .builtin .clear, args := #[x], argTypes := #[t] }, ty, pos, aft, none⟩ :: rest) f w := by
  by_cases h0 : m - k = 0
  · have hmk : m = k := by omega
    subst hmk
    refine wl_val0 (v := .tuple #[]) (w' := w) ?_ (kk w ?_ ⟨rfl, rfl, rfl, Nat.le_refl _, fun _ _ _ => rfl⟩ rfl)
    · intro d pos aft g
      subst hm'
      rw [Nat.sub_self] at hx
      cases A' <;> simp [execOp, resolve, invoke, builtin, Builtin.clear_, hx, run_underlying ht.und]
    · have := own_take ho (Nat.le_refl m)
      rwa [ints_take] at this
  · obtain ⟨g, cur, rfl, hg, hh, h1, h2, h3, h4⟩ := own_some ho (by omega)
    rw [if_neg (by omega)] at hA
    subst hA hm'
    have hzl : ∀ q, (Builtin.zeroCells #[Value.int .i64 0] q).toList = List.replicate q (Value.int .i64 0) := by
      intro q
      apply List.ext_getElem?
      intro j
      simp [Builtin.zeroCells, List.getElem?_replicate]
      by_cases hj : j < q
      · simp [hj, Nat.mod_one]
      · simp [hj]
    have hst := run_storeCells_at P g k e (List.replicate (m - k) (Value.int .i64 0)) 0 cur w hh (by simp [h3]; omega) (fun v hv => by rw [List.eq_of_mem_replicate hv]; rfl)
    have hmne : ∃ q, m - k = q + 1 := ⟨m - k - 1, by omega⟩
    refine wl_val0 (v := .tuple #[]) (w' := w.setRow g (cur.toList.take k ++ List.replicate (m - k) (Value.int .i64 0) ++ cur.toList.drop (k + (List.replicate (m - k) (Value.int .i64 0)).length)).toArray) ?_ (kk _ ?_ ?_ (by simp))
    · intro d pos aft gg
      obtain ⟨q, hq⟩ := hmne
      rw [hq] at hst hx ⊢
      simp only [Nat.add_zero] at hst
      simp [execOp, resolve, invoke, builtin, Builtin.clear_, hx, run_underlying ht.und, he.zer, he.one, hzl, Addr.add_lit]
      simp at hst
      rw [hst]
      simp
    · refine ⟨by rw [ints_len, List.length_take]; have := ho.1; rw [ints_len] at this; omega, .inr ⟨g, cp, _, rfl, hg, setRow_heap w g cur _ e _ hh, by omega, h2, ?_, ?_⟩⟩
      · simp [h3]; omega
      · rw [← ints_take, ← h4, List.take_take, Nat.mul_one, Nat.mul_one, show min k m = k by omega]
        rw [List.append_assoc, List.take_append_of_le_length (by simp [h3]; omega)]
        rw [List.take_take, Nat.min_self]
    · simpa [blk] using (Wrt.mk' w g _).grown

/-! blocks of integers -/
theorem ox_indexB {t e : TypeId} {len : Nat} {b i : Nat} {k : IntKind} [h : TArr P t len e 1] (hx : ev n f x = .pointer (some ⟨b, 0, none⟩)) (hy : ev n f y = .int k i) (h1 : i < len) :
    OX P n f (.indexAddr t x y) ty w (.pointer (some ⟨b, i, none⟩)) w := by
  have := ox_indexArr (P := P) (t := t) (w := w) (ty := ty) hx hy (Int.natCast_nonneg _) (Int.ofNat_lt.2 h1)
  simpa [Addr.add_lit] using this
theorem wl_storeB {t t' : TypeId} {z : Value} {b i : Nat} {L : List Int} {u : Int} [h : TOne P t z] (hb : w.heap[b]? = some (.cells (ints L).toArray t' (0, 0))) (hx : ev n f x = .pointer (some ⟨b, i, none⟩)) (hy : ev n f y = .int .i64 u) (hi : i < L.length)
    (k : ∀ w1, Wrt w w1 b → w1.heap[b]? = some (.cells (ints (L.set i u)).toArray t' (0, 0)) → WL P n ops Q rest f w1) :
    WL P n ops Q (⟨none, .store t x y, ty, pos, aft, none⟩ :: rest) f w :=
  wl_store (cs := [.int .i64 u]) hx rfl hy rfl (fun w => h.siz w) rfl hb (by simp [ints_len]; omega) fun w1 hw h1 => k w1 hw (by
    rw [h1, ← ints_set]
    congr 3
    apply List.ext_getElem?
    intro j
    have hl := ints_len L
    simp only [List.getElem?_set, List.length_cons, List.length_nil, List.getElem?_append, List.length_append, List.length_take, hl, List.getElem?_drop, List.getElem?_take]
    by_cases hji : j < i
    · simp [hji, show min i L.length = i by omega, show j < i + 1 by omega, show i ≠ j by omega]
    · by_cases hje : j = i
      · subst hje; simp [show min j L.length = j by omega, hi]
      · simp only [show min i L.length = i by omega, show ¬ j < i by omega, show ¬ j < i + (0 + 1) by omega, if_false, show ¬ i = j by omega]
        congr 1; omega)
theorem loadVar_agg {t t' : TypeId} {sz : Nat} {z : List Value} {b : Nat} {fr : Nat × Nat} {cs : List Value} [h : TAgg P t sz z] (hb : w.heap[b]? = some (.cells cs.toArray t' fr)) (hl : cs.length = sz) :
    (loadVar t ⟨b, 0, none⟩).run P w = .ok (.agg cs.toArray) w := by
  have hc : ∀ j u, cs[j]? = some u → w.cell? ((⟨b, 0, none⟩ : Addr).add j) = some u := fun j u hj => by rw [Addr.add_lit]; exact cellB hb (by simpa using hj)
  have key : ∀ (k i : Nat) (acc : Array Value), i + k = cs.length → (loadCellsFrom ⟨b, 0, none⟩ i k acc).run P w = .ok (acc ++ (cs.drop i).toArray) w := by
    intro k
    induction k with
    | zero => intro i acc hi; simp [loadCellsFrom, List.drop_of_length_le (by omega : cs.length ≤ i)]
    | succ k ih =>
      intro i acc hi
      have hlt : i < cs.length := by omega
      have hcell := hc i cs[i] (by simp [hlt])
      simp only [loadCellsFrom, load, Sem.run_bind, Sem.run, hcell, Result.andThen_ok]
      rw [ih (i + 1) _ (by omega)]
      congr 1
      apply Array.toList_inj.1
      rw [List.drop_eq_getElem_cons hlt]
      simp
  have := key sz 0 #[] (by omega)
  simp [loadVar, h.agg, h.siz, loadCells, this]
theorem ox_loadV {t t' : TypeId} {sz : Nat} {z : List Value} {b : Nat} {fr : Nat × Nat} {cs : List Value} [h : TAgg P t sz z] (hx : ev n f x = .pointer (some ⟨b, 0, none⟩)) (hb : w.heap[b]? = some (.cells cs.toArray t' fr)) (hl : cs.length = sz) :
    OX P n f (.load t x) ty w (.agg cs.toArray) w := by
  intro d pos aft g
  simp [execOp, Instr.loadAt, Instr.sureAddr, hx, loadVar_agg (P := P) (t := t) hb hl]
/-- a whole struct or array is stored -/
theorem wl_storeV {t t' : TypeId} {sz b : Nat} {z cur cs : List Value} [h : TAgg P t sz z] (hb : w.heap[b]? = some (.cells cur.toArray t' (0, 0))) (hc : cur.length = sz) (hx : ev n f x = .pointer (some ⟨b, 0, none⟩)) (hy : ev n f y = .agg cs.toArray) (hl : cs.length = sz) (hone : cs.all (·.oneCell') = true)
    (k : ∀ w1, Wrt w w1 b → w1.heap[b]? = some (.cells cs.toArray t' (0, 0)) → WL P n ops Q rest f w1) :
    WL P n ops Q (⟨none, .store t x y, ty, pos, aft, none⟩ :: rest) f w :=
  wl_store (cs := cs) (off := 0) hx rfl hy (by simp [Value.cells]) (fun w => by rw [hl]; exact h.siz w) hone hb (by simp; omega) fun w1 hw h1 => k w1 hw (by rw [h1]; simp [List.drop_of_length_le (show cur.length ≤ cs.length by omega)])
end
end Go.Fw

/- Memory of one's own, in pieces. Code is walked over a frame and a list of pieces, above a world that is kept as it was. -/
namespace Go.Fw
open Go.RowKit

/-- A part of memory. -/
abbrev Part := Nat → Option Obj
def pone (b : Nat) (o : Obj) : Part := fun k => if k = b then some o else none
def pnil : Part := fun _ => none
/-- A piece of memory: one block, these cells; a row of one's own, the slice's array, whose first cells are cs; any other. -/
inductive HP where
  | bx (b : Nat) (t : TypeId) (cs : List Value)
  | row (e : TypeId) (sz : Nat) (A : Option Addr) (m cp : Nat) (cs : List Value)
  | oth (φ : Part → Prop)
abbrev bx := HP.bx
abbrev row := HP.row
def den : HP → Part → Prop
  | .bx b t cs, p => p = pone b (.cells cs.toArray t (0, 0))
  | .row e sz A m cp cs, p => cs.length = m * sz ∧ ((A = none ∧ m = 0 ∧ cp = 0) ∨ ∃ g cur, A = some ⟨g, 0, none⟩ ∧ p = pone g (.cells cur e (0, 0)) ∧ m ≤ cp ∧ cp ≤ maxLen ∧ cur.size = cp * sz ∧ cur.toList.take (m * sz) = cs)
  | .oth φ, p => φ p
theorem pone_at (b : Nat) (o : Obj) : pone b o b = some o := by simp [pone]
theorem pone_ne {b k : Nat} {o : Obj} (h : pone b o k ≠ none) : k = b := by
  unfold pone at h; split at h
  · assumption
  · exact absurd rfl h
/-- The part lies in w, from block lo on. -/
def Inn (p : Part) (w : World) (lo : Nat) : Prop := ∀ k o, p k = some o → lo ≤ k ∧ w.heap[k]? = some o
def Dis (p q : Part) : Prop := ∀ k, p k = none ∨ q k = none
def pjoin (p q : Part) : Part := fun k => match p k with | some o => some o | none => q k
theorem pjoin_none {p q : Part} {k : Nat} : pjoin p q k = none ↔ p k = none ∧ q k = none := by
  unfold pjoin; cases p k <;> simp
theorem Inn.join {p q : Part} {w : World} {lo : Nat} (h : Inn p w lo) (h' : Inn q w lo) : Inn (pjoin p q) w lo := fun k o hk => by
  unfold pjoin at hk
  cases hp : p k with
  | some o' => rw [hp] at hk; injection hk with hk; subst hk; exact h k _ hp
  | none => rw [hp] at hk; exact h' k o hk
theorem Inn.left {p q : Part} {w : World} {lo : Nat} (h : Inn (pjoin p q) w lo) : Inn p w lo := fun k o hk => h k o (by simp [pjoin, hk])
theorem Inn.right {p q : Part} {w : World} {lo : Nat} (h : Inn (pjoin p q) w lo) (hd : Dis p q) : Inn q w lo := fun k o hk => h k o (by
  rcases hd k with h1 | h1
  · simp [pjoin, h1, hk]
  · rw [h1] at hk; cases hk)
theorem Inn.lt {p : Part} {w : World} {lo : Nat} (h : Inn p w lo) {k : Nat} (hk : p k ≠ none) : k < w.heap.size := by
  obtain ⟨o, ho⟩ := Option.ne_none_iff_exists'.1 hk
  exact (Array.getElem?_eq_some_iff.1 (h k o ho).2).1
theorem Inn.ext {p : Part} {w w' : World} {lo : Nat} (h : Inn p w lo) (he : Ext w w') : Inn p w' lo := fun k o hk => ⟨(h k o hk).1, he.heap (h k o hk).2⟩
theorem Inn.mono {p : Part} {w : World} {lo lo' : Nat} (h : Inn p w lo) (hl : lo' ≤ lo) : Inn p w lo' := fun k o hk => ⟨Nat.le_trans hl (h k o hk).1, (h k o hk).2⟩

/-- The pieces lie side by side. -/
def Sat : List HP → Part → Prop
  | [], _ => True
  | X :: H, p => ∃ p1 p2, den X p1 ∧ Sat H p2 ∧ Dis p1 p2 ∧ p = pjoin p1 p2
/-- w is w0, as it was, and the pieces H above it. -/
def Wd (w0 : World) (H : List HP) (w : World) : Prop := Ext w0 w ∧ ∃ p, Sat H p ∧ Inn p w w0.heap.size
theorem Wd.ext {w0 w : World} {H : List HP} (h : Wd w0 H w) : Ext w0 w := h.1
theorem Wd.refl (w : World) : Wd w [] w := ⟨Ext.refl w, pnil, trivial, fun _ _ h => by simp [pnil] at h⟩
theorem Wd.step {w0 w w' : World} {H : List HP} (h : Wd w0 H w) (he : Ext w w') : Wd w0 H w' :=
  let ⟨h1, p, h2, h3⟩ := h; ⟨h1.trans he, p, h2, h3.ext he⟩
/-- The first piece is opened. -/
theorem Wd.open_ {w0 w : World} {X : HP} {H : List HP} (h : Wd w0 (X :: H) w) : ∃ p q, den X p ∧ Sat H q ∧ Dis p q ∧ Inn p w w0.heap.size ∧ Inn q w w0.heap.size := by
  obtain ⟨_, p, ⟨p1, p2, h1, h2, hd, rfl⟩, hi⟩ := h
  exact ⟨p1, p2, h1, h2, hd, hi.left, hi.right hd⟩
theorem Wd.drop {w0 w : World} {X : HP} {H : List HP} (h : Wd w0 (X :: H) w) : Wd w0 H w := by
  obtain ⟨p, q, _, h2, _, _, h3⟩ := h.open_
  exact ⟨h.1, q, h2, h3⟩
theorem Wd.close {w0 w : World} {X : HP} {H : List HP} (he : Ext w0 w) {p q : Part} (h1 : den X p) (h2 : Sat H q) (hd : Dis p q) (hp : Inn p w w0.heap.size) (hq : Inn q w w0.heap.size) : Wd w0 (X :: H) w :=
  ⟨he, pjoin p q, ⟨p, q, h1, h2, hd, rfl⟩, hp.join hq⟩
/-- One piece is changed: block row alone is written, which is that piece's; what is new is new. -/
theorem Wd.change {w0 w w1 : World} {X X' : HP} {H : List HP} (h : Wd w0 (X :: H) w)
    (hx : ∀ p, den X p → Inn p w w0.heap.size → ∃ row p', w.grownBy w1 row ∧ (∀ k, row = some k → p k ≠ none) ∧ den X' p' ∧ (∀ k o, p' k = some o → w1.heap[k]? = some o ∧ (p k ≠ none ∨ w.heap.size ≤ k))) : Wd w0 (X' :: H) w1 := by
  obtain ⟨p, q, h1, h2, hd, hp, hq⟩ := h.open_
  obtain ⟨row, p', hg, hr, hx', hn⟩ := hx p h1 hp
  have he : Ext w0 w1 := h.1.grown hg fun k hk => by
    obtain ⟨o, ho⟩ := Option.ne_none_iff_exists'.1 (hr k hk)
    exact (hp k o ho).1
  refine Wd.close he hx' h2 (fun k => ?_) (fun k o hk => ⟨?_, (hn k o hk).1⟩) (fun k o hk => ⟨(hq k o hk).1, ?_⟩)
  · cases hk : p' k with
    | none => exact .inl rfl
    | some o =>
      refine .inr ?_
      rcases (hn k o hk).2 with h' | h'
      · exact (hd k).resolve_left h'
      · cases hqk : q k with
        | none => rfl
        | some o' => have := hq.lt (k := k) (by rw [hqk]; simp); omega
  · rcases (hn k o hk).2 with h' | h'
    · obtain ⟨o', ho'⟩ := Option.ne_none_iff_exists'.1 h'
      exact (hp k o' ho').1
    · exact Nat.le_trans h.1.size h'
  · have hlt := hq.lt (k := k) (by rw [hk]; simp)
    rw [hg.block k hlt (fun e => ?_)]
    · exact (hq k o hk).2
    · have := hr k e.symm
      rcases hd k with h' | h'
      · exact this h'
      · rw [h'] at hk; cases hk
/-- A piece is added. -/
theorem Wd.add {w0 w w1 : World} {X : HP} {H : List HP} (h : Wd w0 H w) {row : Option Nat} (hg : w.grownBy w1 row) (hr : row = none) {p : Part} (hx : den X p) (hp : ∀ k o, p k = some o → w1.heap[k]? = some o ∧ w.heap.size ≤ k) : Wd w0 (X :: H) w1 := by
  subst hr
  obtain ⟨h0, q, h2, hq⟩ := h
  have he := Ext.grown0 hg
  refine Wd.close (h0.trans he) hx h2 (fun k => ?_) (fun k o hk => ⟨Nat.le_trans h0.size (hp k o hk).2, (hp k o hk).1⟩) (hq.ext he)
  cases hk : p k with
  | none => exact .inl rfl
  | some o =>
    refine .inr ?_
    cases hqk : q k with
    | none => rfl
    | some o' => have := hq.lt (k := k) (by rw [hqk]; simp); have := (hp k o hk).2; omega
theorem Ext.trans_put {w0 w : World} (h : Ext w0 w) {b : Nat} (hb : w0.heap.size ≤ b) (o : Obj) : Ext w0 (w.putObj b o) :=
  ⟨show w.os = w0.os from Below.os h, show w.tape = w0.tape from Below.tape h, show w.output = w0.output from Below.output h, by rw [World.putObj_size]; exact h.size, fun k hk => by rw [World.putObj_heap_other (by omega)]; exact Below.block h k hk⟩
/-- A block that no piece holds is put in anew. -/
theorem Wd.off {w0 w : World} {H : List HP} {p : Part} {b : Nat} {o : Obj} (he : Ext w0 w) (h2 : Sat H p) (hp : Inn p w w0.heap.size) (hb : w0.heap.size ≤ b) (hn : ∀ o, p b ≠ some o) : Wd w0 H (w.putObj b o) :=
  ⟨he.trans_put hb o, p, h2, fun k o' hk => ⟨(hp k o' hk).1, by
    have : k ≠ b := fun e => by subst e; exact hn _ hk
    rw [World.putObj_heap_other this]; exact (hp k o' hk).2⟩⟩
theorem sat_append : ∀ {H1 H2 : List HP} {p q : Part}, Sat H1 p → Sat H2 q → Dis p q → ∃ r, Sat (H1 ++ H2) r ∧ ∀ k o, r k = some o → p k = some o ∨ q k = some o
  | [], H2, p, q, _, h2, _ => ⟨q, h2, fun _ _ h => .inr h⟩
  | X :: H1, H2, p, q, ⟨p1, p2, hx, hs, hd1, hp⟩, h2, hd => by
    subst hp
    have hd2 : Dis p2 q := fun k => by
      rcases hd k with h | h
      · exact .inl (pjoin_none.1 h).2
      · exact .inr h
    obtain ⟨r, hr, hk⟩ := sat_append hs h2 hd2
    refine ⟨pjoin p1 r, ⟨p1, r, hx, hr, fun k => ?_, rfl⟩, fun k o ho => ?_⟩
    · cases hrk : r k with
      | none => exact .inr rfl
      | some o =>
        refine .inl ?_
        rcases hk k o hrk with h | h
        · rcases hd1 k with h' | h'
          · exact h'
          · rw [h'] at h; cases h
        · rcases hd k with h' | h'
          · exact (pjoin_none.1 h').1
          · rw [h'] at h; cases h
    · unfold pjoin at ho ⊢
      cases h1 : p1 k with
      | some o' => rw [h1] at ho; exact .inl ho
      | none =>
        rw [h1] at ho
        rcases hk k o ho with h | h
        · exact .inl h
        · exact .inr h
theorem Wd.over {w0 w w' : World} {H H' : List HP} (h : Wd w0 H w) (h' : Wd w H' w') : Wd w0 (H' ++ H) w' := by
  obtain ⟨he, q, h2, hq⟩ := h
  obtain ⟨he', p, h1, hp⟩ := h'
  obtain ⟨r, hr, hk⟩ := sat_append (p := p) (q := q) h1 h2 (fun k => by
    cases hpk : p k with
    | none => exact .inl rfl
    | some o =>
      refine .inr ?_
      cases hqk : q k with
      | none => rfl
      | some o' => have := hq.lt (k := k) (by rw [hqk]; simp); have := (hp k o hpk).1; omega)
  refine ⟨he.trans he', r, hr, fun k o ho => ?_⟩
  rcases hk k o ho with h | h
  · exact ⟨Nat.le_trans he.size (hp k o h).1, (hp k o h).2⟩
  · exact (hq.ext he') k o h

/-! one piece of the list is brought to the front -/
inductive Split : List HP → HP → List HP → Prop where
  | head {X : HP} {R : List HP} : Split (X :: R) X R
  | tail {X Y : HP} {R R' : List HP} (h : Split R X R') : Split (Y :: R) X (Y :: R')
theorem Split.sat {H R : List HP} {X : HP} (h : Split H X R) : ∀ {p : Part}, Sat H p → Sat (X :: R) p := by
  induction h with
  | head => exact fun h => h
  | @tail X Y R R' _ ih =>
    rintro p ⟨p1, p2, hy, hs, hd, rfl⟩
    obtain ⟨q1, q2, hx, hs', hd', rfl⟩ := ih hs
    refine ⟨q1, pjoin p1 q2, hx, ⟨p1, q2, hy, hs', fun k => ?_, rfl⟩, fun k => ?_, ?_⟩
    · rcases hd k with h | h
      · exact .inl h
      · exact .inr (pjoin_none.1 h).2
    · rcases hd k with h | h
      · rcases hd' k with h' | h'
        · exact .inl h'
        · exact .inr (pjoin_none.2 ⟨h, h'⟩)
      · exact .inl (pjoin_none.1 h).1
    · funext k
      unfold pjoin
      rcases hd k with h | h
      · rw [h]
      · have h1 := (pjoin_none.1 h).1
        rw [h1]
theorem Split.wd {H R : List HP} {X : HP} {w0 w : World} (h : Split H X R) (hw : Wd w0 H w) : Wd w0 (X :: R) w :=
  let ⟨h1, p, h2, h3⟩ := hw; ⟨h1, p, h.sat h2, h3⟩
/-- What H is, G is too, with something left over, it may be. -/
structure Ent (H G : List HP) : Prop where
  out : ∀ p, Sat H p → ∃ q, Sat G q ∧ ∀ k o, q k = some o → p k = some o
theorem ent_refl (H : List HP) : Ent H H := ⟨fun p h => ⟨p, h, fun _ _ h => h⟩⟩
theorem ent_nil (H : List HP) : Ent H [] := ⟨fun _ _ => ⟨pnil, trivial, fun _ _ h => by simp [pnil] at h⟩⟩
theorem ent_imp {X Y : HP} {H : List HP} (h : ∀ p, den X p → den Y p) : Ent (X :: H) (Y :: H) := ⟨fun p hp => ⟨p, let ⟨p1, p2, hx, r⟩ := hp; ⟨p1, p2, h _ hx, r⟩, fun _ _ h => h⟩⟩
theorem Ent.trans {A B C : List HP} (h : Ent A B) (k : Ent B C) : Ent A C := ⟨fun p hp =>
  let ⟨q, hq, h1⟩ := h.out p hp
  let ⟨r, hr, h2⟩ := k.out q hq
  ⟨r, hr, fun k o ho => h1 k o (h2 k o ho)⟩⟩
theorem ent_cons {H R G : List HP} {X : HP} (h : Split H X R) (hg : Ent R G) : Ent H (X :: G) := by
  refine ⟨fun p hp => ?_⟩
  obtain ⟨p1, p2, hx, hs, hd, rfl⟩ := h.sat hp
  obtain ⟨q, hq, hk⟩ := hg.out p2 hs
  refine ⟨pjoin p1 q, ⟨p1, q, hx, hq, fun k => ?_, rfl⟩, fun k o ho => ?_⟩
  · cases hqk : q k with
    | none => exact .inr rfl
    | some o =>
      have := hk k o hqk
      rcases hd k with h' | h'
      · exact .inl h'
      · rw [h'] at this; cases this
  · unfold pjoin at ho ⊢
    cases h1 : p1 k with
    | some o' => rw [h1] at ho; exact ho
    | none => rw [h1] at ho; exact hk k o ho
theorem ent_drop {X : HP} {R G : List HP} (h : Ent R G) : Ent (X :: R) G := ⟨fun p ⟨p1, p2, _, hs, hd, hp⟩ => by
  subst hp
  obtain ⟨q, hq, hk⟩ := h.out p2 hs
  refine ⟨q, hq, fun k o ho => ?_⟩
  have := hk k o ho
  rcases hd k with h' | h'
  · simp [pjoin, h', this]
  · rw [h'] at this; cases this⟩
theorem Ent.wd {H G : List HP} (h : Ent H G) {w0 w : World} (hw : Wd w0 H w) : Wd w0 G w :=
  let ⟨h1, p, h2, h3⟩ := hw
  let ⟨q, hq, hk⟩ := h.out p h2
  ⟨h1, q, hq, fun k o ho => h3 k o (hk k o ho)⟩

/-! data that lie flat: a row of cells each -/
class Flat (α : Type) where
  sz : Nat
  enc : α → List Value
  dflt : α
  len : ∀ x, (enc x).length = sz
  one : ∀ x, ∀ v ∈ enc x, v.oneCell' = true
  pos : 0 < sz
instance : Flat Int := ⟨1, fun x => [.int .i64 x], 0, fun _ => rfl, fun x v hv => by simp at hv; subst hv; rfl, by omega⟩
instance : Flat Bool := ⟨1, fun x => [.bool x], false, fun _ => rfl, fun x v hv => by simp at hv; subst hv; rfl, by omega⟩
def encs {α : Type} [Flat α] (l : List α) : List Value := l.flatMap Flat.enc
section
variable {α : Type} [Flat α]
theorem encs_nil : encs ([] : List α) = [] := rfl
theorem encs_cons (x : α) (l : List α) : encs (x :: l) = Flat.enc x ++ encs l := rfl
theorem encs_append (l m : List α) : encs (l ++ m) = encs l ++ encs m := List.flatMap_append
theorem encs_len (l : List α) : (encs l).length = l.length * Flat.sz α := by
  induction l with
  | nil => simp [encs]
  | cons x l ih => rw [encs_cons, List.length_append, ih, Flat.len, List.length_cons, Nat.succ_mul]; omega
theorem encs_one (l : List α) : ∀ v ∈ encs l, v.oneCell' = true := by
  intro v hv
  obtain ⟨x, _, h⟩ := List.mem_flatMap.1 hv
  exact Flat.one x v h
theorem encs_get {l : List α} {k : Nat} (hk : k < l.length) {j : Nat} {u : Value} (hj : (Flat.enc (l.getD k Flat.dflt))[j]? = some u) : (encs l)[k * Flat.sz α + j]? = some u := by
  induction l generalizing k with
  | nil => simp at hk
  | cons x l ih =>
    rw [encs_cons]
    cases k with
    | zero =>
      simp only [List.getD_cons_zero] at hj
      rw [Nat.zero_mul, Nat.zero_add, List.getElem?_append_left (List.getElem?_eq_some_iff.1 hj).1]; exact hj
    | succ k =>
      simp only [List.getD_cons_succ] at hj
      rw [List.getElem?_append_right (by rw [Flat.len, Nat.succ_mul]; omega), Flat.len]
      have e : (k + 1) * Flat.sz α + j - Flat.sz α = k * Flat.sz α + j := by rw [Nat.succ_mul]; omega
      rw [e]; exact ih (by simpa using hk) hj
theorem encs_take (l : List α) (k : Nat) : (encs l).take (k * Flat.sz α) = encs (l.take k) := by
  induction l generalizing k with
  | nil => simp [encs]
  | cons x l ih =>
    cases k with
    | zero => simp [encs]
    | succ k =>
      rw [List.take_succ_cons, encs_cons, encs_cons, ← ih, List.take_append, Flat.len, Nat.succ_mul, Nat.add_sub_cancel, List.take_of_length_le (by rw [Flat.len]; omega)]
theorem encs_drop (l : List α) (k : Nat) : (encs l).drop (k * Flat.sz α) = encs (l.drop k) := by
  induction l generalizing k with
  | nil => simp [encs]
  | cons x l ih =>
    cases k with
    | zero => simp [encs]
    | succ k =>
      rw [List.drop_succ_cons, encs_cons, ← ih, List.drop_append, Flat.len, Nat.succ_mul, Nat.add_sub_cancel, List.drop_of_length_le (by rw [Flat.len]; omega), List.nil_append]
/-- Element i is put in anew: its cells are. -/
theorem encs_set {l : List α} {i : Nat} (hi : i < l.length) (x : α) : (encs l).take (i * Flat.sz α) ++ Flat.enc x ++ (encs l).drop (i * Flat.sz α + Flat.sz α) = encs (l.set i x) := by
  rw [encs_take, ← Nat.succ_mul, encs_drop, List.set_eq_take_append_cons_drop, if_pos hi, encs_append, encs_cons, List.append_assoc]
end
/-- The slice at A reads as l. -/
def Rd {α : Type} [Flat α] (w : World) (A : Option Addr) (l : List α) : Prop := Src w A (encs l)
theorem Src.ext {w w' : World} {A : Option Addr} {cs : List Value} (h : Src w A cs) (he : Ext w w') : Src w' A cs := fun j u hj => ⟨(h j u hj).1, he.cell (h j u hj).2⟩
section
variable {α : Type} [Flat α] {w w' : World} {A : Option Addr} {l : List α}
theorem Rd.ext (h : Rd w A l) (he : Ext w w') : Rd w' A l := Src.ext h he
theorem Rd.nil (w : World) (A : Option Addr) : Rd w A ([] : List α) := fun j u hj => by simp [encs] at hj
theorem Rd.none (h : Rd w none l) : l = [] := by
  cases l with
  | nil => rfl
  | cons x l =>
    have hp := Flat.pos (α := α)
    have hl := Flat.len x
    have := (h 0 ((encs (x :: l))[0]'(by rw [encs_len, List.length_cons, Nat.succ_mul]; omega)) (by simp)).1
    simp at this
theorem Rd.take (h : Rd w A l) (k : Nat) : Rd w A (l.take k) := fun j u hj => by
  rw [← encs_take] at hj
  rw [List.getElem?_take] at hj
  split at hj
  · exact h j u hj
  · cases hj
end
/-! pieces -/
def orow {α : Type} [Flat α] (e : TypeId) (A : Option Addr) (cp : Nat) (l : List α) : HP := row e (Flat.sz α) A l.length cp (encs l)
theorem row_own {e : TypeId} {sz : Nat} {A : Option Addr} {m cp : Nat} {cs : List Value} {p : Part} {w : World} {lo : Nat} (h : den (row e sz A m cp cs) p) (hi : Inn p w lo) : Own w lo e sz A m cp cs := by
  refine ⟨h.1, ?_⟩
  rcases h.2 with ⟨rfl, rfl, rfl⟩ | ⟨g, cur, rfl, rfl, h1, h2, h3, h4⟩
  · exact .inl ⟨rfl, rfl⟩
  · have := hi g _ (pone_at _ _)
    exact .inr ⟨g, cp, cur, rfl, this.1, this.2, h1, h2, h3, h4⟩
theorem own_row {e : TypeId} {sz : Nat} {A : Option Addr} {m cp : Nat} {cs : List Value} {w : World} {lo : Nat} (h : Own w lo e sz A m cp cs) :
    ∃ p, den (row e sz A m cp cs) p ∧ Inn p w lo ∧ ∀ k, p k ≠ none → blk A = some k := by
  rcases h.2 with ⟨hv, hm⟩ | ⟨g, cap, cur, hv, hg, hh, h1, h2, h3, h4⟩
  · injection hv with hA _ hc
    subst hA hc
    exact ⟨pnil, ⟨h.1, .inl ⟨rfl, hm, rfl⟩⟩, fun _ _ h => by simp [pnil] at h, fun _ h => absurd rfl h⟩
  · injection hv with hA _ hc
    subst hA hc
    refine ⟨pone g (.cells cur e (0, 0)), ⟨h.1, .inr ⟨g, cur, rfl, rfl, h1, h2, h3, h4⟩⟩, fun k o ho => ?_, fun k hk => by rw [pone_ne hk]; rfl⟩
    have := pone_ne (k := k) (by rw [ho]; simp)
    subst this
    rw [pone_at] at ho
    injection ho with ho
    subst ho
    exact ⟨hg, hh⟩
theorem row_blk {e : TypeId} {sz : Nat} {A : Option Addr} {m cp : Nat} {cs : List Value} {p : Part} (h : den (row e sz A m cp cs) p) {k : Nat} (hk : blk A = some k) : p k ≠ none := by
  rcases h.2 with ⟨rfl, _⟩ | ⟨g, cur, rfl, rfl, _⟩
  · cases hk
  · simp [blk] at hk; subst hk; rw [pone_at]; simp
section
variable {w0 w w1 : World} {H R : List HP} {e : TypeId} {sz : Nat} {A A' : Option Addr} {m cp m' cp' : Nat} {cs cs' : List Value}
theorem Wd.own (h : Wd w0 H w) (hs : Split H (row e sz A m cp cs) R) : Own w w0.heap.size e sz A m cp cs := by
  obtain ⟨p, q, hx, _, _, hp, _⟩ := (hs.wd h).open_
  exact row_own hx hp
theorem Wd.rd {α : Type} [Flat α] {l : List α} (h : Wd w0 H w) (hs : Split H (orow e A cp l) R) : Rd w A l := src_own (h.own hs)
/-- The row is written, or laid anew. -/
theorem Wd.row (h : Wd w0 H w) (hs : Split H (row e sz A m cp cs) R) (hg : w.grownBy w1 (blk A)) (ho : Own w1 w0.heap.size e sz A' m' cp' cs') (hn : ∀ k, blk A' = some k → blk A = some k ∨ w.heap.size ≤ k) :
    Wd w0 (Go.Fw.row e sz A' m' cp' cs' :: R) w1 :=
  (hs.wd h).change fun p hx hi => by
    obtain ⟨p', h1, h2, h3⟩ := own_row ho
    refine ⟨blk A, p', hg, fun k hk => row_blk hx hk, h1, fun k o hk => ⟨(h2 k o hk).2, ?_⟩⟩
    rcases hn k (h3 k (by rw [hk]; simp)) with h' | h'
    · exact .inl (row_blk hx h')
    · exact .inr h'
theorem Wd.new {b : Nat} {t : TypeId} {cs : List Value} (h : Wd w0 H w) (hn : New w w1 b (.cells cs.toArray t (0, 0))) : Wd w0 (bx b t cs :: H) w1 :=
  h.add (row := none) (hn.ext.grownBy _) rfl (X := bx b t cs) (p := pone b _) rfl fun k o hk => by
    have := pone_ne (k := k) (by rw [hk]; simp)
    subst this
    rw [pone_at] at hk
    injection hk with hk
    subst hk
    exact ⟨hn.at_, Nat.le_of_eq hn.num.symm⟩
theorem Wd.newRow (h : Wd w0 H w) (he : Ext w w1) (ho : Own w1 w.heap.size e sz A m cp cs) : Wd w0 (Go.Fw.row e sz A m cp cs :: H) w1 := by
  obtain ⟨p', h1, h2, h3⟩ := own_row ho
  exact h.add (row := none) (he.grownBy _) rfl h1 fun k o hk => ⟨(h2 k o hk).2, (h2 k o hk).1⟩
theorem Wd.box {b : Nat} {t : TypeId} (h : Wd w0 H w) (hs : Split H (bx b t cs) R) : w.heap[b]? = some (.cells cs.toArray t (0, 0)) ∧ w0.heap.size ≤ b := by
  obtain ⟨p, q, hx, _, _, hp, _⟩ := (hs.wd h).open_
  have hx : p = _ := hx
  subst hx
  exact ⟨(hp b _ (pone_at _ _)).2, (hp b _ (pone_at _ _)).1⟩
theorem Wd.cell {b off : Nat} {t : TypeId} {v : Value} (h : Wd w0 H w) (hs : Split H (bx b t cs) R) (hv : cs[off]? = some v) : w.cell? ⟨b, off, none⟩ = some v :=
  cellB (h.box hs).1 (by simpa using hv)
theorem Wd.setBox {b : Nat} {t : TypeId} (h : Wd w0 H w) (hs : Split H (bx b t cs) R) (hw : Wrt w w1 b) (hb : w1.heap[b]? = some (.cells cs'.toArray t (0, 0))) : Wd w0 (bx b t cs' :: R) w1 :=
  (hs.wd h).change fun p hx hi => by
    have hx : p = _ := hx
    subst hx
    refine ⟨some b, pone b _, hw.grown, fun k hk => ?_, rfl, fun k o hk => ?_⟩
    · injection hk with hk; subst hk; rw [pone_at]; simp
    · have := pone_ne (k := k) (by rw [hk]; simp)
      subst this
      rw [pone_at] at hk
      injection hk with hk
      subst hk
      exact ⟨hb, .inl (by rw [pone_at]; simp)⟩
end
end Go.Fw


