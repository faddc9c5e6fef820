/- A small calculus of weakest preconditions over frames that are functions: rules, one per operation, that the walks of this seat use. -/
import Derived.Tactics
import Derived.Deep.Quiet
import Derived.StillTail
import Derived.Below
import Derived.Laws.OwnMore
import Derived.Laws.MakeOwn
import Derived.Laws.Entries
import Derived.IntWalk
import Derived.LoopNIn
import Derived.OrdersIn
import Derived.RangeFuncLeaves
import Derived.RangeFuncRecord
import Derived.RangeFuncSeq
import Derived.RangeFuncCalls
import Derived.TacticsIn
import Derived.KernelRfl
set_option linter.unusedSimpArgs false
set_option linter.unusedVariables false
namespace Go.Fw
open Go.RowKit

/-- What a frame is besides its slots: the marks among its deferred calls, and the round that it runs, if it runs one. -/
structure Cx where
  ds : List Deferred
  ro : Option Nat
structure Fr where
  s : Nat → Value
  c : Cx
instance : CoeFun Fr (fun _ => Nat → Value) := ⟨Fr.s⟩
theorem Fr.ext' {f g : Fr} (h : f.s = g.s) (k : f.c = g.c) : f = g := by cases f; cases g; cases h; cases k; rfl
def upd (f : Fr) (i : Nat) (v : Value) : Fr := ⟨fun j => bif Nat.beq j i then v else f.s j, f.c⟩
def rep (n : Nat) (f : Fr) : Act := { tmps := Array.ofFn (n := n) (fun i => f.s i.val), defers := f.c.ds }
def ev (n : Nat) (f : Fr) : Operand → Value
  | .tmp t => bif Nat.blt t n then f.s t else undef
  | .const v => v
  | .global g => .pointer (some ⟨g, 0, none⟩)
  | .func g => .func (.func g) #[] #[]

theorem rep_eval (n : Nat) (f : Fr) : (rep n f).eval = ev n f := by
  funext x
  cases x with
  | tmp t =>
    simp only [Act.eval, rep, ev]
    by_cases h : t < n
    · have : Nat.blt t n = true := by simpa [Nat.blt_eq] using h
      simp [this, h]
    · have : Nat.blt t n = false := by
        cases hb : Nat.blt t n with
        | false => rfl
        | true => exact absurd (by rw [Nat.blt_eq] at hb; exact hb) h
      simp [this, h]
  | const v => rfl
  | global g => rfl
  | func g => rfl
theorem rep_put (n : Nat) (f : Fr) (d : Nat) (v : Value) : (rep n f).put (some d) v = rep n (upd f d v) := by
  simp only [Act.put, rep]
  congr 1
  apply Array.ext
  · simp
  · intro i h1 h2
    simp only [Array.size_setIfInBounds, Array.size_ofFn] at h1
    simp only [Array.getElem_ofFn, upd]
    by_cases h : d = i
    · subst h; simp
    · have : Nat.beq i d = false := by
        cases hb : Nat.beq i d with
        | false => rfl
        | true => exact absurd (Nat.eq_of_beq_eq_true hb).symm h
      rw [Array.getElem_setIfInBounds_ne (by simpa using h1) h]
      rw [this]
      exact Array.getElem_ofFn _
theorem rep_put_none (n : Nat) (f : Fr) (v : Value) : (rep n f).put none v = rep n f := rfl

def fen (r : Option Nat) : Fence := { Fence.wide with round := r }
def lift (n : Nat) (ro : Option Nat) (Q : Exit → Fr → World → Prop) : Exit → Act → World → Prop := fun e a w => e ≠ .outgrown ∧ ∃ f, a = rep n f ∧ f.c.ro = ro ∧ Q e f w
theorem lift_out {n : Nat} {ro : Option Nat} {Q : Exit → Fr → World → Prop} : ¬ LetsOut (lift n ro Q) := fun ⟨_, _, h, _⟩ => h rfl
theorem lift_n {n : Nat} {ro : Option Nat} {Q : Exit → Fr → World → Prop} {f : Fr} {w : World} (hr : f.c.ro = ro) (h : Q .normal f w) : lift n ro Q .normal (rep n f) w := ⟨Exit.noConfusion, f, rfl, hr, h⟩
structure W (P : Program) (n : Nat) (c : Code) (Q : Exit → Fr → World → Prop) (f : Fr) (w : World) : Prop where
  out : ∀ m, c.wpIn (fen f.c.ro) m P (lift n f.c.ro Q) (rep n f) w
def thenD (K : Fr → World → Prop) (Q : Exit → Fr → World → Prop) : Exit → Fr → World → Prop
  | .normal, f, w => K f w
  | e, f, w => Q e f w
def blockD (id : Nat) (Q : Exit → Fr → World → Prop) : Exit → Fr → World → Prop
  | .exit id', f, w => if id' = id then Q .normal f w else Q (.exit id') f w
  | e, f, w => Q e f w
structure thenK (K : Fr → World → Prop) (Q : Exit → Fr → World → Prop) (e : Exit) (f : Fr) (w : World) : Prop where
  out : thenD K Q e f w
structure blockK (id : Nat) (Q : Exit → Fr → World → Prop) (e : Exit) (f : Fr) (w : World) : Prop where
  out : blockD id Q e f w

section
variable {P : Program} {n : Nat} {Q : Exit → Fr → World → Prop} {f : Fr} {w : World} {K : Fr → World → Prop}

theorem k_normal (h : K f w) : thenK K Q .normal f w := ⟨h⟩
theorem k_ret (h : Q .ret f w) : thenK K Q .ret f w := ⟨h⟩
theorem k_exit {i : Nat} (h : Q (.exit i) f w) : thenK K Q (.exit i) f w := ⟨h⟩
theorem b_normal {i : Nat} (h : Q .normal f w) : blockK i Q .normal f w := ⟨h⟩
theorem b_ret {i : Nat} (h : Q .ret f w) : blockK i Q .ret f w := ⟨h⟩
theorem b_exit {i : Nat} (h : Q .normal f w) : blockK i Q (.exit i) f w := ⟨by simp [blockD, h]⟩
theorem b_exit_ne {i j : Nat} (hij : Nat.beq j i = false) (h : Q (.exit j) f w) : blockK i Q (.exit j) f w := by
  have : j ≠ i := fun e => by subst e; simp at hij
  exact ⟨by simp [blockD, this, h]⟩

theorem lift_mono {n : Nat} {ro : Option Nat} {Q' : Exit → Fr → World → Prop} (hq : ∀ e f w, f.c.ro = ro → Q e f w → Q' e f w) {e : Exit} {a : Act} {w : World} (h : lift n ro Q e a w) : lift n ro Q' e a w :=
  let ⟨he, f, ha, hr, hf⟩ := h; ⟨he, f, ha, hr, hq e f w hr hf⟩
theorem W.mono {c : Code} {Q' : Exit → Fr → World → Prop} (h : W P n c Q f w) (hq : ∀ e f w, Q e f w → Q' e f w) : W P n c Q' f w :=
  ⟨fun m => wpIn_mono (h.out m) fun _ _ _ h => lift_mono (fun e f w _ => hq e f w) h⟩
theorem w_skip (h : Q .normal f w) : W P n .skip Q f w := ⟨fun _ => wpIn_skip (lift_n rfl h)⟩
theorem w_label {l : Nat} (h : Q .normal f w) : W P n (.label l) Q f w := ⟨fun _ => wpIn_label (lift_n rfl h)⟩
theorem w_exit {i : Nat} (h : Q (.exit i) f w) : W P n (.exit i) Q f w := ⟨fun _ => wpIn_exit ⟨Exit.noConfusion, f, rfl, rfl, h⟩⟩
theorem w_ret (h : Q .ret f w) : W P n .ret Q f w := ⟨fun _ => wpIn_ret ⟨Exit.noConfusion, f, rfl, rfl, h⟩⟩
theorem w_seq {x y : Code} (h : W P n x (thenK (W P n y Q) Q) f w) : W P n (.seq x y) Q f w :=
  ⟨fun m => wpIn_seq (wpIn_mono (h.out m) fun e a w ⟨he, f', ha, hr, ⟨hf⟩⟩ => by
    subst ha
    cases e with
    | normal => have := (W.out hf) m; rw [hr] at this; exact this
    | outgrown => exact (he rfl).elim
    | _ => exact ⟨Exit.noConfusion, f', rfl, hr, hf⟩)⟩
theorem w_block {i : Nat} {c : Code} (h : W P n c (blockK i Q) f w) : W P n (.block i c) Q f w :=
  ⟨fun m => wpIn_block (wpIn_mono (h.out m) fun e a w ⟨he, f', ha, hr, ⟨hf⟩⟩ => by
    subst ha
    cases e with
    | exit j =>
      simp only [blockD] at hf
      simp only [Exit.inBlock]
      split
      · rename_i hj; rw [if_pos hj] at hf; exact lift_n hr hf
      · rename_i hj; rw [if_neg hj] at hf; exact ⟨Exit.noConfusion, f', rfl, hr, hf⟩
    | outgrown => exact (he rfl).elim
    | _ => exact ⟨Exit.noConfusion, f', rfl, hr, hf⟩)⟩
theorem w_cond {c : Operand} {x y : Code} {t : Bool} (hc : ev n f c = .bool t) (ht : t = true → W P n x Q f w) (hf : t = false → W P n y Q f w) :
    W P n (.cond c x y) Q f w := ⟨fun m => wpIn_cond_split (by rw [rep_eval]; exact hc) (fun h => (ht h).out m) (fun h => (hf h).out m)⟩
theorem w_cond_t {c : Operand} {x y : Code} {t : Bool} (hc : ev n f c = .bool t) (ht : t = true) (h : W P n x Q f w) : W P n (.cond c x y) Q f w :=
  w_cond hc (fun _ => h) (fun h => by rw [ht] at h; cases h)
theorem w_cond_f {c : Operand} {x y : Code} {t : Bool} (hc : ev n f c = .bool t) (ht : t = false) (h : W P n y Q f w) : W P n (.cond c x y) Q f w :=
  w_cond hc (fun h => by rw [ht] at h; cases h) (fun _ => h)

theorem w_cond_dec {c : Operand} {x y : Code} {p : Prop} [Decidable p] (hc : ev n f c = .bool (decide p)) (ht : p → W P n x Q f w) (hf : ¬ p → W P n y Q f w) :
    W P n (.cond c x y) Q f w := w_cond hc (fun h => ht (of_decide_eq_true h)) (fun h => hf (of_decide_eq_false h))
theorem w_cond_ndec {c : Operand} {x y : Code} {p : Prop} [Decidable p] (hc : ev n f c = .bool (!decide p)) (ht : ¬ p → W P n x Q f w) (hf : p → W P n y Q f w) :
    W P n (.cond c x y) Q f w := w_cond hc (fun h => ht (by simpa using h)) (fun h => hf (by simpa using h))

/-! loops: the slots that the body writes are listed; the frame at a round's head is the frame before the loop, with other values in those slots -/
def mem (S : List (Nat × Nat)) (i : Nat) : Bool := S.any fun p => Nat.ble p.1 i && Nat.ble i p.2
/-- The ranges of S lie inside those of T. -/
def inside (T S : List (Nat × Nat)) : Bool := T.all fun p => S.any fun q => Nat.ble q.1 p.1 && Nat.ble p.2 q.2
def mix (S : List (Nat × Nat)) (g f : Fr) : Fr := ⟨fun i => bif mem S i then g.s i else f.s i, f.c⟩
structure Agree (S : List (Nat × Nat)) (f' f : Fr) : Prop where
  at_ : ∀ i, mem S i = false → f'.s i = f.s i
  cx : f'.c = f.c
theorem Agree.mix_eq {S : List (Nat × Nat)} {f' f : Fr} (h : Agree S f' f) : f' = mix S f' f := by
  refine Fr.ext' ?_ h.cx
  funext i
  show _ = bif mem S i then f'.s i else f.s i
  cases hm : mem S i with
  | false => simp [h.at_ i hm]
  | true => rfl
theorem agree_refl (S : List (Nat × Nat)) (f : Fr) : Agree S f f := ⟨fun _ _ => rfl, rfl⟩
theorem agree_mix (S : List (Nat × Nat)) (g f : Fr) : Agree S (mix S g f) f := ⟨fun i h => by simp [mix, h], rfl⟩
theorem agree_upd {S : List (Nat × Nat)} {f' f : Fr} {d : Nat} {v : Value} (hd : mem S d = true) (h : Agree S f' f) : Agree S (upd f' d v) f := ⟨fun i hi => by
  have : Nat.beq i d = false := by
    cases hb : Nat.beq i d with
    | false => rfl
    | true => have := Nat.eq_of_beq_eq_true hb; subst this; rw [hd] at hi; cases hi
  simp [upd, this, h.at_ i hi], h.cx⟩
theorem agree_mix_of {S T : List (Nat × Nat)} {g f' f : Fr} (hs : inside T S = true) (h : Agree S f' f) : Agree S (mix T g f') f := ⟨fun i hi => by
  have : mem T i = false := by
    cases hb : mem T i with
    | false => rfl
    | true =>
      unfold mem at hb
      obtain ⟨x, hx, hx2⟩ := List.any_eq_true.1 hb
      obtain ⟨q, hq, hq2⟩ := List.any_eq_true.1 (List.all_eq_true.1 hs x hx)
      simp only [Bool.and_eq_true, Nat.ble_eq] at hx2 hq2
      have : mem S i = true := List.any_eq_true.2 ⟨q, hq, by simp only [Bool.and_eq_true, Nat.ble_eq]; omega⟩
      rw [this] at hi; cases hi
  simp [mix, this, h.at_ i hi], h.cx⟩
/-- 'α' is what a round is about; 'I x f w' is what holds at its head. -/
theorem w_loop0 {c : Code} {α : Type} (S : List (Nat × Nat)) (I : α → Fr → World → Prop) (μ : α → Nat) (x : α) (h0 : I x f w)
    (round : ∀ x g w, I x (mix S g f) w → W P n c (thenK (fun f' w' => Agree S f' f ∧ ∃ x', I x' f' w' ∧ μ x' < μ x) Q) (mix S g f) w) : W P n (.loop c) Q f w := by
  refine ⟨fun m => ?_⟩
  have key : ∀ k x g w, μ x < k → I x (mix S g f) w → Code.roundsIn (fen f.c.ro) m P c (lift n f.c.ro Q) k (rep n (mix S g f)) w := by
    intro k
    induction k with
    | zero => intro x g w hm; omega
    | succ k ih =>
      intro x g w hm hI
      refine wpIn_mono ((round x g w hI).out m) fun e a w ⟨he, f', ha, hr, ⟨hf⟩⟩ => ?_
      subst ha
      cases e with
      | normal =>
        obtain ⟨hag, x', hI', hlt⟩ := hf
        have hfe : f' = mix S f' f := hag.mix_eq
        rw [hfe] at hI' ⊢
        exact ih x' f' w (by omega) hI'
      | outgrown => exact (he rfl).elim
      | _ => exact ⟨Exit.noConfusion, f', rfl, hr, hf⟩
  have hf : f = mix S f f := (agree_refl S f).mix_eq
  have := key (μ x + 1) x f w (by omega) (by rw [← hf]; exact h0)
  rw [← hf] at this
  exact wpIn_loop_rounds _ this
/-- Slots that hold given values. -/
def Has (f : Fr) : List (Nat × Value) → Prop
  | [] => True
  | p :: l => f.s p.1 = p.2 ∧ Has f l
def sets (f : Fr) : List (Nat × Value) → Fr
  | [] => f
  | p :: l => upd (sets f l) p.1 p.2
theorem sets_cx {f : Fr} : ∀ {l : List (Nat × Value)}, (sets f l).c = f.c
  | [] => rfl
  | _ :: l => sets_cx (l := l)
theorem sets_has {f : Fr} : ∀ {l : List (Nat × Value)}, Has f l → sets f l = f
  | [], _ => rfl
  | p :: l, h => by
    refine Fr.ext' ?_ sets_cx
    funext i
    simp only [sets, upd, sets_has h.2]
    cases hb : Nat.beq i p.1 with
    | false => rfl
    | true => have := Nat.eq_of_beq_eq_true hb; subst this; simp [h.1]
/-- The loop rule: the slots in S are written in a round; those in 'ovr x' are known at a round's head. -/
theorem w_loop {c : Code} {α : Type} (S : List (Nat × Nat)) (ovr : α → List (Nat × Value)) (I : α → World → Prop) (μ : α → Nat) (x : α) (h0 : Has f (ovr x)) (hI : I x w)
    (round : ∀ x g w, I x w → W P n c (thenK (fun f' w' => Agree S f' f ∧ ∃ x', Has f' (ovr x') ∧ I x' w' ∧ μ x' < μ x) Q) (sets (mix S g f) (ovr x)) w) : W P n (.loop c) Q f w :=
  w_loop0 S (fun x f w => Has f (ovr x) ∧ I x w) μ x ⟨h0, hI⟩ fun x g w ⟨hh, hi⟩ => by
    have := round x g w hi
    rw [sets_has hh] at this
    exact this.mono fun e f w h => by
      refine ⟨?_⟩
      have h := h.out
      cases e with
      | normal => obtain ⟨h1, x', h2, h3, h4⟩ := h; exact ⟨h1, x', ⟨h2, h3⟩, h4⟩
      | _ => exact h
end
end Go.Fw
