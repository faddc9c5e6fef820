/- Ranges over a function: the caller's loop, a round, a call of yield. -/
import Derived.Test.YtehjdbgijibmcaaVz
set_option linter.unusedSimpArgs false
set_option linter.unusedVariables false
namespace Go.Fw
open Go.RowKit

/-- A loop's record. -/
def lp (l : Nat) (mk : LoopState → Option Code → Loop) (st : LoopState) (pe : Option Code) : HP := .oth fun p => p = pone l (.loop (mk st pe))
def recOf (n : Nat) (f : Fr) (ps : Array Tmp) (assign body : Code) (fn : FuncId) (D : Nat) (st : LoopState) (pe : Option Code) : Loop :=
  { state := st, pending := pe, fn, tmps := (rep n f).tmps, params := ps, assign, body, defers := D }
theorem one_open {w0 w : World} {R : List HP} {b : Nat} {o : Obj} (h : Wd w0 (.oth (fun p => p = pone b o) :: R) w) : w.heap[b]? = some o ∧ w0.heap.size ≤ b := by
  obtain ⟨p, q, hx, _, _, hp, _⟩ := h.open_
  have hx : p = _ := hx
  subst hx
  exact ⟨(hp b _ (pone_at _ _)).2, (hp b _ (pone_at _ _)).1⟩
/-- The one object of a piece is put in anew. -/
theorem one_put {w0 w : World} {R : List HP} {b : Nat} {o : Obj} (o' : Obj) (h : Wd w0 (.oth (fun p => p = pone b o) :: R) w) : Wd w0 (.oth (fun p => p = pone b o') :: R) (w.putObj b o') := by
  have hb := (one_open h).2
  have hlt : b < w.heap.size := (Array.getElem?_eq_some_iff.1 (one_open h).1).1
  obtain ⟨he, q, ⟨p1, p2, hx, hs, hd, rfl⟩, hp⟩ := h
  have hx : p1 = _ := hx
  subst hx
  have hn : p2 b = none := (hd b).resolve_left (by rw [pone_at]; simp)
  refine ⟨he.trans_put hb o', pjoin (pone b o') p2, ⟨pone b o', p2, rfl, hs, fun k => ?_, rfl⟩, fun k o hk => ?_⟩
  · rcases hd k with h1 | h1
    · refine .inl ?_
      unfold pone at h1 ⊢
      split at h1
      · cases h1
      · rename_i hk; rw [if_neg hk]
    · exact .inr h1
  · unfold pjoin at hk
    by_cases hkb : k = b
    · subst hkb
      rw [pone_at] at hk
      injection hk with hk
      subst hk
      exact ⟨hb, World.putObj_heap_same hlt⟩
    · have : pone b o' k = none := by unfold pone; rw [if_neg hkb]
      rw [this] at hk
      have h2 := (hp.right hd) k o hk
      exact ⟨h2.1, by rw [World.putObj_heap_other hkb]; exact h2.2⟩
theorem one_new {w0 w : World} {H : List HP} (o : Obj) (h : Wd w0 H w) : Wd w0 (.oth (fun p => p = pone w.heap.size o) :: H) (w.alloc o) :=
  h.add (row := none) (World.grownBy_alloc w o none) rfl (X := .oth fun p => p = pone w.heap.size o) rfl fun k o' hk => by
    have := pone_ne (k := k) (by rw [hk]; simp)
    subst this
    rw [pone_at] at hk
    injection hk with hk
    subst hk
    exact ⟨World.alloc_heap_new w _, Nat.le_refl _⟩

/-- The slots of ps are given the values vs. -/
def upds (f : Fr) : List Nat → List Value → Fr
  | t :: ts, v :: vs => upds (upd f t v) ts vs
  | _, _ => f
theorem upds_tmps (n : Nat) : ∀ (ts : List Nat) (vs : List Value) (f : Fr), (ts.zip vs).foldl (fun tmps p => tmps.setIfInBounds p.1 p.2) (rep n f).tmps = (rep n (upds f ts vs)).tmps
  | [], _, _ => by simp [upds]
  | _ :: _, [], _ => by simp [upds]
  | t :: ts, v :: vs, f => by
    rw [List.zip_cons_cons, List.foldl_cons, upds, ← upds_tmps n ts vs (upd f t v)]
    have := congrArg Act.tmps (rep_put n f t v)
    simp only [Act.put] at this
    rw [this]

/-- A call of yield: the round ends, and R holds of what yield gives back. -/
def Yld (P : Program) (l : Nat) (args : List Value) (w : World) (R : Value → World → Prop) : Prop :=
  ∃ fn tmps assign body, (Instr.yield l args.toArray).run P w = .ok (.round l fn tmps assign body) w ∧ ∀ m, RoundIn Fence.wide m P l fn tmps assign body w fun e w' => ∃ v, e = .returned v ∧ R v w'

/-- How a round is left. -/
def roundD (w0 : World) (l : Nat) (mk : LoopState → Option Code → Loop) (R : Value → List HP → Prop) : HQ
  | .normal, _, H => ∃ G, Split H (lp l mk .busy none) G ∧ ∃ H', R (.bool true) H' ∧ Ent (lp l mk .ready none :: G) H'
  | .ret, _, H => ∃ G, Split H (lp l mk .busy none) G ∧ ∃ H', R (.bool false) H' ∧ Ent (lp l mk .done (some .ret) :: G) H'
  | .exit i, _, H => ∃ G, Split H (lp l mk .busy none) G ∧ ∃ H', R (.bool false) H' ∧ Ent (lp l mk .done (some (.exit i)) :: G) H'
  | _, _, _ => False
structure roundH (w0 : World) (l : Nat) (mk : LoopState → Option Code → Loop) (R : Value → List HP → Prop) (e : Exit) (f : Fr) (H : List HP) : Prop where
  out : roundD w0 l mk R e f H
section
variable {P : Program} {n : Nat} {Q : HQ} {f : Fr} {w0 : World} {H G : List HP} {l D : Nat} {mk : LoopState → Option Code → Loop} {R : Value → List HP → Prop} {H' : List HP}
theorem ro_normal (hs : Split H (lp l mk .busy none) G) (h : R (.bool true) H') (he : Ent (lp l mk .ready none :: G) H') : roundH w0 l mk R .normal f H := ⟨G, hs, H', h, he⟩
theorem ro_ret (hs : Split H (lp l mk .busy none) G) (h : R (.bool false) H') (he : Ent (lp l mk .done (some .ret) :: G) H') : roundH w0 l mk R .ret f H := ⟨G, hs, H', h, he⟩
theorem ro_exit {i : Nat} (hs : Split H (lp l mk .busy none) G) (h : R (.bool false) H') (he : Ent (lp l mk .done (some (.exit i)) :: G) H') : roundH w0 l mk R (.exit i) f H := ⟨G, hs, H', h, he⟩
/-- One round, out of the walks of the assignment and the body. -/
theorem yld_of {f0 : Fr} {ps : List Tmp} {assign body : Code} {fn : FuncId} {args : List Value} (hmk : mk = recOf n f0 ps.toArray assign body fn D) (hlen : args.length = ps.length) (hs : Split H (lp l mk .ready none) G)
    (h : VH P n assign (thenH (fun f' H' => ∃ G', Split H' (lp l mk .ready none) G' ∧ VH P n body (roundH w0 l mk R) f' w0 (lp l mk .busy none :: G')) (fun _ _ _ => False)) ⟨(upds f0 ps args).s, ⟨[], some l⟩⟩ w0 (lp l mk .ready none :: G))
    {w : World} (hw : Wd w0 H w) : Yld P l args w (RP w0 R) := by
  have hw1 := hs.wd hw
  have hl := (one_open hw1).1
  subst hmk
  refine ⟨_, _, _, _, run_yield hl (by simpa [recOf] using hlen), fun m => ?_⟩
  have ht : (({ state := .ready, pending := none, fn, tmps := (rep n f0).tmps, params := ps.toArray, assign, body, defers := D } : Loop).params.zip args.toArray).foldl (fun tmps (x : Nat × Value) => tmps.setIfInBounds x.1 x.2) (rep n f0).tmps = (rep n (upds f0 ps args)).tmps := by
    rw [← upds_tmps n ps args f0]
    simp
  have hrep : ({ tmps := ((recOf n f0 ps.toArray assign body fn D .ready none).params.zip args.toArray).foldl (fun tmps (x : Nat × Value) => tmps.setIfInBounds x.1 x.2) (recOf n f0 ps.toArray assign body fn D .ready none).tmps, defers := [] } : Act) = rep n ⟨(upds f0 ps args).s, ⟨[], some l⟩⟩ := by
    have : (rep n ⟨(upds f0 ps args).s, ⟨[], some l⟩⟩) = { tmps := (rep n (upds f0 ps args)).tmps, defers := [] } := rfl
    rw [this, ← ht]; rfl
  refine roundIn_of_wpIn trivial ?_
  have hW := ((h.out w hw1).out m)
  refine Eq.mpr (congrArg (fun a => Code.wpIn _ _ _ _ _ a _) hrep) (wpIn_mono hW fun e a w1 ⟨he, f', ha, hr, H', ⟨hq⟩, hw2⟩ => ?_)
  subst ha
  cases e with
  | normal =>
    obtain ⟨G', hs', hb⟩ := hq
    have hw3 := hs'.wd hw2
    have hl3 := (one_open hw3).1
    refine ⟨_, run_beginRound hl3 rfl, ?_⟩
    have hw4 : Wd w0 (lp l (recOf n f0 ps.toArray assign body fn D) .busy none :: G') (w1.putObj l (.loop (recOf n f0 ps.toArray assign body fn D .busy none))) := one_put _ hw3
    have hB := (hb.out _ hw4).out m
    rw [show f'.c.ro = some l from hr] at hB
    refine wpIn_mono hB fun e a w5 ⟨he5, f5, ha5, hr5, H5, ⟨hq5⟩, hw5⟩ => ?_
    have fin : ∀ (jump : Option Code) (v : Bool) (st : LoopState), v = jump.isNone → st = (if jump.isNone then LoopState.ready else LoopState.done) →
        (∃ G, Split H5 (lp l (recOf n f0 ps.toArray assign body fn D) .busy none) G ∧ ∃ H', R (.bool v) H' ∧ Ent (lp l (recOf n f0 ps.toArray assign body fn D) st jump :: G) H') →
        ∃ v w', (Instr.endRound l jump).run P w5 = .ok v w' ∧ ∃ u, Ending.returned v = .returned u ∧ RP w0 R u w' := by
      rintro jump v st rfl rfl ⟨G, hsG, H', hR, hE⟩
      have hw6 := hsG.wd hw5
      have hl6 := (one_open hw6).1
      refine ⟨_, _, run_endRound jump hl6, _, rfl, H', hR, hE.wd ?_⟩
      exact one_put _ hw6
    cases e with
    | normal => exact fin none true .ready rfl rfl hq5
    | ret => exact fin (some .ret) false .done rfl rfl hq5
    | exit i => exact fin (some (.exit i)) false .done rfl rfl hq5
    | goto _ => exact hq5.elim
    | panic _ => exact hq5.elim
    | outgrown => exact (he5 rfl).elim
  | outgrown => exact (he rfl).elim
  | _ => exact hq.elim
/-- The loop 'for .. := range g': the function that is ranged over is called with yield; what it leaves. -/
theorem v_range {g : Operand} {ps : Array Tmp} {assign body : Code} {gf : FuncId} {lb : List Value} (hg : ev n f g = .func (.func gf) #[] lb.toArray) (hro : f.c.ro = none)
    (h : ∀ fn l D mk, mk = recOf n f ps assign body fn D → ∀ w, Wd w0 (lp l mk .ready none :: dfr D :: H) w → Ret P gf (.func (.yield l) #[] #[] :: lb).toArray w (RP w0 fun _ H' => ∃ st pe G, Split H' (lp l mk st pe) G ∧ st ≠ .busy ∧
      match pe with
      | none => Q .normal ⟨f.s, ⟨markD D :: f.c.ds, none⟩⟩ G
      | some c => VH P n c Q ⟨f.s, ⟨markD D :: f.c.ds, none⟩⟩ w0 G)) : VH P n (.rangeFunc g ps assign body) Q f w0 H := ⟨fun w hw => ⟨fun m => by
  rw [hro]
  refine wpIn_rangeFunc ?_
  intro fn _
  have hw1 : Wd w0 (lp (w.heap.size + 1) (recOf n f ps assign body fn w.heap.size) .ready none :: dfr w.heap.size :: H) ((w.alloc (.deferred (some []))).alloc (.loop (recOf n f ps assign body fn w.heap.size .ready none))) := by
    have h1 := one_new (.loop (recOf n f ps assign body fn w.heap.size .ready none)) (one_new (.deferred (some [])) hw)
    rw [World.size_alloc] at h1
    exact h1
  have hR := h fn (w.heap.size + 1) w.heap.size _ rfl _ hw1
  obtain ⟨hB, hC⟩ := hR
  have hE := run_enterLoop_outer (P := P) (w := w) fn (rep n f).tmps ps assign body
  obtain ⟨W1, hW1⟩ : ∃ W1, (w.alloc (.deferred (some []))).alloc (.loop { state := .ready, pending := none, fn, tmps := (rep n f).tmps, params := ps, assign, body, defers := w.heap.size }) = W1 := ⟨_, rfl⟩
  have hC : Calls P gf (Value.func (.yield (w.heap.size + 1)) #[] #[] :: lb).toArray W1 _ := hW1 ▸ hC
  rw [hW1] at hE
  refine ⟨w.heap.size + 1, [{ target := .collected w.heap.size, args := #[] }], W1, { target := .fn (.func gf) lb.toArray, args := #[.func (.yield (w.heap.size + 1)) #[] #[]] }, W1, gf,
    #[.func (.yield (w.heap.size + 1)) #[] #[]] ++ lb.toArray, W1, hE, ?_, fun _ _ => trivial, ?_, fun e => by simp [fen, Fence.wide] at e, ?_⟩
  · simp only [resolve, rep_eval, hg]
    simp [go_sem]; rfl
  · simp only [invoke]
    exact run_callFunc hB
  · have hargs : #[.func (.yield (w.heap.size + 1)) #[] #[]] ++ lb.toArray = (Value.func (.yield (w.heap.size + 1)) #[] #[] :: lb).toArray := by simp
    rw [hargs]
    refine (callsIn_fen hC).mono fun e w3 ⟨v, he, H', ⟨st, pe, G, hs, hst, hk⟩, hw3⟩ => ?_
    subst he
    have hw4 := hs.wd hw3
    have hl4 := (one_open hw4).1
    refine ⟨pe, _, run_endLoop hl4 hst, ?_⟩
    have hw5 : Wd w0 G (w3.putObj (w.heap.size + 1) (.loop { recOf n f ps assign body fn w.heap.size st pe with state := .exhausted })) := (Ent.wd (ent_drop (ent_refl G)) (one_put _ hw4))
    cases pe with
    | none => exact ⟨Exit.noConfusion, _, rfl, rfl, G, hk, hw5⟩
    | some c => exact (hk.out _ hw5).out m⟩⟩
end
section
variable {P : Program} {n : Nat} {Q : HQ} {f : Fr} {w0 : World} {H : List HP} {ops : Array Oper} {rest : List Oper} {d : Nat} {ty : TypeId} {pos : String} {aft : Array Edge} {callee : Operand} {xs : List Operand} {at_ : Array TypeId} {l : Nat} {vs : List Value} {R : Value → List HP → Prop}
/-- yield is called. -/
theorem cy (h : ∀ w, Wd w0 H w → Yld P l vs w (RP w0 R)) (hc : ev n f callee = .func (.yield l) #[] #[]) (hv : xs.map (ev n f) = vs)
    (k : ∀ v H', R v H' → SH .seq P n ops Q rest (upd f d v) w0 H') : SH .seq P n ops Q (⟨some d, .call { callee := .value callee, args := xs.toArray, argTypes := at_ }, ty, pos, aft, none⟩ :: rest) f w0 H := ⟨fun hd w hw => ⟨fun m => by
  obtain ⟨fn, tmps, assign, body, hy, hr⟩ := h w hw
  unfold wpListIn
  rw [if_pos wanted_free]
  refine ⟨fun _ _ => trivial, ?_⟩
  rw [Oper.semAt_eq _ _ _ (fun c e => by cases e), rep_eval]
  have hrun : (execOp (ev n f) ⟨some d, .call { callee := .value callee, args := xs.toArray, argTypes := at_ }, ty, pos, aft, none⟩).run P w = .ok (.round l fn tmps assign body) w := by
    simp only [execOp, resolve, hc, Deferred.ofValue, invoke, Sem.run_bind, Sem.run_pure, Result.andThen_ok]
    have : (#[] ++ xs.toArray.map (ev n f) : Array Value) = vs.toArray := by rw [← hv]; simp
    rw [this]
    exact hy
  rw [hrun]
  refine ⟨fun e => by simp [fen, Fence.wide] at e, ?_⟩
  refine RoundIn.mono (hr (m - 1)) fun e w' ⟨v, he, H', hR, hw'⟩ => ?_
  subst he
  show wpListIn _ _ _ _ _ _ _ _
  rw [rep_put]
  exact ((k v H' hR).out (noDef_tail hd) w' hw').out m⟩⟩
end
theorem sat_comm : ∀ {A B : List HP} {p : Part}, Sat (A ++ B) p → ∃ q r, Sat A q ∧ Sat B r ∧ Dis q r ∧ ∀ k o, pjoin q r k = some o → p k = some o
  | [], B, p, h => ⟨pnil, p, trivial, h, fun _ => .inl rfl, fun k o hk => by simpa [pjoin, pnil] using hk⟩
  | X :: A, B, p, ⟨p1, p2, hx, hs, hd, hp⟩ => by
    subst hp
    obtain ⟨q, r, hq, hr, hqr, hk⟩ := sat_comm hs
    have hd2 : ∀ k, p1 k = none ∨ (q k = none ∧ r k = none) := fun k => by
      rcases hd k with h | h
      · exact .inl h
      · refine .inr ?_
        cases hj : pjoin q r k with
        | none => exact pjoin_none.1 hj
        | some o => rw [hk k o hj] at h; cases h
    refine ⟨pjoin p1 q, r, ⟨p1, q, hx, hq, fun k => (hd2 k).imp id And.left, rfl⟩, hr, fun k => ?_, fun k o ho => ?_⟩
    · rcases hd2 k with h | h
      · rcases hqr k with h' | h'
        · exact .inl (pjoin_none.2 ⟨h, h'⟩)
        · exact .inr h'
      · exact .inr h.2
    · unfold pjoin at ho ⊢
      cases h1 : p1 k with
      | some o' => rw [h1] at ho; exact ho
      | none =>
        rw [h1] at ho
        exact hk k o (by unfold pjoin; exact ho)
/-- Two parts of the list change places. -/
theorem ent_swap (A B : List HP) : Ent (A ++ B) (B ++ A) := ⟨fun p hp => by
  obtain ⟨q, r, hq, hr, hqr, hk⟩ := sat_comm hp
  obtain ⟨s, hs, hsk⟩ := sat_append hr hq (fun k => (hqr k).symm)
  refine ⟨s, hs, fun k o ho => hk k o ?_⟩
  unfold pjoin
  rcases hsk k o ho with h | h
  · rcases hqr k with h' | h'
    · rw [h']; exact h
    · rw [h'] at h; cases h
  · rw [h]⟩
section
variable {md : Md} {P : Program} {n : Nat} {Q : HQ} {f : Fr} {w0 : World} {H R : List HP} {ops : Array Oper} {rest : List Oper} {d : Nat} {ty : TypeId} {pos : String} {aft : Array Edge} {x y : Operand}
/-- A slice that has elements has an address. -/
theorem v_some {α : Type} [F : Flat α] {c : Code} {A : Option Addr} {cp : Nat} {e : TypeId} {l : List α} (hs : Split H (orow e A cp l) R) (hl : 0 < l.length) (k : A = some (adr A) → VH P n c Q f w0 H) : VH P n c Q f w0 H := ⟨fun w hw => by
  refine (k ?_).out w hw
  obtain ⟨g, cur, rfl, _⟩ := own_some (hw.own hs) hl
  rfl⟩
theorem ixq {t e : TypeId} {sz by_ : Nat} {A : Option Addr} {m cp : Nat} {K : IntKind} {i : Int} [TSl P t e sz by_] (hx : ev n f x = .slice A m cp) (hy : ev n f y = .int K i) (hA : A = some (adr A)) (h0 : 0 ≤ i) (h1 : i < m)
    (k : SH (nx md) P n ops Q rest (upd f d (.pointer (some ((adr A).add (i.toNat * sz))))) w0 H) : SH md P n ops Q (⟨some d, .indexAddr t x y, ty, pos, aft, none⟩ :: rest) f w0 H :=
  s_val (fun w hw => by rw [hA] at hx; exact ox_index hx hy h0 h1) k
end
end Go.Fw
