/- Regions that draw their order: one walk of the text's order serves, where the operations only read, and calls leave old memory as it was; a last part, that waits for all others, may write. -/
import Derived.Test.YtehjdbgijibmcaaVal
set_option linter.unusedSimpArgs false
set_option linter.unusedVariables false
namespace Go.Fw
open Go.RowKit

/-- w' is w with more: what lay in w's memory lies there as it did. -/
def Ext (w w' : World) : Prop := Below w.heap.size w w'
theorem Ext.refl (w : World) : Ext w w := Below.refl _ _
theorem Ext.trans {a b c : World} (h : Ext a b) (k : Ext b c) : Ext a c := Below.trans h (k.mono h.size)
theorem Ext.cell {w w' : World} (h : Ext w w') {a : Addr} {v : Value} (hc : w.cell? a = some v) : w'.cell? a = some v := by
  rw [Below.cell h (World.block_lt_of_cell? w a hc)]; exact hc
theorem Ext.size {w w' : World} (h : Ext w w') : w.heap.size ≤ w'.heap.size := Below.size h
theorem Ext.block {w w' : World} (h : Ext w w') {k : Nat} (hk : k < w.heap.size) : w'.heap[k]? = w.heap[k]? := Below.block h k hk
theorem Ext.heap {w w' : World} (h : Ext w w') {k : Nat} {o : Obj} (hk : w.heap[k]? = some o) : w'.heap[k]? = some o := by
  rw [h.block (Array.getElem?_eq_some_iff.1 hk).1]; exact hk
theorem Ext.drew (w : World) : Ext w { w with drawn := w.drawn + 1 } := ⟨rfl, rfl, rfl, Nat.le_refl _, fun _ _ => rfl⟩
theorem Ext.alloc (w : World) (o : Obj) : Ext w (w.alloc o) := Below.alloc (Below.refl _ _) (Nat.le_refl _) o
theorem Ints.ext {w w' : World} {A : Option Addr} {l : List Int} (h : Ints w A l) (he : Ext w w') : Ints w' A l :=
  ⟨fun k hk => ⟨(h.get k hk).1, he.cell (h.get k hk).2⟩, h.rng⟩

theorem wpQuiet_mono {P : Program} {ops : Array Oper} {C : World → Prop} {Q Q' : Act → Prop} (hq : ∀ a, Q a → Q' a) : ∀ (l : List Oper) (a : Act), wpQuiet P ops C Q l a → wpQuiet P ops C Q' l a
  | [], a, h => hq a h
  | o :: rest, a, h => by
    unfold wpQuiet at *
    split
    · rename_i hw
      rw [if_pos hw] at h
      exact Oper.quiet_mono (fun a h => wpQuiet_mono hq rest a h) h
    · rename_i hw
      rw [if_neg hw] at h
      exact wpQuiet_mono hq rest _ h
/-- The text's order, every operation in every world that extends w. -/
structure WQ (P : Program) (n : Nat) (ops : Array Oper) (w : World) (K : Fr → Prop) (l : List Oper) (f : Fr) : Prop where
  out : wpQuiet P ops (Ext w) (fun a => ∃ f', a = rep n f' ∧ f'.c.ro = f.c.ro ∧ K f') l (rep n f)
section
variable {P : Program} {n : Nat} {K : Fr → Prop} {f : Fr} {w w' : World} {ops : Array Oper} {rest : List Oper} {d : Nat} {op : Op} {ty : TypeId} {pos : String} {aft : Array Edge} {v : Value} {Q : Exit → Fr → World → Prop}

theorem w_quiet {id : Nat} {l : List Oper} (hm : P.follows .mixedOrders = true) (hB : (Region.lexB .any l.toArray && noDef l) = true)
    (h : WQ P n l.toArray w (fun f' => ∀ w', Ext w w' → Q .normal f' w') l f) : W P n (.region id l.toArray true) Q f w := by
  rw [Bool.and_eq_true] at hB
  have hB1 := hB.1
  simp only [Region.lexB, Bool.and_eq_true] at hB1
  refine w_any hm hB.2 (wpAny_of_quiet (C := Ext w) (Q := fun a => ∃ f', a = rep n f' ∧ f'.c.ro = f.c.ro ∧ ∀ w', Ext w w' → Q .normal f' w') (fun a w' hw' ⟨f', ha, hr, hk⟩ => ⟨Exit.noConfusion, f', ha, hr, hk w' hw'⟩) _ _ _ _ (Ext.drew w) ?_)
  have := wpAnyQ_lex (C := Ext w) (md := .any) hB1.1 l 0 (Array.replicate l.toArray.size false) (rep n f) (by simp) (by simpa using hB1.2) h.out
  simpa using this
theorem wq_nil (h : K f) : WQ P n ops w K [] f := ⟨⟨f, rfl, rfl, h⟩⟩
theorem wq_val (h : ∀ w', Ext w w' → OX P n f op ty w' v w') (k : WQ P n ops w K rest (upd f d v)) : WQ P n ops w K (⟨some d, op, ty, pos, aft, none⟩ :: rest) f := by
  refine ⟨wpQuiet_step fun K' hK => ?_⟩
  rw [if_pos (by simp [Region.wanted])]
  refine ⟨v, fun w' hw' => ?_, by rw [rep_put]; exact hK _ k.out⟩
  unfold Oper.quietAt
  rw [rep_eval, h w' hw']
  exact ⟨rfl, rfl⟩
theorem wq_call {callee : Operand} {xs : List Operand} {at_ : Array TypeId} {g : FuncId} {fst cap : Array Value} {vs : List Value}
    (h : ∀ w', Ext w w' → Ret P g vs.toArray w' fun u w'' => u = v ∧ Ext w' w'') (hc : ev n f callee = .func (.func g) fst cap) (hv : fst.toList ++ xs.map (ev n f) ++ cap.toList = vs)
    (k : WQ P n ops w K rest (upd f d v)) :
    WQ P n ops w K (⟨some d, .call { callee := .value callee, args := xs.toArray, argTypes := at_ }, ty, pos, aft, none⟩ :: rest) f := by
  refine ⟨wpQuiet_step fun K' hK => ?_⟩
  rw [if_pos (by simp [Region.wanted])]
  refine ⟨v, fun w' hw' => ?_, by rw [rep_put]; exact hK _ k.out⟩
  have hargs : (fst ++ (xs.toArray.map (ev n f))) ++ cap = vs.toArray := by
    apply Array.toList_inj.1; simp [← hv]
  have hrun : (execOp (ev n f) ⟨some d, .call { callee := .value callee, args := xs.toArray, argTypes := at_ }, ty, pos, aft, none⟩).run P w' = .ok (.enter g vs.toArray) w' := by
    simp only [execOp, resolve, hc, Deferred.ofValue, invoke, Sem.run_bind, Sem.run_pure, Result.andThen_ok, hargs]
    exact run_callFunc (h w' hw').1
  unfold Oper.quietAt
  rw [rep_eval, hrun]
  exact ⟨rfl, (h w' hw').2.mono fun e w'' ⟨u, he, hu, hx⟩ => ⟨by rw [he, hu], hw'.trans hx⟩⟩
section guards
variable {od : Option Nat} {j : Nat} {want b : Bool}
theorem wanted_yes (hy : yld n ops f j = .bool b) (hb : b = want) : Region.wanted ⟨od, op, ty, pos, aft, some (j, want)⟩ (yielded ops (rep n f).tmps) = true := by
  simp only [Region.wanted, yielded_rep, hy, hb]; simp
theorem wanted_no (hy : yld n ops f j = .bool b) (hb : b = !want) : Region.wanted ⟨od, op, ty, pos, aft, some (j, want)⟩ (yielded ops (rep n f).tmps) = false := by
  simp only [Region.wanted, yielded_rep, hy, hb]; cases want <;> simp
theorem wanted_undef (hy : yld n ops f j = undef) : Region.wanted ⟨od, op, ty, pos, aft, some (j, want)⟩ (yielded ops (rep n f).tmps) = false := by
  simp only [Region.wanted, yielded_rep, hy]; rfl
theorem wanted_free : Region.wanted ⟨od, op, ty, pos, aft, none⟩ (yielded ops (rep n f).tmps) = true := by simp [Region.wanted]
theorem wq_run (hy : yld n ops f j = .bool b) (hb : b = want) (h : WQ P n ops w K (⟨od, op, ty, pos, aft, none⟩ :: rest) f) : WQ P n ops w K (⟨od, op, ty, pos, aft, some (j, want)⟩ :: rest) f := by
  constructor
  have h := h.out
  unfold wpQuiet at *
  rw [if_pos wanted_free] at h
  rw [if_pos (wanted_yes hy hb)]
  exact h
theorem wq_pass (hy : yld n ops f j = .bool b) (hb : b = !want) (h : WQ P n ops w K rest (upd f d undef)) : WQ P n ops w K (⟨some d, op, ty, pos, aft, some (j, want)⟩ :: rest) f := by
  constructor
  rw [wpQuiet, if_neg (by rw [wanted_no hy hb]; simp), rep_put]
  exact h.out
theorem wq_pass_undef (hy : yld n ops f j = undef) (h : WQ P n ops w K rest (upd f d undef)) : WQ P n ops w K (⟨some d, op, ty, pos, aft, some (j, want)⟩ :: rest) f := by
  constructor
  rw [wpQuiet, if_neg (by rw [wanted_undef hy]; simp), rep_put]
  exact h.out
theorem wq_split (hy : yld n ops f j = .bool b) (h1 : b = want → WQ P n ops w K (⟨some d, op, ty, pos, aft, none⟩ :: rest) f) (h2 : b = !want → WQ P n ops w K rest (upd f d undef)) :
    WQ P n ops w K (⟨some d, op, ty, pos, aft, some (j, want)⟩ :: rest) f := by
  by_cases hb : b = want
  · exact wq_run hy hb (h1 hb)
  · exact wq_pass hy (by cases b <;> cases want <;> simp_all) (h2 (by cases b <;> cases want <;> simp_all))
theorem wq_split_dt {p : Prop} [Decidable p] (hy : yld n ops f j = .bool (decide p)) (h1 : p → WQ P n ops w K (⟨some d, op, ty, pos, aft, none⟩ :: rest) f) (h2 : ¬ p → WQ P n ops w K rest (upd f d undef)) :
    WQ P n ops w K (⟨some d, op, ty, pos, aft, some (j, true)⟩ :: rest) f :=
  wq_split hy (fun h => h1 (of_decide_eq_true h)) (fun h => h2 (of_decide_eq_false (by simpa using h)))
theorem wq_split_df {p : Prop} [Decidable p] (hy : yld n ops f j = .bool (decide p)) (h1 : ¬ p → WQ P n ops w K (⟨some d, op, ty, pos, aft, none⟩ :: rest) f) (h2 : p → WQ P n ops w K rest (upd f d undef)) :
    WQ P n ops w K (⟨some d, op, ty, pos, aft, some (j, false)⟩ :: rest) f :=
  wq_split hy (fun h => h1 (of_decide_eq_false h)) (fun h => h2 (of_decide_eq_true (by simpa using h)))
end guards
end
end Go.Fw
