/- One rule a kind of operation, for the three kinds of regions: in the text's order; any order, all operations only reading; any order, some operations making memory. -/
import Derived.Test.YtdlpnjofdpcjjaaVv
namespace Go.Fw
open Go.RowKit

def postK (K : Fr → World → Prop) : Exit → Fr → World → Prop := fun e f w => e = .normal ∧ K f w
theorem opwp_any {P : Program} {o : Oper} {a : Act} {w : World} {K K' : Act → World → Prop} {Q1 Q2 : Exit → Act → World → Prop} (hp : ∀ c a w, ¬ Q1 (.panic c) a w) (hl : ¬ LetsOut Q1) (h : ∀ a w, K a w → K' a w)
    (hh : o.wp P a w K Q1) : o.wp P a w K' Q2 := by
  unfold Oper.wp at *
  generalize (execOp a.eval o).run P w = r at *
  cases r with
  | ok n w' =>
    cases n <;> simp only [Oper.upon] at hh ⊢ <;>
      first
        | exact h _ _ hh
        | exact Calls.mono hh (fun e w'' he => by cases e <;> first | exact h _ _ he | exact (hp _ _ _ he).elim | exact (hl he).elim)
        | exact Rows.mono hh (fun _ _ he => h _ _ he)
  | halt x w' => cases x <;> simp only [Oper.upon] at hh ⊢ <;> exact (hp _ _ _ hh).elim
section
variable {P : Program} {n : Nat} {f : Fr} {w : World} {ops : Array Oper} {rest : List Oper} {o : Oper} {K : Fr → World → Prop} {Q : Exit → Fr → World → Prop}
theorem postK_panic (c : _) (a : Act) (w : World) : ¬ lift n (postK K) (.panic c) a w := fun ⟨_, _, h, _⟩ => by cases h
theorem postK_out : ¬ LetsOut (lift n (postK K)) := fun ⟨_, _, _, _, h, _⟩ => by cases h
theorem op1_seq (h : WL P n ops (postK K) [o] f w) (k : ∀ f w, K f w → WL P n ops Q rest f w) : WL P n ops Q (o :: rest) f w := by
  constructor
  have h := h.out
  unfold wpList at *
  split
  · rename_i hw
    rw [if_pos hw] at h
    rcases h with h | ⟨_, h⟩
    · exact .inl (opwp_any postK_panic postK_out (fun a w ⟨f', ha, _, hK⟩ => by subst ha; exact (k _ _ hK).out) h)
    · exact (postK_out h).elim
  · rename_i hw
    rw [if_neg hw] at h
    obtain ⟨f', ha, _, hK⟩ := h
    rw [ha]
    exact (k _ _ hK).out
theorem op1_any {i : Nat} {Q' : Exit → Act → World → Prop} {K' : Act → World → Prop} (hi : ops[i]? = some o) (h : WL P n ops (postK K) [o] f w) (k : ∀ f w, K f w → K' (rep n f) w) : wpOp P ops Q' i K' (rep n f) w := by
  have h := h.out
  unfold wpList at h
  unfold wpOp
  simp only [hi]
  split
  · rename_i hw
    rw [if_pos hw] at h
    rcases h with h | ⟨_, h⟩
    · exact .inl (opwp_any postK_panic postK_out (fun a w ⟨f', ha, _, hK⟩ => by subst ha; exact k _ _ hK) h)
    · exact (postK_out h).elim
  · rename_i hw
    rw [if_neg hw] at h
    obtain ⟨f', ha, _, hK⟩ := h
    rw [ha]
    exact k _ _ hK
end

/-! the kinds of regions -/
inductive Md where
  | seq
  | quiet
  | held (HS : List HP) (π : List (Nat × Bool)) (L : List Bool)
/-- The order in which the operations are taken; 'true': taken ahead of others, for it only reads; 'false': no other can come up. -/
def okB (ops : Array Oper) : List Bool → List (Nat × Bool) → Bool
  | L, [] => (Region.ready .any ops L.toArray).isEmpty
  | L, (i, true) :: π => Region.free .any ops L.toArray i && (Region.ready .any ops L.toArray).contains i && okB ops (L.set i true) π
  | L, (i, false) :: π => (Region.ready .any ops L.toArray == [i]) && okB ops (L.set i true) π
def picks (l : List Oper) : List (Nat × Bool) → List Oper
  | [] => []
  | (i, _) :: π => (l[i]?).getD default :: picks l π
def nx : Md → Md
  | .held HS (p :: π) L => .held HS π (L.set p.1 true)
  | m => m
/-- The pieces that may be read. -/
def vis : Md → List HP → List HP
  | .held HS _ _, _ => HS
  | _, H => H
/-- An operation that makes memory may stand here. -/
def addOK : Md → Bool
  | .seq => true
  | .quiet => false
  | .held _ ((_, false) :: _) _ => true
  | .held _ _ _ => false
def noP (Q : HQ) : HQ
  | .normal, f, H => Q .normal f H
  | _, _, _ => False
def SHD (P : Program) (n : Nat) (ops : Array Oper) (Q : HQ) (l : List Oper) (f : Fr) (w0 : World) (H : List HP) : Md → Prop
  | .seq => ∀ w, Wd w0 H w → WL P n ops (low w0 Q) l f w
  | .quiet => ∀ w, Wd w0 H w → WQ P n ops w (fun f' => Q .normal f' H) l f
  | .held HS π L => okB ops L π = true → Region.noSelect ops = true → (∀ p ∈ π, p.1 < ops.size) → l = picks ops.toList π → ∀ w, Wd w0 H w → Wd w0 HS w → wpAnyH P .any ops (lift n (low w0 (noP Q))) (Wd w0 HS) π.length L.toArray (rep n f) w
structure SH (md : Md) (P : Program) (n : Nat) (ops : Array Oper) (Q : HQ) (l : List Oper) (f : Fr) (w0 : World) (H : List HP) : Prop where
  out : SHD P n ops Q l f w0 H md

section
variable {md : Md} {P : Program} {n : Nat} {Q : HQ} {f : Fr} {w0 : World} {H R : List HP} {ops : Array Oper} {rest : List Oper} {d : Nat} {op : Op} {ty : TypeId} {pos : String} {aft : Array Edge} {v : Value} {x y c : Operand}
theorem r_seq {id : Nat} {l : List Oper} (h : SH .seq P n l.toArray Q l f w0 H) : VH P n (.region id l.toArray false) Q f w0 H := ⟨fun w hw => w_region (h.out w hw)⟩
theorem r_quiet {id : Nat} {l : List Oper} (hm : P.follows .mixedOrders = true) (hB : Region.lexB .any l.toArray = true) (h : SH .quiet P n l.toArray Q l f w0 H) : VH P n (.region id l.toArray true) Q f w0 H :=
  ⟨fun w hw => w_quiet hm hB ((h.out w hw).mono fun _ hq _ he => ⟨H, hq, hw.step he⟩)⟩
theorem r_held {id : Nat} {l : List Oper} (HS : List HP) (π : List (Nat × Bool)) (hm : P.follows .mixedOrders = true) (hB : (okB l.toArray (List.replicate l.length false) π && Region.noSelect l.toArray && π.all (fun p => decide (p.1 < l.toArray.size)) && decide (π.length = l.length)) = true) (he : Ent H HS)
    (h : SH (.held HS π (List.replicate l.length false)) P n l.toArray Q (picks l π) f w0 H) : VH P n (.region id l.toArray true) Q f w0 H := by
  simp only [Bool.and_eq_true, List.all_eq_true, decide_eq_true_eq] at hB
  obtain ⟨⟨⟨h1, h2⟩, h3⟩, h4⟩ := hB
  refine ⟨fun w hw => ⟨Go.wp_mono (Q := lift n (low w0 (noP Q))) (wp_region_held (S := Wd w0 HS) hm ?_) (fun e a w' hq => ?_)⟩⟩
  · have hw' : Wd w0 H { w with drawn := w.drawn + 1 } := hw.step (Ext.drew w)
    have := h.out h1 h2 (fun p hp => h3 p hp) (by simp) _ hw' (he.wd hw')
    rw [h4] at this
    simpa using this
  · obtain ⟨f', ha, H', hn, hw'⟩ := hq
    cases e <;> first | exact ⟨f', ha, H', hn, hw'⟩ | exact hn.elim
theorem s_nil (h : Q .normal f H) : SH md P n ops Q [] f w0 H := ⟨by
  cases md with
  | seq => exact fun _ hw => wl_nil ⟨H, h, hw⟩
  | quiet => exact fun _ _ => wq_nil h
  | held HS π L =>
    intro h1 _ _ h4 w hw hs
    cases π with
    | nil =>
      simp only [okB, List.isEmpty_iff] at h1
      exact wpAnyH_done h1 ⟨f, rfl, H, h, hw⟩ _
    | cons p π => simp [picks] at h4⟩
theorem picks_head {l : List Oper} {o : Oper} {rest : List Oper} {p : Nat × Bool} {π : List (Nat × Bool)} (h : o :: rest = picks l (p :: π)) (hp : p.1 < l.toArray.size) : l.toArray[p.1]? = some o ∧ rest = picks l π := by
  simp only [picks, List.cons.injEq] at h
  refine ⟨?_, h.2⟩
  rw [h.1]
  simp only [List.size_toArray] at hp
  simp [hp]
/-- An operation that only reads. -/
theorem s_val (h : ∀ w, Wd w0 (vis md H) w → OX P n f op ty w v w) (k : SH (nx md) P n ops Q rest (upd f d v) w0 H) : SH md P n ops Q (⟨some d, op, ty, pos, aft, none⟩ :: rest) f w0 H := ⟨by
  cases md with
  | seq => exact fun w hw => wl_val (h w hw) (k.out w hw)
  | quiet => exact fun w hw => wq_val (fun w' he => h w' (hw.step he)) (k.out w hw)
  | held HS π L =>
    intro h1 h2 h3 h4 w hw hs
    cases π with
    | nil => simp [picks] at h4
    | cons p π =>
      obtain ⟨i, b⟩ := p
      obtain ⟨hi, hr⟩ := picks_head h4 (h3 _ (by simp))
      simp only [Array.toArray_toList] at hi
      have hk : okB ops (L.set i true) π = true := by cases b <;> simp only [okB, Bool.and_eq_true] at h1 <;> exact h1.2
      have key := k.out hk h2 (fun p hp => h3 p (by simp [hp])) hr w hw hs
      have hrun : ∀ w, Wd w0 HS w → (execOp (rep n f).eval ⟨some d, op, ty, pos, aft, none⟩).run P w = .ok (.value v) w := fun w hw => by rw [rep_eval]; exact h w hw _ _ _ _
      have hy : YieldsIf P ops (Wd w0 HS) ⟨some d, op, ty, pos, aft, none⟩ v (rep n f) := .inl ⟨rfl, hrun⟩
      cases b with
      | true =>
        simp only [okB, Bool.and_eq_true] at h1
        refine wpAnyH_take (i := i) hi h2 h1.1.1 h1.1.2 (fun c a w hq => ?_) hy hs ?_
        · obtain ⟨_, _, _, hq, _⟩ := hq; exact hq.elim
        · rw [rep_put]; simpa using key
      | false =>
        simp only [okB, Bool.and_eq_true, beq_iff_eq] at h1
        refine wpAnyH_all h1.1 (by simp) fun j hj => ?_
        obtain rfl := List.mem_singleton.1 hj
        exact hy.wpOp hi hs ⟨hs, by rw [rep_put]; simpa using key⟩⟩
/-- An operation that makes memory. -/
theorem s_add {o : Oper} (hm : addOK md = true) (h : ∀ w, Wd w0 H w → WL P n ops (postK fun f' w' => Ext w w' ∧ ∃ H', SH (nx md) P n ops Q rest f' w0 H' ∧ Wd w0 H' w') [o] f w) : SH md P n ops Q (o :: rest) f w0 H := ⟨by
  cases md with
  | seq => exact fun w hw => op1_seq (h w hw) fun f' w' ⟨_, H', h1, h2⟩ => h1.out w' h2
  | quiet => cases hm
  | held HS π L =>
    intro h1 h2 h3 h4 w hw hs
    cases π with
    | nil => simp [picks] at h4
    | cons p π =>
      obtain ⟨i, b⟩ := p
      obtain ⟨hi, hr⟩ := picks_head h4 (h3 _ (by simp))
      simp only [Array.toArray_toList] at hi
      cases b with
      | true => cases hm
      | false =>
        simp only [okB, Bool.and_eq_true, beq_iff_eq] at h1
        refine wpAnyH_all h1.1 (by simp) fun j hj => ?_
        obtain rfl := List.mem_singleton.1 hj
        refine op1_any hi (h w hw) fun f' w' ⟨he, H', k, hw'⟩ => ⟨hs.step he, ?_⟩
        have := k.out h1.2 h2 (fun p hp => h3 p (by simp [hp])) hr w' hw' (hs.step he)
        simpa using this⟩
/-- The pieces that are read are there still. -/
def keeps : Md → List HP → Prop
  | .held HS _ _, H => Ent H HS
  | _, _ => True
/-- An operation that writes. -/
theorem s_mut {o : Oper} (hm : addOK md = true) (h : ∀ w, Wd w0 H w → WL P n ops (postK fun f' w' => ∃ H', keeps md H' ∧ SH (nx md) P n ops Q rest f' w0 H' ∧ Wd w0 H' w') [o] f w) : SH md P n ops Q (o :: rest) f w0 H := ⟨by
  cases md with
  | seq => exact fun w hw => op1_seq (h w hw) fun f' w' ⟨H', _, h1, h2⟩ => h1.out w' h2
  | quiet => cases hm
  | held HS π L =>
    intro h1 h2 h3 h4 w hw hs
    cases π with
    | nil => simp [picks] at h4
    | cons p π =>
      obtain ⟨i, b⟩ := p
      obtain ⟨hi, hr⟩ := picks_head h4 (h3 _ (by simp))
      simp only [Array.toArray_toList] at hi
      cases b with
      | true => cases hm
      | false =>
        simp only [okB, Bool.and_eq_true, beq_iff_eq] at h1
        refine wpAnyH_all h1.1 (by simp) fun j hj => ?_
        obtain rfl := List.mem_singleton.1 hj
        refine op1_any hi (h w hw) fun f' w' ⟨H', he, k, hw'⟩ => ⟨Ent.wd he hw', ?_⟩
        have := k.out h1.2 h2 (fun p hp => h3 p (by simp [hp])) hr w' hw' (Ent.wd he hw')
        simpa using this⟩
end
end Go.Fw
