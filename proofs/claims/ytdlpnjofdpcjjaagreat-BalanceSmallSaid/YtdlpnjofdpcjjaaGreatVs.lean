/- One rule a kind of operation, for the three kinds of regions: in the text's order; any order, all operations only reading; any order, some operations making memory. -/
import Derived.Test.YtdlpnjofdpcjjaaGreatVv
namespace Go.Fw
open Go.RowKit

def postK (K : Fr → World → Prop) : Exit → Fr → World → Prop := fun e f w => e = .normal ∧ K f w
theorem opwp_any {P : Program} {o : Oper} {a : Act} {w : World} {K K' : Act → World → Prop} {Q1 Q2 : Exit → Act → World → Prop} (hp : ∀ c a w, ¬ Q1 (.panic c) a w) (hl : ¬ LetsOut Q1) (h : ∀ a w, K a w → K' a w)
    (hh : o.wp P a w K Q1) : o.wp P a w K' Q2 := by
  unfold Oper.wp at *
  generalize (execOp a.eval o).run P w = r at *
  cases r with
  | ok n w' =>
    cases n <;> simp only [Oper.upon] at hh ⊢ <;>
      first
        | exact h _ _ hh
        | exact Calls.mono hh (fun e w'' he => by cases e <;> first | exact h _ _ he | exact (hp _ _ _ he).elim | exact (hl he).elim)
        | exact Rows.mono hh (fun _ _ he => h _ _ he)
  | halt x w' => cases x <;> simp only [Oper.upon] at hh ⊢ <;> exact (hp _ _ _ hh).elim
section
variable {P : Program} {n : Nat} {f : Fr} {w : World} {ops : Array Oper} {rest : List Oper} {o : Oper} {K : Fr → World → Prop} {Q : Exit → Fr → World → Prop}
theorem postK_panic (c : _) (a : Act) (w : World) : ¬ lift n (postK K) (.panic c) a w := fun ⟨_, _, h, _⟩ => by cases h
theorem postK_out : ¬ LetsOut (lift n (postK K)) := fun ⟨_, _, _, _, h, _⟩ => by cases h
theorem op1_seq (h : WL P n ops (postK K) [o] f w) (k : ∀ f w, K f w → WL P n ops Q rest f w) : WL P n ops Q (o :: rest) f w := by
  constructor
  have h := h.out
  unfold wpList at *
  split
  · rename_i hw
    rw [if_pos hw] at h
    rcases h with h | ⟨_, h⟩
    · exact .inl (opwp_any postK_panic postK_out (fun a w ⟨f', ha, _, hK⟩ => by subst ha; exact (k _ _ hK).out) h)
    · exact (postK_out h).elim
  · rename_i hw
    rw [if_neg hw] at h
    obtain ⟨f', ha, _, hK⟩ := h
    rw [ha]
    exact (k _ _ hK).out
theorem op1_any {i : Nat} {Q' : Exit → Act → World → Prop} {K' : Act → World → Prop} (hi : ops[i]? = some o) (h : WL P n ops (postK K) [o] f w) (k : ∀ f w, K f w → K' (rep n f) w) : wpOp P ops Q' i K' (rep n f) w := by
  have h := h.out
  unfold wpList at h
  unfold wpOp
  simp only [hi]
  split
  · rename_i hw
    rw [if_pos hw] at h
    rcases h with h | ⟨_, h⟩
    · exact .inl (opwp_any postK_panic postK_out (fun a w ⟨f', ha, _, hK⟩ => by subst ha; exact k _ _ hK) h)
    · exact (postK_out h).elim
  · rename_i hw
    rw [if_neg hw] at h
    obtain ⟨f', ha, _, hK⟩ := h
    rw [ha]
    exact k _ _ hK
end

/-! the kinds of regions -/
inductive Md where
  | seq
  | quiet
  | held (HS : List HP) (π : List (Nat × Bool)) (L : List Bool) (alts : List (List (Nat × Bool)))
  | pick (HS : List HP) (i : Nat) (π : List (Nat × Bool)) (L : List Bool)
/-- The order in which the operations are taken; 'true': taken ahead of others, for it only reads; 'false': no other can come up. -/
def okB (ops : Array Oper) : List Bool → List (Nat × Bool) → Bool
  | L, [] => (Region.ready .any ops L.toArray).isEmpty
  | L, (i, true) :: π => Region.free .any ops L.toArray i && (Region.ready .any ops L.toArray).contains i && okB ops (L.set i true) π
  | L, (i, false) :: π => (Region.ready .any ops L.toArray == [i]) && okB ops (L.set i true) π
/-- The same, and behind it some that may come up in any order: an order for each that may come first. -/
def okA (ops : Array Oper) (alts : List (List (Nat × Bool))) : List Bool → List (Nat × Bool) → Bool
  | L, [] => match alts with
    | [] => (Region.ready .any ops L.toArray).isEmpty
    | _ :: _ => (Region.ready .any ops L.toArray == alts.map fun a => (a.headD (0, false)).1) && alts.all fun a => match a with
      | [] => false
      | (i, _) :: π => Nat.beq π.length ((alts.headD []).length - 1) && decide (i < ops.size) && π.all (fun p => decide (p.1 < ops.size)) && okB ops (L.set i true) π
  | L, (i, true) :: π => Region.free .any ops L.toArray i && (Region.ready .any ops L.toArray).contains i && okA ops alts (L.set i true) π
  | L, (i, false) :: π => (Region.ready .any ops L.toArray == [i]) && okA ops alts (L.set i true) π
def noOper : Oper := ⟨none, .call { callee := .builtin .clear, args := #[], argTypes := #[] }, 0, "", #[], none⟩
def picks (l : List Oper) : List (Nat × Bool) → List Oper
  | [] => []
  | (i, _) :: π => (l[i]?).getD default :: picks l π
def picksA (l : List Oper) (alts : List (List (Nat × Bool))) : List (Nat × Bool) → List Oper
  | [] => match alts with
    | [] => []
    | _ :: _ => [noOper]
  | (i, _) :: π => (l[i]?).getD default :: picksA l alts π
def nx : Md → Md
  | .held HS (p :: π) L alts => .held HS π (L.set p.1 true) alts
  | .pick HS i π L => .held HS π (L.set i true) []
  | m => m
/-- The pieces that may be read. -/
def vis : Md → List HP → List HP
  | .held HS ((_, true) :: _) _ _, _ => HS
  | _, H => H
/-- An operation that makes memory may stand here. -/
def addOK : Md → Bool
  | .seq => true
  | .quiet => false
  | .held _ ((_, false) :: _) _ _ => true
  | .held _ _ _ _ => false
  | .pick _ _ _ _ => true
def noP (Q : HQ) : HQ
  | .normal, f, H => Q .normal f H
  | _, _, _ => False
def fuel (π : List (Nat × Bool)) (alts : List (List (Nat × Bool))) : Nat := π.length + (alts.headD []).length
def SHD (P : Program) (n : Nat) (ops : Array Oper) (Q : HQ) (l : List Oper) (f : Fr) (w0 : World) (H : List HP) : Md → Prop
  | .seq => ∀ w, Wd w0 H w → WL P n ops (low w0 Q) l f w
  | .quiet => ∀ w, Wd w0 H w → WQ P n ops w (fun f' => Q .normal f' H) l f
  | .held HS π L alts => okA ops alts L π = true → Region.noSelect ops = true → (∀ p ∈ π, p.1 < ops.size) → l = picksA ops.toList alts π → ∀ w, Wd w0 H w → Wd w0 HS w → wpAnyH P .any ops (lift n (low w0 (noP Q))) (Wd w0 HS) (fuel π alts) L.toArray (rep n f) w
  | .pick HS i π L => okA ops [] (L.set i true) π = true → Region.noSelect ops = true → i < ops.size → (∀ p ∈ π, p.1 < ops.size) → l = picks ops.toList ((i, false) :: π) → ∀ w, Wd w0 H w → Wd w0 HS w →
      wpOp P ops (lift n (low w0 (noP Q))) i (fun a' w' => Wd w0 HS w' ∧ wpAnyH P .any ops (lift n (low w0 (noP Q))) (Wd w0 HS) π.length (L.set i true).toArray a' w') (rep n f) w
structure SH (md : Md) (P : Program) (n : Nat) (ops : Array Oper) (Q : HQ) (l : List Oper) (f : Fr) (w0 : World) (H : List HP) : Prop where
  out : SHD P n ops Q l f w0 H md
theorem okA_nil (ops : Array Oper) : ∀ (π : List (Nat × Bool)) (L : List Bool), okA ops [] L π = okB ops L π
  | [], L => rfl
  | (i, true) :: π, L => by simp only [okA, okB, okA_nil ops π]
  | (i, false) :: π, L => by simp only [okA, okB, okA_nil ops π]
theorem picksA_nil (l : List Oper) : ∀ π : List (Nat × Bool), picksA l [] π = picks l π
  | [] => rfl
  | p :: π => by simp only [picksA, picks, picksA_nil l π]

section
variable {md : Md} {P : Program} {n : Nat} {Q : HQ} {f : Fr} {w0 : World} {H R : List HP} {ops : Array Oper} {rest : List Oper} {d : Nat} {op : Op} {ty : TypeId} {pos : String} {aft : Array Edge} {v : Value} {x y c : Operand}
theorem r_seq {id : Nat} {l : List Oper} (h : SH .seq P n l.toArray Q l f w0 H) : VH P n (.region id l.toArray false) Q f w0 H := ⟨fun w hw => w_region (h.out w hw)⟩
theorem r_quiet {id : Nat} {l : List Oper} (hm : P.follows .mixedOrders = true) (hB : Region.lexB .any l.toArray = true) (h : SH .quiet P n l.toArray Q l f w0 H) : VH P n (.region id l.toArray true) Q f w0 H :=
  ⟨fun w hw => w_quiet hm hB ((h.out w hw).mono fun _ hq _ he => ⟨H, hq, hw.step he⟩)⟩
theorem r_heldA {id : Nat} {l : List Oper} (HS : List HP) (π : List (Nat × Bool)) (alts : List (List (Nat × Bool))) (hm : P.follows .mixedOrders = true) (hB : (okA l.toArray alts (List.replicate l.length false) π && Region.noSelect l.toArray && π.all (fun p => decide (p.1 < l.toArray.size)) && decide (fuel π alts = l.length)) = true) (he : Ent H HS)
    (h : SH (.held HS π (List.replicate l.length false) alts) P n l.toArray Q (picksA l alts π) f w0 H) : VH P n (.region id l.toArray true) Q f w0 H := by
  simp only [Bool.and_eq_true, List.all_eq_true, decide_eq_true_eq] at hB
  obtain ⟨⟨⟨h1, h2⟩, h3⟩, h4⟩ := hB
  refine ⟨fun w hw => ⟨Go.wp_mono (Q := lift n (low w0 (noP Q))) (wp_region_held (S := Wd w0 HS) hm ?_) (fun e a w' hq => ?_)⟩⟩
  · have hw' : Wd w0 H { w with drawn := w.drawn + 1 } := hw.step (Ext.drew w)
    have := h.out h1 h2 (fun p hp => h3 p hp) (by simp) _ hw' (he.wd hw')
    rw [h4] at this
    simpa using this
  · obtain ⟨f', ha, H', hn, hw'⟩ := hq
    cases e <;> first | exact ⟨f', ha, H', hn, hw'⟩ | exact hn.elim
theorem r_held {id : Nat} {l : List Oper} (HS : List HP) (π : List (Nat × Bool)) (hm : P.follows .mixedOrders = true) (hB : (okA l.toArray [] (List.replicate l.length false) π && Region.noSelect l.toArray && π.all (fun p => decide (p.1 < l.toArray.size)) && decide (fuel π [] = l.length)) = true) (he : Ent H HS)
    (h : SH (.held HS π (List.replicate l.length false) []) P n l.toArray Q (picksA l [] π) f w0 H) : VH P n (.region id l.toArray true) Q f w0 H := r_heldA HS π [] hm hB he h
theorem s_nil (h : Q .normal f H) : SH md P n ops Q [] f w0 H := ⟨by
  cases md with
  | seq => exact fun _ hw => wl_nil ⟨H, h, hw⟩
  | quiet => exact fun _ _ => wq_nil h
  | held HS π L alts =>
    intro h1 _ _ h4 w hw hs
    cases π with
    | nil =>
      cases alts with
      | nil =>
        simp only [okA, List.isEmpty_iff] at h1
        exact wpAnyH_done h1 ⟨f, rfl, H, h, hw⟩ _
      | cons a alts => simp [picksA] at h4
    | cons p π => simp [picksA] at h4
  | pick HS i π L =>
    intro _ _ _ _ h4
    simp [picks] at h4⟩
theorem picksA_head {l : List Oper} {alts : List (List (Nat × Bool))} {o : Oper} {rest : List Oper} {p : Nat × Bool} {π : List (Nat × Bool)} (h : o :: rest = picksA l alts (p :: π)) (hp : p.1 < l.toArray.size) : l.toArray[p.1]? = some o ∧ rest = picksA l alts π := by
  simp only [picksA, List.cons.injEq] at h
  refine ⟨?_, h.2⟩
  rw [h.1]
  simp only [List.size_toArray] at hp
  simp [hp]
theorem fuel_cons (p : Nat × Bool) (π : List (Nat × Bool)) (alts : List (List (Nat × Bool))) : fuel (p :: π) alts = fuel π alts + 1 := by simp only [fuel, List.length_cons]; omega
/-- An operation that is chosen, or forced. -/
theorem s_op {o : Oper} {K : Fr → List HP → Prop} (hm : addOK md = true) (h : ∀ w, Wd w0 H w → WL P n ops (postK fun f' w' => ∃ H', K f' H' ∧ Wd w0 H' w') [o] f w)
    (k : ∀ f' H', K f' H' → SH (nx md) P n ops Q rest f' w0 H') (hk : ∀ HS π L alts, md = .held HS π L alts → ∀ w, Wd w0 H w → Wd w0 HS w → WL P n ops (postK fun f' w' => Wd w0 HS w' ∧ ∃ H', K f' H' ∧ Wd w0 H' w') [o] f w)
    (hk2 : ∀ HS i π L, md = .pick HS i π L → ∀ w, Wd w0 H w → Wd w0 HS w → WL P n ops (postK fun f' w' => Wd w0 HS w' ∧ ∃ H', K f' H' ∧ Wd w0 H' w') [o] f w) : SH md P n ops Q (o :: rest) f w0 H := ⟨by
  cases md with
  | seq => exact fun w hw => op1_seq (h w hw) fun f' w' ⟨H', h1, h2⟩ => (k f' H' h1).out w' h2
  | quiet => cases hm
  | held HS π L alts =>
    intro h1 h2 h3 h4 w hw hs
    cases π with
    | nil => cases hm
    | cons p π =>
      obtain ⟨i, b⟩ := p
      obtain ⟨hi, hr⟩ := picksA_head h4 (h3 _ (by simp))
      simp only [Array.toArray_toList] at hi
      cases b with
      | true => cases hm
      | false =>
        simp only [okA, Bool.and_eq_true, beq_iff_eq] at h1
        rw [fuel_cons]
        refine wpAnyH_all h1.1 (by simp) fun j hj => ?_
        obtain rfl := List.mem_singleton.1 hj
        refine op1_any hi (hk _ _ _ _ rfl w hw hs) fun f' w' ⟨hs', H', kk, hw'⟩ => ⟨hs', ?_⟩
        have := (k f' H' kk).out h1.2 h2 (fun p hp => h3 p (by simp [hp])) hr w' hw' hs'
        simpa using this
  | pick HS i π L =>
    intro h1 h2 h3 h3b h4 w hw hs
    simp only [picks, List.cons.injEq] at h4
    have hi : ops[i]? = some o := by rw [h4.1]; simp [h3]
    refine op1_any hi (hk2 _ _ _ _ rfl w hw hs) fun f' w' ⟨hs', H', kk, hw'⟩ => ⟨hs', ?_⟩
    have := (k f' H' kk).out h1 h2 h3b (by rw [picksA_nil]; exact h4.2) w' hw' hs'
    simpa [fuel] using this⟩
/-- An operation that only reads. -/
theorem s_val (h : ∀ w, Wd w0 (vis md H) w → OX P n f op ty w v w) (k : SH (nx md) P n ops Q rest (upd f d v) w0 H) : SH md P n ops Q (⟨some d, op, ty, pos, aft, none⟩ :: rest) f w0 H := by
  by_cases ha : addOK md = true ∧ vis md H = H
  · obtain ⟨ha, hvis⟩ := ha
    rw [hvis] at h
    exact s_op (K := fun f' H' => f' = upd f d v ∧ H' = H) ha (fun w hw => wl_val (h w hw) (wl_nil ⟨rfl, H, ⟨rfl, rfl⟩, hw⟩)) (fun f' H' ⟨h1, h2⟩ => by subst h1 h2; exact k)
      (fun HS π L alts _ w hw hs => wl_val (h w hw) (wl_nil ⟨rfl, hs, H, ⟨rfl, rfl⟩, hw⟩)) (fun HS i π L _ w hw hs => wl_val (h w hw) (wl_nil ⟨rfl, hs, H, ⟨rfl, rfl⟩, hw⟩))
  · refine ⟨?_⟩
    cases md with
    | seq => exact (ha ⟨rfl, rfl⟩).elim
    | quiet => exact fun w hw => wq_val (fun w' he => h w' (hw.step he)) (k.out w hw)
    | pick HS i π L => exact (ha ⟨rfl, rfl⟩).elim
    | held HS π L alts =>
      intro h1 h2 h3 h4 w hw hs
      cases π with
      | nil =>
        cases alts with
        | nil => simp [picksA] at h4
        | cons a alts => simp only [picksA, noOper, List.cons.injEq, Oper.mk.injEq] at h4; simp at h4
      | cons p π =>
        obtain ⟨i, b⟩ := p
        obtain ⟨hi, hr⟩ := picksA_head h4 (h3 _ (by simp))
        simp only [Array.toArray_toList] at hi
        cases b with
        | true =>
          simp only [okA, Bool.and_eq_true] at h1
          have key := k.out h1.2 h2 (fun p hp => h3 p (by simp [hp])) hr w hw hs
          have hrun : ∀ w, Wd w0 HS w → (execOp (rep n f).eval ⟨some d, op, ty, pos, aft, none⟩).run P w = .ok (.value v) w := fun w hw => by rw [rep_eval]; exact h w hw _ _ _ _
          have hy : YieldsIf P ops (Wd w0 HS) ⟨some d, op, ty, pos, aft, none⟩ v (rep n f) := .inl ⟨rfl, hrun⟩
          rw [fuel_cons]
          refine wpAnyH_take (i := i) hi h2 h1.1.1 h1.1.2 (fun c a w hq => ?_) hy hs ?_
          · obtain ⟨_, _, _, hq, _⟩ := hq; exact hq.elim
          · rw [rep_put]; simpa using key
        | false => exact (ha ⟨rfl, rfl⟩).elim
/-- An operation that makes memory. -/
theorem s_add {o : Oper} (hm : addOK md = true) (h : ∀ w, Wd w0 H w → WL P n ops (postK fun f' w' => Ext w w' ∧ ∃ H', SH (nx md) P n ops Q rest f' w0 H' ∧ Wd w0 H' w') [o] f w) : SH md P n ops Q (o :: rest) f w0 H :=
  s_op (K := fun f' H' => SH (nx md) P n ops Q rest f' w0 H') hm (fun w hw => op1_seq (h w hw) fun f' w' ⟨_, h2⟩ => wl_nil ⟨rfl, h2⟩) (fun _ _ h => h)
    (fun HS π L alts _ w hw hs => op1_seq (h w hw) fun f' w' ⟨he, h2⟩ => wl_nil ⟨rfl, hs.step he, h2⟩) (fun HS i π L _ w hw hs => op1_seq (h w hw) fun f' w' ⟨he, h2⟩ => wl_nil ⟨rfl, hs.step he, h2⟩)
/-- The pieces that are read are there still. -/
def keeps : Md → List HP → Prop
  | .held HS _ _ _, H => Ent H HS
  | .pick HS _ _ _, H => Ent H HS
  | _, _ => True
/-- An operation that writes. -/
theorem s_mut {o : Oper} (hm : addOK md = true) (h : ∀ w, Wd w0 H w → WL P n ops (postK fun f' w' => ∃ H', keeps md H' ∧ SH (nx md) P n ops Q rest f' w0 H' ∧ Wd w0 H' w') [o] f w) : SH md P n ops Q (o :: rest) f w0 H :=
  s_op (K := fun f' H' => keeps md H' ∧ SH (nx md) P n ops Q rest f' w0 H') hm (fun w hw => op1_seq (h w hw) fun f' w' ⟨H', h1, h2, h3⟩ => wl_nil ⟨rfl, H', ⟨h1, h2⟩, h3⟩) (fun _ _ h => h.2)
    (fun HS π L alts e w hw hs => op1_seq (h w hw) fun f' w' ⟨H', h1, h2, h3⟩ => wl_nil ⟨rfl, by subst e; exact Ent.wd h1 h3, H', ⟨h1, h2⟩, h3⟩) (fun HS i π L e w hw hs => op1_seq (h w hw) fun f' w' ⟨H', h1, h2, h3⟩ => wl_nil ⟨rfl, by subst e; exact Ent.wd h1 h3, H', ⟨h1, h2⟩, h3⟩)
/-- Two operations may come up: both orders are walked. -/
theorem s_fork {HS : List HP} {i j : Nat} {π1 π2 : List (Nat × Bool)} {b1 b2 : Bool} {L : List Bool} {l : List Oper} (h1 : SH (.pick HS i π1 L) P n l.toArray Q (picks l ((i, false) :: π1)) f w0 H) (h2 : SH (.pick HS j π2 L) P n l.toArray Q (picks l ((j, false) :: π2)) f w0 H) :
    SH (.held HS [] L [(i, b1) :: π1, (j, b2) :: π2]) P n l.toArray Q [noOper] f w0 H := ⟨fun k1 k2 _ _ w hw hs => by
  simp only [okA, List.map_cons, List.map_nil, List.headD_cons, List.all_cons, List.all_nil, Bool.and_true, Bool.and_eq_true, beq_iff_eq, decide_eq_true_eq, Nat.beq_eq, List.length_cons, Nat.add_sub_cancel] at k1
  obtain ⟨hr, ⟨⟨⟨_, a1⟩, a2⟩, a3⟩, ⟨⟨b0, b1'⟩, b2'⟩, b3⟩ := k1
  have e1 := h1.out (by rw [okA_nil]; exact a3) k2 a1 (fun p hp => by simpa using List.all_eq_true.1 a2 p hp) (by simp) w hw hs
  have e2 := h2.out (by rw [okA_nil]; exact b3) k2 b1' (fun p hp => by simpa using List.all_eq_true.1 b2' p hp) (by simp) w hw hs
  have hf : fuel [] [(i, b1) :: π1, (j, b2) :: π2] = π1.length + 1 := by simp [fuel]
  rw [hf]
  refine wpAnyH_all hr (by simp) fun m hm => ?_
  simp only [List.mem_cons, List.not_mem_nil, or_false] at hm
  rcases hm with rfl | rfl
  · simpa using e1
  · rw [← b0]; simpa using e2⟩
end
end Go.Fw
