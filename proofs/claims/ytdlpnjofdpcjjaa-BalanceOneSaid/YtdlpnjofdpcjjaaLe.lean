/- BalanceEven: what the law's function answers. -/
import Derived.Test.YtdlpnjofdpcjjaaE2
import Derived.Test.YtdlpnjofdpcjjaaMa
namespace Go.Proofs.Ytdlpnjofdpcjjaa
open Go.Fw Go.RowKit
def sq (x : Int) : Int := x * x
def minI (l : List Int) : Int := l.foldl min 1073741824
def maxI (l : List Int) : Int := l.foldl max (-1)
theorem minI_snoc (l : List Int) (x : Int) : minI (l ++ [x]) = min (minI l) x := by simp [minI, List.foldl_append]
theorem maxI_snoc (l : List Int) (x : Int) : maxI (l ++ [x]) = max (maxI l) x := by simp [maxI, List.foldl_append]
theorem minI_spec (l : List Int) : minI l ≤ 1073741824 ∧ (∀ x ∈ l, minI l ≤ x) ∧ (minI l = 1073741824 ∨ minI l ∈ l) := by
  have key : ∀ (l : List Int) (m : Int), l.foldl min m ≤ m ∧ (∀ x ∈ l, l.foldl min m ≤ x) ∧ (l.foldl min m = m ∨ l.foldl min m ∈ l) := by
    intro l
    induction l with
    | nil => intro m; exact ⟨Int.le_refl _, fun x h => by simp at h, .inl rfl⟩
    | cons y l ih =>
      intro m
      obtain ⟨h1, h2, h3⟩ := ih (min m y)
      simp only [List.foldl_cons]
      refine ⟨by omega, fun x hx => ?_, ?_⟩
      · rcases List.mem_cons.1 hx with rfl | hx
        · omega
        · exact h2 x hx
      · rcases h3 with h3 | h3
        · rcases Int.le_total m y with h | h
          · left; rw [h3]; omega
          · right; rw [h3, show min m y = y by omega]; simp
        · exact .inr (List.mem_cons_of_mem _ h3)
  exact key l _
theorem maxI_spec (l : List Int) : -1 ≤ maxI l ∧ (∀ x ∈ l, x ≤ maxI l) ∧ (maxI l = -1 ∨ maxI l ∈ l) := by
  have key : ∀ (l : List Int) (m : Int), m ≤ l.foldl max m ∧ (∀ x ∈ l, x ≤ l.foldl max m) ∧ (l.foldl max m = m ∨ l.foldl max m ∈ l) := by
    intro l
    induction l with
    | nil => intro m; exact ⟨Int.le_refl _, fun x h => by simp at h, .inl rfl⟩
    | cons y l ih =>
      intro m
      obtain ⟨h1, h2, h3⟩ := ih (max m y)
      simp only [List.foldl_cons]
      refine ⟨by omega, fun x hx => ?_, ?_⟩
      · rcases List.mem_cons.1 hx with rfl | hx
        · omega
        · exact h2 x hx
      · rcases h3 with h3 | h3
        · rcases Int.le_total m y with h | h
          · right; rw [h3, show max m y = y by omega]; simp
          · left; rw [h3]; omega
        · exact .inr (List.mem_cons_of_mem _ h3)
  exact key l _
set_option maxRecDepth 100000 in
theorem sum_spec (A : Option Addr) (l : List Int) (cp : Nat) (w : World) (hl : l.length ≤ 10) (hb : ∀ k, 0 ≤ l.getD k 0 ∧ l.getD k 0 ≤ 1000) (hr : Rd w A l) :
    Ret Try.prog 19 [.slice A l.length cp].toArray w (Out w (.tuple #[.int .i64 l.sum, .int .i64 (l.map sq).sum])) := by
  refine enterH Try.func19 rfl rfl Try.ntmps19 rfl (Wd.refl _) ?_
  (repeat' (first | (show VH _ _ _ _ _ _ _; first | refine v_seq ?_ | refine r_seq ?_ | refine r_quiet hmix (by kernel_rfl) ?_ | refine v_block ?_ | refine v_ret ?_ | refine v_skip ?_ | refine v_exit ?_ | refine v_label ?_ | refine v_cond_t rfl (by first | with_reducible rfl | assumption | exact dt (by assumption) | exact df (by assumption) | exact dt (by omega) | exact df (by omega) | exact nt (by first | with_reducible rfl | assumption | exact df (by omega)) | exact nf (by first | with_reducible rfl | assumption | exact dt (by omega))) ?_ | refine v_cond_f rfl (by first | with_reducible rfl | assumption | exact dt (by assumption) | exact df (by assumption) | exact dt (by omega) | exact df (by omega) | exact nt (by first | with_reducible rfl | assumption | exact df (by omega)) | exact nf (by first | with_reducible rfl | assumption | exact dt (by omega))) ?_ | refine v_cond_dec rfl (fun h => ?_) (fun h => ?_) | refine v_cond_ndec rfl (fun h => ?_) (fun h => ?_) | refine v_cond rfl (fun h => ?_) (fun h => ?_)) | (show SH _ _ _ _ _ (_ :: _) _ _ _; first | (show SH _ _ _ _ _ (⟨_, .move _, _, _, _, _⟩ :: _) _ _ _; first | refine mov (by conv => lhs; whnf) ?_) | (show SH _ _ _ _ _ (⟨_, .assign _, _, _, _, _⟩ :: _) _ _ _; first | refine asg (by conv => lhs; whnf) ?_) | (show SH _ _ _ _ _ (⟨_, .binOp _ _ _ _ _, _, _, _, _⟩ :: _) _ _ _; first | refine add rfl rfl (by constructor <;> omega) ?_ | refine lss rfl rfl ?_ | refine mul rfl rfl (by constructor <;> omega) ?_) | (show SH _ _ _ _ _ (⟨_, .load _ _, _, _, _, _⟩ :: _) _ _ _; first | refine lin rfl (fun w hw => by first | exact Rd.ext (by assumption) hw.ext | exact Wd.rd hw (by iterate 24 (try first | exact Split.head | apply Split.tail)) | exact Wd.rd1 hw (by iterate 24 (try first | exact Split.head | apply Split.tail)) | exact Wd.rd2 hw (by iterate 24 (try first | exact Split.head | apply Split.tail))) (by first | omega | decide) ?_ | refine lbx rfl (by iterate 24 (try first | exact Split.head | apply Split.tail)) (by rfl) ?_ | refine lba rfl (by iterate 24 (try first | exact Split.head | apply Split.tail)) (by rfl) ?_ | refine lbi rfl (by iterate 24 (try first | exact Split.head | apply Split.tail)) (by first | omega | decide) ?_ | refine lr1 rfl (fun w hw => by first | exact Rd.ext (by assumption) hw.ext | exact Wd.rd hw (by iterate 24 (try first | exact Split.head | apply Split.tail)) | exact Wd.rd1 hw (by iterate 24 (try first | exact Split.head | apply Split.tail)) | exact Wd.rd2 hw (by iterate 24 (try first | exact Split.head | apply Split.tail))) (by rfl) (by first | omega | decide) (by rfl) ?_ | refine lra rfl (fun w hw => by first | exact Rd.ext (by assumption) hw.ext | exact Wd.rd hw (by iterate 24 (try first | exact Split.head | apply Split.tail)) | exact Wd.rd1 hw (by iterate 24 (try first | exact Split.head | apply Split.tail)) | exact Wd.rd2 hw (by iterate 24 (try first | exact Split.head | apply Split.tail))) (by rfl) (by first | omega | decide) ?_ | refine lrf rfl (fun w hw => by first | exact Rd.ext (by assumption) hw.ext | exact Wd.rd hw (by iterate 24 (try first | exact Split.head | apply Split.tail)) | exact Wd.rd1 hw (by iterate 24 (try first | exact Split.head | apply Split.tail)) | exact Wd.rd2 hw (by iterate 24 (try first | exact Split.head | apply Split.tail))) (by rfl) (by first | omega | decide) (by rfl) ?_ | refine lcell rfl (fun w hw => hw.ext.cell (by assumption)) ?_) | (show SH _ _ _ _ _ (⟨_, .indexAddr _ _ _, _, _, _, _⟩ :: _) _ _ _; first | refine ix rfl rfl (by with_reducible rfl) (fun w hw => by first | exact Rd.ext (by assumption) hw.ext | exact Wd.rd hw (by iterate 24 (try first | exact Split.head | apply Split.tail)) | exact Wd.rd1 hw (by iterate 24 (try first | exact Split.head | apply Split.tail)) | exact Wd.rd2 hw (by iterate 24 (try first | exact Split.head | apply Split.tail))) (by rfl) (by first | omega | decide) (by first | omega | decide) ?_ | refine ixi rfl rfl (fun w hw => by first | exact Rd.ext (by assumption) hw.ext | exact Wd.rd hw (by iterate 24 (try first | exact Split.head | apply Split.tail)) | exact Wd.rd1 hw (by iterate 24 (try first | exact Split.head | apply Split.tail)) | exact Wd.rd2 hw (by iterate 24 (try first | exact Split.head | apply Split.tail))) (by rfl) (by first | omega | decide) (by first | omega | decide) (by first | omega | decide) ?_ | refine ixb rfl rfl (by first | omega | decide) ?_) | (show SH _ _ _ _ _ (⟨_, .call ⟨.builtin _, _, _⟩, _, _, _, _⟩ :: _) _ _ _; first | refine slen rfl ?_)) | refine s_nil ?_ | refine kh_normal ?_ | refine kh_ret ?_ | refine kh_exit ?_ | refine bh_normal ?_ | refine bh_ret ?_ | refine bh_exit ?_ | refine bh_exit_ne rfl ?_))
  refine v_loop0 [(4,5),(7,7),(10,22)] (fun y : Nat × Int × Int => [(10, .int .i64 y.1), (4, .int .i64 y.2.1), (5, .int .i64 y.2.2)]) (fun y => y.1 ≤ l.length ∧ y.2.1 = (l.take y.1).sum ∧ y.2.2 = ((l.take y.1).map sq).sum ∧ 0 ≤ y.2.1 ∧ y.2.1 ≤ 1000 * y.1 ∧ 0 ≤ y.2.2 ∧ y.2.2 ≤ 1000000 * y.1) (fun y => l.length - y.1) (0, 0, 0) (by (repeat (first | exact trivial | refine And.intro rfl ?_))) ⟨Nat.zero_le _, rfl, rfl, by simp, by simp, by simp, by simp⟩ ?_
  rintro ⟨k, a, c⟩ g ⟨hk, ha, hc, h1, h2, h3, h4⟩
  simp only [sets]
  simp only at hk ha hc h1 h2 h3 h4
  have hx := hb k
  have hxx : 0 ≤ l.getD k 0 * l.getD k 0 ∧ l.getD k 0 * l.getD k 0 ≤ 1000000 := ⟨Int.mul_nonneg hx.1 hx.1, by
    have := Int.mul_le_mul hx.2 hx.2 hx.1 (by omega : (0 : Int) ≤ 1000)
    omega⟩
  (repeat' (first | (show VH _ _ _ _ _ _ _; first | refine v_seq ?_ | refine r_seq ?_ | refine r_quiet hmix (by kernel_rfl) ?_ | refine v_block ?_ | refine v_ret ?_ | refine v_skip ?_ | refine v_exit ?_ | refine v_label ?_ | refine v_cond_t rfl (by first | with_reducible rfl | assumption | exact dt (by assumption) | exact df (by assumption) | exact dt (by omega) | exact df (by omega) | exact nt (by first | with_reducible rfl | assumption | exact df (by omega)) | exact nf (by first | with_reducible rfl | assumption | exact dt (by omega))) ?_ | refine v_cond_f rfl (by first | with_reducible rfl | assumption | exact dt (by assumption) | exact df (by assumption) | exact dt (by omega) | exact df (by omega) | exact nt (by first | with_reducible rfl | assumption | exact df (by omega)) | exact nf (by first | with_reducible rfl | assumption | exact dt (by omega))) ?_ | refine v_cond_dec rfl (fun h => ?_) (fun h => ?_) | refine v_cond_ndec rfl (fun h => ?_) (fun h => ?_) | refine v_cond rfl (fun h => ?_) (fun h => ?_)) | (show SH _ _ _ _ _ (_ :: _) _ _ _; first | (show SH _ _ _ _ _ (⟨_, .move _, _, _, _, _⟩ :: _) _ _ _; first | refine mov (by conv => lhs; whnf) ?_) | (show SH _ _ _ _ _ (⟨_, .assign _, _, _, _, _⟩ :: _) _ _ _; first | refine asg (by conv => lhs; whnf) ?_) | (show SH _ _ _ _ _ (⟨_, .binOp _ _ _ _ _, _, _, _, _⟩ :: _) _ _ _; first | refine add rfl rfl (by constructor <;> omega) ?_ | refine lss rfl rfl ?_ | refine mul rfl rfl (by constructor <;> omega) ?_) | (show SH _ _ _ _ _ (⟨_, .load _ _, _, _, _, _⟩ :: _) _ _ _; first | refine lin rfl (fun w hw => by first | exact Rd.ext (by assumption) hw.ext | exact Wd.rd hw (by iterate 24 (try first | exact Split.head | apply Split.tail)) | exact Wd.rd1 hw (by iterate 24 (try first | exact Split.head | apply Split.tail)) | exact Wd.rd2 hw (by iterate 24 (try first | exact Split.head | apply Split.tail))) (by first | omega | decide) ?_ | refine lbx rfl (by iterate 24 (try first | exact Split.head | apply Split.tail)) (by rfl) ?_ | refine lba rfl (by iterate 24 (try first | exact Split.head | apply Split.tail)) (by rfl) ?_ | refine lbi rfl (by iterate 24 (try first | exact Split.head | apply Split.tail)) (by first | omega | decide) ?_ | refine lr1 rfl (fun w hw => by first | exact Rd.ext (by assumption) hw.ext | exact Wd.rd hw (by iterate 24 (try first | exact Split.head | apply Split.tail)) | exact Wd.rd1 hw (by iterate 24 (try first | exact Split.head | apply Split.tail)) | exact Wd.rd2 hw (by iterate 24 (try first | exact Split.head | apply Split.tail))) (by rfl) (by first | omega | decide) (by rfl) ?_ | refine lra rfl (fun w hw => by first | exact Rd.ext (by assumption) hw.ext | exact Wd.rd hw (by iterate 24 (try first | exact Split.head | apply Split.tail)) | exact Wd.rd1 hw (by iterate 24 (try first | exact Split.head | apply Split.tail)) | exact Wd.rd2 hw (by iterate 24 (try first | exact Split.head | apply Split.tail))) (by rfl) (by first | omega | decide) ?_ | refine lrf rfl (fun w hw => by first | exact Rd.ext (by assumption) hw.ext | exact Wd.rd hw (by iterate 24 (try first | exact Split.head | apply Split.tail)) | exact Wd.rd1 hw (by iterate 24 (try first | exact Split.head | apply Split.tail)) | exact Wd.rd2 hw (by iterate 24 (try first | exact Split.head | apply Split.tail))) (by rfl) (by first | omega | decide) (by rfl) ?_ | refine lcell rfl (fun w hw => hw.ext.cell (by assumption)) ?_) | (show SH _ _ _ _ _ (⟨_, .indexAddr _ _ _, _, _, _, _⟩ :: _) _ _ _; first | refine ix rfl rfl (by with_reducible rfl) (fun w hw => by first | exact Rd.ext (by assumption) hw.ext | exact Wd.rd hw (by iterate 24 (try first | exact Split.head | apply Split.tail)) | exact Wd.rd1 hw (by iterate 24 (try first | exact Split.head | apply Split.tail)) | exact Wd.rd2 hw (by iterate 24 (try first | exact Split.head | apply Split.tail))) (by rfl) (by first | omega | decide) (by first | omega | decide) ?_ | refine ixi rfl rfl (fun w hw => by first | exact Rd.ext (by assumption) hw.ext | exact Wd.rd hw (by iterate 24 (try first | exact Split.head | apply Split.tail)) | exact Wd.rd1 hw (by iterate 24 (try first | exact Split.head | apply Split.tail)) | exact Wd.rd2 hw (by iterate 24 (try first | exact Split.head | apply Split.tail))) (by rfl) (by first | omega | decide) (by first | omega | decide) (by first | omega | decide) ?_ | refine ixb rfl rfl (by first | omega | decide) ?_) | (show SH _ _ _ _ _ (⟨_, .call ⟨.builtin _, _, _⟩, _, _, _, _⟩ :: _) _ _ _; first | refine slen rfl ?_)) | refine s_nil ?_ | refine kh_normal ?_ | refine kh_ret ?_ | refine kh_exit ?_ | refine bh_normal ?_ | refine bh_ret ?_ | refine bh_exit ?_ | refine bh_exit_ne rfl ?_))
  · refine ⟨by (repeat (first | exact agree_mix _ _ _ | exact agree_refl _ _ | refine agree_upd rfl ?_ | refine agree_mix_of rfl ?_)), (k + 1, a + l.getD k 0, c + l.getD k 0 * l.getD k 0), by (repeat (first | exact trivial | refine And.intro rfl ?_)), by (repeat (first | exact ent_refl _ | exact ent_nil _ | refine ent_nilrow ?_ | refine ent_cons (by iterate 24 (try first | exact Split.head | apply Split.tail)) ?_ | refine ent_drop ?_)), ⟨by show k + 1 ≤ _; omega, ?_, ?_, by show 0 ≤ a + _; omega, by show a + _ ≤ 1000 * ((k + 1 : Nat) : Int); omega, by show 0 ≤ c + _; omega, by show c + _ ≤ 1000000 * ((k + 1 : Nat) : Int); omega⟩, by show l.length - (k + 1) < l.length - k; omega⟩
    · show a + _ = (l.take (k + 1)).sum
      rw [takeI (by omega), List.sum_append, ha]; simp
    · show c + _ = ((l.take (k + 1)).map sq).sum
      rw [takeI (by omega), List.map_append, List.sum_append, hc]; simp [sq]
  · have e : k = l.length := by omega
    subst e
    rw [List.take_length] at ha hc
    subst ha hc
    exact rh2 rfl rfl rfl ⟨rfl, rfl⟩ (ent_nil _)
set_option maxRecDepth 100000 in
theorem ends_spec (A : Option Addr) (l : List Int) (cp : Nat) (w : World) (hl : l.length ≤ 10) (hr : Rd w A l) :
    Ret Try.prog 20 [.slice A l.length cp].toArray w (Out w (.tuple #[.int .i64 (minI l), .int .i64 (maxI l)])) := by
  refine enterH Try.func20 rfl rfl Try.ntmps20 rfl (Wd.refl _) ?_
  (repeat' (first | (show VH _ _ _ _ _ _ _; first | refine v_seq ?_ | refine r_seq ?_ | refine r_quiet hmix (by kernel_rfl) ?_ | refine v_block ?_ | refine v_ret ?_ | refine v_skip ?_ | refine v_exit ?_ | refine v_label ?_ | refine v_cond_t rfl (by first | with_reducible rfl | assumption | exact dt (by assumption) | exact df (by assumption) | exact dt (by omega) | exact df (by omega) | exact nt (by first | with_reducible rfl | assumption | exact df (by omega)) | exact nf (by first | with_reducible rfl | assumption | exact dt (by omega))) ?_ | refine v_cond_f rfl (by first | with_reducible rfl | assumption | exact dt (by assumption) | exact df (by assumption) | exact dt (by omega) | exact df (by omega) | exact nt (by first | with_reducible rfl | assumption | exact df (by omega)) | exact nf (by first | with_reducible rfl | assumption | exact dt (by omega))) ?_ | refine v_cond_dec rfl (fun h => ?_) (fun h => ?_) | refine v_cond_ndec rfl (fun h => ?_) (fun h => ?_) | refine v_cond rfl (fun h => ?_) (fun h => ?_)) | (show SH _ _ _ _ _ (_ :: _) _ _ _; first | (show SH _ _ _ _ _ (⟨_, .move _, _, _, _, _⟩ :: _) _ _ _; first | refine mov (by conv => lhs; whnf) ?_) | (show SH _ _ _ _ _ (⟨_, .assign _, _, _, _, _⟩ :: _) _ _ _; first | refine asg (by conv => lhs; whnf) ?_) | (show SH _ _ _ _ _ (⟨_, .binOp _ _ _ _ _, _, _, _, _⟩ :: _) _ _ _; first | refine add rfl rfl (by constructor <;> omega) ?_ | refine lss rfl rfl ?_) | (show SH _ _ _ _ _ (⟨_, .load _ _, _, _, _, _⟩ :: _) _ _ _; first | refine lin rfl (fun w hw => by first | exact Rd.ext (by assumption) hw.ext | exact Wd.rd hw (by iterate 24 (try first | exact Split.head | apply Split.tail)) | exact Wd.rd1 hw (by iterate 24 (try first | exact Split.head | apply Split.tail)) | exact Wd.rd2 hw (by iterate 24 (try first | exact Split.head | apply Split.tail))) (by first | omega | decide) ?_ | refine lbx rfl (by iterate 24 (try first | exact Split.head | apply Split.tail)) (by rfl) ?_ | refine lba rfl (by iterate 24 (try first | exact Split.head | apply Split.tail)) (by rfl) ?_ | refine lbi rfl (by iterate 24 (try first | exact Split.head | apply Split.tail)) (by first | omega | decide) ?_ | refine lr1 rfl (fun w hw => by first | exact Rd.ext (by assumption) hw.ext | exact Wd.rd hw (by iterate 24 (try first | exact Split.head | apply Split.tail)) | exact Wd.rd1 hw (by iterate 24 (try first | exact Split.head | apply Split.tail)) | exact Wd.rd2 hw (by iterate 24 (try first | exact Split.head | apply Split.tail))) (by rfl) (by first | omega | decide) (by rfl) ?_ | refine lra rfl (fun w hw => by first | exact Rd.ext (by assumption) hw.ext | exact Wd.rd hw (by iterate 24 (try first | exact Split.head | apply Split.tail)) | exact Wd.rd1 hw (by iterate 24 (try first | exact Split.head | apply Split.tail)) | exact Wd.rd2 hw (by iterate 24 (try first | exact Split.head | apply Split.tail))) (by rfl) (by first | omega | decide) ?_ | refine lrf rfl (fun w hw => by first | exact Rd.ext (by assumption) hw.ext | exact Wd.rd hw (by iterate 24 (try first | exact Split.head | apply Split.tail)) | exact Wd.rd1 hw (by iterate 24 (try first | exact Split.head | apply Split.tail)) | exact Wd.rd2 hw (by iterate 24 (try first | exact Split.head | apply Split.tail))) (by rfl) (by first | omega | decide) (by rfl) ?_ | refine lcell rfl (fun w hw => hw.ext.cell (by assumption)) ?_) | (show SH _ _ _ _ _ (⟨_, .indexAddr _ _ _, _, _, _, _⟩ :: _) _ _ _; first | refine ix rfl rfl (by with_reducible rfl) (fun w hw => by first | exact Rd.ext (by assumption) hw.ext | exact Wd.rd hw (by iterate 24 (try first | exact Split.head | apply Split.tail)) | exact Wd.rd1 hw (by iterate 24 (try first | exact Split.head | apply Split.tail)) | exact Wd.rd2 hw (by iterate 24 (try first | exact Split.head | apply Split.tail))) (by rfl) (by first | omega | decide) (by first | omega | decide) ?_ | refine ixi rfl rfl (fun w hw => by first | exact Rd.ext (by assumption) hw.ext | exact Wd.rd hw (by iterate 24 (try first | exact Split.head | apply Split.tail)) | exact Wd.rd1 hw (by iterate 24 (try first | exact Split.head | apply Split.tail)) | exact Wd.rd2 hw (by iterate 24 (try first | exact Split.head | apply Split.tail))) (by rfl) (by first | omega | decide) (by first | omega | decide) (by first | omega | decide) ?_ | refine ixb rfl rfl (by first | omega | decide) ?_) | (show SH _ _ _ _ _ (⟨_, .call ⟨.builtin _, _, _⟩, _, _, _, _⟩ :: _) _ _ _; first | refine slen rfl ?_ | refine bmax rfl rfl ?_ | refine bmin rfl rfl ?_)) | refine s_nil ?_ | refine kh_normal ?_ | refine kh_ret ?_ | refine kh_exit ?_ | refine bh_normal ?_ | refine bh_ret ?_ | refine bh_exit ?_ | refine bh_exit_ne rfl ?_))
  refine v_loop0 [(4,5),(7,7),(10,20)] (fun y : Nat × Int × Int => [(10, .int .i64 y.1), (4, .int .i64 y.2.1), (5, .int .i64 y.2.2)]) (fun y => y.1 ≤ l.length ∧ y.2.1 = minI (l.take y.1) ∧ y.2.2 = maxI (l.take y.1)) (fun y => l.length - y.1) (0, 1073741824, -1) (by (repeat (first | exact trivial | refine And.intro rfl ?_))) ⟨Nat.zero_le _, rfl, rfl⟩ ?_
  rintro ⟨k, a, c⟩ g ⟨hk, ha, hc⟩
  simp only [sets]
  simp only at hk ha hc
  (repeat' (first | (show VH _ _ _ _ _ _ _; first | refine v_seq ?_ | refine r_seq ?_ | refine r_quiet hmix (by kernel_rfl) ?_ | refine v_block ?_ | refine v_ret ?_ | refine v_skip ?_ | refine v_exit ?_ | refine v_label ?_ | refine v_cond_t rfl (by first | with_reducible rfl | assumption | exact dt (by assumption) | exact df (by assumption) | exact dt (by omega) | exact df (by omega) | exact nt (by first | with_reducible rfl | assumption | exact df (by omega)) | exact nf (by first | with_reducible rfl | assumption | exact dt (by omega))) ?_ | refine v_cond_f rfl (by first | with_reducible rfl | assumption | exact dt (by assumption) | exact df (by assumption) | exact dt (by omega) | exact df (by omega) | exact nt (by first | with_reducible rfl | assumption | exact df (by omega)) | exact nf (by first | with_reducible rfl | assumption | exact dt (by omega))) ?_ | refine v_cond_dec rfl (fun h => ?_) (fun h => ?_) | refine v_cond_ndec rfl (fun h => ?_) (fun h => ?_) | refine v_cond rfl (fun h => ?_) (fun h => ?_)) | (show SH _ _ _ _ _ (_ :: _) _ _ _; first | (show SH _ _ _ _ _ (⟨_, .move _, _, _, _, _⟩ :: _) _ _ _; first | refine mov (by conv => lhs; whnf) ?_) | (show SH _ _ _ _ _ (⟨_, .assign _, _, _, _, _⟩ :: _) _ _ _; first | refine asg (by conv => lhs; whnf) ?_) | (show SH _ _ _ _ _ (⟨_, .binOp _ _ _ _ _, _, _, _, _⟩ :: _) _ _ _; first | refine add rfl rfl (by constructor <;> omega) ?_ | refine lss rfl rfl ?_) | (show SH _ _ _ _ _ (⟨_, .load _ _, _, _, _, _⟩ :: _) _ _ _; first | refine lin rfl (fun w hw => by first | exact Rd.ext (by assumption) hw.ext | exact Wd.rd hw (by iterate 24 (try first | exact Split.head | apply Split.tail)) | exact Wd.rd1 hw (by iterate 24 (try first | exact Split.head | apply Split.tail)) | exact Wd.rd2 hw (by iterate 24 (try first | exact Split.head | apply Split.tail))) (by first | omega | decide) ?_ | refine lbx rfl (by iterate 24 (try first | exact Split.head | apply Split.tail)) (by rfl) ?_ | refine lba rfl (by iterate 24 (try first | exact Split.head | apply Split.tail)) (by rfl) ?_ | refine lbi rfl (by iterate 24 (try first | exact Split.head | apply Split.tail)) (by first | omega | decide) ?_ | refine lr1 rfl (fun w hw => by first | exact Rd.ext (by assumption) hw.ext | exact Wd.rd hw (by iterate 24 (try first | exact Split.head | apply Split.tail)) | exact Wd.rd1 hw (by iterate 24 (try first | exact Split.head | apply Split.tail)) | exact Wd.rd2 hw (by iterate 24 (try first | exact Split.head | apply Split.tail))) (by rfl) (by first | omega | decide) (by rfl) ?_ | refine lra rfl (fun w hw => by first | exact Rd.ext (by assumption) hw.ext | exact Wd.rd hw (by iterate 24 (try first | exact Split.head | apply Split.tail)) | exact Wd.rd1 hw (by iterate 24 (try first | exact Split.head | apply Split.tail)) | exact Wd.rd2 hw (by iterate 24 (try first | exact Split.head | apply Split.tail))) (by rfl) (by first | omega | decide) ?_ | refine lrf rfl (fun w hw => by first | exact Rd.ext (by assumption) hw.ext | exact Wd.rd hw (by iterate 24 (try first | exact Split.head | apply Split.tail)) | exact Wd.rd1 hw (by iterate 24 (try first | exact Split.head | apply Split.tail)) | exact Wd.rd2 hw (by iterate 24 (try first | exact Split.head | apply Split.tail))) (by rfl) (by first | omega | decide) (by rfl) ?_ | refine lcell rfl (fun w hw => hw.ext.cell (by assumption)) ?_) | (show SH _ _ _ _ _ (⟨_, .indexAddr _ _ _, _, _, _, _⟩ :: _) _ _ _; first | refine ix rfl rfl (by with_reducible rfl) (fun w hw => by first | exact Rd.ext (by assumption) hw.ext | exact Wd.rd hw (by iterate 24 (try first | exact Split.head | apply Split.tail)) | exact Wd.rd1 hw (by iterate 24 (try first | exact Split.head | apply Split.tail)) | exact Wd.rd2 hw (by iterate 24 (try first | exact Split.head | apply Split.tail))) (by rfl) (by first | omega | decide) (by first | omega | decide) ?_ | refine ixi rfl rfl (fun w hw => by first | exact Rd.ext (by assumption) hw.ext | exact Wd.rd hw (by iterate 24 (try first | exact Split.head | apply Split.tail)) | exact Wd.rd1 hw (by iterate 24 (try first | exact Split.head | apply Split.tail)) | exact Wd.rd2 hw (by iterate 24 (try first | exact Split.head | apply Split.tail))) (by rfl) (by first | omega | decide) (by first | omega | decide) (by first | omega | decide) ?_ | refine ixb rfl rfl (by first | omega | decide) ?_) | (show SH _ _ _ _ _ (⟨_, .call ⟨.builtin _, _, _⟩, _, _, _, _⟩ :: _) _ _ _; first | refine slen rfl ?_ | refine bmax rfl rfl ?_ | refine bmin rfl rfl ?_)) | refine s_nil ?_ | refine kh_normal ?_ | refine kh_ret ?_ | refine kh_exit ?_ | refine bh_normal ?_ | refine bh_ret ?_ | refine bh_exit ?_ | refine bh_exit_ne rfl ?_))
  · refine ⟨by (repeat (first | exact agree_mix _ _ _ | exact agree_refl _ _ | refine agree_upd rfl ?_ | refine agree_mix_of rfl ?_)), (k + 1, min a (l.getD k 0), max c (l.getD k 0)), by (repeat (first | exact trivial | refine And.intro rfl ?_)), by (repeat (first | exact ent_refl _ | exact ent_nil _ | refine ent_nilrow ?_ | refine ent_cons (by iterate 24 (try first | exact Split.head | apply Split.tail)) ?_ | refine ent_drop ?_)), ⟨by show k + 1 ≤ _; omega, ?_, ?_⟩, by show l.length - (k + 1) < l.length - k; omega⟩
    · show min a _ = minI (l.take (k + 1))
      rw [takeI (by omega), minI_snoc, ha]
    · show max c _ = maxI (l.take (k + 1))
      rw [takeI (by omega), maxI_snoc, hc]
  · have e : k = l.length := by omega
    subst e
    rw [List.take_length] at ha hc
    subst ha hc
    exact rh2 rfl rfl rfl ⟨rfl, rfl⟩ (ent_nil _)

/-! the loads of a world of points, and those behind a round -/
def wl (bs ps : List Int) : List Int := (loadsL bs ps).take (bs.length + 1)
theorem sm_add (f g : Nat → Int) : ∀ n, sm (fun z => f z + g z) n = sm f n + sm g n
  | 0 => rfl
  | n + 1 => by simp only [sm, sm_add f g n]; omega
theorem sm_one (k : Nat) : ∀ n, sm (fun z => if k = z then 1 else 0) n = if k < n then 1 else 0
  | 0 => by simp [sm]
  | n + 1 => by
    simp only [sm, sm_one k n]
    by_cases h : k = n
    · subst h; simp
    · by_cases h2 : k < n
      · rw [if_pos h2, if_neg h, if_pos (by omega)]; rfl
      · rw [if_neg h2, if_neg h, if_neg (by omega)]; rfl
theorem load_total (bs : List Int) : ∀ ps : List Int, sm (load bs ps) (bs.length + 1) = ps.length
  | [] => by
    have : load bs [] = fun _ => 0 := by funext z; simp [load]
    rw [this]
    have key : ∀ n, sm (fun _ => (0 : Int)) n = 0 := fun n => by
      induction n with
      | zero => rfl
      | succ n ih => simp only [sm, ih]; rfl
    rw [key]; rfl
  | p :: ps => by
    have e : load bs (p :: ps) = fun z => load bs ps z + (if zoneOf bs p = z then 1 else 0) := by
      funext z
      by_cases h : zoneOf bs p = z
      · simp [load, h]
      · simp [load, h]
    have hz := zoneOf_le bs p
    rw [e, sm_add, load_total bs ps, sm_one, if_pos (by omega)]
    simp
theorem load_nonneg (bs ps : List Int) (z : Nat) : 0 ≤ load bs ps z ∧ load bs ps z ≤ ps.length := by
  unfold load
  have := List.length_filter_le (fun p => decide (zoneOf bs p = z)) ps
  omega
theorem wl_len (bs ps : List Int) (hb : bs.length ≤ 5) : (wl bs ps).length = bs.length + 1 := by rw [wl, List.length_take, loadsL_len]; omega
theorem wl_sum (bs ps : List Int) (hb : bs.length ≤ 5) : (wl bs ps).sum = ps.length := by rw [wl, loads_map bs ps hb, sm_map, load_total]
theorem wl_sq (bs ps : List Int) (hb : bs.length ≤ 5) : ((wl bs ps).map sq).sum = sm (sqs (load bs ps)) (bs.length + 1) := by
  rw [wl, loads_map bs ps hb, List.map_map, ← sm_map]; rfl
theorem wl_mem {bs ps : List Int} (hb : bs.length ≤ 5) {x : Int} : x ∈ wl bs ps ↔ ∃ z, z < bs.length + 1 ∧ load bs ps z = x := by
  rw [wl, loads_map bs ps hb, List.mem_map]
  constructor
  · rintro ⟨z, hz, rfl⟩; exact ⟨z, List.mem_range.1 hz, rfl⟩
  · rintro ⟨z, hz, rfl⟩; exact ⟨z, List.mem_range.2 hz, rfl⟩
theorem wl_rng {bs ps : List Int} (hb : bs.length ≤ 5) (hp : ps.length ≤ 60) (k : Nat) : 0 ≤ (wl bs ps).getD k 0 ∧ (wl bs ps).getD k 0 ≤ 1000 := by
  by_cases hk : k < (wl bs ps).length
  · obtain ⟨z, _, h⟩ := (wl_mem hb).1 (getD_mem (d := 0) hk)
    have := load_nonneg bs ps z
    omega
  · simp [List.getElem?_eq_none (Nat.le_of_not_lt hk)]
/-- A round makes nothing worse. -/
theorem round_fair {bs ps : List Int} (hg : Good bs) (hb : bs.length ≤ 5) (hp : ∀ p ∈ ps, In20 p) {step slack : Int} (hs : 0 ≤ step) :
    minI (wl bs ps) ≤ minI (wl (roundL bs ps step slack) ps) ∧ maxI (wl (roundL bs ps step slack) ps) ≤ maxI (wl bs ps) ∧
    (roundL bs ps step slack = bs ∨ ((wl (roundL bs ps step slack) ps).map sq).sum < ((wl bs ps).map sq).sum) ∧
    ∀ j, j < bs.length → bs.getD j 0 - step ≤ (roundL bs ps step slack).getD j 0 ∧ (roundL bs ps step slack).getD j 0 ≤ bs.getD j 0 + step := by
  obtain ⟨h1, h2, _, h4⟩ := round_loads hg hp hs (slack := slack) bs.length (Nat.le_refl _)
  have hlen := roundL_len bs ps step slack
  change Fair (load bs ps) (load (roundL bs ps step slack) ps) _ at h1
  have hb' : (roundL bs ps step slack).length ≤ 5 := by omega
  refine ⟨?_, ?_, ?_, h4⟩
  · obtain ⟨a1, a2, _⟩ := minI_spec (wl bs ps)
    obtain ⟨_, _, b3⟩ := minI_spec (wl (roundL bs ps step slack) ps)
    rcases b3 with b3 | b3
    · omega
    · obtain ⟨z, hz, he⟩ := (wl_mem hb').1 b3
      rw [← he]
      exact h1.lo _ (fun z hz => a2 _ ((wl_mem hb).2 ⟨z, hz, rfl⟩)) z (by omega)
  · obtain ⟨a1, a2, _⟩ := maxI_spec (wl bs ps)
    obtain ⟨_, _, b3⟩ := maxI_spec (wl (roundL bs ps step slack) ps)
    rcases b3 with b3 | b3
    · omega
    · obtain ⟨z, hz, he⟩ := (wl_mem hb').1 b3
      rw [← he]
      exact h1.hi _ (fun z hz => a2 _ ((wl_mem hb).2 ⟨z, hz, rfl⟩)) z (by omega)
  · rw [wl_sq _ _ hb, wl_sq _ _ hb', hlen]
    exact h2
end Go.Proofs.Ytdlpnjofdpcjjaa
