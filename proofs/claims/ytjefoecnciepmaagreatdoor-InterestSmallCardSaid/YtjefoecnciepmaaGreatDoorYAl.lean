/- The row's condition on the package variable: the table reads as RNG. -/
import Derived.Test.YtjefoecnciepmaaGreatDoorYAa
import Derived.Test.YtjefoecnciepmaaGreatDoorYAb
import Derived.Test.YtjefoecnciepmaaGreatDoorYAc
import Derived.Test.YtjefoecnciepmaaGreatDoorYAd
import Derived.Test.YtjefoecnciepmaaGreatDoorYAe
import Derived.Test.YtjefoecnciepmaaGreatDoorYAf
import Derived.Test.YtjefoecnciepmaaGreatDoorYAg
import Derived.Test.YtjefoecnciepmaaGreatDoorYAh
import Derived.Test.YtjefoecnciepmaaGreatDoorYAi
import Derived.Test.YtjefoecnciepmaaGreatDoorYAj
import Derived.Test.YtjefoecnciepmaaGreatDoorYAk
import Derived.ProofKit
import Derived.Carry
import Derived.Deep.Slices
import Derived.Lib.SmallJoins
import Derived.OpenShut
import Derived.Test.YtjefoecnciepmaaGreatDoorRows
import Derived.LaidMore
import Derived.Stop.Joined
set_option linter.unusedSimpArgs false
set_option linter.unusedVariables false
/- The kit: a bag of slices; ApartInts, ApartWorlds (printed by gen_kw.py). -/
namespace Go.Proofs.YtjefoecnciepmaaGreatDoor
open Go.Fw Go.RowKit
set_option maxRecDepth 100000 in
theorem flatLimbs_none (w : World) : Ret Tryz.prog 71 [.slice none 0 0].toArray w (Out w (.bool true)) := by
  refine enterH Tryz.func71 rfl rfl Tryz.ntmps71 rfl (Wd.refl _) ?_
  repeat (first | refine v_seq ?_ | refine r_seq ?_ | refine v_block ?_ | refine v_loop_none ?_ | refine v_cond_f rfl (df (by omega)) ?_ | refine v_exit ?_ | refine v_ret ?_ | refine v_skip ?_ | refine v_label ?_ | refine kh_normal ?_ | refine kh_exit ?_ | refine kh_ret ?_ | refine bh_normal ?_ | refine bh_exit ?_ | refine bh_ret ?_ | refine s_nil ?_ | refine mov evL ?_ | refine asg evL ?_ | refine slen rfl ?_ | refine lss rfl rfl ?_ | refine mkz (α := SliceV) (z := .slice none 0 0) (by kernel_rfl) rfl rfl rfl rfl rfl rfl omL omL omL omL (fun b => ?_))
  exact rh1 rfl rfl ⟨rfl, rfl⟩ (ent_nil _)
set_option maxRecDepth 100000 in
theorem flatTexts_none (w : World) : Ret Tryz.prog 73 [.slice none 0 0].toArray w (Out w (.bool true)) := by
  refine enterH Tryz.func73 rfl rfl Tryz.ntmps73 rfl (Wd.refl _) ?_
  repeat (first | refine v_seq ?_ | refine r_seq ?_ | refine v_block ?_ | refine v_loop_none ?_ | refine v_cond_f rfl (df (by omega)) ?_ | refine v_exit ?_ | refine v_ret ?_ | refine v_skip ?_ | refine v_label ?_ | refine kh_normal ?_ | refine kh_exit ?_ | refine kh_ret ?_ | refine bh_normal ?_ | refine bh_exit ?_ | refine bh_ret ?_ | refine s_nil ?_ | refine mov evL ?_ | refine asg evL ?_ | refine slen rfl ?_ | refine lss rfl rfl ?_ | refine mkz (α := SliceV) (z := .slice none 0 0) (by kernel_rfl) rfl rfl rfl rfl rfl rfl omL omL omL omL (fun b => ?_))
  exact rh1 rfl rfl ⟨rfl, rfl⟩ (ent_nil _)
set_option maxRecDepth 100000 in
theorem flatBytes_none (w : World) : Ret Tryz.prog 74 [.slice none 0 0].toArray w (Out w (.bool true)) := by
  refine enterH Tryz.func74 rfl rfl Tryz.ntmps74 rfl (Wd.refl _) ?_
  repeat (first | refine v_seq ?_ | refine r_seq ?_ | refine v_block ?_ | refine v_loop_none ?_ | refine v_cond_f rfl (df (by omega)) ?_ | refine v_exit ?_ | refine v_ret ?_ | refine v_skip ?_ | refine v_label ?_ | refine kh_normal ?_ | refine kh_exit ?_ | refine kh_ret ?_ | refine bh_normal ?_ | refine bh_exit ?_ | refine bh_ret ?_ | refine s_nil ?_ | refine mov evL ?_ | refine asg evL ?_ | refine slen rfl ?_ | refine lss rfl rfl ?_ | refine mkz (α := SliceV) (z := .slice none 0 0) (by kernel_rfl) rfl rfl rfl rfl rfl rfl omL omL omL omL (fun b => ?_))
  exact rh1 rfl rfl ⟨rfl, rfl⟩ (ent_nil _)
set_option maxRecDepth 100000 in
theorem flatVecs_none (w : World) : Ret Tryz.prog 78 [.slice none 0 0].toArray w (Out w (.bool true)) := by
  refine enterH Tryz.func78 rfl rfl Tryz.ntmps78 rfl (Wd.refl _) ?_
  repeat (first | refine v_seq ?_ | refine r_seq ?_ | refine v_block ?_ | refine v_loop_none ?_ | refine v_cond_f rfl (df (by omega)) ?_ | refine v_exit ?_ | refine v_ret ?_ | refine v_skip ?_ | refine v_label ?_ | refine kh_normal ?_ | refine kh_exit ?_ | refine kh_ret ?_ | refine bh_normal ?_ | refine bh_exit ?_ | refine bh_ret ?_ | refine s_nil ?_ | refine mov evL ?_ | refine asg evL ?_ | refine slen rfl ?_ | refine lss rfl rfl ?_ | refine mkz (α := SliceV) (z := .slice none 0 0) (by kernel_rfl) rfl rfl rfl rfl rfl rfl omL omL omL omL (fun b => ?_))
  exact rh1 rfl rfl ⟨rfl, rfl⟩ (ent_nil _)
set_option maxRecDepth 100000 in
theorem flatBodies_none (w : World) : Ret Tryz.prog 79 [.slice none 0 0].toArray w (Out w (.bool true)) := by
  refine enterH Tryz.func79 rfl rfl Tryz.ntmps79 rfl (Wd.refl _) ?_
  repeat (first | refine v_seq ?_ | refine r_seq ?_ | refine v_block ?_ | refine v_loop_none ?_ | refine v_cond_f rfl (df (by omega)) ?_ | refine v_exit ?_ | refine v_ret ?_ | refine v_skip ?_ | refine v_label ?_ | refine kh_normal ?_ | refine kh_exit ?_ | refine kh_ret ?_ | refine bh_normal ?_ | refine bh_exit ?_ | refine bh_ret ?_ | refine s_nil ?_ | refine mov evL ?_ | refine asg evL ?_ | refine slen rfl ?_ | refine lss rfl rfl ?_ | refine mkz (α := SliceV) (z := .slice none 0 0) (by kernel_rfl) rfl rfl rfl rfl rfl rfl omL omL omL omL (fun b => ?_))
  exact rh1 rfl rfl ⟨rfl, rfl⟩ (ent_nil _)
set_option maxRecDepth 100000 in
theorem flatSystems_none (w : World) : Ret Tryz.prog 80 [.slice none 0 0].toArray w (Out w (.bool true)) := by
  refine enterH Tryz.func80 rfl rfl Tryz.ntmps80 rfl (Wd.refl _) ?_
  repeat (first | refine v_seq ?_ | refine r_seq ?_ | refine v_block ?_ | refine v_loop_none ?_ | refine v_cond_f rfl (df (by omega)) ?_ | refine v_exit ?_ | refine v_ret ?_ | refine v_skip ?_ | refine v_label ?_ | refine kh_normal ?_ | refine kh_exit ?_ | refine kh_ret ?_ | refine bh_normal ?_ | refine bh_exit ?_ | refine bh_ret ?_ | refine s_nil ?_ | refine mov evL ?_ | refine asg evL ?_ | refine slen rfl ?_ | refine lss rfl rfl ?_ | refine mkz (α := SliceV) (z := .slice none 0 0) (by kernel_rfl) rfl rfl rfl rfl rfl rfl omL omL omL omL (fun b => ?_))
  exact rh1 rfl rfl ⟨rfl, rfl⟩ (ent_nil _)
set_option maxRecDepth 100000 in
theorem flatInputs_none (w : World) : Ret Tryz.prog 81 [.slice none 0 0].toArray w (Out w (.bool true)) := by
  refine enterH Tryz.func81 rfl rfl Tryz.ntmps81 rfl (Wd.refl _) ?_
  repeat (first | refine v_seq ?_ | refine r_seq ?_ | refine v_block ?_ | refine v_loop_none ?_ | refine v_cond_f rfl (df (by omega)) ?_ | refine v_exit ?_ | refine v_ret ?_ | refine v_skip ?_ | refine v_label ?_ | refine kh_normal ?_ | refine kh_exit ?_ | refine kh_ret ?_ | refine bh_normal ?_ | refine bh_exit ?_ | refine bh_ret ?_ | refine s_nil ?_ | refine mov evL ?_ | refine asg evL ?_ | refine slen rfl ?_ | refine lss rfl rfl ?_ | refine mkz (α := SliceV) (z := .slice none 0 0) (by kernel_rfl) rfl rfl rfl rfl rfl rfl omL omL omL omL (fun b => ?_))
  exact rh1 rfl rfl ⟨rfl, rfl⟩ (ent_nil _)
set_option maxRecDepth 100000 in
theorem flatAreas_none (w : World) : Ret Tryz.prog 82 [.slice none 0 0].toArray w (Out w (.bool true)) := by
  refine enterH Tryz.func82 rfl rfl Tryz.ntmps82 rfl (Wd.refl _) ?_
  repeat (first | refine v_seq ?_ | refine r_seq ?_ | refine v_block ?_ | refine v_loop_none ?_ | refine v_cond_f rfl (df (by omega)) ?_ | refine v_exit ?_ | refine v_ret ?_ | refine v_skip ?_ | refine v_label ?_ | refine kh_normal ?_ | refine kh_exit ?_ | refine kh_ret ?_ | refine bh_normal ?_ | refine bh_exit ?_ | refine bh_ret ?_ | refine s_nil ?_ | refine mov evL ?_ | refine asg evL ?_ | refine slen rfl ?_ | refine lss rfl rfl ?_ | refine mkz (α := SliceV) (z := .slice none 0 0) (by kernel_rfl) rfl rfl rfl rfl rfl rfl omL omL omL omL (fun b => ?_))
  exact rh1 rfl rfl ⟨rfl, rfl⟩ (ent_nil _)
set_option maxRecDepth 100000 in
theorem flatPairs_none (w : World) : Ret Tryz.prog 83 [.slice none 0 0].toArray w (Out w (.bool true)) := by
  refine enterH Tryz.func83 rfl rfl Tryz.ntmps83 rfl (Wd.refl _) ?_
  repeat (first | refine v_seq ?_ | refine r_seq ?_ | refine v_block ?_ | refine v_loop_none ?_ | refine v_cond_f rfl (df (by omega)) ?_ | refine v_exit ?_ | refine v_ret ?_ | refine v_skip ?_ | refine v_label ?_ | refine kh_normal ?_ | refine kh_exit ?_ | refine kh_ret ?_ | refine bh_normal ?_ | refine bh_exit ?_ | refine bh_ret ?_ | refine s_nil ?_ | refine mov evL ?_ | refine asg evL ?_ | refine slen rfl ?_ | refine lss rfl rfl ?_ | refine mkz (α := SliceV) (z := .slice none 0 0) (by kernel_rfl) rfl rfl rfl rfl rfl rfl omL omL omL omL (fun b => ?_))
  exact rh1 rfl rfl ⟨rfl, rfl⟩ (ent_nil _)
set_option maxRecDepth 100000 in
theorem flatRopes_none (w : World) : Ret Tryz.prog 84 [.slice none 0 0].toArray w (Out w (.bool true)) := by
  refine enterH Tryz.func84 rfl rfl Tryz.ntmps84 rfl (Wd.refl _) ?_
  repeat (first | refine v_seq ?_ | refine r_seq ?_ | refine v_block ?_ | refine v_loop_none ?_ | refine v_cond_f rfl (df (by omega)) ?_ | refine v_exit ?_ | refine v_ret ?_ | refine v_skip ?_ | refine v_label ?_ | refine kh_normal ?_ | refine kh_exit ?_ | refine kh_ret ?_ | refine bh_normal ?_ | refine bh_exit ?_ | refine bh_ret ?_ | refine s_nil ?_ | refine mov evL ?_ | refine asg evL ?_ | refine slen rfl ?_ | refine lss rfl rfl ?_ | refine mkz (α := SliceV) (z := .slice none 0 0) (by kernel_rfl) rfl rfl rfl rfl rfl rfl omL omL omL omL (fun b => ?_))
  exact rh1 rfl rfl ⟨rfl, rfl⟩ (ent_nil _)
set_option maxRecDepth 100000 in
theorem flatExprs_none (w : World) : Ret Tryz.prog 85 [.slice none 0 0].toArray w (Out w (.bool true)) := by
  refine enterH Tryz.func85 rfl rfl Tryz.ntmps85 rfl (Wd.refl _) ?_
  repeat (first | refine v_seq ?_ | refine r_seq ?_ | refine v_block ?_ | refine v_loop_none ?_ | refine v_cond_f rfl (df (by omega)) ?_ | refine v_exit ?_ | refine v_ret ?_ | refine v_skip ?_ | refine v_label ?_ | refine kh_normal ?_ | refine kh_exit ?_ | refine kh_ret ?_ | refine bh_normal ?_ | refine bh_exit ?_ | refine bh_ret ?_ | refine s_nil ?_ | refine mov evL ?_ | refine asg evL ?_ | refine slen rfl ?_ | refine lss rfl rfl ?_ | refine mkz (α := SliceV) (z := .slice none 0 0) (by kernel_rfl) rfl rfl rfl rfl rfl rfl omL omL omL omL (fun b => ?_))
  exact rh1 rfl rfl ⟨rfl, rfl⟩ (ent_nil _)
set_option maxRecDepth 100000 in
theorem flatStmts_none (w : World) : Ret Tryz.prog 86 [.slice none 0 0].toArray w (Out w (.bool true)) := by
  refine enterH Tryz.func86 rfl rfl Tryz.ntmps86 rfl (Wd.refl _) ?_
  repeat (first | refine v_seq ?_ | refine r_seq ?_ | refine v_block ?_ | refine v_loop_none ?_ | refine v_cond_f rfl (df (by omega)) ?_ | refine v_exit ?_ | refine v_ret ?_ | refine v_skip ?_ | refine v_label ?_ | refine kh_normal ?_ | refine kh_exit ?_ | refine kh_ret ?_ | refine bh_normal ?_ | refine bh_exit ?_ | refine bh_ret ?_ | refine s_nil ?_ | refine mov evL ?_ | refine asg evL ?_ | refine slen rfl ?_ | refine lss rfl rfl ?_ | refine mkz (α := SliceV) (z := .slice none 0 0) (by kernel_rfl) rfl rfl rfl rfl rfl rfl omL omL omL omL (fun b => ?_))
  exact rh1 rfl rfl ⟨rfl, rfl⟩ (ent_nil _)
set_option maxRecDepth 100000 in
theorem flatScenes_none (w : World) : Ret Tryz.prog 87 [.slice none 0 0].toArray w (Out w (.bool true)) := by
  refine enterH Tryz.func87 rfl rfl Tryz.ntmps87 rfl (Wd.refl _) ?_
  repeat (first | refine v_seq ?_ | refine r_seq ?_ | refine v_block ?_ | refine v_loop_none ?_ | refine v_cond_f rfl (df (by omega)) ?_ | refine v_exit ?_ | refine v_ret ?_ | refine v_skip ?_ | refine v_label ?_ | refine kh_normal ?_ | refine kh_exit ?_ | refine kh_ret ?_ | refine bh_normal ?_ | refine bh_exit ?_ | refine bh_ret ?_ | refine s_nil ?_ | refine mov evL ?_ | refine asg evL ?_ | refine slen rfl ?_ | refine lss rfl rfl ?_ | refine mkz (α := SliceV) (z := .slice none 0 0) (by kernel_rfl) rfl rfl rfl rfl rfl rfl omL omL omL omL (fun b => ?_))
  exact rh1 rfl rfl ⟨rfl, rfl⟩ (ent_nil _)
set_option maxRecDepth 100000 in
theorem flatStops_none (w : World) : Ret Tryz.prog 88 [.slice none 0 0].toArray w (Out w (.bool true)) := by
  refine enterH Tryz.func88 rfl rfl Tryz.ntmps88 rfl (Wd.refl _) ?_
  repeat (first | refine v_seq ?_ | refine r_seq ?_ | refine v_block ?_ | refine v_loop_none ?_ | refine v_cond_f rfl (df (by omega)) ?_ | refine v_exit ?_ | refine v_ret ?_ | refine v_skip ?_ | refine v_label ?_ | refine kh_normal ?_ | refine kh_exit ?_ | refine kh_ret ?_ | refine bh_normal ?_ | refine bh_exit ?_ | refine bh_ret ?_ | refine s_nil ?_ | refine mov evL ?_ | refine asg evL ?_ | refine slen rfl ?_ | refine lss rfl rfl ?_ | refine mkz (α := SliceV) (z := .slice none 0 0) (by kernel_rfl) rfl rfl rfl rfl rfl rfl omL omL omL omL (fun b => ?_))
  exact rh1 rfl rfl ⟨rfl, rfl⟩ (ent_nil _)
set_option maxRecDepth 100000 in
theorem flatPortals_none (w : World) : Ret Tryz.prog 89 [.slice none 0 0].toArray w (Out w (.bool true)) := by
  refine enterH Tryz.func89 rfl rfl Tryz.ntmps89 rfl (Wd.refl _) ?_
  repeat (first | refine v_seq ?_ | refine r_seq ?_ | refine v_block ?_ | refine v_loop_none ?_ | refine v_cond_f rfl (df (by omega)) ?_ | refine v_exit ?_ | refine v_ret ?_ | refine v_skip ?_ | refine v_label ?_ | refine kh_normal ?_ | refine kh_exit ?_ | refine kh_ret ?_ | refine bh_normal ?_ | refine bh_exit ?_ | refine bh_ret ?_ | refine s_nil ?_ | refine mov evL ?_ | refine asg evL ?_ | refine slen rfl ?_ | refine lss rfl rfl ?_ | refine mkz (α := SliceV) (z := .slice none 0 0) (by kernel_rfl) rfl rfl rfl rfl rfl rfl omL omL omL omL (fun b => ?_))
  exact rh1 rfl rfl ⟨rfl, rfl⟩ (ent_nil _)
set_option maxRecDepth 100000 in
theorem flatStores_none (w : World) : Ret Tryz.prog 90 [.slice none 0 0].toArray w (Out w (.bool true)) := by
  refine enterH Tryz.func90 rfl rfl Tryz.ntmps90 rfl (Wd.refl _) ?_
  repeat (first | refine v_seq ?_ | refine r_seq ?_ | refine v_block ?_ | refine v_loop_none ?_ | refine v_cond_f rfl (df (by omega)) ?_ | refine v_exit ?_ | refine v_ret ?_ | refine v_skip ?_ | refine v_label ?_ | refine kh_normal ?_ | refine kh_exit ?_ | refine kh_ret ?_ | refine bh_normal ?_ | refine bh_exit ?_ | refine bh_ret ?_ | refine s_nil ?_ | refine mov evL ?_ | refine asg evL ?_ | refine slen rfl ?_ | refine lss rfl rfl ?_ | refine mkz (α := SliceV) (z := .slice none 0 0) (by kernel_rfl) rfl rfl rfl rfl rfl rfl omL omL omL omL (fun b => ?_))
  exact rh1 rfl rfl ⟨rfl, rfl⟩ (ent_nil _)
instance : TFld Tryz.prog 94 0 0 := tfld_of 0 Tryz.underlying94 rfl rfl (fun w => by kernel_rfl)
instance : TFlv Tryz.prog 94 0 0 := tflv_of Tryz.underlying94 rfl rfl (fun w => by kernel_rfl)
instance : TFld Tryz.prog 94 1 1 := tfld_of 0 Tryz.underlying94 rfl rfl (fun w => by kernel_rfl)
instance : TFlv Tryz.prog 94 1 1 := tflv_of Tryz.underlying94 rfl rfl (fun w => by kernel_rfl)
instance : TFld Tryz.prog 94 2 2 := tfld_of 0 Tryz.underlying94 rfl rfl (fun w => by kernel_rfl)
instance : TFlv Tryz.prog 94 2 2 := tflv_of Tryz.underlying94 rfl rfl (fun w => by kernel_rfl)
instance : TFld Tryz.prog 94 3 3 := tfld_of 0 Tryz.underlying94 rfl rfl (fun w => by kernel_rfl)
instance : TFlv Tryz.prog 94 3 3 := tflv_of Tryz.underlying94 rfl rfl (fun w => by kernel_rfl)
instance : TFld Tryz.prog 94 4 4 := tfld_of 0 Tryz.underlying94 rfl rfl (fun w => by kernel_rfl)
instance : TFlv Tryz.prog 94 4 4 := tflv_of Tryz.underlying94 rfl rfl (fun w => by kernel_rfl)
instance : TFld Tryz.prog 94 5 5 := tfld_of 0 Tryz.underlying94 rfl rfl (fun w => by kernel_rfl)
instance : TFlv Tryz.prog 94 5 5 := tflv_of Tryz.underlying94 rfl rfl (fun w => by kernel_rfl)
instance : TFld Tryz.prog 94 6 6 := tfld_of 0 Tryz.underlying94 rfl rfl (fun w => by kernel_rfl)
instance : TFlv Tryz.prog 94 6 6 := tflv_of Tryz.underlying94 rfl rfl (fun w => by kernel_rfl)
instance : TFld Tryz.prog 94 7 7 := tfld_of 0 Tryz.underlying94 rfl rfl (fun w => by kernel_rfl)
instance : TFlv Tryz.prog 94 7 7 := tflv_of Tryz.underlying94 rfl rfl (fun w => by kernel_rfl)
instance : TFld Tryz.prog 94 8 8 := tfld_of 0 Tryz.underlying94 rfl rfl (fun w => by kernel_rfl)
instance : TFlv Tryz.prog 94 8 8 := tflv_of Tryz.underlying94 rfl rfl (fun w => by kernel_rfl)
instance : TFld Tryz.prog 94 9 9 := tfld_of 0 Tryz.underlying94 rfl rfl (fun w => by kernel_rfl)
instance : TFlv Tryz.prog 94 9 9 := tflv_of Tryz.underlying94 rfl rfl (fun w => by kernel_rfl)
instance : TFld Tryz.prog 94 10 10 := tfld_of 0 Tryz.underlying94 rfl rfl (fun w => by kernel_rfl)
instance : TFlv Tryz.prog 94 10 10 := tflv_of Tryz.underlying94 rfl rfl (fun w => by kernel_rfl)
instance : TFld Tryz.prog 94 11 11 := tfld_of 0 Tryz.underlying94 rfl rfl (fun w => by kernel_rfl)
instance : TFlv Tryz.prog 94 11 11 := tflv_of Tryz.underlying94 rfl rfl (fun w => by kernel_rfl)
instance : TFld Tryz.prog 94 12 12 := tfld_of 0 Tryz.underlying94 rfl rfl (fun w => by kernel_rfl)
instance : TFlv Tryz.prog 94 12 12 := tflv_of Tryz.underlying94 rfl rfl (fun w => by kernel_rfl)
instance : TFld Tryz.prog 94 13 13 := tfld_of 0 Tryz.underlying94 rfl rfl (fun w => by kernel_rfl)
instance : TFlv Tryz.prog 94 13 13 := tflv_of Tryz.underlying94 rfl rfl (fun w => by kernel_rfl)
instance : TFld Tryz.prog 94 14 14 := tfld_of 0 Tryz.underlying94 rfl rfl (fun w => by kernel_rfl)
instance : TFlv Tryz.prog 94 14 14 := tflv_of Tryz.underlying94 rfl rfl (fun w => by kernel_rfl)
instance : TFld Tryz.prog 94 15 15 := tfld_of 0 Tryz.underlying94 rfl rfl (fun w => by kernel_rfl)
instance : TFlv Tryz.prog 94 15 15 := tflv_of Tryz.underlying94 rfl rfl (fun w => by kernel_rfl)
instance : TFld Tryz.prog 94 16 16 := tfld_of 0 Tryz.underlying94 rfl rfl (fun w => by kernel_rfl)
instance : TFlv Tryz.prog 94 16 16 := tflv_of Tryz.underlying94 rfl rfl (fun w => by kernel_rfl)
instance : TFld Tryz.prog 94 17 17 := tfld_of 0 Tryz.underlying94 rfl rfl (fun w => by kernel_rfl)
instance : TFlv Tryz.prog 94 17 17 := tflv_of Tryz.underlying94 rfl rfl (fun w => by kernel_rfl)
instance : TFld Tryz.prog 94 18 18 := tfld_of 0 Tryz.underlying94 rfl rfl (fun w => by kernel_rfl)
instance : TFlv Tryz.prog 94 18 18 := tflv_of Tryz.underlying94 rfl rfl (fun w => by kernel_rfl)
instance : TFld Tryz.prog 94 19 19 := tfld_of 0 Tryz.underlying94 rfl rfl (fun w => by kernel_rfl)
instance : TFlv Tryz.prog 94 19 19 := tflv_of Tryz.underlying94 rfl rfl (fun w => by kernel_rfl)

instance : TSt Tryz.prog 94 20 [.slice none 0 0, .slice none 0 0, .slice none 0 0, .slice none 0 0, .slice none 0 0, .slice none 0 0, .slice none 0 0, .slice none 0 0, .slice none 0 0, .slice none 0 0, .slice none 0 0, .slice none 0 0, .slice none 0 0, .slice none 0 0, .slice none 0 0, .slice none 0 0, .slice none 0 0, .slice none 0 0, .slice none 0 0, .slice none 0 0] := tst_of Tryz.underlying94 (fun w => by kernel_rfl) (fun w => by kernel_rfl) rfl
/-- A slice of slices. -/
structure Sl3 where
  A : Option Addr
  c : Nat
  l : List SliceV
structure BagS where
  i : Sl3
  c : Sl3
  e : Sl3
  w : Sl3
def bagC (s : BagS) : List Value := [.slice none 0 0, .slice s.i.A s.i.l.length s.i.c, .slice none 0 0, .slice none 0 0, .slice s.c.A s.c.l.length s.c.c, .slice s.e.A s.e.l.length s.e.c, .slice s.w.A s.w.l.length s.w.c, .slice none 0 0, .slice none 0 0, .slice none 0 0, .slice none 0 0, .slice none 0 0, .slice none 0 0, .slice none 0 0, .slice none 0 0, .slice none 0 0, .slice none 0 0, .slice none 0 0, .slice none 0 0, .slice none 0 0]
/-- A bag's memory. -/
def bagL (b : Nat) (s : BagS) (H : List HP) : List HP := bx b 94 (bagC s) :: orow 34 s.i.A s.i.c s.i.l :: orow 29 s.c.A s.c.c s.c.l :: orow 22 s.e.A s.e.c s.e.l :: orow 53 s.w.A s.w.c s.w.l :: H
set_option maxRecDepth 100000 in
theorem putInts_spec (b : Nat) (s : BagS) (A1 : Option Addr) (m c1 : Nat) (w0 : World) (H : List HP) (w : World) (hn : s.i.l.length ≤ 100000) (hw : Wd w0 (bagL b s H) w) :
    Ret Tryz.prog 45 [.pointer (some ⟨b, 0, none⟩), .slice A1 m c1].toArray w (RP w0 fun v H' => v = .tuple #[] ∧ ∃ A' c', H' = bagL b { s with i := ⟨A', c', s.i.l ++ [(⟨A1, m, c1⟩ : SliceV)]⟩ } H) := by
  obtain ⟨⟨Ai, ci, li⟩, ⟨Ac, cc, lc⟩, ⟨Ae, ce, le⟩, ⟨Aw, cw, lw⟩⟩ := s
  unfold bagL bagC at hw
  simp only at hw hn
  unfold bagL bagC
  simp only
  refine enterH Tryz.func45 rfl rfl Tryz.ntmps45 rfl (by assumption) ?_
  (repeat' (first | refine r_seq ?_ | (show SH _ _ _ _ _ (_ :: _) _ _ _; first | (show SH _ _ _ _ _ (⟨_, .move _, _, _, _, _⟩ :: _) _ _ _; refine mov evL ?_) | (show SH _ _ _ _ _ (⟨_, .load _ _, _, _, _, _⟩ :: _) _ _ _; refine lbx rfl spL (by rfl) ?_) | refine nlc rfl ?_ | refine fad rfl ?_)))
  refine bsl (l := [(⟨A1, m, c1⟩ : SliceV)]) rfl rfl (Vals.cons rfl Vals.nil) rfl rfl (by decide) (fun b2 => ?_)
  refine app (l := li) (l2 := [(⟨A1, m, c1⟩ : SliceV)]) rfl rfl rfl spL (fun w hw => hw.rd spL) rfl rfl rfl (by simp only [List.length_cons, List.length_nil]; omega) (by simp only [List.length_cons, List.length_nil]; omega) (fun A' cp' => ⟨trivial, ?_⟩)
  (repeat' (first | (show SH _ _ _ _ _ (_ :: _) _ _ _; first | refine nlc rfl ?_ | refine fad rfl ?_ | (show SH _ _ _ _ _ (⟨_, .store _ _ _, _, _, _, _⟩ :: _) _ _ _; refine stb rfl rfl evL spL rfl rfl (by first | decide | exact Nat.zero_lt_succ _ | exact of_decide_eq_true rfl) kpL ?_)) | refine s_nil ?_))
  exact rh0n rfl ⟨rfl, A', cp', rfl⟩ enL
set_option maxRecDepth 100000 in
theorem putComps_spec (b : Nat) (s : BagS) (A1 : Option Addr) (m c1 : Nat) (w0 : World) (H : List HP) (w : World) (hn : s.c.l.length ≤ 100000) (hw : Wd w0 (bagL b s H) w) :
    Ret Tryz.prog 153 [.pointer (some ⟨b, 0, none⟩), .slice A1 m c1].toArray w (RP w0 fun v H' => v = .tuple #[] ∧ ∃ A' c', H' = bagL b { s with c := ⟨A', c', s.c.l ++ [(⟨A1, m, c1⟩ : SliceV)]⟩ } H) := by
  obtain ⟨⟨Ai, ci, li⟩, ⟨Ac, cc, lc⟩, ⟨Ae, ce, le⟩, ⟨Aw, cw, lw⟩⟩ := s
  unfold bagL bagC at hw
  simp only at hw hn
  unfold bagL bagC
  simp only
  refine enterH Tryz.func153 rfl rfl Tryz.ntmps153 rfl (by assumption) ?_
  (repeat' (first | refine r_seq ?_ | (show SH _ _ _ _ _ (_ :: _) _ _ _; first | (show SH _ _ _ _ _ (⟨_, .move _, _, _, _, _⟩ :: _) _ _ _; refine mov evL ?_) | (show SH _ _ _ _ _ (⟨_, .load _ _, _, _, _, _⟩ :: _) _ _ _; refine lbx rfl spL (by rfl) ?_) | refine nlc rfl ?_ | refine fad rfl ?_)))
  refine bsl (l := [(⟨A1, m, c1⟩ : SliceV)]) rfl rfl (Vals.cons rfl Vals.nil) rfl rfl (by decide) (fun b2 => ?_)
  refine app (l := lc) (l2 := [(⟨A1, m, c1⟩ : SliceV)]) rfl rfl rfl spL (fun w hw => hw.rd spL) rfl rfl rfl (by simp only [List.length_cons, List.length_nil]; omega) (by simp only [List.length_cons, List.length_nil]; omega) (fun A' cp' => ⟨trivial, ?_⟩)
  (repeat' (first | (show SH _ _ _ _ _ (_ :: _) _ _ _; first | refine nlc rfl ?_ | refine fad rfl ?_ | (show SH _ _ _ _ _ (⟨_, .store _ _ _, _, _, _, _⟩ :: _) _ _ _; refine stb rfl rfl evL spL rfl rfl (by first | decide | exact Nat.zero_lt_succ _ | exact of_decide_eq_true rfl) kpL ?_)) | refine s_nil ?_))
  exact rh0n rfl ⟨rfl, A', cp', rfl⟩ enL
def cSl (y : EntP) : SliceV := ⟨y.A, y.e.comps.length, y.cp⟩
set_option maxRecDepth 100000 in
theorem oneEntity_spec (bb : Nat) (s : BagS) (y : EntP) (w0 : World) (H : List HP) (w : World) (hn : s.c.l.length ≤ 100000) (hw : Wd w0 (bagL bb s H) w) :
    Ret Tryz.prog 150 [.pointer (some ⟨bb, 0, none⟩), .agg (Flat.enc y).toArray].toArray w (RP w0 fun v H' => v = .tuple #[] ∧ ∃ A' c', H' = bagL bb { s with c := ⟨A', c', s.c.l ++ [cSl y]⟩ } H) := by
  obtain ⟨⟨yi, ys⟩, Ay, cy⟩ := y
  rw [show Flat.enc (⟨⟨yi, ys⟩, Ay, cy⟩ : EntP) = [.int .i64 yi, .slice Ay ys.length cy] from rfl]
  unfold cSl
  simp only
  refine enterH Tryz.func150 rfl rfl Tryz.ntmps150 rfl (by assumption) ?_
  (repeat' (first | (show VH _ _ _ _ _ _ _; first | refine v_seq ?_ | refine r_seq ?_) | (show SH _ _ _ _ _ (_ :: _) _ _ _; first | (show SH _ _ _ _ _ (⟨_, .move _, _, _, _, _⟩ :: _) _ _ _; refine mov evL ?_) | (show SH _ _ _ _ _ (⟨_, .load _ _, _, _, _, _⟩ :: _) _ _ _; refine lbx rfl spL (by rfl) ?_) | refine fad rfl ?_ | (show SH _ _ _ _ _ (⟨_, .box _ _, _, _, _, _⟩ :: _) _ _ _; refine bxx rfl evL rfl (fun b => ?_))) | refine s_nil ?_ | refine kh_normal ?_))
  refine cm rfl (fun w hw => putComps_spec bb s Ay ys.length cy _ (_ :: H) w hn (Ent.wd (by unfold bagL; exact enL) hw)) rfl rfl ?_
  rintro _ _ ⟨rfl, A', c', rfl⟩
  refine ⟨trivial, ?_⟩
  (repeat' (refine s_nil ?_))
  exact rh0n rfl ⟨rfl, A', c', rfl⟩ (by unfold bagL; exact enL)
set_option maxHeartbeats 1000000 in
set_option maxRecDepth 100000 in
theorem putEntities_spec (b : Nat) (s : BagS) (A : Option Addr) (L : List EntP) (c : Nat) (w0 : World) (H : List HP) (w : World) (hn : s.e.l.length ≤ 100000) (hc : s.c.l.length + L.length ≤ 100000) (hw : Wd w0 (bagL b s (orow 31 A c L :: H)) w) :
    Ret Tryz.prog 132 [.pointer (some ⟨b, 0, none⟩), .slice A L.length c].toArray w (RP w0 fun v H' => v = .tuple #[] ∧ ∃ A1 c1 A2 c2, H' = bagL b { s with e := ⟨A1, c1, s.e.l ++ [(⟨A, L.length, c⟩ : SliceV)]⟩, c := ⟨A2, c2, s.c.l ++ L.map cSl⟩ } (orow 31 A c L :: H)) := by
  obtain ⟨⟨Ai, ci, li⟩, ⟨Ac, cc, lc⟩, ⟨Ae, ce, le⟩, ⟨Aw, cw, lw⟩⟩ := s
  unfold bagL bagC at hw
  simp only at hw hn hc
  simp only
  refine enterH Tryz.func132 rfl rfl Tryz.ntmps132 rfl (by assumption) ?_
  (repeat' (first | (show VH _ _ _ _ _ _ _; first | refine v_seq ?_ | refine r_seq ?_) | (show SH _ _ _ _ _ (_ :: _) _ _ _; first | (show SH _ _ _ _ _ (⟨_, .move _, _, _, _, _⟩ :: _) _ _ _; refine mov evL ?_) | (show SH _ _ _ _ _ (⟨_, .load _ _, _, _, _, _⟩ :: _) _ _ _; refine lbx rfl spL (by rfl) ?_) | refine nlc rfl ?_ | refine fad rfl ?_)))
  refine bsl (l := [(⟨A, L.length, c⟩ : SliceV)]) rfl rfl (Vals.cons rfl Vals.nil) rfl rfl (by decide) (fun b2 => ?_)
  refine app (l := le) (l2 := [(⟨A, L.length, c⟩ : SliceV)]) rfl rfl rfl spL (fun w hw => hw.rd spL) rfl rfl rfl (by simp only [List.length_cons, List.length_nil]; omega) (by simp only [List.length_cons, List.length_nil]; omega) (fun Ae' ce' => ⟨trivial, ?_⟩)
  (repeat' (first | (show VH _ _ _ _ _ _ _; first | refine v_seq ?_ | refine r_seq ?_ | refine v_block ?_) | (show SH _ _ _ _ _ (_ :: _) _ _ _; first | (show SH _ _ _ _ _ (⟨_, .assign _, _, _, _, _⟩ :: _) _ _ _; refine asg evL ?_) | refine nlc rfl ?_ | refine fad rfl ?_ | (show SH _ _ _ _ _ (⟨_, .store _ _ _, _, _, _, _⟩ :: _) _ _ _; refine stb rfl rfl evL spL rfl rfl (by first | decide | exact Nat.zero_lt_succ _ | exact of_decide_eq_true rfl) kpL ?_)) | refine s_nil ?_ | refine kh_normal ?_))
  refine v_norm [(0,_),(1,_),(4,_)] heL (fun g => ?_)
  refine v_loop [(4,4),(15,26)] (fun s : Nat × (Option Addr × Nat) => [(4, .int .i64 s.1)]) (fun s => bagL b (⟨⟨Ai, ci, li⟩, ⟨s.2.1, s.2.2, lc ++ (L.take s.1).map cSl⟩, ⟨Ae', ce', le ++ [(⟨A, L.length, c⟩ : SliceV)]⟩, ⟨Aw, cw, lw⟩⟩ : BagS) (orow 31 A c L :: H)) (fun s => s.1 ≤ L.length) (fun s => L.length - s.1) (0, Ac, cc) hsL (by
    unfold bagL bagC
    simp only [List.take_zero, List.map_nil, List.append_nil]
    exact enL) (Nat.zero_le _) ?_
  rintro ⟨k, A2, c2⟩ g hk
  simp only [sets]
  simp only at hk
  by_cases hkl : k < L.length
  · obtain ⟨y, hy⟩ : ∃ y, L.getD k Flat.dflt = y := ⟨_, rfl⟩
    have hyE : Flat.enc (L.getD k Flat.dflt) = Flat.enc y := by rw [hy]
    have hsn : (L.take (k + 1)).map cSl = (L.take k).map cSl ++ [cSl y] := by rw [take_snoc (d := Flat.dflt) hkl, hy, List.map_append]; rfl
    clear hy
    have hO := fun w0 H w h => oneEntity_spec b (⟨⟨Ai, ci, li⟩, ⟨A2, c2, lc ++ (L.take k).map cSl⟩, ⟨Ae', ce', le ++ [(⟨A, L.length, c⟩ : SliceV)]⟩, ⟨Aw, cw, lw⟩⟩ : BagS) y w0 H w (by simp only [List.length_append, List.length_map, List.length_take]; omega) h
    simp only at hO
    have hrd : ∀ w1, Wd w0 (bagL b (⟨⟨Ai, ci, li⟩, ⟨A2, c2, lc ++ (L.take k).map cSl⟩, ⟨Ae', ce', le ++ [(⟨A, L.length, c⟩ : SliceV)]⟩, ⟨Aw, cw, lw⟩⟩ : BagS) (orow 31 A c L :: H)) w1 → Rd w1 A L := fun w1 h => by unfold bagL at h; exact h.rd spL
    unfold bagL bagC
    simp only
    (repeat' (first | (show VH _ _ _ _ _ _ _; first | refine v_seq ?_ | refine r_seq ?_ | refine v_block ?_ | refine v_skip ?_ | refine v_cond_t rfl tbL ?_) | (show SH _ _ _ _ _ (_ :: _) _ _ _; first | (show SH _ _ _ _ _ (⟨_, .move _, _, _, _, _⟩ :: _) _ _ _; refine mov evL ?_) | refine lss rfl rfl ?_ | (show SH _ _ _ _ _ (⟨_, .load _ _, _, _, _, _⟩ :: _) _ _ _; refine lag rfl (fun _ _ => rdY) (by rfl) omL (by assumption) ?_) | (show SH _ _ _ _ _ (⟨_, .indexAddr _ _ _, _, _, _, _⟩ :: _) _ _ _; refine ix rfl rfl (by with_reducible rfl) (fun _ _ => rdL) (by rfl) omL omL ?_) | refine slen rfl ?_) | refine s_nil ?_ | refine kh_normal ?_))
    refine cm rfl (fun w hw => hO _ _ w (by unfold bagL bagC; simp only; exact hw)) rfl rfl ?_
    rintro _ _ ⟨rfl, A3, c3, rfl⟩
    refine ⟨trivial, ?_⟩
    (repeat' (first | refine r_seq ?_ | (show SH _ _ _ _ _ (_ :: _) _ _ _; first | (show SH _ _ _ _ _ (⟨_, .move _, _, _, _, _⟩ :: _) _ _ _; refine mov evL ?_) | (show SH _ _ _ _ _ (⟨_, .assign _, _, _, _, _⟩ :: _) _ _ _; refine asg evL ?_) | (show SH _ _ _ _ _ (⟨_, .binOp .add _ _ _ _, _, _, _, _⟩ :: _) _ _ _; refine add rfl rfl inL ?_)) | refine s_nil ?_ | refine kh_normal ?_ | refine bh_normal ?_))
    refine ⟨agL, (k + 1, A3, c3), hsL, ?_, hkl, by show _ - (k + 1) < _ - k; omega⟩
    simp only [hsn, List.append_assoc]
    exact ent_refl _
  · obtain rfl : k = L.length := by omega
    rw [List.take_length]
    (repeat' (first | (show VH _ _ _ _ _ _ _; first | refine v_seq ?_ | refine r_seq ?_ | refine v_exit ?_ | refine v_cond_f rfl tbL ?_) | (show SH _ _ _ _ _ (_ :: _) _ _ _; first | (show SH _ _ _ _ _ (⟨_, .move _, _, _, _, _⟩ :: _) _ _ _; refine mov evL ?_) | refine lss rfl rfl ?_ | refine slen rfl ?_) | refine s_nil ?_ | refine kh_normal ?_ | refine kh_exit ?_ | refine bh_exit ?_))
    exact rh0n rfl ⟨rfl, Ae', ce', A2, c2, rfl⟩ (ent_refl _)
set_option maxRecDepth 100000 in
theorem oneWorld_spec (bb : Nat) (s : BagS) (t : Int) (A : Option Addr) (L : List EntP) (c : Nat) (w0 : World) (H : List HP) (w : World) (hn : s.e.l.length ≤ 100000) (hc : s.c.l.length + L.length ≤ 100000) (hw : Wd w0 (bagL bb s (orow 31 A c L :: H)) w) :
    Ret Tryz.prog 91 [.pointer (some ⟨bb, 0, none⟩), .agg #[.int .i64 t, .slice A L.length c]].toArray w (RP w0 fun v H' => v = .tuple #[] ∧ ∃ A1 c1 A2 c2, H' = bagL bb { s with e := ⟨A1, c1, s.e.l ++ [(⟨A, L.length, c⟩ : SliceV)]⟩, c := ⟨A2, c2, s.c.l ++ L.map cSl⟩ } (orow 31 A c L :: H)) := by
  refine enterH Tryz.func91 rfl rfl Tryz.ntmps91 rfl (by assumption) ?_
  (repeat' (first | (show VH _ _ _ _ _ _ _; first | refine v_seq ?_ | refine r_seq ?_) | (show SH _ _ _ _ _ (_ :: _) _ _ _; first | (show SH _ _ _ _ _ (⟨_, .move _, _, _, _, _⟩ :: _) _ _ _; refine mov evL ?_) | (show SH _ _ _ _ _ (⟨_, .load _ _, _, _, _, _⟩ :: _) _ _ _; refine lbx rfl spL (by rfl) ?_) | refine fad rfl ?_ | (show SH _ _ _ _ _ (⟨_, .box _ _, _, _, _, _⟩ :: _) _ _ _; refine bxx rfl evL rfl (fun b => ?_))) | refine s_nil ?_ | refine kh_normal ?_))
  refine cm rfl (fun w hw => putEntities_spec bb s A L c _ (_ :: H) w hn hc (Ent.wd (by unfold bagL; exact enL) hw)) rfl rfl ?_
  rintro _ _ ⟨rfl, A1, c1, A2, c2, rfl⟩
  refine ⟨trivial, ?_⟩
  (repeat' (refine s_nil ?_))
  exact rh0n rfl ⟨rfl, A1, c1, A2, c2, rfl⟩ (by unfold bagL; exact enL)
end Go.Proofs.YtjefoecnciepmaaGreatDoor

/- The kit: a bag of slices: ApartInts, ApartWorlds (printed by gen_kw.py). -/
namespace Go.Proofs.YtjefoecnciepmaaGreatDoor
open Go.Fw Go.RowKit
set_option maxHeartbeats 1000000 in
set_option maxRecDepth 100000 in
theorem putWorlds_spec (b : Nat) (s : BagS) (A1 : Option Addr) (c1 : Nat) (t : Int) (A : Option Addr) (L : List EntP) (c : Nat) (M : List WldV) (hM : M.length = 1) (hE : Flat.enc (M.getD 0 Flat.dflt) = [.int .i64 t, .slice A L.length c]) (w0 : World) (H : List HP) (w : World) (hw1 : s.w.l.length ≤ 100000) (hn : s.e.l.length ≤ 100000) (hc : s.c.l.length + L.length ≤ 100000) (hw : Wd w0 (bagL b s (orow 24 A1 c1 M :: orow 31 A c L :: H)) w) :
    Ret Tryz.prog 47 [.pointer (some ⟨b, 0, none⟩), .slice A1 1 c1].toArray w (RP w0 fun v H' => v = .tuple #[] ∧ ∃ A3 c3 A4 c4 A5 c5, H' = bagL b { s with w := ⟨A3, c3, s.w.l ++ [(⟨A1, 1, c1⟩ : SliceV)]⟩, e := ⟨A4, c4, s.e.l ++ [(⟨A, L.length, c⟩ : SliceV)]⟩, c := ⟨A5, c5, s.c.l ++ L.map cSl⟩ } (orow 24 A1 c1 M :: orow 31 A c L :: H)) := by
  obtain ⟨⟨Ai, ci, li⟩, ⟨Ac, cc, lc⟩, ⟨Ae, ce, le⟩, ⟨Aw, cw, lw⟩⟩ := s
  unfold bagL bagC at hw
  simp only at hw hn hc hw1
  simp only
  refine enterH Tryz.func47 rfl rfl Tryz.ntmps47 rfl (by assumption) ?_
  (repeat' (first | (show VH _ _ _ _ _ _ _; first | refine v_seq ?_ | refine r_seq ?_) | (show SH _ _ _ _ _ (_ :: _) _ _ _; first | (show SH _ _ _ _ _ (⟨_, .move _, _, _, _, _⟩ :: _) _ _ _; refine mov evL ?_) | (show SH _ _ _ _ _ (⟨_, .load _ _, _, _, _, _⟩ :: _) _ _ _; refine lbx rfl spL (by rfl) ?_) | refine nlc rfl ?_ | refine fad rfl ?_)))
  refine bsl (l := [(⟨A1, 1, c1⟩ : SliceV)]) rfl rfl (Vals.cons rfl Vals.nil) rfl rfl (by decide) (fun b2 => ?_)
  refine app (l := lw) (l2 := [(⟨A1, 1, c1⟩ : SliceV)]) rfl rfl rfl spL (fun w hw => hw.rd spL) rfl rfl rfl (by simp only [List.length_cons, List.length_nil]; omega) (by simp only [List.length_cons, List.length_nil]; omega) (fun Aw' cw' => ⟨trivial, ?_⟩)
  (repeat' (first | (show VH _ _ _ _ _ _ _; first | refine v_seq ?_ | refine r_seq ?_ | refine v_block ?_) | (show SH _ _ _ _ _ (_ :: _) _ _ _; first | (show SH _ _ _ _ _ (⟨_, .assign _, _, _, _, _⟩ :: _) _ _ _; refine asg evL ?_) | refine nlc rfl ?_ | refine fad rfl ?_ | (show SH _ _ _ _ _ (⟨_, .store _ _ _, _, _, _, _⟩ :: _) _ _ _; refine stb rfl rfl evL spL rfl rfl (by first | decide | exact Nat.zero_lt_succ _ | exact of_decide_eq_true rfl) kpL ?_)) | refine s_nil ?_ | refine kh_normal ?_))
  refine v_norm [(0,_),(1,_),(4,_)] heL (fun g => ?_)
  refine v_loop [(4,4),(15,26)] (fun s : Nat × BagS => [(4, .int .i64 s.1)]) (fun s => bagL b s.2 (orow 24 A1 c1 M :: orow 31 A c L :: H)) (fun s => (s.1 = 0 ∧ s.2 = (⟨⟨Ai, ci, li⟩, ⟨Ac, cc, lc⟩, ⟨Ae, ce, le⟩, ⟨Aw', cw', lw ++ [(⟨A1, 1, c1⟩ : SliceV)]⟩⟩ : BagS)) ∨ (s.1 = 1 ∧ ∃ A4 c4 A5 c5, s.2 = (⟨⟨Ai, ci, li⟩, ⟨A5, c5, lc ++ L.map cSl⟩, ⟨A4, c4, le ++ [(⟨A, L.length, c⟩ : SliceV)]⟩, ⟨Aw', cw', lw ++ [(⟨A1, 1, c1⟩ : SliceV)]⟩⟩ : BagS))) (fun s => 1 - s.1) (0, (⟨⟨Ai, ci, li⟩, ⟨Ac, cc, lc⟩, ⟨Ae, ce, le⟩, ⟨Aw', cw', lw ++ [(⟨A1, 1, c1⟩ : SliceV)]⟩⟩ : BagS)) hsL (by
    unfold bagL bagC
    exact enL) (.inl ⟨rfl, rfl⟩) ?_
  rintro ⟨k, s⟩ g hk
  simp only [sets]
  simp only at hk
  rcases hk with ⟨rfl, rfl⟩ | ⟨rfl, A4, c4, A5, c5, rfl⟩
  · have hO := fun w0 H w h => oneWorld_spec b (⟨⟨Ai, ci, li⟩, ⟨Ac, cc, lc⟩, ⟨Ae, ce, le⟩, ⟨Aw', cw', lw ++ [(⟨A1, 1, c1⟩ : SliceV)]⟩⟩ : BagS) t A L c w0 H w hn hc h
    simp only at hO
    unfold bagL bagC
    simp only
    (repeat' (first | (show VH _ _ _ _ _ _ _; first | refine v_seq ?_ | refine r_seq ?_ | refine v_block ?_ | refine v_skip ?_ | refine v_cond_t rfl tbL ?_) | (show SH _ _ _ _ _ (_ :: _) _ _ _; first | (show SH _ _ _ _ _ (⟨_, .move _, _, _, _, _⟩ :: _) _ _ _; refine mov evL ?_) | refine lss rfl rfl ?_ | (show SH _ _ _ _ _ (⟨_, .load _ _, _, _, _, _⟩ :: _) _ _ _; refine lag rfl (fun _ _ => rdY) (by rfl) omL (by assumption) ?_) | (show SH _ _ _ _ _ (⟨_, .indexAddr _ _ _, _, _, _, _⟩ :: _) _ _ _; refine ix rfl rfl (by with_reducible rfl) (fun _ _ => rdL) (by rfl) omL omL ?_) | refine slen rfl ?_) | refine s_nil ?_ | refine kh_normal ?_))
    refine cm rfl (fun w hw => hO w0 (orow 24 A1 c1 M :: H) w (Ent.wd (by unfold bagL bagC; exact enL) hw)) rfl rfl ?_
    rintro _ _ ⟨rfl, A4, c4, A5, c5, rfl⟩
    refine ⟨trivial, ?_⟩
    (repeat' (first | refine r_seq ?_ | (show SH _ _ _ _ _ (_ :: _) _ _ _; first | (show SH _ _ _ _ _ (⟨_, .move _, _, _, _, _⟩ :: _) _ _ _; refine mov evL ?_) | (show SH _ _ _ _ _ (⟨_, .assign _, _, _, _, _⟩ :: _) _ _ _; refine asg evL ?_) | (show SH _ _ _ _ _ (⟨_, .binOp .add _ _ _ _, _, _, _, _⟩ :: _) _ _ _; refine add rfl rfl inL ?_)) | refine s_nil ?_ | refine kh_normal ?_ | refine bh_normal ?_))
    exact ⟨agL, (1, _), hsL, by unfold bagL bagC; exact enL, .inr ⟨rfl, A4, c4, A5, c5, rfl⟩, by show 1 - 1 < 1 - 0; omega⟩
  · (repeat' (first | (show VH _ _ _ _ _ _ _; first | refine v_seq ?_ | refine r_seq ?_ | refine v_exit ?_ | refine v_cond_f rfl tbL ?_) | (show SH _ _ _ _ _ (_ :: _) _ _ _; first | (show SH _ _ _ _ _ (⟨_, .move _, _, _, _, _⟩ :: _) _ _ _; refine mov evL ?_) | refine lss rfl rfl ?_ | refine slen rfl ?_) | refine s_nil ?_ | refine kh_normal ?_ | refine kh_exit ?_ | refine bh_exit ?_))
    exact rh0n rfl ⟨rfl, Aw', cw', A4, c4, A5, c5, rfl⟩ (ent_refl _)
set_option maxHeartbeats 4000000 in
set_option maxRecDepth 100000 in
theorem bagApart_spec (b : Nat) (s : BagS) (ri : List (RowG Int)) (rc : List (RowG Comp)) (re : List (RowG EntP)) (rw' : List (RowG WldV)) (w0 : World) (H : List HP) (w : World) (hi : s.i.l = ri.map slv) (hc : s.c.l = rc.map slv) (he : s.e.l = re.map slv) (hww : s.w.l = rw'.map slv)
    (hi2 : ∀ r ∈ ri.map slv, r.m ≤ 1000000) (hc2 : ∀ r ∈ rc.map slv, r.m ≤ 1000000) (he2 : ∀ r ∈ re.map slv, r.m ≤ 1000000) (hw2 : ∀ r ∈ rw'.map slv, r.m ≤ 1000000) (hni : ri.length ≤ 100000) (hnc : rc.length ≤ 100000) (hne : re.length ≤ 100000) (hnw : rw'.length ≤ 100000)
    (hw : Wd w0 (bagL b s (allH (ri.map (rowP 3)) :: allH (rc.map (rowP 37)) :: allH (re.map (rowP 31)) :: allH (rw'.map (rowP 24)) :: H)) w) :
    Ret Tryz.prog 46 [.pointer (some ⟨b, 0, none⟩)].toArray w (RP w0 fun v H' => v = .bool true ∧ H' = H) := by
  obtain ⟨⟨Ai, ci, li⟩, ⟨Ac, cc, lc⟩, ⟨Ae, ce, le⟩, ⟨Aw, cw, lw⟩⟩ := s
  simp only at hi hc he hww
  have eli : li.length = ri.length := by rw [hi, List.length_map]
  have elc : lc.length = rc.length := by rw [hc, List.length_map]
  have ele : le.length = re.length := by rw [he, List.length_map]
  have elw : lw.length = rw'.length := by rw [hww, List.length_map]
  unfold bagL bagC at hw
  simp only [eli, elc, ele, elw] at hw
  refine enterH Tryz.func46 rfl rfl Tryz.ntmps46 rfl (by assumption) ?_
  (repeat' (first | (show VH _ _ _ _ _ _ _; first | refine v_seq ?_ | refine r_seq ?_) | (show SH _ _ _ _ _ (_ :: _) _ _ _; first | (show SH _ _ _ _ _ (⟨_, _, _, _, _, some _⟩ :: _) _ _ _; (refine gif rfl rfl ?_; refine giTT tbL ?_)) | (show SH _ _ _ _ _ (⟨_, .move _, _, _, _, _⟩ :: _) _ _ _; refine mov evL ?_) | (show SH _ _ _ _ _ (⟨_, .assign _, _, _, _, _⟩ :: _) _ _ _; refine asg evL ?_) | (show SH _ _ _ _ _ (⟨_, .load _ _, _, _, _, _⟩ :: _) _ _ _; refine lbx rfl spL (by rfl) ?_) | (show SH _ _ _ _ _ (⟨_, .call ⟨.value (.func 71), _, _⟩, _, _, _, _⟩ :: _) _ _ _; refine cl (callee := .func 71) rfl (fun w hw => flatLimbs_none _) rfl rfl ?_) | refine nlc rfl ?_ | refine fad rfl ?_) | refine s_nil ?_ | refine kh_normal ?_))
  refine cm rfl (fun w hw => flatInts_spec Ai ci ri _ (bx b 94 [.slice none 0 0, .slice Ai ri.length ci, .slice none 0 0, .slice none 0 0, .slice Ac rc.length cc, .slice Ae re.length ce, .slice Aw rw'.length cw, .slice none 0 0, .slice none 0 0, .slice none 0 0, .slice none 0 0, .slice none 0 0, .slice none 0 0, .slice none 0 0, .slice none 0 0, .slice none 0 0, .slice none 0 0, .slice none 0 0, .slice none 0 0, .slice none 0 0] :: orow 29 Ac cc lc :: allH (rc.map (rowP 37)) :: orow 22 Ae ce le :: allH (re.map (rowP 31)) :: orow 53 Aw cw lw :: allH (rw'.map (rowP 24)) :: H) w hni hi2 (Ent.wd ((show Ent _ (orow 34 Ai ci (ri.map slv) :: allH (ri.map (rowP 3)) :: bx b 94 [.slice none 0 0, .slice Ai ri.length ci, .slice none 0 0, .slice none 0 0, .slice Ac rc.length cc, .slice Ae re.length ce, .slice Aw rw'.length cw, .slice none 0 0, .slice none 0 0, .slice none 0 0, .slice none 0 0, .slice none 0 0, .slice none 0 0, .slice none 0 0, .slice none 0 0, .slice none 0 0, .slice none 0 0, .slice none 0 0, .slice none 0 0, .slice none 0 0] :: orow 29 Ac cc lc :: allH (rc.map (rowP 37)) :: orow 22 Ae ce le :: allH (re.map (rowP 31)) :: orow 53 Aw cw lw :: allH (rw'.map (rowP 24)) :: H) from by rw [← hi]; exact enL).trans (ent_cons Split.head (ent_all_out _))) hw)) rfl rfl ?_
  rintro _ _ ⟨rfl, rfl⟩
  refine ⟨trivial, ?_⟩
  (repeat' ((show SH _ _ _ _ _ (_ :: _) _ _ _; first | (show SH _ _ _ _ _ (⟨_, _, _, _, _, some _⟩ :: _) _ _ _; (refine gif rfl rfl ?_; refine giTT tbL ?_)) | (show SH _ _ _ _ _ (⟨_, .move _, _, _, _, _⟩ :: _) _ _ _; refine mov evL ?_) | (show SH _ _ _ _ _ (⟨_, .load _ _, _, _, _, _⟩ :: _) _ _ _; refine lbx rfl spL (by rfl) ?_) | (show SH _ _ _ _ _ (⟨_, .call ⟨.value (.func 73), _, _⟩, _, _, _, _⟩ :: _) _ _ _; refine cl (callee := .func 73) rfl (fun w hw => flatTexts_none _) rfl rfl ?_) | (show SH _ _ _ _ _ (⟨_, .call ⟨.value (.func 74), _, _⟩, _, _, _, _⟩ :: _) _ _ _; refine cl (callee := .func 74) rfl (fun w hw => flatBytes_none _) rfl rfl ?_) | (show SH _ _ _ _ _ (⟨_, .pick _ _ _, _, _, _, _⟩ :: _) _ _ _; refine pkt rfl tbL evL ?_) | refine nlc rfl ?_ | refine fad rfl ?_)))
  refine cm rfl (fun w hw => flatComps_spec Ac cc rc _ (bx b 94 [.slice none 0 0, .slice Ai ri.length ci, .slice none 0 0, .slice none 0 0, .slice Ac rc.length cc, .slice Ae re.length ce, .slice Aw rw'.length cw, .slice none 0 0, .slice none 0 0, .slice none 0 0, .slice none 0 0, .slice none 0 0, .slice none 0 0, .slice none 0 0, .slice none 0 0, .slice none 0 0, .slice none 0 0, .slice none 0 0, .slice none 0 0, .slice none 0 0] :: orow 22 Ae ce le :: allH (re.map (rowP 31)) :: orow 53 Aw cw lw :: allH (rw'.map (rowP 24)) :: H) w hnc hc2 (Ent.wd ((show Ent _ (orow 29 Ac cc (rc.map slv) :: allH (rc.map (rowP 37)) :: bx b 94 [.slice none 0 0, .slice Ai ri.length ci, .slice none 0 0, .slice none 0 0, .slice Ac rc.length cc, .slice Ae re.length ce, .slice Aw rw'.length cw, .slice none 0 0, .slice none 0 0, .slice none 0 0, .slice none 0 0, .slice none 0 0, .slice none 0 0, .slice none 0 0, .slice none 0 0, .slice none 0 0, .slice none 0 0, .slice none 0 0, .slice none 0 0, .slice none 0 0] :: orow 22 Ae ce le :: allH (re.map (rowP 31)) :: orow 53 Aw cw lw :: allH (rw'.map (rowP 24)) :: H) from by rw [← hc]; exact enL).trans (ent_cons Split.head (ent_all_out _))) hw)) rfl rfl ?_
  rintro _ _ ⟨rfl, rfl⟩
  refine ⟨trivial, ?_⟩
  (repeat' ((show SH _ _ _ _ _ (_ :: _) _ _ _; first | (show SH _ _ _ _ _ (⟨_, _, _, _, _, some _⟩ :: _) _ _ _; (refine gif rfl rfl ?_; refine giTT tbL ?_)) | (show SH _ _ _ _ _ (⟨_, .move _, _, _, _, _⟩ :: _) _ _ _; refine mov evL ?_) | (show SH _ _ _ _ _ (⟨_, .load _ _, _, _, _, _⟩ :: _) _ _ _; refine lbx rfl spL (by rfl) ?_) | (show SH _ _ _ _ _ (⟨_, .pick _ _ _, _, _, _, _⟩ :: _) _ _ _; refine pkt rfl tbL evL ?_) | refine nlc rfl ?_ | refine fad rfl ?_)))
  refine cm rfl (fun w hw => flatEntities_spec Ae ce re _ (bx b 94 [.slice none 0 0, .slice Ai ri.length ci, .slice none 0 0, .slice none 0 0, .slice Ac rc.length cc, .slice Ae re.length ce, .slice Aw rw'.length cw, .slice none 0 0, .slice none 0 0, .slice none 0 0, .slice none 0 0, .slice none 0 0, .slice none 0 0, .slice none 0 0, .slice none 0 0, .slice none 0 0, .slice none 0 0, .slice none 0 0, .slice none 0 0, .slice none 0 0] :: orow 53 Aw cw lw :: allH (rw'.map (rowP 24)) :: H) w hne he2 (Ent.wd ((show Ent _ (orow 22 Ae ce (re.map slv) :: allH (re.map (rowP 31)) :: bx b 94 [.slice none 0 0, .slice Ai ri.length ci, .slice none 0 0, .slice none 0 0, .slice Ac rc.length cc, .slice Ae re.length ce, .slice Aw rw'.length cw, .slice none 0 0, .slice none 0 0, .slice none 0 0, .slice none 0 0, .slice none 0 0, .slice none 0 0, .slice none 0 0, .slice none 0 0, .slice none 0 0, .slice none 0 0, .slice none 0 0, .slice none 0 0, .slice none 0 0] :: orow 53 Aw cw lw :: allH (rw'.map (rowP 24)) :: H) from by rw [← he]; exact enL).trans (ent_cons Split.head (ent_all_out _))) hw)) rfl rfl ?_
  rintro _ _ ⟨rfl, rfl⟩
  refine ⟨trivial, ?_⟩
  (repeat' ((show SH _ _ _ _ _ (_ :: _) _ _ _; first | (show SH _ _ _ _ _ (⟨_, _, _, _, _, some _⟩ :: _) _ _ _; (refine gif rfl rfl ?_; refine giTT tbL ?_)) | (show SH _ _ _ _ _ (⟨_, .move _, _, _, _, _⟩ :: _) _ _ _; refine mov evL ?_) | (show SH _ _ _ _ _ (⟨_, .load _ _, _, _, _, _⟩ :: _) _ _ _; refine lbx rfl spL (by rfl) ?_) | (show SH _ _ _ _ _ (⟨_, .pick _ _ _, _, _, _, _⟩ :: _) _ _ _; refine pkt rfl tbL evL ?_) | refine nlc rfl ?_ | refine fad rfl ?_)))
  refine cm rfl (fun w hw => flatWorlds_spec Aw cw rw' _ (bx b 94 [.slice none 0 0, .slice Ai ri.length ci, .slice none 0 0, .slice none 0 0, .slice Ac rc.length cc, .slice Ae re.length ce, .slice Aw rw'.length cw, .slice none 0 0, .slice none 0 0, .slice none 0 0, .slice none 0 0, .slice none 0 0, .slice none 0 0, .slice none 0 0, .slice none 0 0, .slice none 0 0, .slice none 0 0, .slice none 0 0, .slice none 0 0, .slice none 0 0] :: H) w hnw hw2 (Ent.wd ((show Ent _ (orow 53 Aw cw (rw'.map slv) :: allH (rw'.map (rowP 24)) :: bx b 94 [.slice none 0 0, .slice Ai ri.length ci, .slice none 0 0, .slice none 0 0, .slice Ac rc.length cc, .slice Ae re.length ce, .slice Aw rw'.length cw, .slice none 0 0, .slice none 0 0, .slice none 0 0, .slice none 0 0, .slice none 0 0, .slice none 0 0, .slice none 0 0, .slice none 0 0, .slice none 0 0, .slice none 0 0, .slice none 0 0, .slice none 0 0, .slice none 0 0] :: H) from by rw [← hww]; exact enL).trans (ent_cons Split.head (ent_all_out _))) hw)) rfl rfl ?_
  rintro _ _ ⟨rfl, rfl⟩
  refine ⟨trivial, ?_⟩
  (repeat' (first | refine v_ret ?_ | (show SH _ _ _ _ _ (_ :: _) _ _ _; first | (show SH _ _ _ _ _ (⟨_, _, _, _, _, some _⟩ :: _) _ _ _; (refine gif rfl rfl ?_; refine giTT tbL ?_)) | (show SH _ _ _ _ _ (⟨_, .move _, _, _, _, _⟩ :: _) _ _ _; refine mov evL ?_) | (show SH _ _ _ _ _ (⟨_, .assign _, _, _, _, _⟩ :: _) _ _ _; refine asg evL ?_) | (show SH _ _ _ _ _ (⟨_, .load _ _, _, _, _, _⟩ :: _) _ _ _; refine lbx rfl spL (by rfl) ?_) | (show SH _ _ _ _ _ (⟨_, .call ⟨.value (.func 78), _, _⟩, _, _, _, _⟩ :: _) _ _ _; refine cl (callee := .func 78) rfl (fun w hw => flatVecs_none _) rfl rfl ?_) | (show SH _ _ _ _ _ (⟨_, .call ⟨.value (.func 79), _, _⟩, _, _, _, _⟩ :: _) _ _ _; refine cl (callee := .func 79) rfl (fun w hw => flatBodies_none _) rfl rfl ?_) | (show SH _ _ _ _ _ (⟨_, .call ⟨.value (.func 80), _, _⟩, _, _, _, _⟩ :: _) _ _ _; refine cl (callee := .func 80) rfl (fun w hw => flatSystems_none _) rfl rfl ?_) | (show SH _ _ _ _ _ (⟨_, .call ⟨.value (.func 81), _, _⟩, _, _, _, _⟩ :: _) _ _ _; refine cl (callee := .func 81) rfl (fun w hw => flatInputs_none _) rfl rfl ?_) | (show SH _ _ _ _ _ (⟨_, .call ⟨.value (.func 82), _, _⟩, _, _, _, _⟩ :: _) _ _ _; refine cl (callee := .func 82) rfl (fun w hw => flatAreas_none _) rfl rfl ?_) | (show SH _ _ _ _ _ (⟨_, .call ⟨.value (.func 83), _, _⟩, _, _, _, _⟩ :: _) _ _ _; refine cl (callee := .func 83) rfl (fun w hw => flatPairs_none _) rfl rfl ?_) | (show SH _ _ _ _ _ (⟨_, .call ⟨.value (.func 84), _, _⟩, _, _, _, _⟩ :: _) _ _ _; refine cl (callee := .func 84) rfl (fun w hw => flatRopes_none _) rfl rfl ?_) | (show SH _ _ _ _ _ (⟨_, .call ⟨.value (.func 85), _, _⟩, _, _, _, _⟩ :: _) _ _ _; refine cl (callee := .func 85) rfl (fun w hw => flatExprs_none _) rfl rfl ?_) | (show SH _ _ _ _ _ (⟨_, .call ⟨.value (.func 86), _, _⟩, _, _, _, _⟩ :: _) _ _ _; refine cl (callee := .func 86) rfl (fun w hw => flatStmts_none _) rfl rfl ?_) | (show SH _ _ _ _ _ (⟨_, .call ⟨.value (.func 87), _, _⟩, _, _, _, _⟩ :: _) _ _ _; refine cl (callee := .func 87) rfl (fun w hw => flatScenes_none _) rfl rfl ?_) | (show SH _ _ _ _ _ (⟨_, .call ⟨.value (.func 88), _, _⟩, _, _, _, _⟩ :: _) _ _ _; refine cl (callee := .func 88) rfl (fun w hw => flatStops_none _) rfl rfl ?_) | (show SH _ _ _ _ _ (⟨_, .call ⟨.value (.func 89), _, _⟩, _, _, _, _⟩ :: _) _ _ _; refine cl (callee := .func 89) rfl (fun w hw => flatPortals_none _) rfl rfl ?_) | (show SH _ _ _ _ _ (⟨_, .call ⟨.value (.func 90), _, _⟩, _, _, _, _⟩ :: _) _ _ _; refine cl (callee := .func 90) rfl (fun w hw => flatStores_none _) rfl rfl ?_) | (show SH _ _ _ _ _ (⟨_, .pick _ _ _, _, _, _, _⟩ :: _) _ _ _; refine pkt rfl tbL evL ?_) | refine nlc rfl ?_ | refine fad rfl ?_) | refine s_nil ?_ | refine kh_normal ?_))
  exact rh1 rfl rfl ⟨rfl, rfl⟩ enL
end Go.Proofs.YtjefoecnciepmaaGreatDoor

/- The kit: ApartInts, ApartWorlds (printed by gen_kw.py). -/
namespace Go.Proofs.YtjefoecnciepmaaGreatDoor
open Go.Fw Go.RowKit
theorem ent_rows_nil {α : Type} [Flat α] {e : TypeId} {H G : List HP} (h : Ent H G) : Ent H (allH (([] : List (RowG α)).map (rowP e)) :: G) := ent_all_nil h
set_option maxHeartbeats 1000000 in
set_option maxRecDepth 100000 in
theorem apartInts_spec (A0 : Option Addr) (c0 : Nat) (rs : List (RowG Int)) (w0 : World) (H : List HP) (w : World) (hn : rs.length ≤ 100000) (hll : ∀ r ∈ rs.map slv, r.m ≤ 1000000)
    (hw : Wd w0 (orow 34 A0 c0 (rs.map slv) :: allH (rs.map (rowP 3)) :: H) w) :
    Ret Tryz.prog 27 [.slice A0 rs.length c0].toArray w (RP w0 fun v H' => v = .bool true ∧ H' = H) := by
  obtain ⟨sl, hsl⟩ : ∃ sl, sl = rs.map slv := ⟨_, rfl⟩
  have hsn : sl.length = rs.length := by rw [hsl, List.length_map]
  rw [← hsl] at hw
  refine enterH Tryz.func27 rfl rfl Tryz.ntmps27 rfl (by assumption) ?_
  (repeat' (first | (show VH _ _ _ _ _ _ _; first | refine v_seq ?_ | refine r_seq ?_ | refine v_block ?_) | (show SH _ _ _ _ _ (_ :: _) _ _ _; first | (show SH _ _ _ _ _ (⟨_, .assign _, _, _, _, _⟩ :: _) _ _ _; refine asg evL ?_) | refine bld rfl rfl ?_ | (show SH _ _ _ _ _ (⟨_, .box _ _, _, _, _, _⟩ :: _) _ _ _; refine bxx rfl evL rfl (fun b => ?_))) | refine s_nil ?_ | refine kh_normal ?_))
  revert b
  intro b3
  refine v_norm [(0,_),(3,_),(4,_)] heL (fun g => ?_)
  refine v_loop [(4,4),(7,18)] (fun y : Nat × (Option Addr × Nat) => [(4, .int .i64 y.1)]) (fun y => bagL b3 ⟨⟨y.2.1, y.2.2, sl.take y.1⟩, ⟨none, 0, []⟩, ⟨none, 0, []⟩, ⟨none, 0, []⟩⟩ (orow 34 A0 c0 sl :: allH (rs.map (rowP 3)) :: H)) (fun y => y.1 ≤ rs.length) (fun y => rs.length - y.1) (0, (none, 0)) hsL (by
    unfold bagL bagC
    exact ent_cons spL (ent_nilrow (ent_nilrow (ent_nilrow (ent_nilrow enL))))) (Nat.zero_le _) ?_
  rintro ⟨k, A1, c1⟩ g hk
  simp only [sets]
  simp only at hk
  have htl : (sl.take k).length = k := by rw [List.length_take]; omega
  by_cases hkl : k < rs.length
  · obtain ⟨x, hx⟩ : ∃ x, sl.getD k Flat.dflt = x := ⟨_, rfl⟩
    have hsn2 : sl.take (k + 1) = sl.take k ++ [x] := by rw [take_snoc (d := Flat.dflt) (by omega), hx]
    obtain ⟨xA, xm, xc⟩ := x
    have hP := fun w0 H w h => putInts_spec b3 ⟨⟨A1, c1, sl.take k⟩, ⟨none, 0, []⟩, ⟨none, 0, []⟩, ⟨none, 0, []⟩⟩ xA xm xc w0 H w (by show (sl.take k).length ≤ _; omega) h
    simp only at hP
    rw [← hsn2] at hP
    unfold bagL bagC at hP ⊢
    simp only at hP ⊢
    (repeat' (first | (show VH _ _ _ _ _ _ _; first | refine v_seq ?_ | refine r_seq ?_ | refine v_block ?_ | refine v_skip ?_ | refine v_cond_t rfl tbL ?_) | (show SH _ _ _ _ _ (_ :: _) _ _ _; first | (show SH _ _ _ _ _ (⟨_, .move _, _, _, _, _⟩ :: _) _ _ _; refine mov evL ?_) | refine lss rfl rfl ?_ | (show SH _ _ _ _ _ (⟨_, .load _ _, _, _, _, _⟩ :: _) _ _ _; refine lsl rfl (fun _ _ => rdL) omL (by assumption) ?_) | (show SH _ _ _ _ _ (⟨_, .indexAddr _ _ _, _, _, _, _⟩ :: _) _ _ _; refine ix rfl rfl (by with_reducible rfl) (fun _ _ => rdL) (by rfl) omL omL ?_) | refine slen rfl ?_) | refine s_nil ?_ | refine kh_normal ?_))
    refine cm rfl (fun w hw => hP _ _ w hw) rfl rfl ?_
    rintro _ _ ⟨rfl, A', c', rfl⟩
    refine ⟨trivial, ?_⟩
    (repeat' (first | refine r_seq ?_ | (show SH _ _ _ _ _ (_ :: _) _ _ _; first | (show SH _ _ _ _ _ (⟨_, .move _, _, _, _, _⟩ :: _) _ _ _; refine mov evL ?_) | (show SH _ _ _ _ _ (⟨_, .assign _, _, _, _, _⟩ :: _) _ _ _; refine asg evL ?_) | (show SH _ _ _ _ _ (⟨_, .binOp .add _ _ _ _, _, _, _, _⟩ :: _) _ _ _; refine add rfl rfl inL ?_)) | refine s_nil ?_ | refine kh_normal ?_ | refine bh_normal ?_))
    exact ⟨agL, (k + 1, (A', c')), hsL, ent_refl _, by show k + 1 ≤ _; omega, by show _ - (k + 1) < _ - k; omega⟩
  · obtain rfl : k = rs.length := by omega
    rw [List.take_of_length_le (by omega)]
    have hB := fun w0 H w h => bagApart_spec b3 ⟨⟨A1, c1, sl⟩, ⟨none, 0, []⟩, ⟨none, 0, []⟩, ⟨none, 0, []⟩⟩ rs [] [] [] w0 H w hsl rfl rfl rfl hll (fun r hr => by cases hr) (fun r hr => by cases hr) (fun r hr => by cases hr) hn (by simp) (by simp) (by simp) h
    unfold bagL bagC at hB ⊢
    simp only at hB ⊢
    (repeat' (first | (show VH _ _ _ _ _ _ _; first | refine v_seq ?_ | refine r_seq ?_ | refine v_exit ?_ | refine v_cond_f rfl tbL ?_) | (show SH _ _ _ _ _ (_ :: _) _ _ _; first | (show SH _ _ _ _ _ (⟨_, .move _, _, _, _, _⟩ :: _) _ _ _; refine mov evL ?_) | refine lss rfl rfl ?_ | refine slen rfl ?_) | refine s_nil ?_ | refine kh_normal ?_ | refine kh_exit ?_ | refine bh_exit ?_))
    refine cm rfl (fun w hw => hB _ H w (Ent.wd (ent_cons Split.head (ent_cons Split.head (ent_cons Split.head (ent_cons Split.head (ent_cons Split.head (ent_cons (Split.tail Split.head) (ent_drop (ent_rows_nil (ent_rows_nil (ent_rows_nil (ent_refl _)))))))))))  hw)) rfl rfl ?_
    rintro _ _ ⟨rfl, rfl⟩
    refine ⟨trivial, ?_⟩
    (repeat' (first | refine v_ret ?_ | (show SH _ _ _ _ _ (_ :: _) _ _ _; (show SH _ _ _ _ _ (⟨_, .assign _, _, _, _, _⟩ :: _) _ _ _; refine asg evL ?_)) | refine s_nil ?_ | refine kh_normal ?_))
    exact rh1 rfl rfl ⟨rfl, rfl⟩ enL
/-- A world in memory of its own, in a row of its own. -/
structure WW where
  A1 : Option Addr
  c1 : Nat
  t : Int
  A : Option Addr
  c : Nat
  L : List EntP
def dWW : WW := ⟨none, 0, 0, none, 0, []⟩
def wRow (x : WW) : RowG WldV := ⟨x.A1, x.c1, [⟨x.t, x.A, x.L.length, x.c⟩]⟩
def eRow (x : WW) : RowG EntP := ⟨x.A, x.c, x.L⟩
def cRow (y : EntP) : RowG Comp := ⟨y.A, y.cp, y.e.comps⟩
def eSl (x : WW) : SliceV := ⟨x.A, x.L.length, x.c⟩
theorem wRow_slv (ws : List WW) : (ws.map wRow).map slv = ws.map fun x => (⟨x.A1, 1, x.c1⟩ : SliceV) := by rw [List.map_map]; rfl
theorem eRow_slv (ws : List WW) : (ws.map eRow).map slv = ws.map eSl := by rw [List.map_map]; rfl
theorem cRow_slv (l : List EntP) : (l.map cRow).map slv = l.map cSl := by rw [List.map_map]; rfl
/-- All entities of worlds. -/
def allE (ws : List WW) : List EntP := ws.flatMap WW.L
theorem allE_next {ws : List WW} {k : Nat} (h : k < ws.length) : allE (ws.take (k + 1)) = allE (ws.take k) ++ (ws.getD k dWW).L := by
  unfold allE
  rw [take_snoc (d := dWW) h, List.flatMap_append]; simp
theorem allE_len (ws : List WW) (k : Nat) : (allE (ws.take k)).length ≤ (allE ws).length := by
  have : allE ws = allE (ws.take k) ++ allE (ws.drop k) := by unfold allE; rw [← List.flatMap_append, List.take_append_drop]
  rw [this, List.length_append]; omega
set_option maxHeartbeats 2000000 in
set_option maxRecDepth 100000 in
theorem apartWorlds_spec (A0 : Option Addr) (c0 : Nat) (ws : List WW) (w0 : World) (H : List HP) (w : World) (hn : ws.length ≤ 1000) (hE : (allE ws).length ≤ 90000) (hLl : ∀ x ∈ ws, x.L.length ≤ 1000000) (hcl : ∀ y ∈ allE ws, y.e.comps.length ≤ 1000000)
    (hw : Wd w0 (orow 53 A0 c0 (ws.map fun x => (⟨x.A1, 1, x.c1⟩ : SliceV)) :: allH ((ws.map wRow).map (rowP 24)) :: allH ((ws.map eRow).map (rowP 31)) :: allH ((allE ws).map fun y => rowP 37 (cRow y)) :: H) w) :
    Ret Tryz.prog 28 [.slice A0 ws.length c0].toArray w (RP w0 fun v H' => v = .bool true ∧ H' = H) := by
  obtain ⟨sl, hsl⟩ : ∃ sl, sl = ws.map fun x => (⟨x.A1, 1, x.c1⟩ : SliceV) := ⟨_, rfl⟩
  have hsn : sl.length = ws.length := by rw [hsl, List.length_map]
  have hsg : ∀ k, k < ws.length → sl.getD k Flat.dflt = (⟨(ws.getD k dWW).A1, 1, (ws.getD k dWW).c1⟩ : SliceV) := fun k hk => by
    rw [hsl, getD_map' (d := dWW) hk]
  rw [← hsl] at hw
  have hex : (allE ws).map (fun y => rowP 37 (cRow y)) = ((allE ws).map cRow).map (rowP 37) := by rw [List.map_map]; rfl
  rw [hex] at hw
  clear hex
  refine enterH Tryz.func28 rfl rfl Tryz.ntmps28 rfl (by assumption) ?_
  (repeat' (first | (show VH _ _ _ _ _ _ _; first | refine v_seq ?_ | refine r_seq ?_ | refine v_block ?_) | (show SH _ _ _ _ _ (_ :: _) _ _ _; first | (show SH _ _ _ _ _ (⟨_, .assign _, _, _, _, _⟩ :: _) _ _ _; refine asg evL ?_) | refine bld rfl rfl ?_ | (show SH _ _ _ _ _ (⟨_, .box _ _, _, _, _, _⟩ :: _) _ _ _; refine bxx rfl evL rfl (fun b => ?_))) | refine s_nil ?_ | refine kh_normal ?_))
  revert b
  intro b3
  refine v_norm [(0,_),(3,_),(4,_)] heL (fun g => ?_)
  refine v_loop [(4,4),(7,18)] (fun y : Nat × (Option Addr × Nat) × (Option Addr × Nat) × (Option Addr × Nat) => [(4, .int .i64 y.1)]) (fun y => bagL b3 ⟨⟨none, 0, []⟩, ⟨y.2.1.1, y.2.1.2, (allE (ws.take y.1)).map cSl⟩, ⟨y.2.2.1.1, y.2.2.1.2, (ws.take y.1).map eSl⟩, ⟨y.2.2.2.1, y.2.2.2.2, sl.take y.1⟩⟩ (orow 53 A0 c0 sl :: allH ((ws.map wRow).map (rowP 24)) :: allH ((ws.map eRow).map (rowP 31)) :: allH (((allE ws).map cRow).map (rowP 37)) :: H)) (fun y => y.1 ≤ ws.length) (fun y => ws.length - y.1) (0, (none, 0), (none, 0), none, 0) hsL (by
    unfold bagL bagC
    exact ent_cons spL (ent_nilrow (ent_nilrow (ent_nilrow (ent_nilrow enL))))) (Nat.zero_le _) ?_
  rintro ⟨k, ⟨Ac, cc⟩, ⟨Ae, ce⟩, Aw, cw⟩ g hk
  simp only [sets]
  simp only at hk
  have htl : (sl.take k).length = k := by rw [List.length_take]; omega
  have hel : (allE (ws.take k)).length ≤ 90000 := Nat.le_trans (allE_len ws k) hE
  by_cases hkl : k < ws.length
  · have hx := hsg k hkl
    have hn1 := allE_next hkl
    have hn2 : (ws.take (k + 1)).map eSl = (ws.take k).map eSl ++ [eSl (ws.getD k dWW)] := by rw [take_snoc (d := dWW) hkl, List.map_append]; rfl
    have hn3 : sl.take (k + 1) = sl.take k ++ [sl.getD k Flat.dflt] := take_snoc (d := Flat.dflt) (by omega)
    have hel2 : (allE (ws.take (k + 1))).length ≤ 90000 := Nat.le_trans (allE_len ws (k + 1)) hE
    have hopen : Ent (orow 53 A0 c0 sl :: allH ((ws.map wRow).map (rowP 24)) :: allH ((ws.map eRow).map (rowP 31)) :: allH (((allE ws).map cRow).map (rowP 37)) :: H) (rowP 24 (wRow (ws.getD k dWW)) :: rowP 31 (eRow (ws.getD k dWW)) :: orow 53 A0 c0 sl :: allH (((ws.map wRow).eraseIdx k).map (rowP 24)) :: allH (((ws.map eRow).eraseIdx k).map (rowP 31)) :: allH (((allE ws).map cRow).map (rowP 37)) :: H) := by
      have h1 := ent_all_open (d := rowD) (f := rowP 24) (L := ws.map wRow) (k := k) (G := allH ((ws.map eRow).map (rowP 31)) :: orow 53 A0 c0 sl :: allH (((allE ws).map cRow).map (rowP 37)) :: H) (by rw [List.length_map]; exact hkl)
      have h2 := ent_all_open (d := rowD) (f := rowP 31) (L := ws.map eRow) (k := k) (G := rowP 24 (wRow (ws.getD k dWW)) :: orow 53 A0 c0 sl :: allH (((ws.map wRow).eraseIdx k).map (rowP 24)) :: allH (((allE ws).map cRow).map (rowP 37)) :: H) (by rw [List.length_map]; exact hkl)
      rw [getD_map' (d := dWW) hkl] at h1 h2
      exact Ent.trans (B := allH ((ws.map wRow).map (rowP 24)) :: allH ((ws.map eRow).map (rowP 31)) :: orow 53 A0 c0 sl :: allH (((allE ws).map cRow).map (rowP 37)) :: H) enL (h1.trans (Ent.trans (B := allH ((ws.map eRow).map (rowP 31)) :: rowP 24 (wRow (ws.getD k dWW)) :: orow 53 A0 c0 sl :: allH (((ws.map wRow).eraseIdx k).map (rowP 24)) :: allH (((allE ws).map cRow).map (rowP 37)) :: H) enL (h2.trans enL)))
    have hback : Ent (rowP 24 (wRow (ws.getD k dWW)) :: rowP 31 (eRow (ws.getD k dWW)) :: orow 53 A0 c0 sl :: allH (((ws.map wRow).eraseIdx k).map (rowP 24)) :: allH (((ws.map eRow).eraseIdx k).map (rowP 31)) :: allH (((allE ws).map cRow).map (rowP 37)) :: H) (orow 53 A0 c0 sl :: allH ((ws.map wRow).map (rowP 24)) :: allH ((ws.map eRow).map (rowP 31)) :: allH (((allE ws).map cRow).map (rowP 37)) :: H) := by
      have h1 := ent_all_back (d := rowD) (f := rowP 24) (L := ws.map wRow) (k := k) (G := orow 53 A0 c0 sl :: allH ((ws.map eRow).map (rowP 31)) :: allH (((allE ws).map cRow).map (rowP 37)) :: H) (by rw [List.length_map]; exact hkl)
      have h2 := ent_all_back (d := rowD) (f := rowP 31) (L := ws.map eRow) (k := k) (G := rowP 24 (wRow (ws.getD k dWW)) :: orow 53 A0 c0 sl :: allH (((ws.map wRow).eraseIdx k).map (rowP 24)) :: allH (((allE ws).map cRow).map (rowP 37)) :: H) (by rw [List.length_map]; exact hkl)
      rw [getD_map' (d := dWW) hkl] at h1 h2
      exact Ent.trans (B := rowP 31 (eRow (ws.getD k dWW)) :: allH (((ws.map eRow).eraseIdx k).map (rowP 31)) :: rowP 24 (wRow (ws.getD k dWW)) :: orow 53 A0 c0 sl :: allH (((ws.map wRow).eraseIdx k).map (rowP 24)) :: allH (((allE ws).map cRow).map (rowP 37)) :: H) enL (h2.trans (Ent.trans (B := rowP 24 (wRow (ws.getD k dWW)) :: allH (((ws.map wRow).eraseIdx k).map (rowP 24)) :: orow 53 A0 c0 sl :: allH ((ws.map eRow).map (rowP 31)) :: allH (((allE ws).map cRow).map (rowP 37)) :: H) enL (h1.trans enL)))
    generalize allH (((ws.map wRow).eraseIdx k).map (rowP 24)) = Pw at hopen hback
    generalize allH (((ws.map eRow).eraseIdx k).map (rowP 31)) = Pe at hopen hback
    generalize ws.getD k dWW = x at hx hn1 hn2 hopen hback
    obtain ⟨xA1, xc1, xt, xA, xc, xL⟩ := x
    simp only at hx hn1
    rw [hx] at hn3
    rw [hn1, List.length_append] at hel2
    generalize allH ((ws.map wRow).map (rowP 24)) = PW at hopen hback ⊢
    generalize allH ((ws.map eRow).map (rowP 31)) = PE at hopen hback ⊢
    generalize allH (((allE ws).map cRow).map (rowP 37)) = PC at hopen hback ⊢
    obtain ⟨M, hM⟩ : ∃ M, M = [(⟨xt, xA, xL.length, xc⟩ : WldV)] := ⟨_, rfl⟩
    have hopen2 : Ent (orow 53 A0 c0 sl :: PW :: PE :: PC :: H) (orow 24 xA1 xc1 M :: orow 31 xA xc xL :: orow 53 A0 c0 sl :: Pw :: Pe :: PC :: H) := by rw [hM]; exact hopen
    have hback2 : Ent (orow 24 xA1 xc1 M :: orow 31 xA xc xL :: orow 53 A0 c0 sl :: Pw :: Pe :: PC :: H) (orow 53 A0 c0 sl :: PW :: PE :: PC :: H) := by rw [hM]; exact hback
    have hM1 : M.length = 1 := by rw [hM]; rfl
    have hME : Flat.enc (M.getD 0 Flat.dflt) = [.int .i64 xt, .slice xA xL.length xc] := by rw [hM]; rfl
    have hP := fun w0 H w h => putWorlds_spec b3 ⟨⟨none, 0, []⟩, ⟨Ac, cc, (allE (ws.take k)).map cSl⟩, ⟨Ae, ce, (ws.take k).map eSl⟩, ⟨Aw, cw, sl.take k⟩⟩ xA1 xc1 xt xA xL xc M hM1 hME w0 H w (by show (sl.take k).length ≤ _; omega) (by show ((ws.take k).map eSl).length ≤ _; rw [List.length_map, List.length_take]; omega) (by show ((allE (ws.take k)).map cSl).length + xL.length ≤ _; rw [List.length_map]; omega) h
    simp only at hP
    rw [← hn3, ← List.map_append, ← hn1, show (⟨xA, xL.length, xc⟩ : SliceV) = eSl ⟨xA1, xc1, xt, xA, xc, xL⟩ from rfl, ← hn2] at hP
    clear hn1 hn2 hn3 hM hopen hback
    unfold bagL bagC at hP ⊢
    simp only at hP ⊢
    refine VH.ent (G := bx b3 94 [.slice none 0 0, .slice none ([] : List SliceV).length 0, .slice none 0 0, .slice none 0 0, .slice Ac ((allE (ws.take k)).map cSl).length cc, .slice Ae ((ws.take k).map eSl).length ce, .slice Aw (sl.take k).length cw, .slice none 0 0, .slice none 0 0, .slice none 0 0, .slice none 0 0, .slice none 0 0, .slice none 0 0, .slice none 0 0, .slice none 0 0, .slice none 0 0, .slice none 0 0, .slice none 0 0, .slice none 0 0, .slice none 0 0] :: orow 34 none 0 ([] : List SliceV) :: orow 29 Ac cc ((allE (ws.take k)).map cSl) :: orow 22 Ae ce ((ws.take k).map eSl) :: orow 53 Aw cw (sl.take k) :: orow 24 xA1 xc1 M :: orow 31 xA xc xL :: orow 53 A0 c0 sl :: Pw :: Pe :: PC :: H) ?_ (ent_cons Split.head (ent_cons Split.head (ent_cons Split.head (ent_cons Split.head (ent_cons Split.head hopen2)))))
    (repeat' (first | (show VH _ _ _ _ _ _ _; first | refine v_seq ?_ | refine r_seq ?_ | refine v_block ?_ | refine v_skip ?_ | refine v_cond_t rfl tbL ?_) | (show SH _ _ _ _ _ (_ :: _) _ _ _; first | (show SH _ _ _ _ _ (⟨_, .move _, _, _, _, _⟩ :: _) _ _ _; refine mov evL ?_) | refine lss rfl rfl ?_ | (show SH _ _ _ _ _ (⟨_, .load _ _, _, _, _, _⟩ :: _) _ _ _; refine lsl rfl (fun _ _ => rdL) omL (by assumption) ?_) | (show SH _ _ _ _ _ (⟨_, .indexAddr _ _ _, _, _, _, _⟩ :: _) _ _ _; refine ix rfl rfl (by with_reducible rfl) (fun _ _ => rdL) (by rfl) omL omL ?_) | refine slen rfl ?_) | refine s_nil ?_ | refine kh_normal ?_))
    refine cm rfl (fun w hw => hP _ _ w hw) rfl rfl ?_
    rintro _ _ ⟨rfl, A3, c3, A4, c4, A5, c5, rfl⟩
    refine ⟨trivial, ?_⟩
    (repeat' (first | refine r_seq ?_ | (show SH _ _ _ _ _ (_ :: _) _ _ _; first | (show SH _ _ _ _ _ (⟨_, .move _, _, _, _, _⟩ :: _) _ _ _; refine mov evL ?_) | (show SH _ _ _ _ _ (⟨_, .assign _, _, _, _, _⟩ :: _) _ _ _; refine asg evL ?_) | (show SH _ _ _ _ _ (⟨_, .binOp .add _ _ _ _, _, _, _, _⟩ :: _) _ _ _; refine add rfl rfl inL ?_)) | refine s_nil ?_ | refine kh_normal ?_ | refine bh_normal ?_))
    exact ⟨agL, (k + 1, (A5, c5), (A4, c4), (A3, c3)), hsL, (ent_cons Split.head (ent_cons Split.head (ent_cons Split.head (ent_cons Split.head (ent_cons Split.head hback2))))), by show k + 1 ≤ _; omega, by show _ - (k + 1) < _ - k; omega⟩
  · obtain rfl : k = ws.length := by omega
    rw [show sl.take ws.length = sl from List.take_of_length_le (by omega), show ws.take ws.length = ws from List.take_length]
    have hB := fun w0 H w h => bagApart_spec b3 ⟨⟨none, 0, []⟩, ⟨Ac, cc, (allE ws).map cSl⟩, ⟨Ae, ce, ws.map eSl⟩, ⟨Aw, cw, sl⟩⟩ [] ((allE ws).map cRow) (ws.map eRow) (ws.map wRow) w0 H w rfl (cRow_slv _).symm (eRow_slv _).symm (by rw [hsl, wRow_slv]) (fun r hr => by cases hr) (fun r hr => by
        rw [cRow_slv] at hr
        obtain ⟨y, hy, rfl⟩ := List.mem_map.1 hr
        exact hcl y hy) (fun r hr => by
        rw [eRow_slv] at hr
        obtain ⟨y, hy, rfl⟩ := List.mem_map.1 hr
        exact hLl y hy) (fun r hr => by
        rw [wRow_slv] at hr
        obtain ⟨y, hy, rfl⟩ := List.mem_map.1 hr
        show 1 ≤ 1000000; omega) (by simp) (by rw [List.length_map]; omega) (by rw [List.length_map]; omega) (by rw [List.length_map]; omega) h
    generalize allH ((ws.map wRow).map (rowP 24)) = PW at hB ⊢
    generalize allH ((ws.map eRow).map (rowP 31)) = PE at hB ⊢
    generalize allH (((allE ws).map cRow).map (rowP 37)) = PC at hB ⊢
    unfold bagL bagC at hB ⊢
    simp only at hB ⊢
    (repeat' (first | (show VH _ _ _ _ _ _ _; first | refine v_seq ?_ | refine r_seq ?_ | refine v_exit ?_ | refine v_cond_f rfl tbL ?_) | (show SH _ _ _ _ _ (_ :: _) _ _ _; first | (show SH _ _ _ _ _ (⟨_, .move _, _, _, _, _⟩ :: _) _ _ _; refine mov evL ?_) | refine lss rfl rfl ?_ | refine slen rfl ?_) | refine s_nil ?_ | refine kh_normal ?_ | refine kh_exit ?_ | refine bh_exit ?_))
    refine cm rfl (fun w hw => hB _ H w (Ent.wd (ent_cons Split.head (ent_cons Split.head (ent_cons Split.head (ent_cons Split.head (ent_cons Split.head (ent_rows_nil (ent_cons (Split.tail (Split.tail (Split.tail Split.head))) (ent_cons (Split.tail (Split.tail Split.head)) (ent_cons (Split.tail Split.head) (ent_drop (ent_refl _))))))))))) hw)) rfl rfl ?_
    rintro _ _ ⟨rfl, rfl⟩
    refine ⟨trivial, ?_⟩
    (repeat' (first | refine v_ret ?_ | (show SH _ _ _ _ _ (_ :: _) _ _ _; (show SH _ _ _ _ _ (⟨_, .assign _, _, _, _, _⟩ :: _) _ _ _; refine asg evL ?_)) | refine s_nil ?_ | refine kh_normal ?_))
    exact rh1 rfl rfl ⟨rfl, rfl⟩ enL

end Go.Proofs.YtjefoecnciepmaaGreatDoor

/- The law's package of layer 24: tells (printed by gen_lt24.py). -/
namespace Go.Proofs.YtjefoecnciepmaaGreatDoor
open Go.Fw Go.RowKit
theorem own_len (ct t : Int) (es : List Ent1) : (ownL ct t es).length ≤ es.length := by
  unfold ownL
  split
  · rw [List.length_map]; exact List.length_filter_le _ _
  · simp
theorem vis_len (ct t : Int) (es : List Ent1) : (visL ct t es).length ≤ es.length := by
  unfold visL
  split
  · rw [List.length_map]; exact List.length_filter_le _ _
  · simp
theorem wat_len (id t : Int) (es : List Ent1) : (watL id t es).length ≤ 8 := by
  unfold watL
  split
  · exact watN_len _ _ _ _
  · simp
theorem view_len (ct t : Int) (es : List Ent1) : (viewL ct t es).length ≤ es.length := by
  unfold viewL
  split
  · rw [List.length_map]; exact List.length_filter_le _ _
  · simp
theorem view_comps (ct t : Int) {es : List Ent1} {m : Nat} (h : ∀ e ∈ es, e.comps.length ≤ m) : ∀ e ∈ viewL ct t es, e.comps.length ≤ m := fun e he => by
  unfold viewL at he
  split at he
  · obtain ⟨y, hy, rfl⟩ := List.mem_map.1 he
    exact Nat.le_trans (List.length_filter_le _ _) (h y (List.mem_filter.1 hy).1)
  · exact absurd he List.not_mem_nil
theorem sz_of {L : List EntP} {es : List Ent1} (h : L.map EntP.e = es) (hn : es.length ≤ 1000) (hc : ∀ e ∈ es, e.comps.length ≤ 1000) : Sz L ∧ L.length ≤ 1000 ∧ ∀ x ∈ L, x.e.comps.length ≤ 1000 := by
  have hl : L.length = es.length := by rw [← h, List.length_map]
  have hx : ∀ x ∈ L, x.e.comps.length ≤ 1000 := fun x hx => hc _ (by rw [← h]; exact List.mem_map_of_mem hx)
  exact ⟨⟨by omega, fun x h => by have := hx x h; omega⟩, by omega, hx⟩
/-- Own memory is known. -/
theorem own_rd {w0 w : World} {A : Option Addr} {c : Nat} {L : List EntP} {H R : List HP} (hs : Ent H (orow 31 A c L :: allH (L.map rowOf) :: R)) (hw : Wd w0 H w) : RdW w A L :=
  (Ent.wd (hs.trans ent_knw) hw).kw (A := A) (l := L) Split.head
theorem ent_all_app {Y G : List HP} : ∀ {X : List HP}, Ent (allH X :: allH Y :: G) (allH (X ++ Y) :: G)
  | [] => ent_drop (ent_refl _)
  | a :: X => (ent_all_uncons (a := a) (X := X)).trans ((ent_cons Split.head (ent_all_app (X := X))).trans ent_all_cons)
theorem self_nz (z : Bool) : (!(z == z)) = false := by simp
set_option maxHeartbeats 4000000 in
set_option maxRecDepth 100000 in
theorem tells_spec (t : Int) (A : Option Addr) (l : List EntP) (c : Nat) (ct jd : Int) (W : World) (hG : Glob W) (hr : RdW W A l) (hn : l.length ≤ 1000) (hse : ∀ x ∈ l, x.e.comps.length ≤ 1000) :
    Ret Tryz.prog 6 [wv t A l c, .int .i64 ct, .int .i64 jd].toArray W (Out W (.bool true)) := by
  have hs : Sz l := ⟨by omega, fun x hx => by have := hse x hx; omega⟩
  have hse6 : ∀ x ∈ l, x.e.comps.length ≤ 1000000 := fun x hx => by have := hse x hx; omega
  have hL := fun w (he : Ext W w) => lentWorld_spec t A l c w (by omega) hse6 (hr.ext he)
  have hRo := fun w (he : Ext W w) => refOwn_spec ct t A l c w hs hse6 (hr.ext he)
  have hRv := fun w (he : Ext W w) => refVisible_spec ct t A l c w hs hse6 (hr.ext he)
  have hRs := fun w (he : Ext W w) => refSees_spec ct jd t A l c w hs hse6 (hr.ext he)
  have hRw := fun w (he : Ext W w) => refView_spec ct t A l c w hs hse6 (hr.ext he)
  have hRc := fun w (he : Ext W w) => refWatchers_spec jd t A l c w hs hse6 (hr.ext he)
  have hel : (ents l).length ≤ 1000 := by rw [ents_len]; exact hn
  have hec : ∀ e ∈ ents l, e.comps.length ≤ 1000 := fun e he => by
    obtain ⟨y, hy, rfl⟩ := List.mem_map.1 he
    exact hse y hy
  unfold FreshE at hRo hRv hRc
  unfold wv at *
  refine enterH Tryz.func6 rfl rfl Tryz.ntmps6 rfl (Wd.refl _) ?_
  (repeat' (first | (show VH _ _ _ _ _ _ _; first | refine v_seq ?_ | refine r_seq ?_) | (show SH _ _ _ _ _ (_ :: _) _ _ _; first | (show SH _ _ _ _ _ (⟨_, .assign _, _, _, _, _⟩ :: _) _ _ _; refine asg evL ?_) | (show SH _ _ _ _ _ (⟨_, .load _ _, _, _, _, _⟩ :: _) _ _ _; refine lba rfl spL (by rfl) ?_) | (show SH _ _ _ _ _ (⟨_, .call ⟨.value (.func 12), _, _⟩, _, _, _, _⟩ :: _) _ _ _; refine cp (callee := .func 12) rfl (fun w hw => hL w hw.ext) rfl rfl ?_) | (show SH _ _ _ _ _ (⟨_, .box _ _, _, _, _, _⟩ :: _) _ _ _; refine bxx rfl evL rfl (fun b => ?_))) | refine s_nil ?_ | refine kh_normal ?_))
  rintro _ _ ⟨A1, c2, L, hLL, rfl, rfl⟩
  clear hL
  obtain ⟨hsL, hnL, hcL⟩ := sz_of hLL.es hel hec
  have hcL6 : ∀ x ∈ L, x.e.comps.length ≤ 1000000 := fun x hx => by have := hcL x hx; omega
  have heq : ents L = ents l := hLL.es
  have hOo := fun w hG hr => ownI_spec ct t A1 L c2 w hG hsL hr
  have hOv := fun w hG hr => visI_spec ct t A1 L c2 w hG hsL hr
  have hOs := fun w hG hr => seesI_spec ct jd t A1 L c2 w hG hsL hcL6 hr
  have hOw := fun w hG hr => viewI_spec ct t A1 L c2 w hG hsL hcL6 hr
  have hOc := fun w hG hr => watI_spec jd t A1 L c2 w hG hsL hcL6 hr
  have hKp := fun w h1 h2 h3 => keptWorld_spec t A1 A L l c2 c w hsL (by omega) hse6 hLL h1 h2 h3
  have hOv2 := fun w0 H w h => overWorld_spec t A1 L (ents l) c2 w0 H w hLL (by omega) hcL6 h
  rw [heq] at hOo hOv hOs hOw hOc
  have l1 := own_len ct t (ents l)
  have l2 := vis_len ct t (ents l)
  have l3 := wat_len jd t (ents l)
  have l4 := view_len ct t (ents l)
  have l5 := view_comps ct t hec
  unfold FreshE at hOo hOv hOc
  unfold wv at *
  generalize ownL ct t (ents l) = oL at *
  generalize visL ct t (ents l) = vL at *
  generalize watL jd t (ents l) = cL at *
  generalize viewL ct t (ents l) = wL at *
  generalize viewT ct t (ents l) = tw at *
  generalize errI ct t (ents l) = er at *
  generalize watErr jd t (ents l) = ec at *
  generalize seeErr ct jd t (ents l) = es at *
  generalize seeB ct jd t (ents l) = sb at *
  have hbb := self_nz sb
  clear hs hse6 hsL hnL heq hse hec
  (repeat' ((fail_if_success (show VH _ _ (.seq (.region 2 _ _) _) _ _ _ _)); first | (show SH _ _ _ _ _ (_ :: _) _ _ _; first | refine ala rfl (fun b => ?_) | (show SH _ _ _ _ _ (⟨_, .store _ _ _, _, _, _, _⟩ :: _) _ _ _; refine sta rfl rfl rfl spL (by rfl) (by rfl) (by rfl) kpL ?_)) | refine s_nil ?_ | refine kh_normal ?_))
  rename_i b3
  revert b
  intro b7
  (repeat' (first | (show VH _ _ _ _ _ _ _; first | refine v_seq ?_ | refine r_seq ?_) | (show SH _ _ _ _ _ (_ :: _) _ _ _; first | (show SH _ _ _ _ _ (⟨_, .move _, _, _, _, _⟩ :: _) _ _ _; refine mov evL ?_) | (show SH _ _ _ _ _ (⟨_, .load _ _, _, _, _, _⟩ :: _) _ _ _; refine lba rfl spL (by rfl) ?_) | (show SH _ _ _ _ _ (⟨_, .call ⟨.value (.func 13), _, _⟩, _, _, _, _⟩ :: _) _ _ _; refine cp (callee := .func 13) rfl (fun w hw => hOo w (hG.ext hw.ext) (lent_rd (A := A1) (cp := c2) (L := L) (M := marksG mkE 1 0 12) (R := []) (ent_cons spL (ent_cons spL (ent_nil _))) hw)) rfl rfl ?_))))
  rintro _ _ ⟨Aa, ca, rfl, rfl⟩
  (repeat' (first | (show VH _ _ _ _ _ _ _; first | refine v_seq ?_ | refine r_seq ?_) | (show SH _ _ _ _ _ (_ :: _) _ _ _; first | (show SH _ _ _ _ _ (⟨_, .move _, _, _, _, _⟩ :: _) _ _ _; refine mov evL ?_) | (show SH _ _ _ _ _ (⟨_, .assign _, _, _, _, _⟩ :: _) _ _ _; refine asg evL ?_) | (show SH _ _ _ _ _ (⟨_, .load _ _, _, _, _, _⟩ :: _) _ _ _; refine lba rfl spL (by rfl) ?_) | (show SH _ _ _ _ _ (⟨_, .call ⟨.value (.func 14), _, _⟩, _, _, _, _⟩ :: _) _ _ _; refine cp (callee := .func 14) rfl (fun w hw => hRo w hw.ext) rfl rfl ?_) | refine extr rfl rfl ?_) | refine s_nil ?_ | refine kh_normal ?_))
  rintro _ _ ⟨Ab, cb, rfl, rfl⟩
  (repeat' (first | (show VH _ _ _ _ _ _ _; first | refine v_seq ?_ | refine r_seq ?_) | (show SH _ _ _ _ _ (_ :: _) _ _ _; first | (show SH _ _ _ _ _ (⟨_, .move _, _, _, _, _⟩ :: _) _ _ _; refine mov evL ?_) | (show SH _ _ _ _ _ (⟨_, .assign _, _, _, _, _⟩ :: _) _ _ _; refine asg evL ?_) | (show SH _ _ _ _ _ (⟨_, .load _ _, _, _, _, _⟩ :: _) _ _ _; refine lba rfl spL (by rfl) ?_) | (show SH _ _ _ _ _ (⟨_, .call ⟨.value (.func 15), _, _⟩, _, _, _, _⟩ :: _) _ _ _; refine cp (callee := .func 15) rfl (fun w hw => hOv w (hG.ext hw.ext) (lent_rd (A := A1) (cp := c2) (L := L) (M := marksG mkE 1 0 12) (R := []) (ent_cons spL (ent_cons spL (ent_nil _))) hw)) rfl rfl ?_) | refine extr rfl rfl ?_) | refine s_nil ?_ | refine kh_normal ?_))
  rintro _ _ ⟨Ac, cc, rfl, rfl⟩
  (repeat' (first | (show VH _ _ _ _ _ _ _; first | refine v_seq ?_ | refine r_seq ?_) | (show SH _ _ _ _ _ (_ :: _) _ _ _; first | (show SH _ _ _ _ _ (⟨_, .move _, _, _, _, _⟩ :: _) _ _ _; refine mov evL ?_) | (show SH _ _ _ _ _ (⟨_, .assign _, _, _, _, _⟩ :: _) _ _ _; refine asg evL ?_) | (show SH _ _ _ _ _ (⟨_, .load _ _, _, _, _, _⟩ :: _) _ _ _; refine lba rfl spL (by rfl) ?_) | (show SH _ _ _ _ _ (⟨_, .call ⟨.value (.func 16), _, _⟩, _, _, _, _⟩ :: _) _ _ _; refine cp (callee := .func 16) rfl (fun w hw => hRv w hw.ext) rfl rfl ?_) | refine extr rfl rfl ?_) | refine s_nil ?_ | refine kh_normal ?_))
  rintro _ _ ⟨Ad, cd, rfl, rfl⟩
  (repeat' (first | (show VH _ _ _ _ _ _ _; first | refine v_seq ?_ | refine r_seq ?_) | (show SH _ _ _ _ _ (_ :: _) _ _ _; first | (show SH _ _ _ _ _ (⟨_, .move _, _, _, _, _⟩ :: _) _ _ _; refine mov evL ?_) | (show SH _ _ _ _ _ (⟨_, .assign _, _, _, _, _⟩ :: _) _ _ _; refine asg evL ?_) | (show SH _ _ _ _ _ (⟨_, .load _ _, _, _, _, _⟩ :: _) _ _ _; refine lba rfl spL (by rfl) ?_) | (show SH _ _ _ _ _ (⟨_, .call ⟨.value (.func 17), _, _⟩, _, _, _, _⟩ :: _) _ _ _; refine cl (callee := .func 17) rfl (fun w hw => hOs w (hG.ext hw.ext) (lent_rd (A := A1) (cp := c2) (L := L) (M := marksG mkE 1 0 12) (R := []) (ent_cons spL (ent_cons spL (ent_nil _))) hw)) rfl rfl ?_) | (show SH _ _ _ _ _ (⟨_, .call ⟨.value (.func 18), _, _⟩, _, _, _, _⟩ :: _) _ _ _; refine cl (callee := .func 18) rfl (fun w hw => hRs w hw.ext) rfl rfl ?_) | (show SH _ _ _ _ _ (⟨_, .call ⟨.value (.func 19), _, _⟩, _, _, _, _⟩ :: _) _ _ _; refine cp (callee := .func 19) rfl (fun w hw => hOw w (hG.ext hw.ext) (lent_rd (A := A1) (cp := c2) (L := L) (M := marksG mkE 1 0 12) (R := []) (ent_cons spL (ent_cons spL (ent_nil _))) hw)) rfl rfl ?_) | refine extr rfl rfl ?_) | refine s_nil ?_ | refine kh_normal ?_))
  rintro _ _ ⟨Av, cv, Lv, rfl, hLv, rfl⟩
  (repeat' (first | (show VH _ _ _ _ _ _ _; first | refine v_seq ?_ | refine r_seq ?_) | (show SH _ _ _ _ _ (_ :: _) _ _ _; first | (show SH _ _ _ _ _ (⟨_, .move _, _, _, _, _⟩ :: _) _ _ _; refine mov evL ?_) | (show SH _ _ _ _ _ (⟨_, .assign _, _, _, _, _⟩ :: _) _ _ _; refine asg evL ?_) | (show SH _ _ _ _ _ (⟨_, .load _ _, _, _, _, _⟩ :: _) _ _ _; refine lba rfl spL (by rfl) ?_) | (show SH _ _ _ _ _ (⟨_, .call ⟨.value (.func 20), _, _⟩, _, _, _, _⟩ :: _) _ _ _; refine cp (callee := .func 20) rfl (fun w hw => hRw w hw.ext) rfl rfl ?_) | refine extr rfl rfl ?_ | refine ala rfl (fun b => ?_) | (show SH _ _ _ _ _ (⟨_, .store _ _ _, _, _, _, _⟩ :: _) _ _ _; refine sta rfl rfl rfl spL (by rfl) (by rfl) (by rfl) kpL ?_)) | refine s_nil ?_ | refine kh_normal ?_))
  rintro _ _ ⟨Au, cu, Lu, rfl, hLu, rfl⟩
  (repeat' (first | (show VH _ _ _ _ _ _ _; first | refine v_seq ?_ | refine r_seq ?_) | (show SH _ _ _ _ _ (_ :: _) _ _ _; first | (show SH _ _ _ _ _ (⟨_, .move _, _, _, _, _⟩ :: _) _ _ _; refine mov evL ?_) | (show SH _ _ _ _ _ (⟨_, .assign _, _, _, _, _⟩ :: _) _ _ _; refine asg evL ?_) | (show SH _ _ _ _ _ (⟨_, .load _ _, _, _, _, _⟩ :: _) _ _ _; refine lba rfl spL (by rfl) ?_) | (show SH _ _ _ _ _ (⟨_, .call ⟨.value (.func 21), _, _⟩, _, _, _, _⟩ :: _) _ _ _; refine cp (callee := .func 21) rfl (fun w hw => hOc w (hG.ext hw.ext) (lent_rd (A := A1) (cp := c2) (L := L) (M := marksG mkE 1 0 12) (R := []) (ent_cons spL (ent_cons spL (ent_nil _))) hw)) rfl rfl ?_) | refine extr rfl rfl ?_ | refine ala rfl (fun b => ?_) | (show SH _ _ _ _ _ (⟨_, .store _ _ _, _, _, _, _⟩ :: _) _ _ _; refine sta rfl rfl rfl spL (by rfl) (by rfl) (by rfl) kpL ?_)) | refine s_nil ?_ | refine kh_normal ?_))
  rintro _ _ ⟨Ax, cx, rfl, rfl⟩
  (repeat' (first | (show VH _ _ _ _ _ _ _; first | refine v_seq ?_ | refine r_seq ?_) | (show SH _ _ _ _ _ (_ :: _) _ _ _; first | (show SH _ _ _ _ _ (⟨_, .move _, _, _, _, _⟩ :: _) _ _ _; refine mov evL ?_) | (show SH _ _ _ _ _ (⟨_, .assign _, _, _, _, _⟩ :: _) _ _ _; refine asg evL ?_) | (show SH _ _ _ _ _ (⟨_, .load _ _, _, _, _, _⟩ :: _) _ _ _; refine lba rfl spL (by rfl) ?_) | (show SH _ _ _ _ _ (⟨_, .call ⟨.value (.func 22), _, _⟩, _, _, _, _⟩ :: _) _ _ _; refine cp (callee := .func 22) rfl (fun w hw => hRc w hw.ext) rfl rfl ?_) | refine extr rfl rfl ?_) | refine s_nil ?_ | refine kh_normal ?_))
  rintro _ _ ⟨Ay, cy, rfl, rfl⟩
  simp only [List.cons_append, List.nil_append]
  (repeat' ((fail_if_success (show VH _ _ (.seq (.region 12 _ _) _) _ _ _ _)); first | refine v_seq ?_ | (show SH _ _ _ _ _ (_ :: _) _ _ _; first | (show SH _ _ _ _ _ (⟨_, .move _, _, _, _, _⟩ :: _) _ _ _; refine mov evL ?_) | (show SH _ _ _ _ _ (⟨_, .assign _, _, _, _, _⟩ :: _) _ _ _; refine asg evL ?_) | refine extr rfl rfl ?_) | refine s_nil ?_ | refine kh_normal ?_))
  rename_i b20
  revert b
  intro b22
  obtain ⟨hsv, hnv, hcv⟩ := sz_of hLv (by omega) l5
  obtain ⟨hsu, hnu, hcu⟩ := sz_of hLu (by omega) l5
  have hS1 := fun w h1 h2 => sameInts_spec Aa Ab oL oL ca cb w h1 h2 (by omega)
  have hS2 := fun w h1 h2 => sameInts_spec Ac Ad vL vL cc cd w h1 h2 (by omega)
  have hS3 := fun w h1 h2 => sameInts_spec Ax Ay cL cL cx cy w h1 h2 (by omega)
  simp only [decide_eq_true] at hS1 hS2 hS3
  have hSW := fun w h1 h2 => sameWorld_spec tw tw Av Au Lv Lu cv cu w h1 h2 hsv
  rw [decide_eq_true ⟨rfl, hLv.trans hLu.symm⟩] at hSW
  unfold wv at hSW
  clear hOo hOv hOs hOc hRo hRv hRs hRw hRc
  (repeat' (first | (show VH _ _ _ _ _ _ _; first | refine v_seq ?_ | refine r_seq ?_ | refine v_skip ?_ | refine v_cond_f rfl tbL ?_) | (show SH _ _ _ _ _ (_ :: _) _ _ _; first | (show SH _ _ _ _ _ (⟨_, _, _, _, _, some _⟩ :: _) _ _ _; (refine gif rfl rfl ?_; refine giFF tbL ?_)) | (show SH _ _ _ _ _ (⟨_, .move _, _, _, _, _⟩ :: _) _ _ _; refine mov evL ?_) | (show SH _ _ _ _ _ (⟨_, .binOp .neq _ _ _ _, _, _, _, _⟩ :: _) _ _ _; first | refine neqF rfl rfl omD ?_ | refine neb rfl rfl ?_) | (show SH _ _ _ _ _ (⟨_, .load _ _, _, _, _, _⟩ :: _) _ _ _; refine lba rfl spL (by rfl) ?_) | (show SH _ _ _ _ _ (⟨_, .call ⟨.value (.func 23), _, _⟩, _, _, _, _⟩ :: _) _ _ _; refine cl (callee := .func 23) rfl (fun w hw => hS1 w (hw.rd spL) (hw.rd spL)) rfl rfl ?_) | (show SH _ _ _ _ _ (⟨_, .call ⟨.value (.func 23), _, _⟩, _, _, _, _⟩ :: _) _ _ _; refine cl (callee := .func 23) rfl (fun w hw => hS2 w (hw.rd spL) (hw.rd spL)) rfl rfl ?_) | (show SH _ _ _ _ _ (⟨_, .call ⟨.value (.func 23), _, _⟩, _, _, _, _⟩ :: _) _ _ _; refine cl (callee := .func 23) rfl (fun w hw => hS3 w (hw.rd spL) (hw.rd spL)) rfl rfl ?_) | (show SH _ _ _ _ _ (⟨_, .call ⟨.value (.func 24), _, _⟩, _, _, _, _⟩ :: _) _ _ _; refine cl (callee := .func 24) rfl (fun w hw => hSW w (own_rd (A := Av) (c := cv) (L := Lv) (R := []) (ent_cons spL (ent_cons spL (ent_nil _))) hw) (own_rd (A := Au) (c := cu) (L := Lu) (R := []) (ent_cons spL (ent_cons spL (ent_nil _))) hw)) rfl rfl ?_) | (show SH _ _ _ _ _ (⟨_, .call ⟨.value (.func 25), _, _⟩, _, _, _, _⟩ :: _) _ _ _; refine cl (callee := .func 25) rfl (fun w hw => hKp w (lent_marks (A := A1) (cp := c2) (L := L) (M := marksG mkE 1 0 12) (R := []) (ent_cons spL (ent_cons spL (ent_nil _))) hw).1 (lent_marks (A := A1) (cp := c2) (L := L) (M := marksG mkE 1 0 12) (R := []) (ent_cons spL (ent_cons spL (ent_nil _))) hw).2 (hr.ext hw.ext)) rfl rfl ?_) | (show SH _ _ _ _ _ (⟨_, .call ⟨.value (.func 19), _, _⟩, _, _, _, _⟩ :: _) _ _ _; refine cp (callee := .func 19) rfl (fun w hw => hOw w (hG.ext hw.ext) (lent_rd (A := A1) (cp := c2) (L := L) (M := marksG mkE 1 0 12) (R := []) (ent_cons spL (ent_cons spL (ent_nil _))) hw)) rfl rfl ?_) | refine bnoT rfl ?_ | (show SH _ _ _ _ _ (⟨_, .pick _ _ _, _, _, _, _⟩ :: _) _ _ _; refine pkf rfl tbL evL ?_)) | refine s_nil ?_ | refine kh_normal ?_))
  rintro _ _ ⟨Ag, cg, Lg, rfl, hLg, rfl⟩
  clear hS1 hS2 hS3 hKp hOw
  (repeat' ((fail_if_success (show VH _ _ (.seq (.region 15 _ _) _) _ _ _ _)); first | (show SH _ _ _ _ _ (_ :: _) _ _ _; first | (show SH _ _ _ _ _ (⟨_, .move _, _, _, _, _⟩ :: _) _ _ _; refine mov evL ?_) | (show SH _ _ _ _ _ (⟨_, .assign _, _, _, _, _⟩ :: _) _ _ _; refine asg evL ?_) | refine extr rfl rfl ?_ | refine ala rfl (fun b => ?_) | (show SH _ _ _ _ _ (⟨_, .store _ _ _, _, _, _, _⟩ :: _) _ _ _; refine sta rfl rfl rfl spL (by rfl) (by rfl) (by rfl) kpL ?_)) | refine s_nil ?_ | refine kh_normal ?_))
  revert b
  intro b28
  obtain ⟨hsg, hng, hcg⟩ := sz_of hLg (by omega) l5
  (repeat' (first | (show VH _ _ _ _ _ _ _; first | refine v_seq ?_ | refine r_seq ?_) | (show SH _ _ _ _ _ (_ :: _) _ _ _; (show SH _ _ _ _ _ (⟨_, .load _ _, _, _, _, _⟩ :: _) _ _ _; refine lba rfl spL (by rfl) ?_))))
  refine cm rfl (fun w hw => hOv2 _ [orow 3 Aa ca oL, orow 3 Ac cc vL, orow 3 Ax cx cL, orow 31 Av cv Lv, allH (Lv.map rowOf), bx b20 24 [.int .i64 tw, .slice Av Lv.length cv], orow 31 Au cu Lu, allH (Lu.map rowOf), bx b22 24 [.int .i64 tw, .slice Au Lu.length cu], orow 31 Ag cg Lg, allH (Lg.map rowOf), bx b28 24 [.int .i64 tw, .slice Ag Lg.length cg]] w (Ent.wd enL hw)) rfl rfl ?_
  rintro _ _ rfl
  refine ⟨trivial, ?_⟩
  (repeat' (first | (show VH _ _ _ _ _ _ _; first | refine v_seq ?_ | refine r_seq ?_) | (show SH _ _ _ _ _ (_ :: _) _ _ _; first | (show SH _ _ _ _ _ (⟨_, _, _, _, _, some _⟩ :: _) _ _ _; (refine gif rfl rfl ?_; refine giTT tbL ?_)) | (show SH _ _ _ _ _ (⟨_, .move _, _, _, _, _⟩ :: _) _ _ _; refine mov evL ?_) | (show SH _ _ _ _ _ (⟨_, .load _ _, _, _, _, _⟩ :: _) _ _ _; refine lba rfl spL (by rfl) ?_) | (show SH _ _ _ _ _ (⟨_, .call ⟨.value (.func 24), _, _⟩, _, _, _, _⟩ :: _) _ _ _; refine cl (callee := .func 24) rfl (fun w hw => hSW w (own_rd (A := Av) (c := cv) (L := Lv) (R := []) (ent_cons spL (ent_cons spL (ent_nil _))) hw) (own_rd (A := Au) (c := cu) (L := Lu) (R := []) (ent_cons spL (ent_cons spL (ent_nil _))) hw)) rfl rfl ?_)) | refine s_nil ?_ | refine kh_normal ?_))
  refine bsl (l := [(⟨Aa, oL.length, ca⟩ : SliceV), ⟨Ac, vL.length, cc⟩, ⟨Ax, cL.length, cx⟩]) rfl rfl (Vals.cons rfl (Vals.cons rfl (Vals.cons rfl Vals.nil))) rfl rfl (by decide) (fun bq => ?_)
  have hAI := fun w0 H w h => apartInts_spec (some ⟨bq, 0, none⟩) 3 [⟨Aa, ca, oL⟩, ⟨Ac, cc, vL⟩, ⟨Ax, cx, cL⟩] w0 H w (by show 3 ≤ 100000; omega) (fun r hr => by
    simp only [List.map_cons, List.map_nil, List.mem_cons, List.not_mem_nil, or_false] at hr
    rcases hr with rfl | rfl | rfl
    · show oL.length ≤ _; omega
    · show vL.length ≤ _; omega
    · show cL.length ≤ _; omega) h
  (repeat' ((show SH _ _ _ _ _ (_ :: _) _ _ _; (show SH _ _ _ _ _ (⟨_, _, _, _, _, some _⟩ :: _) _ _ _; (refine gif rfl rfl ?_; refine giTT tbL ?_)))))
  refine cm rfl (fun w hw => hAI _ [orow 31 Av cv Lv, allH (Lv.map rowOf), bx b20 24 [.int .i64 tw, .slice Av Lv.length cv], orow 31 Ag cg Lg, allH (Lg.map rowOf), bx b28 24 [.int .i64 tw, .slice Ag Lg.length cg]] w (Ent.wd (Ent.trans (B := [orow 34 (some ⟨bq, 0, none⟩) 3 [(⟨Aa, oL.length, ca⟩ : SliceV), ⟨Ac, vL.length, cc⟩, ⟨Ax, cL.length, cx⟩], orow 3 Aa ca oL, orow 3 Ac cc vL, orow 3 Ax cx cL, orow 31 Av cv Lv, allH (Lv.map rowOf), bx b20 24 [.int .i64 tw, .slice Av Lv.length cv], orow 31 Ag cg Lg, allH (Lg.map rowOf), bx b28 24 [.int .i64 tw, .slice Ag Lg.length cg]]) enL (ent_cons Split.head (ent_all_in [orow 3 Aa ca oL, orow 3 Ac cc vL, orow 3 Ax cx cL]))) hw)) rfl rfl ?_
  rintro _ _ ⟨rfl, rfl⟩
  refine ⟨trivial, ?_⟩
  (repeat' ((show SH _ _ _ _ _ (_ :: _) _ _ _; first | (show SH _ _ _ _ _ (⟨_, _, _, _, _, some _⟩ :: _) _ _ _; (refine gif rfl rfl ?_; refine giTT tbL ?_)) | (show SH _ _ _ _ _ (⟨_, .move _, _, _, _, _⟩ :: _) _ _ _; refine mov evL ?_) | (show SH _ _ _ _ _ (⟨_, .load _ _, _, _, _, _⟩ :: _) _ _ _; refine lba rfl spL (by rfl) ?_) | (show SH _ _ _ _ _ (⟨_, .pick _ _ _, _, _, _, _⟩ :: _) _ _ _; refine pkt rfl tbL evL ?_))))
  refine bsl (l := [(⟨tw, Av, Lv.length, cv⟩ : WldV)]) rfl rfl (Vals.cons rfl Vals.nil) rfl rfl (by decide) (fun b1 => ?_)
  (repeat' ((show SH _ _ _ _ _ (_ :: _) _ _ _; first | (show SH _ _ _ _ _ (⟨_, _, _, _, _, some _⟩ :: _) _ _ _; (refine gif rfl rfl ?_; refine giTT tbL ?_)) | (show SH _ _ _ _ _ (⟨_, .load _ _, _, _, _, _⟩ :: _) _ _ _; refine lba rfl spL (by rfl) ?_))))
  refine bsl (l := [(⟨tw, Ag, Lg.length, cg⟩ : WldV)]) rfl rfl (Vals.cons rfl Vals.nil) rfl rfl (by decide) (fun b2 => ?_)
  (repeat' ((show SH _ _ _ _ _ (_ :: _) _ _ _; (show SH _ _ _ _ _ (⟨_, _, _, _, _, some _⟩ :: _) _ _ _; (refine gif rfl rfl ?_; refine giTT tbL ?_)))))
  refine bsl (l := [(⟨some ⟨b1, 0, none⟩, 1, 1⟩ : SliceV), ⟨some ⟨b2, 0, none⟩, 1, 1⟩]) rfl rfl (Vals.cons rfl (Vals.cons rfl Vals.nil)) rfl rfl (by decide) (fun b4 => ?_)
  have hAE : (allE [⟨some ⟨b1, 0, none⟩, 1, tw, Av, cv, Lv⟩, ⟨some ⟨b2, 0, none⟩, 1, tw, Ag, cg, Lg⟩]) = Lv ++ Lg := by simp [allE]
  have hAW := fun w0 H w h => apartWorlds_spec (some ⟨b4, 0, none⟩) 2 [⟨some ⟨b1, 0, none⟩, 1, tw, Av, cv, Lv⟩, ⟨some ⟨b2, 0, none⟩, 1, tw, Ag, cg, Lg⟩] w0 H w (by show 2 ≤ 1000; omega) (by rw [hAE, List.length_append]; omega) (fun x hx => by
    simp only [List.mem_cons, List.not_mem_nil, or_false] at hx
    rcases hx with rfl | rfl
    · show Lv.length ≤ _; omega
    · show Lg.length ≤ _; omega) (fun y hy => by
    rw [hAE] at hy
    rcases List.mem_append.1 hy with hy | hy
    · have := hcv y hy; omega
    · have := hcg y hy; omega) h
  rw [hAE, List.map_append] at hAW
  (repeat' ((show SH _ _ _ _ _ (_ :: _) _ _ _; (show SH _ _ _ _ _ (⟨_, _, _, _, _, some _⟩ :: _) _ _ _; (refine gif rfl rfl ?_; refine giTT tbL ?_)))))
  refine cm rfl (fun w hw => hAW _ [] w (Ent.wd (Ent.trans (B := [orow 53 (some ⟨b4, 0, none⟩) 2 [(⟨some ⟨b1, 0, none⟩, 1, 1⟩ : SliceV), ⟨some ⟨b2, 0, none⟩, 1, 1⟩], orow 24 (some ⟨b1, 0, none⟩) 1 [(⟨tw, Av, Lv.length, cv⟩ : WldV)], orow 24 (some ⟨b2, 0, none⟩) 1 [(⟨tw, Ag, Lg.length, cg⟩ : WldV)], orow 31 Av cv Lv, orow 31 Ag cg Lg, allH (Lv.map rowOf), allH (Lg.map rowOf)]) enL
    (ent_cons Split.head (Ent.trans (ent_all_in [orow 24 (some ⟨b1, 0, none⟩) 1 [(⟨tw, Av, Lv.length, cv⟩ : WldV)], orow 24 (some ⟨b2, 0, none⟩) 1 [(⟨tw, Ag, Lg.length, cg⟩ : WldV)]]) (ent_cons Split.head (Ent.trans (ent_all_in [orow 31 Av cv Lv, orow 31 Ag cg Lg]) (ent_cons Split.head ent_all_app)))))) hw)) rfl rfl ?_
  rintro _ _ ⟨rfl, rfl⟩
  refine ⟨trivial, ?_⟩
  (repeat' (first | refine v_ret ?_ | (show SH _ _ _ _ _ (_ :: _) _ _ _; first | (show SH _ _ _ _ _ (⟨_, .assign _, _, _, _, _⟩ :: _) _ _ _; refine asg evL ?_) | (show SH _ _ _ _ _ (⟨_, .pick _ _ _, _, _, _, _⟩ :: _) _ _ _; refine pkt rfl tbL evL ?_)) | refine s_nil ?_ | refine kh_normal ?_))
  exact rh1 rfl rfl ⟨rfl, rfl⟩ enL
end Go.Proofs.YtjefoecnciepmaaGreatDoor

/- InterestSmall (printed by gen_ls24.py). -/
namespace Go.Proofs.YtjefoecnciepmaaGreatDoor
open Go.Fw Go.RowKit
theorem encs_same {α : Type} [F : Flat α] {l : List α} {i : Nat} {x : α} (h : i < l.length) (hx : F.enc x = F.enc (l.getD i F.dflt)) : encs (l.set i x) = encs l := by
  unfold encs
  induction l generalizing i with
  | nil => simp at h
  | cons y l ih =>
    cases i with
    | zero => simpa [List.flatMap_cons] using hx
    | succ i => simp [List.flatMap_cons] at *; exact ih h hx
theorem orow_same {α : Type} [F : Flat α] {e : TypeId} {A : Option Addr} {c i : Nat} {l : List α} {x : α} (h : i < l.length) (hx : F.enc x = F.enc (l.getD i F.dflt)) : orow e A c (l.set i x) = orow e A c l := by
  unfold orow
  rw [encs_same h hx, List.length_set]
theorem exL_len : exL.length = 6 ∧ ∀ e ∈ exL, e.comps.length ≤ 4 := by decide
set_option maxHeartbeats 4000000 in
set_option maxRecDepth 100000 in
theorem smallLaw (W : World) (hG : Glob W) : Ret Tryz.prog 4 ([] : List Value).toArray W (Out W (.bool true)) := by
  have hX := fun w => example_spec w
  have hA := fun w (h : Ext W w) => awake24_spec w (hG.ext h)
  unfold WorldR at hX
  unfold wv at hX
  refine enterH Tryz.func4 rfl rfl Tryz.ntmps4 rfl (Wd.refl _) ?_
  (repeat' (first | (show VH _ _ _ _ _ _ _; first | refine v_seq ?_ | refine r_seq ?_) | (show SH _ _ _ _ _ (_ :: _) _ _ _; first | (show SH _ _ _ _ _ (⟨_, .assign _, _, _, _, _⟩ :: _) _ _ _; refine asg evL ?_) | (show SH _ _ _ _ _ (⟨_, .call ⟨.value (.func 8), _, _⟩, _, _, _, _⟩ :: _) _ _ _; refine cp (callee := .func 8) rfl (fun w hw => hX w) rfl rfl ?_)) | refine s_nil ?_ | refine kh_normal ?_))
  rintro _ _ ⟨A, c, L, rfl, hL, rfl⟩
  clear hX
  obtain ⟨hx6, hx4⟩ := exL_len
  have hL6 : L.length = 6 := by rw [← hx6, ← hL, List.length_map]
  have hL4 : ∀ x ∈ L, x.e.comps.length ≤ 4 := fun x hx => hx4 _ (by rw [← hL]; exact List.mem_map_of_mem hx)
  have hC := fun w h => copyWorld_spec 9 A L c w (by omega) (fun x hx => by have := hL4 x hx; omega) h
  have hel : ents L = exL := hL
  rw [hel] at hC
  unfold WorldR wv at hC
  clear hL
  (repeat' ((fail_if_success (show VH _ _ (.seq (.region 2 _ _) _) _ _ _ _)); first | refine v_seq ?_ | (show SH _ _ _ _ _ (_ :: _) _ _ _; first | refine ala rfl (fun b => ?_) | (show SH _ _ _ _ _ (⟨_, .store _ _ _, _, _, _, _⟩ :: _) _ _ _; refine sta rfl rfl rfl spL (by rfl) (by rfl) (by rfl) kpL ?_)) | refine s_nil ?_ | refine kh_normal ?_))
  revert b
  intro b1
  refine VH.ent (G := [bx b1 24 [.int .i64 9, .slice A L.length c], knw A L]) ?_ (Ent.trans (B := [orow 31 A c L, allH (L.map rowOf), bx b1 24 [.int .i64 9, .slice A L.length c]]) enL (ent_knw.trans enL))
  (repeat' (first | (show VH _ _ _ _ _ _ _; first | refine v_seq ?_ | refine r_seq ?_ | refine v_block ?_) | (show SH _ _ _ _ _ (_ :: _) _ _ _; first | (show SH _ _ _ _ _ (⟨_, .move _, _, _, _, _⟩ :: _) _ _ _; refine mov evL ?_) | (show SH _ _ _ _ _ (⟨_, .load _ _, _, _, _, _⟩ :: _) _ _ _; refine lbx rfl spL (by rfl) ?_) | refine slen rfl ?_ | refine fad rfl ?_) | refine s_nil ?_ | refine kh_normal ?_))
  refine v_norm [(1,_),(11,_),(12,_),(13,_)] heL (fun g => ?_)
  refine v_loop0 [(0,0),(2,6),(13,91)] (fun i : Nat => [(13, .int .i64 i)]) (fun i => i ≤ L.length) (fun i => L.length - i) 0 hsL (Nat.zero_le _) ?_
  rintro i g1 hi
  simp only [sets]
  by_cases hil : i < L.length
  · obtain ⟨⟨⟨zi, zs⟩, Az, cz⟩, hz⟩ : ∃ z, L.getD i Flat.dflt = z := ⟨_, rfl⟩
    have hzE : Flat.enc (L.getD i Flat.dflt) = [.int .i64 zi, .slice Az zs.length cz] := by rw [hz]; rfl
    have hz4 := hL4 _ (getD_mem (d := Flat.dflt) (show i < L.length by omega))
    have hze : (ents L).getD i ⟨0, []⟩ = (L.getD i Flat.dflt).e := ents_at L (by omega)
    rw [hel] at hze
    rw [hz] at hz4 hze
    simp only at hz4 hze
    clear hz
    (repeat' (first | (show VH _ _ _ _ _ _ _; first | refine v_seq ?_ | refine r_seq ?_ | refine v_block ?_ | refine v_skip ?_ | refine v_cond_t rfl tbL ?_) | (show SH _ _ _ _ _ (_ :: _) _ _ _; first | (show SH _ _ _ _ _ (⟨_, .move _, _, _, _, _⟩ :: _) _ _ _; refine mov evL ?_) | (show SH _ _ _ _ _ (⟨_, .assign _, _, _, _, _⟩ :: _) _ _ _; refine asg evL ?_) | (show SH _ _ _ _ _ (⟨_, .binOp .lss _ _ _ _, _, _, _, _⟩ :: _) _ _ _; refine lssT rfl rfl omD ?_) | (show SH _ _ _ _ _ (⟨_, .load _ _, _, _, _, _⟩ :: _) _ _ _; first | refine lrg rfl (fun _ _ => rdY) (by rfl) omL (by assumption) (by rfl) ?_ | refine lbx rfl spL (by rfl) ?_) | (show SH _ _ _ _ _ (⟨_, .indexAddr _ _ _, _, _, _, _⟩ :: _) _ _ _; refine ix rfl rfl (by with_reducible rfl) (fun _ _ => rdY) (by rfl) omL omL ?_) | refine slen rfl ?_ | refine fad rfl ?_) | refine s_nil ?_ | refine kh_normal ?_))
    refine v_normS [(0,0),(2,6),(13,91)] _ agL [(2,_),(13,_),(22,_),(23,_)] heL (fun g => ?_)
    refine v_loop0 [(0,0),(3,6),(23,90)] (fun k : Nat => [(23, .int .i64 k)]) (fun k => k ≤ zs.length) (fun k => zs.length - k) 0 hsL (Nat.zero_le _) ?_
    rintro k g2 hk
    simp only [sets]
    by_cases hkl : k < zs.length
    · (repeat' (first | (show VH _ _ _ _ _ _ _; first | refine v_seq ?_ | refine r_seq ?_ | refine v_block ?_ | refine v_skip ?_ | refine v_cond_t rfl tbL ?_) | (show SH _ _ _ _ _ (_ :: _) _ _ _; first | (show SH _ _ _ _ _ (⟨_, .move _, _, _, _, _⟩ :: _) _ _ _; refine mov evL ?_) | (show SH _ _ _ _ _ (⟨_, .assign _, _, _, _, _⟩ :: _) _ _ _; refine asg evL ?_) | (show SH _ _ _ _ _ (⟨_, .binOp .lss _ _ _ _, _, _, _, _⟩ :: _) _ _ _; refine lssT rfl rfl omD ?_)) | refine s_nil ?_ | refine kh_normal ?_))
      refine v_normS [(0,0),(3,6),(23,90)] _ agL [(3,_),(4,_),(23,_)] heL (fun g => ?_)
      refine v_loop0 [(0,0),(4,6),(26,89)] (fun n : Nat => [(4, .int .i64 ((n : Int) - 1))]) (fun n => n ≤ 13) (fun n => 13 - n) 0 hsL (Nat.zero_le _) ?_
      rintro n g3 hn
      simp only [sets]
      by_cases hnl : n < 13
      · (repeat' (first | (show VH _ _ _ _ _ _ _; first | refine v_seq ?_ | refine r_seq ?_ | refine v_block ?_ | refine v_skip ?_ | refine v_cond_t rfl tbL ?_) | (show SH _ _ _ _ _ (_ :: _) _ _ _; first | (show SH _ _ _ _ _ (⟨_, .move _, _, _, _, _⟩ :: _) _ _ _; refine mov evL ?_) | (show SH _ _ _ _ _ (⟨_, .binOp .lss _ _ _ _, _, _, _, _⟩ :: _) _ _ _; refine lssT rfl rfl omD ?_) | (show SH _ _ _ _ _ (⟨_, .load _ _, _, _, _, _⟩ :: _) _ _ _; refine lba rfl spL (by rfl) ?_) | (show SH _ _ _ _ _ (⟨_, .call ⟨.value (.func 9), _, _⟩, _, _, _, _⟩ :: _) _ _ _; refine cp (callee := .func 9) rfl (fun w hw => hC w (hw.kw spL)) rfl rfl ?_)) | refine s_nil ?_ | refine kh_normal ?_))
        rintro _ _ ⟨A2, c2, L2, rfl, hL2, rfl⟩
        have hL26 : L2.length = 6 := by rw [← hx6, ← hL2, List.length_map]
        have hL24 : ∀ x ∈ L2, x.e.comps.length ≤ 4 := fun x hx => hx4 _ (by rw [← hL2]; exact List.mem_map_of_mem hx)
        have hye : (ents L2).getD i ⟨0, []⟩ = (L2.getD i Flat.dflt).e := ents_at L2 (by omega)
        rw [show ents L2 = exL from hL2, hze] at hye
        obtain ⟨⟨y, Ay, cy⟩, hy⟩ : ∃ z, L2.getD i Flat.dflt = z := ⟨_, rfl⟩
        rw [hy] at hye
        simp only at hye
        subst hye
        have hyE : Flat.enc (L2.getD i Flat.dflt) = [.int .i64 zi, .slice Ay zs.length cy] := by rw [hy]; rfl
        (repeat' ((fail_if_success (show VH _ _ (.seq (.region 12 _ _) _) _ _ _ _)); first | (show SH _ _ _ _ _ (_ :: _) _ _ _; first | refine ala rfl (fun b => ?_) | (show SH _ _ _ _ _ (⟨_, .store _ _ _, _, _, _, _⟩ :: _) _ _ _; refine sta rfl rfl rfl spL (by rfl) (by rfl) (by rfl) kpL ?_)) | refine s_nil ?_ | refine kh_normal ?_))
        revert b
        intro b5
        (repeat' ((fail_if_success (show VH _ _ (.seq (.seq (.region 13 _ _) _) _) _ _ _ _)); first | (show VH _ _ _ _ _ _ _; first | refine v_seq ?_ | refine r_seq ?_) | (show SH _ _ _ _ _ (_ :: _) _ _ _; first | (show SH _ _ _ _ _ (⟨_, .move _, _, _, _, _⟩ :: _) _ _ _; refine mov evL ?_) | (show SH _ _ _ _ _ (⟨_, .assign _, _, _, _, _⟩ :: _) _ _ _; refine asg evL ?_) | (show SH _ _ _ _ _ (⟨_, .load _ _, _, _, _, _⟩ :: _) _ _ _; refine lbx rfl spL (by rfl) ?_) | (show SH _ _ _ _ _ (⟨_, .indexAddr _ _ _, _, _, _, _⟩ :: _) _ _ _; refine ix rfl rfl (by with_reducible rfl) (fun _ _ => rdY) (by rfl) omL omL ?_) | refine fad rfl ?_) | refine s_nil ?_ | refine kh_normal ?_))
        have hopen := ent_all_open (f := rowOf) (d := (Flat.dflt : EntP)) (L := L2) (k := i) (G := orow 31 A2 c2 L2 :: bx b5 24 [.int .i64 9, .slice A2 L2.length c2] :: [bx b1 24 [.int .i64 9, .slice A L.length c], knw A L]) (by omega)
        rw [hy] at hopen
        refine v_seq ?_
        refine v_cut [(36, 68)] (fun _ : List EntP => []) (fun L3 => [bx b5 24 [.int .i64 9, .slice A2 L3.length c2], orow 31 A2 c2 L3, allH (L3.map rowOf), bx b1 24 [.int .i64 9, .slice A L.length c], knw A L]) (fun L3 => L3.length = 6 ∧ ∀ x ∈ L3, x.e.comps.length ≤ 4) ?_ ?_ ent_vh
        · refine VH.ent (G := orow 37 Ay cy zs :: allH ((L2.eraseIdx i).map rowOf) :: orow 31 A2 c2 L2 :: bx b5 24 [.int .i64 9, .slice A2 L2.length c2] :: [bx b1 24 [.int .i64 9, .slice A L.length c], knw A L]) ?_ (Ent.trans (B := allH (L2.map rowOf) :: orow 31 A2 c2 L2 :: bx b5 24 [.int .i64 9, .slice A2 L2.length c2] :: [bx b1 24 [.int .i64 9, .slice A L.length c], knw A L]) enL hopen)
          have hcl := fun cs => ent_all_close (f := rowOf) (L := L2) (k := i) (x := (⟨⟨zi, cs⟩, Ay, cy⟩ : EntP)) (G := orow 31 A2 c2 (L2.set i ⟨⟨zi, cs⟩, Ay, cy⟩) :: [bx b5 24 [.int .i64 9, .slice A2 L2.length c2], bx b1 24 [.int .i64 9, .slice A L.length c], knw A L]) (by omega)
          have hmem : ∀ cs : List Comp, cs.length ≤ 4 → ∀ x ∈ L2.set i (⟨⟨zi, cs⟩, Ay, cy⟩ : EntP), x.e.comps.length ≤ 4 := fun cs hcs x hx => by
            rcases List.mem_or_eq_of_mem_set hx with h | h
            · exact hL24 x h
            · rw [h]; exact hcs
          refine v_cap (l := zs) spL (fun hcap => ?_)
          clear hC hA hopen hL2 hL24 hze hel hy hzE
          by_cases hn0 : n = 0
          · subst hn0
            (repeat' (first | (show VH _ _ _ _ _ _ _; first | refine v_seq ?_ | refine r_seq ?_ | refine v_cond_t rfl tbL ?_) | (show SH _ _ _ _ _ (_ :: _) _ _ _; first | (show SH _ _ _ _ _ (⟨_, .move _, _, _, _, _⟩ :: _) _ _ _; refine mov evL ?_) | (show SH _ _ _ _ _ (⟨_, .binOp .lss _ _ _ _, _, _, _, _⟩ :: _) _ _ _; refine lssT rfl rfl omD ?_)) | refine s_nil ?_ | refine kh_normal ?_))
            refine r_heldT [] (tr [(0, true), (1, true), (2, true), (3, true), (5, true), (7, true), (8, true), (9, true), (11, true), (12, true)] (.fork 4 (tr [(6, true), (10, false), (13, false), (14, false), (15, false), (16, false), (17, false)] .nil) 10 (tr [(13, true), (4, false), (6, false), (14, false), (15, false), (16, false), (17, false)] .nil))) hmix (by kernel_rfl) enL ?_
            (repeat' (first | (show SH _ _ _ _ _ (_ :: _) _ _ _; first | (show SH _ _ _ _ _ (⟨_, .move _, _, _, _, _⟩ :: _) _ _ _; refine mov evL ?_) | (show SH _ _ _ _ _ (⟨_, .binOp .add _ _ _ _, _, _, _, _⟩ :: _) _ _ _; refine add rfl rfl inL ?_) | (show SH _ _ _ _ _ (⟨_, .load _ _, _, _, _, _⟩ :: _) _ _ _; refine lrg rfl (fun _ _ => rdY) (by rfl) omL (by assumption) (by rfl) ?_) | refine nlc rfl ?_ | refine fad rfl ?_ | (show SH _ _ _ _ _ (⟨_, .slice _ _ _ _ _, _, _, _, _⟩ :: _) _ _ _; first | refine slh rfl rfl omL omL ?_ | refine sll rfl rfl omL omL ?_)) | refine s_fork ?_ ?_))
            all_goals
              refine appIn (L := zs) (i := k) (j := k + 1) (kk := zs.length - (k + 1)) rfl rfl rfl rfl spL (fun w hw => Rd.from (hw.rd spL) (k + 1) hcap) rfl (by omega) (by omega) (by omega) (ent_nil _) ?_
              have hLL : (zs.take k ++ zs.drop (k + 1) ++ zs.drop (k + (zs.length - (k + 1)))).length = zs.length := by
                simp only [List.length_append, List.length_take, List.length_drop]; omega
              have hE : (zs.take k ++ zs.drop (k + 1) ++ zs.drop (k + (zs.length - (k + 1)))).take (k + (zs.length - (k + 1))) = zs.eraseIdx k := by
                rw [List.eraseIdx_eq_take_drop_succ, List.take_left' (by simp only [List.length_append, List.length_take, List.length_drop]; omega)]
              have hEl : (zs.eraseIdx k).length = k + (zs.length - (k + 1)) := by rw [← hE, List.length_take, hLL]; omega
              have hpre : zs.eraseIdx k <+: (zs.take k ++ zs.drop (k + 1) ++ zs.drop (k + (zs.length - (k + 1)))) := by rw [← hE]; exact List.take_prefix _ _
              have hc1 := hcl (zs.eraseIdx k)
              have hm1 := hmem (zs.eraseIdx k) (by omega)
              generalize zs.take k ++ zs.drop (k + 1) ++ zs.drop (k + (zs.length - (k + 1))) = ZZ at hLL hE hpre ⊢
              rw [← hEl]
              generalize zs.eraseIdx k = zs2 at hE hEl hpre hc1 hm1 ⊢
              clear hcl hmem hE hEl hLL
              (repeat' ((show SH _ _ _ _ _ (_ :: _) _ _ _; first | refine nlc rfl ?_ | refine fad rfl ?_)))
              refine stf (x' := (⟨⟨zi, zs2⟩, Ay, cy⟩ : EntP)) (i := i) (off := 1) (l := L2) (A := A2) rfl rfl rfl spL rfl (by omega) rfl rfl (by decide) (by rw [hyE]; rfl) (ent_nil _) ?_
              (repeat' (first | refine s_nil ?_ | refine kh_normal ?_))
              refine ⟨agL, L2.set i ⟨⟨zi, zs2⟩, Ay, cy⟩, hsL, ?_, ⟨by rw [List.length_set]; exact hL26, hm1⟩⟩
              rw [List.length_set]
              exact Ent.trans (B := orow 37 Ay cy zs2 :: allH ((L2.eraseIdx i).map rowOf) :: orow 31 A2 c2 (L2.set i ⟨⟨zi, zs2⟩, Ay, cy⟩) :: [bx b5 24 [.int .i64 9, .slice A2 L2.length c2], bx b1 24 [.int .i64 9, .slice A L.length c], knw A L]) (ent_row_pre hpre spL enL) (hc1.trans enL)
          · obtain ⟨m, rfl⟩ : ∃ m, n = m + 1 := ⟨n - 1, by omega⟩
            obtain ⟨⟨qk, qa, qb, qc, qd⟩, hq⟩ : ∃ q, zs.getD k Flat.dflt = q := ⟨_, rfl⟩
            have hqE : Flat.enc (zs.getD k Flat.dflt) = [.int .u8 qk, .int .i64 qa, .int .i64 qb, .int .i64 qc, .int .i64 qd] := by rw [hq]; rfl
            clear hq
            rw [show (((m + 1 : Nat) : Int) - 1) = (m : Int) by omega]
            rcases (show (m : Int) % 2 = 0 ∨ (m : Int) % 2 = 1 by omega) with hj | hj
            ·
              (repeat' (first | (show VH _ _ _ _ _ _ _; first | refine v_seq ?_ | refine r_seq ?_ | refine v_cond_f rfl tbL ?_) | (show SH _ _ _ _ _ (_ :: _) _ _ _; first | (show SH _ _ _ _ _ (⟨_, .move _, _, _, _, _⟩ :: _) _ _ _; refine mov evL ?_) | (show SH _ _ _ _ _ (⟨_, .binOp .lss _ _ _ _, _, _, _, _⟩ :: _) _ _ _; refine lssF rfl rfl omD ?_)) | refine s_nil ?_ | refine kh_normal ?_))
              refine v_some (A := Ay) (l := zs) spL (by omega) (fun hAx => ?_)
              refine r_heldT [orow 31 A2 c2 L2] (tr [(0, true), (1, true), (2, true), (3, true), (4, true), (5, true), (6, true), (8, true), (11, true), (12, true), (7, false), (9, false), (10, false), (13, false), (14, false)] .nil) hmix (by kernel_rfl) enL ?_
              (repeat' ((show SH _ _ _ _ _ (_ :: _) _ _ _; first | (show SH _ _ _ _ _ (⟨_, .move _, _, _, _, _⟩ :: _) _ _ _; refine mov evL ?_) | (show SH _ _ _ _ _ (⟨_, .binOp .rem _ _ _ _, _, _, _, _⟩ :: _) _ _ _; refine rem rfl rfl omL omL ?_) | (show SH _ _ _ _ _ (⟨_, .load _ _, _, _, _, _⟩ :: _) _ _ _; refine lrg rfl (fun _ _ => rdY) (by rfl) omL (by assumption) (by rfl) ?_) | (show SH _ _ _ _ _ (⟨_, .indexAddr _ _ _, _, _, _, _⟩ :: _) _ _ _; first | refine ixi rfl rfl (fun _ _ => rdY) (by rfl) omL omL omL ?_ | refine ixq rfl rfl (by assumption) omL omL ?_ | refine ixi rfl rfl (fun _ _ => rdY) (by rfl) omL (by first | omega | (simp only [List.length_cons, List.length_nil]; omega)) (by simp only [List.length_cons, List.length_nil]; omega) ?_) | refine nlc rfl ?_ | refine fad rfl ?_ | (show SH _ _ _ _ _ (⟨_, .buildSlice _ _ _, _, _, _, _⟩ :: _) _ _ _; refine bsl (α := Int) rfl rfl (by repeat (first | exact Vals.nil | (apply Vals.cons; rfl))) rfl (by rfl) (by decide) (fun b => ?_)))))
              refine lin (i := m) (l := [0, 1, 2, 8, 9, 16383, 16384, 16385, -1, 510, 256, 1048576]) rfl (fun w hw => hw.rd spL) (by simp only [List.length_cons, List.length_nil]; omega) ?_
              generalize [0, 1, 2, 8, 9, 16383, 16384, 16385, -1, 510, 256, 1048576].getD m 0 = v
              rw [hj]
              (repeat' ((show SH _ _ _ _ _ (_ :: _) _ _ _; (show SH _ _ _ _ _ (⟨_, .indexAddr _ _ _, _, _, _, _⟩ :: _) _ _ _; refine ixA _ rfl rfl rfl omL ?_))))
              refine stf (x' := (⟨qk, v, qb, qc, qd⟩ : Comp)) (i := k) (off := 1) (l := zs) (A := Ay) rfl rfl rfl spL rfl hkl rfl rfl (by decide) (by rw [hqE]; rfl) enL ?_
              (repeat' (first | refine s_nil ?_ | refine kh_normal ?_))
              have hc1 := hcl (zs.set k ⟨qk, v, qb, qc, qd⟩)
              have hm1 := hmem (zs.set k ⟨qk, v, qb, qc, qd⟩) (by rw [List.length_set]; exact hz4)
              have ho := orow_same (e := 31) (A := A2) (c := c2) (l := L2) (i := i) (x := (⟨⟨zi, zs.set k ⟨qk, v, qb, qc, qd⟩⟩, Ay, cy⟩ : EntP)) (by omega) (by rw [hyE, show Flat.enc (⟨⟨zi, zs.set k ⟨qk, v, qb, qc, qd⟩⟩, Ay, cy⟩ : EntP) = [.int .i64 zi, .slice Ay (zs.set k ⟨qk, v, qb, qc, qd⟩).length cy] from rfl, List.length_set])
              rw [ho] at hc1
              refine ⟨agL, L2.set i ⟨⟨zi, zs.set k ⟨qk, v, qb, qc, qd⟩⟩, Ay, cy⟩, hsL, ?_, ⟨by rw [List.length_set]; exact hL26, hm1⟩⟩
              rw [ho, List.length_set]
              exact Ent.trans (B := orow 37 Ay cy (zs.set k ⟨qk, v, qb, qc, qd⟩) :: allH ((L2.eraseIdx i).map rowOf) :: orow 31 A2 c2 L2 :: [bx b5 24 [.int .i64 9, .slice A2 L2.length c2], bx b1 24 [.int .i64 9, .slice A L.length c], knw A L]) enL (hc1.trans enL)
            ·
              (repeat' (first | (show VH _ _ _ _ _ _ _; first | refine v_seq ?_ | refine r_seq ?_ | refine v_cond_f rfl tbL ?_) | (show SH _ _ _ _ _ (_ :: _) _ _ _; first | (show SH _ _ _ _ _ (⟨_, .move _, _, _, _, _⟩ :: _) _ _ _; refine mov evL ?_) | (show SH _ _ _ _ _ (⟨_, .binOp .lss _ _ _ _, _, _, _, _⟩ :: _) _ _ _; refine lssF rfl rfl omD ?_)) | refine s_nil ?_ | refine kh_normal ?_))
              refine v_some (A := Ay) (l := zs) spL (by omega) (fun hAx => ?_)
              refine r_heldT [orow 31 A2 c2 L2] (tr [(0, true), (1, true), (2, true), (3, true), (4, true), (5, true), (6, true), (8, true), (11, true), (12, true), (7, false), (9, false), (10, false), (13, false), (14, false)] .nil) hmix (by kernel_rfl) enL ?_
              (repeat' ((show SH _ _ _ _ _ (_ :: _) _ _ _; first | (show SH _ _ _ _ _ (⟨_, .move _, _, _, _, _⟩ :: _) _ _ _; refine mov evL ?_) | (show SH _ _ _ _ _ (⟨_, .binOp .rem _ _ _ _, _, _, _, _⟩ :: _) _ _ _; refine rem rfl rfl omL omL ?_) | (show SH _ _ _ _ _ (⟨_, .load _ _, _, _, _, _⟩ :: _) _ _ _; refine lrg rfl (fun _ _ => rdY) (by rfl) omL (by assumption) (by rfl) ?_) | (show SH _ _ _ _ _ (⟨_, .indexAddr _ _ _, _, _, _, _⟩ :: _) _ _ _; first | refine ixi rfl rfl (fun _ _ => rdY) (by rfl) omL omL omL ?_ | refine ixq rfl rfl (by assumption) omL omL ?_ | refine ixi rfl rfl (fun _ _ => rdY) (by rfl) omL (by first | omega | (simp only [List.length_cons, List.length_nil]; omega)) (by simp only [List.length_cons, List.length_nil]; omega) ?_) | refine nlc rfl ?_ | refine fad rfl ?_ | (show SH _ _ _ _ _ (⟨_, .buildSlice _ _ _, _, _, _, _⟩ :: _) _ _ _; refine bsl (α := Int) rfl rfl (by repeat (first | exact Vals.nil | (apply Vals.cons; rfl))) rfl (by rfl) (by decide) (fun b => ?_)))))
              refine lin (i := m) (l := [0, 1, 2, 8, 9, 16383, 16384, 16385, -1, 510, 256, 1048576]) rfl (fun w hw => hw.rd spL) (by simp only [List.length_cons, List.length_nil]; omega) ?_
              generalize [0, 1, 2, 8, 9, 16383, 16384, 16385, -1, 510, 256, 1048576].getD m 0 = v
              rw [hj]
              (repeat' ((show SH _ _ _ _ _ (_ :: _) _ _ _; (show SH _ _ _ _ _ (⟨_, .indexAddr _ _ _, _, _, _, _⟩ :: _) _ _ _; refine ixA _ rfl rfl rfl omL ?_))))
              refine stf (x' := (⟨qk, qa, v, qc, qd⟩ : Comp)) (i := k) (off := 2) (l := zs) (A := Ay) rfl rfl rfl spL rfl hkl rfl rfl (by decide) (by rw [hqE]; rfl) enL ?_
              (repeat' (first | refine s_nil ?_ | refine kh_normal ?_))
              have hc1 := hcl (zs.set k ⟨qk, qa, v, qc, qd⟩)
              have hm1 := hmem (zs.set k ⟨qk, qa, v, qc, qd⟩) (by rw [List.length_set]; exact hz4)
              have ho := orow_same (e := 31) (A := A2) (c := c2) (l := L2) (i := i) (x := (⟨⟨zi, zs.set k ⟨qk, qa, v, qc, qd⟩⟩, Ay, cy⟩ : EntP)) (by omega) (by rw [hyE, show Flat.enc (⟨⟨zi, zs.set k ⟨qk, qa, v, qc, qd⟩⟩, Ay, cy⟩ : EntP) = [.int .i64 zi, .slice Ay (zs.set k ⟨qk, qa, v, qc, qd⟩).length cy] from rfl, List.length_set])
              rw [ho] at hc1
              refine ⟨agL, L2.set i ⟨⟨zi, zs.set k ⟨qk, qa, v, qc, qd⟩⟩, Ay, cy⟩, hsL, ?_, ⟨by rw [List.length_set]; exact hL26, hm1⟩⟩
              rw [ho, List.length_set]
              exact Ent.trans (B := orow 37 Ay cy (zs.set k ⟨qk, qa, v, qc, qd⟩) :: allH ((L2.eraseIdx i).map rowOf) :: orow 31 A2 c2 L2 :: [bx b5 24 [.int .i64 9, .slice A2 L2.length c2], bx b1 24 [.int .i64 9, .slice A L.length c], knw A L]) enL (hc1.trans enL)
        · rintro L3 g5 ⟨h6, h4⟩ _ rfl
          simp only [sets]
          have hT := fun ct jd w hG hr => tells_spec 9 A2 L3 c2 ct jd w hG hr (by omega) (fun x hx => by have := h4 x hx; omega)
          unfold wv at hT
          clear hC hA hL2 hL24 hze hel hy hzE hyE hopen
          refine VH.ent (G := [bx b5 24 [.int .i64 9, .slice A2 L3.length c2], knw A2 L3, bx b1 24 [.int .i64 9, .slice A L.length c], knw A L]) ?_ (Ent.trans (B := [orow 31 A2 c2 L3, allH (L3.map rowOf), bx b5 24 [.int .i64 9, .slice A2 L3.length c2], bx b1 24 [.int .i64 9, .slice A L.length c], knw A L]) enL (ent_knw.trans enL))
          (repeat' (first | (show VH _ _ _ _ _ _ _; first | refine v_seq ?_ | refine r_seq ?_ | refine v_skip ?_ | refine v_cond_f rfl tbL ?_) | (show SH _ _ _ _ _ (_ :: _) _ _ _; first | (show SH _ _ _ _ _ (⟨_, _, _, _, _, some _⟩ :: _) _ _ _; (refine gif rfl rfl ?_; refine giFF tbL ?_)) | (show SH _ _ _ _ _ (⟨_, .move _, _, _, _, _⟩ :: _) _ _ _; refine mov evL ?_) | (show SH _ _ _ _ _ (⟨_, .assign _, _, _, _, _⟩ :: _) _ _ _; refine asg evL ?_) | (show SH _ _ _ _ _ (⟨_, .binOp .add _ _ _ _, _, _, _, _⟩ :: _) _ _ _; refine add rfl rfl inL ?_) | (show SH _ _ _ _ _ (⟨_, .binOp .sub _ _ _ _, _, _, _, _⟩ :: _) _ _ _; refine sub rfl rfl inL ?_) | (show SH _ _ _ _ _ (⟨_, .binOp .rem _ _ _ _, _, _, _, _⟩ :: _) _ _ _; refine rem rfl rfl omL omL ?_) | (show SH _ _ _ _ _ (⟨_, .load _ _, _, _, _, _⟩ :: _) _ _ _; refine lba rfl spL (by rfl) ?_) | (show SH _ _ _ _ _ (⟨_, .call ⟨.value (.func 6), _, _⟩, _, _, _, _⟩ :: _) _ _ _; refine cl (callee := .func 6) rfl (fun w hw => hT _ _ w (hG.ext hw.ext) (hw.kw (A := A2) (l := L3) spL)) rfl rfl ?_) | refine bnoT rfl ?_ | (show SH _ _ _ _ _ (⟨_, .pick _ _ _, _, _, _, _⟩ :: _) _ _ _; refine pkf rfl tbL evL ?_)) | refine s_nil ?_ | refine kh_normal ?_ | refine bh_normal ?_))
          exact ⟨agL, n + 1, ⟨congrArg (Value.int .i64) (by omega), trivial⟩, enL, by omega, by omega⟩
      · clear hC hA hze hel hzE
        (repeat' (first | (show VH _ _ _ _ _ _ _; first | refine v_seq ?_ | refine r_seq ?_ | refine v_exit ?_ | refine v_cond_f rfl tbL ?_) | (show SH _ _ _ _ _ (_ :: _) _ _ _; first | (show SH _ _ _ _ _ (⟨_, .move _, _, _, _, _⟩ :: _) _ _ _; refine mov evL ?_) | (show SH _ _ _ _ _ (⟨_, .binOp .lss _ _ _ _, _, _, _, _⟩ :: _) _ _ _; refine lssF rfl rfl omD ?_) | (show SH _ _ _ _ _ (⟨_, .binOp .add _ _ _ _, _, _, _, _⟩ :: _) _ _ _; refine add rfl rfl inL ?_)) | refine s_nil ?_ | refine kh_normal ?_ | refine kh_exit ?_ | refine bh_normal ?_ | refine bh_exit ?_))
        exact ⟨agL, k + 1, hsL, enL, by omega, by omega⟩
    · clear hC hA hze hel hzE
      (repeat' (first | (show VH _ _ _ _ _ _ _; first | refine v_seq ?_ | refine r_seq ?_ | refine v_exit ?_ | refine v_cond_f rfl tbL ?_) | (show SH _ _ _ _ _ (_ :: _) _ _ _; first | (show SH _ _ _ _ _ (⟨_, .move _, _, _, _, _⟩ :: _) _ _ _; refine mov evL ?_) | (show SH _ _ _ _ _ (⟨_, .binOp .lss _ _ _ _, _, _, _, _⟩ :: _) _ _ _; refine lssF rfl rfl omD ?_) | (show SH _ _ _ _ _ (⟨_, .binOp .add _ _ _ _, _, _, _, _⟩ :: _) _ _ _; refine add rfl rfl inL ?_)) | refine s_nil ?_ | refine kh_normal ?_ | refine kh_exit ?_ | refine bh_normal ?_ | refine bh_exit ?_))
      exact ⟨agL, i + 1, hsL, enL, by omega, by omega⟩
  · clear hC hel hx4 hL4
    refine VH.ent (G := []) ?_ (ent_nil _)
    clear hi
    (repeat' (first | (show VH _ _ _ _ _ _ _; first | refine v_seq ?_ | refine r_seq ?_ | refine v_block ?_ | refine v_exit ?_ | refine v_cond_f rfl tbL ?_) | (show SH _ _ _ _ _ (_ :: _) _ _ _; first | (show SH _ _ _ _ _ (⟨_, .assign _, _, _, _, _⟩ :: _) _ _ _; refine asg evL ?_) | (show SH _ _ _ _ _ (⟨_, .binOp .lss _ _ _ _, _, _, _, _⟩ :: _) _ _ _; refine lssF rfl rfl omD ?_) | refine ala rfl (fun b => ?_)) | refine s_nil ?_ | refine kh_normal ?_ | refine kh_exit ?_ | refine bh_exit ?_))
    revert b
    intro b7
    refine v_norm [(7,_),(8,_)] heL (fun g => ?_)
    refine v_loop [(0,0),(8,8),(92,140)] (fun s : Nat × (Option Addr × Nat) × List EntP => [(8, .int .i64 s.1)]) (fun s => [bx b7 24 [.int .i64 0, .slice s.2.1.1 s.2.2.length s.2.1.2], orow 31 s.2.1.1 s.2.1.2 s.2.2, allH (s.2.2.map rowOf)]) (fun s => s.1 ≤ 65 ∧ s.2.2.length = s.1 ∧ ∀ x ∈ s.2.2, x.e.comps.length ≤ 4) (fun s => 65 - s.1) (0, (none, 0), []) hsL (ent_cons spL (ent_nilrow (ent_all_nil enL))) ⟨Nat.zero_le _, rfl, fun x hx => absurd hx List.not_mem_nil⟩ ?_
    rintro ⟨k, ⟨A3, c3⟩, L3⟩ g4 ⟨hk, hn, h4⟩
    simp only [sets]
    simp only at hk hn h4
    have hT := fun ct jd w hG hr => tells_spec 0 A3 L3 c3 ct jd w hG hr (by omega) (fun x hx => by have := h4 x hx; omega)
    unfold wv at hT
    by_cases hkl : k < 65
    · (repeat' (first | (show VH _ _ _ _ _ _ _; first | refine v_seq ?_ | refine r_seq ?_ | refine v_block ?_ | refine v_skip ?_ | refine v_cond_t rfl tbL ?_ | refine v_cond_f rfl tbL ?_) | (show SH _ _ _ _ _ (_ :: _) _ _ _; first | (show SH _ _ _ _ _ (⟨_, _, _, _, _, some _⟩ :: _) _ _ _; (refine gif rfl rfl ?_; refine giFF tbL ?_)) | (show SH _ _ _ _ _ (⟨_, .move _, _, _, _, _⟩ :: _) _ _ _; refine mov evL ?_) | (show SH _ _ _ _ _ (⟨_, .binOp .leq _ _ _ _, _, _, _, _⟩ :: _) _ _ _; refine leqT rfl rfl omD ?_) | (show SH _ _ _ _ _ (⟨_, .binOp .add _ _ _ _, _, _, _, _⟩ :: _) _ _ _; refine add rfl rfl inL ?_) | (show SH _ _ _ _ _ (⟨_, .binOp .sub _ _ _ _, _, _, _, _⟩ :: _) _ _ _; refine sub rfl rfl inL ?_) | (show SH _ _ _ _ _ (⟨_, .binOp .rem _ _ _ _, _, _, _, _⟩ :: _) _ _ _; refine rem rfl rfl omL omL ?_) | (show SH _ _ _ _ _ (⟨_, .binOp .quo _ _ _ _, _, _, _, _⟩ :: _) _ _ _; refine quo rfl rfl omL omL omL ?_) | (show SH _ _ _ _ _ (⟨_, .load _ _, _, _, _, _⟩ :: _) _ _ _; refine lba rfl spL (by rfl) ?_) | (show SH _ _ _ _ _ (⟨_, .call ⟨.value (.func 6), _, _⟩, _, _, _, _⟩ :: _) _ _ _; refine cl (callee := .func 6) rfl (fun w hw => hT _ _ w (hG.ext hw.ext) (own_rd (A := A3) (c := c3) (L := L3) (R := []) (ent_cons spL (ent_cons spL (ent_nil _))) hw)) rfl rfl ?_) | refine bnoT rfl ?_ | (show SH _ _ _ _ _ (⟨_, .pick _ _ _, _, _, _, _⟩ :: _) _ _ _; refine pkf rfl tbL evL ?_)) | refine s_nil ?_ | refine kh_normal ?_))
      have hcm := fun kk v u w => lcomp_spec kk v u w
      have hth := fun ei A m c w => lthing_spec ei A m c w
      clear hA hT
      refine r_heldT [] (tr [(0, true), (2, true), (3, true), (4, true), (5, true), (6, true), (7, true), (8, true), (9, true), (11, true), (12, true), (13, true), (14, true), (16, true), (17, true), (18, true), (19, true), (20, true)] (.fork 1 (tr [(10, false), (15, false), (21, false), (22, false), (23, false), (24, false), (25, false), (26, false), (27, false)] .nil) 10 (tr [] (.fork 1 (tr [(15, false), (21, false), (22, false), (23, false), (24, false), (25, false), (26, false), (27, false)] .nil) 15 (tr [] (.fork 1 (tr [(21, false), (22, false), (23, false), (24, false), (25, false), (26, false), (27, false)] .nil) 21 (tr [] (.fork 1 (tr [(22, false), (23, false), (24, false), (25, false), (26, false), (27, false)] .nil) 22 (tr [] (.fork 1 (tr [(23, false), (24, false), (25, false), (26, false), (27, false)] .nil) 23 (tr [] (.fork 1 (tr [(24, false), (25, false), (26, false), (27, false)] .nil) 24 (tr [(1, false), (25, false), (26, false), (27, false)] .nil))))))))))))) hmix (by kernel_rfl) enL ?_
      (repeat' (first | (show SH _ _ _ _ _ (_ :: _) _ _ _; first | (show SH _ _ _ _ _ (⟨_, .move _, _, _, _, _⟩ :: _) _ _ _; refine mov evL ?_) | (show SH _ _ _ _ _ (⟨_, .binOp .add _ _ _ _, _, _, _, _⟩ :: _) _ _ _; refine add rfl rfl inL ?_) | (show SH _ _ _ _ _ (⟨_, .binOp .mul _ _ _ _, _, _, _, _⟩ :: _) _ _ _; refine mul rfl rfl inL ?_) | (show SH _ _ _ _ _ (⟨_, .binOp .rem _ _ _ _, _, _, _, _⟩ :: _) _ _ _; refine rem rfl rfl omL omL ?_) | (show SH _ _ _ _ _ (⟨_, .binOp .quo _ _ _ _, _, _, _, _⟩ :: _) _ _ _; refine quo rfl rfl omL omL omL ?_) | (show SH _ _ _ _ _ (⟨_, .load _ _, _, _, _, _⟩ :: _) _ _ _; refine lbx rfl spL (by rfl) ?_) | (show SH _ _ _ _ _ (⟨_, .call ⟨.value (.func 11), _, _⟩, _, _, _, _⟩ :: _) _ _ _; refine cl (callee := .func 11) rfl (fun w hw => hcm _ _ _ w) rfl rfl ?_) | refine fad rfl ?_) | refine s_fork ?_ ?_))
      repeat' (first
        | (refine s_fork3 ?_ ?_ ?_ <;> (repeat' (first | (show VH _ _ _ _ _ _ _; first | refine v_seq ?_ | refine r_seq ?_ | refine r_quiet hmix (by kernel_rfl) ?_ | refine v_block ?_ | refine v_ret ?_ | refine v_skip ?_ | refine v_exit ?_ | refine v_label ?_ | refine v_cond_t rfl tbL ?_ | refine v_cond_f rfl tbL ?_ | refine v_cond_dec rfl (fun h => ?_) (fun h => ?_) | refine v_cond_ndec rfl (fun h => ?_) (fun h => ?_) | refine v_cond rfl (fun h => ?_) (fun h => ?_)) | (show SH _ _ _ _ _ (_ :: _) _ _ _; first | (show SH _ _ _ _ _ (⟨_, _, _, _, _, some _⟩ :: _) _ _ _; first | (refine gif rfl rfl ?_; first | refine giTT tbL ?_ | refine giTF tbL ?_ | refine giFF tbL ?_ | refine giFT tbL ?_ | refine giTd (fun h => ?_) (fun h => ?_) | refine giFd (fun h => ?_) (fun h => ?_) | refine giT (fun h => ?_) (fun h => ?_) | refine giF (fun h => ?_) (fun h => ?_)) | refine gu rfl rfl ?_ | refine grT rfl rfl tbL ?_ | refine grF rfl rfl tbL ?_) | (show SH _ _ _ _ _ (⟨_, .move _, _, _, _, _⟩ :: _) _ _ _; refine mov evL ?_) | (show SH _ _ _ _ _ (⟨_, .assign _, _, _, _, _⟩ :: _) _ _ _; refine asg evL ?_) | (show SH _ _ _ _ _ (⟨_, .binOp .lss _ _ _ _, _, _, _, _⟩ :: _) _ _ _; first | refine lssT rfl rfl omD ?_ | refine lssF rfl rfl omD ?_ | refine lss rfl rfl ?_) | (show SH _ _ _ _ _ (⟨_, .binOp .leq _ _ _ _, _, _, _, _⟩ :: _) _ _ _; first | refine leqT rfl rfl omD ?_ | refine leqF rfl rfl omD ?_ | refine leq rfl rfl ?_) | (show SH _ _ _ _ _ (⟨_, .binOp .add _ _ _ _, _, _, _, _⟩ :: _) _ _ _; refine add rfl rfl inL ?_) | (show SH _ _ _ _ _ (⟨_, .binOp .sub _ _ _ _, _, _, _, _⟩ :: _) _ _ _; refine sub rfl rfl inL ?_) | (show SH _ _ _ _ _ (⟨_, .binOp .mul _ _ _ _, _, _, _, _⟩ :: _) _ _ _; refine mul rfl rfl inL ?_) | (show SH _ _ _ _ _ (⟨_, .binOp .rem _ _ _ _, _, _, _, _⟩ :: _) _ _ _; refine rem rfl rfl omL omL ?_) | (show SH _ _ _ _ _ (⟨_, .binOp .quo _ _ _ _, _, _, _, _⟩ :: _) _ _ _; refine quo rfl rfl omL omL omL ?_) | (show SH _ _ _ _ _ (⟨_, .load _ _, _, _, _, _⟩ :: _) _ _ _; first | refine lgi rfl (fun _ _ => rdY) omL (by assumption) ?_ | refine lag rfl (fun _ _ => rdY) (by rfl) omL (by assumption) ?_ | refine lrg rfl (fun _ _ => rdY) (by rfl) omL (by assumption) (by rfl) ?_ | refine lin rfl (fun _ _ => rdY) omL ?_ | refine lbx rfl spL (by rfl) ?_ | refine lba rfl spL (by rfl) ?_ | refine lbi rfl spL omL ?_ | refine lr1 rfl (fun _ _ => rdY) (by rfl) omL (by rfl) ?_ | refine lra rfl (fun _ _ => rdY) (by rfl) omL ?_ | refine lrf rfl (fun _ _ => rdY) (by rfl) omL (by rfl) ?_ | refine lcell rfl (fun w hw => hw.ext.cell (by assumption)) ?_ | refine lrs rfl (fun _ _ => rdY) (by rfl) omL (by rfl) (by rfl) ?_ | refine lbs rfl spL (by rfl) (by rfl) ?_ | refine lca rfl (fun _ _ => rdY) (by rfl) ?_ | refine lcs rfl (fun _ _ => rdY) (by rfl) ?_ | refine lcf rfl (fun _ _ => rdY) (by rfl) ?_ | refine lrf rfl (fun _ _ => rdY) (by rfl) (by simp only [List.length_cons, List.length_nil]; omega) (by rfl) ?_ | refine lra rfl (fun _ _ => rdY) (by rfl) (by simp only [List.length_cons, List.length_nil]; omega) ?_) | (show SH _ _ _ _ _ (⟨_, .indexAddr _ _ _, _, _, _, _⟩ :: _) _ _ _; first | refine ix rfl rfl (by with_reducible rfl) (fun _ _ => rdY) (by rfl) omL omL ?_ | refine ixi rfl rfl (fun _ _ => rdY) (by rfl) omL omL omL ?_ | refine ixb rfl rfl omL ?_ | refine ixq rfl rfl (by assumption) omL omL ?_ | refine ixA _ rfl rfl rfl omL ?_ | refine ixi rfl rfl (fun _ _ => rdY) (by rfl) omL (by first | omega | (simp only [List.length_cons, List.length_nil]; omega)) (by simp only [List.length_cons, List.length_nil]; omega) ?_) | refine slen rfl ?_ | (show SH _ _ _ _ _ (⟨_, .call ⟨.value (.func 11), _, _⟩, _, _, _, _⟩ :: _) _ _ _; refine cl (callee := .func 11) rfl (fun w hw => hcm _ _ _ w) rfl rfl ?_) | (show SH _ _ _ _ _ (⟨_, .call ⟨.value (.func 10), _, _⟩, _, _, _, _⟩ :: _) _ _ _; refine cl (callee := .func 10) rfl (fun w hw => hth _ _ _ _ w) rfl rfl ?_) | (show SH _ _ _ _ _ (⟨_, .unOp .not _ _, _, _, _, _⟩ :: _) _ _ _; first | refine bnoT rfl ?_ | refine bnoF rfl ?_ | refine bnot rfl ?_) | (show SH _ _ _ _ _ (⟨_, .pick _ _ _, _, _, _, _⟩ :: _) _ _ _; first | refine pkt rfl tbL evL ?_ | refine pkf rfl tbL evL ?_) | refine nlc rfl ?_ | refine fad rfl ?_ | (show SH _ _ _ _ _ (⟨_, .slice _ _ _ _ _, _, _, _, _⟩ :: _) _ _ _; first | refine sla rfl rfl omL omL ?_ | refine slh rfl rfl omL omL ?_ | refine sll rfl rfl omL omL ?_) | (show SH _ _ _ _ _ (⟨_, .build _ _, _, _, _, _⟩ :: _) _ _ _; first | refine bld rfl rfl ?_ | refine bldZ ?_ | refine bldZN ?_) | (show SH _ _ _ _ _ (⟨_, .alloc _, _, _, _, _⟩ :: _) _ _ _; first | refine al1 rfl (fun b => ?_) | refine ala rfl (fun b => ?_)) | (show SH _ _ _ _ _ (⟨_, .store _ _ _, _, _, _, _⟩ :: _) _ _ _; first | refine stb rfl rfl evL spL rfl rfl (by first | decide | exact Nat.zero_lt_succ _ | exact of_decide_eq_true rfl) kpL ?_ | refine sta rfl rfl rfl spL (by rfl) (by rfl) (by rfl) kpL ?_ | refine sti rfl rfl rfl spL omL kpL ?_ | refine sbi rfl rfl rfl spL omL kpL ?_ | refine sbs rfl rfl evL spL (by rfl) (by rfl) (of_decide_eq_true rfl) kpL ?_) | (show SH _ _ _ _ _ (⟨_, .buildSlice _ _ _, _, _, _, _⟩ :: _) _ _ _; refine bsl (α := Int) rfl rfl (by repeat (first | exact Vals.nil | (apply Vals.cons; rfl))) rfl (by rfl) (by decide) (fun b => ?_))) | refine s_nil ?_ | refine s_fork ?_ ?_ | refine s_fork3 ?_ ?_ ?_ | refine s_fork4 ?_ ?_ ?_ ?_ | refine kh_normal ?_ | refine kh_ret ?_ | refine kh_exit ?_ | refine bh_normal ?_ | refine bh_ret ?_ | refine bh_exit ?_ | refine bh_exit_ne rfl ?_)))
        | (refine s_fork ?_ ?_ <;> (repeat' (first | (show VH _ _ _ _ _ _ _; first | refine v_seq ?_ | refine r_seq ?_ | refine r_quiet hmix (by kernel_rfl) ?_ | refine v_block ?_ | refine v_ret ?_ | refine v_skip ?_ | refine v_exit ?_ | refine v_label ?_ | refine v_cond_t rfl tbL ?_ | refine v_cond_f rfl tbL ?_ | refine v_cond_dec rfl (fun h => ?_) (fun h => ?_) | refine v_cond_ndec rfl (fun h => ?_) (fun h => ?_) | refine v_cond rfl (fun h => ?_) (fun h => ?_)) | (show SH _ _ _ _ _ (_ :: _) _ _ _; first | (show SH _ _ _ _ _ (⟨_, _, _, _, _, some _⟩ :: _) _ _ _; first | (refine gif rfl rfl ?_; first | refine giTT tbL ?_ | refine giTF tbL ?_ | refine giFF tbL ?_ | refine giFT tbL ?_ | refine giTd (fun h => ?_) (fun h => ?_) | refine giFd (fun h => ?_) (fun h => ?_) | refine giT (fun h => ?_) (fun h => ?_) | refine giF (fun h => ?_) (fun h => ?_)) | refine gu rfl rfl ?_ | refine grT rfl rfl tbL ?_ | refine grF rfl rfl tbL ?_) | (show SH _ _ _ _ _ (⟨_, .move _, _, _, _, _⟩ :: _) _ _ _; refine mov evL ?_) | (show SH _ _ _ _ _ (⟨_, .assign _, _, _, _, _⟩ :: _) _ _ _; refine asg evL ?_) | (show SH _ _ _ _ _ (⟨_, .binOp .lss _ _ _ _, _, _, _, _⟩ :: _) _ _ _; first | refine lssT rfl rfl omD ?_ | refine lssF rfl rfl omD ?_ | refine lss rfl rfl ?_) | (show SH _ _ _ _ _ (⟨_, .binOp .leq _ _ _ _, _, _, _, _⟩ :: _) _ _ _; first | refine leqT rfl rfl omD ?_ | refine leqF rfl rfl omD ?_ | refine leq rfl rfl ?_) | (show SH _ _ _ _ _ (⟨_, .binOp .add _ _ _ _, _, _, _, _⟩ :: _) _ _ _; refine add rfl rfl inL ?_) | (show SH _ _ _ _ _ (⟨_, .binOp .sub _ _ _ _, _, _, _, _⟩ :: _) _ _ _; refine sub rfl rfl inL ?_) | (show SH _ _ _ _ _ (⟨_, .binOp .mul _ _ _ _, _, _, _, _⟩ :: _) _ _ _; refine mul rfl rfl inL ?_) | (show SH _ _ _ _ _ (⟨_, .binOp .rem _ _ _ _, _, _, _, _⟩ :: _) _ _ _; refine rem rfl rfl omL omL ?_) | (show SH _ _ _ _ _ (⟨_, .binOp .quo _ _ _ _, _, _, _, _⟩ :: _) _ _ _; refine quo rfl rfl omL omL omL ?_) | (show SH _ _ _ _ _ (⟨_, .load _ _, _, _, _, _⟩ :: _) _ _ _; first | refine lgi rfl (fun _ _ => rdY) omL (by assumption) ?_ | refine lag rfl (fun _ _ => rdY) (by rfl) omL (by assumption) ?_ | refine lrg rfl (fun _ _ => rdY) (by rfl) omL (by assumption) (by rfl) ?_ | refine lin rfl (fun _ _ => rdY) omL ?_ | refine lbx rfl spL (by rfl) ?_ | refine lba rfl spL (by rfl) ?_ | refine lbi rfl spL omL ?_ | refine lr1 rfl (fun _ _ => rdY) (by rfl) omL (by rfl) ?_ | refine lra rfl (fun _ _ => rdY) (by rfl) omL ?_ | refine lrf rfl (fun _ _ => rdY) (by rfl) omL (by rfl) ?_ | refine lcell rfl (fun w hw => hw.ext.cell (by assumption)) ?_ | refine lrs rfl (fun _ _ => rdY) (by rfl) omL (by rfl) (by rfl) ?_ | refine lbs rfl spL (by rfl) (by rfl) ?_ | refine lca rfl (fun _ _ => rdY) (by rfl) ?_ | refine lcs rfl (fun _ _ => rdY) (by rfl) ?_ | refine lcf rfl (fun _ _ => rdY) (by rfl) ?_ | refine lrf rfl (fun _ _ => rdY) (by rfl) (by simp only [List.length_cons, List.length_nil]; omega) (by rfl) ?_ | refine lra rfl (fun _ _ => rdY) (by rfl) (by simp only [List.length_cons, List.length_nil]; omega) ?_) | (show SH _ _ _ _ _ (⟨_, .indexAddr _ _ _, _, _, _, _⟩ :: _) _ _ _; first | refine ix rfl rfl (by with_reducible rfl) (fun _ _ => rdY) (by rfl) omL omL ?_ | refine ixi rfl rfl (fun _ _ => rdY) (by rfl) omL omL omL ?_ | refine ixb rfl rfl omL ?_ | refine ixq rfl rfl (by assumption) omL omL ?_ | refine ixA _ rfl rfl rfl omL ?_ | refine ixi rfl rfl (fun _ _ => rdY) (by rfl) omL (by first | omega | (simp only [List.length_cons, List.length_nil]; omega)) (by simp only [List.length_cons, List.length_nil]; omega) ?_) | refine slen rfl ?_ | (show SH _ _ _ _ _ (⟨_, .call ⟨.value (.func 11), _, _⟩, _, _, _, _⟩ :: _) _ _ _; refine cl (callee := .func 11) rfl (fun w hw => hcm _ _ _ w) rfl rfl ?_) | (show SH _ _ _ _ _ (⟨_, .call ⟨.value (.func 10), _, _⟩, _, _, _, _⟩ :: _) _ _ _; refine cl (callee := .func 10) rfl (fun w hw => hth _ _ _ _ w) rfl rfl ?_) | (show SH _ _ _ _ _ (⟨_, .unOp .not _ _, _, _, _, _⟩ :: _) _ _ _; first | refine bnoT rfl ?_ | refine bnoF rfl ?_ | refine bnot rfl ?_) | (show SH _ _ _ _ _ (⟨_, .pick _ _ _, _, _, _, _⟩ :: _) _ _ _; first | refine pkt rfl tbL evL ?_ | refine pkf rfl tbL evL ?_) | refine nlc rfl ?_ | refine fad rfl ?_ | (show SH _ _ _ _ _ (⟨_, .slice _ _ _ _ _, _, _, _, _⟩ :: _) _ _ _; first | refine sla rfl rfl omL omL ?_ | refine slh rfl rfl omL omL ?_ | refine sll rfl rfl omL omL ?_) | (show SH _ _ _ _ _ (⟨_, .build _ _, _, _, _, _⟩ :: _) _ _ _; first | refine bld rfl rfl ?_ | refine bldZ ?_ | refine bldZN ?_) | (show SH _ _ _ _ _ (⟨_, .alloc _, _, _, _, _⟩ :: _) _ _ _; first | refine al1 rfl (fun b => ?_) | refine ala rfl (fun b => ?_)) | (show SH _ _ _ _ _ (⟨_, .store _ _ _, _, _, _, _⟩ :: _) _ _ _; first | refine stb rfl rfl evL spL rfl rfl (by first | decide | exact Nat.zero_lt_succ _ | exact of_decide_eq_true rfl) kpL ?_ | refine sta rfl rfl rfl spL (by rfl) (by rfl) (by rfl) kpL ?_ | refine sti rfl rfl rfl spL omL kpL ?_ | refine sbi rfl rfl rfl spL omL kpL ?_ | refine sbs rfl rfl evL spL (by rfl) (by rfl) (of_decide_eq_true rfl) kpL ?_) | (show SH _ _ _ _ _ (⟨_, .buildSlice _ _ _, _, _, _, _⟩ :: _) _ _ _; refine bsl (α := Int) rfl rfl (by repeat (first | exact Vals.nil | (apply Vals.cons; rfl))) rfl (by rfl) (by decide) (fun b => ?_))) | refine s_nil ?_ | refine s_fork ?_ ?_ | refine s_fork3 ?_ ?_ ?_ | refine s_fork4 ?_ ?_ ?_ ?_ | refine kh_normal ?_ | refine kh_ret ?_ | refine kh_exit ?_ | refine bh_normal ?_ | refine bh_ret ?_ | refine bh_exit ?_ | refine bh_exit_ne rfl ?_)))
        | (refine bsl (l := [(⟨1, _, _, 0, 0⟩ : Comp), ⟨4, _, 0, 0, 0⟩, ⟨5, _, 0, 0, 0⟩]) rfl rfl (Vals.cons rfl (Vals.cons rfl (Vals.cons rfl Vals.nil))) rfl rfl (by decide) (fun bq => ?_)
           generalize (⟨1, _, _, 0, 0⟩ : Comp) = q1
           generalize (⟨4, _, 0, 0, 0⟩ : Comp) = q2
           generalize (⟨5, _, 0, 0, 0⟩ : Comp) = q3
           (repeat' (first | (show SH _ _ _ _ _ (_ :: _) _ _ _; first | (show SH _ _ _ _ _ (⟨_, .load _ _, _, _, _, _⟩ :: _) _ _ _; refine lbx rfl spL (by rfl) ?_) | (show SH _ _ _ _ _ (⟨_, .call ⟨.value (.func 10), _, _⟩, _, _, _, _⟩ :: _) _ _ _; refine cl (callee := .func 10) rfl (fun w hw => hth _ _ _ _ w) rfl rfl ?_)) | refine s_fork ?_ ?_)))
        | (refine bsl (l := [(⟨⟨_, [q1, q2, q3]⟩, some ⟨bq, 0, none⟩, 3⟩ : EntP)]) rfl rfl (Vals.cons rfl Vals.nil) rfl rfl (by decide) (fun br => ?_)
           (repeat' ((show SH _ _ _ _ _ (_ :: _) _ _ _; (show SH _ _ _ _ _ (⟨_, .load _ _, _, _, _, _⟩ :: _) _ _ _; refine lbx rfl spL (by rfl) ?_)))))
        | (refine app (l := L3) (l2 := [(⟨⟨(k : Int) + 1, [q1, q2, q3]⟩, some ⟨bq, 0, none⟩, 3⟩ : EntP)]) rfl rfl rfl spL (fun w hw => hw.rd spL) rfl rfl rfl (by simp only [List.length_cons, List.length_nil]; omega) (by simp only [List.length_cons, List.length_nil]; omega) (fun A7 c7 => ⟨enL, ?_⟩)
           (repeat' (first | refine r_seq ?_ | (show SH _ _ _ _ _ (_ :: _) _ _ _; first | (show SH _ _ _ _ _ (⟨_, .move _, _, _, _, _⟩ :: _) _ _ _; refine mov evL ?_) | (show SH _ _ _ _ _ (⟨_, .assign _, _, _, _, _⟩ :: _) _ _ _; refine asg evL ?_) | (show SH _ _ _ _ _ (⟨_, .binOp .add _ _ _ _, _, _, _, _⟩ :: _) _ _ _; refine add rfl rfl inL ?_) | refine fad rfl ?_ | (show SH _ _ _ _ _ (⟨_, .store _ _ _, _, _, _, _⟩ :: _) _ _ _; refine stb rfl rfl evL spL rfl rfl (by first | decide | exact Nat.zero_lt_succ _ | exact of_decide_eq_true rfl) kpL ?_)) | refine s_nil ?_ | refine kh_normal ?_ | refine bh_normal ?_))))
      all_goals
        refine ⟨agL, (k + 1, (A7, c7), L3 ++ [(⟨⟨(k : Int) + 1, [q1, q2, q3]⟩, some ⟨bq, 0, none⟩, 3⟩ : EntP)]), hsL, ?_, ⟨by omega, by rw [List.length_append]; exact congrArg (· + 1) hn, fun x hx => ?_⟩, by show 65 - (k + 1) < 65 - k; omega⟩
        · exact Ent.trans (B := [orow 37 (some ⟨bq, 0, none⟩) 3 [q1, q2, q3], allH (L3.map rowOf), bx b7 24 [.int .i64 0, .slice A7 (L3 ++ [(⟨⟨(k : Int) + 1, [q1, q2, q3]⟩, some ⟨bq, 0, none⟩, 3⟩ : EntP)]).length c7], orow 31 A7 c7 (L3 ++ [(⟨⟨(k : Int) + 1, [q1, q2, q3]⟩, some ⟨bq, 0, none⟩, 3⟩ : EntP)])]) enL ((ent_all_snoc (f := rowOf) (x := (⟨⟨(k : Int) + 1, [q1, q2, q3]⟩, some ⟨bq, 0, none⟩, 3⟩ : EntP))).trans enL)
        · rcases List.mem_append.mp hx with h | h
          · exact h4 x h
          · rw [List.mem_singleton.mp h]; exact (by decide : (3 : Nat) ≤ 4)
    · obtain rfl : k = 65 := by omega
      have hTm := fun w hG => tells_spec (-1) none [] 0 1 1 w hG ⟨Rd.nil _ _, fun x hx => absurd hx List.not_mem_nil⟩ (by simp) (fun x hx => absurd hx List.not_mem_nil)
      unfold wv at hTm
      (repeat' (first | (show VH _ _ _ _ _ _ _; first | refine v_seq ?_ | refine r_seq ?_ | refine v_ret ?_ | refine v_exit ?_ | refine v_cond_f rfl tbL ?_) | (show SH _ _ _ _ _ (_ :: _) _ _ _; first | (show SH _ _ _ _ _ (⟨_, _, _, _, _, some _⟩ :: _) _ _ _; (refine gif rfl rfl ?_; refine giTT tbL ?_)) | (show SH _ _ _ _ _ (⟨_, .move _, _, _, _, _⟩ :: _) _ _ _; refine mov evL ?_) | (show SH _ _ _ _ _ (⟨_, .assign _, _, _, _, _⟩ :: _) _ _ _; refine asg evL ?_) | (show SH _ _ _ _ _ (⟨_, .binOp .leq _ _ _ _, _, _, _, _⟩ :: _) _ _ _; refine leqF rfl rfl omD ?_) | (show SH _ _ _ _ _ (⟨_, .load _ _, _, _, _, _⟩ :: _) _ _ _; refine lba rfl spL (by rfl) ?_) | (show SH _ _ _ _ _ (⟨_, .call ⟨.value (.func 6), _, _⟩, _, _, _, _⟩ :: _) _ _ _; refine cl (callee := .func 6) rfl (fun w hw => hT _ _ w (hG.ext hw.ext) (own_rd (A := A3) (c := c3) (L := L3) (R := []) (ent_cons spL (ent_cons spL (ent_nil _))) hw)) rfl rfl ?_) | (show SH _ _ _ _ _ (⟨_, .call ⟨.value (.func 6), _, _⟩, _, _, _, _⟩ :: _) _ _ _; refine cl (callee := .func 6) rfl (fun w hw => hTm w (hG.ext hw.ext)) rfl rfl ?_) | (show SH _ _ _ _ _ (⟨_, .call ⟨.value (.func 7), _, _⟩, _, _, _, _⟩ :: _) _ _ _; refine cl (callee := .func 7) rfl (fun w hw => hA w hw.ext) rfl rfl ?_) | (show SH _ _ _ _ _ (⟨_, .pick _ _ _, _, _, _, _⟩ :: _) _ _ _; refine pkt rfl tbL evL ?_) | refine bld rfl rfl ?_) | refine s_nil ?_ | refine kh_normal ?_ | refine kh_exit ?_ | refine bh_exit ?_))
      exact rh1 rfl rfl ⟨rfl, rfl⟩ (ent_nil _)
end Go.Proofs.YtjefoecnciepmaaGreatDoor

/- Arguments are opened: structures of numbers, slices of these. -/
namespace Go.Fw
open Go.RowKit
def WfK : List IntKind → List Int → Prop
  | k :: ks, n :: ns => (Lit.int k n).wf = true ∧ WfK ks ns
  | [], [] => True
  | _, _ => False
theorem WfK.len : ∀ {ks : List IntKind} {ns : List Int}, WfK ks ns → ns.length = ks.length
  | [], [], _ => rfl
  | [], _ :: _, h => h.elim
  | _ :: _, [], h => h.elim
  | _ :: ks, _ :: ns, h => by rw [List.length_cons, List.length_cons, WfK.len h.2]
section
variable {H : Type} {enc : TypeId × Value → H} {P : Program} {w : World} {base : Nat} {spare : Nat → Bool} {held : Bool} {fuel : Nat} {t e : TypeId} {cs : List Value} {x : DataW H × List MemPlace} {ks : List IntKind}
end
end Go.Fw

/- From what a law's function answers to the given statement: the arguments are read, and read as before behind the call. -/
namespace Go.Proofs.YtjefoecnciepmaaGreatDoor
open Go.Fw Go.RowKit Go.ChangeShapes Go.WideShapes Go.ChangeAt
theorem ownK : ownKnob Tryz.prog.godebug = none := by kernel_rfl
theorem laidK : laidOutB Tryz.prog = true := by kernel_rfl
section
variable {H : Type} {enc : TypeId × Value → H} {P : Program}
/-- All arguments read behind the call as they did before. -/
theorem trodAll_carry (hl : laidOutB P = true) {W W' : World} (hb : Below W.heap.size W W') : ∀ (ts : List TypeId) (vs : List Value) (ds : List (DataW H)) (ps : List MemPlace), (∀ t ∈ ts, P.readableRec t = true ∧ t < P.types.size) →
    DataW.TrodAll enc P W 0 (fun _ => true) true ts vs ds ps → (∀ x ∈ ps, x.block < W.heap.size) → DataW.TrodAll enc P W' 0 (fun b => decide (b < W.heap.size)) true ts vs ds ps
  | [], [], [], _, _, h, _ => h
  | t :: ts, v :: vs, d :: ds, ps, hr, ⟨p, q, h1, h2, h3⟩, hlt => by
    subst h3
    exact ⟨p, q, Below.trod hl (hr t (by simp)).1 (hr t (by simp)).2 h1 hb (fun x hx => hlt x (by simp [hx])),
      trodAll_carry hl hb ts vs ds q (fun t ht => hr t (by simp [ht])) h2 (fun x hx => hlt x (by simp [hx])), rfl⟩
  | [], _ :: _, _, _, _, h, _ => h.elim
  | [], [], _ :: _, _, _, h, _ => h.elim
  | _ :: _, [], _, _, _, h, _ => h.elim
  | _ :: _, _ :: _, [], _, _, h, _ => h.elim
/-- A law answers true and leaves all as it was: that is what its row asks. -/
theorem law_post {f : Func} {s : ChangeSpec} {tb : TypeId} {W W' : World} {args : Array Value} {ds gs : List (DataW H)} {before : List MemPlace} (hl : laidOutB P = true) (hrb : f.params.toList.all (fun t => P.readableRec t && decide (t < P.types.size)) = true)
    (hres : f.resultTypes = #[tb]) (htb : P.underlying tb = some .bool) (hs : s.vars = []) (hfn : (s.fn H ds).results = [.lit (.bool true)] ∧ (s.fn H ds).args = ds ∧ (s.fn H ds).vars = [])
    (hW : DataW.Whole enc P f.params.toList s.vars false W args.toList ds gs before) (hb : Below W.heap.size W W') : s.post enc P f false true false false W args (.bool true) W' := by
  have hr : ∀ t ∈ f.params.toList, P.readableRec t = true ∧ t < P.types.size := fun t ht => by simpa using List.all_eq_true.1 hrb t ht
  have hlt : ∀ x ∈ before, x.block < W.heap.size := fun x hx => hW.lt x hx
  have hW0 := hW
  obtain ⟨p, q, hA, hV, rfl, _, _⟩ := hW
  rw [hs] at hV
  obtain ⟨rfl, rfl⟩ := trodVars_none hV
  simp only [List.append_nil] at hW0 hlt
  obtain ⟨h1, h2, h3⟩ := hfn
  refine ⟨ds, [], p, [], p, [], hW0, ?_, ?_, ?_, World.keptBut_mono (fun x hx => ⟨hx, .inr (.inl hx)⟩) (hb.frame (· ∈ p)), fun h => by cases h⟩
  · rw [List.append_nil, h1, hres]
    exact ⟨[], [], shut_bool htb true, rfl, rfl⟩
  · rw [List.append_nil, h2]
    exact trodAll_carry hl hb _ _ _ _ hr hA hlt
  · rw [List.append_nil, h3, hs]
    exact rfl
end
end Go.Proofs.YtjefoecnciepmaaGreatDoor

/- Components, entities, worlds that come in as arguments. -/
namespace Go.Proofs.YtjefoecnciepmaaGreatDoor
open Go.Fw Go.RowKit Go.ChangeShapes Go.WideShapes Go.ChangeAt
section
variable {H : Type} {enc : TypeId × Value → H} {P : Program} {w : World} {base : Nat} {spare : Nat → Bool} {held : Bool} {fuel : Nat} {t e : TypeId} {cs : List Value} {x : DataW H × List MemPlace}
end
section
variable {H : Type} {enc : TypeId × Value → H} {W : World} {base : Nat} {spare : Nat → Bool} {held : Bool}
/-- A component's numbers are such as their types have. -/
structure CompOk (q : Comp) : Prop where
  kind : 0 ≤ q.kind ∧ q.kind ≤ 255
  a : -9223372036854775808 ≤ q.a ∧ q.a ≤ 9223372036854775807
  b : -9223372036854775808 ≤ q.b ∧ q.b ≤ 9223372036854775807
  c : -9223372036854775808 ≤ q.c ∧ q.c ≤ 9223372036854775807
  d : -9223372036854775808 ≤ q.d ∧ q.d ≤ 9223372036854775807
/-- An entity whose components can be read. -/
structure EntOk (W : World) (x : EntP) : Prop where
  id : -9223372036854775808 ≤ x.e.id ∧ x.e.id ≤ 9223372036854775807
  rd : Rd W x.A x.e.comps
  comps : ∀ c ∈ x.e.comps, CompOk c
  len : x.e.comps.length ≤ maxLen
end
end Go.Proofs.YtjefoecnciepmaaGreatDoor

/- The row's condition on the package variable: the table reads as RNG. -/
namespace Go.Proofs.YtjefoecnciepmaaGreatDoor
open Go.Fw Go.RowKit Go.ChangeShapes Go.WideShapes Go.ChangeAt
section
variable {H : Type} {enc : TypeId × Value → H} {P : Program} {w : World} {base : Nat} {spare : Nat → Bool} {held : Bool}
def und1 : DataW H → List Int
  | .agg [.lit (.int _ a), .lit (.int _ b)] => [a, b]
  | _ => []
def undA (u : DataW H → List Int) : DataW H → List Int
  | .agg l => l.flatMap u
  | _ => []
theorem ints_append (a b : List Int) : ints (a ++ b) = ints a ++ ints b := by rw [ints_encs, ints_encs, ints_encs, encs_append]
theorem chunks (c : Nat) (u : DataW H → List Int) : ∀ (xs : List (DataW H × List MemPlace)) (cs : List Value), cs.length = xs.length * c → (∀ i y, xs[i]? = some y → (cs.drop (i * c)).take c = ints (u y.1)) → cs = ints (xs.flatMap fun y => u y.1)
  | [], cs, hl, _ => by
    have : cs = [] := List.eq_nil_of_length_eq_zero (by simpa using hl)
    rw [this]; rfl
  | y :: xs, cs, hl, h => by
    have h0 := h 0 y rfl
    rw [Nat.zero_mul, List.drop_zero] at h0
    have ih := chunks c u xs (cs.drop c) (by rw [List.length_drop, hl, List.length_cons, Nat.succ_mul]; omega) (fun i z hz => by
      rw [List.drop_drop, show c + i * c = (i + 1) * c by rw [Nat.succ_mul]; omega]
      exact h (i + 1) z (by simpa using hz))
    rw [List.flatMap_cons, ints_append, ← h0, ← ih, List.take_append_drop]
theorem trod_arr {n : Nat} {t e : TypeId} {fuel : Nat} {cs : List Value} {x : DataW H × List MemPlace} (u : DataW H → List Int) (ht : P.underlying t = some (.array n e)) (hc : P.cellsOf t = n * P.cellsOf e)
    (he : ∀ m cs' y, DataW.trod enc P w base spare held m e cs' = some y → cs' = ints (u y.1)) (h : DataW.trod enc P w base spare held fuel t cs = some x) : cs = ints (undA u x.1) := by
  obtain ⟨xs, m, _, rfl, hl, hxl, hf⟩ := DataW.trod_array ht h
  have := chunks (P.cellsOf e) u xs cs (by rw [hl, hc, hxl]) (fun i y hy => by
    have hi : i < n := by rw [← hxl]; exact (List.getElem?_eq_some_iff.1 hy).1
    have hx := hf i hi
    rw [hy] at hx
    exact he _ _ _ hx)
  rw [this]
  unfold undA
  simp only [List.flatMap_map]
theorem trod_span {t : TypeId} {fuel : Nat} {cs : List Value} {x : DataW H × List MemPlace} {f0 f1 : Field} (ht : P.underlying t = some (.struct #[f0, f1])) (hc : P.cellsOf t = 2) (h0 : f0.offset = 0) (h1 : f1.offset = 1) (c0 : P.cellsOf f0.type = 1) (c1 : P.cellsOf f1.type = 1) (u0 : P.underlying f0.type = some (.int .i64)) (u1 : P.underlying f1.type = some (.int .i64))
    (h : DataW.trod enc P w base spare held fuel t cs = some x) : cs = ints (und1 x.1) := by
  obtain ⟨xs, m, _, rfl, hl, hxl, hf⟩ := DataW.trod_struct ht h
  rw [hc] at hl
  match cs, hl with
  | [a, b], _ =>
    match xs, hxl with
    | [y0, y1], _ =>
      have e0 := hf 0 f0 rfl
      have e1 := hf 1 f1 rfl
      rw [h0, c0] at e0
      rw [h1, c1] at e1
      simp only [List.drop_zero, List.take_succ_cons, List.take_zero, List.getElem?_cons_zero, List.drop_succ_cons, List.getElem?_cons_succ] at e0 e1
      obtain ⟨m0, hm0, hx0, _⟩ := DataW.trod_int u0 e0
      obtain ⟨m1, hm1, hx1, _⟩ := DataW.trod_int u1 e1
      simp only [List.cons.injEq, and_true] at hm0 hm1
      subst hm0 hm1
      simp only [List.map_cons, List.map_nil, und1]
      rw [hx0, hx1]
      rfl
end
theorem gRanges : Tryz.prog.globalNamed "marches/store.ranges" = some 0 := by kernel_rfl
theorem tRanges : (Tryz.prog.globals[0]?).map (·.type) = some 234 := by kernel_rfl
def laidR : List (String × DataW Unit) := [("marches/store.ranges", Rows.laid_marches_store_ranges)]
theorem glob_of {W : World} (h : laidMetH Tryz.prog laidR W) : Glob W := by
  rw [MakeChecks.laidMetH_plain _ _ _ (by kernel_rfl)] at h
  obtain ⟨ps, ⟨g0, t0, cs0, f0, p0, q0, hg0, ht0, hv0, hd0, _, _⟩, _, _⟩ := h
  obtain rfl := Option.some.inj (gRanges.symm.trans hg0)
  obtain rfl := Option.some.inj (tRanges.symm.trans ht0)
  have hcs := trod_arr (undA und1) (by kernel_rfl : Tryz.prog.underlying 234 = some (.array 11 233)) (by kernel_rfl)
    (fun m cs' y hy => trod_arr und1 (by kernel_rfl : Tryz.prog.underlying 233 = some (.array 4 232)) (by kernel_rfl)
      (fun m cs' y hy => trod_span Tryz.underlying232 (by kernel_rfl) rfl rfl (by kernel_rfl) (by kernel_rfl) Tryz.underlying3 Tryz.underlying3 hy) hy) hd0
  intro j u hj
  refine ⟨rfl, ?_⟩
  have hc := World.var?_cell hg0 hv0 j
  have e : encs RNG = cs0.toList := by rw [hcs]; rfl
  rw [e] at hj
  have e2 : (adr (some (⟨0, 0, none⟩ : Addr))).add j = ⟨0, j, none⟩ := by
    show (⟨0, 0, none⟩ : Addr).add j = _
    by_cases hj0 : j = 0
    · subst hj0; simp [Addr.add]
    · simp [Addr.add, hj0]
  rw [e2, hc]
  simpa using hj
end Go.Proofs.YtjefoecnciepmaaGreatDoor

