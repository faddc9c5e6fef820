/- The kit: a bag of slices; ApartInts. -/
import Derived.Test.YtdlpnjofdpcjjaaGreatKf
namespace Go.Proofs.YtdlpnjofdpcjjaaGreat
open Go.Fw Go.RowKit
instance : TSl Tryz.prog 55 113 1 24 := ⟨by kernel_rfl, by kernel_rfl⟩
instance : TEl Tryz.prog 113 1 24 := tel_of (z := .slice none 0 0) (by kernel_rfl) rfl (by omega)
instance : TOne Tryz.prog 55 (.slice none 0 0) := ⟨fun w => by kernel_rfl, fun w => by kernel_rfl, fun w => by kernel_rfl, rfl⟩
set_option maxRecDepth 100000 in
theorem flatLimbs_none (w : World) : Ret Tryz.prog 40 [.slice none 0 0].toArray w (Out w (.bool true)) := by
  refine enterH Tryz.func40 rfl rfl Tryz.ntmps40 rfl (Wd.refl _) ?_
  repeat (first | refine v_seq ?_ | refine r_seq ?_ | refine v_block ?_ | refine v_loop_none ?_ | refine v_cond_f rfl (df (by omega)) ?_ | refine v_exit ?_ | refine v_ret ?_ | refine v_skip ?_ | refine v_label ?_ | refine kh_normal ?_ | refine kh_exit ?_ | refine kh_ret ?_ | refine bh_normal ?_ | refine bh_exit ?_ | refine bh_ret ?_ | refine s_nil ?_ | refine mov evL ?_ | refine asg evL ?_ | refine slen rfl ?_ | refine lss rfl rfl ?_ | refine mkz (α := SliceV) (z := .slice none 0 0) (by kernel_rfl) rfl rfl rfl rfl rfl rfl omL omL omL omL (fun b => ?_))
  exact rh1 rfl rfl ⟨rfl, rfl⟩ (ent_nil _)
instance : TOne Tryz.prog 25 (.slice none 0 0) := ⟨fun w => by kernel_rfl, fun w => by kernel_rfl, fun w => by kernel_rfl, rfl⟩
instance : TSl Tryz.prog 56 115 1 24 := ⟨by kernel_rfl, by kernel_rfl⟩
instance : TEl Tryz.prog 115 1 24 := tel_of (z := .slice none 0 0) (by kernel_rfl) rfl (by omega)
instance : TOne Tryz.prog 56 (.slice none 0 0) := ⟨fun w => by kernel_rfl, fun w => by kernel_rfl, fun w => by kernel_rfl, rfl⟩
set_option maxRecDepth 100000 in
theorem flatTexts_none (w : World) : Ret Tryz.prog 42 [.slice none 0 0].toArray w (Out w (.bool true)) := by
  refine enterH Tryz.func42 rfl rfl Tryz.ntmps42 rfl (Wd.refl _) ?_
  repeat (first | refine v_seq ?_ | refine r_seq ?_ | refine v_block ?_ | refine v_loop_none ?_ | refine v_cond_f rfl (df (by omega)) ?_ | refine v_exit ?_ | refine v_ret ?_ | refine v_skip ?_ | refine v_label ?_ | refine kh_normal ?_ | refine kh_exit ?_ | refine kh_ret ?_ | refine bh_normal ?_ | refine bh_exit ?_ | refine bh_ret ?_ | refine s_nil ?_ | refine mov evL ?_ | refine asg evL ?_ | refine slen rfl ?_ | refine lss rfl rfl ?_ | refine mkz (α := SliceV) (z := .slice none 0 0) (by kernel_rfl) rfl rfl rfl rfl rfl rfl omL omL omL omL (fun b => ?_))
  exact rh1 rfl rfl ⟨rfl, rfl⟩ (ent_nil _)
instance : TSl Tryz.prog 57 117 1 24 := ⟨by kernel_rfl, by kernel_rfl⟩
instance : TEl Tryz.prog 117 1 24 := tel_of (z := .slice none 0 0) (by kernel_rfl) rfl (by omega)
instance : TOne Tryz.prog 57 (.slice none 0 0) := ⟨fun w => by kernel_rfl, fun w => by kernel_rfl, fun w => by kernel_rfl, rfl⟩
set_option maxRecDepth 100000 in
theorem flatBytes_none (w : World) : Ret Tryz.prog 43 [.slice none 0 0].toArray w (Out w (.bool true)) := by
  refine enterH Tryz.func43 rfl rfl Tryz.ntmps43 rfl (Wd.refl _) ?_
  repeat (first | refine v_seq ?_ | refine r_seq ?_ | refine v_block ?_ | refine v_loop_none ?_ | refine v_cond_f rfl (df (by omega)) ?_ | refine v_exit ?_ | refine v_ret ?_ | refine v_skip ?_ | refine v_label ?_ | refine kh_normal ?_ | refine kh_exit ?_ | refine kh_ret ?_ | refine bh_normal ?_ | refine bh_exit ?_ | refine bh_ret ?_ | refine s_nil ?_ | refine mov evL ?_ | refine asg evL ?_ | refine slen rfl ?_ | refine lss rfl rfl ?_ | refine mkz (α := SliceV) (z := .slice none 0 0) (by kernel_rfl) rfl rfl rfl rfl rfl rfl omL omL omL omL (fun b => ?_))
  exact rh1 rfl rfl ⟨rfl, rfl⟩ (ent_nil _)
instance : TSl Tryz.prog 58 119 1 24 := ⟨by kernel_rfl, by kernel_rfl⟩
instance : TEl Tryz.prog 119 1 24 := tel_of (z := .slice none 0 0) (by kernel_rfl) rfl (by omega)
instance : TOne Tryz.prog 58 (.slice none 0 0) := ⟨fun w => by kernel_rfl, fun w => by kernel_rfl, fun w => by kernel_rfl, rfl⟩
set_option maxRecDepth 100000 in
theorem flatComps_none (w : World) : Ret Tryz.prog 44 [.slice none 0 0].toArray w (Out w (.bool true)) := by
  refine enterH Tryz.func44 rfl rfl Tryz.ntmps44 rfl (Wd.refl _) ?_
  repeat (first | refine v_seq ?_ | refine r_seq ?_ | refine v_block ?_ | refine v_loop_none ?_ | refine v_cond_f rfl (df (by omega)) ?_ | refine v_exit ?_ | refine v_ret ?_ | refine v_skip ?_ | refine v_label ?_ | refine kh_normal ?_ | refine kh_exit ?_ | refine kh_ret ?_ | refine bh_normal ?_ | refine bh_exit ?_ | refine bh_ret ?_ | refine s_nil ?_ | refine mov evL ?_ | refine asg evL ?_ | refine slen rfl ?_ | refine lss rfl rfl ?_ | refine mkz (α := SliceV) (z := .slice none 0 0) (by kernel_rfl) rfl rfl rfl rfl rfl rfl omL omL omL omL (fun b => ?_))
  exact rh1 rfl rfl ⟨rfl, rfl⟩ (ent_nil _)
instance : TSl Tryz.prog 59 124 1 24 := ⟨by kernel_rfl, by kernel_rfl⟩
instance : TEl Tryz.prog 124 1 24 := tel_of (z := .slice none 0 0) (by kernel_rfl) rfl (by omega)
instance : TOne Tryz.prog 59 (.slice none 0 0) := ⟨fun w => by kernel_rfl, fun w => by kernel_rfl, fun w => by kernel_rfl, rfl⟩
set_option maxRecDepth 100000 in
theorem flatEntities_none (w : World) : Ret Tryz.prog 45 [.slice none 0 0].toArray w (Out w (.bool true)) := by
  refine enterH Tryz.func45 rfl rfl Tryz.ntmps45 rfl (Wd.refl _) ?_
  repeat (first | refine v_seq ?_ | refine r_seq ?_ | refine v_block ?_ | refine v_loop_none ?_ | refine v_cond_f rfl (df (by omega)) ?_ | refine v_exit ?_ | refine v_ret ?_ | refine v_skip ?_ | refine v_label ?_ | refine kh_normal ?_ | refine kh_exit ?_ | refine kh_ret ?_ | refine bh_normal ?_ | refine bh_exit ?_ | refine bh_ret ?_ | refine s_nil ?_ | refine mov evL ?_ | refine asg evL ?_ | refine slen rfl ?_ | refine lss rfl rfl ?_ | refine mkz (α := SliceV) (z := .slice none 0 0) (by kernel_rfl) rfl rfl rfl rfl rfl rfl omL omL omL omL (fun b => ?_))
  exact rh1 rfl rfl ⟨rfl, rfl⟩ (ent_nil _)
instance : TSl Tryz.prog 60 129 1 24 := ⟨by kernel_rfl, by kernel_rfl⟩
instance : TEl Tryz.prog 129 1 24 := tel_of (z := .slice none 0 0) (by kernel_rfl) rfl (by omega)
instance : TOne Tryz.prog 60 (.slice none 0 0) := ⟨fun w => by kernel_rfl, fun w => by kernel_rfl, fun w => by kernel_rfl, rfl⟩
set_option maxRecDepth 100000 in
theorem flatWorlds_none (w : World) : Ret Tryz.prog 46 [.slice none 0 0].toArray w (Out w (.bool true)) := by
  refine enterH Tryz.func46 rfl rfl Tryz.ntmps46 rfl (Wd.refl _) ?_
  repeat (first | refine v_seq ?_ | refine r_seq ?_ | refine v_block ?_ | refine v_loop_none ?_ | refine v_cond_f rfl (df (by omega)) ?_ | refine v_exit ?_ | refine v_ret ?_ | refine v_skip ?_ | refine v_label ?_ | refine kh_normal ?_ | refine kh_exit ?_ | refine kh_ret ?_ | refine bh_normal ?_ | refine bh_exit ?_ | refine bh_ret ?_ | refine s_nil ?_ | refine mov evL ?_ | refine asg evL ?_ | refine slen rfl ?_ | refine lss rfl rfl ?_ | refine mkz (α := SliceV) (z := .slice none 0 0) (by kernel_rfl) rfl rfl rfl rfl rfl rfl omL omL omL omL (fun b => ?_))
  exact rh1 rfl rfl ⟨rfl, rfl⟩ (ent_nil _)
instance : TSl Tryz.prog 61 134 1 24 := ⟨by kernel_rfl, by kernel_rfl⟩
instance : TEl Tryz.prog 134 1 24 := tel_of (z := .slice none 0 0) (by kernel_rfl) rfl (by omega)
instance : TOne Tryz.prog 61 (.slice none 0 0) := ⟨fun w => by kernel_rfl, fun w => by kernel_rfl, fun w => by kernel_rfl, rfl⟩
set_option maxRecDepth 100000 in
theorem flatVecs_none (w : World) : Ret Tryz.prog 47 [.slice none 0 0].toArray w (Out w (.bool true)) := by
  refine enterH Tryz.func47 rfl rfl Tryz.ntmps47 rfl (Wd.refl _) ?_
  repeat (first | refine v_seq ?_ | refine r_seq ?_ | refine v_block ?_ | refine v_loop_none ?_ | refine v_cond_f rfl (df (by omega)) ?_ | refine v_exit ?_ | refine v_ret ?_ | refine v_skip ?_ | refine v_label ?_ | refine kh_normal ?_ | refine kh_exit ?_ | refine kh_ret ?_ | refine bh_normal ?_ | refine bh_exit ?_ | refine bh_ret ?_ | refine s_nil ?_ | refine mov evL ?_ | refine asg evL ?_ | refine slen rfl ?_ | refine lss rfl rfl ?_ | refine mkz (α := SliceV) (z := .slice none 0 0) (by kernel_rfl) rfl rfl rfl rfl rfl rfl omL omL omL omL (fun b => ?_))
  exact rh1 rfl rfl ⟨rfl, rfl⟩ (ent_nil _)
instance : TSl Tryz.prog 62 138 1 24 := ⟨by kernel_rfl, by kernel_rfl⟩
instance : TEl Tryz.prog 138 1 24 := tel_of (z := .slice none 0 0) (by kernel_rfl) rfl (by omega)
instance : TOne Tryz.prog 62 (.slice none 0 0) := ⟨fun w => by kernel_rfl, fun w => by kernel_rfl, fun w => by kernel_rfl, rfl⟩
set_option maxRecDepth 100000 in
theorem flatBodies_none (w : World) : Ret Tryz.prog 48 [.slice none 0 0].toArray w (Out w (.bool true)) := by
  refine enterH Tryz.func48 rfl rfl Tryz.ntmps48 rfl (Wd.refl _) ?_
  repeat (first | refine v_seq ?_ | refine r_seq ?_ | refine v_block ?_ | refine v_loop_none ?_ | refine v_cond_f rfl (df (by omega)) ?_ | refine v_exit ?_ | refine v_ret ?_ | refine v_skip ?_ | refine v_label ?_ | refine kh_normal ?_ | refine kh_exit ?_ | refine kh_ret ?_ | refine bh_normal ?_ | refine bh_exit ?_ | refine bh_ret ?_ | refine s_nil ?_ | refine mov evL ?_ | refine asg evL ?_ | refine slen rfl ?_ | refine lss rfl rfl ?_ | refine mkz (α := SliceV) (z := .slice none 0 0) (by kernel_rfl) rfl rfl rfl rfl rfl rfl omL omL omL omL (fun b => ?_))
  exact rh1 rfl rfl ⟨rfl, rfl⟩ (ent_nil _)
instance : TSl Tryz.prog 63 142 1 24 := ⟨by kernel_rfl, by kernel_rfl⟩
instance : TEl Tryz.prog 142 1 24 := tel_of (z := .slice none 0 0) (by kernel_rfl) rfl (by omega)
instance : TOne Tryz.prog 63 (.slice none 0 0) := ⟨fun w => by kernel_rfl, fun w => by kernel_rfl, fun w => by kernel_rfl, rfl⟩
set_option maxRecDepth 100000 in
theorem flatSystems_none (w : World) : Ret Tryz.prog 49 [.slice none 0 0].toArray w (Out w (.bool true)) := by
  refine enterH Tryz.func49 rfl rfl Tryz.ntmps49 rfl (Wd.refl _) ?_
  repeat (first | refine v_seq ?_ | refine r_seq ?_ | refine v_block ?_ | refine v_loop_none ?_ | refine v_cond_f rfl (df (by omega)) ?_ | refine v_exit ?_ | refine v_ret ?_ | refine v_skip ?_ | refine v_label ?_ | refine kh_normal ?_ | refine kh_exit ?_ | refine kh_ret ?_ | refine bh_normal ?_ | refine bh_exit ?_ | refine bh_ret ?_ | refine s_nil ?_ | refine mov evL ?_ | refine asg evL ?_ | refine slen rfl ?_ | refine lss rfl rfl ?_ | refine mkz (α := SliceV) (z := .slice none 0 0) (by kernel_rfl) rfl rfl rfl rfl rfl rfl omL omL omL omL (fun b => ?_))
  exact rh1 rfl rfl ⟨rfl, rfl⟩ (ent_nil _)
instance : TSl Tryz.prog 64 147 1 24 := ⟨by kernel_rfl, by kernel_rfl⟩
instance : TEl Tryz.prog 147 1 24 := tel_of (z := .slice none 0 0) (by kernel_rfl) rfl (by omega)
instance : TOne Tryz.prog 64 (.slice none 0 0) := ⟨fun w => by kernel_rfl, fun w => by kernel_rfl, fun w => by kernel_rfl, rfl⟩
set_option maxRecDepth 100000 in
theorem flatInputs_none (w : World) : Ret Tryz.prog 50 [.slice none 0 0].toArray w (Out w (.bool true)) := by
  refine enterH Tryz.func50 rfl rfl Tryz.ntmps50 rfl (Wd.refl _) ?_
  repeat (first | refine v_seq ?_ | refine r_seq ?_ | refine v_block ?_ | refine v_loop_none ?_ | refine v_cond_f rfl (df (by omega)) ?_ | refine v_exit ?_ | refine v_ret ?_ | refine v_skip ?_ | refine v_label ?_ | refine kh_normal ?_ | refine kh_exit ?_ | refine kh_ret ?_ | refine bh_normal ?_ | refine bh_exit ?_ | refine bh_ret ?_ | refine s_nil ?_ | refine mov evL ?_ | refine asg evL ?_ | refine slen rfl ?_ | refine lss rfl rfl ?_ | refine mkz (α := SliceV) (z := .slice none 0 0) (by kernel_rfl) rfl rfl rfl rfl rfl rfl omL omL omL omL (fun b => ?_))
  exact rh1 rfl rfl ⟨rfl, rfl⟩ (ent_nil _)
instance : TSl Tryz.prog 65 151 1 24 := ⟨by kernel_rfl, by kernel_rfl⟩
instance : TEl Tryz.prog 151 1 24 := tel_of (z := .slice none 0 0) (by kernel_rfl) rfl (by omega)
instance : TOne Tryz.prog 65 (.slice none 0 0) := ⟨fun w => by kernel_rfl, fun w => by kernel_rfl, fun w => by kernel_rfl, rfl⟩
set_option maxRecDepth 100000 in
theorem flatAreas_none (w : World) : Ret Tryz.prog 51 [.slice none 0 0].toArray w (Out w (.bool true)) := by
  refine enterH Tryz.func51 rfl rfl Tryz.ntmps51 rfl (Wd.refl _) ?_
  repeat (first | refine v_seq ?_ | refine r_seq ?_ | refine v_block ?_ | refine v_loop_none ?_ | refine v_cond_f rfl (df (by omega)) ?_ | refine v_exit ?_ | refine v_ret ?_ | refine v_skip ?_ | refine v_label ?_ | refine kh_normal ?_ | refine kh_exit ?_ | refine kh_ret ?_ | refine bh_normal ?_ | refine bh_exit ?_ | refine bh_ret ?_ | refine s_nil ?_ | refine mov evL ?_ | refine asg evL ?_ | refine slen rfl ?_ | refine lss rfl rfl ?_ | refine mkz (α := SliceV) (z := .slice none 0 0) (by kernel_rfl) rfl rfl rfl rfl rfl rfl omL omL omL omL (fun b => ?_))
  exact rh1 rfl rfl ⟨rfl, rfl⟩ (ent_nil _)
instance : TSl Tryz.prog 66 155 1 24 := ⟨by kernel_rfl, by kernel_rfl⟩
instance : TEl Tryz.prog 155 1 24 := tel_of (z := .slice none 0 0) (by kernel_rfl) rfl (by omega)
instance : TOne Tryz.prog 66 (.slice none 0 0) := ⟨fun w => by kernel_rfl, fun w => by kernel_rfl, fun w => by kernel_rfl, rfl⟩
set_option maxRecDepth 100000 in
theorem flatPairs_none (w : World) : Ret Tryz.prog 52 [.slice none 0 0].toArray w (Out w (.bool true)) := by
  refine enterH Tryz.func52 rfl rfl Tryz.ntmps52 rfl (Wd.refl _) ?_
  repeat (first | refine v_seq ?_ | refine r_seq ?_ | refine v_block ?_ | refine v_loop_none ?_ | refine v_cond_f rfl (df (by omega)) ?_ | refine v_exit ?_ | refine v_ret ?_ | refine v_skip ?_ | refine v_label ?_ | refine kh_normal ?_ | refine kh_exit ?_ | refine kh_ret ?_ | refine bh_normal ?_ | refine bh_exit ?_ | refine bh_ret ?_ | refine s_nil ?_ | refine mov evL ?_ | refine asg evL ?_ | refine slen rfl ?_ | refine lss rfl rfl ?_ | refine mkz (α := SliceV) (z := .slice none 0 0) (by kernel_rfl) rfl rfl rfl rfl rfl rfl omL omL omL omL (fun b => ?_))
  exact rh1 rfl rfl ⟨rfl, rfl⟩ (ent_nil _)
instance : TSl Tryz.prog 67 159 1 24 := ⟨by kernel_rfl, by kernel_rfl⟩
instance : TEl Tryz.prog 159 1 24 := tel_of (z := .slice none 0 0) (by kernel_rfl) rfl (by omega)
instance : TOne Tryz.prog 67 (.slice none 0 0) := ⟨fun w => by kernel_rfl, fun w => by kernel_rfl, fun w => by kernel_rfl, rfl⟩
set_option maxRecDepth 100000 in
theorem flatRopes_none (w : World) : Ret Tryz.prog 53 [.slice none 0 0].toArray w (Out w (.bool true)) := by
  refine enterH Tryz.func53 rfl rfl Tryz.ntmps53 rfl (Wd.refl _) ?_
  repeat (first | refine v_seq ?_ | refine r_seq ?_ | refine v_block ?_ | refine v_loop_none ?_ | refine v_cond_f rfl (df (by omega)) ?_ | refine v_exit ?_ | refine v_ret ?_ | refine v_skip ?_ | refine v_label ?_ | refine kh_normal ?_ | refine kh_exit ?_ | refine kh_ret ?_ | refine bh_normal ?_ | refine bh_exit ?_ | refine bh_ret ?_ | refine s_nil ?_ | refine mov evL ?_ | refine asg evL ?_ | refine slen rfl ?_ | refine lss rfl rfl ?_ | refine mkz (α := SliceV) (z := .slice none 0 0) (by kernel_rfl) rfl rfl rfl rfl rfl rfl omL omL omL omL (fun b => ?_))
  exact rh1 rfl rfl ⟨rfl, rfl⟩ (ent_nil _)
instance : TSl Tryz.prog 68 163 1 24 := ⟨by kernel_rfl, by kernel_rfl⟩
instance : TEl Tryz.prog 163 1 24 := tel_of (z := .slice none 0 0) (by kernel_rfl) rfl (by omega)
instance : TOne Tryz.prog 68 (.slice none 0 0) := ⟨fun w => by kernel_rfl, fun w => by kernel_rfl, fun w => by kernel_rfl, rfl⟩
set_option maxRecDepth 100000 in
theorem flatExprs_none (w : World) : Ret Tryz.prog 54 [.slice none 0 0].toArray w (Out w (.bool true)) := by
  refine enterH Tryz.func54 rfl rfl Tryz.ntmps54 rfl (Wd.refl _) ?_
  repeat (first | refine v_seq ?_ | refine r_seq ?_ | refine v_block ?_ | refine v_loop_none ?_ | refine v_cond_f rfl (df (by omega)) ?_ | refine v_exit ?_ | refine v_ret ?_ | refine v_skip ?_ | refine v_label ?_ | refine kh_normal ?_ | refine kh_exit ?_ | refine kh_ret ?_ | refine bh_normal ?_ | refine bh_exit ?_ | refine bh_ret ?_ | refine s_nil ?_ | refine mov evL ?_ | refine asg evL ?_ | refine slen rfl ?_ | refine lss rfl rfl ?_ | refine mkz (α := SliceV) (z := .slice none 0 0) (by kernel_rfl) rfl rfl rfl rfl rfl rfl omL omL omL omL (fun b => ?_))
  exact rh1 rfl rfl ⟨rfl, rfl⟩ (ent_nil _)
instance : TSl Tryz.prog 69 168 1 24 := ⟨by kernel_rfl, by kernel_rfl⟩
instance : TEl Tryz.prog 168 1 24 := tel_of (z := .slice none 0 0) (by kernel_rfl) rfl (by omega)
instance : TOne Tryz.prog 69 (.slice none 0 0) := ⟨fun w => by kernel_rfl, fun w => by kernel_rfl, fun w => by kernel_rfl, rfl⟩
set_option maxRecDepth 100000 in
theorem flatStmts_none (w : World) : Ret Tryz.prog 55 [.slice none 0 0].toArray w (Out w (.bool true)) := by
  refine enterH Tryz.func55 rfl rfl Tryz.ntmps55 rfl (Wd.refl _) ?_
  repeat (first | refine v_seq ?_ | refine r_seq ?_ | refine v_block ?_ | refine v_loop_none ?_ | refine v_cond_f rfl (df (by omega)) ?_ | refine v_exit ?_ | refine v_ret ?_ | refine v_skip ?_ | refine v_label ?_ | refine kh_normal ?_ | refine kh_exit ?_ | refine kh_ret ?_ | refine bh_normal ?_ | refine bh_exit ?_ | refine bh_ret ?_ | refine s_nil ?_ | refine mov evL ?_ | refine asg evL ?_ | refine slen rfl ?_ | refine lss rfl rfl ?_ | refine mkz (α := SliceV) (z := .slice none 0 0) (by kernel_rfl) rfl rfl rfl rfl rfl rfl omL omL omL omL (fun b => ?_))
  exact rh1 rfl rfl ⟨rfl, rfl⟩ (ent_nil _)
instance : TSl Tryz.prog 70 173 1 24 := ⟨by kernel_rfl, by kernel_rfl⟩
instance : TEl Tryz.prog 173 1 24 := tel_of (z := .slice none 0 0) (by kernel_rfl) rfl (by omega)
instance : TOne Tryz.prog 70 (.slice none 0 0) := ⟨fun w => by kernel_rfl, fun w => by kernel_rfl, fun w => by kernel_rfl, rfl⟩
set_option maxRecDepth 100000 in
theorem flatScenes_none (w : World) : Ret Tryz.prog 56 [.slice none 0 0].toArray w (Out w (.bool true)) := by
  refine enterH Tryz.func56 rfl rfl Tryz.ntmps56 rfl (Wd.refl _) ?_
  repeat (first | refine v_seq ?_ | refine r_seq ?_ | refine v_block ?_ | refine v_loop_none ?_ | refine v_cond_f rfl (df (by omega)) ?_ | refine v_exit ?_ | refine v_ret ?_ | refine v_skip ?_ | refine v_label ?_ | refine kh_normal ?_ | refine kh_exit ?_ | refine kh_ret ?_ | refine bh_normal ?_ | refine bh_exit ?_ | refine bh_ret ?_ | refine s_nil ?_ | refine mov evL ?_ | refine asg evL ?_ | refine slen rfl ?_ | refine lss rfl rfl ?_ | refine mkz (α := SliceV) (z := .slice none 0 0) (by kernel_rfl) rfl rfl rfl rfl rfl rfl omL omL omL omL (fun b => ?_))
  exact rh1 rfl rfl ⟨rfl, rfl⟩ (ent_nil _)
instance : TSl Tryz.prog 71 178 1 24 := ⟨by kernel_rfl, by kernel_rfl⟩
instance : TEl Tryz.prog 178 1 24 := tel_of (z := .slice none 0 0) (by kernel_rfl) rfl (by omega)
instance : TOne Tryz.prog 71 (.slice none 0 0) := ⟨fun w => by kernel_rfl, fun w => by kernel_rfl, fun w => by kernel_rfl, rfl⟩
set_option maxRecDepth 100000 in
theorem flatStops_none (w : World) : Ret Tryz.prog 57 [.slice none 0 0].toArray w (Out w (.bool true)) := by
  refine enterH Tryz.func57 rfl rfl Tryz.ntmps57 rfl (Wd.refl _) ?_
  repeat (first | refine v_seq ?_ | refine r_seq ?_ | refine v_block ?_ | refine v_loop_none ?_ | refine v_cond_f rfl (df (by omega)) ?_ | refine v_exit ?_ | refine v_ret ?_ | refine v_skip ?_ | refine v_label ?_ | refine kh_normal ?_ | refine kh_exit ?_ | refine kh_ret ?_ | refine bh_normal ?_ | refine bh_exit ?_ | refine bh_ret ?_ | refine s_nil ?_ | refine mov evL ?_ | refine asg evL ?_ | refine slen rfl ?_ | refine lss rfl rfl ?_ | refine mkz (α := SliceV) (z := .slice none 0 0) (by kernel_rfl) rfl rfl rfl rfl rfl rfl omL omL omL omL (fun b => ?_))
  exact rh1 rfl rfl ⟨rfl, rfl⟩ (ent_nil _)
instance : TSl Tryz.prog 72 182 1 24 := ⟨by kernel_rfl, by kernel_rfl⟩
instance : TEl Tryz.prog 182 1 24 := tel_of (z := .slice none 0 0) (by kernel_rfl) rfl (by omega)
instance : TOne Tryz.prog 72 (.slice none 0 0) := ⟨fun w => by kernel_rfl, fun w => by kernel_rfl, fun w => by kernel_rfl, rfl⟩
set_option maxRecDepth 100000 in
theorem flatPortals_none (w : World) : Ret Tryz.prog 58 [.slice none 0 0].toArray w (Out w (.bool true)) := by
  refine enterH Tryz.func58 rfl rfl Tryz.ntmps58 rfl (Wd.refl _) ?_
  repeat (first | refine v_seq ?_ | refine r_seq ?_ | refine v_block ?_ | refine v_loop_none ?_ | refine v_cond_f rfl (df (by omega)) ?_ | refine v_exit ?_ | refine v_ret ?_ | refine v_skip ?_ | refine v_label ?_ | refine kh_normal ?_ | refine kh_exit ?_ | refine kh_ret ?_ | refine bh_normal ?_ | refine bh_exit ?_ | refine bh_ret ?_ | refine s_nil ?_ | refine mov evL ?_ | refine asg evL ?_ | refine slen rfl ?_ | refine lss rfl rfl ?_ | refine mkz (α := SliceV) (z := .slice none 0 0) (by kernel_rfl) rfl rfl rfl rfl rfl rfl omL omL omL omL (fun b => ?_))
  exact rh1 rfl rfl ⟨rfl, rfl⟩ (ent_nil _)
instance : TSl Tryz.prog 73 186 1 24 := ⟨by kernel_rfl, by kernel_rfl⟩
instance : TEl Tryz.prog 186 1 24 := tel_of (z := .slice none 0 0) (by kernel_rfl) rfl (by omega)
instance : TOne Tryz.prog 73 (.slice none 0 0) := ⟨fun w => by kernel_rfl, fun w => by kernel_rfl, fun w => by kernel_rfl, rfl⟩
set_option maxRecDepth 100000 in
theorem flatStores_none (w : World) : Ret Tryz.prog 59 [.slice none 0 0].toArray w (Out w (.bool true)) := by
  refine enterH Tryz.func59 rfl rfl Tryz.ntmps59 rfl (Wd.refl _) ?_
  repeat (first | refine v_seq ?_ | refine r_seq ?_ | refine v_block ?_ | refine v_loop_none ?_ | refine v_cond_f rfl (df (by omega)) ?_ | refine v_exit ?_ | refine v_ret ?_ | refine v_skip ?_ | refine v_label ?_ | refine kh_normal ?_ | refine kh_exit ?_ | refine kh_ret ?_ | refine bh_normal ?_ | refine bh_exit ?_ | refine bh_ret ?_ | refine s_nil ?_ | refine mov evL ?_ | refine asg evL ?_ | refine slen rfl ?_ | refine lss rfl rfl ?_ | refine mkz (α := SliceV) (z := .slice none 0 0) (by kernel_rfl) rfl rfl rfl rfl rfl rfl omL omL omL omL (fun b => ?_))
  exact rh1 rfl rfl ⟨rfl, rfl⟩ (ent_nil _)
instance : TFld Tryz.prog 75 0 0 := tfld_of 0 Tryz.underlying75 rfl rfl (fun w => by kernel_rfl)
instance : TFlv Tryz.prog 75 0 0 := tflv_of Tryz.underlying75 rfl rfl (fun w => by kernel_rfl)
instance : TFld Tryz.prog 75 1 1 := tfld_of 0 Tryz.underlying75 rfl rfl (fun w => by kernel_rfl)
instance : TFlv Tryz.prog 75 1 1 := tflv_of Tryz.underlying75 rfl rfl (fun w => by kernel_rfl)
instance : TFld Tryz.prog 75 2 2 := tfld_of 0 Tryz.underlying75 rfl rfl (fun w => by kernel_rfl)
instance : TFlv Tryz.prog 75 2 2 := tflv_of Tryz.underlying75 rfl rfl (fun w => by kernel_rfl)
instance : TFld Tryz.prog 75 3 3 := tfld_of 0 Tryz.underlying75 rfl rfl (fun w => by kernel_rfl)
instance : TFlv Tryz.prog 75 3 3 := tflv_of Tryz.underlying75 rfl rfl (fun w => by kernel_rfl)
instance : TFld Tryz.prog 75 4 4 := tfld_of 0 Tryz.underlying75 rfl rfl (fun w => by kernel_rfl)
instance : TFlv Tryz.prog 75 4 4 := tflv_of Tryz.underlying75 rfl rfl (fun w => by kernel_rfl)
instance : TFld Tryz.prog 75 5 5 := tfld_of 0 Tryz.underlying75 rfl rfl (fun w => by kernel_rfl)
instance : TFlv Tryz.prog 75 5 5 := tflv_of Tryz.underlying75 rfl rfl (fun w => by kernel_rfl)
instance : TFld Tryz.prog 75 6 6 := tfld_of 0 Tryz.underlying75 rfl rfl (fun w => by kernel_rfl)
instance : TFlv Tryz.prog 75 6 6 := tflv_of Tryz.underlying75 rfl rfl (fun w => by kernel_rfl)
instance : TFld Tryz.prog 75 7 7 := tfld_of 0 Tryz.underlying75 rfl rfl (fun w => by kernel_rfl)
instance : TFlv Tryz.prog 75 7 7 := tflv_of Tryz.underlying75 rfl rfl (fun w => by kernel_rfl)
instance : TFld Tryz.prog 75 8 8 := tfld_of 0 Tryz.underlying75 rfl rfl (fun w => by kernel_rfl)
instance : TFlv Tryz.prog 75 8 8 := tflv_of Tryz.underlying75 rfl rfl (fun w => by kernel_rfl)
instance : TFld Tryz.prog 75 9 9 := tfld_of 0 Tryz.underlying75 rfl rfl (fun w => by kernel_rfl)
instance : TFlv Tryz.prog 75 9 9 := tflv_of Tryz.underlying75 rfl rfl (fun w => by kernel_rfl)
instance : TFld Tryz.prog 75 10 10 := tfld_of 0 Tryz.underlying75 rfl rfl (fun w => by kernel_rfl)
instance : TFlv Tryz.prog 75 10 10 := tflv_of Tryz.underlying75 rfl rfl (fun w => by kernel_rfl)
instance : TFld Tryz.prog 75 11 11 := tfld_of 0 Tryz.underlying75 rfl rfl (fun w => by kernel_rfl)
instance : TFlv Tryz.prog 75 11 11 := tflv_of Tryz.underlying75 rfl rfl (fun w => by kernel_rfl)
instance : TFld Tryz.prog 75 12 12 := tfld_of 0 Tryz.underlying75 rfl rfl (fun w => by kernel_rfl)
instance : TFlv Tryz.prog 75 12 12 := tflv_of Tryz.underlying75 rfl rfl (fun w => by kernel_rfl)
instance : TFld Tryz.prog 75 13 13 := tfld_of 0 Tryz.underlying75 rfl rfl (fun w => by kernel_rfl)
instance : TFlv Tryz.prog 75 13 13 := tflv_of Tryz.underlying75 rfl rfl (fun w => by kernel_rfl)
instance : TFld Tryz.prog 75 14 14 := tfld_of 0 Tryz.underlying75 rfl rfl (fun w => by kernel_rfl)
instance : TFlv Tryz.prog 75 14 14 := tflv_of Tryz.underlying75 rfl rfl (fun w => by kernel_rfl)
instance : TFld Tryz.prog 75 15 15 := tfld_of 0 Tryz.underlying75 rfl rfl (fun w => by kernel_rfl)
instance : TFlv Tryz.prog 75 15 15 := tflv_of Tryz.underlying75 rfl rfl (fun w => by kernel_rfl)
instance : TFld Tryz.prog 75 16 16 := tfld_of 0 Tryz.underlying75 rfl rfl (fun w => by kernel_rfl)
instance : TFlv Tryz.prog 75 16 16 := tflv_of Tryz.underlying75 rfl rfl (fun w => by kernel_rfl)
instance : TFld Tryz.prog 75 17 17 := tfld_of 0 Tryz.underlying75 rfl rfl (fun w => by kernel_rfl)
instance : TFlv Tryz.prog 75 17 17 := tflv_of Tryz.underlying75 rfl rfl (fun w => by kernel_rfl)
instance : TFld Tryz.prog 75 18 18 := tfld_of 0 Tryz.underlying75 rfl rfl (fun w => by kernel_rfl)
instance : TFlv Tryz.prog 75 18 18 := tflv_of Tryz.underlying75 rfl rfl (fun w => by kernel_rfl)
instance : TFld Tryz.prog 75 19 19 := tfld_of 0 Tryz.underlying75 rfl rfl (fun w => by kernel_rfl)
instance : TFlv Tryz.prog 75 19 19 := tflv_of Tryz.underlying75 rfl rfl (fun w => by kernel_rfl)

instance : TSt Tryz.prog 75 20 [.slice none 0 0, .slice none 0 0, .slice none 0 0, .slice none 0 0, .slice none 0 0, .slice none 0 0, .slice none 0 0, .slice none 0 0, .slice none 0 0, .slice none 0 0, .slice none 0 0, .slice none 0 0, .slice none 0 0, .slice none 0 0, .slice none 0 0, .slice none 0 0, .slice none 0 0, .slice none 0 0, .slice none 0 0, .slice none 0 0] := tst_of Tryz.underlying75 (fun w => by kernel_rfl) (fun w => by kernel_rfl) rfl
def bagC (v : Value) : List Value := [.slice none 0 0, v, .slice none 0 0, .slice none 0 0, .slice none 0 0, .slice none 0 0, .slice none 0 0, .slice none 0 0, .slice none 0 0, .slice none 0 0, .slice none 0 0, .slice none 0 0, .slice none 0 0, .slice none 0 0, .slice none 0 0, .slice none 0 0, .slice none 0 0, .slice none 0 0, .slice none 0 0, .slice none 0 0]
set_option maxRecDepth 100000 in
theorem putInts_spec (b : Nat) (A A1 : Option Addr) (c m c1 : Nat) (sl : List SliceV) (w0 : World) (H : List HP) (w : World) (hn : sl.length ≤ 100000) (hw : Wd w0 (bx b 75 (bagC (.slice A sl.length c)) :: orow 22 A c sl :: H) w) :
    Ret Tryz.prog 32 [.pointer (some ⟨b, 0, none⟩), .slice A1 m c1].toArray w (RP w0 fun v H' => v = .tuple #[] ∧ ∃ A' c', H' = bx b 75 (bagC (.slice A' (sl ++ [(⟨A1, m, c1⟩ : SliceV)]).length c')) :: orow 22 A' c' (sl ++ [(⟨A1, m, c1⟩ : SliceV)]) :: H) := by
  unfold bagC at hw
  refine enterH Tryz.func32 rfl rfl Tryz.ntmps32 rfl (by assumption) ?_
  (repeat' (first | (show VH _ _ _ _ _ _ _; first | refine v_seq ?_ | refine r_seq ?_ | refine r_quiet hmix (by kernel_rfl) ?_ | refine v_block ?_ | refine v_ret ?_ | refine v_skip ?_ | refine v_exit ?_ | refine v_label ?_ | refine v_cond_t rfl tbL ?_ | refine v_cond_f rfl tbL ?_ | refine v_cond_dec rfl (fun h => ?_) (fun h => ?_) | refine v_cond_ndec rfl (fun h => ?_) (fun h => ?_) | refine v_cond rfl (fun h => ?_) (fun h => ?_)) | (show SH _ _ _ _ _ (_ :: _) _ _ _; first | (show SH _ _ _ _ _ (⟨_, .move _, _, _, _, _⟩ :: _) _ _ _; first | refine mov evL ?_) | (show SH _ _ _ _ _ (⟨_, .load _ _, _, _, _, _⟩ :: _) _ _ _; first | refine lsl rfl (fun _ _ => rdL) omL (by assumption) ?_ | refine lin rfl (fun _ _ => rdL) omL ?_ | refine lbx rfl spL (by rfl) ?_ | refine lba rfl spL (by rfl) ?_ | refine lbi rfl spL omL ?_ | refine lr1 rfl (fun _ _ => rdL) (by rfl) omL (by rfl) ?_ | refine lra rfl (fun _ _ => rdL) (by rfl) omL ?_ | refine lrf rfl (fun _ _ => rdL) (by rfl) omL (by rfl) ?_ | refine lcell rfl (fun w hw => hw.ext.cell (by assumption)) ?_) | refine nlc rfl ?_ | refine fad rfl ?_ | refine stb rfl rfl evL spL rfl rfl (by first | decide | exact Nat.zero_lt_succ _ | exact of_decide_eq_true rfl) kpL ?_ | refine sta rfl rfl rfl spL (by rfl) (by rfl) (by rfl) kpL ?_ | refine sti rfl rfl rfl spL omL kpL ?_ | refine sbi rfl rfl rfl spL omL kpL ?_ | refine bsl (α := Int) rfl rfl (by repeat (first | exact Vals.nil | (apply Vals.cons; rfl))) rfl (by rfl) (by decide) (fun b => ?_)) | refine s_nil ?_ | refine kh_normal ?_ | refine kh_ret ?_ | refine kh_exit ?_ | refine bh_normal ?_ | refine bh_ret ?_ | refine bh_exit ?_ | refine bh_exit_ne rfl ?_))
  refine bsl (l := [(⟨A1, m, c1⟩ : SliceV)]) rfl rfl (Vals.cons rfl Vals.nil) rfl rfl (by decide) (fun b2 => ?_)
  refine app rfl rfl rfl spL (fun w hw => hw.rd spL) rfl rfl rfl (by simp only [List.length_cons, List.length_nil]; omega) (by simp only [List.length_cons, List.length_nil]; omega) (fun A' cp' => ⟨trivial, ?_⟩)
  (repeat' (first | (show VH _ _ _ _ _ _ _; first | refine v_seq ?_ | refine r_seq ?_ | refine r_quiet hmix (by kernel_rfl) ?_ | refine v_block ?_ | refine v_ret ?_ | refine v_skip ?_ | refine v_exit ?_ | refine v_label ?_ | refine v_cond_t rfl tbL ?_ | refine v_cond_f rfl tbL ?_ | refine v_cond_dec rfl (fun h => ?_) (fun h => ?_) | refine v_cond_ndec rfl (fun h => ?_) (fun h => ?_) | refine v_cond rfl (fun h => ?_) (fun h => ?_)) | (show SH _ _ _ _ _ (_ :: _) _ _ _; first | (show SH _ _ _ _ _ (⟨_, .move _, _, _, _, _⟩ :: _) _ _ _; first | refine mov evL ?_) | (show SH _ _ _ _ _ (⟨_, .load _ _, _, _, _, _⟩ :: _) _ _ _; first | refine lsl rfl (fun _ _ => rdL) omL (by assumption) ?_ | refine lin rfl (fun _ _ => rdL) omL ?_ | refine lbx rfl spL (by rfl) ?_ | refine lba rfl spL (by rfl) ?_ | refine lbi rfl spL omL ?_ | refine lr1 rfl (fun _ _ => rdL) (by rfl) omL (by rfl) ?_ | refine lra rfl (fun _ _ => rdL) (by rfl) omL ?_ | refine lrf rfl (fun _ _ => rdL) (by rfl) omL (by rfl) ?_ | refine lcell rfl (fun w hw => hw.ext.cell (by assumption)) ?_) | refine nlc rfl ?_ | refine fad rfl ?_ | refine stb rfl rfl evL spL rfl rfl (by first | decide | exact Nat.zero_lt_succ _ | exact of_decide_eq_true rfl) kpL ?_ | refine sta rfl rfl rfl spL (by rfl) (by rfl) (by rfl) kpL ?_ | refine sti rfl rfl rfl spL omL kpL ?_ | refine sbi rfl rfl rfl spL omL kpL ?_ | refine bsl (α := Int) rfl rfl (by repeat (first | exact Vals.nil | (apply Vals.cons; rfl))) rfl (by rfl) (by decide) (fun b => ?_)) | refine s_nil ?_ | refine kh_normal ?_ | refine kh_ret ?_ | refine kh_exit ?_ | refine bh_normal ?_ | refine bh_ret ?_ | refine bh_exit ?_ | refine bh_exit_ne rfl ?_))
  exact rh0n rfl ⟨rfl, A', cp', rfl⟩ (by unfold bagC; (repeat (first | exact ent_refl _ | exact ent_nil _ | refine ent_nilrow ?_ | refine ent_cons spL ?_ | refine ent_drop ?_)))
theorem ent_maps_push {ι : Type} {f : ι → HP} {X : HP} {H : List HP} : ∀ (L : List ι), Ent (X :: (L.map f ++ H)) (L.map f ++ X :: H)
  | [] => ent_refl _
  | _ :: L => ent_cons (Split.tail Split.head) (ent_maps_push L)
set_option maxHeartbeats 4000000 in
set_option maxRecDepth 100000 in
theorem bagApart_spec (b : Nat) (A : Option Addr) (c : Nat) (rs : List RowI) (w0 : World) (H : List HP) (w : World) (hn : rs.length ≤ 100000) (hll : ∀ r ∈ rs.map slv, r.m ≤ 1000000)
    (hw : Wd w0 (bx b 75 (bagC (.slice A rs.length c)) :: orow 22 A c (rs.map slv) :: (rs.map rowP ++ H)) w) :
    Ret Tryz.prog 33 [.pointer (some ⟨b, 0, none⟩)].toArray w (RP w0 fun v H' => v = .bool true ∧ H' = H) := by
  unfold bagC at hw
  refine enterH Tryz.func33 rfl rfl Tryz.ntmps33 rfl (by assumption) ?_
  (repeat' (first | (show VH _ _ _ _ _ _ _; first | refine v_seq ?_ | refine r_seq ?_ | refine r_quiet hmix (by kernel_rfl) ?_ | refine v_block ?_ | refine v_ret ?_ | refine v_skip ?_ | refine v_exit ?_ | refine v_label ?_ | refine v_cond_t rfl tbL ?_ | refine v_cond_f rfl tbL ?_ | refine v_cond_dec rfl (fun h => ?_) (fun h => ?_) | refine v_cond_ndec rfl (fun h => ?_) (fun h => ?_) | refine v_cond rfl (fun h => ?_) (fun h => ?_)) | (show SH _ _ _ _ _ (_ :: _) _ _ _; first | (show SH _ _ _ _ _ (⟨_, _, _, _, _, some _⟩ :: _) _ _ _; first | refine grT rfl rfl tbL ?_ | refine gpT rfl rfl tbL ?_ | refine grF rfl rfl tbL ?_ | refine gpF rfl rfl tbL ?_ | refine gu rfl rfl ?_ | refine gtd rfl rfl (fun h => ?_) (fun h => ?_) | refine gfd rfl rfl (fun h => ?_) (fun h => ?_) | refine gt rfl rfl (fun h => ?_) (fun h => ?_) | refine gf rfl rfl (fun h => ?_) (fun h => ?_)) | (show SH _ _ _ _ _ (⟨_, .move _, _, _, _, _⟩ :: _) _ _ _; first | refine mov evL ?_) | (show SH _ _ _ _ _ (⟨_, .assign _, _, _, _, _⟩ :: _) _ _ _; first | refine asg evL ?_) | (show SH _ _ _ _ _ (⟨_, .load _ _, _, _, _, _⟩ :: _) _ _ _; first | refine lsl rfl (fun _ _ => rdL) omL (by assumption) ?_ | refine lin rfl (fun _ _ => rdL) omL ?_ | refine lbx rfl spL (by rfl) ?_ | refine lba rfl spL (by rfl) ?_ | refine lbi rfl spL omL ?_ | refine lr1 rfl (fun _ _ => rdL) (by rfl) omL (by rfl) ?_ | refine lra rfl (fun _ _ => rdL) (by rfl) omL ?_ | refine lrf rfl (fun _ _ => rdL) (by rfl) omL (by rfl) ?_ | refine lcell rfl (fun w hw => hw.ext.cell (by assumption)) ?_) | (show SH _ _ _ _ _ (⟨_, .call ⟨.value (.func 40), _, _⟩, _, _, _, _⟩ :: _) _ _ _; refine cl (callee := .func 40) rfl (fun w hw => flatLimbs_none _) rfl rfl ?_) | (show SH _ _ _ _ _ (⟨_, .call ⟨.value (.func 42), _, _⟩, _, _, _, _⟩ :: _) _ _ _; refine cl (callee := .func 42) rfl (fun w hw => flatTexts_none _) rfl rfl ?_) | (show SH _ _ _ _ _ (⟨_, .call ⟨.value (.func 43), _, _⟩, _, _, _, _⟩ :: _) _ _ _; refine cl (callee := .func 43) rfl (fun w hw => flatBytes_none _) rfl rfl ?_) | (show SH _ _ _ _ _ (⟨_, .call ⟨.value (.func 44), _, _⟩, _, _, _, _⟩ :: _) _ _ _; refine cl (callee := .func 44) rfl (fun w hw => flatComps_none _) rfl rfl ?_) | (show SH _ _ _ _ _ (⟨_, .call ⟨.value (.func 45), _, _⟩, _, _, _, _⟩ :: _) _ _ _; refine cl (callee := .func 45) rfl (fun w hw => flatEntities_none _) rfl rfl ?_) | (show SH _ _ _ _ _ (⟨_, .call ⟨.value (.func 46), _, _⟩, _, _, _, _⟩ :: _) _ _ _; refine cl (callee := .func 46) rfl (fun w hw => flatWorlds_none _) rfl rfl ?_) | (show SH _ _ _ _ _ (⟨_, .call ⟨.value (.func 47), _, _⟩, _, _, _, _⟩ :: _) _ _ _; refine cl (callee := .func 47) rfl (fun w hw => flatVecs_none _) rfl rfl ?_) | (show SH _ _ _ _ _ (⟨_, .call ⟨.value (.func 48), _, _⟩, _, _, _, _⟩ :: _) _ _ _; refine cl (callee := .func 48) rfl (fun w hw => flatBodies_none _) rfl rfl ?_) | (show SH _ _ _ _ _ (⟨_, .call ⟨.value (.func 49), _, _⟩, _, _, _, _⟩ :: _) _ _ _; refine cl (callee := .func 49) rfl (fun w hw => flatSystems_none _) rfl rfl ?_) | (show SH _ _ _ _ _ (⟨_, .call ⟨.value (.func 50), _, _⟩, _, _, _, _⟩ :: _) _ _ _; refine cl (callee := .func 50) rfl (fun w hw => flatInputs_none _) rfl rfl ?_) | (show SH _ _ _ _ _ (⟨_, .call ⟨.value (.func 51), _, _⟩, _, _, _, _⟩ :: _) _ _ _; refine cl (callee := .func 51) rfl (fun w hw => flatAreas_none _) rfl rfl ?_) | (show SH _ _ _ _ _ (⟨_, .call ⟨.value (.func 52), _, _⟩, _, _, _, _⟩ :: _) _ _ _; refine cl (callee := .func 52) rfl (fun w hw => flatPairs_none _) rfl rfl ?_) | (show SH _ _ _ _ _ (⟨_, .call ⟨.value (.func 53), _, _⟩, _, _, _, _⟩ :: _) _ _ _; refine cl (callee := .func 53) rfl (fun w hw => flatRopes_none _) rfl rfl ?_) | (show SH _ _ _ _ _ (⟨_, .call ⟨.value (.func 54), _, _⟩, _, _, _, _⟩ :: _) _ _ _; refine cl (callee := .func 54) rfl (fun w hw => flatExprs_none _) rfl rfl ?_) | (show SH _ _ _ _ _ (⟨_, .call ⟨.value (.func 55), _, _⟩, _, _, _, _⟩ :: _) _ _ _; refine cl (callee := .func 55) rfl (fun w hw => flatStmts_none _) rfl rfl ?_) | (show SH _ _ _ _ _ (⟨_, .call ⟨.value (.func 56), _, _⟩, _, _, _, _⟩ :: _) _ _ _; refine cl (callee := .func 56) rfl (fun w hw => flatScenes_none _) rfl rfl ?_) | (show SH _ _ _ _ _ (⟨_, .call ⟨.value (.func 57), _, _⟩, _, _, _, _⟩ :: _) _ _ _; refine cl (callee := .func 57) rfl (fun w hw => flatStops_none _) rfl rfl ?_) | (show SH _ _ _ _ _ (⟨_, .call ⟨.value (.func 58), _, _⟩, _, _, _, _⟩ :: _) _ _ _; refine cl (callee := .func 58) rfl (fun w hw => flatPortals_none _) rfl rfl ?_) | (show SH _ _ _ _ _ (⟨_, .call ⟨.value (.func 59), _, _⟩, _, _, _, _⟩ :: _) _ _ _; refine cl (callee := .func 59) rfl (fun w hw => flatStores_none _) rfl rfl ?_) | refine pkt rfl tbL evL ?_ | refine pkf rfl tbL evL ?_ | refine nlc rfl ?_ | refine fad rfl ?_) | refine s_nil ?_ | refine kh_normal ?_ | refine kh_ret ?_ | refine kh_exit ?_ | refine bh_normal ?_ | refine bh_ret ?_ | refine bh_exit ?_ | refine bh_exit_ne rfl ?_))
  refine cm rfl (fun w hw => flatInts_spec A c rs w0 (bx b 75 (bagC (.slice A rs.length c)) :: H) w hn hll (Ent.wd (by unfold bagC; exact ent_cons (Split.tail Split.head) (ent_maps_push rs)) hw)) rfl rfl ?_
  rintro _ _ ⟨rfl, rfl⟩
  refine ⟨trivial, ?_⟩
  unfold bagC
  (repeat' (first | (show VH _ _ _ _ _ _ _; first | refine v_seq ?_ | refine r_seq ?_ | refine r_quiet hmix (by kernel_rfl) ?_ | refine v_block ?_ | refine v_ret ?_ | refine v_skip ?_ | refine v_exit ?_ | refine v_label ?_ | refine v_cond_t rfl tbL ?_ | refine v_cond_f rfl tbL ?_ | refine v_cond_dec rfl (fun h => ?_) (fun h => ?_) | refine v_cond_ndec rfl (fun h => ?_) (fun h => ?_) | refine v_cond rfl (fun h => ?_) (fun h => ?_)) | (show SH _ _ _ _ _ (_ :: _) _ _ _; first | (show SH _ _ _ _ _ (⟨_, _, _, _, _, some _⟩ :: _) _ _ _; first | refine grT rfl rfl tbL ?_ | refine gpT rfl rfl tbL ?_ | refine grF rfl rfl tbL ?_ | refine gpF rfl rfl tbL ?_ | refine gu rfl rfl ?_ | refine gtd rfl rfl (fun h => ?_) (fun h => ?_) | refine gfd rfl rfl (fun h => ?_) (fun h => ?_) | refine gt rfl rfl (fun h => ?_) (fun h => ?_) | refine gf rfl rfl (fun h => ?_) (fun h => ?_)) | (show SH _ _ _ _ _ (⟨_, .move _, _, _, _, _⟩ :: _) _ _ _; first | refine mov evL ?_) | (show SH _ _ _ _ _ (⟨_, .assign _, _, _, _, _⟩ :: _) _ _ _; first | refine asg evL ?_) | (show SH _ _ _ _ _ (⟨_, .load _ _, _, _, _, _⟩ :: _) _ _ _; first | refine lsl rfl (fun _ _ => rdL) omL (by assumption) ?_ | refine lin rfl (fun _ _ => rdL) omL ?_ | refine lbx rfl spL (by rfl) ?_ | refine lba rfl spL (by rfl) ?_ | refine lbi rfl spL omL ?_ | refine lr1 rfl (fun _ _ => rdL) (by rfl) omL (by rfl) ?_ | refine lra rfl (fun _ _ => rdL) (by rfl) omL ?_ | refine lrf rfl (fun _ _ => rdL) (by rfl) omL (by rfl) ?_ | refine lcell rfl (fun w hw => hw.ext.cell (by assumption)) ?_) | (show SH _ _ _ _ _ (⟨_, .call ⟨.value (.func 40), _, _⟩, _, _, _, _⟩ :: _) _ _ _; refine cl (callee := .func 40) rfl (fun w hw => flatLimbs_none _) rfl rfl ?_) | (show SH _ _ _ _ _ (⟨_, .call ⟨.value (.func 42), _, _⟩, _, _, _, _⟩ :: _) _ _ _; refine cl (callee := .func 42) rfl (fun w hw => flatTexts_none _) rfl rfl ?_) | (show SH _ _ _ _ _ (⟨_, .call ⟨.value (.func 43), _, _⟩, _, _, _, _⟩ :: _) _ _ _; refine cl (callee := .func 43) rfl (fun w hw => flatBytes_none _) rfl rfl ?_) | (show SH _ _ _ _ _ (⟨_, .call ⟨.value (.func 44), _, _⟩, _, _, _, _⟩ :: _) _ _ _; refine cl (callee := .func 44) rfl (fun w hw => flatComps_none _) rfl rfl ?_) | (show SH _ _ _ _ _ (⟨_, .call ⟨.value (.func 45), _, _⟩, _, _, _, _⟩ :: _) _ _ _; refine cl (callee := .func 45) rfl (fun w hw => flatEntities_none _) rfl rfl ?_) | (show SH _ _ _ _ _ (⟨_, .call ⟨.value (.func 46), _, _⟩, _, _, _, _⟩ :: _) _ _ _; refine cl (callee := .func 46) rfl (fun w hw => flatWorlds_none _) rfl rfl ?_) | (show SH _ _ _ _ _ (⟨_, .call ⟨.value (.func 47), _, _⟩, _, _, _, _⟩ :: _) _ _ _; refine cl (callee := .func 47) rfl (fun w hw => flatVecs_none _) rfl rfl ?_) | (show SH _ _ _ _ _ (⟨_, .call ⟨.value (.func 48), _, _⟩, _, _, _, _⟩ :: _) _ _ _; refine cl (callee := .func 48) rfl (fun w hw => flatBodies_none _) rfl rfl ?_) | (show SH _ _ _ _ _ (⟨_, .call ⟨.value (.func 49), _, _⟩, _, _, _, _⟩ :: _) _ _ _; refine cl (callee := .func 49) rfl (fun w hw => flatSystems_none _) rfl rfl ?_) | (show SH _ _ _ _ _ (⟨_, .call ⟨.value (.func 50), _, _⟩, _, _, _, _⟩ :: _) _ _ _; refine cl (callee := .func 50) rfl (fun w hw => flatInputs_none _) rfl rfl ?_) | (show SH _ _ _ _ _ (⟨_, .call ⟨.value (.func 51), _, _⟩, _, _, _, _⟩ :: _) _ _ _; refine cl (callee := .func 51) rfl (fun w hw => flatAreas_none _) rfl rfl ?_) | (show SH _ _ _ _ _ (⟨_, .call ⟨.value (.func 52), _, _⟩, _, _, _, _⟩ :: _) _ _ _; refine cl (callee := .func 52) rfl (fun w hw => flatPairs_none _) rfl rfl ?_) | (show SH _ _ _ _ _ (⟨_, .call ⟨.value (.func 53), _, _⟩, _, _, _, _⟩ :: _) _ _ _; refine cl (callee := .func 53) rfl (fun w hw => flatRopes_none _) rfl rfl ?_) | (show SH _ _ _ _ _ (⟨_, .call ⟨.value (.func 54), _, _⟩, _, _, _, _⟩ :: _) _ _ _; refine cl (callee := .func 54) rfl (fun w hw => flatExprs_none _) rfl rfl ?_) | (show SH _ _ _ _ _ (⟨_, .call ⟨.value (.func 55), _, _⟩, _, _, _, _⟩ :: _) _ _ _; refine cl (callee := .func 55) rfl (fun w hw => flatStmts_none _) rfl rfl ?_) | (show SH _ _ _ _ _ (⟨_, .call ⟨.value (.func 56), _, _⟩, _, _, _, _⟩ :: _) _ _ _; refine cl (callee := .func 56) rfl (fun w hw => flatScenes_none _) rfl rfl ?_) | (show SH _ _ _ _ _ (⟨_, .call ⟨.value (.func 57), _, _⟩, _, _, _, _⟩ :: _) _ _ _; refine cl (callee := .func 57) rfl (fun w hw => flatStops_none _) rfl rfl ?_) | (show SH _ _ _ _ _ (⟨_, .call ⟨.value (.func 58), _, _⟩, _, _, _, _⟩ :: _) _ _ _; refine cl (callee := .func 58) rfl (fun w hw => flatPortals_none _) rfl rfl ?_) | (show SH _ _ _ _ _ (⟨_, .call ⟨.value (.func 59), _, _⟩, _, _, _, _⟩ :: _) _ _ _; refine cl (callee := .func 59) rfl (fun w hw => flatStores_none _) rfl rfl ?_) | refine pkt rfl tbL evL ?_ | refine pkf rfl tbL evL ?_ | refine nlc rfl ?_ | refine fad rfl ?_) | refine s_nil ?_ | refine kh_normal ?_ | refine kh_ret ?_ | refine kh_exit ?_ | refine bh_normal ?_ | refine bh_ret ?_ | refine bh_exit ?_ | refine bh_exit_ne rfl ?_))
  exact rh1 rfl rfl ⟨rfl, rfl⟩ (ent_drop (ent_refl _))
set_option maxRecDepth 100000 in
theorem apartInts_spec (A0 : Option Addr) (c0 : Nat) (rs : List RowI) (w0 : World) (H : List HP) (w : World) (hn : rs.length ≤ 100000) (hll : ∀ r ∈ rs.map slv, r.m ≤ 1000000)
    (hw : Wd w0 (orow 22 A0 c0 (rs.map slv) :: (rs.map rowP ++ H)) w) :
    Ret Tryz.prog 18 [.slice A0 rs.length c0].toArray w (RP w0 fun v H' => v = .bool true ∧ H' = H) := by
  obtain ⟨sl, hsl⟩ : ∃ sl, sl = rs.map slv := ⟨_, rfl⟩
  have hsn : sl.length = rs.length := by rw [hsl, List.length_map]
  rw [← hsl] at hw
  refine enterH Tryz.func18 rfl rfl Tryz.ntmps18 rfl (by assumption) ?_
  (repeat' (first | (show VH _ _ _ _ _ _ _; first | refine v_seq ?_ | refine r_seq ?_ | refine r_quiet hmix (by kernel_rfl) ?_ | refine v_block ?_ | refine v_ret ?_ | refine v_skip ?_ | refine v_exit ?_ | refine v_label ?_ | refine v_cond_t rfl tbL ?_ | refine v_cond_f rfl tbL ?_ | refine v_cond_dec rfl (fun h => ?_) (fun h => ?_) | refine v_cond_ndec rfl (fun h => ?_) (fun h => ?_) | refine v_cond rfl (fun h => ?_) (fun h => ?_)) | (show SH _ _ _ _ _ (_ :: _) _ _ _; first | (show SH _ _ _ _ _ (⟨_, .move _, _, _, _, _⟩ :: _) _ _ _; first | refine mov evL ?_) | (show SH _ _ _ _ _ (⟨_, .assign _, _, _, _, _⟩ :: _) _ _ _; first | refine asg evL ?_) | (show SH _ _ _ _ _ (⟨_, .binOp _ _ _ _ _, _, _, _, _⟩ :: _) _ _ _; first | refine add rfl rfl inL ?_ | refine lss rfl rfl ?_) | (show SH _ _ _ _ _ (⟨_, .load _ _, _, _, _, _⟩ :: _) _ _ _; first | refine lsl rfl (fun _ _ => rdL) omL (by assumption) ?_ | refine lin rfl (fun _ _ => rdL) omL ?_ | refine lbx rfl spL (by rfl) ?_ | refine lba rfl spL (by rfl) ?_ | refine lbi rfl spL omL ?_ | refine lr1 rfl (fun _ _ => rdL) (by rfl) omL (by rfl) ?_ | refine lra rfl (fun _ _ => rdL) (by rfl) omL ?_ | refine lrf rfl (fun _ _ => rdL) (by rfl) omL (by rfl) ?_ | refine lcell rfl (fun w hw => hw.ext.cell (by assumption)) ?_) | (show SH _ _ _ _ _ (⟨_, .indexAddr _ _ _, _, _, _, _⟩ :: _) _ _ _; first | refine ix rfl rfl (by with_reducible rfl) (fun _ _ => rdL) (by rfl) omL omL ?_ | refine ixi rfl rfl (fun _ _ => rdL) (by rfl) omL omL omL ?_ | refine ixb rfl rfl omL ?_) | (show SH _ _ _ _ _ (⟨_, .call ⟨.builtin _, _, _⟩, _, _, _, _⟩ :: _) _ _ _; first | refine slen rfl ?_) | refine bld rfl rfl ?_ | refine bxx rfl evL rfl (fun b => ?_)) | refine s_nil ?_ | refine kh_normal ?_ | refine kh_ret ?_ | refine kh_exit ?_ | refine bh_normal ?_ | refine bh_ret ?_ | refine bh_exit ?_ | refine bh_exit_ne rfl ?_))
  refine v_norm [(0,_),(3,_),(4,_)] heL (fun g => ?_)
  refine v_loop [(4,4),(7,18)] (fun y : Nat × (Option Addr × Nat) => [(4, .int .i64 y.1)]) (fun y => bx b 75 (bagC (.slice y.2.1 (sl.take y.1).length y.2.2)) :: orow 22 y.2.1 y.2.2 (sl.take y.1) :: orow 22 A0 c0 sl :: (rs.map rowP ++ H)) (fun y => y.1 ≤ rs.length) (fun y => rs.length - y.1) (0, (none, 0)) hsL (ent_cons Split.head (ent_nilrow (ent_refl _))) (Nat.zero_le _) ?_
  rintro ⟨k, A1, c1⟩ g hk
  simp only [sets]
  simp only at hk
  have htl : (sl.take k).length = k := by rw [List.length_take]; omega
  (repeat' (first | (show VH _ _ _ _ _ _ _; first | refine v_seq ?_ | refine r_seq ?_ | refine r_quiet hmix (by kernel_rfl) ?_ | refine v_block ?_ | refine v_ret ?_ | refine v_skip ?_ | refine v_exit ?_ | refine v_label ?_ | refine v_cond_t rfl tbL ?_ | refine v_cond_f rfl tbL ?_ | refine v_cond_dec rfl (fun h => ?_) (fun h => ?_) | refine v_cond_ndec rfl (fun h => ?_) (fun h => ?_) | refine v_cond rfl (fun h => ?_) (fun h => ?_)) | (show SH _ _ _ _ _ (_ :: _) _ _ _; first | (show SH _ _ _ _ _ (⟨_, .move _, _, _, _, _⟩ :: _) _ _ _; first | refine mov evL ?_) | (show SH _ _ _ _ _ (⟨_, .assign _, _, _, _, _⟩ :: _) _ _ _; first | refine asg evL ?_) | (show SH _ _ _ _ _ (⟨_, .binOp _ _ _ _ _, _, _, _, _⟩ :: _) _ _ _; first | refine add rfl rfl inL ?_ | refine lss rfl rfl ?_) | (show SH _ _ _ _ _ (⟨_, .load _ _, _, _, _, _⟩ :: _) _ _ _; first | refine lsl rfl (fun _ _ => rdL) omL (by assumption) ?_ | refine lin rfl (fun _ _ => rdL) omL ?_ | refine lbx rfl spL (by rfl) ?_ | refine lba rfl spL (by rfl) ?_ | refine lbi rfl spL omL ?_ | refine lr1 rfl (fun _ _ => rdL) (by rfl) omL (by rfl) ?_ | refine lra rfl (fun _ _ => rdL) (by rfl) omL ?_ | refine lrf rfl (fun _ _ => rdL) (by rfl) omL (by rfl) ?_ | refine lcell rfl (fun w hw => hw.ext.cell (by assumption)) ?_) | (show SH _ _ _ _ _ (⟨_, .indexAddr _ _ _, _, _, _, _⟩ :: _) _ _ _; first | refine ix rfl rfl (by with_reducible rfl) (fun _ _ => rdL) (by rfl) omL omL ?_ | refine ixi rfl rfl (fun _ _ => rdL) (by rfl) omL omL omL ?_ | refine ixb rfl rfl omL ?_) | (show SH _ _ _ _ _ (⟨_, .call ⟨.builtin _, _, _⟩, _, _, _, _⟩ :: _) _ _ _; first | refine slen rfl ?_) | refine bld rfl rfl ?_ | refine bxx rfl evL rfl (fun b => ?_)) | refine s_nil ?_ | refine kh_normal ?_ | refine kh_ret ?_ | refine kh_exit ?_ | refine bh_normal ?_ | refine bh_ret ?_ | refine bh_exit ?_ | refine bh_exit_ne rfl ?_))
  · refine cm rfl (fun w hw => putInts_spec b A1 _ c1 _ _ (sl.take k) w0 _ w (by omega) hw) rfl rfl ?_
    rintro _ _ ⟨rfl, A', c', rfl⟩
    refine ⟨trivial, ?_⟩
    have hsn : sl.take (k + 1) = sl.take k ++ [sl.getD k Flat.dflt] := take_snoc (by omega)
    rw [show (⟨(sl.getD k Flat.dflt).A, (sl.getD k Flat.dflt).m, (sl.getD k Flat.dflt).cp⟩ : SliceV) = sl.getD k Flat.dflt from rfl, ← hsn]
    (repeat' (first | (show VH _ _ _ _ _ _ _; first | refine v_seq ?_ | refine r_seq ?_ | refine r_quiet hmix (by kernel_rfl) ?_ | refine v_block ?_ | refine v_ret ?_ | refine v_skip ?_ | refine v_exit ?_ | refine v_label ?_ | refine v_cond_t rfl tbL ?_ | refine v_cond_f rfl tbL ?_ | refine v_cond_dec rfl (fun h => ?_) (fun h => ?_) | refine v_cond_ndec rfl (fun h => ?_) (fun h => ?_) | refine v_cond rfl (fun h => ?_) (fun h => ?_)) | (show SH _ _ _ _ _ (_ :: _) _ _ _; first | (show SH _ _ _ _ _ (⟨_, .move _, _, _, _, _⟩ :: _) _ _ _; first | refine mov evL ?_) | (show SH _ _ _ _ _ (⟨_, .assign _, _, _, _, _⟩ :: _) _ _ _; first | refine asg evL ?_) | (show SH _ _ _ _ _ (⟨_, .binOp _ _ _ _ _, _, _, _, _⟩ :: _) _ _ _; first | refine add rfl rfl inL ?_ | refine lss rfl rfl ?_) | (show SH _ _ _ _ _ (⟨_, .load _ _, _, _, _, _⟩ :: _) _ _ _; first | refine lsl rfl (fun _ _ => rdL) omL (by assumption) ?_ | refine lin rfl (fun _ _ => rdL) omL ?_ | refine lbx rfl spL (by rfl) ?_ | refine lba rfl spL (by rfl) ?_ | refine lbi rfl spL omL ?_ | refine lr1 rfl (fun _ _ => rdL) (by rfl) omL (by rfl) ?_ | refine lra rfl (fun _ _ => rdL) (by rfl) omL ?_ | refine lrf rfl (fun _ _ => rdL) (by rfl) omL (by rfl) ?_ | refine lcell rfl (fun w hw => hw.ext.cell (by assumption)) ?_) | (show SH _ _ _ _ _ (⟨_, .indexAddr _ _ _, _, _, _, _⟩ :: _) _ _ _; first | refine ix rfl rfl (by with_reducible rfl) (fun _ _ => rdL) (by rfl) omL omL ?_ | refine ixi rfl rfl (fun _ _ => rdL) (by rfl) omL omL omL ?_ | refine ixb rfl rfl omL ?_) | (show SH _ _ _ _ _ (⟨_, .call ⟨.builtin _, _, _⟩, _, _, _, _⟩ :: _) _ _ _; first | refine slen rfl ?_) | refine bld rfl rfl ?_ | refine bxx rfl evL rfl (fun b => ?_)) | refine s_nil ?_ | refine kh_normal ?_ | refine kh_ret ?_ | refine kh_exit ?_ | refine bh_normal ?_ | refine bh_ret ?_ | refine bh_exit ?_ | refine bh_exit_ne rfl ?_))
    exact ⟨agL, (k + 1, (A', c')), hsL, ent_refl _, by show k + 1 ≤ _; omega, by show _ - (k + 1) < _ - k; omega⟩
  · have hke : k = rs.length := by omega
    rw [List.take_of_length_le (by omega), hsn, hsl]
    refine cm rfl (fun w hw => bagApart_spec b A1 c1 rs w0 (orow 22 A0 c0 (rs.map slv) :: H) w hn hll (Ent.wd (ent_cons Split.head (ent_cons Split.head (ent_maps_push rs))) hw)) rfl rfl ?_
    rintro _ _ ⟨rfl, rfl⟩
    refine ⟨trivial, ?_⟩
    (repeat' (first | (show VH _ _ _ _ _ _ _; first | refine v_seq ?_ | refine r_seq ?_ | refine r_quiet hmix (by kernel_rfl) ?_ | refine v_block ?_ | refine v_ret ?_ | refine v_skip ?_ | refine v_exit ?_ | refine v_label ?_ | refine v_cond_t rfl tbL ?_ | refine v_cond_f rfl tbL ?_ | refine v_cond_dec rfl (fun h => ?_) (fun h => ?_) | refine v_cond_ndec rfl (fun h => ?_) (fun h => ?_) | refine v_cond rfl (fun h => ?_) (fun h => ?_)) | (show SH _ _ _ _ _ (_ :: _) _ _ _; first | (show SH _ _ _ _ _ (⟨_, .move _, _, _, _, _⟩ :: _) _ _ _; first | refine mov evL ?_) | (show SH _ _ _ _ _ (⟨_, .assign _, _, _, _, _⟩ :: _) _ _ _; first | refine asg evL ?_) | (show SH _ _ _ _ _ (⟨_, .binOp _ _ _ _ _, _, _, _, _⟩ :: _) _ _ _; first | refine add rfl rfl inL ?_ | refine lss rfl rfl ?_) | (show SH _ _ _ _ _ (⟨_, .load _ _, _, _, _, _⟩ :: _) _ _ _; first | refine lsl rfl (fun _ _ => rdL) omL (by assumption) ?_ | refine lin rfl (fun _ _ => rdL) omL ?_ | refine lbx rfl spL (by rfl) ?_ | refine lba rfl spL (by rfl) ?_ | refine lbi rfl spL omL ?_ | refine lr1 rfl (fun _ _ => rdL) (by rfl) omL (by rfl) ?_ | refine lra rfl (fun _ _ => rdL) (by rfl) omL ?_ | refine lrf rfl (fun _ _ => rdL) (by rfl) omL (by rfl) ?_ | refine lcell rfl (fun w hw => hw.ext.cell (by assumption)) ?_) | (show SH _ _ _ _ _ (⟨_, .indexAddr _ _ _, _, _, _, _⟩ :: _) _ _ _; first | refine ix rfl rfl (by with_reducible rfl) (fun _ _ => rdL) (by rfl) omL omL ?_ | refine ixi rfl rfl (fun _ _ => rdL) (by rfl) omL omL omL ?_ | refine ixb rfl rfl omL ?_) | (show SH _ _ _ _ _ (⟨_, .call ⟨.builtin _, _, _⟩, _, _, _, _⟩ :: _) _ _ _; first | refine slen rfl ?_) | refine bld rfl rfl ?_ | refine bxx rfl evL rfl (fun b => ?_)) | refine s_nil ?_ | refine kh_normal ?_ | refine kh_ret ?_ | refine kh_exit ?_ | refine bh_normal ?_ | refine bh_ret ?_ | refine bh_exit ?_ | refine bh_exit_ne rfl ?_))
    exact rh1 rfl rfl ⟨rfl, rfl⟩ (ent_drop (ent_refl _))
end Go.Proofs.YtdlpnjofdpcjjaaGreat
