/- Part 35 of a proof that a step of one domain changes nothing of another: the machine of plain values, and what the program's functions do. -/
import Derived.Test.YtdgcdnnmodnkjaaGreatDoorG34
set_option linter.all false
set_option linter.unusedVariables false
set_option linter.unusedSectionVars false
set_option linter.unusedSimpArgs false
set_option linter.defProp false
set_option maxHeartbeats 4000000
set_option maxRecDepth 1000000
namespace Go.Proofs
open Go Go.Pv
variable [Lq]
theorem run33:Run Tryz.prog 33 wa33 wr33:=runTop_sound progOk rfl spT_ok tw_a
theorem run7:Run Tryz.prog 7 wa7 wr7:=runTop_sound progOk rfl spT_ok tw_b
theorem run15:Run Tryz.prog 15 wa15 wr15:=runTop_sound progOk rfl spT_ok tw_c
theorem run19:Run Tryz.prog 19 wa19 wr19:=runTop_sound progOk rfl spT_ok tw_d
theorem run19b:Run Tryz.prog 19 wa19b wr19b:=runTop_sound progOk rfl spT_ok tw_e
theorem sp1_ok:SpOk Tryz.prog E1.sp:=by
 intro f b g h
 change (bif Nat.beq f 19 then some (true,spRun (toldR [(wa19,wr19),(wa19b,wr19b)])) else spT f)=_ at h
 cases e:Nat.beq f 19 with
 | false=>rw [e] at h; exact spT_ok f b g h
 | true =>
  rw [e] at h; cases h
  have e:=Nat.eq_of_beq_eq_true e
  subst e
  exact fun cl hc xs hp r H' h=>told_ok (by simp [run19,run19b]) h
theorem run16:Run Tryz.prog 16 wa16 wr16:=runTop_sound progOk rfl sp1_ok tw_f
theorem spW_ok:SpOk Tryz.prog spW:=by
 intro f b g h
 unfold spW at h
 split at h
 ·cases h; exact fun cl hc xs hp r H' h=>told_ok (by simp [run33]) h
 ·cases h; exact fun cl hc xs hp r H' h=>told_ok (by simp [run7]) h
 ·cases h; exact fun cl hc xs hp r H' h=>told_ok (by simp [run15]) h
 ·cases h; exact fun cl hc xs hp r H' h=>told_ok (by simp [run16]) h
 ·cases h
theorem tw_g:runTop E2 60 4 []=some (.bool true):=by kernel_rfl
theorem works_run:Run Tryz.prog 4 [] (.bool true):=runTop_sound progOk rfl spW_ok tw_g
end Go.Proofs
