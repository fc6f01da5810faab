/- Part 34 of a proof that a step of one domain changes nothing of another: the machine of plain values, and what the program's functions do. -/
import Derived.Test.YtdgcdnnmodnkjaaGreatDoorG32
set_option linter.all false
set_option linter.unusedVariables false
set_option linter.unusedSectionVars false
set_option linter.unusedSimpArgs false
set_option linter.defProp false
set_option maxHeartbeats 4000000
set_option maxRecDepth 1000000
namespace Go.Proofs
open Go Go.Pv
variable [Lq]
theorem tw_a:runTop E0 60 33 wa33=some wr33:=by kernel_rfl
end Go.Proofs
set_option maxHeartbeats 4000000
set_option maxRecDepth 1000000
namespace Go.Proofs
open Go Go.Pv
variable [Lq]
theorem tw_b:runTop E0 60 7 wa7=some wr7:=by kernel_rfl
end Go.Proofs
set_option maxHeartbeats 4000000
set_option maxRecDepth 1000000
namespace Go.Proofs
open Go Go.Pv
variable [Lq]
theorem tw_c:runTop E0 60 15 wa15=some wr15:=by kernel_rfl
end Go.Proofs
set_option maxHeartbeats 4000000
set_option maxRecDepth 1000000
namespace Go.Proofs
open Go Go.Pv
variable [Lq]
theorem tw_d:runTop E0 60 19 wa19=some wr19:=by kernel_rfl
end Go.Proofs
set_option maxHeartbeats 4000000
set_option maxRecDepth 1000000
namespace Go.Proofs
open Go Go.Pv
variable [Lq]
theorem tw_e:runTop E0 60 19 wa19b=some wr19b:=by kernel_rfl
end Go.Proofs
set_option maxHeartbeats 4000000
set_option maxRecDepth 1000000
namespace Go.Proofs
open Go Go.Pv
variable [Lq]
theorem tw_f:runTop E1 60 16 wa16=some wr16:=by kernel_rfl
end Go.Proofs
