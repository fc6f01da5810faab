/- The statement of this claim. -/
import Derived.Test.YtnomcclbfbbehaaPr6
import Derived.ProofKit
import Derived.Test.YtnomcclbfbbehaaRows
/- The statement PolicyReads: for every input the law returns true, and each argument reads behind the call as it did. No condition. -/
namespace Go.Proofs.Ytnomcclbfbbehaa
open Go.ChangeShapes Go.WideShapes Go.ChangeAt Go.RowKit Go.Pv
theorem policyReads_own : ownKnob Try.prog.godebug = none := by kernel_rfl
theorem policyReads_laid : laidOutB Try.prog = true := by kernel_rfl
set_option maxRecDepth 100000 in
theorem policyReads_lifted (os : Os) (started : os.Started) (H : Type) (enc : TypeId × Value → H) :
    ReturnsInHanded {} Try.checked os 5 .any (Rows.policyReadsSpec.pre6 enc Try.prog Try.f5 Rows.policyReadsRow.domain false) (Rows.policyReadsSpec.post enc Try.prog Try.f5 false true false false) := by
  refine returnsInHanded_of_change (C := Try.checked) policyReads_own started (by kernel_rfl) Try.func5
    (ChangeSpec.witness6 (enc := enc) (C := Try.checked) false ⟨#[], #[(.slice none 0 0)], []⟩ 8 (by kernel_rfl) (by kernel_rfl) (by kernel_rfl) (by kernel_rfl)) ?_
  intro W base args ds gs before hval hW _ _
  exact law_calls (d := 6) (rt := 4) (fun ds h => match ds, h with | [_], _ => rfl) rfl rfl Try.underlying4 (by kernel_rfl) policyReads_laid (by kernel_rfl) (policyReads_all) hval hW
theorem policyReads_holds : Rows.PolicyReadsSaid :=
  OpenClaim.holds_of_wide 5 Try.f5 rfl rfl rfl rfl rfl rfl rfl ⟨rfl, rfl, rfl, rfl, rfl⟩ rfl rfl rfl rfl rfl (by kernel_rfl) Try.func5 (by kernel_rfl)
    (of_decide_eq_true (by kernel_rfl)) (by unfold Func.isWrapper; first | (rw [if_pos (by decide +kernel)]; kernel_rfl) | (rw [if_neg (by decide +kernel)]; exact ⟨rfl, rfl⟩))
    (fun os started H enc _ => policyReads_lifted os started H enc)
#print axioms policyReads_holds
end Go.Proofs.Ytnomcclbfbbehaa
