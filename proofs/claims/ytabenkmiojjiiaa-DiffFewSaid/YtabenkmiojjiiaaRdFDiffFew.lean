/- The statement of this claim. -/
import Derived.Test.YtabenkmiojjiiaaPr3
import Derived.ProofKit
import Derived.Test.YtabenkmiojjiiaaRows
/- The statement DiffFew: for every input the law returns true, and each argument reads behind the call as it did. No condition. -/
namespace Go.Proofs.Ytabenkmiojjiiaa
open Go.ChangeShapes Go.WideShapes Go.ChangeAt Go.RowKit Go.Pv
theorem diffFew_own : ownKnob Try.prog.godebug = none := by kernel_rfl
theorem diffFew_laid : laidOutB Try.prog = true := by kernel_rfl
set_option maxRecDepth 100000 in
theorem diffFew_lifted (os : Os) (started : os.Started) (H : Type) (enc : TypeId × Value → H) :
    ReturnsInHanded {} Try.checked os 4 .any (Rows.diffFewSpec.pre6 enc Try.prog Try.f4 Rows.diffFewRow.domain false) (Rows.diffFewSpec.post enc Try.prog Try.f4 false true false false) := by
  refine returnsInHanded_of_change (C := Try.checked) diffFew_own started (by kernel_rfl) Try.func4
    (ChangeSpec.witness6 (enc := enc) (C := Try.checked) false ⟨#[], #[(.slice none 0 0), (.slice none 0 0), (.slice none 0 0), (.slice none 0 0)], []⟩ 8 (by kernel_rfl) (by kernel_rfl) (by kernel_rfl) (by kernel_rfl)) ?_
  intro W base args ds gs before hval hW _ _
  exact law_calls (d := 6) (rt := 4) (fun ds h => match ds, h with | [_, _, _, _], _ => rfl) rfl rfl Try.underlying4 (by kernel_rfl) diffFew_laid (by kernel_rfl) (diffFew_all) hval hW
theorem diffFew_holds : Rows.DiffFewSaid :=
  OpenClaim.holds_of_wide 4 Try.f4 rfl rfl rfl rfl rfl rfl rfl ⟨rfl, rfl, rfl, rfl, rfl⟩ rfl rfl rfl rfl rfl (by kernel_rfl) Try.func4 (by kernel_rfl)
    (of_decide_eq_true (by kernel_rfl)) (by unfold Func.isWrapper; first | (rw [if_pos (by decide +kernel)]; kernel_rfl) | (rw [if_neg (by decide +kernel)]; exact ⟨rfl, rfl⟩))
    (fun os started H enc _ => diffFew_lifted os started H enc)
#print axioms diffFew_holds
end Go.Proofs.Ytabenkmiojjiiaa
