/- The statement LineEnds: for every input the law returns true, and each argument reads behind the call as it did. No condition. -/
import Derived.Test.YtabenkmiojjiiaaRdLine11
import Derived.Test.YtabenkmiojjiiaaRows
import Derived.ProofKit
namespace Go.Proofs.Ytabenkmiojjiiaa
open Go.ChangeShapes Go.WideShapes Go.ChangeAt Go.RowKit Go.Pv
theorem lineEnds_own : ownKnob Try.prog.godebug = none := by kernel_rfl
theorem lineEnds_laid : laidOutB Try.prog = true := by kernel_rfl
set_option maxRecDepth 100000 in
theorem lineEnds_lifted (os : Os) (started : os.Started) (H : Type) (enc : TypeId × Value → H) :
    ReturnsInHanded {} Try.checked os 10 .any (Rows.lineEndsSpec.pre6 enc Try.prog Try.f10 Rows.lineEndsRow.domain false) (Rows.lineEndsSpec.post enc Try.prog Try.f10 false true false false) := by
  refine returnsInHanded_of_change (C := Try.checked) lineEnds_own started (by kernel_rfl) Try.func10
    (ChangeSpec.witness6 (enc := enc) (C := Try.checked) false ⟨#[], #[(.slice none 0 0)], []⟩ 8 (by kernel_rfl) (by kernel_rfl) (by kernel_rfl) (by kernel_rfl)) ?_
  intro W base args ds gs before hval hW _ _
  exact law_calls (d := 6) (rt := 4) (fun ds h => match ds, h with | [_], _ => rfl) rfl rfl Try.underlying4 (by kernel_rfl) lineEnds_laid (by kernel_rfl) (lineEnds_all) hval hW
theorem lineEnds_holds : Rows.LineEndsSaid :=
  OpenClaim.holds_of_wide 10 Try.f10 rfl rfl rfl rfl rfl rfl rfl ⟨rfl, rfl, rfl, rfl, rfl⟩ rfl rfl rfl rfl rfl (by kernel_rfl) Try.func10 (by kernel_rfl)
    (of_decide_eq_true (by kernel_rfl)) (by unfold Func.isWrapper; first | (rw [if_pos (by decide +kernel)]; kernel_rfl) | (rw [if_neg (by decide +kernel)]; exact ⟨rfl, rfl⟩))
    (fun os started H enc _ => lineEnds_lifted os started H enc)
#print axioms lineEnds_holds
end Go.Proofs.Ytabenkmiojjiiaa
