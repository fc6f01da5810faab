/- The statement of this claim. -/
import Derived.Test.YtidlldckhipoaaaPr3
import Derived.ProofKit
import Derived.Test.YtidlldckhipoaaaRows
/- The statement StatsCounts: for every input the law returns true, and each argument reads behind the call as it did. No condition. -/
namespace Go.Proofs.Ytidlldckhipoaaa
open Go.ChangeShapes Go.WideShapes Go.ChangeAt Go.RowKit Go.Pv
theorem statsCounts_own : ownKnob Try.prog.godebug = none := by kernel_rfl
theorem statsCounts_laid : laidOutB Try.prog = true := by kernel_rfl
set_option maxRecDepth 100000 in
theorem statsCounts_lifted (os : Os) (started : os.Started) (H : Type) (enc : TypeId × Value → H) :
    ReturnsInHanded {} Try.checked os 4 .any (Rows.statsCountsSpec.pre6 enc Try.prog Try.f4 Rows.statsCountsRow.domain false) (Rows.statsCountsSpec.post enc Try.prog Try.f4 false true false false) := by
  refine returnsInHanded_of_change (C := Try.checked) statsCounts_own started (by kernel_rfl) Try.func4
    (ChangeSpec.witness6 (enc := enc) (C := Try.checked) false ⟨#[], #[(.slice none 0 0)], []⟩ 8 (by kernel_rfl) (by kernel_rfl) (by kernel_rfl) (by kernel_rfl)) ?_
  intro W base args ds gs before hval hW _ _
  exact law_calls (d := 6) (rt := 4) (fun ds h => match ds, h with | [_], _ => rfl) rfl rfl Try.underlying4 (by kernel_rfl) statsCounts_laid (by kernel_rfl) (statsCounts_all) hval hW trivial
theorem statsCounts_holds : Rows.StatsCountsSaid :=
  OpenClaim.holds_of_wide 4 Try.f4 rfl rfl rfl rfl rfl rfl rfl ⟨rfl, rfl, rfl, rfl, rfl⟩ rfl rfl rfl rfl rfl (by kernel_rfl) Try.func4 (by kernel_rfl)
    (of_decide_eq_true (by kernel_rfl)) (by unfold Func.isWrapper; first | (rw [if_pos (by decide +kernel)]; kernel_rfl) | (rw [if_neg (by decide +kernel)]; exact ⟨rfl, rfl⟩))
    (fun os started H enc _ => statsCounts_lifted os started H enc)
#print axioms statsCounts_holds
end Go.Proofs.Ytidlldckhipoaaa
