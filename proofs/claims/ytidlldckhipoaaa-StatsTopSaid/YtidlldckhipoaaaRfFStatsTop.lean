/- The statement of this claim. -/
import Derived.Test.YtidlldckhipoaaaPr2
import Derived.ProofKit
import Derived.Test.YtidlldckhipoaaaRows
/- The statement StatsTop: for every input the law returns true, and each argument reads behind the call as it did. No condition. -/
namespace Go.Proofs.Ytidlldckhipoaaa
open Go.ChangeShapes Go.WideShapes Go.ChangeAt Go.RowKit Go.Pv
theorem statsTop_own : ownKnob Try.prog.godebug = none := by kernel_rfl
theorem statsTop_laid : laidOutB Try.prog = true := by kernel_rfl
set_option maxRecDepth 100000 in
theorem statsTop_lifted (os : Os) (started : os.Started) (H : Type) (enc : TypeId × Value → H) :
    ReturnsInHanded {} Try.checked os 3 .any (Rows.statsTopSpec.pre6 enc Try.prog Try.f3 Rows.statsTopRow.domain false) (Rows.statsTopSpec.post enc Try.prog Try.f3 false true false false) := by
  refine returnsInHanded_of_change (C := Try.checked) statsTop_own started (by kernel_rfl) Try.func3
    (ChangeSpec.witness6 (enc := enc) (C := Try.checked) false ⟨#[], #[(.slice none 0 0), (.int .u8 (0))], []⟩ 8 (by kernel_rfl) (by kernel_rfl) (by kernel_rfl) (by kernel_rfl)) ?_
  intro W base args ds gs before hval hW _ _
  exact law_calls (d := 6) (rt := 4) (fun ds h => match ds, h with | [_, _], _ => rfl) rfl rfl Try.underlying4 (by kernel_rfl) statsTop_laid (by kernel_rfl) (statsTop_all) hval hW trivial
theorem statsTop_holds : Rows.StatsTopSaid :=
  OpenClaim.holds_of_wide 3 Try.f3 rfl rfl rfl rfl rfl rfl rfl ⟨rfl, rfl, rfl, rfl, rfl⟩ rfl rfl rfl rfl rfl (by kernel_rfl) Try.func3 (by kernel_rfl)
    (of_decide_eq_true (by kernel_rfl)) (by unfold Func.isWrapper; first | (rw [if_pos (by decide +kernel)]; kernel_rfl) | (rw [if_neg (by decide +kernel)]; exact ⟨rfl, rfl⟩))
    (fun os started H enc _ => statsTop_lifted os started H enc)
#print axioms statsTop_holds
end Go.Proofs.Ytidlldckhipoaaa
