/- The statement PcapBack: for every input the law returns true, and each argument reads behind the call as it did. No condition. -/
import Derived.Test.YtabenkmiojjiiaaRdPcap20
import Derived.Test.YtabenkmiojjiiaaRows
import Derived.ProofKit
namespace Go.Proofs.Ytabenkmiojjiiaa
open Go.ChangeShapes Go.WideShapes Go.ChangeAt Go.RowKit Go.Pv
theorem pcapBack_own : ownKnob Try.prog.godebug = none := by kernel_rfl
theorem pcapBack_laid : laidOutB Try.prog = true := by kernel_rfl
set_option maxRecDepth 100000 in
theorem pcapBack_lifted (os : Os) (started : os.Started) (H : Type) (enc : TypeId × Value → H) :
    ReturnsInHanded {} Try.checked os 8 .any (Rows.pcapBackSpec.pre6 enc Try.prog Try.f8 Rows.pcapBackRow.domain false) (Rows.pcapBackSpec.post enc Try.prog Try.f8 false true false false) := by
  refine returnsInHanded_of_change (C := Try.checked) pcapBack_own started (by kernel_rfl) Try.func8
    (ChangeSpec.witness6 (enc := enc) (C := Try.checked) false ⟨#[], #[(.slice none 0 0), (.slice none 0 0)], []⟩ 8 (by kernel_rfl) (by kernel_rfl) (by kernel_rfl) (by kernel_rfl)) ?_
  intro W base args ds gs before hval hW _ _
  exact law_calls (d := 6) (rt := 4) (fun ds h => match ds, h with | [_, _], _ => rfl) rfl rfl Try.underlying4 (by kernel_rfl) pcapBack_laid (by kernel_rfl) (pcapBack_all) hval hW
theorem pcapBack_holds : Rows.PcapBackSaid :=
  OpenClaim.holds_of_wide 8 Try.f8 rfl rfl rfl rfl rfl rfl rfl ⟨rfl, rfl, rfl, rfl, rfl⟩ rfl rfl rfl rfl rfl (by kernel_rfl) Try.func8 (by kernel_rfl)
    (of_decide_eq_true (by kernel_rfl)) (by unfold Func.isWrapper; first | (rw [if_pos (by decide +kernel)]; kernel_rfl) | (rw [if_neg (by decide +kernel)]; exact ⟨rfl, rfl⟩))
    (fun os started H enc _ => pcapBack_lifted os started H enc)
#print axioms pcapBack_holds
end Go.Proofs.Ytabenkmiojjiiaa
