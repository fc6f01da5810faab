/- The statement PcapSeen: for every input the law returns true, and each argument reads behind the call as it did. No condition. -/
import Derived.Test.YtabenkmiojjiiaaRdPcap18
import Derived.Test.YtabenkmiojjiiaaRows
import Derived.ProofKit
namespace Go.Proofs.Ytabenkmiojjiiaa
open Go.ChangeShapes Go.WideShapes Go.ChangeAt Go.RowKit Go.Pv
theorem pcapSeen_own : ownKnob Try.prog.godebug = none := by kernel_rfl
theorem pcapSeen_laid : laidOutB Try.prog = true := by kernel_rfl
set_option maxRecDepth 100000 in
theorem pcapSeen_lifted (os : Os) (started : os.Started) (H : Type) (enc : TypeId × Value → H) :
    ReturnsInHanded {} Try.checked os 6 .any (Rows.pcapSeenSpec.pre6 enc Try.prog Try.f6 Rows.pcapSeenRow.domain false) (Rows.pcapSeenSpec.post enc Try.prog Try.f6 false true false false) := by
  refine returnsInHanded_of_change (C := Try.checked) pcapSeen_own started (by kernel_rfl) Try.func6
    (ChangeSpec.witness6 (enc := enc) (C := Try.checked) false ⟨#[], #[(.slice none 0 0), (.int .i64 (0))], []⟩ 8 (by kernel_rfl) (by kernel_rfl) (by kernel_rfl) (by kernel_rfl)) ?_
  intro W base args ds gs before hval hW _ _
  exact law_calls (d := 6) (rt := 4) (fun ds h => match ds, h with | [_, _], _ => rfl) rfl rfl Try.underlying4 (by kernel_rfl) pcapSeen_laid (by kernel_rfl) (pcapSeen_all) hval hW
theorem pcapSeen_holds : Rows.PcapSeenSaid :=
  OpenClaim.holds_of_wide 6 Try.f6 rfl rfl rfl rfl rfl rfl rfl ⟨rfl, rfl, rfl, rfl, rfl⟩ rfl rfl rfl rfl rfl (by kernel_rfl) Try.func6 (by kernel_rfl)
    (of_decide_eq_true (by kernel_rfl)) (by unfold Func.isWrapper; first | (rw [if_pos (by decide +kernel)]; kernel_rfl) | (rw [if_neg (by decide +kernel)]; exact ⟨rfl, rfl⟩))
    (fun os started H enc _ => pcapSeen_lifted os started H enc)
#print axioms pcapSeen_holds
end Go.Proofs.Ytabenkmiojjiiaa
