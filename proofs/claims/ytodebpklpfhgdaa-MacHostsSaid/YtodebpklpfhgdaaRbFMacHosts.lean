/- The statement MacHosts: for every input the law returns true, and each argument reads behind the call as it did. No condition. -/
import Derived.Test.YtodebpklpfhgdaaRbMac6
import Derived.Test.YtodebpklpfhgdaaRows
import Derived.ProofKit
namespace Go.Proofs.Ytodebpklpfhgdaa
open Go.ChangeShapes Go.WideShapes Go.ChangeAt Go.RowKit Go.Pv
theorem macHosts_own : ownKnob Try.prog.godebug = none := by kernel_rfl
theorem macHosts_laid : laidOutB Try.prog = true := by kernel_rfl
set_option maxRecDepth 100000 in
theorem macHosts_lifted (os : Os) (started : os.Started) (H : Type) (enc : TypeId × Value → H) :
    ReturnsInHanded {} Try.checked os 7 .any (Rows.macHostsSpec.pre6 enc Try.prog Try.f7 Rows.macHostsRow.domain false) (Rows.macHostsSpec.post enc Try.prog Try.f7 false true false false) := by
  refine returnsInHanded_of_change (C := Try.checked) macHosts_own started (by kernel_rfl) Try.func7
    (ChangeSpec.witness6 (enc := enc) (C := Try.checked) false ⟨#[], #[(.int .u32 (0)), (.int .u32 (0))], []⟩ 8 (by kernel_rfl) (by kernel_rfl) (by kernel_rfl) (by kernel_rfl)) ?_
  intro W base args ds gs before hval hW _ _
  exact law_calls (d := 6) (rt := 4) (fun ds h => match ds, h with | [_, _], _ => rfl) rfl rfl Try.underlying4 (by kernel_rfl) macHosts_laid (by kernel_rfl) (macHosts_all) hval hW
theorem macHosts_holds : Rows.MacHostsSaid :=
  OpenClaim.holds_of_wide 7 Try.f7 rfl rfl rfl rfl rfl rfl rfl ⟨rfl, rfl, rfl, rfl, rfl⟩ rfl rfl rfl rfl rfl (by kernel_rfl) Try.func7 (by kernel_rfl)
    (of_decide_eq_true (by kernel_rfl)) (by unfold Func.isWrapper; first | (rw [if_pos (by decide +kernel)]; kernel_rfl) | (rw [if_neg (by decide +kernel)]; exact ⟨rfl, rfl⟩))
    (fun os started H enc _ => macHosts_lifted os started H enc)
#print axioms macHosts_holds
end Go.Proofs.Ytodebpklpfhgdaa
