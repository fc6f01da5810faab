/- The statement EtherOwn: for every input the law returns true, and each argument reads behind the call as it did. No condition. -/
import Derived.Test.YtodebpklpfhgdaaRbEth4
import Derived.Test.YtodebpklpfhgdaaRows
import Derived.ProofKit
namespace Go.Proofs.Ytodebpklpfhgdaa
open Go.ChangeShapes Go.WideShapes Go.ChangeAt Go.RowKit Go.Pv
theorem etherOwn_own : ownKnob Try.prog.godebug = none := by kernel_rfl
theorem etherOwn_laid : laidOutB Try.prog = true := by kernel_rfl
set_option maxRecDepth 100000 in
theorem etherOwn_lifted (os : Os) (started : os.Started) (H : Type) (enc : TypeId × Value → H) :
    ReturnsInHanded {} Try.checked os 9 .any (Rows.etherOwnSpec.pre6 enc Try.prog Try.f9 Rows.etherOwnRow.domain false) (Rows.etherOwnSpec.post enc Try.prog Try.f9 false true false false) := by
  refine returnsInHanded_of_change (C := Try.checked) etherOwn_own started (by kernel_rfl) Try.func9
    (ChangeSpec.witness6 (enc := enc) (C := Try.checked) false ⟨#[], #[(.slice none 0 0), (.int .u16 (0))], []⟩ 8 (by kernel_rfl) (by kernel_rfl) (by kernel_rfl) (by kernel_rfl)) ?_
  intro W base args ds gs before hval hW _ _
  exact law_calls (d := 6) (rt := 4) (fun ds h => match ds, h with | [_, _], _ => rfl) rfl rfl Try.underlying4 (by kernel_rfl) etherOwn_laid (by kernel_rfl) (etherOwn_all) hval hW
theorem etherOwn_holds : Rows.EtherOwnSaid :=
  OpenClaim.holds_of_wide 9 Try.f9 rfl rfl rfl rfl rfl rfl rfl ⟨rfl, rfl, rfl, rfl, rfl⟩ rfl rfl rfl rfl rfl (by kernel_rfl) Try.func9 (by kernel_rfl)
    (of_decide_eq_true (by kernel_rfl)) (by unfold Func.isWrapper; first | (rw [if_pos (by decide +kernel)]; kernel_rfl) | (rw [if_neg (by decide +kernel)]; exact ⟨rfl, rfl⟩))
    (fun os started H enc _ => etherOwn_lifted os started H enc)
#print axioms etherOwn_holds
end Go.Proofs.Ytodebpklpfhgdaa
