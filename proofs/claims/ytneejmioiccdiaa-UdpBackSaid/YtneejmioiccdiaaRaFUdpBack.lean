/- The statement UdpBack: for every input the law returns true, and each argument reads behind the call as it did. No condition. -/
import Derived.Test.YtneejmioiccdiaaRaUdp2
import Derived.Test.YtneejmioiccdiaaRows
import Derived.ProofKit
namespace Go.Proofs.Ytneejmioiccdiaa
open Go.ChangeShapes Go.WideShapes Go.ChangeAt Go.RowKit Go.Pv
theorem udpBack_own : ownKnob Try.prog.godebug = none := by kernel_rfl
theorem udpBack_laid : laidOutB Try.prog = true := by kernel_rfl
set_option maxRecDepth 100000 in
theorem udpBack_lifted (os : Os) (started : os.Started) (H : Type) (enc : TypeId × Value → H) :
    ReturnsInHanded {} Try.checked os 9 .any (Rows.udpBackSpec.pre6 enc Try.prog Try.f9 Rows.udpBackRow.domain false) (Rows.udpBackSpec.post enc Try.prog Try.f9 false true false false) := by
  refine returnsInHanded_of_change (C := Try.checked) udpBack_own started (by kernel_rfl) Try.func9
    (ChangeSpec.witness6 (enc := enc) (C := Try.checked) false ⟨#[], #[(.int .u16 (0)), (.int .u16 (0)), (.slice none 0 0), (.slice none 0 0), (.slice none 0 0)], []⟩ 8 (by kernel_rfl) (by kernel_rfl) (by kernel_rfl) (by kernel_rfl)) ?_
  intro W base args ds gs before hval hW _ _
  exact law_calls (d := 6) (rt := 4) (fun ds h => match ds, h with | [_, _, _, _, _], _ => rfl) rfl rfl Try.underlying4 (by kernel_rfl) udpBack_laid (by kernel_rfl) (udpBack_all) hval hW
theorem udpBack_holds : Rows.UdpBackSaid :=
  OpenClaim.holds_of_wide 9 Try.f9 rfl rfl rfl rfl rfl rfl rfl ⟨rfl, rfl, rfl, rfl, rfl⟩ rfl rfl rfl rfl rfl (by kernel_rfl) Try.func9 (by kernel_rfl)
    (of_decide_eq_true (by kernel_rfl)) (by unfold Func.isWrapper; first | (rw [if_pos (by decide +kernel)]; kernel_rfl) | (rw [if_neg (by decide +kernel)]; exact ⟨rfl, rfl⟩))
    (fun os started H enc _ => udpBack_lifted os started H enc)
#print axioms udpBack_holds
end Go.Proofs.Ytneejmioiccdiaa
