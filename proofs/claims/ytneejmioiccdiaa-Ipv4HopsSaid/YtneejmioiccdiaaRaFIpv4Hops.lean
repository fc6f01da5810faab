/- The statement of this claim. -/
import Derived.Test.YtneejmioiccdiaaPr2
import Derived.ProofKit
import Derived.Test.YtneejmioiccdiaaRows
/- The statement Ipv4Hops: for every input the law returns true, and each argument reads behind the call as it did. No condition. -/
namespace Go.Proofs.Ytneejmioiccdiaa
open Go.ChangeShapes Go.WideShapes Go.ChangeAt Go.RowKit Go.Pv
theorem ipv4Hops_own : ownKnob Try.prog.godebug = none := by kernel_rfl
theorem ipv4Hops_laid : laidOutB Try.prog = true := by kernel_rfl
set_option maxRecDepth 100000 in
theorem ipv4Hops_lifted (os : Os) (started : os.Started) (H : Type) (enc : TypeId × Value → H) :
    ReturnsInHanded {} Try.checked os 14 .any (Rows.ipv4HopsSpec.pre6 enc Try.prog Try.f14 Rows.ipv4HopsRow.domain false) (Rows.ipv4HopsSpec.post enc Try.prog Try.f14 false true false false) := by
  refine returnsInHanded_of_change_sized (C := Try.checked) ipv4Hops_own started (by kernel_rfl) Try.func14
    (ChangeSpec.witness6 (enc := enc) (C := Try.checked) false ⟨#[], #[(.agg #[(.int .i64 (0)), (.int .i64 (0)), (.int .i64 (0)), (.int .i64 (0)), (.int .u32 (0)), (.int .u32 (0)), (.slice none 0 0)])], []⟩ 8 (by kernel_rfl) (by kernel_rfl) (by kernel_rfl) (by kernel_rfl)) ?_
  intro W base args ds gs before hval hW _ hsz _
  exact law_calls_sized (d := 6) (rt := 4) (fun ds h => match ds, h with | [_], _ => rfl) rfl rfl Try.underlying4 (by kernel_rfl) (by kernel_rfl) ipv4Hops_laid (by kernel_rfl) (ipHops_all) hval hW hsz
theorem ipv4Hops_holds : Rows.Ipv4HopsSaid :=
  OpenClaim.holds_of_wide 14 Try.f14 rfl rfl rfl rfl rfl rfl rfl ⟨rfl, rfl, rfl, rfl, rfl⟩ rfl rfl rfl rfl rfl (by kernel_rfl) Try.func14 (by kernel_rfl)
    (of_decide_eq_true (by kernel_rfl)) (by unfold Func.isWrapper; first | (rw [if_pos (by decide +kernel)]; kernel_rfl) | (rw [if_neg (by decide +kernel)]; exact ⟨rfl, rfl⟩))
    (fun os started H enc _ => ipv4Hops_lifted os started H enc)
#print axioms ipv4Hops_holds
end Go.Proofs.Ytneejmioiccdiaa
