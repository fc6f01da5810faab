/- The statement Ipv4Puts: for every input the law returns true, and each argument reads behind the call as it did. No condition. -/
import Derived.Test.YtneejmioiccdiaaRaIp3
import Derived.Test.YtneejmioiccdiaaRows
import Derived.ProofKit
namespace Go.Proofs.Ytneejmioiccdiaa
open Go.ChangeShapes Go.WideShapes Go.ChangeAt Go.RowKit Go.Pv
theorem ipv4Puts_own : ownKnob Try.prog.godebug = none := by kernel_rfl
theorem ipv4Puts_laid : laidOutB Try.prog = true := by kernel_rfl
set_option maxRecDepth 100000 in
theorem ipv4Puts_lifted (os : Os) (started : os.Started) (H : Type) (enc : TypeId × Value → H) :
    ReturnsInHanded {} Try.checked os 13 .any (Rows.ipv4PutsSpec.pre6 enc Try.prog Try.f13 Rows.ipv4PutsRow.domain false) (Rows.ipv4PutsSpec.post enc Try.prog Try.f13 false true false false) := by
  refine returnsInHanded_of_change (C := Try.checked) ipv4Puts_own started (by kernel_rfl) Try.func13
    (ChangeSpec.witness6 (enc := enc) (C := Try.checked) false ⟨#[], #[(.agg #[(.int .i64 (0)), (.int .i64 (0)), (.int .i64 (0)), (.int .i64 (0)), (.int .u32 (0)), (.int .u32 (0)), (.slice none 0 0)]), (.agg #[(.int .i64 (0)), (.int .i64 (0)), (.int .i64 (0)), (.int .i64 (0)), (.int .u32 (0)), (.int .u32 (0)), (.slice none 0 0)])], []⟩ 8 (by kernel_rfl) (by kernel_rfl) (by kernel_rfl) (by kernel_rfl)) ?_
  intro W base args ds gs before hval hW _ _
  exact law_calls (d := 6) (rt := 4) (fun ds h => match ds, h with | [_, _], _ => rfl) rfl rfl Try.underlying4 (by kernel_rfl) ipv4Puts_laid (by kernel_rfl) (ipPuts_all) hval hW
theorem ipv4Puts_holds : Rows.Ipv4PutsSaid :=
  OpenClaim.holds_of_wide 13 Try.f13 rfl rfl rfl rfl rfl rfl rfl ⟨rfl, rfl, rfl, rfl, rfl⟩ rfl rfl rfl rfl rfl (by kernel_rfl) Try.func13 (by kernel_rfl)
    (of_decide_eq_true (by kernel_rfl)) (by unfold Func.isWrapper; first | (rw [if_pos (by decide +kernel)]; kernel_rfl) | (rw [if_neg (by decide +kernel)]; exact ⟨rfl, rfl⟩))
    (fun os started H enc _ => ipv4Puts_lifted os started H enc)
#print axioms ipv4Puts_holds
end Go.Proofs.Ytneejmioiccdiaa
