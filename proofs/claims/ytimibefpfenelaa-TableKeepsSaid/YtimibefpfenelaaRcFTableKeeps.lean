/- The statement TableKeeps: for every input the law returns true, and each argument reads behind the call as it did. No condition. -/
import Derived.Test.YtimibefpfenelaaRcTab9
import Derived.Test.YtimibefpfenelaaRows
import Derived.ProofKit
namespace Go.Proofs.Ytimibefpfenelaa
open Go.ChangeShapes Go.WideShapes Go.ChangeAt Go.RowKit Go.Pv
theorem tableKeeps_own : ownKnob Try.prog.godebug = none := by kernel_rfl
theorem tableKeeps_laid : laidOutB Try.prog = true := by kernel_rfl
set_option maxRecDepth 100000 in
theorem tableKeeps_lifted (os : Os) (started : os.Started) (H : Type) (enc : TypeId × Value → H) :
    ReturnsInHanded {} Try.checked os 11 .any (Rows.tableKeepsSpec.pre6 enc Try.prog Try.f11 Rows.tableKeepsRow.domain false) (Rows.tableKeepsSpec.post enc Try.prog Try.f11 false true false false) := by
  refine returnsInHanded_of_change (C := Try.checked) tableKeeps_own started (by kernel_rfl) Try.func11
    (ChangeSpec.witness6 (enc := enc) (C := Try.checked) false ⟨#[], #[(.slice none 0 0), (.int .u64 (0)), (.int .i64 (0)), (.int .i64 (0))], []⟩ 8 (by kernel_rfl) (by kernel_rfl) (by kernel_rfl) (by kernel_rfl)) ?_
  intro W base args ds gs before hval hW _ _
  exact law_calls (d := 6) (rt := 4) (fun ds h => match ds, h with | [_, _, _, _], _ => rfl) rfl rfl Try.underlying4 (by kernel_rfl) tableKeeps_laid (by kernel_rfl) (tableKeeps_all) hval hW
theorem tableKeeps_holds : Rows.TableKeepsSaid :=
  OpenClaim.holds_of_wide 11 Try.f11 rfl rfl rfl rfl rfl rfl rfl ⟨rfl, rfl, rfl, rfl, rfl⟩ rfl rfl rfl rfl rfl (by kernel_rfl) Try.func11 (by kernel_rfl)
    (of_decide_eq_true (by kernel_rfl)) (by unfold Func.isWrapper; first | (rw [if_pos (by decide +kernel)]; kernel_rfl) | (rw [if_neg (by decide +kernel)]; exact ⟨rfl, rfl⟩))
    (fun os started H enc _ => tableKeeps_lifted os started H enc)
#print axioms tableKeeps_holds
end Go.Proofs.Ytimibefpfenelaa
