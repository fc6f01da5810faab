/- The statement LineWords: for every input the law returns true, and each argument reads behind the call as it did. No condition. -/
import Derived.Test.YtabenkmiojjiiaaRdLine14
import Derived.Test.YtabenkmiojjiiaaPvYS
import Derived.Test.YtabenkmiojjiiaaRows
import Derived.ProofKit
namespace Go.Proofs.Ytabenkmiojjiiaa
open Go.ChangeShapes Go.WideShapes Go.ChangeAt Go.RowKit Go.Pv
theorem lineWords_own : ownKnob Try.prog.godebug = none := by kernel_rfl
theorem lineWords_laid : laidOutB Try.prog = true := by kernel_rfl
set_option maxRecDepth 100000 in
theorem lineWords_lifted (os : Os) (started : os.Started) (H : Type) (enc : TypeId × Value → H) :
    ReturnsInHanded {} Try.checked os 11 .any (Rows.lineWordsSpec.pre6 enc Try.prog Try.f11 Rows.lineWordsRow.domain false) (Rows.lineWordsSpec.post enc Try.prog Try.f11 false true false false) := by
  refine returnsInHanded_of_change_sized (C := Try.checked) lineWords_own started (by kernel_rfl) Try.func11
    (ChangeSpec.witness6 (enc := enc) (C := Try.checked) false ⟨#[], #[(.string ⟨#[]⟩), (.slice none 0 0)], []⟩ 8 (by kernel_rfl) (by kernel_rfl) (by kernel_rfl) (by kernel_rfl)) ?_
  intro W base args ds gs before hval hW _ hsz _
  exact law_calls_sized (d := 6) (rt := 4) (fun ds h => match ds, h with | [_, _], _ => rfl) rfl rfl Try.underlying4 (by kernel_rfl) (by kernel_rfl) lineWords_laid (by kernel_rfl) (lineWords_all) hval hW hsz
theorem lineWords_holds : Rows.LineWordsSaid :=
  OpenClaim.holds_of_wide 11 Try.f11 rfl rfl rfl rfl rfl rfl rfl ⟨rfl, rfl, rfl, rfl, rfl⟩ rfl rfl rfl rfl rfl (by kernel_rfl) Try.func11 (by kernel_rfl)
    (of_decide_eq_true (by kernel_rfl)) (by unfold Func.isWrapper; first | (rw [if_pos (by decide +kernel)]; kernel_rfl) | (rw [if_neg (by decide +kernel)]; exact ⟨rfl, rfl⟩))
    (fun os started H enc _ => lineWords_lifted os started H enc)
#print axioms lineWords_holds
end Go.Proofs.Ytabenkmiojjiiaa
