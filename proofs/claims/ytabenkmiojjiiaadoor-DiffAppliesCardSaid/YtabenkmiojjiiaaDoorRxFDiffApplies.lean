/- The statement of this claim. -/
import Derived.Test.YtabenkmiojjiiaaDoorPr4
import Derived.LaidMore
import Derived.Lay
import Derived.OpenShut
import Derived.ProofKit
import Derived.SevenTiedAt
import Derived.Stop.Joined
import Derived.Test.YtabenkmiojjiiaaDoorCards
import Derived.Test.YtabenkmiojjiiaaDoorRows
import Derived.Test.YtabenkmiojjiiaaDoorTie
/- The statement DiffApplies, as a card: for every input the law returns true, and each argument reads behind the call as it did, where the listed variables hold what the program's text lays. -/
set_option linter.unusedVariables false
namespace Go.Proofs.YtabenkmiojjiiaaDoor
open Go.ChangeShapes Go.WideShapes Go.ChangeAt Go.RowKit Go.Pv
theorem diffApplies_own : ownKnob Tryd.prog.godebug = none := by kernel_rfl
theorem diffApplies_laid : laidOutB Tryd.prog = true := by kernel_rfl
set_option maxRecDepth 100000 in
theorem diffApplies_lifted (os : Os) (started : os.Started) (H : Type) (enc : TypeId × Value → H) :
    ReturnsInHanded {} Tryd.checked os 4 .any (fun w args => (Rows.diffAppliesSpec.pre enc Tryd.prog Tryd.f4 Rows.diffAppliesRow.domain false w args ∧ laidMetH Tryd.prog Rows.diffAppliesRow.laid w) ∧ sizedMet enc Tryd.prog Tryd.f4 (OpenSpec.ofChange Rows.diffAppliesSpec) false w args)
      (Rows.diffAppliesSpec.post enc Tryd.prog Tryd.f4 false true false false) := by
  refine returnsInHanded_of_change_and (C := Tryd.checked) (X := fun w _ => laidMetH Tryd.prog Rows.diffAppliesRow.laid w) (fun _ _ _ hh h => h.of_heap hh) diffApplies_own started (by kernel_rfl) Tryd.func4
    (ChangeSpec.witness_shaped (enc := enc) (C := Tryd.checked) (os := os) (X := fun w _ => laidMetH Tryd.prog Rows.diffAppliesRow.laid w) false (World.laidAll Tryd.prog os Rows.diffAppliesRow.laid) #[(.slice none 0 0), (.slice none 0 0)] 8 (World.laidAll_os _ _ _)
      (World.shaped_of_ZipB (by kernel_rfl) (by kernel_rfl)) (by kernel_rfl) (by kernel_rfl) (by kernel_rfl)
      (by rw [MakeChecks.laidMetH_plain _ _ _ (by kernel_rfl)]; exact laidMet_laidAll _ (by kernel_rfl) (by kernel_rfl))) ?_
  intro W base args ds gs before hval hW _ _ hL _
  exact law_calls (d := 6) (rt := 4) (fun ds h => match ds, h with | [_, _], _ => rfl) rfl rfl Tryd.underlying4 (by kernel_rfl) diffApplies_laid (by kernel_rfl) (diffApplies_all) hval hW (sign_q hL fun _ h => h)
theorem diffApplies_row : Rows.DiffAppliesSaid :=
  OpenClaim.holds_of_wide 4 Tryd.f4 rfl rfl rfl rfl rfl rfl rfl ⟨rfl, rfl, rfl, rfl, rfl⟩ rfl rfl rfl rfl rfl (by kernel_rfl) Tryd.func4 (by kernel_rfl)
    (of_decide_eq_true (by kernel_rfl)) (by unfold Func.isWrapper; first | (rw [if_pos (by decide +kernel)]; kernel_rfl) | (rw [if_neg (by decide +kernel)]; exact ⟨rfl, rfl⟩))
    (fun os started H enc _ => diffApplies_lifted os started H enc)
theorem diffApplies_holds : Rows.DiffAppliesCardSaid :=
  Claim7.holds_tied_plain_at .later [] [.data] true (true, "0adcaf8d00cb43af08ac25122e97ed505df8a36d426d2123d456469565280da3") false diffApplies_row (fun _ h => by cases h) (by kernel_rfl) (fun _ h => by cases h) diffApplies_row_tie rfl ⟨rfl, rfl⟩ (by kernel_rfl) rfl
    (fun f fn hf hfn => by
      obtain rfl : f = 4 := Option.some.inj ((show Tryd.prog.funcNamed Tryd.f4.name = some 4 by kernel_rfl).symm.trans hf) |>.symm
      obtain rfl : fn = Tryd.f4 := (Option.some.inj (Tryd.func4.symm.trans hfn)).symm
      exact ⟨by kernel_rfl, fun j t ht => by
        rw [Tryd.params4] at ht
        have hm : t ∈ [22, 25] := by simpa using Array.mem_of_getElem? ht
        have hall : ([22, 25].all fun u => !Tryd.prog.wantsStandIn u) = true := by kernel_rfl
        exact (show Tryd.prog.wantsStandIn t = false by simpa using List.all_eq_true.1 hall t hm)⟩)
    (by kernel_rfl)
#print axioms diffApplies_holds
end Go.Proofs.YtabenkmiojjiiaaDoor
