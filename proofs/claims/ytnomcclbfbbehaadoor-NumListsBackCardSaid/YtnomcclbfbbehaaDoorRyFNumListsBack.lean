/- The statement of this claim. -/
import Derived.Test.YtnomcclbfbbehaaDoorPr6
import Derived.LaidMore
import Derived.Lay
import Derived.OpenShut
import Derived.ProofKit
import Derived.SevenTiedAt
import Derived.Stop.Joined
import Derived.Test.YtnomcclbfbbehaaDoorCards
import Derived.Test.YtnomcclbfbbehaaDoorRows
import Derived.Test.YtnomcclbfbbehaaDoorTie
/- The statement NumListsBack, as a card: for every input the law returns true, and each argument reads behind the call as it did, where the listed variables hold what the program's text lays. -/
namespace Go.Proofs.YtnomcclbfbbehaaDoor
open Go.ChangeShapes Go.WideShapes Go.ChangeAt Go.RowKit Go.Pv
theorem numListsBack_own : ownKnob Tryd.prog.godebug = none := by kernel_rfl
theorem numListsBack_laid : laidOutB Tryd.prog = true := by kernel_rfl
set_option maxRecDepth 100000 in
theorem numListsBack_lifted (os : Os) (started : os.Started) (H : Type) (enc : TypeId × Value → H) :
    ReturnsInHanded {} Tryd.checked os 7 .any (fun w args => (Rows.numListsBackSpec.pre enc Tryd.prog Tryd.f7 Rows.numListsBackRow.domain false w args ∧ laidMetH Tryd.prog Rows.numListsBackRow.laid w) ∧ sizedMet enc Tryd.prog Tryd.f7 (OpenSpec.ofChange Rows.numListsBackSpec) false w args)
      (Rows.numListsBackSpec.post enc Tryd.prog Tryd.f7 false true false false) := by
  refine returnsInHanded_of_change_and (C := Tryd.checked) (X := fun w _ => laidMetH Tryd.prog Rows.numListsBackRow.laid w) (fun _ _ _ hh h => h.of_heap hh) numListsBack_own started (by kernel_rfl) Tryd.func7
    (ChangeSpec.witness_shaped (enc := enc) (C := Tryd.checked) (os := os) (X := fun w _ => laidMetH Tryd.prog Rows.numListsBackRow.laid w) false (World.laidAll Tryd.prog os Rows.numListsBackRow.laid) #[(.slice none 0 0), (.slice none 0 0)] 8 (World.laidAll_os _ _ _)
      (World.shaped_of_ZipB (by kernel_rfl) (by kernel_rfl)) (by kernel_rfl) (by kernel_rfl) (by kernel_rfl)
      (by rw [MakeChecks.laidMetH_plain _ _ _ (by kernel_rfl)]; exact laidMet_laidAll _ (by kernel_rfl) (by kernel_rfl))) ?_
  intro W base args ds gs before hval hW _ _ _ _
  exact law_calls (d := 6) (rt := 4) (fun ds h => match ds, h with | [_, _], _ => rfl) rfl rfl Tryd.underlying4 (by kernel_rfl) numListsBack_laid (by kernel_rfl) (numListsBack_all) hval hW
theorem numListsBack_row : Rows.NumListsBackSaid :=
  OpenClaim.holds_of_wide 7 Tryd.f7 rfl rfl rfl rfl rfl rfl rfl ⟨rfl, rfl, rfl, rfl, rfl⟩ rfl rfl rfl rfl rfl (by kernel_rfl) Tryd.func7 (by kernel_rfl)
    (of_decide_eq_true (by kernel_rfl)) (by unfold Func.isWrapper; first | (rw [if_pos (by decide +kernel)]; kernel_rfl) | (rw [if_neg (by decide +kernel)]; exact ⟨rfl, rfl⟩))
    (fun os started H enc _ => numListsBack_lifted os started H enc)
theorem numListsBack_holds : Rows.NumListsBackCardSaid :=
  Claim7.holds_tied_plain_at .later [] [.data, .pinned] true (true, "64c0c70c82a574b8f80c7a0f1e9a995bf187a86d4a0ca1feb70e762d8bca5ee0") false numListsBack_row (fun _ h => by cases h) (by kernel_rfl) (fun _ h => by cases h) numListsBack_row_tie rfl ⟨rfl, rfl⟩ (by kernel_rfl) rfl
    (fun f fn hf hfn => by
      obtain rfl : f = 7 := Option.some.inj ((show Tryd.prog.funcNamed Tryd.f7.name = some 7 by kernel_rfl).symm.trans hf) |>.symm
      obtain rfl : fn = Tryd.f7 := (Option.some.inj (Tryd.func7.symm.trans hfn)).symm
      exact ⟨by kernel_rfl, fun j t ht => by
        rw [Tryd.params7] at ht
        have hm : t ∈ [38, 39] := by simpa using Array.mem_of_getElem? ht
        have hall : ([38, 39].all fun u => !Tryd.prog.wantsStandIn u) = true := by kernel_rfl
        exact (show Tryd.prog.wantsStandIn t = false by simpa using List.all_eq_true.1 hall t hm)⟩)
    (by kernel_rfl)
#print axioms numListsBack_holds
end Go.Proofs.YtnomcclbfbbehaaDoor
