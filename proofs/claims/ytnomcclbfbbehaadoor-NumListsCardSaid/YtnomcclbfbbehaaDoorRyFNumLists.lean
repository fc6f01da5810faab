/- The statement of this claim. -/
import Derived.Test.YtnomcclbfbbehaaDoorPr9
import Derived.LaidMore
import Derived.Lay
import Derived.OpenShut
import Derived.ProofKit
import Derived.SevenTiedAt
import Derived.Stop.Joined
import Derived.Test.YtnomcclbfbbehaaDoorCards
import Derived.Test.YtnomcclbfbbehaaDoorRows
import Derived.Test.YtnomcclbfbbehaaDoorTie
/- The statement NumLists, as a card: for every input the law returns true, and each argument reads behind the call as it did, where the listed variables hold what the program's text lays. -/
namespace Go.Proofs.YtnomcclbfbbehaaDoor
open Go.ChangeShapes Go.WideShapes Go.ChangeAt Go.RowKit Go.Pv
theorem numLists_own : ownKnob Tryd.prog.godebug = none := by kernel_rfl
theorem numLists_laid : laidOutB Tryd.prog = true := by kernel_rfl
set_option maxRecDepth 100000 in
theorem numLists_lifted (os : Os) (started : os.Started) (H : Type) (enc : TypeId × Value → H) :
    ReturnsInHanded {} Tryd.checked os 8 .any (fun w args => (Rows.numListsSpec.pre enc Tryd.prog Tryd.f8 Rows.numListsRow.domain false w args ∧ laidMetH Tryd.prog Rows.numListsRow.laid w) ∧ sizedMet enc Tryd.prog Tryd.f8 (OpenSpec.ofChange Rows.numListsSpec) false w args)
      (Rows.numListsSpec.post enc Tryd.prog Tryd.f8 false true false false) := by
  refine returnsInHanded_of_change_and (C := Tryd.checked) (X := fun w _ => laidMetH Tryd.prog Rows.numListsRow.laid w) (fun _ _ _ hh h => h.of_heap hh) numLists_own started (by kernel_rfl) Tryd.func8
    (ChangeSpec.witness_shaped (enc := enc) (C := Tryd.checked) (os := os) (X := fun w _ => laidMetH Tryd.prog Rows.numListsRow.laid w) false (World.laidAll Tryd.prog os Rows.numListsRow.laid) #[(.string ⟨#[]⟩), (.int .i64 (0)), (.int .i64 (0)), (.slice none 0 0), (.slice none 0 0)] 8 (World.laidAll_os _ _ _)
      (World.shaped_of_ZipB (by kernel_rfl) (by kernel_rfl)) (by kernel_rfl) (by kernel_rfl) (by kernel_rfl)
      (by rw [MakeChecks.laidMetH_plain _ _ _ (by kernel_rfl)]; exact laidMet_laidAll _ (by kernel_rfl) (by kernel_rfl))) ?_
  intro W base args ds gs before hval hW _ _ _ _
  exact law_calls (d := 6) (rt := 4) (fun ds h => match ds, h with | [_, _, _, _, _], _ => rfl) rfl rfl Tryd.underlying4 (by kernel_rfl) numLists_laid (by kernel_rfl) (numLists_all) hval hW
theorem numLists_row : Rows.NumListsSaid :=
  OpenClaim.holds_of_wide 8 Tryd.f8 rfl rfl rfl rfl rfl rfl rfl ⟨rfl, rfl, rfl, rfl, rfl⟩ rfl rfl rfl rfl rfl (by kernel_rfl) Tryd.func8 (by kernel_rfl)
    (of_decide_eq_true (by kernel_rfl)) (by unfold Func.isWrapper; first | (rw [if_pos (by decide +kernel)]; kernel_rfl) | (rw [if_neg (by decide +kernel)]; exact ⟨rfl, rfl⟩))
    (fun os started H enc _ => numLists_lifted os started H enc)
theorem numLists_holds : Rows.NumListsCardSaid :=
  Claim7.holds_tied_plain_at .later [] [.data, .pinned] true (true, "64c0c70c82a574b8f80c7a0f1e9a995bf187a86d4a0ca1feb70e762d8bca5ee0") false numLists_row (fun _ h => by cases h) (by kernel_rfl) (fun _ h => by cases h) numLists_row_tie rfl ⟨rfl, rfl⟩ (by kernel_rfl) rfl
    (fun f fn hf hfn => by
      obtain rfl : f = 8 := Option.some.inj ((show Tryd.prog.funcNamed Tryd.f8.name = some 8 by kernel_rfl).symm.trans hf) |>.symm
      obtain rfl : fn = Tryd.f8 := (Option.some.inj (Tryd.func8.symm.trans hfn)).symm
      exact ⟨by kernel_rfl, fun j t ht => by
        rw [Tryd.params8] at ht
        have hm : t ∈ [9, 3, 3, 40, 39] := by simpa using Array.mem_of_getElem? ht
        have hall : ([9, 3, 3, 40, 39].all fun u => !Tryd.prog.wantsStandIn u) = true := by kernel_rfl
        exact (show Tryd.prog.wantsStandIn t = false by simpa using List.all_eq_true.1 hall t hm)⟩)
    (by kernel_rfl)
#print axioms numLists_holds
end Go.Proofs.YtnomcclbfbbehaaDoor
