/- The statement of this claim. -/
import Derived.Test.YtppdpcfmkmnfjaaGreatDoorPr15
import Derived.LaidMore
import Derived.Lay
import Derived.OpenShut
import Derived.ProofKit
import Derived.SevenTiedAt
import Derived.Stop.Joined
import Derived.Test.YtppdpcfmkmnfjaaGreatDoorCards
import Derived.Test.YtppdpcfmkmnfjaaGreatDoorRows
import Derived.Test.YtppdpcfmkmnfjaaGreatDoorTie
/- The statement DiffConfigs, as a card: for every input the law returns true, and each argument reads behind the call as it did, where the listed variables hold what the program's text lays. -/
set_option linter.unusedVariables false
namespace Go.Proofs.YtppdpcfmkmnfjaaGreatDoor
open Go.ChangeShapes Go.WideShapes Go.ChangeAt Go.RowKit Go.Pv
theorem diffConfigs_own:ownKnob Tryz.prog.godebug=none:=by kernel_rfl
theorem diffConfigs_laid:laidOutB Tryz.prog=true:=by kernel_rfl
set_option maxRecDepth 100000 in
theorem diffConfigs_lifted(os:Os)(started:os.Started)(H:Type)(enc:TypeId × Value→H) :
  ReturnsInHanded {} Tryz.checked os 5 .any (fun w args=>(Rows.diffConfigsSpec.pre enc Tryz.prog Tryz.f5 Rows.diffConfigsRow.domain false w args∧laidMetH Tryz.prog Rows.diffConfigsRow.laid w)∧sizedMet enc Tryz.prog Tryz.f5 (OpenSpec.ofChange Rows.diffConfigsSpec) false w args)
   (Rows.diffConfigsSpec.post enc Tryz.prog Tryz.f5 false true false false):=by
 refine returnsInHanded_of_change_and (C:=Tryz.checked) (X:=fun w _=>laidMetH Tryz.prog Rows.diffConfigsRow.laid w) (fun _ _ _ hh h=>h.of_heap hh) diffConfigs_own started (by kernel_rfl) Tryz.func5
  (ChangeSpec.witness_shaped (enc:=enc) (C:=Tryz.checked) (os:=os) (X:=fun w _=>laidMetH Tryz.prog Rows.diffConfigsRow.laid w) false (World.laidAll Tryz.prog os Rows.diffConfigsRow.laid) #[(.slice none 0 0),(.slice none 0 0)] 8 (World.laidAll_os _ _ _)
    (World.shaped_of_ZipB (by kernel_rfl) (by kernel_rfl)) (by kernel_rfl) (by kernel_rfl) (by kernel_rfl)
    (by rw [MakeChecks.laidMetH_plain _ _ _ (by kernel_rfl)]; exact laidMet_laidAll _ (by kernel_rfl) (by kernel_rfl))) ?_
 intro W base args ds gs before hval hW _ _ hL _
 exact law_calls (d:=6) (rt:=4) (fun ds h=>match ds,h with | [_,_],_=>rfl) rfl rfl Tryz.underlying4 (by kernel_rfl) diffConfigs_laid (by kernel_rfl) (diffConfigs_all) hval hW trivial
theorem diffConfigs_row:Rows.DiffConfigsSaid :=
 OpenClaim.holds_of_wide 5 Tryz.f5 rfl rfl rfl rfl rfl rfl rfl ⟨rfl,rfl,rfl,rfl,rfl⟩ rfl rfl rfl rfl rfl (by kernel_rfl) Tryz.func5 (by kernel_rfl)
  (of_decide_eq_true (by kernel_rfl)) (by unfold Func.isWrapper; first | (rw [if_pos (by decide +kernel)]; kernel_rfl) | (rw [if_neg (by decide +kernel)]; exact⟨rfl,rfl⟩))
  (fun os started H enc _=>diffConfigs_lifted os started H enc)
theorem diffConfigs_holds:Rows.DiffConfigsCardSaid :=
 Claim7.holds_tied_plain_at .later [] [.data,.pinned] true (true,"9080a86d82856350b711dc83f7e3da8d7d3caa9c94b7fa0d72d04bbc81534307") false diffConfigs_row (fun _ h=>by cases h) (by kernel_rfl) (fun _ h=>by cases h) diffConfigs_row_tie rfl ⟨rfl,rfl⟩ (by kernel_rfl) rfl
  (fun f fn hf hfn=>by
    obtain rfl:f=5:=Option.some.inj ((show Tryz.prog.funcNamed Tryz.f5.name=some 5 by kernel_rfl).symm.trans hf) |>.symm
    obtain rfl:fn=Tryz.f5:=(Option.some.inj (Tryz.func5.symm.trans hfn)).symm
    exact⟨by kernel_rfl,fun j t ht=>by
     rw [Tryz.params5] at ht
     have hm:t∈[22,22]:=by simpa using Array.mem_of_getElem? ht
     have hall:([22,22].all fun u=>!Tryz.prog.wantsStandIn u)=true:=by kernel_rfl
     exact(show Tryz.prog.wantsStandIn t=false by simpa using List.all_eq_true.1 hall t hm)⟩)
  (by kernel_rfl)
#print axioms diffConfigs_holds
end Go.Proofs.YtppdpcfmkmnfjaaGreatDoor
