/- The statement of this claim. -/
import Derived.Test.YtppdpcfmkmnfjaaGreatDoorPr11
import Derived.LaidMore
import Derived.Lay
import Derived.OpenShut
import Derived.ProofKit
import Derived.SevenTiedAt
import Derived.Stop.Joined
import Derived.Test.YtppdpcfmkmnfjaaGreatDoorCards
import Derived.Test.YtppdpcfmkmnfjaaGreatDoorRows
import Derived.Test.YtppdpcfmkmnfjaaGreatDoorTie
/- The statement StmtReads, as a card: for every input the law returns true, and each argument reads behind the call as it did, where the listed variables hold what the program's text lays. -/
set_option linter.unusedVariables false
namespace Go.Proofs.YtppdpcfmkmnfjaaGreatDoor
open Go.ChangeShapes Go.WideShapes Go.ChangeAt Go.RowKit Go.Pv
theorem stmtReads_own : ownKnob Tryz.prog.godebug = none:=by kernel_rfl
theorem stmtReads_laid : laidOutB Tryz.prog = true:=by kernel_rfl
set_option maxRecDepth 100000 in
theorem stmtReads_lifted (os : Os) (started : os.Started) (H : Type) (enc : TypeId × Value → H) :
  ReturnsInHanded {} Tryz.checked os 4 .any (fun w args=>(Rows.stmtReadsSpec.pre enc Tryz.prog Tryz.f4 Rows.stmtReadsRow.domain false w args ∧ laidMetH Tryz.prog Rows.stmtReadsRow.laid w) ∧ sizedMet enc Tryz.prog Tryz.f4 (OpenSpec.ofChange Rows.stmtReadsSpec) false w args)
   (Rows.stmtReadsSpec.post enc Tryz.prog Tryz.f4 false true false false):=by
 refine returnsInHanded_of_change_and (C:=Tryz.checked) (X:=fun w _=>laidMetH Tryz.prog Rows.stmtReadsRow.laid w) (fun _ _ _ hh h=>h.of_heap hh) stmtReads_own started (by kernel_rfl) Tryz.func4
  (ChangeSpec.witness_shaped (enc:=enc) (C:=Tryz.checked) (os:=os) (X:=fun w _=>laidMetH Tryz.prog Rows.stmtReadsRow.laid w) false (World.laidAll Tryz.prog os Rows.stmtReadsRow.laid) #[(.slice none 0 0), (.int .i64 (0))] 8 (World.laidAll_os _ _ _)
    (World.shaped_of_ZipB (by kernel_rfl) (by kernel_rfl)) (by kernel_rfl) (by kernel_rfl) (by kernel_rfl)
    (by rw [MakeChecks.laidMetH_plain _ _ _ (by kernel_rfl)]; exact laidMet_laidAll _ (by kernel_rfl) (by kernel_rfl))) ?_
 intro W base args ds gs before hval hW _ _ hL _
 exact law_calls (d:=6) (rt:=4) (fun ds h=>match ds, h with | [_, _], _=>rfl) rfl rfl Tryz.underlying4 (by kernel_rfl) stmtReads_laid (by kernel_rfl) (stmtReads_all) hval hW (tab_q (MakeChecks.laidMetH_plain _ _ _ (by kernel_rfl) ▸ hL) fun _ h=>h)
theorem stmtReads_row : Rows.StmtReadsSaid :=
 OpenClaim.holds_of_wide 4 Tryz.f4 rfl rfl rfl rfl rfl rfl rfl ⟨rfl, rfl, rfl, rfl, rfl⟩ rfl rfl rfl rfl rfl (by kernel_rfl) Tryz.func4 (by kernel_rfl)
  (of_decide_eq_true (by kernel_rfl)) (by unfold Func.isWrapper; first | (rw [if_pos (by decide +kernel)]; kernel_rfl) | (rw [if_neg (by decide +kernel)]; exact ⟨rfl, rfl⟩))
  (fun os started H enc _=>stmtReads_lifted os started H enc)
theorem stmtReads_holds : Rows.StmtReadsCardSaid :=
 Claim7.holds_tied_plain_at .later [] [.data, .listed, .data, .pinned] true (true, "9080a86d82856350b711dc83f7e3da8d7d3caa9c94b7fa0d72d04bbc81534307") false stmtReads_row (fun _ h=>by cases h) (by kernel_rfl) (fun _ h=>by cases h) stmtReads_row_tie rfl ⟨rfl, rfl⟩ (by kernel_rfl) rfl
  (fun f fn hf hfn=>by
    obtain rfl : f = 4:=Option.some.inj ((show Tryz.prog.funcNamed Tryz.f4.name = some 4 by kernel_rfl).symm.trans hf) |>.symm
    obtain rfl : fn = Tryz.f4:=(Option.some.inj (Tryz.func4.symm.trans hfn)).symm
    exact ⟨by kernel_rfl, fun j t ht=>by
     rw [Tryz.params4] at ht
     have hm : t ∈ [32, 3]:=by simpa using Array.mem_of_getElem? ht
     have hall : ([32, 3].all fun u=>!Tryz.prog.wantsStandIn u) = true:=by kernel_rfl
     exact (show Tryz.prog.wantsStandIn t = false by simpa using List.all_eq_true.1 hall t hm)⟩)
  (by kernel_rfl)
#print axioms stmtReads_holds
end Go.Proofs.YtppdpcfmkmnfjaaGreatDoor
