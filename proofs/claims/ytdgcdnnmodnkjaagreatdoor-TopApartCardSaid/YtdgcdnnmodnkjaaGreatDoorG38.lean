/- Part 38 of a proof that a step of one domain changes nothing of another: the machine of plain values, and what the program's functions do. -/
import Derived.Test.YtdgcdnnmodnkjaaGreatDoorG36
import Derived.Test.YtdgcdnnmodnkjaaGreatDoorG37
import Derived.LaidMore
import Derived.Lay
import Derived.OpenShut
import Derived.ProofKit
import Derived.SevenTiedAt
import Derived.Stop.Joined
import Derived.Test.YtdgcdnnmodnkjaaGreatDoorCards
import Derived.Test.YtdgcdnnmodnkjaaGreatDoorRows
import Derived.Test.YtdgcdnnmodnkjaaGreatDoorTie
set_option linter.all false
set_option linter.unusedVariables false
set_option linter.unusedSectionVars false
set_option linter.unusedSimpArgs false
set_option linter.defProp false
namespace Go.Proofs.YtdgcdnnmodnkjaaGreatDoor
open Go.ChangeShapes Go.WideShapes Go.ChangeAt Go.RowKit Go.Pv
theorem topApart_own:ownKnob Tryz.prog.godebug=none:=by kernel_rfl
theorem topApart_laid:laidOutB Tryz.prog=true:=by kernel_rfl
set_option maxRecDepth 100000 in
theorem topApart_lifted(os:Os)(started:os.Started)(H:Type)(enc:TypeId × Value→H) :
  ReturnsInHanded {} Tryz.checked os 3 .any (fun w args=>(Rows.topApartSpec.pre enc Tryz.prog Tryz.f3 Rows.topApartRow.domain false w args∧laidMetH Tryz.prog Rows.topApartRow.laid w)∧sizedMet enc Tryz.prog Tryz.f3 (OpenSpec.ofChange Rows.topApartSpec) false w args)
   (Rows.topApartSpec.post enc Tryz.prog Tryz.f3 false true false false):=by
 refine returnsInHanded_of_change_and (C:=Tryz.checked) (X:=fun w _=>laidMetH Tryz.prog Rows.topApartRow.laid w) (fun _ _ _ hh h=>h.of_heap hh) topApart_own started (by kernel_rfl) Tryz.func3
  (ChangeSpec.witness_shaped (enc:=enc) (C:=Tryz.checked) (os:=os) (X:=fun w _=>laidMetH Tryz.prog Rows.topApartRow.laid w) false (World.laidAll Tryz.prog os Rows.topApartRow.laid) #[(.slice none 0 0),(.slice none 0 0),(.agg #[(.int .i64 (0)),(.int .i64 (0)),(.int .i64 (0)),(.int .i64 (0)),(.slice none 0 0),(.slice none 0 0)])] 8 (World.laidAll_os _ _ _)
    (World.shaped_of_ZipB (by kernel_rfl) (by kernel_rfl)) (by kernel_rfl) (by kernel_rfl) (by kernel_rfl)
    (by rw [MakeChecks.laidMetH_plain _ _ _ (by kernel_rfl)]; exact laidMet_laidAll _ (by kernel_rfl) (by kernel_rfl))) ?_
 intro W base args ds gs before hval hW _ hsz hL _
 exact law_calls_sized (d:=6) (rt:=4) (fun ds h=>match ds,h with | [_,_,_],_=>rfl) rfl rfl Tryz.underlying4 (by kernel_rfl) (by kernel_rfl) topApart_laid (by kernel_rfl) (topApart_all) hval hW hsz trivial
theorem topApart_row:Rows.TopApartSaid :=
 OpenClaim.holds_of_wide 3 Tryz.f3 rfl rfl rfl rfl rfl rfl rfl ⟨rfl,rfl,rfl,rfl,rfl⟩ rfl rfl rfl rfl rfl jn Tryz.func3 jf ji jw
  (fun os started H enc _=>topApart_lifted os started H enc)
end Go.Proofs.YtdgcdnnmodnkjaaGreatDoor
