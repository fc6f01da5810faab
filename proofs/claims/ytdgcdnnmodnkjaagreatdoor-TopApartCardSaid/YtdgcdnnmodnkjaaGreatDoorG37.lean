/- Part 37 of a proof that a step of one domain changes nothing of another: the machine of plain values, and what the program's functions do. -/
import Derived.Test.YtdgcdnnmodnkjaaGreatDoorG9
import Derived.LaidMore
import Derived.Lay
import Derived.OpenShut
import Derived.ProofKit
import Derived.SevenTiedAt
import Derived.Stop.Joined
import Derived.Test.YtdgcdnnmodnkjaaGreatDoorCards
import Derived.Test.YtdgcdnnmodnkjaaGreatDoorRows
import Derived.Test.YtdgcdnnmodnkjaaGreatDoorTie
set_option linter.all false
set_option linter.unusedVariables false
set_option linter.unusedSectionVars false
set_option linter.unusedSimpArgs false
set_option linter.defProp false
namespace Go.Proofs.YtdgcdnnmodnkjaaGreatDoor
open Go.ChangeShapes Go.WideShapes Go.ChangeAt Go.RowKit Go.Pv
set_option maxRecDepth 100000
theorem jf0:(Rows.topApartRow.wf (OpenSpec.ofChange Rows.topApartSpec))=true:=by kernel_rfl
theorem jf1:(laidOutB Tryz.prog)=true:=by kernel_rfl
theorem jf2:(mapsRowed Tryz.prog)=true:=by kernel_rfl
theorem jf3:(Tryz.f3.params.all (Tryz.prog.readableRec ·))=true:=by kernel_rfl
theorem jf4:(namedTie Tryz.prog Rows.topApartRow.named Rows.topApartSpec.vars)=true:=by kernel_rfl
theorem jf5:((Rows.topApartRow.stops == []))=true:=by kernel_rfl
theorem jf6:((Tryz.prog.stops == []))=true:=by kernel_rfl
theorem jf7:((Rows.topApartRow.knobs == []))=true:=by kernel_rfl
theorem jf8:((Tryz.prog.stopKnobs == []))=true:=by kernel_rfl
theorem jf9:((Rows.topApartRow.inPlace == Tryz.prog.inPlace 3))=true:=by kernel_rfl
theorem jf10:((Rows.topApartRow.unfollowed == Tryz.prog.unfollowed 3))=true:=by kernel_rfl
theorem jf11:((Rows.topApartRow.recurses == Tryz.prog.recurses 3))=true:=by kernel_rfl
theorem jf12:((Rows.topApartRow.named == Tryz.prog.varsNamed 3))=true:=by kernel_rfl
theorem jf13:((Rows.topApartRow.maps ==(Tryz.f3.params.toList ++ Rows.topApartSpec.plain.varTypes Tryz.prog).any (Tryz.prog.mapsRec ·)))=true:=by kernel_rfl
theorem jf14:((Rows.topApartRow.ifaces ==(Tryz.f3.params.toList ++ Rows.topApartSpec.plain.varTypes Tryz.prog).any (Tryz.prog.ifacesRec ·)))=true:=by kernel_rfl
theorem jf15:((Rows.topApartRow.mapsOut == Tryz.prog.mapsAmong Tryz.f3.resultTypes.toList))=true:=by kernel_rfl
theorem jf16:((Rows.topApartRow.loops ==(Tryz.f3.params.toList ++ Rows.topApartSpec.plain.varTypes Tryz.prog).any (Tryz.prog.loopsFrom ·)))=true:=by kernel_rfl
theorem jf17:((Rows.topApartRow.wideKeys ==(Tryz.f3.params.toList ++ Rows.topApartSpec.plain.varTypes Tryz.prog ++ Tryz.f3.resultTypes.toList).any (Tryz.prog.wideKeysFrom ·)))=true:=by kernel_rfl
theorem jf18:(Rows.topApartSpec.vars.all (Tryz.prog.varReadable ·))=true:=by kernel_rfl
theorem jf19:(Tryz.f3.resultTypes.all (fun t=>Tryz.prog.readableRec t && decide (t < Tryz.prog.types.size)))=true:=by kernel_rfl
theorem jf20:((Rows.topApartRow.ifacesOut == Tryz.f3.resultTypes.toList.any (Tryz.prog.ifacesRec ·)))=true:=by kernel_rfl
theorem jf21:((Rows.topApartRow.loopsOut == Tryz.f3.resultTypes.toList.any (Tryz.prog.loopsFrom ·)))=true:=by kernel_rfl
theorem jf22:((Rows.topApartRow.plainKeys == Tryz.prog.plainKeys))=true:=by kernel_rfl
theorem jf23:(Rows.topApartRow.shortTexts.isNone)=true:=by kernel_rfl
theorem jf24:(Tryz.prog.stopsHeard)=true:=by kernel_rfl
theorem jf25:(Tryz.prog.mayEnter)=true:=by kernel_rfl
theorem jf26:((Rows.topApartRow.lifted == Tryz.prog.liftsFinal))=true:=by kernel_rfl
theorem jf27:((Tryz.prog.make == some Rows.topApartRow.make))=true:=by kernel_rfl
theorem jf28:((Rows.topApartRow.kinds ==(if Rows.topApartRow.domain.isEmpty then [] else Tryz.f3.params.toList.map fun t=>match Tryz.prog.underlying t with | some (.int k)=>some k | _=>none)))=true:=by kernel_rfl
theorem jf29:((Rows.topApartRow.pinned == Rows.topApartRow.pinnedBy))=true:=by kernel_rfl
theorem jf30:((Rows.topApartRow.veiled ==(Tryz.f3.params.toList ++ Rows.topApartSpec.plain.varTypes Tryz.prog ++ Tryz.f3.resultTypes.toList).any (Tryz.prog.veiledRec ·)))=true:=by kernel_rfl
theorem jf31:(Rows.topApartRow.veiledFits Tryz.prog Tryz.f3.params.toList (Tryz.f3.params.toList ++ Rows.topApartSpec.plain.varTypes Tryz.prog ++ Tryz.f3.resultTypes.toList))=true:=by kernel_rfl
theorem jb{a b:Bool}(h:a=true)(k:b=true):(a && b)=true:=by rw [h,k]; rfl
theorem jf:joinedFacts Tryz.prog 3 Tryz.f3 Rows.topApartSpec Rows.topApartRow=true:=jb (jb (jb (jb (jb (jb (jb (jb (jb (jb (jb (jb (jb (jb (jb (jb (jb (jb (jb (jb (jb (jb (jb (jb (jb (jb (jb (jb (jb (jb (jb (jf0) jf1) jf2) jf3) jf4) jf5) jf6) jf7) jf8) jf9) jf10) jf11) jf12) jf13) jf14) jf15) jf16) jf17) jf18) jf19) jf20) jf21) jf22) jf23) jf24) jf25) jf26) jf27) jf28) jf29) jf30) jf31
theorem jn:Tryz.prog.funcNamed Rows.topApartRow.func=some 3:=by kernel_rfl
theorem ji:Tryz.f3.isInstance Tryz.prog Rows.topApartRow.origin Rows.topApartRow.targs:=of_decide_eq_true (by kernel_rfl)
theorem jw:Tryz.f3.isWrapper Tryz.prog Rows.topApartRow.wrapper Rows.topApartRow.mainSum:=by unfold Func.isWrapper; first | (rw [if_pos (by decide +kernel)]; kernel_rfl) | (rw [if_neg (by decide +kernel)]; exact⟨rfl,rfl⟩)
theorem jh1:Rows.topApartRow.wfByText (OpenSpec.ofChange Rows.topApartSpec)=true:=by kernel_rfl
theorem jh2:Tryz.prog.mainIs=some (true,"7cfb804e14db23600661037dae88b63997b9b08adf07d6a4522922e4fa115468".toList):=by kernel_rfl
theorem jh3:true=Tryz.prog.looks []:=by kernel_rfl
theorem jh4:([22,23,27].all fun u=>!Tryz.prog.wantsStandIn u)=true:=by kernel_rfl
theorem jh5:false=Rows.topApartRow.goesBy Tryz.prog:=by kernel_rfl
end Go.Proofs.YtdgcdnnmodnkjaaGreatDoor
