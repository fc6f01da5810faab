/- The statement TopApart, as a card: for every input the law returns true, and each argument reads behind the call as it did, where the listed variables hold what the program's text lays. -/
import Derived.Test.YtdgcdnnmodnkjaaGreatDoorG38
import Derived.LaidMore
import Derived.Lay
import Derived.OpenShut
import Derived.ProofKit
import Derived.SevenTiedAt
import Derived.Stop.Joined
import Derived.Test.YtdgcdnnmodnkjaaGreatDoorCards
import Derived.Test.YtdgcdnnmodnkjaaGreatDoorRows
import Derived.Test.YtdgcdnnmodnkjaaGreatDoorTie
set_option linter.all false
set_option linter.unusedVariables false
set_option linter.unusedSectionVars false
set_option linter.unusedSimpArgs false
set_option linter.defProp false
namespace Go.Proofs.YtdgcdnnmodnkjaaGreatDoor
open Go.ChangeShapes Go.WideShapes Go.ChangeAt Go.RowKit Go.Pv
set_option maxRecDepth 100000
theorem jh6 : ∀ f fn, Tryz.prog.funcNamed Rows.topApartRow.func = some f → Tryz.prog.funcs[f]? = some fn → true = Tryz.prog.looks [] ∧ ∀ (j : Nat) t, fn.params[j]? = some t → Tryz.prog.wantsStandIn t = false := fun f fn hf hfn => by
  obtain rfl : f = 3 := Option.some.inj (jn.symm.trans hf) |>.symm
  obtain rfl : fn = Tryz.f3 := (Option.some.inj (Tryz.func3.symm.trans hfn)).symm
  exact ⟨jh3, fun j t ht => by
    rw [Tryz.params3] at ht
    have hm : t ∈ [22, 23, 27] := by simpa using Array.mem_of_getElem? ht
    exact (show Tryz.prog.wantsStandIn t = false by simpa using List.all_eq_true.1 jh4 t hm)⟩
theorem topApart_holds : Rows.TopApartCardSaid :=
  Claim7.holds_tied_plain_at .later [] [.data, .pinned] true (true, "7cfb804e14db23600661037dae88b63997b9b08adf07d6a4522922e4fa115468") true topApart_row (fun _ h => by cases h) jh1 (fun _ h => by cases h) topApart_row_tie rfl ⟨rfl, rfl⟩ jh2 rfl jh6 jh5
#print axioms topApart_holds
end Go.Proofs.YtdgcdnnmodnkjaaGreatDoor
