/-
  DERIVED. GIVEN WITH THE SEED: THE CARDS: each row of YtppdpcfmkmnfjaaDoorRows.lean that lists a variable, with what it lists TIED to the program's text (the seventh form; the later family's looks); each row that meets fmt, with fmt's text TOLD by the authors' own Lean function (tested against real Go, not proved from fmt's source: count such statements apart). THE CARD IS WHAT COUNTS. Prove the row's statement (the work); the ties are given (YtppdpcfmkmnfjaaDoorTie.lean); close each card by the builder's one call (the guide's Derived/Test/ToyasCard.lean, 'card_holds'). Laid BY PROGRAM, IN A SANDBOX (cutbox-door.mjs). By AI agents, Wed Nov 11 2026. No macro, syntax, notation, axiom, sorry.
-/
import Derived.Test.YtppdpcfmkmnfjaaDoorRows
import GoSem.ClaimSeven
namespace Go.Proofs.YtppdpcfmkmnfjaaDoor
namespace Rows

/-- THE TIED CARD OF 'palinglaw12.TextSames'. -/
def textSamesCard : Claim7 := { stood := { row := textSamesRow, standIns := [], harness := (true, "872bc1976ea66d8a35e389100ba6ce8f8c3237ca2a831a532f245224feb441b8"), looks := false }, kinds := [], alts := [], laidByText := true, laidKinds := [.data, .pinned], laidTests := true, laidLooks := .later }
def TextSamesCardSaid : Prop := Claim7.holds Tryd.pinned (.plain (OpenSpec.ofChange textSamesSpec)) textSamesCard

/-- THE TIED CARD OF 'palinglaw12.TextBlanks'. -/
def textBlanksCard : Claim7 := { stood := { row := textBlanksRow, standIns := [], harness := (true, "872bc1976ea66d8a35e389100ba6ce8f8c3237ca2a831a532f245224feb441b8"), looks := false }, kinds := [], alts := [], laidByText := true, laidKinds := [.data, .pinned], laidTests := true, laidLooks := .later }
def TextBlanksCardSaid : Prop := Claim7.holds Tryd.pinned (.plain (OpenSpec.ofChange textBlanksSpec)) textBlanksCard

/-- THE TIED CARD OF 'palinglaw12.TextFirst'. -/
def textFirstCard : Claim7 := { stood := { row := textFirstRow, standIns := [], harness := (true, "872bc1976ea66d8a35e389100ba6ce8f8c3237ca2a831a532f245224feb441b8"), looks := false }, kinds := [], alts := [], laidByText := true, laidKinds := [.data, .pinned], laidTests := true, laidLooks := .later }
def TextFirstCardSaid : Prop := Claim7.holds Tryd.pinned (.plain (OpenSpec.ofChange textFirstSpec)) textFirstCard

/-- THE TIED CARD OF 'palinglaw11.StmtRights'. -/
def stmtRightsCard : Claim7 := { stood := { row := stmtRightsRow, standIns := [], harness := (true, "872bc1976ea66d8a35e389100ba6ce8f8c3237ca2a831a532f245224feb441b8"), looks := false }, kinds := [], alts := [], laidByText := true, laidKinds := [.data, .listed, .data, .pinned], laidTests := true, laidLooks := .later }
def StmtRightsCardSaid : Prop := Claim7.holds Tryd.pinned (.plain (OpenSpec.ofChange stmtRightsSpec)) stmtRightsCard

/-- THE TIED CARD OF 'palinglaw13.PlainOnce'. -/
def plainOnceCard : Claim7 := { stood := { row := plainOnceRow, standIns := [], harness := (true, "872bc1976ea66d8a35e389100ba6ce8f8c3237ca2a831a532f245224feb441b8"), looks := false }, kinds := [], alts := [], laidByText := true, laidKinds := [.data, .pinned], laidTests := true, laidLooks := .later }
def PlainOnceCardSaid : Prop := Claim7.holds Tryd.pinned (.plain (OpenSpec.ofChange plainOnceSpec)) plainOnceCard

/-- THE SECOND FORM's CARD OF 'palinglaw12.TextSames'. -/
def textSamesUptoCard : Claim7 := { stood := { row := textSamesUptoRow, standIns := [], harness := (true, "872bc1976ea66d8a35e389100ba6ce8f8c3237ca2a831a532f245224feb441b8"), looks := false }, kinds := [], alts := [], laidByText := true, laidKinds := [.data, .pinned], laidTests := true, laidLooks := .later }
def TextSamesUptoCardSaid : Prop := Claim7.holds Tryd.pinned (.plain (OpenSpec.upto textSamesSpec)) textSamesUptoCard

/-- THE SECOND FORM's CARD OF 'palinglaw12.TextBlanks'. -/
def textBlanksUptoCard : Claim7 := { stood := { row := textBlanksUptoRow, standIns := [], harness := (true, "872bc1976ea66d8a35e389100ba6ce8f8c3237ca2a831a532f245224feb441b8"), looks := false }, kinds := [], alts := [], laidByText := true, laidKinds := [.data, .pinned], laidTests := true, laidLooks := .later }
def TextBlanksUptoCardSaid : Prop := Claim7.holds Tryd.pinned (.plain (OpenSpec.upto textBlanksSpec)) textBlanksUptoCard

/-- THE SECOND FORM's CARD OF 'palinglaw12.TextFirst'. -/
def textFirstUptoCard : Claim7 := { stood := { row := textFirstUptoRow, standIns := [], harness := (true, "872bc1976ea66d8a35e389100ba6ce8f8c3237ca2a831a532f245224feb441b8"), looks := false }, kinds := [], alts := [], laidByText := true, laidKinds := [.data, .pinned], laidTests := true, laidLooks := .later }
def TextFirstUptoCardSaid : Prop := Claim7.holds Tryd.pinned (.plain (OpenSpec.upto textFirstSpec)) textFirstUptoCard

/-- THE SECOND FORM's CARD OF 'palinglaw11.StmtRights'. -/
def stmtRightsUptoCard : Claim7 := { stood := { row := stmtRightsUptoRow, standIns := [], harness := (true, "872bc1976ea66d8a35e389100ba6ce8f8c3237ca2a831a532f245224feb441b8"), looks := false }, kinds := [], alts := [], laidByText := true, laidKinds := [.data, .listed, .data, .pinned], laidTests := true, laidLooks := .later }
def StmtRightsUptoCardSaid : Prop := Claim7.holds Tryd.pinned (.plain (OpenSpec.upto stmtRightsSpec)) stmtRightsUptoCard

/-- THE SECOND FORM's CARD OF 'palinglaw13.PlainOnce'. -/
def plainOnceUptoCard : Claim7 := { stood := { row := plainOnceUptoRow, standIns := [], harness := (true, "872bc1976ea66d8a35e389100ba6ce8f8c3237ca2a831a532f245224feb441b8"), looks := false }, kinds := [], alts := [], laidByText := true, laidKinds := [.data, .pinned], laidTests := true, laidLooks := .later }
def PlainOnceUptoCardSaid : Prop := Claim7.holds Tryd.pinned (.plain (OpenSpec.upto plainOnceSpec)) plainOnceUptoCard
end Rows
end Go.Proofs.YtppdpcfmkmnfjaaDoor
