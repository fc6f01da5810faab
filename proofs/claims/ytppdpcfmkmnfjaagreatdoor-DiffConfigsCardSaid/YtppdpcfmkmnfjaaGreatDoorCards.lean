/-
  DERIVED. GIVEN WITH THE SEED: THE CARDS: each row of YtppdpcfmkmnfjaaGreatDoorRows.lean that lists a variable, with what it lists TIED to the program's text (the seventh form; the later family's looks); each row that meets fmt, with fmt's text TOLD by the authors' own Lean function (tested against real Go, not proved from fmt's source: count such statements apart). THE CARD IS WHAT COUNTS. Prove the row's statement (the work); the ties are given (YtppdpcfmkmnfjaaGreatDoorTie.lean); close each card by the builder's one call (the guide's Derived/Test/ToyasCard.lean, 'card_holds'). Laid BY PROGRAM, IN A SANDBOX (cutbox-door.mjs). By AI agents, Wed Nov 11 2026. No macro, syntax, notation, axiom, sorry.
-/
import Derived.Test.YtppdpcfmkmnfjaaGreatDoorRows
import GoSem.ClaimSeven
namespace Go.Proofs.YtppdpcfmkmnfjaaGreatDoor
namespace Rows

/-- THE TIED CARD OF 'palinglaw12.TextReads'. -/
def textReadsCard : Claim7 := { stood := { row := textReadsRow, standIns := [], harness := (true, "9080a86d82856350b711dc83f7e3da8d7d3caa9c94b7fa0d72d04bbc81534307"), looks := false }, kinds := [], alts := [], laidByText := true, laidKinds := [.data, .pinned], laidTests := true, laidLooks := .later }
def TextReadsCardSaid : Prop := Claim7.holds Tryz.pinned (.plain (OpenSpec.ofChange textReadsSpec)) textReadsCard

/-- THE TIED CARD OF 'palinglaw11.StmtReads'. -/
def stmtReadsCard : Claim7 := { stood := { row := stmtReadsRow, standIns := [], harness := (true, "9080a86d82856350b711dc83f7e3da8d7d3caa9c94b7fa0d72d04bbc81534307"), looks := false }, kinds := [], alts := [], laidByText := true, laidKinds := [.data, .listed, .data, .pinned], laidTests := true, laidLooks := .later }
def StmtReadsCardSaid : Prop := Claim7.holds Tryz.pinned (.plain (OpenSpec.ofChange stmtReadsSpec)) stmtReadsCard

/-- THE TIED CARD OF 'palinglaw48.DiffConfigs'. -/
def diffConfigsCard : Claim7 := { stood := { row := diffConfigsRow, standIns := [], harness := (true, "9080a86d82856350b711dc83f7e3da8d7d3caa9c94b7fa0d72d04bbc81534307"), looks := false }, kinds := [], alts := [], laidByText := true, laidKinds := [.data, .pinned], laidTests := true, laidLooks := .later }
def DiffConfigsCardSaid : Prop := Claim7.holds Tryz.pinned (.plain (OpenSpec.ofChange diffConfigsSpec)) diffConfigsCard

/-- THE TIED CARD OF 'palinglaw48.DiffAlike'. -/
def diffAlikeCard : Claim7 := { stood := { row := diffAlikeRow, standIns := [], harness := (true, "9080a86d82856350b711dc83f7e3da8d7d3caa9c94b7fa0d72d04bbc81534307"), looks := false }, kinds := [], alts := [], laidByText := true, laidKinds := [.data, .pinned], laidTests := true, laidLooks := .later }
def DiffAlikeCardSaid : Prop := Claim7.holds Tryz.pinned (.plain (OpenSpec.ofChange diffAlikeSpec)) diffAlikeCard

/-- THE SECOND FORM's CARD OF 'palinglaw12.TextReads'. -/
def textReadsUptoCard : Claim7 := { stood := { row := textReadsUptoRow, standIns := [], harness := (true, "9080a86d82856350b711dc83f7e3da8d7d3caa9c94b7fa0d72d04bbc81534307"), looks := false }, kinds := [], alts := [], laidByText := true, laidKinds := [.data, .pinned], laidTests := true, laidLooks := .later }
def TextReadsUptoCardSaid : Prop := Claim7.holds Tryz.pinned (.plain (OpenSpec.upto textReadsSpec)) textReadsUptoCard

/-- THE SECOND FORM's CARD OF 'palinglaw11.StmtReads'. -/
def stmtReadsUptoCard : Claim7 := { stood := { row := stmtReadsUptoRow, standIns := [], harness := (true, "9080a86d82856350b711dc83f7e3da8d7d3caa9c94b7fa0d72d04bbc81534307"), looks := false }, kinds := [], alts := [], laidByText := true, laidKinds := [.data, .listed, .data, .pinned], laidTests := true, laidLooks := .later }
def StmtReadsUptoCardSaid : Prop := Claim7.holds Tryz.pinned (.plain (OpenSpec.upto stmtReadsSpec)) stmtReadsUptoCard

/-- THE SECOND FORM's CARD OF 'palinglaw48.DiffConfigs'. -/
def diffConfigsUptoCard : Claim7 := { stood := { row := diffConfigsUptoRow, standIns := [], harness := (true, "9080a86d82856350b711dc83f7e3da8d7d3caa9c94b7fa0d72d04bbc81534307"), looks := false }, kinds := [], alts := [], laidByText := true, laidKinds := [.data, .pinned], laidTests := true, laidLooks := .later }
def DiffConfigsUptoCardSaid : Prop := Claim7.holds Tryz.pinned (.plain (OpenSpec.upto diffConfigsSpec)) diffConfigsUptoCard

/-- THE SECOND FORM's CARD OF 'palinglaw48.DiffAlike'. -/
def diffAlikeUptoCard : Claim7 := { stood := { row := diffAlikeUptoRow, standIns := [], harness := (true, "9080a86d82856350b711dc83f7e3da8d7d3caa9c94b7fa0d72d04bbc81534307"), looks := false }, kinds := [], alts := [], laidByText := true, laidKinds := [.data, .pinned], laidTests := true, laidLooks := .later }
def DiffAlikeUptoCardSaid : Prop := Claim7.holds Tryz.pinned (.plain (OpenSpec.upto diffAlikeSpec)) diffAlikeUptoCard
end Rows
end Go.Proofs.YtppdpcfmkmnfjaaGreatDoor
