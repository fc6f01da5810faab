/-
  DERIVED. GIVEN WITH THE SEED: THE CARDS: each row of YtnomcclbfbbehaaDoorRows.lean that lists a variable, with what it lists TIED to the program's text (the seventh form; the later family's looks); each row that meets fmt, with fmt's text TOLD by the authors' own Lean function (tested against real Go, not proved from fmt's source: count such statements apart). THE CARD IS WHAT COUNTS. Prove the row's statement (the work); the ties are given (YtnomcclbfbbehaaDoorTie.lean); close each card by the builder's one call (the guide's Derived/Test/ToyasCard.lean, 'card_holds'). Laid BY PROGRAM, IN A SANDBOX (cutbox-door.mjs). By AI agents, Wed Nov 11 2026. No macro, syntax, notation, axiom, sorry.
-/
import Derived.Test.YtnomcclbfbbehaaDoorRows
import GoSem.ClaimSeven
namespace Go.Proofs.YtnomcclbfbbehaaDoor
namespace Rows

/-- THE TIED CARD OF 'palinglaw02.AddrTexts'. -/
def addrTextsCard : Claim7 := { stood := { row := addrTextsRow, standIns := [], harness := (true, "64c0c70c82a574b8f80c7a0f1e9a995bf187a86d4a0ca1feb70e762d8bca5ee0"), looks := false }, kinds := [], alts := [], laidByText := true, laidKinds := [.data, .pinned], laidTests := true, laidLooks := .later }
def AddrTextsCardSaid : Prop := Claim7.holds Tryd.pinned (.plain (OpenSpec.ofChange addrTextsSpec)) addrTextsCard

/-- THE TIED CARD OF 'palinglaw02.AddrBack'. -/
def addrBackCard : Claim7 := { stood := { row := addrBackRow, standIns := [], harness := (true, "64c0c70c82a574b8f80c7a0f1e9a995bf187a86d4a0ca1feb70e762d8bca5ee0"), looks := false }, kinds := [], alts := [], laidByText := true, laidKinds := [.data, .pinned], laidTests := true, laidLooks := .later }
def AddrBackCardSaid : Prop := Claim7.holds Tryd.pinned (.plain (OpenSpec.ofChange addrBackSpec)) addrBackCard

/-- THE TIED CARD OF 'palinglaw02.AddrPrefixes'. -/
def addrPrefixesCard : Claim7 := { stood := { row := addrPrefixesRow, standIns := [], harness := (true, "64c0c70c82a574b8f80c7a0f1e9a995bf187a86d4a0ca1feb70e762d8bca5ee0"), looks := false }, kinds := [], alts := [], laidByText := true, laidKinds := [.data, .pinned], laidTests := true, laidLooks := .later }
def AddrPrefixesCardSaid : Prop := Claim7.holds Tryd.pinned (.plain (OpenSpec.ofChange addrPrefixesSpec)) addrPrefixesCard

/-- THE TIED CARD OF 'palinglaw02.AddrApart'. -/
def addrApartCard : Claim7 := { stood := { row := addrApartRow, standIns := [], harness := (true, "64c0c70c82a574b8f80c7a0f1e9a995bf187a86d4a0ca1feb70e762d8bca5ee0"), looks := false }, kinds := [], alts := [], laidByText := true, laidKinds := [.data, .pinned], laidTests := true, laidLooks := .later }
def AddrApartCardSaid : Prop := Claim7.holds Tryd.pinned (.plain (OpenSpec.ofChange addrApartSpec)) addrApartCard

/-- THE TIED CARD OF 'palinglaw03.NumListsBack'. -/
def numListsBackCard : Claim7 := { stood := { row := numListsBackRow, standIns := [], harness := (true, "64c0c70c82a574b8f80c7a0f1e9a995bf187a86d4a0ca1feb70e762d8bca5ee0"), looks := false }, kinds := [], alts := [], laidByText := true, laidKinds := [.data, .pinned], laidTests := true, laidLooks := .later }
def NumListsBackCardSaid : Prop := Claim7.holds Tryd.pinned (.plain (OpenSpec.ofChange numListsBackSpec)) numListsBackCard

/-- THE TIED CARD OF 'palinglaw03.NumLists'. -/
def numListsCard : Claim7 := { stood := { row := numListsRow, standIns := [], harness := (true, "64c0c70c82a574b8f80c7a0f1e9a995bf187a86d4a0ca1feb70e762d8bca5ee0"), looks := false }, kinds := [], alts := [], laidByText := true, laidKinds := [.data, .pinned], laidTests := true, laidLooks := .later }
def NumListsCardSaid : Prop := Claim7.holds Tryd.pinned (.plain (OpenSpec.ofChange numListsSpec)) numListsCard

/-- THE SECOND FORM's CARD OF 'palinglaw02.AddrTexts'. -/
def addrTextsUptoCard : Claim7 := { stood := { row := addrTextsUptoRow, standIns := [], harness := (true, "64c0c70c82a574b8f80c7a0f1e9a995bf187a86d4a0ca1feb70e762d8bca5ee0"), looks := false }, kinds := [], alts := [], laidByText := true, laidKinds := [.data, .pinned], laidTests := true, laidLooks := .later }
def AddrTextsUptoCardSaid : Prop := Claim7.holds Tryd.pinned (.plain (OpenSpec.upto addrTextsSpec)) addrTextsUptoCard

/-- THE SECOND FORM's CARD OF 'palinglaw02.AddrBack'. -/
def addrBackUptoCard : Claim7 := { stood := { row := addrBackUptoRow, standIns := [], harness := (true, "64c0c70c82a574b8f80c7a0f1e9a995bf187a86d4a0ca1feb70e762d8bca5ee0"), looks := false }, kinds := [], alts := [], laidByText := true, laidKinds := [.data, .pinned], laidTests := true, laidLooks := .later }
def AddrBackUptoCardSaid : Prop := Claim7.holds Tryd.pinned (.plain (OpenSpec.upto addrBackSpec)) addrBackUptoCard

/-- THE SECOND FORM's CARD OF 'palinglaw02.AddrPrefixes'. -/
def addrPrefixesUptoCard : Claim7 := { stood := { row := addrPrefixesUptoRow, standIns := [], harness := (true, "64c0c70c82a574b8f80c7a0f1e9a995bf187a86d4a0ca1feb70e762d8bca5ee0"), looks := false }, kinds := [], alts := [], laidByText := true, laidKinds := [.data, .pinned], laidTests := true, laidLooks := .later }
def AddrPrefixesUptoCardSaid : Prop := Claim7.holds Tryd.pinned (.plain (OpenSpec.upto addrPrefixesSpec)) addrPrefixesUptoCard

/-- THE SECOND FORM's CARD OF 'palinglaw02.AddrApart'. -/
def addrApartUptoCard : Claim7 := { stood := { row := addrApartUptoRow, standIns := [], harness := (true, "64c0c70c82a574b8f80c7a0f1e9a995bf187a86d4a0ca1feb70e762d8bca5ee0"), looks := false }, kinds := [], alts := [], laidByText := true, laidKinds := [.data, .pinned], laidTests := true, laidLooks := .later }
def AddrApartUptoCardSaid : Prop := Claim7.holds Tryd.pinned (.plain (OpenSpec.upto addrApartSpec)) addrApartUptoCard

/-- THE SECOND FORM's CARD OF 'palinglaw03.NumListsBack'. -/
def numListsBackUptoCard : Claim7 := { stood := { row := numListsBackUptoRow, standIns := [], harness := (true, "64c0c70c82a574b8f80c7a0f1e9a995bf187a86d4a0ca1feb70e762d8bca5ee0"), looks := false }, kinds := [], alts := [], laidByText := true, laidKinds := [.data, .pinned], laidTests := true, laidLooks := .later }
def NumListsBackUptoCardSaid : Prop := Claim7.holds Tryd.pinned (.plain (OpenSpec.upto numListsBackSpec)) numListsBackUptoCard

/-- THE SECOND FORM's CARD OF 'palinglaw03.NumLists'. -/
def numListsUptoCard : Claim7 := { stood := { row := numListsUptoRow, standIns := [], harness := (true, "64c0c70c82a574b8f80c7a0f1e9a995bf187a86d4a0ca1feb70e762d8bca5ee0"), looks := false }, kinds := [], alts := [], laidByText := true, laidKinds := [.data, .pinned], laidTests := true, laidLooks := .later }
def NumListsUptoCardSaid : Prop := Claim7.holds Tryd.pinned (.plain (OpenSpec.upto numListsSpec)) numListsUptoCard
end Rows
end Go.Proofs.YtnomcclbfbbehaaDoor
