/-
  No cell of these rows narrows 'for every input' (looked for: loops, veiled, ifaces, maps, wideKeys, modest, calm, conditions, laid).
  DERIVED. THE GIVEN ROWS OF THIS SEAT. 12 by the template 'for every input the law returns true; each argument reads behind the call as it read before'; 0 by the template 'total and deterministic' (their statements: YtneejmioiccdiaaTotals.lean).
  GIVEN WITH THE SEED: the statements are not yours to turn. If you find one false, say at which input.
  Laid BY PROGRAM, IN A SANDBOX (cutbox-rows.mjs): the forced cells as the released guide's own fill.sh prints them over the translation 3bf72e42ecf504b6… (all of the seat's roots in one cut). By AI agents, Wed Nov 11 2026. No macro, syntax, notation, axiom, sorry.
-/
import Derived.Test.YtneejmioiccdiaaChecked
import GoSem.Claim
import GoSem.ClaimJoined
import GoSem.ClaimMapViews
import Derived.JoinedTies
import Derived.KernelRfl
namespace Go.Proofs.Ytneejmioiccdiaa
/- THE CELL 'sum', in the pinned program and in every row, IS THE sha256 OF THE DUMP (.gsa) THAT YtneejmioiccdiaaProg.lean LOADS. Nothing in Lean hashes anything: it is a label: what it is worth is what the hold of that sum in a sandbox is worth. -/
noncomputable def Try.pinned : Pinned := { name := "ytneejmioiccdiaa", sum := "3bf72e42ecf504b6745fc84e9001b4c55457e0e74f841beb3ed8d570d925d8a7", checked := Try.checked }
namespace Rows
def none {H : Type} : Left H := { results := [], args := [] }

/-- 'palinglaw06.SumTells': WHATEVER THE INPUT: true; the input reads as it did. -/
def sumTellsSpec : ChangeSpec := { name := "sumTells", fn := fun _ => fun
  | [d] => { results := [.lit (.bool true)], args := [d] }
  | _ => none }
def sumTellsRow : OpenClaim := { program := "ytneejmioiccdiaa", sum := "3bf72e42ecf504b6745fc84e9001b4c55457e0e74f841beb3ed8d570d925d8a7", func := "paling/palinglaw06.SumTells", spec := "sumTells", unfollowed := true, recurses := true, apart := false }
def SumTellsSaid : Prop := sumTellsRow.holds Try.pinned (OpenSpec.ofChange sumTellsSpec)

/-- ITS FALSE NEIGHBOUR: 'it returns false'. Refute it at one input. -/
def sumTellsWrong : ChangeSpec := { name := "sumTells", fn := fun _ => fun
  | [d] => { results := [.lit (.bool false)], args := [d] }
  | _ => none }
def SumTellsWrongFalsely : Prop := sumTellsRow.holds Try.pinned (OpenSpec.ofChange sumTellsWrong)

/-- 'palinglaw06.SumTurns': WHATEVER THE INPUT: true; the input reads as it did. -/
def sumTurnsSpec : ChangeSpec := { name := "sumTurns", fn := fun _ => fun
  | [d1, d2, d3] => { results := [.lit (.bool true)], args := [d1, d2, d3] }
  | _ => none }
def sumTurnsRow : OpenClaim := { program := "ytneejmioiccdiaa", sum := "3bf72e42ecf504b6745fc84e9001b4c55457e0e74f841beb3ed8d570d925d8a7", func := "paling/palinglaw06.SumTurns", spec := "sumTurns", unfollowed := true, recurses := true, apart := false }
def SumTurnsSaid : Prop := sumTurnsRow.holds Try.pinned (OpenSpec.ofChange sumTurnsSpec)

/-- ITS FALSE NEIGHBOUR: 'it returns false'. Refute it at one input. -/
def sumTurnsWrong : ChangeSpec := { name := "sumTurns", fn := fun _ => fun
  | [d1, d2, d3] => { results := [.lit (.bool false)], args := [d1, d2, d3] }
  | _ => none }
def SumTurnsWrongFalsely : Prop := sumTurnsRow.holds Try.pinned (OpenSpec.ofChange sumTurnsWrong)

/-- 'palinglaw06.SumBack': WHATEVER THE INPUT: true; the input reads as it did. -/
def sumBackSpec : ChangeSpec := { name := "sumBack", fn := fun _ => fun
  | [d1, d2, d3] => { results := [.lit (.bool true)], args := [d1, d2, d3] }
  | _ => none }
def sumBackRow : OpenClaim := { program := "ytneejmioiccdiaa", sum := "3bf72e42ecf504b6745fc84e9001b4c55457e0e74f841beb3ed8d570d925d8a7", func := "paling/palinglaw06.SumBack", spec := "sumBack", unfollowed := true, recurses := true, apart := false }
def SumBackSaid : Prop := sumBackRow.holds Try.pinned (OpenSpec.ofChange sumBackSpec)

/-- ITS FALSE NEIGHBOUR: 'it returns false'. Refute it at one input. -/
def sumBackWrong : ChangeSpec := { name := "sumBack", fn := fun _ => fun
  | [d1, d2, d3] => { results := [.lit (.bool false)], args := [d1, d2, d3] }
  | _ => none }
def SumBackWrongFalsely : Prop := sumBackRow.holds Try.pinned (OpenSpec.ofChange sumBackWrong)

/-- 'palinglaw06.SumChange': WHATEVER THE INPUT: true; the input reads as it did. -/
def sumChangeSpec : ChangeSpec := { name := "sumChange", fn := fun _ => fun
  | [d1, d2, d3] => { results := [.lit (.bool true)], args := [d1, d2, d3] }
  | _ => none }
def sumChangeRow : OpenClaim := { program := "ytneejmioiccdiaa", sum := "3bf72e42ecf504b6745fc84e9001b4c55457e0e74f841beb3ed8d570d925d8a7", func := "paling/palinglaw06.SumChange", spec := "sumChange", unfollowed := true, recurses := true, apart := false }
def SumChangeSaid : Prop := sumChangeRow.holds Try.pinned (OpenSpec.ofChange sumChangeSpec)

/-- ITS FALSE NEIGHBOUR: 'it returns false'. Refute it at one input. -/
def sumChangeWrong : ChangeSpec := { name := "sumChange", fn := fun _ => fun
  | [d1, d2, d3] => { results := [.lit (.bool false)], args := [d1, d2, d3] }
  | _ => none }
def SumChangeWrongFalsely : Prop := sumChangeRow.holds Try.pinned (OpenSpec.ofChange sumChangeWrong)

/-- 'palinglaw08.UdpTakes': WHATEVER THE INPUT: true; the input reads as it did. -/
def udpTakesSpec : ChangeSpec := { name := "udpTakes", fn := fun _ => fun
  | [d1, d2, d3] => { results := [.lit (.bool true)], args := [d1, d2, d3] }
  | _ => none }
def udpTakesRow : OpenClaim := { program := "ytneejmioiccdiaa", sum := "3bf72e42ecf504b6745fc84e9001b4c55457e0e74f841beb3ed8d570d925d8a7", func := "paling/palinglaw08.UdpTakes", spec := "udpTakes", apart := false }
def UdpTakesSaid : Prop := udpTakesRow.holds Try.pinned (OpenSpec.ofChange udpTakesSpec)

/-- ITS FALSE NEIGHBOUR: 'it returns false'. Refute it at one input. -/
def udpTakesWrong : ChangeSpec := { name := "udpTakes", fn := fun _ => fun
  | [d1, d2, d3] => { results := [.lit (.bool false)], args := [d1, d2, d3] }
  | _ => none }
def UdpTakesWrongFalsely : Prop := udpTakesRow.holds Try.pinned (OpenSpec.ofChange udpTakesWrong)

/-- 'palinglaw08.UdpPuts': WHATEVER THE INPUT: true; the input reads as it did. -/
def udpPutsSpec : ChangeSpec := { name := "udpPuts", fn := fun _ => fun
  | [d1, d2, d3] => { results := [.lit (.bool true)], args := [d1, d2, d3] }
  | _ => none }
def udpPutsRow : OpenClaim := { program := "ytneejmioiccdiaa", sum := "3bf72e42ecf504b6745fc84e9001b4c55457e0e74f841beb3ed8d570d925d8a7", func := "paling/palinglaw08.UdpPuts", spec := "udpPuts", apart := false }
def UdpPutsSaid : Prop := udpPutsRow.holds Try.pinned (OpenSpec.ofChange udpPutsSpec)

/-- ITS FALSE NEIGHBOUR: 'it returns false'. Refute it at one input. -/
def udpPutsWrong : ChangeSpec := { name := "udpPuts", fn := fun _ => fun
  | [d1, d2, d3] => { results := [.lit (.bool false)], args := [d1, d2, d3] }
  | _ => none }
def UdpPutsWrongFalsely : Prop := udpPutsRow.holds Try.pinned (OpenSpec.ofChange udpPutsWrong)

/-- 'palinglaw08.UdpBack': WHATEVER THE INPUT: true; the input reads as it did. -/
def udpBackSpec : ChangeSpec := { name := "udpBack", fn := fun _ => fun
  | [d1, d2, d3, d4, d5] => { results := [.lit (.bool true)], args := [d1, d2, d3, d4, d5] }
  | _ => none }
def udpBackRow : OpenClaim := { program := "ytneejmioiccdiaa", sum := "3bf72e42ecf504b6745fc84e9001b4c55457e0e74f841beb3ed8d570d925d8a7", func := "paling/palinglaw08.UdpBack", spec := "udpBack", apart := false }
def UdpBackSaid : Prop := udpBackRow.holds Try.pinned (OpenSpec.ofChange udpBackSpec)

/-- ITS FALSE NEIGHBOUR: 'it returns false'. Refute it at one input. -/
def udpBackWrong : ChangeSpec := { name := "udpBack", fn := fun _ => fun
  | [d1, d2, d3, d4, d5] => { results := [.lit (.bool false)], args := [d1, d2, d3, d4, d5] }
  | _ => none }
def UdpBackWrongFalsely : Prop := udpBackRow.holds Try.pinned (OpenSpec.ofChange udpBackWrong)

/-- 'palinglaw07.Ipv4Takes': WHATEVER THE INPUT: true; the input reads as it did. -/
def ipv4TakesSpec : ChangeSpec := { name := "ipv4Takes", fn := fun _ => fun
  | [d] => { results := [.lit (.bool true)], args := [d] }
  | _ => none }
def ipv4TakesRow : OpenClaim := { program := "ytneejmioiccdiaa", sum := "3bf72e42ecf504b6745fc84e9001b4c55457e0e74f841beb3ed8d570d925d8a7", func := "paling/palinglaw07.Ipv4Takes", spec := "ipv4Takes", unfollowed := true, recurses := true, apart := false }
def Ipv4TakesSaid : Prop := ipv4TakesRow.holds Try.pinned (OpenSpec.ofChange ipv4TakesSpec)

/-- ITS FALSE NEIGHBOUR: 'it returns false'. Refute it at one input. -/
def ipv4TakesWrong : ChangeSpec := { name := "ipv4Takes", fn := fun _ => fun
  | [d] => { results := [.lit (.bool false)], args := [d] }
  | _ => none }
def Ipv4TakesWrongFalsely : Prop := ipv4TakesRow.holds Try.pinned (OpenSpec.ofChange ipv4TakesWrong)

/-- 'palinglaw07.Ipv4Bits': WHATEVER THE INPUT: true; the input reads as it did. -/
def ipv4BitsSpec : ChangeSpec := { name := "ipv4Bits", fn := fun _ => fun
  | [d1, d2, d3] => { results := [.lit (.bool true)], args := [d1, d2, d3] }
  | _ => none }
def ipv4BitsRow : OpenClaim := { program := "ytneejmioiccdiaa", sum := "3bf72e42ecf504b6745fc84e9001b4c55457e0e74f841beb3ed8d570d925d8a7", func := "paling/palinglaw07.Ipv4Bits", spec := "ipv4Bits", unfollowed := true, recurses := true, apart := false }
def Ipv4BitsSaid : Prop := ipv4BitsRow.holds Try.pinned (OpenSpec.ofChange ipv4BitsSpec)

/-- ITS FALSE NEIGHBOUR: 'it returns false'. Refute it at one input. -/
def ipv4BitsWrong : ChangeSpec := { name := "ipv4Bits", fn := fun _ => fun
  | [d1, d2, d3] => { results := [.lit (.bool false)], args := [d1, d2, d3] }
  | _ => none }
def Ipv4BitsWrongFalsely : Prop := ipv4BitsRow.holds Try.pinned (OpenSpec.ofChange ipv4BitsWrong)

/-- 'palinglaw07.Ipv4Back': WHATEVER THE INPUT: true; the input reads as it did. -/
def ipv4BackSpec : ChangeSpec := { name := "ipv4Back", fn := fun _ => fun
  | [d1, d2, d3] => { results := [.lit (.bool true)], args := [d1, d2, d3] }
  | _ => none }
def ipv4BackRow : OpenClaim := { program := "ytneejmioiccdiaa", sum := "3bf72e42ecf504b6745fc84e9001b4c55457e0e74f841beb3ed8d570d925d8a7", func := "paling/palinglaw07.Ipv4Back", spec := "ipv4Back", unfollowed := true, recurses := true, apart := false }
def Ipv4BackSaid : Prop := ipv4BackRow.holds Try.pinned (OpenSpec.ofChange ipv4BackSpec)

/-- ITS FALSE NEIGHBOUR: 'it returns false'. Refute it at one input. -/
def ipv4BackWrong : ChangeSpec := { name := "ipv4Back", fn := fun _ => fun
  | [d1, d2, d3] => { results := [.lit (.bool false)], args := [d1, d2, d3] }
  | _ => none }
def Ipv4BackWrongFalsely : Prop := ipv4BackRow.holds Try.pinned (OpenSpec.ofChange ipv4BackWrong)

/-- 'palinglaw07.Ipv4Puts': WHATEVER THE INPUT: true; the input reads as it did. -/
def ipv4PutsSpec : ChangeSpec := { name := "ipv4Puts", fn := fun _ => fun
  | [d1, d2] => { results := [.lit (.bool true)], args := [d1, d2] }
  | _ => none }
def ipv4PutsRow : OpenClaim := { program := "ytneejmioiccdiaa", sum := "3bf72e42ecf504b6745fc84e9001b4c55457e0e74f841beb3ed8d570d925d8a7", func := "paling/palinglaw07.Ipv4Puts", spec := "ipv4Puts", unfollowed := true, recurses := true, apart := false }
def Ipv4PutsSaid : Prop := ipv4PutsRow.holds Try.pinned (OpenSpec.ofChange ipv4PutsSpec)

/-- ITS FALSE NEIGHBOUR: 'it returns false'. Refute it at one input. -/
def ipv4PutsWrong : ChangeSpec := { name := "ipv4Puts", fn := fun _ => fun
  | [d1, d2] => { results := [.lit (.bool false)], args := [d1, d2] }
  | _ => none }
def Ipv4PutsWrongFalsely : Prop := ipv4PutsRow.holds Try.pinned (OpenSpec.ofChange ipv4PutsWrong)

/-- 'palinglaw07.Ipv4Hops': WHATEVER THE INPUT: true; the input reads as it did. -/
def ipv4HopsSpec : ChangeSpec := { name := "ipv4Hops", fn := fun _ => fun
  | [d] => { results := [.lit (.bool true)], args := [d] }
  | _ => none }
def ipv4HopsRow : OpenClaim := { program := "ytneejmioiccdiaa", sum := "3bf72e42ecf504b6745fc84e9001b4c55457e0e74f841beb3ed8d570d925d8a7", func := "paling/palinglaw07.Ipv4Hops", spec := "ipv4Hops", unfollowed := true, recurses := true, apart := false }
def Ipv4HopsSaid : Prop := ipv4HopsRow.holds Try.pinned (OpenSpec.ofChange ipv4HopsSpec)

/-- ITS FALSE NEIGHBOUR: 'it returns false'. Refute it at one input. -/
def ipv4HopsWrong : ChangeSpec := { name := "ipv4Hops", fn := fun _ => fun
  | [d] => { results := [.lit (.bool false)], args := [d] }
  | _ => none }
def Ipv4HopsWrongFalsely : Prop := ipv4HopsRow.holds Try.pinned (OpenSpec.ofChange ipv4HopsWrong)

/- THE SECOND FORM. 'bulk': how many values and letters a reading holds, each counted each time it is reached (what is shared counts as often as it is met; a slice's spare places count too). A statement '..UptoSaid' is the law's where the arguments, and the package variables that the reading takes, are together of bulk at most 1048576: NARROWER than '..Said'. Prove '..Said' where nothing that the law and all that it calls make is longer than what came in: it says more and counts as full. Else prove '..UptoSaid'. A law counts once. -/
mutual
def uptoBulk {H : Type} : DataW H → Nat
  | .lit (.string bytes) => bytes.length + 1
  | .lit _ => 1
  | .nil => 1
  | .ptr d => uptoBulk d + 1
  | .slice elems spare => uptoBulkAll elems + uptoBulkAll spare + 1
  | .agg parts => uptoBulkAll parts + 1
  | .iface _ d => uptoBulk d + 1
  | .map entries => uptoBulkEntries entries + 1
  | .held _ => 1
def uptoBulkAll {H : Type} : List (DataW H) → Nat
  | [] => 0
  | d :: r => uptoBulk d + uptoBulkAll r
def uptoBulkEntries {H : Type} : List (Lit × DataW H) → Nat
  | [] => 0
  | x :: r => uptoBulkEntry x + uptoBulkEntries r
def uptoBulkEntry {H : Type} : Lit × DataW H → Nat
  | (.string bytes, d) => bytes.length + uptoBulk d + 1
  | (_, d) => uptoBulk d + 1
 end
def uptoSmall : (H : Type) → List (DataW H) → Bool := fun _ ds => decide (uptoBulkAll ds ≤ 1048576)
def OpenSpec.upto (s : _root_.Go.ChangeSpec) : _root_.Go.OpenSpec := { _root_.Go.OpenSpec.ofChange s with cond := some uptoSmall }

/-- 'palinglaw06.SumTells', WHERE WHAT IT READS IS OF BULK AT MOST 1048576: true; the input reads as it did. -/
def sumTellsUptoRow : OpenClaim := { program := "ytneejmioiccdiaa", sum := "3bf72e42ecf504b6745fc84e9001b4c55457e0e74f841beb3ed8d570d925d8a7", func := "paling/palinglaw06.SumTells", spec := "sumTells", unfollowed := true, recurses := true, apart := false, narrowed := true }
def SumTellsUptoSaid : Prop := sumTellsUptoRow.holds Try.pinned (OpenSpec.upto sumTellsSpec)

/-- 'palinglaw06.SumTurns', WHERE WHAT IT READS IS OF BULK AT MOST 1048576: true; the input reads as it did. -/
def sumTurnsUptoRow : OpenClaim := { program := "ytneejmioiccdiaa", sum := "3bf72e42ecf504b6745fc84e9001b4c55457e0e74f841beb3ed8d570d925d8a7", func := "paling/palinglaw06.SumTurns", spec := "sumTurns", unfollowed := true, recurses := true, apart := false, narrowed := true }
def SumTurnsUptoSaid : Prop := sumTurnsUptoRow.holds Try.pinned (OpenSpec.upto sumTurnsSpec)

/-- 'palinglaw06.SumBack', WHERE WHAT IT READS IS OF BULK AT MOST 1048576: true; the input reads as it did. -/
def sumBackUptoRow : OpenClaim := { program := "ytneejmioiccdiaa", sum := "3bf72e42ecf504b6745fc84e9001b4c55457e0e74f841beb3ed8d570d925d8a7", func := "paling/palinglaw06.SumBack", spec := "sumBack", unfollowed := true, recurses := true, apart := false, narrowed := true }
def SumBackUptoSaid : Prop := sumBackUptoRow.holds Try.pinned (OpenSpec.upto sumBackSpec)

/-- 'palinglaw06.SumChange', WHERE WHAT IT READS IS OF BULK AT MOST 1048576: true; the input reads as it did. -/
def sumChangeUptoRow : OpenClaim := { program := "ytneejmioiccdiaa", sum := "3bf72e42ecf504b6745fc84e9001b4c55457e0e74f841beb3ed8d570d925d8a7", func := "paling/palinglaw06.SumChange", spec := "sumChange", unfollowed := true, recurses := true, apart := false, narrowed := true }
def SumChangeUptoSaid : Prop := sumChangeUptoRow.holds Try.pinned (OpenSpec.upto sumChangeSpec)

/-- 'palinglaw08.UdpTakes', WHERE WHAT IT READS IS OF BULK AT MOST 1048576: true; the input reads as it did. -/
def udpTakesUptoRow : OpenClaim := { program := "ytneejmioiccdiaa", sum := "3bf72e42ecf504b6745fc84e9001b4c55457e0e74f841beb3ed8d570d925d8a7", func := "paling/palinglaw08.UdpTakes", spec := "udpTakes", apart := false, narrowed := true }
def UdpTakesUptoSaid : Prop := udpTakesUptoRow.holds Try.pinned (OpenSpec.upto udpTakesSpec)

/-- 'palinglaw08.UdpPuts', WHERE WHAT IT READS IS OF BULK AT MOST 1048576: true; the input reads as it did. -/
def udpPutsUptoRow : OpenClaim := { program := "ytneejmioiccdiaa", sum := "3bf72e42ecf504b6745fc84e9001b4c55457e0e74f841beb3ed8d570d925d8a7", func := "paling/palinglaw08.UdpPuts", spec := "udpPuts", apart := false, narrowed := true }
def UdpPutsUptoSaid : Prop := udpPutsUptoRow.holds Try.pinned (OpenSpec.upto udpPutsSpec)

/-- 'palinglaw08.UdpBack', WHERE WHAT IT READS IS OF BULK AT MOST 1048576: true; the input reads as it did. -/
def udpBackUptoRow : OpenClaim := { program := "ytneejmioiccdiaa", sum := "3bf72e42ecf504b6745fc84e9001b4c55457e0e74f841beb3ed8d570d925d8a7", func := "paling/palinglaw08.UdpBack", spec := "udpBack", apart := false, narrowed := true }
def UdpBackUptoSaid : Prop := udpBackUptoRow.holds Try.pinned (OpenSpec.upto udpBackSpec)

/-- 'palinglaw07.Ipv4Takes', WHERE WHAT IT READS IS OF BULK AT MOST 1048576: true; the input reads as it did. -/
def ipv4TakesUptoRow : OpenClaim := { program := "ytneejmioiccdiaa", sum := "3bf72e42ecf504b6745fc84e9001b4c55457e0e74f841beb3ed8d570d925d8a7", func := "paling/palinglaw07.Ipv4Takes", spec := "ipv4Takes", unfollowed := true, recurses := true, apart := false, narrowed := true }
def Ipv4TakesUptoSaid : Prop := ipv4TakesUptoRow.holds Try.pinned (OpenSpec.upto ipv4TakesSpec)

/-- 'palinglaw07.Ipv4Bits', WHERE WHAT IT READS IS OF BULK AT MOST 1048576: true; the input reads as it did. -/
def ipv4BitsUptoRow : OpenClaim := { program := "ytneejmioiccdiaa", sum := "3bf72e42ecf504b6745fc84e9001b4c55457e0e74f841beb3ed8d570d925d8a7", func := "paling/palinglaw07.Ipv4Bits", spec := "ipv4Bits", unfollowed := true, recurses := true, apart := false, narrowed := true }
def Ipv4BitsUptoSaid : Prop := ipv4BitsUptoRow.holds Try.pinned (OpenSpec.upto ipv4BitsSpec)

/-- 'palinglaw07.Ipv4Back', WHERE WHAT IT READS IS OF BULK AT MOST 1048576: true; the input reads as it did. -/
def ipv4BackUptoRow : OpenClaim := { program := "ytneejmioiccdiaa", sum := "3bf72e42ecf504b6745fc84e9001b4c55457e0e74f841beb3ed8d570d925d8a7", func := "paling/palinglaw07.Ipv4Back", spec := "ipv4Back", unfollowed := true, recurses := true, apart := false, narrowed := true }
def Ipv4BackUptoSaid : Prop := ipv4BackUptoRow.holds Try.pinned (OpenSpec.upto ipv4BackSpec)

/-- 'palinglaw07.Ipv4Puts', WHERE WHAT IT READS IS OF BULK AT MOST 1048576: true; the input reads as it did. -/
def ipv4PutsUptoRow : OpenClaim := { program := "ytneejmioiccdiaa", sum := "3bf72e42ecf504b6745fc84e9001b4c55457e0e74f841beb3ed8d570d925d8a7", func := "paling/palinglaw07.Ipv4Puts", spec := "ipv4Puts", unfollowed := true, recurses := true, apart := false, narrowed := true }
def Ipv4PutsUptoSaid : Prop := ipv4PutsUptoRow.holds Try.pinned (OpenSpec.upto ipv4PutsSpec)

/-- 'palinglaw07.Ipv4Hops', WHERE WHAT IT READS IS OF BULK AT MOST 1048576: true; the input reads as it did. -/
def ipv4HopsUptoRow : OpenClaim := { program := "ytneejmioiccdiaa", sum := "3bf72e42ecf504b6745fc84e9001b4c55457e0e74f841beb3ed8d570d925d8a7", func := "paling/palinglaw07.Ipv4Hops", spec := "ipv4Hops", unfollowed := true, recurses := true, apart := false, narrowed := true }
def Ipv4HopsUptoSaid : Prop := ipv4HopsUptoRow.holds Try.pinned (OpenSpec.upto ipv4HopsSpec)

end Rows
end Go.Proofs.Ytneejmioiccdiaa
