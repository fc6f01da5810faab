/-
  No cell of these rows narrows 'for every input' (looked for: loops, veiled, ifaces, maps, wideKeys, modest, calm, conditions, laid).
  DERIVED. THE GIVEN ROWS OF THIS SEAT. 9 by the template 'for every input the law returns true; each argument reads behind the call as it read before'; 0 by the template 'total and deterministic' (their statements: YtodebpklpfhgdaaTotals.lean).
  GIVEN WITH THE SEED: the statements are not yours to turn. If you find one false, say at which input.
  Laid BY PROGRAM, IN A SANDBOX (cutbox-rows.mjs): the forced cells as the released guide's own fill.sh prints them over the translation 2339935ec4aed7a3… (all of the seat's roots in one cut). By AI agents, Wed Nov 11 2026. No macro, syntax, notation, axiom, sorry.
-/
import Derived.Test.YtodebpklpfhgdaaChecked
import GoSem.Claim
import GoSem.ClaimJoined
import GoSem.ClaimMapViews
import Derived.JoinedTies
import Derived.KernelRfl
namespace Go.Proofs.Ytodebpklpfhgdaa
/- THE CELL 'sum', in the pinned program and in every row, IS THE sha256 OF THE DUMP (.gsa) THAT YtodebpklpfhgdaaProg.lean LOADS. Nothing in Lean hashes anything: it is a label: what it is worth is what the hold of that sum in a sandbox is worth. -/
noncomputable def Try.pinned : Pinned := { name := "ytodebpklpfhgdaa", sum := "2339935ec4aed7a36cda95a729733043d986f4f55e174bb2460a9b24d9ca2e47", checked := Try.checked }
namespace Rows
def none {H : Type} : Left H := { results := [], args := [] }

/-- 'palinglaw01.MacTexts': WHATEVER THE INPUT: true; the input reads as it did. -/
def macTextsSpec : ChangeSpec := { name := "macTexts", fn := fun _ => fun
  | [d1, d2] => { results := [.lit (.bool true)], args := [d1, d2] }
  | _ => none }
def macTextsRow : OpenClaim := { program := "ytodebpklpfhgdaa", sum := "2339935ec4aed7a36cda95a729733043d986f4f55e174bb2460a9b24d9ca2e47", func := "paling/palinglaw01.MacTexts", spec := "macTexts", apart := false }
def MacTextsSaid : Prop := macTextsRow.holds Try.pinned (OpenSpec.ofChange macTextsSpec)

/-- ITS FALSE NEIGHBOUR: 'it returns false'. Refute it at one input. -/
def macTextsWrong : ChangeSpec := { name := "macTexts", fn := fun _ => fun
  | [d1, d2] => { results := [.lit (.bool false)], args := [d1, d2] }
  | _ => none }
def MacTextsWrongFalsely : Prop := macTextsRow.holds Try.pinned (OpenSpec.ofChange macTextsWrong)

/-- 'palinglaw04.EtherTakes': WHATEVER THE INPUT: true; the input reads as it did. -/
def etherTakesSpec : ChangeSpec := { name := "etherTakes", fn := fun _ => fun
  | [d] => { results := [.lit (.bool true)], args := [d] }
  | _ => none }
def etherTakesRow : OpenClaim := { program := "ytodebpklpfhgdaa", sum := "2339935ec4aed7a36cda95a729733043d986f4f55e174bb2460a9b24d9ca2e47", func := "paling/palinglaw04.EtherTakes", spec := "etherTakes", apart := false }
def EtherTakesSaid : Prop := etherTakesRow.holds Try.pinned (OpenSpec.ofChange etherTakesSpec)

/-- ITS FALSE NEIGHBOUR: 'it returns false'. Refute it at one input. -/
def etherTakesWrong : ChangeSpec := { name := "etherTakes", fn := fun _ => fun
  | [d] => { results := [.lit (.bool false)], args := [d] }
  | _ => none }
def EtherTakesWrongFalsely : Prop := etherTakesRow.holds Try.pinned (OpenSpec.ofChange etherTakesWrong)

/-- 'palinglaw04.EtherBack': WHATEVER THE INPUT: true; the input reads as it did. -/
def etherBackSpec : ChangeSpec := { name := "etherBack", fn := fun _ => fun
  | [d1, d2] => { results := [.lit (.bool true)], args := [d1, d2] }
  | _ => none }
def etherBackRow : OpenClaim := { program := "ytodebpklpfhgdaa", sum := "2339935ec4aed7a36cda95a729733043d986f4f55e174bb2460a9b24d9ca2e47", func := "paling/palinglaw04.EtherBack", spec := "etherBack", apart := false }
def EtherBackSaid : Prop := etherBackRow.holds Try.pinned (OpenSpec.ofChange etherBackSpec)

/-- ITS FALSE NEIGHBOUR: 'it returns false'. Refute it at one input. -/
def etherBackWrong : ChangeSpec := { name := "etherBack", fn := fun _ => fun
  | [d1, d2] => { results := [.lit (.bool false)], args := [d1, d2] }
  | _ => none }
def EtherBackWrongFalsely : Prop := etherBackRow.holds Try.pinned (OpenSpec.ofChange etherBackWrong)

/-- 'palinglaw01.MacKinds': WHATEVER THE INPUT: true; the input reads as it did. -/
def macKindsSpec : ChangeSpec := { name := "macKinds", fn := fun _ => fun
  | [d1, d2] => { results := [.lit (.bool true)], args := [d1, d2] }
  | _ => none }
def macKindsRow : OpenClaim := { program := "ytodebpklpfhgdaa", sum := "2339935ec4aed7a36cda95a729733043d986f4f55e174bb2460a9b24d9ca2e47", func := "paling/palinglaw01.MacKinds", spec := "macKinds", apart := false }
def MacKindsSaid : Prop := macKindsRow.holds Try.pinned (OpenSpec.ofChange macKindsSpec)

/-- ITS FALSE NEIGHBOUR: 'it returns false'. Refute it at one input. -/
def macKindsWrong : ChangeSpec := { name := "macKinds", fn := fun _ => fun
  | [d1, d2] => { results := [.lit (.bool false)], args := [d1, d2] }
  | _ => none }
def MacKindsWrongFalsely : Prop := macKindsRow.holds Try.pinned (OpenSpec.ofChange macKindsWrong)

/-- 'palinglaw01.MacHosts': WHATEVER THE INPUT: true; the input reads as it did. -/
def macHostsSpec : ChangeSpec := { name := "macHosts", fn := fun _ => fun
  | [d1, d2] => { results := [.lit (.bool true)], args := [d1, d2] }
  | _ => none }
def macHostsRow : OpenClaim := { program := "ytodebpklpfhgdaa", sum := "2339935ec4aed7a36cda95a729733043d986f4f55e174bb2460a9b24d9ca2e47", func := "paling/palinglaw01.MacHosts", spec := "macHosts", apart := false }
def MacHostsSaid : Prop := macHostsRow.holds Try.pinned (OpenSpec.ofChange macHostsSpec)

/-- ITS FALSE NEIGHBOUR: 'it returns false'. Refute it at one input. -/
def macHostsWrong : ChangeSpec := { name := "macHosts", fn := fun _ => fun
  | [d1, d2] => { results := [.lit (.bool false)], args := [d1, d2] }
  | _ => none }
def MacHostsWrongFalsely : Prop := macHostsRow.holds Try.pinned (OpenSpec.ofChange macHostsWrong)

/-- 'palinglaw04.EtherPuts': WHATEVER THE INPUT: true; the input reads as it did. -/
def etherPutsSpec : ChangeSpec := { name := "etherPuts", fn := fun _ => fun
  | [d1, d2] => { results := [.lit (.bool true)], args := [d1, d2] }
  | _ => none }
def etherPutsRow : OpenClaim := { program := "ytodebpklpfhgdaa", sum := "2339935ec4aed7a36cda95a729733043d986f4f55e174bb2460a9b24d9ca2e47", func := "paling/palinglaw04.EtherPuts", spec := "etherPuts", apart := false }
def EtherPutsSaid : Prop := etherPutsRow.holds Try.pinned (OpenSpec.ofChange etherPutsSpec)

/-- ITS FALSE NEIGHBOUR: 'it returns false'. Refute it at one input. -/
def etherPutsWrong : ChangeSpec := { name := "etherPuts", fn := fun _ => fun
  | [d1, d2] => { results := [.lit (.bool false)], args := [d1, d2] }
  | _ => none }
def EtherPutsWrongFalsely : Prop := etherPutsRow.holds Try.pinned (OpenSpec.ofChange etherPutsWrong)

/-- 'palinglaw04.EtherOwn': WHATEVER THE INPUT: true; the input reads as it did. -/
def etherOwnSpec : ChangeSpec := { name := "etherOwn", fn := fun _ => fun
  | [d1, d2] => { results := [.lit (.bool true)], args := [d1, d2] }
  | _ => none }
def etherOwnRow : OpenClaim := { program := "ytodebpklpfhgdaa", sum := "2339935ec4aed7a36cda95a729733043d986f4f55e174bb2460a9b24d9ca2e47", func := "paling/palinglaw04.EtherOwn", spec := "etherOwn", apart := false }
def EtherOwnSaid : Prop := etherOwnRow.holds Try.pinned (OpenSpec.ofChange etherOwnSpec)

/-- ITS FALSE NEIGHBOUR: 'it returns false'. Refute it at one input. -/
def etherOwnWrong : ChangeSpec := { name := "etherOwn", fn := fun _ => fun
  | [d1, d2] => { results := [.lit (.bool false)], args := [d1, d2] }
  | _ => none }
def EtherOwnWrongFalsely : Prop := etherOwnRow.holds Try.pinned (OpenSpec.ofChange etherOwnWrong)

/-- 'palinglaw01.MacBytes': WHATEVER THE INPUT: true; the input reads as it did. -/
def macBytesSpec : ChangeSpec := { name := "macBytes", fn := fun _ => fun
  | [d1, d2, d3] => { results := [.lit (.bool true)], args := [d1, d2, d3] }
  | _ => none }
def macBytesRow : OpenClaim := { program := "ytodebpklpfhgdaa", sum := "2339935ec4aed7a36cda95a729733043d986f4f55e174bb2460a9b24d9ca2e47", func := "paling/palinglaw01.MacBytes", spec := "macBytes", apart := false }
def MacBytesSaid : Prop := macBytesRow.holds Try.pinned (OpenSpec.ofChange macBytesSpec)

/-- ITS FALSE NEIGHBOUR: 'it returns false'. Refute it at one input. -/
def macBytesWrong : ChangeSpec := { name := "macBytes", fn := fun _ => fun
  | [d1, d2, d3] => { results := [.lit (.bool false)], args := [d1, d2, d3] }
  | _ => none }
def MacBytesWrongFalsely : Prop := macBytesRow.holds Try.pinned (OpenSpec.ofChange macBytesWrong)

/-- 'palinglaw01.MacBack': WHATEVER THE INPUT: true; the input reads as it did. -/
def macBackSpec : ChangeSpec := { name := "macBack", fn := fun _ => fun
  | [d1, d2, d3, d4] => { results := [.lit (.bool true)], args := [d1, d2, d3, d4] }
  | _ => none }
def macBackRow : OpenClaim := { program := "ytodebpklpfhgdaa", sum := "2339935ec4aed7a36cda95a729733043d986f4f55e174bb2460a9b24d9ca2e47", func := "paling/palinglaw01.MacBack", spec := "macBack", apart := false }
def MacBackSaid : Prop := macBackRow.holds Try.pinned (OpenSpec.ofChange macBackSpec)

/-- ITS FALSE NEIGHBOUR: 'it returns false'. Refute it at one input. -/
def macBackWrong : ChangeSpec := { name := "macBack", fn := fun _ => fun
  | [d1, d2, d3, d4] => { results := [.lit (.bool false)], args := [d1, d2, d3, d4] }
  | _ => none }
def MacBackWrongFalsely : Prop := macBackRow.holds Try.pinned (OpenSpec.ofChange macBackWrong)

/- THE SECOND FORM. 'bulk': how many values and letters a reading holds, each counted each time it is reached (what is shared counts as often as it is met; a slice's spare places count too). A statement '..UptoSaid' is the law's where the arguments, and the package variables that the reading takes, are together of bulk at most 1048576: NARROWER than '..Said'. Prove '..Said' where nothing that the law and all that it calls make is longer than what came in: it says more and counts as full. Else prove '..UptoSaid'. A law counts once. -/
mutual
def uptoBulk {H : Type} : DataW H → Nat
  | .lit (.string bytes) => bytes.length + 1
  | .lit _ => 1
  | .nil => 1
  | .ptr d => uptoBulk d + 1
  | .slice elems spare => uptoBulkAll elems + uptoBulkAll spare + 1
  | .agg parts => uptoBulkAll parts + 1
  | .iface _ d => uptoBulk d + 1
  | .map entries => uptoBulkEntries entries + 1
  | .held _ => 1
def uptoBulkAll {H : Type} : List (DataW H) → Nat
  | [] => 0
  | d :: r => uptoBulk d + uptoBulkAll r
def uptoBulkEntries {H : Type} : List (Lit × DataW H) → Nat
  | [] => 0
  | x :: r => uptoBulkEntry x + uptoBulkEntries r
def uptoBulkEntry {H : Type} : Lit × DataW H → Nat
  | (.string bytes, d) => bytes.length + uptoBulk d + 1
  | (_, d) => uptoBulk d + 1
 end
def uptoSmall : (H : Type) → List (DataW H) → Bool := fun _ ds => decide (uptoBulkAll ds ≤ 1048576)
def OpenSpec.upto (s : _root_.Go.ChangeSpec) : _root_.Go.OpenSpec := { _root_.Go.OpenSpec.ofChange s with cond := some uptoSmall }

/-- 'palinglaw01.MacTexts', WHERE WHAT IT READS IS OF BULK AT MOST 1048576: true; the input reads as it did. -/
def macTextsUptoRow : OpenClaim := { program := "ytodebpklpfhgdaa", sum := "2339935ec4aed7a36cda95a729733043d986f4f55e174bb2460a9b24d9ca2e47", func := "paling/palinglaw01.MacTexts", spec := "macTexts", apart := false, narrowed := true }
def MacTextsUptoSaid : Prop := macTextsUptoRow.holds Try.pinned (OpenSpec.upto macTextsSpec)

/-- 'palinglaw04.EtherTakes', WHERE WHAT IT READS IS OF BULK AT MOST 1048576: true; the input reads as it did. -/
def etherTakesUptoRow : OpenClaim := { program := "ytodebpklpfhgdaa", sum := "2339935ec4aed7a36cda95a729733043d986f4f55e174bb2460a9b24d9ca2e47", func := "paling/palinglaw04.EtherTakes", spec := "etherTakes", apart := false, narrowed := true }
def EtherTakesUptoSaid : Prop := etherTakesUptoRow.holds Try.pinned (OpenSpec.upto etherTakesSpec)

/-- 'palinglaw04.EtherBack', WHERE WHAT IT READS IS OF BULK AT MOST 1048576: true; the input reads as it did. -/
def etherBackUptoRow : OpenClaim := { program := "ytodebpklpfhgdaa", sum := "2339935ec4aed7a36cda95a729733043d986f4f55e174bb2460a9b24d9ca2e47", func := "paling/palinglaw04.EtherBack", spec := "etherBack", apart := false, narrowed := true }
def EtherBackUptoSaid : Prop := etherBackUptoRow.holds Try.pinned (OpenSpec.upto etherBackSpec)

/-- 'palinglaw01.MacKinds', WHERE WHAT IT READS IS OF BULK AT MOST 1048576: true; the input reads as it did. -/
def macKindsUptoRow : OpenClaim := { program := "ytodebpklpfhgdaa", sum := "2339935ec4aed7a36cda95a729733043d986f4f55e174bb2460a9b24d9ca2e47", func := "paling/palinglaw01.MacKinds", spec := "macKinds", apart := false, narrowed := true }
def MacKindsUptoSaid : Prop := macKindsUptoRow.holds Try.pinned (OpenSpec.upto macKindsSpec)

/-- 'palinglaw01.MacHosts', WHERE WHAT IT READS IS OF BULK AT MOST 1048576: true; the input reads as it did. -/
def macHostsUptoRow : OpenClaim := { program := "ytodebpklpfhgdaa", sum := "2339935ec4aed7a36cda95a729733043d986f4f55e174bb2460a9b24d9ca2e47", func := "paling/palinglaw01.MacHosts", spec := "macHosts", apart := false, narrowed := true }
def MacHostsUptoSaid : Prop := macHostsUptoRow.holds Try.pinned (OpenSpec.upto macHostsSpec)

/-- 'palinglaw04.EtherPuts', WHERE WHAT IT READS IS OF BULK AT MOST 1048576: true; the input reads as it did. -/
def etherPutsUptoRow : OpenClaim := { program := "ytodebpklpfhgdaa", sum := "2339935ec4aed7a36cda95a729733043d986f4f55e174bb2460a9b24d9ca2e47", func := "paling/palinglaw04.EtherPuts", spec := "etherPuts", apart := false, narrowed := true }
def EtherPutsUptoSaid : Prop := etherPutsUptoRow.holds Try.pinned (OpenSpec.upto etherPutsSpec)

/-- 'palinglaw04.EtherOwn', WHERE WHAT IT READS IS OF BULK AT MOST 1048576: true; the input reads as it did. -/
def etherOwnUptoRow : OpenClaim := { program := "ytodebpklpfhgdaa", sum := "2339935ec4aed7a36cda95a729733043d986f4f55e174bb2460a9b24d9ca2e47", func := "paling/palinglaw04.EtherOwn", spec := "etherOwn", apart := false, narrowed := true }
def EtherOwnUptoSaid : Prop := etherOwnUptoRow.holds Try.pinned (OpenSpec.upto etherOwnSpec)

/-- 'palinglaw01.MacBytes', WHERE WHAT IT READS IS OF BULK AT MOST 1048576: true; the input reads as it did. -/
def macBytesUptoRow : OpenClaim := { program := "ytodebpklpfhgdaa", sum := "2339935ec4aed7a36cda95a729733043d986f4f55e174bb2460a9b24d9ca2e47", func := "paling/palinglaw01.MacBytes", spec := "macBytes", apart := false, narrowed := true }
def MacBytesUptoSaid : Prop := macBytesUptoRow.holds Try.pinned (OpenSpec.upto macBytesSpec)

/-- 'palinglaw01.MacBack', WHERE WHAT IT READS IS OF BULK AT MOST 1048576: true; the input reads as it did. -/
def macBackUptoRow : OpenClaim := { program := "ytodebpklpfhgdaa", sum := "2339935ec4aed7a36cda95a729733043d986f4f55e174bb2460a9b24d9ca2e47", func := "paling/palinglaw01.MacBack", spec := "macBack", apart := false, narrowed := true }
def MacBackUptoSaid : Prop := macBackUptoRow.holds Try.pinned (OpenSpec.upto macBackSpec)

end Rows
end Go.Proofs.Ytodebpklpfhgdaa
