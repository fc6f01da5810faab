/-
  No cell of these rows narrows 'for every input' (looked for: loops, veiled, ifaces, maps, wideKeys, modest, calm, conditions, laid).
  DERIVED. THE GIVEN ROWS OF THIS SEAT. 10 by the template 'for every input the law returns true; each argument reads behind the call as it read before'; 0 by the template 'total and deterministic' (their statements: YtabenkmiojjiiaaTotals.lean).
  GIVEN WITH THE SEED: the statements are not yours to turn. If you find one false, say at which input.
  Laid BY PROGRAM, IN A SANDBOX (cutbox-rows.mjs): the forced cells as the released guide's own fill.sh prints them over the translation 3803583efc358859… (all of the seat's roots in one cut). By AI agents, Wed Nov 11 2026. No macro, syntax, notation, axiom, sorry.
-/
import Derived.Test.YtabenkmiojjiiaaChecked
import GoSem.Claim
import GoSem.ClaimJoined
import GoSem.ClaimMapViews
import Derived.JoinedTies
import Derived.KernelRfl
namespace Go.Proofs.Ytabenkmiojjiiaa
/- THE CELL 'sum', in the pinned program and in every row, IS THE sha256 OF THE DUMP (.gsa) THAT YtabenkmiojjiiaaProg.lean LOADS. Nothing in Lean hashes anything: it is a label: what it is worth is what the hold of that sum in a sandbox is worth. -/
noncomputable def Try.pinned : Pinned := { name := "ytabenkmiojjiiaa", sum := "3803583efc358859039a0f62b7fec952dc4940657079d0240de84b39f42aa8ed", checked := Try.checked }
namespace Rows
def none {H : Type} : Left H := { results := [], args := [] }

/-- 'palinglaw48.DiffRows': WHATEVER THE INPUT: true; the input reads as it did. -/
def diffRowsSpec : ChangeSpec := { name := "diffRows", fn := fun _ => fun
  | [d1, d2] => { results := [.lit (.bool true)], args := [d1, d2] }
  | _ => none }
def diffRowsRow : OpenClaim := { program := "ytabenkmiojjiiaa", sum := "3803583efc358859039a0f62b7fec952dc4940657079d0240de84b39f42aa8ed", func := "paling/palinglaw48.DiffRows", spec := "diffRows", apart := false }
def DiffRowsSaid : Prop := diffRowsRow.holds Try.pinned (OpenSpec.ofChange diffRowsSpec)

/-- ITS FALSE NEIGHBOUR: 'it returns false'. Refute it at one input. -/
def diffRowsWrong : ChangeSpec := { name := "diffRows", fn := fun _ => fun
  | [d1, d2] => { results := [.lit (.bool false)], args := [d1, d2] }
  | _ => none }
def DiffRowsWrongFalsely : Prop := diffRowsRow.holds Try.pinned (OpenSpec.ofChange diffRowsWrong)

/-- 'palinglaw48.DiffFew': WHATEVER THE INPUT: true; the input reads as it did. -/
def diffFewSpec : ChangeSpec := { name := "diffFew", fn := fun _ => fun
  | [d1, d2, d3, d4] => { results := [.lit (.bool true)], args := [d1, d2, d3, d4] }
  | _ => none }
def diffFewRow : OpenClaim := { program := "ytabenkmiojjiiaa", sum := "3803583efc358859039a0f62b7fec952dc4940657079d0240de84b39f42aa8ed", func := "paling/palinglaw48.DiffFew", spec := "diffFew", apart := false }
def DiffFewSaid : Prop := diffFewRow.holds Try.pinned (OpenSpec.ofChange diffFewSpec)

/-- ITS FALSE NEIGHBOUR: 'it returns false'. Refute it at one input. -/
def diffFewWrong : ChangeSpec := { name := "diffFew", fn := fun _ => fun
  | [d1, d2, d3, d4] => { results := [.lit (.bool false)], args := [d1, d2, d3, d4] }
  | _ => none }
def DiffFewWrongFalsely : Prop := diffFewRow.holds Try.pinned (OpenSpec.ofChange diffFewWrong)

/-- 'palinglaw46.PcapPuts': WHATEVER THE INPUT: true; the input reads as it did. -/
def pcapPutsSpec : ChangeSpec := { name := "pcapPuts", fn := fun _ => fun
  | [d] => { results := [.lit (.bool true)], args := [d] }
  | _ => none }
def pcapPutsRow : OpenClaim := { program := "ytabenkmiojjiiaa", sum := "3803583efc358859039a0f62b7fec952dc4940657079d0240de84b39f42aa8ed", func := "paling/palinglaw46.PcapPuts", spec := "pcapPuts", unfollowed := true, recurses := true, apart := false }
def PcapPutsSaid : Prop := pcapPutsRow.holds Try.pinned (OpenSpec.ofChange pcapPutsSpec)

/-- ITS FALSE NEIGHBOUR: 'it returns false'. Refute it at one input. -/
def pcapPutsWrong : ChangeSpec := { name := "pcapPuts", fn := fun _ => fun
  | [d] => { results := [.lit (.bool false)], args := [d] }
  | _ => none }
def PcapPutsWrongFalsely : Prop := pcapPutsRow.holds Try.pinned (OpenSpec.ofChange pcapPutsWrong)

/-- 'palinglaw46.PcapSeen': WHATEVER THE INPUT: true; the input reads as it did. -/
def pcapSeenSpec : ChangeSpec := { name := "pcapSeen", fn := fun _ => fun
  | [d1, d2] => { results := [.lit (.bool true)], args := [d1, d2] }
  | _ => none }
def pcapSeenRow : OpenClaim := { program := "ytabenkmiojjiiaa", sum := "3803583efc358859039a0f62b7fec952dc4940657079d0240de84b39f42aa8ed", func := "paling/palinglaw46.PcapSeen", spec := "pcapSeen", unfollowed := true, recurses := true, apart := false }
def PcapSeenSaid : Prop := pcapSeenRow.holds Try.pinned (OpenSpec.ofChange pcapSeenSpec)

/-- ITS FALSE NEIGHBOUR: 'it returns false'. Refute it at one input. -/
def pcapSeenWrong : ChangeSpec := { name := "pcapSeen", fn := fun _ => fun
  | [d1, d2] => { results := [.lit (.bool false)], args := [d1, d2] }
  | _ => none }
def PcapSeenWrongFalsely : Prop := pcapSeenRow.holds Try.pinned (OpenSpec.ofChange pcapSeenWrong)

/-- 'palinglaw46.PcapTakes': WHATEVER THE INPUT: true; the input reads as it did. -/
def pcapTakesSpec : ChangeSpec := { name := "pcapTakes", fn := fun _ => fun
  | [d] => { results := [.lit (.bool true)], args := [d] }
  | _ => none }
def pcapTakesRow : OpenClaim := { program := "ytabenkmiojjiiaa", sum := "3803583efc358859039a0f62b7fec952dc4940657079d0240de84b39f42aa8ed", func := "paling/palinglaw46.PcapTakes", spec := "pcapTakes", unfollowed := true, recurses := true, apart := false }
def PcapTakesSaid : Prop := pcapTakesRow.holds Try.pinned (OpenSpec.ofChange pcapTakesSpec)

/-- ITS FALSE NEIGHBOUR: 'it returns false'. Refute it at one input. -/
def pcapTakesWrong : ChangeSpec := { name := "pcapTakes", fn := fun _ => fun
  | [d] => { results := [.lit (.bool false)], args := [d] }
  | _ => none }
def PcapTakesWrongFalsely : Prop := pcapTakesRow.holds Try.pinned (OpenSpec.ofChange pcapTakesWrong)

/-- 'palinglaw46.PcapBack': WHATEVER THE INPUT: true; the input reads as it did. -/
def pcapBackSpec : ChangeSpec := { name := "pcapBack", fn := fun _ => fun
  | [d1, d2] => { results := [.lit (.bool true)], args := [d1, d2] }
  | _ => none }
def pcapBackRow : OpenClaim := { program := "ytabenkmiojjiiaa", sum := "3803583efc358859039a0f62b7fec952dc4940657079d0240de84b39f42aa8ed", func := "paling/palinglaw46.PcapBack", spec := "pcapBack", unfollowed := true, recurses := true, apart := false }
def PcapBackSaid : Prop := pcapBackRow.holds Try.pinned (OpenSpec.ofChange pcapBackSpec)

/-- ITS FALSE NEIGHBOUR: 'it returns false'. Refute it at one input. -/
def pcapBackWrong : ChangeSpec := { name := "pcapBack", fn := fun _ => fun
  | [d1, d2] => { results := [.lit (.bool false)], args := [d1, d2] }
  | _ => none }
def PcapBackWrongFalsely : Prop := pcapBackRow.holds Try.pinned (OpenSpec.ofChange pcapBackWrong)

/-- 'palinglaw10.LineRows': WHATEVER THE INPUT: true; the input reads as it did. -/
def lineRowsSpec : ChangeSpec := { name := "lineRows", fn := fun _ => fun
  | [d] => { results := [.lit (.bool true)], args := [d] }
  | _ => none }
def lineRowsRow : OpenClaim := { program := "ytabenkmiojjiiaa", sum := "3803583efc358859039a0f62b7fec952dc4940657079d0240de84b39f42aa8ed", func := "paling/palinglaw10.LineRows", spec := "lineRows", inPlace := ["internal/bytealg.IndexByteString", "internal/bytealg.IndexString"], unfollowed := true, recurses := true, named := ["internal/bytealg.MaxLen"], apart := false }
def LineRowsSaid : Prop := lineRowsRow.holds Try.pinned (OpenSpec.ofChange lineRowsSpec)

/-- ITS FALSE NEIGHBOUR: 'it returns false'. Refute it at one input. -/
def lineRowsWrong : ChangeSpec := { name := "lineRows", fn := fun _ => fun
  | [d] => { results := [.lit (.bool false)], args := [d] }
  | _ => none }
def LineRowsWrongFalsely : Prop := lineRowsRow.holds Try.pinned (OpenSpec.ofChange lineRowsWrong)

/-- 'palinglaw10.LineEnds': WHATEVER THE INPUT: true; the input reads as it did. -/
def lineEndsSpec : ChangeSpec := { name := "lineEnds", fn := fun _ => fun
  | [d] => { results := [.lit (.bool true)], args := [d] }
  | _ => none }
def lineEndsRow : OpenClaim := { program := "ytabenkmiojjiiaa", sum := "3803583efc358859039a0f62b7fec952dc4940657079d0240de84b39f42aa8ed", func := "paling/palinglaw10.LineEnds", spec := "lineEnds", inPlace := ["internal/bytealg.IndexByteString", "internal/bytealg.IndexString"], unfollowed := true, recurses := true, named := ["internal/bytealg.MaxLen"], apart := false }
def LineEndsSaid : Prop := lineEndsRow.holds Try.pinned (OpenSpec.ofChange lineEndsSpec)

/-- ITS FALSE NEIGHBOUR: 'it returns false'. Refute it at one input. -/
def lineEndsWrong : ChangeSpec := { name := "lineEnds", fn := fun _ => fun
  | [d] => { results := [.lit (.bool false)], args := [d] }
  | _ => none }
def LineEndsWrongFalsely : Prop := lineEndsRow.holds Try.pinned (OpenSpec.ofChange lineEndsWrong)

/-- 'palinglaw10.LineWords': WHATEVER THE INPUT: true; the input reads as it did. -/
def lineWordsSpec : ChangeSpec := { name := "lineWords", fn := fun _ => fun
  | [d1, d2] => { results := [.lit (.bool true)], args := [d1, d2] }
  | _ => none }
def lineWordsRow : OpenClaim := { program := "ytabenkmiojjiiaa", sum := "3803583efc358859039a0f62b7fec952dc4940657079d0240de84b39f42aa8ed", func := "paling/palinglaw10.LineWords", spec := "lineWords", inPlace := ["internal/bytealg.IndexByteString", "internal/bytealg.IndexString", "internal/abi.NoEscape", "internal/bytealg.MakeNoZero"], unfollowed := true, recurses := true, named := ["internal/bytealg.MaxLen"], apart := false }
def LineWordsSaid : Prop := lineWordsRow.holds Try.pinned (OpenSpec.ofChange lineWordsSpec)

/-- ITS FALSE NEIGHBOUR: 'it returns false'. Refute it at one input. -/
def lineWordsWrong : ChangeSpec := { name := "lineWords", fn := fun _ => fun
  | [d1, d2] => { results := [.lit (.bool false)], args := [d1, d2] }
  | _ => none }
def LineWordsWrongFalsely : Prop := lineWordsRow.holds Try.pinned (OpenSpec.ofChange lineWordsWrong)

/-- 'palinglaw10.LineBack': WHATEVER THE INPUT: true; the input reads as it did. -/
def lineBackSpec : ChangeSpec := { name := "lineBack", fn := fun _ => fun
  | [d1, d2] => { results := [.lit (.bool true)], args := [d1, d2] }
  | _ => none }
def lineBackRow : OpenClaim := { program := "ytabenkmiojjiiaa", sum := "3803583efc358859039a0f62b7fec952dc4940657079d0240de84b39f42aa8ed", func := "paling/palinglaw10.LineBack", spec := "lineBack", inPlace := ["internal/bytealg.IndexByteString", "internal/bytealg.IndexString", "internal/abi.NoEscape", "internal/bytealg.MakeNoZero"], unfollowed := true, recurses := true, named := ["internal/bytealg.MaxLen"], apart := false }
def LineBackSaid : Prop := lineBackRow.holds Try.pinned (OpenSpec.ofChange lineBackSpec)

/-- ITS FALSE NEIGHBOUR: 'it returns false'. Refute it at one input. -/
def lineBackWrong : ChangeSpec := { name := "lineBack", fn := fun _ => fun
  | [d1, d2] => { results := [.lit (.bool false)], args := [d1, d2] }
  | _ => none }
def LineBackWrongFalsely : Prop := lineBackRow.holds Try.pinned (OpenSpec.ofChange lineBackWrong)

/- THE SECOND FORM. 'bulk': how many values and letters a reading holds, each counted each time it is reached (what is shared counts as often as it is met; a slice's spare places count too). A statement '..UptoSaid' is the law's where the arguments, and the package variables that the reading takes, are together of bulk at most 1048576: NARROWER than '..Said'. Prove '..Said' where nothing that the law and all that it calls make is longer than what came in: it says more and counts as full. Else prove '..UptoSaid'. A law counts once. -/
mutual
def uptoBulk {H : Type} : DataW H → Nat
  | .lit (.string bytes) => bytes.length + 1
  | .lit _ => 1
  | .nil => 1
  | .ptr d => uptoBulk d + 1
  | .slice elems spare => uptoBulkAll elems + uptoBulkAll spare + 1
  | .agg parts => uptoBulkAll parts + 1
  | .iface _ d => uptoBulk d + 1
  | .map entries => uptoBulkEntries entries + 1
  | .held _ => 1
def uptoBulkAll {H : Type} : List (DataW H) → Nat
  | [] => 0
  | d :: r => uptoBulk d + uptoBulkAll r
def uptoBulkEntries {H : Type} : List (Lit × DataW H) → Nat
  | [] => 0
  | x :: r => uptoBulkEntry x + uptoBulkEntries r
def uptoBulkEntry {H : Type} : Lit × DataW H → Nat
  | (.string bytes, d) => bytes.length + uptoBulk d + 1
  | (_, d) => uptoBulk d + 1
 end
def uptoSmall : (H : Type) → List (DataW H) → Bool := fun _ ds => decide (uptoBulkAll ds ≤ 1048576)
def OpenSpec.upto (s : _root_.Go.ChangeSpec) : _root_.Go.OpenSpec := { _root_.Go.OpenSpec.ofChange s with cond := some uptoSmall }

/-- 'palinglaw48.DiffRows', WHERE WHAT IT READS IS OF BULK AT MOST 1048576: true; the input reads as it did. -/
def diffRowsUptoRow : OpenClaim := { program := "ytabenkmiojjiiaa", sum := "3803583efc358859039a0f62b7fec952dc4940657079d0240de84b39f42aa8ed", func := "paling/palinglaw48.DiffRows", spec := "diffRows", apart := false, narrowed := true }
def DiffRowsUptoSaid : Prop := diffRowsUptoRow.holds Try.pinned (OpenSpec.upto diffRowsSpec)

/-- 'palinglaw48.DiffFew', WHERE WHAT IT READS IS OF BULK AT MOST 1048576: true; the input reads as it did. -/
def diffFewUptoRow : OpenClaim := { program := "ytabenkmiojjiiaa", sum := "3803583efc358859039a0f62b7fec952dc4940657079d0240de84b39f42aa8ed", func := "paling/palinglaw48.DiffFew", spec := "diffFew", apart := false, narrowed := true }
def DiffFewUptoSaid : Prop := diffFewUptoRow.holds Try.pinned (OpenSpec.upto diffFewSpec)

/-- 'palinglaw46.PcapPuts', WHERE WHAT IT READS IS OF BULK AT MOST 1048576: true; the input reads as it did. -/
def pcapPutsUptoRow : OpenClaim := { program := "ytabenkmiojjiiaa", sum := "3803583efc358859039a0f62b7fec952dc4940657079d0240de84b39f42aa8ed", func := "paling/palinglaw46.PcapPuts", spec := "pcapPuts", unfollowed := true, recurses := true, apart := false, narrowed := true }
def PcapPutsUptoSaid : Prop := pcapPutsUptoRow.holds Try.pinned (OpenSpec.upto pcapPutsSpec)

/-- 'palinglaw46.PcapSeen', WHERE WHAT IT READS IS OF BULK AT MOST 1048576: true; the input reads as it did. -/
def pcapSeenUptoRow : OpenClaim := { program := "ytabenkmiojjiiaa", sum := "3803583efc358859039a0f62b7fec952dc4940657079d0240de84b39f42aa8ed", func := "paling/palinglaw46.PcapSeen", spec := "pcapSeen", unfollowed := true, recurses := true, apart := false, narrowed := true }
def PcapSeenUptoSaid : Prop := pcapSeenUptoRow.holds Try.pinned (OpenSpec.upto pcapSeenSpec)

/-- 'palinglaw46.PcapTakes', WHERE WHAT IT READS IS OF BULK AT MOST 1048576: true; the input reads as it did. -/
def pcapTakesUptoRow : OpenClaim := { program := "ytabenkmiojjiiaa", sum := "3803583efc358859039a0f62b7fec952dc4940657079d0240de84b39f42aa8ed", func := "paling/palinglaw46.PcapTakes", spec := "pcapTakes", unfollowed := true, recurses := true, apart := false, narrowed := true }
def PcapTakesUptoSaid : Prop := pcapTakesUptoRow.holds Try.pinned (OpenSpec.upto pcapTakesSpec)

/-- 'palinglaw46.PcapBack', WHERE WHAT IT READS IS OF BULK AT MOST 1048576: true; the input reads as it did. -/
def pcapBackUptoRow : OpenClaim := { program := "ytabenkmiojjiiaa", sum := "3803583efc358859039a0f62b7fec952dc4940657079d0240de84b39f42aa8ed", func := "paling/palinglaw46.PcapBack", spec := "pcapBack", unfollowed := true, recurses := true, apart := false, narrowed := true }
def PcapBackUptoSaid : Prop := pcapBackUptoRow.holds Try.pinned (OpenSpec.upto pcapBackSpec)

/-- 'palinglaw10.LineRows', WHERE WHAT IT READS IS OF BULK AT MOST 1048576: true; the input reads as it did. -/
def lineRowsUptoRow : OpenClaim := { program := "ytabenkmiojjiiaa", sum := "3803583efc358859039a0f62b7fec952dc4940657079d0240de84b39f42aa8ed", func := "paling/palinglaw10.LineRows", spec := "lineRows", inPlace := ["internal/bytealg.IndexByteString", "internal/bytealg.IndexString"], unfollowed := true, recurses := true, named := ["internal/bytealg.MaxLen"], apart := false, narrowed := true }
def LineRowsUptoSaid : Prop := lineRowsUptoRow.holds Try.pinned (OpenSpec.upto lineRowsSpec)

/-- 'palinglaw10.LineEnds', WHERE WHAT IT READS IS OF BULK AT MOST 1048576: true; the input reads as it did. -/
def lineEndsUptoRow : OpenClaim := { program := "ytabenkmiojjiiaa", sum := "3803583efc358859039a0f62b7fec952dc4940657079d0240de84b39f42aa8ed", func := "paling/palinglaw10.LineEnds", spec := "lineEnds", inPlace := ["internal/bytealg.IndexByteString", "internal/bytealg.IndexString"], unfollowed := true, recurses := true, named := ["internal/bytealg.MaxLen"], apart := false, narrowed := true }
def LineEndsUptoSaid : Prop := lineEndsUptoRow.holds Try.pinned (OpenSpec.upto lineEndsSpec)

/-- 'palinglaw10.LineWords', WHERE WHAT IT READS IS OF BULK AT MOST 1048576: true; the input reads as it did. -/
def lineWordsUptoRow : OpenClaim := { program := "ytabenkmiojjiiaa", sum := "3803583efc358859039a0f62b7fec952dc4940657079d0240de84b39f42aa8ed", func := "paling/palinglaw10.LineWords", spec := "lineWords", inPlace := ["internal/bytealg.IndexByteString", "internal/bytealg.IndexString", "internal/abi.NoEscape", "internal/bytealg.MakeNoZero"], unfollowed := true, recurses := true, named := ["internal/bytealg.MaxLen"], apart := false, narrowed := true }
def LineWordsUptoSaid : Prop := lineWordsUptoRow.holds Try.pinned (OpenSpec.upto lineWordsSpec)

/-- 'palinglaw10.LineBack', WHERE WHAT IT READS IS OF BULK AT MOST 1048576: true; the input reads as it did. -/
def lineBackUptoRow : OpenClaim := { program := "ytabenkmiojjiiaa", sum := "3803583efc358859039a0f62b7fec952dc4940657079d0240de84b39f42aa8ed", func := "paling/palinglaw10.LineBack", spec := "lineBack", inPlace := ["internal/bytealg.IndexByteString", "internal/bytealg.IndexString", "internal/abi.NoEscape", "internal/bytealg.MakeNoZero"], unfollowed := true, recurses := true, named := ["internal/bytealg.MaxLen"], apart := false, narrowed := true }
def LineBackUptoSaid : Prop := lineBackUptoRow.holds Try.pinned (OpenSpec.upto lineBackSpec)

end Rows
end Go.Proofs.Ytabenkmiojjiiaa
