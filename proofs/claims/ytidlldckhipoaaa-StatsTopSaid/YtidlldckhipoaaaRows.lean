/-
  No cell of these rows narrows 'for every input' (looked for: loops, veiled, ifaces, maps, wideKeys, modest, calm, conditions, laid).
  DERIVED. THE GIVEN ROWS OF THIS SEAT. 4 by the template 'for every input the law returns true; each argument reads behind the call as it read before'; 0 by the template 'total and deterministic' (their statements: YtidlldckhipoaaaTotals.lean).
  GIVEN WITH THE SEED: the statements are not yours to turn. If you find one false, say at which input.
  Laid BY PROGRAM, IN A SANDBOX (cutbox-rows.mjs): the forced cells as the released guide's own fill.sh prints them over the translation a5f9f28182efa287… (all of the seat's roots in one cut). By AI agents, Wed Nov 11 2026. No macro, syntax, notation, axiom, sorry.
-/
import Derived.Test.YtidlldckhipoaaaChecked
import GoSem.Claim
import GoSem.ClaimJoined
import GoSem.ClaimMapViews
import Derived.JoinedTies
import Derived.KernelRfl
namespace Go.Proofs.Ytidlldckhipoaaa
/- THE CELL 'sum', in the pinned program and in every row, IS THE sha256 OF THE DUMP (.gsa) THAT YtidlldckhipoaaaProg.lean LOADS. Nothing in Lean hashes anything: it is a label: what it is worth is what the hold of that sum in a sandbox is worth. -/
noncomputable def Try.pinned : Pinned := { name := "ytidlldckhipoaaa", sum := "a5f9f28182efa2870025fd159a599cd8df7d181ba9a13ba8b5f5b4e4c856cb21", checked := Try.checked }
namespace Rows
def none {H : Type} : Left H := { results := [], args := [] }

/-- 'palinglaw50.StatsTop': WHATEVER THE INPUT: true; the input reads as it did. -/
def statsTopSpec : ChangeSpec := { name := "statsTop", fn := fun _ => fun
  | [d1, d2] => { results := [.lit (.bool true)], args := [d1, d2] }
  | _ => none }
def statsTopRow : OpenClaim := { program := "ytidlldckhipoaaa", sum := "a5f9f28182efa2870025fd159a599cd8df7d181ba9a13ba8b5f5b4e4c856cb21", func := "paling/palinglaw50.StatsTop", spec := "statsTop", inPlace := ["internal/abi.NoEscape"], unfollowed := true, recurses := true, apart := false }
def StatsTopSaid : Prop := statsTopRow.holds Try.pinned (OpenSpec.ofChange statsTopSpec)

/-- ITS FALSE NEIGHBOUR: 'it returns false'. Refute it at one input. -/
def statsTopWrong : ChangeSpec := { name := "statsTop", fn := fun _ => fun
  | [d1, d2] => { results := [.lit (.bool false)], args := [d1, d2] }
  | _ => none }
def StatsTopWrongFalsely : Prop := statsTopRow.holds Try.pinned (OpenSpec.ofChange statsTopWrong)

/-- 'palinglaw50.StatsCounts': WHATEVER THE INPUT: true; the input reads as it did. -/
def statsCountsSpec : ChangeSpec := { name := "statsCounts", fn := fun _ => fun
  | [d] => { results := [.lit (.bool true)], args := [d] }
  | _ => none }
def statsCountsRow : OpenClaim := { program := "ytidlldckhipoaaa", sum := "a5f9f28182efa2870025fd159a599cd8df7d181ba9a13ba8b5f5b4e4c856cb21", func := "paling/palinglaw50.StatsCounts", spec := "statsCounts", inPlace := ["internal/abi.NoEscape"], unfollowed := true, recurses := true, apart := false }
def StatsCountsSaid : Prop := statsCountsRow.holds Try.pinned (OpenSpec.ofChange statsCountsSpec)

/-- ITS FALSE NEIGHBOUR: 'it returns false'. Refute it at one input. -/
def statsCountsWrong : ChangeSpec := { name := "statsCounts", fn := fun _ => fun
  | [d] => { results := [.lit (.bool false)], args := [d] }
  | _ => none }
def StatsCountsWrongFalsely : Prop := statsCountsRow.holds Try.pinned (OpenSpec.ofChange statsCountsWrong)

/-- 'palinglaw50.StatsLists': WHATEVER THE INPUT: true; the input reads as it did. -/
def statsListsSpec : ChangeSpec := { name := "statsLists", fn := fun _ => fun
  | [d1, d2, d3] => { results := [.lit (.bool true)], args := [d1, d2, d3] }
  | _ => none }
def statsListsRow : OpenClaim := { program := "ytidlldckhipoaaa", sum := "a5f9f28182efa2870025fd159a599cd8df7d181ba9a13ba8b5f5b4e4c856cb21", func := "paling/palinglaw50.StatsLists", spec := "statsLists", inPlace := ["internal/abi.NoEscape"], unfollowed := true, recurses := true, apart := false }
def StatsListsSaid : Prop := statsListsRow.holds Try.pinned (OpenSpec.ofChange statsListsSpec)

/-- ITS FALSE NEIGHBOUR: 'it returns false'. Refute it at one input. -/
def statsListsWrong : ChangeSpec := { name := "statsLists", fn := fun _ => fun
  | [d1, d2, d3] => { results := [.lit (.bool false)], args := [d1, d2, d3] }
  | _ => none }
def StatsListsWrongFalsely : Prop := statsListsRow.holds Try.pinned (OpenSpec.ofChange statsListsWrong)

/-- 'palinglaw50.StatsSums': WHATEVER THE INPUT: true; the input reads as it did. -/
def statsSumsSpec : ChangeSpec := { name := "statsSums", fn := fun _ => fun
  | [d1, d2] => { results := [.lit (.bool true)], args := [d1, d2] }
  | _ => none }
def statsSumsRow : OpenClaim := { program := "ytidlldckhipoaaa", sum := "a5f9f28182efa2870025fd159a599cd8df7d181ba9a13ba8b5f5b4e4c856cb21", func := "paling/palinglaw50.StatsSums", spec := "statsSums", inPlace := ["internal/abi.NoEscape"], unfollowed := true, recurses := true, apart := false }
def StatsSumsSaid : Prop := statsSumsRow.holds Try.pinned (OpenSpec.ofChange statsSumsSpec)

/-- ITS FALSE NEIGHBOUR: 'it returns false'. Refute it at one input. -/
def statsSumsWrong : ChangeSpec := { name := "statsSums", fn := fun _ => fun
  | [d1, d2] => { results := [.lit (.bool false)], args := [d1, d2] }
  | _ => none }
def StatsSumsWrongFalsely : Prop := statsSumsRow.holds Try.pinned (OpenSpec.ofChange statsSumsWrong)

/- THE SECOND FORM. 'bulk': how many values and letters a reading holds, each counted each time it is reached (what is shared counts as often as it is met; a slice's spare places count too). A statement '..UptoSaid' is the law's where the arguments, and the package variables that the reading takes, are together of bulk at most 1048576: NARROWER than '..Said'. Prove '..Said' where nothing that the law and all that it calls make is longer than what came in: it says more and counts as full. Else prove '..UptoSaid'. A law counts once. -/
mutual
def uptoBulk {H : Type} : DataW H → Nat
  | .lit (.string bytes) => bytes.length + 1
  | .lit _ => 1
  | .nil => 1
  | .ptr d => uptoBulk d + 1
  | .slice elems spare => uptoBulkAll elems + uptoBulkAll spare + 1
  | .agg parts => uptoBulkAll parts + 1
  | .iface _ d => uptoBulk d + 1
  | .map entries => uptoBulkEntries entries + 1
  | .held _ => 1
def uptoBulkAll {H : Type} : List (DataW H) → Nat
  | [] => 0
  | d :: r => uptoBulk d + uptoBulkAll r
def uptoBulkEntries {H : Type} : List (Lit × DataW H) → Nat
  | [] => 0
  | x :: r => uptoBulkEntry x + uptoBulkEntries r
def uptoBulkEntry {H : Type} : Lit × DataW H → Nat
  | (.string bytes, d) => bytes.length + uptoBulk d + 1
  | (_, d) => uptoBulk d + 1
 end
def uptoSmall : (H : Type) → List (DataW H) → Bool := fun _ ds => decide (uptoBulkAll ds ≤ 1048576)
def OpenSpec.upto (s : _root_.Go.ChangeSpec) : _root_.Go.OpenSpec := { _root_.Go.OpenSpec.ofChange s with cond := some uptoSmall }

/-- 'palinglaw50.StatsTop', WHERE WHAT IT READS IS OF BULK AT MOST 1048576: true; the input reads as it did. -/
def statsTopUptoRow : OpenClaim := { program := "ytidlldckhipoaaa", sum := "a5f9f28182efa2870025fd159a599cd8df7d181ba9a13ba8b5f5b4e4c856cb21", func := "paling/palinglaw50.StatsTop", spec := "statsTop", inPlace := ["internal/abi.NoEscape"], unfollowed := true, recurses := true, apart := false, narrowed := true }
def StatsTopUptoSaid : Prop := statsTopUptoRow.holds Try.pinned (OpenSpec.upto statsTopSpec)

/-- 'palinglaw50.StatsCounts', WHERE WHAT IT READS IS OF BULK AT MOST 1048576: true; the input reads as it did. -/
def statsCountsUptoRow : OpenClaim := { program := "ytidlldckhipoaaa", sum := "a5f9f28182efa2870025fd159a599cd8df7d181ba9a13ba8b5f5b4e4c856cb21", func := "paling/palinglaw50.StatsCounts", spec := "statsCounts", inPlace := ["internal/abi.NoEscape"], unfollowed := true, recurses := true, apart := false, narrowed := true }
def StatsCountsUptoSaid : Prop := statsCountsUptoRow.holds Try.pinned (OpenSpec.upto statsCountsSpec)

/-- 'palinglaw50.StatsLists', WHERE WHAT IT READS IS OF BULK AT MOST 1048576: true; the input reads as it did. -/
def statsListsUptoRow : OpenClaim := { program := "ytidlldckhipoaaa", sum := "a5f9f28182efa2870025fd159a599cd8df7d181ba9a13ba8b5f5b4e4c856cb21", func := "paling/palinglaw50.StatsLists", spec := "statsLists", inPlace := ["internal/abi.NoEscape"], unfollowed := true, recurses := true, apart := false, narrowed := true }
def StatsListsUptoSaid : Prop := statsListsUptoRow.holds Try.pinned (OpenSpec.upto statsListsSpec)

/-- 'palinglaw50.StatsSums', WHERE WHAT IT READS IS OF BULK AT MOST 1048576: true; the input reads as it did. -/
def statsSumsUptoRow : OpenClaim := { program := "ytidlldckhipoaaa", sum := "a5f9f28182efa2870025fd159a599cd8df7d181ba9a13ba8b5f5b4e4c856cb21", func := "paling/palinglaw50.StatsSums", spec := "statsSums", inPlace := ["internal/abi.NoEscape"], unfollowed := true, recurses := true, apart := false, narrowed := true }
def StatsSumsUptoSaid : Prop := statsSumsUptoRow.holds Try.pinned (OpenSpec.upto statsSumsSpec)

end Rows
end Go.Proofs.Ytidlldckhipoaaa
