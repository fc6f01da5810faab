/-
  No cell of these rows narrows 'for every input' (looked for: loops, veiled, ifaces, maps, wideKeys, modest, calm, conditions, laid).
  DERIVED. THE GIVEN ROWS OF THIS SEAT. 12 by the template 'for every input the law returns true; each argument reads behind the call as it read before'; 0 by the template 'total and deterministic' (their statements: YtimibefpfenelaaTotals.lean).
  GIVEN WITH THE SEED: the statements are not yours to turn. If you find one false, say at which input.
  Laid BY PROGRAM, IN A SANDBOX (cutbox-rows.mjs): the forced cells as the released guide's own fill.sh prints them over the translation 862f59e35257cf95… (all of the seat's roots in one cut). By AI agents, Wed Nov 11 2026. No macro, syntax, notation, axiom, sorry.
-/
import Derived.Test.YtimibefpfenelaaChecked
import GoSem.Claim
import GoSem.ClaimJoined
import GoSem.ClaimMapViews
import Derived.JoinedTies
import Derived.KernelRfl
namespace Go.Proofs.Ytimibefpfenelaa
/- THE CELL 'sum', in the pinned program and in every row, IS THE sha256 OF THE DUMP (.gsa) THAT YtimibefpfenelaaProg.lean LOADS. Nothing in Lean hashes anything: it is a label: what it is worth is what the hold of that sum in a sandbox is worth. -/
noncomputable def Try.pinned : Pinned := { name := "ytimibefpfenelaa", sum := "862f59e35257cf9508d4ec1bb5b40d4f074cf1fd67e3ad0d659c4ce3133d117b", checked := Try.checked }
namespace Rows
def none {H : Type} : Left H := { results := [], args := [] }

/-- 'palinglaw32.QueueMoves': WHATEVER THE INPUT: true; the input reads as it did. -/
def queueMovesSpec : ChangeSpec := { name := "queueMoves", fn := fun _ => fun
  | [d1, d2, d3] => { results := [.lit (.bool true)], args := [d1, d2, d3] }
  | _ => none }
def queueMovesRow : OpenClaim := { program := "ytimibefpfenelaa", sum := "862f59e35257cf9508d4ec1bb5b40d4f074cf1fd67e3ad0d659c4ce3133d117b", func := "paling/palinglaw32.QueueMoves", spec := "queueMoves", apart := false }
def QueueMovesSaid : Prop := queueMovesRow.holds Try.pinned (OpenSpec.ofChange queueMovesSpec)

/-- ITS FALSE NEIGHBOUR: 'it returns false'. Refute it at one input. -/
def queueMovesWrong : ChangeSpec := { name := "queueMoves", fn := fun _ => fun
  | [d1, d2, d3] => { results := [.lit (.bool false)], args := [d1, d2, d3] }
  | _ => none }
def QueueMovesWrongFalsely : Prop := queueMovesRow.holds Try.pinned (OpenSpec.ofChange queueMovesWrong)

/-- 'palinglaw05.TagStrips': WHATEVER THE INPUT: true; the input reads as it did. -/
def tagStripsSpec : ChangeSpec := { name := "tagStrips", fn := fun _ => fun
  | [d] => { results := [.lit (.bool true)], args := [d] }
  | _ => none }
def tagStripsRow : OpenClaim := { program := "ytimibefpfenelaa", sum := "862f59e35257cf9508d4ec1bb5b40d4f074cf1fd67e3ad0d659c4ce3133d117b", func := "paling/palinglaw05.TagStrips", spec := "tagStrips", apart := false }
def TagStripsSaid : Prop := tagStripsRow.holds Try.pinned (OpenSpec.ofChange tagStripsSpec)

/-- ITS FALSE NEIGHBOUR: 'it returns false'. Refute it at one input. -/
def tagStripsWrong : ChangeSpec := { name := "tagStrips", fn := fun _ => fun
  | [d] => { results := [.lit (.bool false)], args := [d] }
  | _ => none }
def TagStripsWrongFalsely : Prop := tagStripsRow.holds Try.pinned (OpenSpec.ofChange tagStripsWrong)

/-- 'palinglaw05.TagAdds': WHATEVER THE INPUT: true; the input reads as it did. -/
def tagAddsSpec : ChangeSpec := { name := "tagAdds", fn := fun _ => fun
  | [d1, d2, d3] => { results := [.lit (.bool true)], args := [d1, d2, d3] }
  | _ => none }
def tagAddsRow : OpenClaim := { program := "ytimibefpfenelaa", sum := "862f59e35257cf9508d4ec1bb5b40d4f074cf1fd67e3ad0d659c4ce3133d117b", func := "paling/palinglaw05.TagAdds", spec := "tagAdds", apart := false }
def TagAddsSaid : Prop := tagAddsRow.holds Try.pinned (OpenSpec.ofChange tagAddsSpec)

/-- ITS FALSE NEIGHBOUR: 'it returns false'. Refute it at one input. -/
def tagAddsWrong : ChangeSpec := { name := "tagAdds", fn := fun _ => fun
  | [d1, d2, d3] => { results := [.lit (.bool false)], args := [d1, d2, d3] }
  | _ => none }
def TagAddsWrongFalsely : Prop := tagAddsRow.holds Try.pinned (OpenSpec.ofChange tagAddsWrong)

/-- 'palinglaw05.TagOnce': WHATEVER THE INPUT: true; the input reads as it did. -/
def tagOnceSpec : ChangeSpec := { name := "tagOnce", fn := fun _ => fun
  | [d1, d2, d3] => { results := [.lit (.bool true)], args := [d1, d2, d3] }
  | _ => none }
def tagOnceRow : OpenClaim := { program := "ytimibefpfenelaa", sum := "862f59e35257cf9508d4ec1bb5b40d4f074cf1fd67e3ad0d659c4ce3133d117b", func := "paling/palinglaw05.TagOnce", spec := "tagOnce", apart := false }
def TagOnceSaid : Prop := tagOnceRow.holds Try.pinned (OpenSpec.ofChange tagOnceSpec)

/-- ITS FALSE NEIGHBOUR: 'it returns false'. Refute it at one input. -/
def tagOnceWrong : ChangeSpec := { name := "tagOnce", fn := fun _ => fun
  | [d1, d2, d3] => { results := [.lit (.bool false)], args := [d1, d2, d3] }
  | _ => none }
def TagOnceWrongFalsely : Prop := tagOnceRow.holds Try.pinned (OpenSpec.ofChange tagOnceWrong)

/-- 'palinglaw05.TagBack': WHATEVER THE INPUT: true; the input reads as it did. -/
def tagBackSpec : ChangeSpec := { name := "tagBack", fn := fun _ => fun
  | [d1, d2, d3] => { results := [.lit (.bool true)], args := [d1, d2, d3] }
  | _ => none }
def tagBackRow : OpenClaim := { program := "ytimibefpfenelaa", sum := "862f59e35257cf9508d4ec1bb5b40d4f074cf1fd67e3ad0d659c4ce3133d117b", func := "paling/palinglaw05.TagBack", spec := "tagBack", apart := false }
def TagBackSaid : Prop := tagBackRow.holds Try.pinned (OpenSpec.ofChange tagBackSpec)

/-- ITS FALSE NEIGHBOUR: 'it returns false'. Refute it at one input. -/
def tagBackWrong : ChangeSpec := { name := "tagBack", fn := fun _ => fun
  | [d1, d2, d3] => { results := [.lit (.bool false)], args := [d1, d2, d3] }
  | _ => none }
def TagBackWrongFalsely : Prop := tagBackRow.holds Try.pinned (OpenSpec.ofChange tagBackWrong)

/-- 'palinglaw32.QueueBack': WHATEVER THE INPUT: true; the input reads as it did. -/
def queueBackSpec : ChangeSpec := { name := "queueBack", fn := fun _ => fun
  | [d1, d2] => { results := [.lit (.bool true)], args := [d1, d2] }
  | _ => none }
def queueBackRow : OpenClaim := { program := "ytimibefpfenelaa", sum := "862f59e35257cf9508d4ec1bb5b40d4f074cf1fd67e3ad0d659c4ce3133d117b", func := "paling/palinglaw32.QueueBack", spec := "queueBack", unfollowed := true, recurses := true, apart := false }
def QueueBackSaid : Prop := queueBackRow.holds Try.pinned (OpenSpec.ofChange queueBackSpec)

/-- ITS FALSE NEIGHBOUR: 'it returns false'. Refute it at one input. -/
def queueBackWrong : ChangeSpec := { name := "queueBack", fn := fun _ => fun
  | [d1, d2] => { results := [.lit (.bool false)], args := [d1, d2] }
  | _ => none }
def QueueBackWrongFalsely : Prop := queueBackRow.holds Try.pinned (OpenSpec.ofChange queueBackWrong)

/-- 'palinglaw32.QueueOrder': WHATEVER THE INPUT: true; the input reads as it did. -/
def queueOrderSpec : ChangeSpec := { name := "queueOrder", fn := fun _ => fun
  | [d1, d2] => { results := [.lit (.bool true)], args := [d1, d2] }
  | _ => none }
def queueOrderRow : OpenClaim := { program := "ytimibefpfenelaa", sum := "862f59e35257cf9508d4ec1bb5b40d4f074cf1fd67e3ad0d659c4ce3133d117b", func := "paling/palinglaw32.QueueOrder", spec := "queueOrder", unfollowed := true, recurses := true, apart := false }
def QueueOrderSaid : Prop := queueOrderRow.holds Try.pinned (OpenSpec.ofChange queueOrderSpec)

/-- ITS FALSE NEIGHBOUR: 'it returns false'. Refute it at one input. -/
def queueOrderWrong : ChangeSpec := { name := "queueOrder", fn := fun _ => fun
  | [d1, d2] => { results := [.lit (.bool false)], args := [d1, d2] }
  | _ => none }
def QueueOrderWrongFalsely : Prop := queueOrderRow.holds Try.pinned (OpenSpec.ofChange queueOrderWrong)

/-- 'palinglaw32.QueueCounts': WHATEVER THE INPUT: true; the input reads as it did. -/
def queueCountsSpec : ChangeSpec := { name := "queueCounts", fn := fun _ => fun
  | [d1, d2, d3, d4] => { results := [.lit (.bool true)], args := [d1, d2, d3, d4] }
  | _ => none }
def queueCountsRow : OpenClaim := { program := "ytimibefpfenelaa", sum := "862f59e35257cf9508d4ec1bb5b40d4f074cf1fd67e3ad0d659c4ce3133d117b", func := "paling/palinglaw32.QueueCounts", spec := "queueCounts", unfollowed := true, recurses := true, apart := false }
def QueueCountsSaid : Prop := queueCountsRow.holds Try.pinned (OpenSpec.ofChange queueCountsSpec)

/-- ITS FALSE NEIGHBOUR: 'it returns false'. Refute it at one input. -/
def queueCountsWrong : ChangeSpec := { name := "queueCounts", fn := fun _ => fun
  | [d1, d2, d3, d4] => { results := [.lit (.bool false)], args := [d1, d2, d3, d4] }
  | _ => none }
def QueueCountsWrongFalsely : Prop := queueCountsRow.holds Try.pinned (OpenSpec.ofChange queueCountsWrong)

/-- 'palinglaw26.TableKeeps': WHATEVER THE INPUT: true; the input reads as it did. -/
def tableKeepsSpec : ChangeSpec := { name := "tableKeeps", fn := fun _ => fun
  | [d1, d2, d3, d4] => { results := [.lit (.bool true)], args := [d1, d2, d3, d4] }
  | _ => none }
def tableKeepsRow : OpenClaim := { program := "ytimibefpfenelaa", sum := "862f59e35257cf9508d4ec1bb5b40d4f074cf1fd67e3ad0d659c4ce3133d117b", func := "paling/palinglaw26.TableKeeps", spec := "tableKeeps", unfollowed := true, recurses := true, apart := false }
def TableKeepsSaid : Prop := tableKeepsRow.holds Try.pinned (OpenSpec.ofChange tableKeepsSpec)

/-- ITS FALSE NEIGHBOUR: 'it returns false'. Refute it at one input. -/
def tableKeepsWrong : ChangeSpec := { name := "tableKeeps", fn := fun _ => fun
  | [d1, d2, d3, d4] => { results := [.lit (.bool false)], args := [d1, d2, d3, d4] }
  | _ => none }
def TableKeepsWrongFalsely : Prop := tableKeepsRow.holds Try.pinned (OpenSpec.ofChange tableKeepsWrong)

/-- 'palinglaw26.TableAsks': WHATEVER THE INPUT: true; the input reads as it did. -/
def tableAsksSpec : ChangeSpec := { name := "tableAsks", fn := fun _ => fun
  | [d1, d2, d3] => { results := [.lit (.bool true)], args := [d1, d2, d3] }
  | _ => none }
def tableAsksRow : OpenClaim := { program := "ytimibefpfenelaa", sum := "862f59e35257cf9508d4ec1bb5b40d4f074cf1fd67e3ad0d659c4ce3133d117b", func := "paling/palinglaw26.TableAsks", spec := "tableAsks", unfollowed := true, recurses := true, apart := false }
def TableAsksSaid : Prop := tableAsksRow.holds Try.pinned (OpenSpec.ofChange tableAsksSpec)

/-- ITS FALSE NEIGHBOUR: 'it returns false'. Refute it at one input. -/
def tableAsksWrong : ChangeSpec := { name := "tableAsks", fn := fun _ => fun
  | [d1, d2, d3] => { results := [.lit (.bool false)], args := [d1, d2, d3] }
  | _ => none }
def TableAsksWrongFalsely : Prop := tableAsksRow.holds Try.pinned (OpenSpec.ofChange tableAsksWrong)

/-- 'palinglaw26.TableLearns': WHATEVER THE INPUT: true; the input reads as it did. -/
def tableLearnsSpec : ChangeSpec := { name := "tableLearns", fn := fun _ => fun
  | [d1, d2, d3, d4] => { results := [.lit (.bool true)], args := [d1, d2, d3, d4] }
  | _ => none }
def tableLearnsRow : OpenClaim := { program := "ytimibefpfenelaa", sum := "862f59e35257cf9508d4ec1bb5b40d4f074cf1fd67e3ad0d659c4ce3133d117b", func := "paling/palinglaw26.TableLearns", spec := "tableLearns", unfollowed := true, recurses := true, apart := false }
def TableLearnsSaid : Prop := tableLearnsRow.holds Try.pinned (OpenSpec.ofChange tableLearnsSpec)

/-- ITS FALSE NEIGHBOUR: 'it returns false'. Refute it at one input. -/
def tableLearnsWrong : ChangeSpec := { name := "tableLearns", fn := fun _ => fun
  | [d1, d2, d3, d4] => { results := [.lit (.bool false)], args := [d1, d2, d3, d4] }
  | _ => none }
def TableLearnsWrongFalsely : Prop := tableLearnsRow.holds Try.pinned (OpenSpec.ofChange tableLearnsWrong)

/-- 'palinglaw26.TableAges': WHATEVER THE INPUT: true; the input reads as it did. -/
def tableAgesSpec : ChangeSpec := { name := "tableAges", fn := fun _ => fun
  | [d1, d2, d3] => { results := [.lit (.bool true)], args := [d1, d2, d3] }
  | _ => none }
def tableAgesRow : OpenClaim := { program := "ytimibefpfenelaa", sum := "862f59e35257cf9508d4ec1bb5b40d4f074cf1fd67e3ad0d659c4ce3133d117b", func := "paling/palinglaw26.TableAges", spec := "tableAges", unfollowed := true, recurses := true, apart := false }
def TableAgesSaid : Prop := tableAgesRow.holds Try.pinned (OpenSpec.ofChange tableAgesSpec)

/-- ITS FALSE NEIGHBOUR: 'it returns false'. Refute it at one input. -/
def tableAgesWrong : ChangeSpec := { name := "tableAges", fn := fun _ => fun
  | [d1, d2, d3] => { results := [.lit (.bool false)], args := [d1, d2, d3] }
  | _ => none }
def TableAgesWrongFalsely : Prop := tableAgesRow.holds Try.pinned (OpenSpec.ofChange tableAgesWrong)

/- THE SECOND FORM. 'bulk': how many values and letters a reading holds, each counted each time it is reached (what is shared counts as often as it is met; a slice's spare places count too). A statement '..UptoSaid' is the law's where the arguments, and the package variables that the reading takes, are together of bulk at most 1048576: NARROWER than '..Said'. Prove '..Said' where nothing that the law and all that it calls make is longer than what came in: it says more and counts as full. Else prove '..UptoSaid'. A law counts once. -/
mutual
def uptoBulk {H : Type} : DataW H → Nat
  | .lit (.string bytes) => bytes.length + 1
  | .lit _ => 1
  | .nil => 1
  | .ptr d => uptoBulk d + 1
  | .slice elems spare => uptoBulkAll elems + uptoBulkAll spare + 1
  | .agg parts => uptoBulkAll parts + 1
  | .iface _ d => uptoBulk d + 1
  | .map entries => uptoBulkEntries entries + 1
  | .held _ => 1
def uptoBulkAll {H : Type} : List (DataW H) → Nat
  | [] => 0
  | d :: r => uptoBulk d + uptoBulkAll r
def uptoBulkEntries {H : Type} : List (Lit × DataW H) → Nat
  | [] => 0
  | x :: r => uptoBulkEntry x + uptoBulkEntries r
def uptoBulkEntry {H : Type} : Lit × DataW H → Nat
  | (.string bytes, d) => bytes.length + uptoBulk d + 1
  | (_, d) => uptoBulk d + 1
 end
def uptoSmall : (H : Type) → List (DataW H) → Bool := fun _ ds => decide (uptoBulkAll ds ≤ 1048576)
def OpenSpec.upto (s : _root_.Go.ChangeSpec) : _root_.Go.OpenSpec := { _root_.Go.OpenSpec.ofChange s with cond := some uptoSmall }

/-- 'palinglaw32.QueueMoves', WHERE WHAT IT READS IS OF BULK AT MOST 1048576: true; the input reads as it did. -/
def queueMovesUptoRow : OpenClaim := { program := "ytimibefpfenelaa", sum := "862f59e35257cf9508d4ec1bb5b40d4f074cf1fd67e3ad0d659c4ce3133d117b", func := "paling/palinglaw32.QueueMoves", spec := "queueMoves", apart := false, narrowed := true }
def QueueMovesUptoSaid : Prop := queueMovesUptoRow.holds Try.pinned (OpenSpec.upto queueMovesSpec)

/-- 'palinglaw05.TagStrips', WHERE WHAT IT READS IS OF BULK AT MOST 1048576: true; the input reads as it did. -/
def tagStripsUptoRow : OpenClaim := { program := "ytimibefpfenelaa", sum := "862f59e35257cf9508d4ec1bb5b40d4f074cf1fd67e3ad0d659c4ce3133d117b", func := "paling/palinglaw05.TagStrips", spec := "tagStrips", apart := false, narrowed := true }
def TagStripsUptoSaid : Prop := tagStripsUptoRow.holds Try.pinned (OpenSpec.upto tagStripsSpec)

/-- 'palinglaw05.TagAdds', WHERE WHAT IT READS IS OF BULK AT MOST 1048576: true; the input reads as it did. -/
def tagAddsUptoRow : OpenClaim := { program := "ytimibefpfenelaa", sum := "862f59e35257cf9508d4ec1bb5b40d4f074cf1fd67e3ad0d659c4ce3133d117b", func := "paling/palinglaw05.TagAdds", spec := "tagAdds", apart := false, narrowed := true }
def TagAddsUptoSaid : Prop := tagAddsUptoRow.holds Try.pinned (OpenSpec.upto tagAddsSpec)

/-- 'palinglaw05.TagOnce', WHERE WHAT IT READS IS OF BULK AT MOST 1048576: true; the input reads as it did. -/
def tagOnceUptoRow : OpenClaim := { program := "ytimibefpfenelaa", sum := "862f59e35257cf9508d4ec1bb5b40d4f074cf1fd67e3ad0d659c4ce3133d117b", func := "paling/palinglaw05.TagOnce", spec := "tagOnce", apart := false, narrowed := true }
def TagOnceUptoSaid : Prop := tagOnceUptoRow.holds Try.pinned (OpenSpec.upto tagOnceSpec)

/-- 'palinglaw05.TagBack', WHERE WHAT IT READS IS OF BULK AT MOST 1048576: true; the input reads as it did. -/
def tagBackUptoRow : OpenClaim := { program := "ytimibefpfenelaa", sum := "862f59e35257cf9508d4ec1bb5b40d4f074cf1fd67e3ad0d659c4ce3133d117b", func := "paling/palinglaw05.TagBack", spec := "tagBack", apart := false, narrowed := true }
def TagBackUptoSaid : Prop := tagBackUptoRow.holds Try.pinned (OpenSpec.upto tagBackSpec)

/-- 'palinglaw32.QueueBack', WHERE WHAT IT READS IS OF BULK AT MOST 1048576: true; the input reads as it did. -/
def queueBackUptoRow : OpenClaim := { program := "ytimibefpfenelaa", sum := "862f59e35257cf9508d4ec1bb5b40d4f074cf1fd67e3ad0d659c4ce3133d117b", func := "paling/palinglaw32.QueueBack", spec := "queueBack", unfollowed := true, recurses := true, apart := false, narrowed := true }
def QueueBackUptoSaid : Prop := queueBackUptoRow.holds Try.pinned (OpenSpec.upto queueBackSpec)

/-- 'palinglaw32.QueueOrder', WHERE WHAT IT READS IS OF BULK AT MOST 1048576: true; the input reads as it did. -/
def queueOrderUptoRow : OpenClaim := { program := "ytimibefpfenelaa", sum := "862f59e35257cf9508d4ec1bb5b40d4f074cf1fd67e3ad0d659c4ce3133d117b", func := "paling/palinglaw32.QueueOrder", spec := "queueOrder", unfollowed := true, recurses := true, apart := false, narrowed := true }
def QueueOrderUptoSaid : Prop := queueOrderUptoRow.holds Try.pinned (OpenSpec.upto queueOrderSpec)

/-- 'palinglaw32.QueueCounts', WHERE WHAT IT READS IS OF BULK AT MOST 1048576: true; the input reads as it did. -/
def queueCountsUptoRow : OpenClaim := { program := "ytimibefpfenelaa", sum := "862f59e35257cf9508d4ec1bb5b40d4f074cf1fd67e3ad0d659c4ce3133d117b", func := "paling/palinglaw32.QueueCounts", spec := "queueCounts", unfollowed := true, recurses := true, apart := false, narrowed := true }
def QueueCountsUptoSaid : Prop := queueCountsUptoRow.holds Try.pinned (OpenSpec.upto queueCountsSpec)

/-- 'palinglaw26.TableKeeps', WHERE WHAT IT READS IS OF BULK AT MOST 1048576: true; the input reads as it did. -/
def tableKeepsUptoRow : OpenClaim := { program := "ytimibefpfenelaa", sum := "862f59e35257cf9508d4ec1bb5b40d4f074cf1fd67e3ad0d659c4ce3133d117b", func := "paling/palinglaw26.TableKeeps", spec := "tableKeeps", unfollowed := true, recurses := true, apart := false, narrowed := true }
def TableKeepsUptoSaid : Prop := tableKeepsUptoRow.holds Try.pinned (OpenSpec.upto tableKeepsSpec)

/-- 'palinglaw26.TableAsks', WHERE WHAT IT READS IS OF BULK AT MOST 1048576: true; the input reads as it did. -/
def tableAsksUptoRow : OpenClaim := { program := "ytimibefpfenelaa", sum := "862f59e35257cf9508d4ec1bb5b40d4f074cf1fd67e3ad0d659c4ce3133d117b", func := "paling/palinglaw26.TableAsks", spec := "tableAsks", unfollowed := true, recurses := true, apart := false, narrowed := true }
def TableAsksUptoSaid : Prop := tableAsksUptoRow.holds Try.pinned (OpenSpec.upto tableAsksSpec)

/-- 'palinglaw26.TableLearns', WHERE WHAT IT READS IS OF BULK AT MOST 1048576: true; the input reads as it did. -/
def tableLearnsUptoRow : OpenClaim := { program := "ytimibefpfenelaa", sum := "862f59e35257cf9508d4ec1bb5b40d4f074cf1fd67e3ad0d659c4ce3133d117b", func := "paling/palinglaw26.TableLearns", spec := "tableLearns", unfollowed := true, recurses := true, apart := false, narrowed := true }
def TableLearnsUptoSaid : Prop := tableLearnsUptoRow.holds Try.pinned (OpenSpec.upto tableLearnsSpec)

/-- 'palinglaw26.TableAges', WHERE WHAT IT READS IS OF BULK AT MOST 1048576: true; the input reads as it did. -/
def tableAgesUptoRow : OpenClaim := { program := "ytimibefpfenelaa", sum := "862f59e35257cf9508d4ec1bb5b40d4f074cf1fd67e3ad0d659c4ce3133d117b", func := "paling/palinglaw26.TableAges", spec := "tableAges", unfollowed := true, recurses := true, apart := false, narrowed := true }
def TableAgesUptoSaid : Prop := tableAgesUptoRow.holds Try.pinned (OpenSpec.upto tableAgesSpec)

end Rows
end Go.Proofs.Ytimibefpfenelaa
