/- A part of the proofs of this seat: RdLine7. -/
import Derived.Test.YtabenkmiojjiiaaRdLine6
set_option linter.unusedSimpArgs false
set_option linter.unusedVariables false
set_option maxHeartbeats 2000000
set_option maxRecDepth 20000
namespace Go.Proofs
open Go.Pv
/-- A word's end: the words with this one, if it has bytes. -/
def enO (w : List UInt8) (i fr : Nat) (out : List (List UInt8)) : List (List UInt8) := if fr < i then out ++ [(w.take i).drop fr] else out
/-- The words of a row, as the program looks for them. -/
def swF (w : List UInt8) : Nat → Nat → Nat → List (List UInt8) → List (List UInt8)
  | 0, i, fr, out => enO w i fr out
  | n + 1, i, fr, out => if i < w.length then
      if w[i]! = 35 then enO w i fr out
      else if w[i]! = 32 ∨ w[i]! = 9 then swF w n (i + 1) (i + 1) (enO w i fr out)
      else swF w n (i + 1) fr out
    else enO w i fr out
def swV (w : List UInt8) : List (List UInt8) := swF w (w.length + 1) 0 0 []
def strR (l : List (List UInt8)) : AV := if l = [] then .sl 0 [] true else .own 1 9 (l.map .str)
def stS (w : List UInt8) (a : Nat × Nat × List (List UInt8)) : St := ⟨[(1, .eptr 0 0 0), (3, .eptr 1 0 0), (5, .fn 72 [.eptr (stK a.2.2) 0 0, .eptr 1 0 0, .eptr 0 0 0]), (6, .int .i64 a.1)], stH w a.2.1 a.2.2⟩
end Go.Proofs
