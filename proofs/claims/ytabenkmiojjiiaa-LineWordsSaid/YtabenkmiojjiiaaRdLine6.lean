/- A part of the proofs of this seat: RdLine6. -/
import Derived.Test.YtabenkmiojjiiaaRdLine5
set_option linter.unusedSimpArgs false
set_option linter.unusedVariables false
set_option maxHeartbeats 2000000
set_option maxRecDepth 20000
namespace Go.Proofs
open Go.Pv
/-- The heap of the closure: the row, what is out, where a word begins. -/
def stH (w : List UInt8) (fr : Nat) : List (List UInt8) → Hp
  | [] => [some ⟨9, [.str w], true⟩, some ⟨22, [.sl 0 [] true], true⟩, some ⟨3, [.int .i64 fr], true⟩]
  | o :: r => [some ⟨9, [.str w], true⟩, some ⟨22, [.vec 2 1 0 (o :: r).length], true⟩, some ⟨9, (o :: r).map .str, true⟩, some ⟨3, [.int .i64 fr], true⟩]
/-- Where the place of a word's begin lies. -/
def stK : List (List UInt8) → Nat
  | [] => 2
  | _ :: _ => 3
theorem stK_ne {L : List (List UInt8)} (h : L ≠ []) : stK L = 3 := by
  cases L with
  | nil => exact absurd rfl h
  | cons o r => rfl
theorem stK_nil : stK [] = 2 := rfl
theorem str1_no (w : List UInt8) (i fr : Nat) (out : List (List UInt8)) (hw : w.length ≤ 100000) (hi : i ≤ w.length) (h : i ≤ fr) :
    Gen Try.prog 72 [.int .i64 i, .eptr (stK out) 0 0, .eptr 1 0 0, .eptr 0 0 0] (stH w fr out) (.tup []) (stH w (i + 1) out) := by
  refine Try.gen72 (by simp) ?_
  unfold Try.c72
  cases out with
  | nil =>
    unfold stH stK
    simp (disch := (first | omega | (simp only [List.length_set, List.length_append, List.length_cons, List.length_nil, List.length_take, List.length_drop, List.length_map, List.length_replicate] at *; omega))) only [↓pvd, pv0, pv1, pv2, pv3, pv4, pv5, pv6, pv7, pvc0, pvc1, pvc2, buildC, evP, evR, evE, Pv.get, Pv.put, putO, bin2, int2, binB2, un1, cells, boundO, AV.flat, bv, rowOne, rvs_1, rvs_2, rvL, rvX, liveB, setParts, szOk, notStr, lim, dedup, place, ent, Pv.new, Pv.newVar, Pv.newVec, setCells, AV.ones, AV.one, resX, entry, layL, layC, layA, lay, List.map, List.foldl, List.replicate, List.length_replicate, ↓reduceIte, reduceCtorEq, Nat.reduceEqDiff, Nat.reduceLT, Nat.reduceLeDiff, Nat.reduceAdd, Nat.reduceSub, Nat.reduceMul, Nat.reducePow, Nat.reduceDiv, Nat.reduceMod, Nat.reduceBEq, Nat.reduceBNe, Int.reduceLT, Int.reduceLE, Int.reduceToNat, Int.reduceAdd, Int.reduceSub, Int.reduceMul, Int.reduceNeg, Int.reducePow, Int.reduceEq, Int.reduceNe, Int.reduceDiv, Int.reduceMod, Int.reduceTDiv, Int.reduceTMod, UInt8.reduceToNat, UInt8.reduceOfNat]
    exact ⟨rfl, rfl⟩
  | cons o r =>
    unfold stH stK
    simp (disch := (first | omega | (simp only [List.length_set, List.length_append, List.length_cons, List.length_nil, List.length_take, List.length_drop, List.length_map, List.length_replicate] at *; omega))) only [↓pvd, pv0, pv1, pv2, pv3, pv4, pv5, pv6, pv7, pvc0, pvc1, pvc2, buildC, evP, evR, evE, Pv.get, Pv.put, putO, bin2, int2, binB2, un1, cells, boundO, AV.flat, bv, rowOne, rvs_1, rvs_2, rvL, rvX, liveB, setParts, szOk, notStr, lim, dedup, place, ent, Pv.new, Pv.newVar, Pv.newVec, setCells, AV.ones, AV.one, resX, entry, layL, layC, layA, lay, List.map, List.foldl, List.replicate, List.length_replicate, ↓reduceIte, reduceCtorEq, Nat.reduceEqDiff, Nat.reduceLT, Nat.reduceLeDiff, Nat.reduceAdd, Nat.reduceSub, Nat.reduceMul, Nat.reducePow, Nat.reduceDiv, Nat.reduceMod, Nat.reduceBEq, Nat.reduceBNe, Int.reduceLT, Int.reduceLE, Int.reduceToNat, Int.reduceAdd, Int.reduceSub, Int.reduceMul, Int.reduceNeg, Int.reducePow, Int.reduceEq, Int.reduceNe, Int.reduceDiv, Int.reduceMod, Int.reduceTDiv, Int.reduceTMod, UInt8.reduceToNat, UInt8.reduceOfNat]
    exact ⟨rfl, rfl⟩
theorem str1_nil (w : List UInt8) (i fr : Nat) (hw : w.length ≤ 100000) (hi : i ≤ w.length) (h : fr < i) :
    Gen Try.prog 72 [.int .i64 i, .eptr 2 0 0, .eptr 1 0 0, .eptr 0 0 0] (stH w fr []) (.tup [])
      ([some ⟨9, [.str w], true⟩, some ⟨22, [.vec 9 1 0 1], true⟩, some ⟨3, [.int .i64 (i + 1)], true⟩, none, none, none, none, none, some ⟨9, [.str ((w.take i).drop fr)], true⟩, some ⟨9, [.str ((w.take i).drop fr)], true⟩, none]) := by
  refine Try.gen72 (by simp) ?_
  unfold Try.c72
  unfold stH
  simp (disch := (first | omega | (simp only [List.length_set, List.length_append, List.length_cons, List.length_nil, List.length_take, List.length_drop, List.length_map, List.length_replicate] at *; omega))) only [↓pvd, pv0, pv1, pv2, pv3, pv4, pv5, pv6, pv7, pvc0, pvc1, pvc2, buildC, evP, evR, evE, Pv.get, Pv.put, putO, bin2, int2, binB2, un1, cells, boundO, AV.flat, bv, rowOne, rvs_1, rvs_2, rvL, rvX, liveB, setParts, szOk, notStr, lim, dedup, place, ent, Pv.new, Pv.newVar, Pv.newVec, setCells, AV.ones, AV.one, resX, entry, layL, layC, layA, lay, List.map, List.foldl, List.replicate, List.length_replicate, ↓reduceIte, reduceCtorEq, Nat.reduceEqDiff, Nat.reduceLT, Nat.reduceLeDiff, Nat.reduceAdd, Nat.reduceSub, Nat.reduceMul, Nat.reducePow, Nat.reduceDiv, Nat.reduceMod, Nat.reduceBEq, Nat.reduceBNe, Int.reduceLT, Int.reduceLE, Int.reduceToNat, Int.reduceAdd, Int.reduceSub, Int.reduceMul, Int.reduceNeg, Int.reducePow, Int.reduceEq, Int.reduceNe, Int.reduceDiv, Int.reduceMod, Int.reduceTDiv, Int.reduceTMod, UInt8.reduceToNat, UInt8.reduceOfNat]
  exact ⟨rfl, rfl⟩
theorem str1_app (w : List UInt8) (i fr : Nat) (o : List UInt8) (r : List (List UInt8)) (hw : w.length ≤ 100000) (hi : i ≤ w.length) (h : fr < i) (hr : r.length ≤ 100000) :
    Gen Try.prog 72 [.int .i64 i, .eptr 3 0 0, .eptr 1 0 0, .eptr 0 0 0] (stH w fr (o :: r)) (.tup [])
      ([some ⟨9, [.str w], true⟩, some ⟨22, [.vec 10 1 0 ((o :: r).length + 1)], true⟩, some ⟨9, [], false⟩, some ⟨3, [.int .i64 (i + 1)], true⟩, none, none, none, none, none, some ⟨9, [.str ((w.take i).drop fr)], true⟩, some ⟨9, (o :: r).map .str ++ [.str ((w.take i).drop fr)], true⟩, none]) := by
  refine Try.gen72 (by simp) ?_
  unfold Try.c72
  unfold stH
  simp (disch := (first | omega | (simp only [List.length_set, List.length_append, List.length_cons, List.length_nil, List.length_take, List.length_drop, List.length_map, List.length_replicate] at *; omega))) only [↓pvd, pv0, pv1, pv2, pv3, pv4, pv5, pv6, pv7, pvc0, pvc1, pvc2, buildC, evP, evR, evE, Pv.get, Pv.put, putO, bin2, int2, binB2, un1, cells, boundO, AV.flat, bv, rowOne, rvs_1, rvs_2, rvL, rvX, liveB, setParts, szOk, notStr, lim, dedup, place, ent, Pv.new, Pv.newVar, Pv.newVec, setCells, AV.ones, AV.one, resX, entry, layL, layC, layA, lay, List.map, List.foldl, List.replicate, List.length_replicate, ↓reduceIte, reduceCtorEq, Nat.reduceEqDiff, Nat.reduceLT, Nat.reduceLeDiff, Nat.reduceAdd, Nat.reduceSub, Nat.reduceMul, Nat.reducePow, Nat.reduceDiv, Nat.reduceMod, Nat.reduceBEq, Nat.reduceBNe, Int.reduceLT, Int.reduceLE, Int.reduceToNat, Int.reduceAdd, Int.reduceSub, Int.reduceMul, Int.reduceNeg, Int.reducePow, Int.reduceEq, Int.reduceNe, Int.reduceDiv, Int.reduceMod, Int.reduceTDiv, Int.reduceTMod, UInt8.reduceToNat, UInt8.reduceOfNat]
  exact ⟨rfl, rfl⟩
theorem stH_ne (w : List UInt8) (fr : Nat) (L : List (List UInt8)) (h : L ≠ []) : stH w fr L = [some ⟨9, [.str w], true⟩, some ⟨22, [.vec 2 1 0 L.length], true⟩, some ⟨9, L.map .str, true⟩, some ⟨3, [.int .i64 fr], true⟩] := by
  cases L with
  | nil => exact absurd rfl h
  | cons o r => rfl
theorem str1_appL (w : List UInt8) (i fr : Nat) (L : List (List UInt8)) (h0 : L ≠ []) (hw : w.length ≤ 100000) (hi : i ≤ w.length) (h : fr < i) (hr : L.length ≤ 100000) :
    Gen Try.prog 72 [.int .i64 i, .eptr 3 0 0, .eptr 1 0 0, .eptr 0 0 0] (stH w fr L) (.tup [])
      ([some ⟨9, [.str w], true⟩, some ⟨22, [.vec 10 1 0 (L.length + 1)], true⟩, some ⟨9, [], false⟩, some ⟨3, [.int .i64 (i + 1)], true⟩, none, none, none, none, none, some ⟨9, [.str ((w.take i).drop fr)], true⟩, some ⟨9, L.map .str ++ [.str ((w.take i).drop fr)], true⟩, none]) := by
  cases L with
  | nil => exact absurd rfl h0
  | cons o r => exact str1_app w i fr o r hw hi h (by simp at hr; omega)
end Go.Proofs
