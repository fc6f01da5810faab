/- The proofs of what the functions of this seat do. -/
import Derived.Test.YtneejmioiccdiaaPr1
import Derived.SizedLaws
set_option linter.unusedSimpArgs false
set_option linter.unusedVariables false
set_option maxHeartbeats 2000000
set_option maxRecDepth 20000
namespace Go.Proofs
open Go.Pv
/-- Which packet bytes are. -/
def ipF (b : List UInt8) : Pk × Int :=
  if b.length < 20 then (zPk, 10) else
  if b[0]!.toNat ≠ 69 ∨ two b 2 < 20 then (zPk, 11) else
  if (b.length : Int) < two b 2 then (zPk, 10) else
  if two b 6 ≠ 0 then (zPk, 11) else
  if red (Wt (b.take 20)) ≠ 65535 then (zPk, 12) else
  (⟨b[1]!.toNat, two b 4, b[8]!.toNat, b[9]!.toNat, two b 12 * 65536 + two b 14, two b 16 * 65536 + two b 18, (b.take (two b 2).toNat).drop 20⟩, 0)
def ipR (p : Pk × Int) : AV := .tup [pkR p.1 false, .int .i64 p.2]
theorem ip_take_run (b : List UInt8) (full : Bool) (h : b.length ≤ 10000) : Run Try.prog 30 [.sl 1 (bys b) full] (ipR (ipF b)) := by
  refine Try.run30 (by simp) ?_
  unfold Try.c30
  repeat' (first | simp (disch := (first | omega | (simp only [List.length_set, List.length_append, List.length_cons, List.length_nil, List.length_take, List.length_drop, List.length_map, List.length_replicate]; omega))) only [↓pvd, pv0, pv1, pv2, pv3, pv4, pv5, pv6, pv7, pvc0, pvc1, pvc2, buildC, evP, evR, evE, Pv.get, Pv.put, putO, bin2, int2, binB2, un1, cells, boundO, AV.flat, bv, rowOne, pvf, rvs_1, rvs_2, rvL, rvX, liveB, setParts, szOk, notStr, lim, dedup, place, ent, Pv.new, Pv.newVar, Pv.newVec, setCells, AV.ones, AV.one, resX, entry, layL, layC, layA, lay, List.map, List.foldl, List.replicate, List.length_replicate, ↓reduceIte, reduceCtorEq, Nat.reduceEqDiff, Nat.reduceLT, Nat.reduceLeDiff, Nat.reduceAdd, Nat.reduceSub, Nat.reduceMul, Nat.reducePow, Nat.reduceDiv, Nat.reduceMod, Nat.reduceBEq, Nat.reduceBNe, Int.reduceLT, Int.reduceLE, Int.reduceToNat, Int.reduceAdd, Int.reduceSub, Int.reduceMul, Int.reduceNeg, Int.reducePow, Int.reduceEq, Int.reduceNe, Int.reduceDiv, Int.reduceMod, Int.reduceTDiv, Int.reduceTMod, UInt8.reduceToNat, UInt8.reduceOfNat] | with_reducible refine condP_d (fun _ => ?_) (fun _ => ?_) | with_reducible refine guardP_d0 (fun _ => ?_) (fun _ => ?_) | with_reducible refine guardP_d1 (fun _ => ?_) (fun _ => ?_) | with_reducible refine condP_any ?_ ?_)
  all_goals first
    | ((unfold ipF; simp (disch := omega) only [if_pos, if_neg]); (refine EndsX_rq [[.snap, .snap, .snap, .snap, .snap, .snap, .nil 1 false], [.snap]] ?_; simp (disch := (first | omega | (simp only [List.length_set, List.length_append, List.length_cons, List.length_nil, List.length_take, List.length_drop, List.length_map, List.length_replicate]; omega))) only [↓pvd, pv0, pv1, pv2, pv3, pv4, pv5, pv6, pv7, pvc0, pvc1, pvc2, buildC, evP, evR, evE, Pv.get, Pv.put, putO, bin2, int2, binB2, un1, cells, boundO, AV.flat, bv, rowOne, pvf, rvs_1, rvs_2, rvL, rvX, liveB, setParts, szOk, notStr, lim, dedup, place, ent, Pv.new, Pv.newVar, Pv.newVec, setCells, AV.ones, AV.one, resX, entry, layL, layC, layA, lay, List.map, List.foldl, List.replicate, List.length_replicate, ↓reduceIte, reduceCtorEq, Nat.reduceEqDiff, Nat.reduceLT, Nat.reduceLeDiff, Nat.reduceAdd, Nat.reduceSub, Nat.reduceMul, Nat.reducePow, Nat.reduceDiv, Nat.reduceMod, Nat.reduceBEq, Nat.reduceBNe, Int.reduceLT, Int.reduceLE, Int.reduceToNat, Int.reduceAdd, Int.reduceSub, Int.reduceMul, Int.reduceNeg, Int.reducePow, Int.reduceEq, Int.reduceNe, Int.reduceDiv, Int.reduceMod, Int.reduceTDiv, Int.reduceTMod, UInt8.reduceToNat, UInt8.reduceOfNat]; exact ⟨_, rfl, rfl, rfl⟩); done)
    | skip
  have t2 := two_b b 2
  refine awR_call (pair_run b full 2 (by omega) (by omega)) rfl rfl ?_
  repeat' (first | simp (disch := (first | omega | (simp only [List.length_set, List.length_append, List.length_cons, List.length_nil, List.length_take, List.length_drop, List.length_map, List.length_replicate]; omega))) only [↓pvd, pv0, pv1, pv2, pv3, pv4, pv5, pv6, pv7, pvc0, pvc1, pvc2, buildC, evP, evR, evE, Pv.get, Pv.put, putO, bin2, int2, binB2, un1, cells, boundO, AV.flat, bv, rowOne, pvf, rvs_1, rvs_2, rvL, rvX, liveB, setParts, szOk, notStr, lim, dedup, place, ent, Pv.new, Pv.newVar, Pv.newVec, setCells, AV.ones, AV.one, resX, entry, layL, layC, layA, lay, List.map, List.foldl, List.replicate, List.length_replicate, ↓reduceIte, reduceCtorEq, Nat.reduceEqDiff, Nat.reduceLT, Nat.reduceLeDiff, Nat.reduceAdd, Nat.reduceSub, Nat.reduceMul, Nat.reducePow, Nat.reduceDiv, Nat.reduceMod, Nat.reduceBEq, Nat.reduceBNe, Int.reduceLT, Int.reduceLE, Int.reduceToNat, Int.reduceAdd, Int.reduceSub, Int.reduceMul, Int.reduceNeg, Int.reducePow, Int.reduceEq, Int.reduceNe, Int.reduceDiv, Int.reduceMod, Int.reduceTDiv, Int.reduceTMod, UInt8.reduceToNat, UInt8.reduceOfNat] | with_reducible refine condP_d (fun _ => ?_) (fun _ => ?_) | with_reducible refine guardP_d0 (fun _ => ?_) (fun _ => ?_) | with_reducible refine guardP_d1 (fun _ => ?_) (fun _ => ?_) | with_reducible refine condP_any ?_ ?_)
  all_goals first
    | ((unfold ipF; simp (disch := omega) only [if_pos, if_neg]); (refine EndsX_rq [[.snap, .snap, .snap, .snap, .snap, .snap, .nil 1 false], [.snap]] ?_; simp (disch := (first | omega | (simp only [List.length_set, List.length_append, List.length_cons, List.length_nil, List.length_take, List.length_drop, List.length_map, List.length_replicate]; omega))) only [↓pvd, pv0, pv1, pv2, pv3, pv4, pv5, pv6, pv7, pvc0, pvc1, pvc2, buildC, evP, evR, evE, Pv.get, Pv.put, putO, bin2, int2, binB2, un1, cells, boundO, AV.flat, bv, rowOne, pvf, rvs_1, rvs_2, rvL, rvX, liveB, setParts, szOk, notStr, lim, dedup, place, ent, Pv.new, Pv.newVar, Pv.newVec, setCells, AV.ones, AV.one, resX, entry, layL, layC, layA, lay, List.map, List.foldl, List.replicate, List.length_replicate, ↓reduceIte, reduceCtorEq, Nat.reduceEqDiff, Nat.reduceLT, Nat.reduceLeDiff, Nat.reduceAdd, Nat.reduceSub, Nat.reduceMul, Nat.reducePow, Nat.reduceDiv, Nat.reduceMod, Nat.reduceBEq, Nat.reduceBNe, Int.reduceLT, Int.reduceLE, Int.reduceToNat, Int.reduceAdd, Int.reduceSub, Int.reduceMul, Int.reduceNeg, Int.reducePow, Int.reduceEq, Int.reduceNe, Int.reduceDiv, Int.reduceMod, Int.reduceTDiv, Int.reduceTMod, UInt8.reduceToNat, UInt8.reduceOfNat]; exact ⟨_, rfl, rfl, rfl⟩); done)
    | skip
  refine awR_call (pair_run b full 2 (by omega) (by omega)) rfl rfl ?_
  repeat' (first | simp (disch := (first | omega | (simp only [List.length_set, List.length_append, List.length_cons, List.length_nil, List.length_take, List.length_drop, List.length_map, List.length_replicate]; omega))) only [↓pvd, pv0, pv1, pv2, pv3, pv4, pv5, pv6, pv7, pvc0, pvc1, pvc2, buildC, evP, evR, evE, Pv.get, Pv.put, putO, bin2, int2, binB2, un1, cells, boundO, AV.flat, bv, rowOne, pvf, rvs_1, rvs_2, rvL, rvX, liveB, setParts, szOk, notStr, lim, dedup, place, ent, Pv.new, Pv.newVar, Pv.newVec, setCells, AV.ones, AV.one, resX, entry, layL, layC, layA, lay, List.map, List.foldl, List.replicate, List.length_replicate, ↓reduceIte, reduceCtorEq, Nat.reduceEqDiff, Nat.reduceLT, Nat.reduceLeDiff, Nat.reduceAdd, Nat.reduceSub, Nat.reduceMul, Nat.reducePow, Nat.reduceDiv, Nat.reduceMod, Nat.reduceBEq, Nat.reduceBNe, Int.reduceLT, Int.reduceLE, Int.reduceToNat, Int.reduceAdd, Int.reduceSub, Int.reduceMul, Int.reduceNeg, Int.reducePow, Int.reduceEq, Int.reduceNe, Int.reduceDiv, Int.reduceMod, Int.reduceTDiv, Int.reduceTMod, UInt8.reduceToNat, UInt8.reduceOfNat] | with_reducible refine condP_d (fun _ => ?_) (fun _ => ?_) | with_reducible refine guardP_d0 (fun _ => ?_) (fun _ => ?_) | with_reducible refine guardP_d1 (fun _ => ?_) (fun _ => ?_) | with_reducible refine condP_any ?_ ?_)
  all_goals first
    | ((unfold ipF; simp (disch := omega) only [if_pos, if_neg]); (refine EndsX_rq [[.snap, .snap, .snap, .snap, .snap, .snap, .nil 1 false], [.snap]] ?_; simp (disch := (first | omega | (simp only [List.length_set, List.length_append, List.length_cons, List.length_nil, List.length_take, List.length_drop, List.length_map, List.length_replicate]; omega))) only [↓pvd, pv0, pv1, pv2, pv3, pv4, pv5, pv6, pv7, pvc0, pvc1, pvc2, buildC, evP, evR, evE, Pv.get, Pv.put, putO, bin2, int2, binB2, un1, cells, boundO, AV.flat, bv, rowOne, pvf, rvs_1, rvs_2, rvL, rvX, liveB, setParts, szOk, notStr, lim, dedup, place, ent, Pv.new, Pv.newVar, Pv.newVec, setCells, AV.ones, AV.one, resX, entry, layL, layC, layA, lay, List.map, List.foldl, List.replicate, List.length_replicate, ↓reduceIte, reduceCtorEq, Nat.reduceEqDiff, Nat.reduceLT, Nat.reduceLeDiff, Nat.reduceAdd, Nat.reduceSub, Nat.reduceMul, Nat.reducePow, Nat.reduceDiv, Nat.reduceMod, Nat.reduceBEq, Nat.reduceBNe, Int.reduceLT, Int.reduceLE, Int.reduceToNat, Int.reduceAdd, Int.reduceSub, Int.reduceMul, Int.reduceNeg, Int.reducePow, Int.reduceEq, Int.reduceNe, Int.reduceDiv, Int.reduceMod, Int.reduceTDiv, Int.reduceTMod, UInt8.reduceToNat, UInt8.reduceOfNat]; exact ⟨_, rfl, rfl, rfl⟩); done)
    | skip
  refine awR_call (pair_run b full 6 (by omega) (by omega)) rfl rfl ?_
  repeat' (first | simp (disch := (first | omega | (simp only [List.length_set, List.length_append, List.length_cons, List.length_nil, List.length_take, List.length_drop, List.length_map, List.length_replicate]; omega))) only [↓pvd, pv0, pv1, pv2, pv3, pv4, pv5, pv6, pv7, pvc0, pvc1, pvc2, buildC, evP, evR, evE, Pv.get, Pv.put, putO, bin2, int2, binB2, un1, cells, boundO, AV.flat, bv, rowOne, pvf, rvs_1, rvs_2, rvL, rvX, liveB, setParts, szOk, notStr, lim, dedup, place, ent, Pv.new, Pv.newVar, Pv.newVec, setCells, AV.ones, AV.one, resX, entry, layL, layC, layA, lay, List.map, List.foldl, List.replicate, List.length_replicate, ↓reduceIte, reduceCtorEq, Nat.reduceEqDiff, Nat.reduceLT, Nat.reduceLeDiff, Nat.reduceAdd, Nat.reduceSub, Nat.reduceMul, Nat.reducePow, Nat.reduceDiv, Nat.reduceMod, Nat.reduceBEq, Nat.reduceBNe, Int.reduceLT, Int.reduceLE, Int.reduceToNat, Int.reduceAdd, Int.reduceSub, Int.reduceMul, Int.reduceNeg, Int.reducePow, Int.reduceEq, Int.reduceNe, Int.reduceDiv, Int.reduceMod, Int.reduceTDiv, Int.reduceTMod, UInt8.reduceToNat, UInt8.reduceOfNat] | with_reducible refine condP_d (fun _ => ?_) (fun _ => ?_) | with_reducible refine guardP_d0 (fun _ => ?_) (fun _ => ?_) | with_reducible refine guardP_d1 (fun _ => ?_) (fun _ => ?_) | with_reducible refine condP_any ?_ ?_)
  all_goals first
    | ((unfold ipF; simp (disch := omega) only [if_pos, if_neg]); (refine EndsX_rq [[.snap, .snap, .snap, .snap, .snap, .snap, .nil 1 false], [.snap]] ?_; simp (disch := (first | omega | (simp only [List.length_set, List.length_append, List.length_cons, List.length_nil, List.length_take, List.length_drop, List.length_map, List.length_replicate]; omega))) only [↓pvd, pv0, pv1, pv2, pv3, pv4, pv5, pv6, pv7, pvc0, pvc1, pvc2, buildC, evP, evR, evE, Pv.get, Pv.put, putO, bin2, int2, binB2, un1, cells, boundO, AV.flat, bv, rowOne, pvf, rvs_1, rvs_2, rvL, rvX, liveB, setParts, szOk, notStr, lim, dedup, place, ent, Pv.new, Pv.newVar, Pv.newVec, setCells, AV.ones, AV.one, resX, entry, layL, layC, layA, lay, List.map, List.foldl, List.replicate, List.length_replicate, ↓reduceIte, reduceCtorEq, Nat.reduceEqDiff, Nat.reduceLT, Nat.reduceLeDiff, Nat.reduceAdd, Nat.reduceSub, Nat.reduceMul, Nat.reducePow, Nat.reduceDiv, Nat.reduceMod, Nat.reduceBEq, Nat.reduceBNe, Int.reduceLT, Int.reduceLE, Int.reduceToNat, Int.reduceAdd, Int.reduceSub, Int.reduceMul, Int.reduceNeg, Int.reducePow, Int.reduceEq, Int.reduceNe, Int.reduceDiv, Int.reduceMod, Int.reduceTDiv, Int.reduceTMod, UInt8.reduceToNat, UInt8.reduceOfNat]; exact ⟨_, rfl, rfl, rfl⟩); done)
    | skip
  refine awR_call (sum_right_run (b.take 20) _ (by rw [List.length_take]; omega)) rfl rfl ?_
  repeat' (first | simp (disch := (first | omega | (simp only [List.length_set, List.length_append, List.length_cons, List.length_nil, List.length_take, List.length_drop, List.length_map, List.length_replicate]; omega))) only [↓pvd, pv0, pv1, pv2, pv3, pv4, pv5, pv6, pv7, pvc0, pvc1, pvc2, buildC, evP, evR, evE, Pv.get, Pv.put, putO, bin2, int2, binB2, un1, cells, boundO, AV.flat, bv, rowOne, pvf, rvs_1, rvs_2, rvL, rvX, liveB, setParts, szOk, notStr, lim, dedup, place, ent, Pv.new, Pv.newVar, Pv.newVec, setCells, AV.ones, AV.one, resX, entry, layL, layC, layA, lay, List.map, List.foldl, List.replicate, List.length_replicate, ↓reduceIte, reduceCtorEq, Nat.reduceEqDiff, Nat.reduceLT, Nat.reduceLeDiff, Nat.reduceAdd, Nat.reduceSub, Nat.reduceMul, Nat.reducePow, Nat.reduceDiv, Nat.reduceMod, Nat.reduceBEq, Nat.reduceBNe, Int.reduceLT, Int.reduceLE, Int.reduceToNat, Int.reduceAdd, Int.reduceSub, Int.reduceMul, Int.reduceNeg, Int.reducePow, Int.reduceEq, Int.reduceNe, Int.reduceDiv, Int.reduceMod, Int.reduceTDiv, Int.reduceTMod, UInt8.reduceToNat, UInt8.reduceOfNat] | with_reducible refine condP_d (fun _ => ?_) (fun _ => ?_) | with_reducible refine guardP_d0 (fun _ => ?_) (fun _ => ?_) | with_reducible refine guardP_d1 (fun _ => ?_) (fun _ => ?_) | with_reducible refine condP_any ?_ ?_)
  all_goals first
    | ((unfold ipF; simp (disch := omega) only [if_pos, if_neg]); (refine EndsX_rq [[.snap, .snap, .snap, .snap, .snap, .snap, .nil 1 false], [.snap]] ?_; simp (disch := (first | omega | (simp only [List.length_set, List.length_append, List.length_cons, List.length_nil, List.length_take, List.length_drop, List.length_map, List.length_replicate]; omega))) only [↓pvd, pv0, pv1, pv2, pv3, pv4, pv5, pv6, pv7, pvc0, pvc1, pvc2, buildC, evP, evR, evE, Pv.get, Pv.put, putO, bin2, int2, binB2, un1, cells, boundO, AV.flat, bv, rowOne, pvf, rvs_1, rvs_2, rvL, rvX, liveB, setParts, szOk, notStr, lim, dedup, place, ent, Pv.new, Pv.newVar, Pv.newVec, setCells, AV.ones, AV.one, resX, entry, layL, layC, layA, lay, List.map, List.foldl, List.replicate, List.length_replicate, ↓reduceIte, reduceCtorEq, Nat.reduceEqDiff, Nat.reduceLT, Nat.reduceLeDiff, Nat.reduceAdd, Nat.reduceSub, Nat.reduceMul, Nat.reducePow, Nat.reduceDiv, Nat.reduceMod, Nat.reduceBEq, Nat.reduceBNe, Int.reduceLT, Int.reduceLE, Int.reduceToNat, Int.reduceAdd, Int.reduceSub, Int.reduceMul, Int.reduceNeg, Int.reducePow, Int.reduceEq, Int.reduceNe, Int.reduceDiv, Int.reduceMod, Int.reduceTDiv, Int.reduceTMod, UInt8.reduceToNat, UInt8.reduceOfNat]; exact ⟨_, rfl, rfl, rfl⟩); done)
    | skip
  refine awR_callD (pair_run b full 4 (by omega) (by omega)) rfl rfl (fun _ => rfl) ?_
  simp (disch := (first | omega | (simp only [List.length_set, List.length_append, List.length_cons, List.length_nil, List.length_take, List.length_drop, List.length_map, List.length_replicate] at *; omega))) only [↓pvd, pv0, pv1, pv2, pv3, pv4, pv5, pv6, pv7, pvc0, pvc1, pvc2, buildC, evP, evR, evE, Pv.get, Pv.put, putO, bin2, int2, binB2, un1, cells, boundO, AV.flat, bv, rowOne, pvf, rvs_1, rvs_2, rvL, rvX, liveB, setParts, szOk, notStr, lim, dedup, place, ent, Pv.new, Pv.newVar, Pv.newVec, setCells, AV.ones, AV.one, resX, entry, layL, layC, layA, lay, List.map, List.foldl, List.replicate, List.length_replicate, ↓reduceIte, reduceCtorEq, Nat.reduceEqDiff, Nat.reduceLT, Nat.reduceLeDiff, Nat.reduceAdd, Nat.reduceSub, Nat.reduceMul, Nat.reducePow, Nat.reduceDiv, Nat.reduceMod, Nat.reduceBEq, Nat.reduceBNe, Int.reduceLT, Int.reduceLE, Int.reduceToNat, Int.reduceAdd, Int.reduceSub, Int.reduceMul, Int.reduceNeg, Int.reducePow, Int.reduceEq, Int.reduceNe, Int.reduceDiv, Int.reduceMod, Int.reduceTDiv, Int.reduceTMod, UInt8.reduceToNat, UInt8.reduceOfNat]
  refine awR_callD (four_run b full 12 (by omega) (by omega)) rfl rfl (fun _ => rfl) ?_
  simp (disch := (first | omega | (simp only [List.length_set, List.length_append, List.length_cons, List.length_nil, List.length_take, List.length_drop, List.length_map, List.length_replicate] at *; omega))) only [↓pvd, pv0, pv1, pv2, pv3, pv4, pv5, pv6, pv7, pvc0, pvc1, pvc2, buildC, evP, evR, evE, Pv.get, Pv.put, putO, bin2, int2, binB2, un1, cells, boundO, AV.flat, bv, rowOne, pvf, rvs_1, rvs_2, rvL, rvX, liveB, setParts, szOk, notStr, lim, dedup, place, ent, Pv.new, Pv.newVar, Pv.newVec, setCells, AV.ones, AV.one, resX, entry, layL, layC, layA, lay, List.map, List.foldl, List.replicate, List.length_replicate, ↓reduceIte, reduceCtorEq, Nat.reduceEqDiff, Nat.reduceLT, Nat.reduceLeDiff, Nat.reduceAdd, Nat.reduceSub, Nat.reduceMul, Nat.reducePow, Nat.reduceDiv, Nat.reduceMod, Nat.reduceBEq, Nat.reduceBNe, Int.reduceLT, Int.reduceLE, Int.reduceToNat, Int.reduceAdd, Int.reduceSub, Int.reduceMul, Int.reduceNeg, Int.reducePow, Int.reduceEq, Int.reduceNe, Int.reduceDiv, Int.reduceMod, Int.reduceTDiv, Int.reduceTMod, UInt8.reduceToNat, UInt8.reduceOfNat]
  refine awR_callD (four_run b full 16 (by omega) (by omega)) rfl rfl (fun _ => rfl) ?_
  simp (disch := (first | omega | (simp only [List.length_set, List.length_append, List.length_cons, List.length_nil, List.length_take, List.length_drop, List.length_map, List.length_replicate] at *; omega))) only [↓pvd, pv0, pv1, pv2, pv3, pv4, pv5, pv6, pv7, pvc0, pvc1, pvc2, buildC, evP, evR, evE, Pv.get, Pv.put, putO, bin2, int2, binB2, un1, cells, boundO, AV.flat, bv, rowOne, pvf, rvs_1, rvs_2, rvL, rvX, liveB, setParts, szOk, notStr, lim, dedup, place, ent, Pv.new, Pv.newVar, Pv.newVec, setCells, AV.ones, AV.one, resX, entry, layL, layC, layA, lay, List.map, List.foldl, List.replicate, List.length_replicate, ↓reduceIte, reduceCtorEq, Nat.reduceEqDiff, Nat.reduceLT, Nat.reduceLeDiff, Nat.reduceAdd, Nat.reduceSub, Nat.reduceMul, Nat.reducePow, Nat.reduceDiv, Nat.reduceMod, Nat.reduceBEq, Nat.reduceBNe, Int.reduceLT, Int.reduceLE, Int.reduceToNat, Int.reduceAdd, Int.reduceSub, Int.reduceMul, Int.reduceNeg, Int.reducePow, Int.reduceEq, Int.reduceNe, Int.reduceDiv, Int.reduceMod, Int.reduceTDiv, Int.reduceTMod, UInt8.reduceToNat, UInt8.reduceOfNat]
  refine awR_callD (pair_run b full 2 (by omega) (by omega)) rfl rfl (fun _ => rfl) ?_
  simp (disch := (first | omega | (simp only [List.length_set, List.length_append, List.length_cons, List.length_nil, List.length_take, List.length_drop, List.length_map, List.length_replicate] at *; omega))) only [↓pvd, pv0, pv1, pv2, pv3, pv4, pv5, pv6, pv7, pvc0, pvc1, pvc2, buildC, evP, evR, evE, Pv.get, Pv.put, putO, bin2, int2, binB2, un1, cells, boundO, AV.flat, bv, rowOne, pvf, rvs_1, rvs_2, rvL, rvX, liveB, setParts, szOk, notStr, lim, dedup, place, ent, Pv.new, Pv.newVar, Pv.newVec, setCells, AV.ones, AV.one, resX, entry, layL, layC, layA, lay, List.map, List.foldl, List.replicate, List.length_replicate, ↓reduceIte, reduceCtorEq, Nat.reduceEqDiff, Nat.reduceLT, Nat.reduceLeDiff, Nat.reduceAdd, Nat.reduceSub, Nat.reduceMul, Nat.reducePow, Nat.reduceDiv, Nat.reduceMod, Nat.reduceBEq, Nat.reduceBNe, Int.reduceLT, Int.reduceLE, Int.reduceToNat, Int.reduceAdd, Int.reduceSub, Int.reduceMul, Int.reduceNeg, Int.reducePow, Int.reduceEq, Int.reduceNe, Int.reduceDiv, Int.reduceMod, Int.reduceTDiv, Int.reduceTMod, UInt8.reduceToNat, UInt8.reduceOfNat]
  refine awR_callD (clone_runF _ _ (by simp; omega)) rfl rfl (fun _ => rfl) ?_
  simp (disch := (first | omega | (simp only [List.length_set, List.length_append, List.length_cons, List.length_nil, List.length_take, List.length_drop, List.length_map, List.length_replicate] at *; omega))) only [↓pvd, pv0, pv1, pv2, pv3, pv4, pv5, pv6, pv7, pvc0, pvc1, pvc2, buildC, evP, evR, evE, Pv.get, Pv.put, putO, bin2, int2, binB2, un1, cells, boundO, AV.flat, bv, rowOne, pvf, rvs_1, rvs_2, rvL, rvX, liveB, setParts, szOk, notStr, lim, dedup, place, ent, Pv.new, Pv.newVar, Pv.newVec, setCells, AV.ones, AV.one, resX, entry, layL, layC, layA, lay, List.map, List.foldl, List.replicate, List.length_replicate, ↓reduceIte, reduceCtorEq, Nat.reduceEqDiff, Nat.reduceLT, Nat.reduceLeDiff, Nat.reduceAdd, Nat.reduceSub, Nat.reduceMul, Nat.reducePow, Nat.reduceDiv, Nat.reduceMod, Nat.reduceBEq, Nat.reduceBNe, Int.reduceLT, Int.reduceLE, Int.reduceToNat, Int.reduceAdd, Int.reduceSub, Int.reduceMul, Int.reduceNeg, Int.reducePow, Int.reduceEq, Int.reduceNe, Int.reduceDiv, Int.reduceMod, Int.reduceTDiv, Int.reduceTMod, UInt8.reduceToNat, UInt8.reduceOfNat]
  (unfold ipF; simp (disch := omega) only [if_pos, if_neg])
  (refine EndsX_rq [] ?_; simp (disch := (first | omega | (simp only [List.length_set, List.length_append, List.length_cons, List.length_nil, List.length_take, List.length_drop, List.length_map, List.length_replicate]; omega))) only [↓pvd, pv0, pv1, pv2, pv3, pv4, pv5, pv6, pv7, pvc0, pvc1, pvc2, buildC, evP, evR, evE, Pv.get, Pv.put, putO, bin2, int2, binB2, un1, cells, boundO, AV.flat, bv, rowOne, pvf, rvs_1, rvs_2, rvL, rvX, liveB, setParts, szOk, notStr, lim, dedup, place, ent, Pv.new, Pv.newVar, Pv.newVec, setCells, AV.ones, AV.one, resX, entry, layL, layC, layA, lay, List.map, List.foldl, List.replicate, List.length_replicate, ↓reduceIte, reduceCtorEq, Nat.reduceEqDiff, Nat.reduceLT, Nat.reduceLeDiff, Nat.reduceAdd, Nat.reduceSub, Nat.reduceMul, Nat.reducePow, Nat.reduceDiv, Nat.reduceMod, Nat.reduceBEq, Nat.reduceBNe, Int.reduceLT, Int.reduceLE, Int.reduceToNat, Int.reduceAdd, Int.reduceSub, Int.reduceMul, Int.reduceNeg, Int.reducePow, Int.reduceEq, Int.reduceNe, Int.reduceDiv, Int.reduceMod, Int.reduceTDiv, Int.reduceTMod, UInt8.reduceToNat, UInt8.reduceOfNat]; exact ⟨_, rfl, rfl, rfl⟩)
/-! The bytes of a number. -/
theorem W_flat (ns : List Int) : W (ns.flatMap by2) ns.length = (ns.map fun n => n / 256 % 256 * 256 + n % 256).sum := by
  induction ns with
  | nil => rfl
  | cons n ns ih =>
    rw [List.flatMap_cons, List.length_cons]
    have key : ∀ k, W (by2 n ++ ns.flatMap by2) (k + 1) = (n / 256 % 256 * 256 + n % 256) + W (ns.flatMap by2) k := by
      intro k
      induction k with
      | zero =>
        simp only [W, by2, List.cons_append, List.nil_append, Nat.mul_zero, List.getElem!_cons_zero, Nat.zero_add, List.getElem!_cons_succ]
        rw [u8i_nat, u8i_nat]; omega
      | succ k ih2 =>
        have e : W (by2 n ++ ns.flatMap by2) (k + 1 + 1) = W (by2 n ++ ns.flatMap by2) (k + 1) + (((by2 n ++ ns.flatMap by2)[2 * (k + 1)]!.toNat : Int) * 256 + (by2 n ++ ns.flatMap by2)[2 * (k + 1) + 1]!.toNat) := rfl
        rw [e, ih2]
        have e2 : W (ns.flatMap by2) (k + 1) = W (ns.flatMap by2) k + (((ns.flatMap by2)[2 * k]!.toNat : Int) * 256 + (ns.flatMap by2)[2 * k + 1]!.toNat) := rfl
        rw [e2]
        have f1 : (by2 n ++ ns.flatMap by2)[2 * (k + 1)]! = (ns.flatMap by2)[2 * k]! := by
          rw [show 2 * (k + 1) = 2 * k + 1 + 1 by omega]; rfl
        have f2 : (by2 n ++ ns.flatMap by2)[2 * (k + 1) + 1]! = (ns.flatMap by2)[2 * k + 1]! := by
          rw [show 2 * (k + 1) + 1 = 2 * k + 1 + 1 + 1 by omega]; rfl
        rw [f1, f2]; omega
    rw [key, ih]; simp
theorem Wt_flat (ns : List Int) : Wt (ns.flatMap by2) = (ns.map fun n => n / 256 % 256 * 256 + n % 256).sum := by
  unfold Wt
  rw [by2s_len, show (2 * ns.length + 1) / 2 = ns.length by omega, W_flat]
end Go.Proofs

set_option linter.unusedSimpArgs false
set_option linter.unusedVariables false
set_option maxHeartbeats 2000000
set_option maxRecDepth 20000
namespace Go.Proofs
open Go.Pv
def p0 : Pk := ⟨0, 0, 64, 17, 3232235521, 3232235719, List.replicate 95 0⟩
theorem ip_works : Run Try.prog 29 [] (.bool true) := by
  have h1 : (ipP p0).2 = 0 ∧ (ipP p0).1.length = 115 ∧ (ipP p0).1[10]!.toNat = 248 ∧ (ipP p0).1[11]!.toNat = 97 := by decide +kernel
  obtain ⟨e1, e2, e3, e4⟩ := h1
  have hp := ip_put_run p0 false (by decide) (by decide) (by decide)
  have e5 : ipF [] = (zPk, 10) := rfl
  have ht := ip_take_run [] false (by decide)
  rw [e5] at ht
  generalize ipP p0 = r at *
  obtain ⟨r1, r2⟩ := r
  dsimp only at e1 e2 e3 e4
  subst e1
  unfold udpPR at hp
  refine Try.run29 (by simp) ?_
  unfold Try.c29
  simp (disch := (first | omega | (simp only [List.length_set, List.length_append, List.length_cons, List.length_nil, List.length_take, List.length_drop, List.length_map, List.length_replicate] at *; omega))) only [↓pvd, pv0, pv1, pv2, pv3, pv4, pv5, pv6, pv7, pvc0, pvc1, pvc2, buildC, evP, evR, evE, Pv.get, Pv.put, putO, bin2, int2, binB2, un1, cells, boundO, AV.flat, bv, rowOne, pvf, rvs_1, rvs_2, rvL, rvX, liveB, setParts, szOk, notStr, lim, dedup, place, ent, Pv.new, Pv.newVar, Pv.newVec, setCells, AV.ones, AV.one, resX, entry, layL, layC, layA, lay, List.map, List.foldl, List.replicate, List.length_replicate, ↓reduceIte, reduceCtorEq, Nat.reduceEqDiff, Nat.reduceLT, Nat.reduceLeDiff, Nat.reduceAdd, Nat.reduceSub, Nat.reduceMul, Nat.reducePow, Nat.reduceDiv, Nat.reduceMod, Nat.reduceBEq, Nat.reduceBNe, Int.reduceLT, Int.reduceLE, Int.reduceToNat, Int.reduceAdd, Int.reduceSub, Int.reduceMul, Int.reduceNeg, Int.reducePow, Int.reduceEq, Int.reduceNe, Int.reduceDiv, Int.reduceMod, Int.reduceTDiv, Int.reduceTMod, UInt8.reduceToNat, UInt8.reduceOfNat]
  refine awR_callS (ms := []) hp (by simp (disch := (first | omega | (simp only [List.length_set, List.length_append, List.length_cons, List.length_nil, List.length_take, List.length_drop, List.length_map, List.length_replicate] at *; omega))) only [↓pvd, pv0, pv1, pv2, pv3, pv4, pv5, pv6, pv7, pvc0, pvc1, pvc2, buildC, evP, evR, evE, Pv.get, Pv.put, putO, bin2, int2, binB2, un1, cells, boundO, AV.flat, bv, rowOne, pvf, rvs_1, rvs_2, rvL, rvX, liveB, setParts, szOk, notStr, lim, dedup, place, ent, Pv.new, Pv.newVar, Pv.newVec, setCells, AV.ones, AV.one, resX, entry, layL, layC, layA, lay, List.map, List.foldl, List.replicate, List.length_replicate, ↓reduceIte, reduceCtorEq, Nat.reduceEqDiff, Nat.reduceLT, Nat.reduceLeDiff, Nat.reduceAdd, Nat.reduceSub, Nat.reduceMul, Nat.reducePow, Nat.reduceDiv, Nat.reduceMod, Nat.reduceBEq, Nat.reduceBNe, Int.reduceLT, Int.reduceLE, Int.reduceToNat, Int.reduceAdd, Int.reduceSub, Int.reduceMul, Int.reduceNeg, Int.reducePow, Int.reduceEq, Int.reduceNe, Int.reduceDiv, Int.reduceMod, Int.reduceTDiv, Int.reduceTMod, UInt8.reduceToNat, UInt8.reduceOfNat]; rfl) (by simp (disch := (first | omega | (simp only [List.length_set, List.length_append, List.length_cons, List.length_nil, List.length_take, List.length_drop, List.length_map, List.length_replicate] at *; omega))) only [↓pvd, pv0, pv1, pv2, pv3, pv4, pv5, pv6, pv7, pvc0, pvc1, pvc2, buildC, evP, evR, evE, Pv.get, Pv.put, putO, bin2, int2, binB2, un1, cells, boundO, AV.flat, bv, rowOne, pvf, rvs_1, rvs_2, rvL, rvX, liveB, setParts, szOk, notStr, lim, dedup, place, ent, Pv.new, Pv.newVar, Pv.newVec, setCells, AV.ones, AV.one, resX, entry, layL, layC, layA, lay, List.map, List.foldl, List.replicate, List.length_replicate, ↓reduceIte, reduceCtorEq, Nat.reduceEqDiff, Nat.reduceLT, Nat.reduceLeDiff, Nat.reduceAdd, Nat.reduceSub, Nat.reduceMul, Nat.reducePow, Nat.reduceDiv, Nat.reduceMod, Nat.reduceBEq, Nat.reduceBNe, Int.reduceLT, Int.reduceLE, Int.reduceToNat, Int.reduceAdd, Int.reduceSub, Int.reduceMul, Int.reduceNeg, Int.reducePow, Int.reduceEq, Int.reduceNe, Int.reduceDiv, Int.reduceMod, Int.reduceTDiv, Int.reduceTMod, UInt8.reduceToNat, UInt8.reduceOfNat]) ?_
  simp (disch := (first | omega | (simp only [List.length_set, List.length_append, List.length_cons, List.length_nil, List.length_take, List.length_drop, List.length_map, List.length_replicate]; omega))) only [↓pvd, pv0, pv1, pv2, pv3, pv4, pv5, pv6, pv7, pvc0, pvc1, pvc2, buildC, evP, evR, evE, Pv.get, Pv.put, putO, bin2, int2, binB2, un1, cells, boundO, AV.flat, bv, rowOne, pvf, rvs_1, rvs_2, rvL, rvX, liveB, setParts, szOk, notStr, lim, dedup, place, ent, Pv.new, Pv.newVar, Pv.newVec, setCells, AV.ones, AV.one, resX, entry, layL, layC, layA, lay, List.map, List.foldl, List.replicate, List.length_replicate, ↓reduceIte, reduceCtorEq, Nat.reduceEqDiff, Nat.reduceLT, Nat.reduceLeDiff, Nat.reduceAdd, Nat.reduceSub, Nat.reduceMul, Nat.reducePow, Nat.reduceDiv, Nat.reduceMod, Nat.reduceBEq, Nat.reduceBNe, Int.reduceLT, Int.reduceLE, Int.reduceToNat, Int.reduceAdd, Int.reduceSub, Int.reduceMul, Int.reduceNeg, Int.reducePow, Int.reduceEq, Int.reduceNe, Int.reduceDiv, Int.reduceMod, Int.reduceTDiv, Int.reduceTMod, UInt8.reduceToNat, UInt8.reduceOfNat, still]
  refine awR_callR (ms := [.nil 1 false]) ht (by simp (disch := (first | omega | (simp only [List.length_set, List.length_append, List.length_cons, List.length_nil, List.length_take, List.length_drop, List.length_map, List.length_replicate] at *; omega))) only [↓pvd, pv0, pv1, pv2, pv3, pv4, pv5, pv6, pv7, pvc0, pvc1, pvc2, buildC, evP, evR, evE, Pv.get, Pv.put, putO, bin2, int2, binB2, un1, cells, boundO, AV.flat, bv, rowOne, pvf, rvs_1, rvs_2, rvL, rvX, liveB, setParts, szOk, notStr, lim, dedup, place, ent, Pv.new, Pv.newVar, Pv.newVec, setCells, AV.ones, AV.one, resX, entry, layL, layC, layA, lay, List.map, List.foldl, List.replicate, List.length_replicate, ↓reduceIte, reduceCtorEq, Nat.reduceEqDiff, Nat.reduceLT, Nat.reduceLeDiff, Nat.reduceAdd, Nat.reduceSub, Nat.reduceMul, Nat.reducePow, Nat.reduceDiv, Nat.reduceMod, Nat.reduceBEq, Nat.reduceBNe, Int.reduceLT, Int.reduceLE, Int.reduceToNat, Int.reduceAdd, Int.reduceSub, Int.reduceMul, Int.reduceNeg, Int.reducePow, Int.reduceEq, Int.reduceNe, Int.reduceDiv, Int.reduceMod, Int.reduceTDiv, Int.reduceTMod, UInt8.reduceToNat, UInt8.reduceOfNat]; rfl) (by simp (disch := (first | omega | (simp only [List.length_set, List.length_append, List.length_cons, List.length_nil, List.length_take, List.length_drop, List.length_map, List.length_replicate] at *; omega))) only [↓pvd, pv0, pv1, pv2, pv3, pv4, pv5, pv6, pv7, pvc0, pvc1, pvc2, buildC, evP, evR, evE, Pv.get, Pv.put, putO, bin2, int2, binB2, un1, cells, boundO, AV.flat, bv, rowOne, pvf, rvs_1, rvs_2, rvL, rvX, liveB, setParts, szOk, notStr, lim, dedup, place, ent, Pv.new, Pv.newVar, Pv.newVec, setCells, AV.ones, AV.one, resX, entry, layL, layC, layA, lay, List.map, List.foldl, List.replicate, List.length_replicate, ↓reduceIte, reduceCtorEq, Nat.reduceEqDiff, Nat.reduceLT, Nat.reduceLeDiff, Nat.reduceAdd, Nat.reduceSub, Nat.reduceMul, Nat.reducePow, Nat.reduceDiv, Nat.reduceMod, Nat.reduceBEq, Nat.reduceBNe, Int.reduceLT, Int.reduceLE, Int.reduceToNat, Int.reduceAdd, Int.reduceSub, Int.reduceMul, Int.reduceNeg, Int.reducePow, Int.reduceEq, Int.reduceNe, Int.reduceDiv, Int.reduceMod, Int.reduceTDiv, Int.reduceTMod, UInt8.reduceToNat, UInt8.reduceOfNat]) rfl ?_
  simp (disch := (first | omega | (simp only [List.length_set, List.length_append, List.length_cons, List.length_nil, List.length_take, List.length_drop, List.length_map, List.length_replicate]; omega))) only [↓pvd, pv0, pv1, pv2, pv3, pv4, pv5, pv6, pv7, pvc0, pvc1, pvc2, buildC, evP, evR, evE, Pv.get, Pv.put, putO, bin2, int2, binB2, un1, cells, boundO, AV.flat, bv, rowOne, pvf, rvs_1, rvs_2, rvL, rvX, liveB, setParts, szOk, notStr, lim, dedup, place, ent, Pv.new, Pv.newVar, Pv.newVec, setCells, AV.ones, AV.one, resX, entry, layL, layC, layA, lay, List.map, List.foldl, List.replicate, List.length_replicate, ↓reduceIte, reduceCtorEq, Nat.reduceEqDiff, Nat.reduceLT, Nat.reduceLeDiff, Nat.reduceAdd, Nat.reduceSub, Nat.reduceMul, Nat.reducePow, Nat.reduceDiv, Nat.reduceMod, Nat.reduceBEq, Nat.reduceBNe, Int.reduceLT, Int.reduceLE, Int.reduceToNat, Int.reduceAdd, Int.reduceSub, Int.reduceMul, Int.reduceNeg, Int.reducePow, Int.reduceEq, Int.reduceNe, Int.reduceDiv, Int.reduceMod, Int.reduceTDiv, Int.reduceTMod, UInt8.reduceToNat, UInt8.reduceOfNat, ipR, pkR, zPk, e3, e4]
  (refine Ends_rq [] ?_; simp (disch := (first | omega | (simp only [List.length_set, List.length_append, List.length_cons, List.length_nil, List.length_take, List.length_drop, List.length_map, List.length_replicate]; omega))) only [↓pvd, pv0, pv1, pv2, pv3, pv4, pv5, pv6, pv7, pvc0, pvc1, pvc2, buildC, evP, evR, evE, Pv.get, Pv.put, putO, bin2, int2, binB2, un1, cells, boundO, AV.flat, bv, rowOne, pvf, rvs_1, rvs_2, rvL, rvX, liveB, setParts, szOk, notStr, lim, dedup, place, ent, Pv.new, Pv.newVar, Pv.newVec, setCells, AV.ones, AV.one, resX, entry, layL, layC, layA, lay, List.map, List.foldl, List.replicate, List.length_replicate, ↓reduceIte, reduceCtorEq, Nat.reduceEqDiff, Nat.reduceLT, Nat.reduceLeDiff, Nat.reduceAdd, Nat.reduceSub, Nat.reduceMul, Nat.reducePow, Nat.reduceDiv, Nat.reduceMod, Nat.reduceBEq, Nat.reduceBNe, Int.reduceLT, Int.reduceLE, Int.reduceToNat, Int.reduceAdd, Int.reduceSub, Int.reduceMul, Int.reduceNeg, Int.reducePow, Int.reduceEq, Int.reduceNe, Int.reduceDiv, Int.reduceMod, Int.reduceTDiv, Int.reduceTMod, UInt8.reduceToNat, UInt8.reduceOfNat]; exact ⟨_, rfl, rfl, rfl⟩)
theorem dat_pk {y : AV} (h : DatV Try.prog 6 48 y) : ∃ p : Pk, y = pkR p false ∧ (0 ≤ p.src ∧ p.src ≤ 4294967295) ∧ (0 ≤ p.dst ∧ p.dst ≤ 4294967295) ∧ (-9223372036854775808 ≤ p.ttl ∧ p.ttl ≤ 9223372036854775807) ∧ p.body.length ≤ maxLen := by
  obtain ⟨cs, rfl, hl, hf⟩ := dat_struct Try.underlying48 h
  rw [show Try.prog.cellsOf 48 = 7 by kernel_rfl] at hl
  match cs, hl with
  | [x0, x1, x2, x3, x4, x5, x6], _ =>
    simp only [List.mem_cons, List.not_mem_nil, or_false, forall_eq_or_imp, forall_eq] at hf
    obtain ⟨f0, f1, f2, f3, f4, f5, f6⟩ := hf
    rw [show Try.prog.cellsOf 3 = 1 by kernel_rfl] at f0 f1 f2 f3
    rw [show Try.prog.cellsOf 46 = 1 by kernel_rfl] at f4 f5
    rw [show Try.prog.cellsOf 22 = 1 by kernel_rfl] at f6
    obtain ⟨m0, e0, w0⟩ := dat1_int Try.underlying3 f0
    obtain ⟨m1, e1, w1⟩ := dat1_int Try.underlying3 f1
    obtain ⟨m2, e2, w2⟩ := dat1_int Try.underlying3 f2
    obtain ⟨m3, e3, w3⟩ := dat1_int Try.underlying3 f3
    obtain ⟨m4, e4, w4⟩ := dat1_int Try.underlying46 f4
    obtain ⟨m5, e5, w5⟩ := dat1_int Try.underlying46 f5
    obtain ⟨b, e6, w6⟩ := dat1_bys Try.underlying22 Try.underlying5 (by kernel_rfl) f6
    simp at e0 e1 e2 e3 e4 e5 e6
    subst e0 e1 e2 e3 e4 e5 e6
    exact ⟨⟨m0, m1, m2, m3, m4, m5, b⟩, rfl, wf_u32 w4, wf_u32 w5, wf_i64 w2, w6⟩
end Go.Proofs

set_option linter.unusedSimpArgs false
set_option linter.unusedVariables false
set_option maxHeartbeats 2000000
set_option maxRecDepth 20000
namespace Go.Proofs
open Go.Pv
/-! The plain law: what a bit turned does to a sum. -/
/-- What place k counts for. -/
def wt (k : Nat) : Int := if k % 2 = 0 then 256 else 1
theorem W_set (b : List UInt8) (k : Nat) (v : UInt8) (hk : k < b.length) (n : Nat) : W (b.set k v) n = W b n + (if k < 2 * n then ((v.toNat : Int) - b[k]!.toNat) * wt k else 0) := by
  induction n with
  | zero => simp [W]
  | succ n ih =>
    have g : ∀ j, (b.set k v)[j]! = if j = k then v else b[j]! := by
      intro j
      rw [List.getElem!_eq_getElem?_getD, List.getElem?_set, List.getElem!_eq_getElem?_getD]
      by_cases hj : k = j
      · subst hj; simp [hk]
      · simp [hj, Ne.symm hj]
    simp only [W]
    rw [ih, g, g]
    by_cases h1 : 2 * n = k
    · subst h1
      have e : wt (2 * n) = 256 := by unfold wt; rw [if_pos (by omega)]
      rw [if_neg (by omega), if_pos rfl, if_neg (by omega), if_pos (by omega), e]
      omega
    · by_cases h2 : 2 * n + 1 = k
      · subst h2
        have e : wt (2 * n + 1) = 1 := by unfold wt; rw [if_neg (by omega)]
        rw [if_neg (by omega), if_neg (by omega), if_pos rfl, if_pos (by omega), e]
        omega
      · rw [if_neg h1, if_neg h2]
        by_cases h3 : k < 2 * n
        · rw [if_pos h3, if_pos (by omega)]; omega
        · rw [if_neg h3, if_neg (by omega)]; omega
theorem Wt_set (b : List UInt8) (k : Nat) (v : UInt8) (hk : k < b.length) : Wt (b.set k v) = Wt b + ((v.toNat : Int) - b[k]!.toNat) * wt k := by
  unfold Wt
  rw [List.length_set, W_set b k v hk, if_pos (by omega)]
theorem red_zero {n : Int} (h : 0 ≤ n) : red n = 65535 ↔ 0 < n ∧ n % 65535 = 0 := by unfold red; split <;> omega
/-- A right sum with one bit turned is not right. -/
theorem turned (a : List UInt8) (k j : Nat) (v : UInt8) (hk : k < a.length) (hj : j < 8) (hr : red (Wt a) = 65535) (hv : v.toNat = a[k]!.toNat + 2 ^ j ∨ a[k]!.toNat = v.toNat + 2 ^ j) : red (Wt (a.set k v)) ≠ 65535 := by
  have h0 := (W_b a ((a.length + 1) / 2)).1
  have h1 := (W_b (a.set k v) (((a.set k v).length + 1) / 2)).1
  change 0 ≤ Wt a at h0
  change 0 ≤ Wt (a.set k v) at h1
  rw [red_zero h0] at hr
  rw [Ne, red_zero h1, Wt_set a k v hk]
  have hw : wt k = 256 ∨ wt k = 1 := by unfold wt; split <;> simp
  have hj' : j = 0 ∨ j = 1 ∨ j = 2 ∨ j = 3 ∨ j = 4 ∨ j = 5 ∨ j = 6 ∨ j = 7 := by omega
  rcases hw with hw | hw <;> rw [hw] <;> rcases hj' with rfl | rfl | rfl | rfl | rfl | rfl | rfl | rfl <;> simp only [Nat.reducePow] at hv <;> omega
end Go.Proofs

set_option linter.unusedSimpArgs false
set_option linter.unusedVariables false
set_option maxHeartbeats 2000000
set_option maxRecDepth 20000
namespace Go.Proofs
open Go.Pv
end Go.Proofs

set_option linter.unusedSimpArgs false
set_option linter.unusedVariables false
set_option maxHeartbeats 2000000
set_option maxRecDepth 20000
namespace Go.Proofs
open Go.Pv
def okPk (p : Pk) : Prop := (0 ≤ p.tos ∧ p.tos ≤ 255) ∧ (0 ≤ p.ttl ∧ p.ttl ≤ 255) ∧ (0 ≤ p.proto ∧ p.proto ≤ 255) ∧ (0 ≤ p.id ∧ p.id ≤ 65535) ∧ (0 ≤ p.src ∧ p.src ≤ 4294967295) ∧ (0 ≤ p.dst ∧ p.dst ≤ 4294967295)
end Go.Proofs

/-
  The machine of plain values, 33: a law's statement from its run, the form's reach handed on.
-/
set_option linter.unusedVariables false
namespace Go.Pv
open Go.ChangeShapes Go.WideShapes Go.RowKit
/-- Texts and rows within the form's reach. -/
inductive Sz : AV → Prop
  | bool (b : Bool) : Sz (.bool b)
  | int (k : IntKind) (n : Int) : Sz (.int k n)
  | str (s : List UInt8) : s.length ≤ reachBytes → Sz (.str s)
  | sl (sz : Nat) (es : List AV) (f : Bool) : es.length ≤ reachBytes → (∀ y ∈ es, Sz y) → Sz (.sl sz es f)
  | agg (cs : List AV) : (∀ y ∈ cs, Sz y) → Sz (.agg cs)
def SzL (xs : List AV) : Prop := ∀ y ∈ xs, Sz y
theorem SzL.one {y : AV} (h : Sz y) : SzL [y] := fun x hx => by
  rw [List.mem_singleton.1 hx]; exact h
theorem SzL.app {xs ys : List AV} (h : SzL xs) (k : SzL ys) : SzL (xs ++ ys) := fun x hx => (List.mem_append.1 hx).elim (h x) (k x)
theorem Sz.of_flat {y : AV} (h : SzL y.flat) : Sz y := by
  cases y with
  | agg cs => exact .agg cs h
  | _ => exact h _ (by simp [AV.flat])
theorem Sz.slLen {sz : Nat} {es : List AV} {f : Bool} (h : Sz (.sl sz es f)) : es.length ≤ 140737488351232 := by
  cases h with | sl _ _ _ h _ => exact h
theorem Sz.aggAll {cs : List AV} (h : Sz (.agg cs)) : ∀ y ∈ cs, Sz y := by
  cases h with | agg _ h => exact h
/-- A row's elements have bytes. -/
def byP (P : Program) : Nat → TypeId → Bool
  | 0, _ => false
  | d + 1, t => match P.underlying t with
    | some (.slice e) => decide (1 ≤ P.bytesOf e) && byP P d e
    | some (.struct fs) => fs.toList.all fun f => byP P d f.type
    | _ => true
section
variable {H : Type} {enc : TypeId × Value → H} {P : Program} {w : World} {base : Nat} {spare : Nat → Bool} {held : Bool}
theorem weightsAll_mem {e : TypeId} : ∀ {l : List (DataW H)}, (DataW.weightsAll P e l).all (· ≤ reachBytes) = true → ∀ d ∈ l, (d.weights P e).all (· ≤ reachBytes) = true
  | [], _, d, hd => by cases hd
  | x :: l, h, d, hd => by
    simp only [DataW.weightsAll, List.all_append, Bool.and_eq_true] at h
    rcases List.mem_cons.1 hd with rfl | hd
    · exact h.1
    · exact weightsAll_mem h.2 d hd
theorem weightsEach_get : ∀ {ts : List TypeId} {ds : List (DataW H)} {j : Nat} {t : TypeId} {d : DataW H}, (DataW.weightsEach P ts ds).all (· ≤ reachBytes) = true → ts[j]? = some t → ds[j]? = some d → (d.weights P t).all (· ≤ reachBytes) = true := fun h ht hd =>
  List.all_eq_true.2 fun n hn => List.all_eq_true.1 h n (DataW.weights_mem_each ht hd n hn)
theorem fields_datz {d m : Nat} (ih : ∀ (t : TypeId) (n : Nat) (cs : List Value) (x : DataW H × List MemPlace), supp P d t = true → byP P d t = true → DataW.trod enc P w base spare held n t cs = some x → (x.1.weights P t).all (· ≤ reachBytes) = true → cs.length = P.cellsOf t ∧ ∃ xs, Dat P d t xs ∧ CellsD w xs cs ∧ SzL xs) {cs : List Value} :
    ∀ (fs : List Field) (o e : Nat), contig P o fs = some e → (fs.all fun f => supp P d f.type && byP P d f.type) = true → e ≤ cs.length →
      (∀ f ∈ fs, ∃ x, DataW.trod enc P w base spare held m f.type ((cs.drop f.offset).take (P.cellsOf f.type)) = some x ∧ (x.1.weights P f.type).all (· ≤ reachBytes) = true) →
      o ≤ e ∧ ∃ xs, SzL xs ∧ CellsD w xs ((cs.drop o).take (e - o)) ∧ xs.length = e - o ∧ ∀ f ∈ fs, o ≤ f.offset ∧ Dat P d f.type ((xs.drop (f.offset - o)).take (P.cellsOf f.type))
  | [], o, e, hc, _, _, _ => by
    simp only [contig, Option.some.injEq] at hc
    subst hc
    refine ⟨Nat.le_refl _, [], (fun y hy => by cases hy), ⟨by simp, fun i x v hx => by simp at hx⟩, by simp, fun f hf => by cases hf⟩
  | f :: fs, o, e, hc, ha, he, hr => by
    simp only [contig] at hc
    split at hc
    case isFalse => cases hc
    rename_i hfo
    subst hfo
    simp only [List.all_cons, Bool.and_eq_true] at ha
    obtain ⟨h1, xs, hz, h2, h3, h4⟩ := fields_datz ih fs _ e hc ha.2 he fun f' hf' => hr f' (List.mem_cons_of_mem _ hf')
    obtain ⟨x, hx, hxw⟩ := hr f (by simp)
    obtain ⟨hl, ys, hd, hy, hyz⟩ := ih f.type m _ x ha.1.1 ha.1.2 hx hxw
    have hyl : ys.length = P.cellsOf f.type := hy.1.trans hl
    refine ⟨by omega, ys ++ xs, hyz.app hz, ?_, by rw [List.length_append, hyl, h3]; omega, fun f' hf' => ?_⟩
    · have e1 : (cs.drop f.offset).take (e - f.offset) = (cs.drop f.offset).take (P.cellsOf f.type) ++ (cs.drop (f.offset + P.cellsOf f.type)).take (e - (f.offset + P.cellsOf f.type)) := by
        rw [show e - f.offset = P.cellsOf f.type + (e - (f.offset + P.cellsOf f.type)) by omega, List.take_add, List.drop_drop]
      rw [e1]
      exact hy.app h2
    · rcases List.mem_cons.1 hf' with rfl | hf'
      · refine ⟨by omega, ?_⟩
        rw [Nat.sub_self, List.drop_zero, ← hyl, List.take_left]
        exact hd
      · obtain ⟨k1, k2⟩ := h4 f' hf'
        refine ⟨by omega, ?_⟩
        have e2 : (ys ++ xs).drop (f'.offset - f.offset) = xs.drop (f'.offset - (f.offset + P.cellsOf f.type)) := by
          rw [List.drop_append, List.drop_of_length_le (by omega), List.nil_append]
          congr 1; omega
        rw [e2]; exact k2
theorem datz_of_trod : ∀ (d : Nat) (t : TypeId) (n : Nat) (cs : List Value) (x : DataW H × List MemPlace), supp P d t = true → byP P d t = true → DataW.trod enc P w base spare held n t cs = some x → (x.1.weights P t).all (· ≤ reachBytes) = true → cs.length = P.cellsOf t ∧ ∃ xs, Dat P d t xs ∧ CellsD w xs cs ∧ SzL xs
  | 0, _, _, _, _, hs, _, _, _ => by cases hs
  | d + 1, t, n, cs, x, hs, hby, h, hwt => by
    unfold supp at hs
    unfold byP at hby
    unfold Dat
    cases hu : P.underlying t with
    | none => rw [hu] at hs; cases hs
    | some u =>
      rw [hu] at hs hby
      cases u with
      | bool =>
        obtain ⟨b, rfl, _⟩ := DataW.trod_bool hu h
        exact ⟨by simpa using (beq_iff_eq.1 hs).symm, [.bool b], ⟨b, rfl⟩, .one (.bool b) rfl, .one (.bool b)⟩
      | int k =>
        obtain ⟨m, rfl, _, hw⟩ := DataW.trod_int hu h
        exact ⟨by simpa using (beq_iff_eq.1 hs).symm, [.int k m], ⟨m, rfl, hw⟩, .one (.int k m) rfl, .one (.int k m)⟩
      | string =>
        obtain ⟨s, rfl, rfl, hw⟩ := DataW.trod_string hu h
        have hwz : s.data.toList.length ≤ reachBytes := by simpa [DataW.weights] using hwt
        refine ⟨by simpa using (beq_iff_eq.1 hs).symm, [.str s.data.toList], ⟨s.data.toList, rfl, by simpa using hw⟩, .one (.str s.data.toList) rfl, .one (.str _ hwz)⟩
      | slice e =>
        simp only [Bool.and_eq_true, beq_iff_eq, decide_eq_true_eq] at hs
        obtain ⟨hs1, hpos, hse⟩ := hs
        simp only [Bool.and_eq_true, decide_eq_true_eq] at hby
        rcases Go.Deep.open_slice hu h with ⟨rfl, _⟩ | ⟨a, len, cap, m, n', D, Pl, rfl, _, hl, hm, hmm, rfl, hx⟩
        · exact ⟨by simpa using hs1.symm, [.sl (P.cellsOf e) [] false], ⟨[], rfl, by simp, fun y hy => by cases hy⟩, .one (.sl0 _ _ _ _ fun h => by cases h) rfl, .one (.sl _ _ _ (by simp) fun y hy => by cases hy)⟩
        · refine ⟨by simpa using hs1.symm, ?_⟩
          have hlm : len ≤ m := by rw [hmm]; split <;> omega
          simp only [DataW.weights, hu, List.all_cons, Bool.and_eq_true, decide_eq_true_eq, List.all_append, List.length_map, List.length_range] at hwt
          have hlz : len ≤ reachBytes := by
            have h1 := hwt.1
            have h2 : len * 1 ≤ (len + (m - len)) * P.bytesOf e := Nat.mul_le_mul (by omega) hby.1
            omega
          have hwi : ∀ i, i < len → ((D i).weights P e).all (· ≤ reachBytes) = true := fun i hi => weightsAll_mem (by simpa using hwt.2.1) (D i) (List.mem_map.2 ⟨i, List.mem_range.2 hi, rfl⟩)
          have hex : ∀ i, i < len → ∃ y : AV × List Value, DatV P d e y.1 ∧ CellsD w y.1.flat y.2 ∧ Sz y.1 ∧ y.2.length = P.cellsOf e ∧ ∀ j u, y.2[j]? = some u → w.cell? ((a.add (i * P.cellsOf e)).add j) = some u := by
            intro i hi
            obtain ⟨cs', h1, h2⟩ := hx i (by omega)
            obtain ⟨h3, h4⟩ := cells_at h1
            obtain ⟨_, ys, k1, k2, kz⟩ := datz_of_trod d e n' cs' _ hse hby.2 h2 (hwi i hi)
            obtain ⟨y, k3, k4⟩ := box_dat hse k1
            exact ⟨(y, cs'), k3, by rw [k4]; exact k2, Sz.of_flat (k4 ▸ kz), h3, h4⟩
          have : Inhabited (AV × List Value) := ⟨(.undef, [])⟩
          obtain ⟨F, hF⟩ := Go.Deep.choose_lt hex
          have hget : ∀ i x, ((List.range len).map fun i => (F i).1)[i]? = some x → i < len ∧ x = (F i).1 := by
            intro i x hi
            rw [List.getElem?_map] at hi
            rcases Nat.lt_or_ge i len with h' | h'
            · rw [List.getElem?_range h'] at hi
              exact ⟨h', by simpa using hi.symm⟩
            · rw [List.getElem?_eq_none (by simpa using h')] at hi; cases hi
          refine ⟨[.sl (P.cellsOf e) ((List.range len).map fun i => (F i).1) false], ⟨_, rfl, by simp; omega, ?_⟩, ?_, .one (.sl _ _ _ (by simpa using hlz) fun y hy => by
            obtain ⟨i, hi, rfl⟩ := List.mem_map.1 hy
            exact (hF i (List.mem_range.1 hi)).2.2.1)⟩
          · intro y hy
            obtain ⟨i, hi, rfl⟩ := List.mem_map.1 hy
            exact (hF i (List.mem_range.1 hi)).1
          · refine .one ?_ rfl
            rcases Nat.eq_zero_or_pos len with h0 | h0
            · subst h0; exact .sl0 _ _ _ _ fun h => by cases h
            · have hfl : ∀ i, i < len → (F i).1.flat.length = P.cellsOf e := fun i hi => by rw [(hF i hi).2.1.1, (hF i hi).2.2.2.1]
              have hcell0 : ∀ i, i < len → ∀ j u, (F i).2[j]? = some u → w.cell? ((a.add (i * P.cellsOf e)).add j) = some u := fun i hi => (hF i hi).2.2.2.2
              have ha : a = ⟨a.block, a.off, none⟩ := by
                obtain ⟨u, hu0⟩ : ∃ u, (F 0).2[0]? = some u := ⟨_, List.getElem?_eq_getElem (by rw [(hF 0 h0).2.2.2.1]; exact hpos)⟩
                have := hcell0 0 h0 0 u hu0
                rw [Nat.zero_mul] at this
                exact spot_none (v := u) this
              have hcell1 : ∀ i, i < len → ∀ j u, (F i).2[j]? = some u → w.cell? ⟨a.block, a.off + i * P.cellsOf e + j, none⟩ = some u := fun i hi j u hj => by
                have := hcell0 i hi j u hj
                rw [ha, add_plain, add_plain] at this
                exact this
              have hb : a.block < w.heap.size := by
                obtain ⟨u, hu0⟩ : ∃ u, (F 0).2[0]? = some u := ⟨_, List.getElem?_eq_getElem (by rw [(hF 0 h0).2.2.2.1]; exact hpos)⟩
                have := hcell1 0 h0 0 u hu0
                exact World.block_lt_of_cell? w ⟨a.block, _, none⟩ this
              rw [ha]
              have key : ∀ (i : Nat) (x : AV) (j : Nat) (y : AV), ((List.range len).map fun i => (F i).1)[i]? = some x → x.flat[j]? = some y → i < len ∧ ∃ u, (F i).2[j]? = some u ∧ Sim w (bareG (old w)) y u ∧ u.oneCell' = true := by
                intro i x j y hx hy
                obtain ⟨hi, rfl⟩ := hget i x hx
                have hj := (List.getElem?_eq_some_iff.1 hy).1
                have hu : (F i).2[j]? = some ((F i).2[j]'(by rw [← (hF i hi).2.1.1]; exact hj)) := List.getElem?_eq_getElem _
                obtain ⟨k1, k2⟩ := (hF i hi).2.1.2 j y _ hy hu
                exact ⟨hi, _, hu, k1, k2⟩
              have e0 : len = ((List.range len).map fun i => (F i).1).length := by simp
              have hS := Sim.sl (w := w) (γ := bareG (old w)) (P.cellsOf e) ((List.range len).map fun i => (F i).1) false a.block a.off cap (fun i j => ((F i).2[j]?).getD .nilIface) (by simpa using h0) (by simpa using hl) (fun h => by cases h) hb hb
                (fun x hx => by
                  obtain ⟨i, hi, rfl⟩ := List.mem_map.1 hx
                  exact hfl i (List.mem_range.1 hi))
                (fun i x j y hx hy => by
                  obtain ⟨hi, u, h1, h2, h3⟩ := key i x j y hx hy
                  rw [h1]
                  exact ⟨hcell1 i hi j u h1, h3⟩)
                (fun i x j y hx hy => by
                  obtain ⟨hi, u, h1, h2, h3⟩ := key i x j y hx hy
                  rw [h1]
                  exact h2)
              simpa using hS
      | struct fs =>
        simp only [Bool.and_eq_true, beq_iff_eq] at hs
        obtain ⟨xs, n', rfl, rfl, hl, hxl, hf⟩ := DataW.trod_struct hu h
        simp only [DataW.weights, hu] at hwt
        obtain ⟨_, ys, hz, h1, h2, h3⟩ := fields_datz (m := n') (enc := enc) (base := base) (spare := spare) (held := held) (datz_of_trod d) (cs := cs) fs.toList 0 _ hs.1 (by
          have a1 := hs.2
          simp only [List.all_eq_true, Bool.and_eq_true] at a1 hby ⊢
          exact fun f hf' => ⟨a1 f hf', hby f hf'⟩) (by omega) (fun f hf' => by
          obtain ⟨i, hi⟩ := List.mem_iff_getElem?.1 hf'
          have hi' : fs[i]? = some f := by simpa using hi
          have := hf i f hi'
          have hlt := (Array.getElem?_eq_some_iff.1 hi').1
          rw [List.getElem?_eq_getElem (by omega)] at this
          refine ⟨_, this, ?_⟩
          have hlx : i < xs.length := by omega
          refine weightsEach_get hwt (j := i) ?_ ?_
          · simp [hi']
          · simp [List.getElem?_eq_getElem hlx])
        refine ⟨hl, ys, ⟨by simpa using h2, fun f hf' => ?_⟩, ?_, hz⟩
        · simpa using (h3 f hf').2
        · rw [List.drop_zero, Nat.sub_zero, ← hl, List.take_length] at h1
          exact h1
      | _ => cases hs
theorem ownz_of : ∀ (ts : List TypeId) (vs : List Value) (ds : List (DataW H)) (ps : List MemPlace) {d : Nat} {r : Reach}, ts.all (supp P d) = true → ts.all (byP P d) = true → (DataW.weightsEach P ts ds).all (· ≤ reachBytes) = true → DataW.TrodAll enc P w 0 spare held ts vs ds ps →
    (∀ (j : Nat) t v, ts[j]? = some t → vs[j]? = some v → Value.okWide P w r base t v) → ∃ xs, DatL P d ts xs ∧ SzL xs ∧ OwnL (OwnC w (old w)) [] xs vs
  | [], vs, ds, ps, _, _, _, _, _, h, _ => by
    obtain ⟨rfl, rfl, rfl⟩ := trodAll_nil h
    exact ⟨[], trivial, (fun y hy => by cases hy), .nil⟩
  | t :: ts, vs, ds, ps, d, r, ha, hby, hwt, h, hok => by
    obtain ⟨v, vs', d', ds', p, q, rfl, rfl, rfl, ⟨n, h1⟩, h2⟩ := trodAll_cons h
    simp only [List.all_cons, Bool.and_eq_true] at ha hby
    simp only [DataW.weightsEach, List.all_append, Bool.and_eq_true] at hwt
    obtain ⟨xs, k1, kz, k2⟩ := ownz_of ts vs' ds' q ha.2 hby.2 hwt.2 h2 fun j t' v' hj hv => hok (j + 1) t' v' (by simpa using hj) (by simpa using hv)
    have hv0 := hok 0 t v rfl rfl
    obtain ⟨_, ys, m1, m2, mz⟩ := datz_of_trod d t n _ _ ha.1 hby.1 h1 hwt.1
    cases hag : isAg P t with
    | true =>
      have : ∃ cs, v = .agg cs := by
        unfold isAg at hag
        unfold Value.okWide at hv0
        split at hag
        · rename_i hu; rw [hu] at hv0; obtain ⟨cs, h, _⟩ := hv0; exact ⟨cs, h⟩
        · rename_i hu; rw [hu] at hv0; obtain ⟨cs, h, _⟩ := hv0; exact ⟨cs, h⟩
        · cases hag
      obtain ⟨cs, rfl⟩ := this
      have hown : OwnC w (old w) [] (.agg ys) (.agg cs) := ⟨rfl, .agg ys cs (by simpa [Value.cells] using m2.1) fun i x v hx hv => (m2.2 i x v hx (by simpa [Value.cells] using hv)).1⟩
      exact ⟨.agg ys :: xs, ⟨⟨⟨fun _ => ⟨_, rfl⟩, (fun h => by rw [hag] at h; cases h)⟩, m1⟩, k1⟩, (SzL.one (.agg _ mz)).app kz, OwnL.cons (os := []) (os' := []) hown k2⟩
    | false =>
      rw [cells_single ha.1 hag hv0] at m2
      obtain ⟨y, rfl, hy⟩ := dat_single ha.1 hag m1
      have hsim := (m2.2 0 y v rfl rfl).1
      have hno : ∀ a b c, y ≠ .own a b c := fun a b c e => by subst e; cases hsim
      have hown : OwnC w (old w) [] y v := by
        unfold OwnC
        split
        · exact absurd rfl (hno _ _ _)
        · exact ⟨rfl, hsim⟩
      exact ⟨y :: xs, ⟨⟨⟨(fun h => by rw [hag] at h; cases h), fun _ => hy⟩, by rw [flat_one hy]; exact m1⟩, k1⟩, mz.app kz, OwnL.cons (os := []) (os' := []) hown k2⟩
/-- A law's contract, from its run. -/
theorem law_calls_sized {f : FuncId} {fn : Func} {s : ChangeSpec} {rt : TypeId} {d : Nat} (hs : ∀ ds : List (DataW H), ds.length = fn.params.toList.length → s.fn H ds = { results := [.lit (.bool true)], args := ds }) (hv : s.vars = [])
    (hres : fn.resultTypes = #[rt]) (hrt : P.underlying rt = some .bool) (hsup : fn.params.toList.all (supp P d) = true) (hby : fn.params.toList.all (byP P d) = true) (hl : laidOutB P = true) (hrr : (fn.params.toList.all fun t => P.readableRec t && decide (t < P.types.size)) = true)
    (hrun : ∀ xs, DatL P d fn.params.toList xs → SzL xs → Run P f xs (.bool true)) {W : World} {args : Array Value} {ds gs : List (DataW H)} {before : List MemPlace} {base : Nat}
    (hval : ∀ (j : Nat) t v, fn.params[j]? = some t → args[j]? = some v → Value.okWide P W .any base t v) (hW : DataW.Whole enc P fn.params.toList s.vars false W args.toList ds gs before)
    (hsz : (DataW.weightsEach P (fn.params.toList ++ s.plain.varTypes P) (ds ++ gs)).all (· ≤ reachBytes) = true) :
    Calls P f args W fun e W' => ∃ v, e = .returned v ∧ s.post enc P fn false true false false W args v W' := by
  have hlt := hW.lt
  have hW0 := hW
  obtain ⟨p, q, hA, hV, rfl, hfz, hnd⟩ := hW
  rw [hv] at hV
  obtain ⟨rfl, rfl⟩ := trodVars_none hV
  rw [List.append_nil] at hlt hW0
  have hvt : s.plain.varTypes P = [] := by simp [ChangeSpec.plain, DataSpec.varTypes, hv]
  rw [hvt, List.append_nil, List.append_nil] at hsz
  obtain ⟨xs, hd, hxz, hown⟩ := ownz_of fn.params.toList args.toList ds p hsup hby hsz hA fun j t v hj hv => hval j t v (by simpa using hj) (by simpa using hv)
  have hlen : ds.length = fn.params.toList.length := by
    have : ∀ (ts : List TypeId) (vs : List Value) (ds : List (DataW H)) (ps : List MemPlace), DataW.TrodAll enc P W 0 (fun _ => true) true ts vs ds ps → ds.length = ts.length := by
      intro ts
      induction ts with
      | nil => intro vs ds ps h; obtain ⟨_, rfl, _⟩ := trodAll_nil h; rfl
      | cons t ts ih => intro vs ds ps h; obtain ⟨v, vs', d', ds', p, q, rfl, rfl, rfl, _, h2⟩ := trodAll_cons h; simp [ih _ _ _ h2]
    exact this _ _ _ _ hA
  refine Calls.mono ((hrun xs hd hxz).2 W (old W) [] args ⟨fun b hb => ⟨hb, blks_nil b⟩, fun b hb => absurd hb (blks_nil b), .nil⟩ hown) ?_
  rintro e W' ⟨v, I', os', rfl, hr, _, hst⟩
  have hvt : v = .bool true := by
    have h1 : OwnA W' I' os' (.bool true) v := hr
    have h2 : OwnC W' I' os' (.bool true) v := h1
    have h3 := h2.2
    cases h3; rfl
  subst hvt
  have hb : Below W.heap.size W W' := ⟨hst.osk, hst.tape, hst.output, hst.size, fun k hk => hst.keep k hk (blks_nil k)⟩
  refine ⟨_, rfl, ds, [], p, [], p, [], hW0, ?_, ?_, ?_, ?_, fun h => by cases h⟩
  · rw [List.append_nil, hs ds hlen, hres]
    exact trodAll_mk1 (shut_bool hrt true)
  · rw [List.append_nil, hs ds hlen]
    exact trodAll_stay hl hb _ _ _ _ hrr hA hlt fun x hx => by simpa using hlt x hx
  · rw [List.append_nil, hs ds hlen, hv]
    exact rfl
  · refine ⟨hst.osk, hst.output, fun i hi => ?_⟩
    rw [hb.block i hi]
    cases W.heap[i]? with
    | none => simp
    | some o => cases o <;> simp
end
end Go.Pv

set_option linter.unusedSimpArgs false
set_option linter.unusedVariables false
set_option maxHeartbeats 2000000
set_option maxRecDepth 20000
namespace Go.Proofs
open Go.Pv
theorem ipP_okk (p : Pk) (h : (ipP p).2 = 0) (hs : 0 ≤ p.src ∧ p.src ≤ 4294967295) (hd : 0 ≤ p.dst ∧ p.dst ≤ 4294967295) : ipP p = (hdr p (65535 - red (Wt (hdr p 0))) ++ p.body, 0) ∧ p.body.length ≤ 1480 ∧ okPk p := by
  unfold ipP at h ⊢
  split at h
  · simp at h
  · rename_i h1
    rw [if_neg h1]
    split at h
    · simp at h
    · rename_i h2
      rw [if_neg h2]; exact ⟨rfl, by omega, ⟨by omega, by omega, by omega, by omega, hs, hd⟩⟩
theorem ipP_bad (p : Pk) (h : (ipP p).2 ≠ 0) : ipP p = ([], 11) ∨ ipP p = ([], 14) := by
  unfold ipP at h ⊢
  split
  · exact .inl rfl
  · rename_i h1
    rw [if_neg h1] at h
    split
    · exact .inr rfl
    · rename_i h2
      rw [if_neg h2] at h
      exact absurd rfl h
theorem two_by2h (n : Int) (h : 0 ≤ n ∧ n ≤ 65535) : ((u8i (n / 256)).toNat : Int) * 256 + (u8i n).toNat = n := by
  rw [u8i_nat, u8i_nat]; omega
/-- Two packets, the second one hop on. -/
theorem hop_sum (p : Pk) (h : okPk p) (ht : 2 ≤ p.ttl) (hb : p.body.length ≤ 1480) :
    turnF (65535 - red (Wt (hdr p 0))) (p.ttl * 256 + p.proto) ((p.ttl - 1) * 256 + p.proto) = 65535 - red (Wt (hdr { p with ttl := p.ttl - 1 } 0)) := by
  obtain ⟨h1, h2, h3, h4, h5, h6⟩ := h
  have e1 : Wt (hdr { p with ttl := p.ttl - 1 } 0) = Wt (hdr p 0) - 256 := by
    rw [hdr, hdr, Wt_flat, Wt_flat]
    simp
    omega
  have e2 : 17664 ≤ Wt (hdr p 0) := by
    rw [hdr, Wt_flat]
    simp
    omega
  rw [e1]
  generalize Wt (hdr p 0) = n at *
  have hr := red_b (n := n) (by omega)
  unfold turnF
  rw [if_neg (by omega)]
  unfold red at *
  repeat' split
  all_goals (split at hr <;> omega)
theorem hops_run (p : Pk) (hs : 0 ≤ p.src ∧ p.src ≤ 4294967295) (hd : 0 ≤ p.dst ∧ p.dst ≤ 4294967295) (ht : -9223372036854775808 ≤ p.ttl ∧ p.ttl ≤ 9223372036854775807) (hm : p.body.length ≤ 140737488355328) : Run Try.prog 14 [pkR p false] (.bool true) := by
  refine Try.run14 (by simp) ?_
  unfold Try.c14
  simp (disch := (first | omega | (simp only [List.length_set, List.length_append, List.length_cons, List.length_nil, List.length_take, List.length_drop, List.length_map, List.length_replicate]; omega))) only [↓pvd, pv0, pv1, pv2, pv3, pv4, pv5, pv6, pv7, pvc0, pvc1, pvc2, buildC, evP, evR, evE, Pv.get, Pv.put, putO, bin2, int2, binB2, un1, cells, boundO, AV.flat, bv, rowOne, pvf, rvs_1, rvs_2, rvL, rvX, liveB, setParts, szOk, notStr, lim, dedup, place, ent, Pv.new, Pv.newVar, Pv.newVec, setCells, AV.ones, AV.one, resX, entry, layL, layC, layA, lay, List.map, List.foldl, List.replicate, List.length_replicate, ↓reduceIte, reduceCtorEq, Nat.reduceEqDiff, Nat.reduceLT, Nat.reduceLeDiff, Nat.reduceAdd, Nat.reduceSub, Nat.reduceMul, Nat.reducePow, Nat.reduceDiv, Nat.reduceMod, Nat.reduceBEq, Nat.reduceBNe, Int.reduceLT, Int.reduceLE, Int.reduceToNat, Int.reduceAdd, Int.reduceSub, Int.reduceMul, Int.reduceNeg, Int.reducePow, Int.reduceEq, Int.reduceNe, Int.reduceDiv, Int.reduceMod, Int.reduceTDiv, Int.reduceTMod, UInt8.reduceToNat, UInt8.reduceOfNat, pkR]
  refine awR_call ip_works rfl rfl ?_
  have hp := run_frz (ip_put_run p false hs hd (by unfold maxLen; omega))
  have hh := ip_hop_run p false hm ht
  by_cases he : (ipP p).2 = 0
  · obtain ⟨hq, hbl, hok⟩ := ipP_okk p he hs hd
    by_cases h1 : p.ttl ≤ 1
    · rw [hq] at hp
      rw [if_pos h1, if_pos h1] at hh
      generalize hdr p (65535 - red (Wt (hdr p 0))) ++ p.body = b at *
      simp (disch := (first | omega | (simp only [List.length_set, List.length_append, List.length_cons, List.length_nil, List.length_take, List.length_drop, List.length_map, List.length_replicate] at *; omega))) only [↓pvd, pv0, pv1, pv2, pv3, pv4, pv5, pv6, pv7, pvc0, pvc1, pvc2, buildC, evP, evR, evE, Pv.get, Pv.put, putO, bin2, int2, binB2, un1, cells, boundO, AV.flat, bv, rowOne, pvf, rvs_1, rvs_2, rvL, rvX, liveB, setParts, szOk, notStr, lim, dedup, place, ent, Pv.new, Pv.newVar, Pv.newVec, setCells, AV.ones, AV.one, resX, entry, layL, layC, layA, lay, List.map, List.foldl, List.replicate, List.length_replicate, ↓reduceIte, reduceCtorEq, Nat.reduceEqDiff, Nat.reduceLT, Nat.reduceLeDiff, Nat.reduceAdd, Nat.reduceSub, Nat.reduceMul, Nat.reducePow, Nat.reduceDiv, Nat.reduceMod, Nat.reduceBEq, Nat.reduceBNe, Int.reduceLT, Int.reduceLE, Int.reduceToNat, Int.reduceAdd, Int.reduceSub, Int.reduceMul, Int.reduceNeg, Int.reducePow, Int.reduceEq, Int.reduceNe, Int.reduceDiv, Int.reduceMod, Int.reduceTDiv, Int.reduceTMod, UInt8.reduceToNat, UInt8.reduceOfNat]
      refine awR_call hp rfl rfl ?_
      simp (disch := (first | omega | (simp only [List.length_set, List.length_append, List.length_cons, List.length_nil, List.length_take, List.length_drop, List.length_map, List.length_replicate]; omega))) only [↓pvd, pv0, pv1, pv2, pv3, pv4, pv5, pv6, pv7, pvc0, pvc1, pvc2, buildC, evP, evR, evE, Pv.get, Pv.put, putO, bin2, int2, binB2, un1, cells, boundO, AV.flat, bv, rowOne, pvf, rvs_1, rvs_2, rvL, rvX, liveB, setParts, szOk, notStr, lim, dedup, place, ent, Pv.new, Pv.newVar, Pv.newVec, setCells, AV.ones, AV.one, resX, entry, layL, layC, layA, lay, List.map, List.foldl, List.replicate, List.length_replicate, ↓reduceIte, reduceCtorEq, Nat.reduceEqDiff, Nat.reduceLT, Nat.reduceLeDiff, Nat.reduceAdd, Nat.reduceSub, Nat.reduceMul, Nat.reducePow, Nat.reduceDiv, Nat.reduceMod, Nat.reduceBEq, Nat.reduceBNe, Int.reduceLT, Int.reduceLE, Int.reduceToNat, Int.reduceAdd, Int.reduceSub, Int.reduceMul, Int.reduceNeg, Int.reducePow, Int.reduceEq, Int.reduceNe, Int.reduceDiv, Int.reduceMod, Int.reduceTDiv, Int.reduceTMod, UInt8.reduceToNat, UInt8.reduceOfNat, udpPR, frz, frzA, frzC]
      refine awR_call hh rfl rfl ?_
      simp (disch := (first | omega | (simp only [List.length_set, List.length_append, List.length_cons, List.length_nil, List.length_take, List.length_drop, List.length_map, List.length_replicate]; omega))) only [↓pvd, pv0, pv1, pv2, pv3, pv4, pv5, pv6, pv7, pvc0, pvc1, pvc2, buildC, evP, evR, evE, Pv.get, Pv.put, putO, bin2, int2, binB2, un1, cells, boundO, AV.flat, bv, rowOne, pvf, rvs_1, rvs_2, rvL, rvX, liveB, setParts, szOk, notStr, lim, dedup, place, ent, Pv.new, Pv.newVar, Pv.newVec, setCells, AV.ones, AV.one, resX, entry, layL, layC, layA, lay, List.map, List.foldl, List.replicate, List.length_replicate, ↓reduceIte, reduceCtorEq, Nat.reduceEqDiff, Nat.reduceLT, Nat.reduceLeDiff, Nat.reduceAdd, Nat.reduceSub, Nat.reduceMul, Nat.reducePow, Nat.reduceDiv, Nat.reduceMod, Nat.reduceBEq, Nat.reduceBNe, Int.reduceLT, Int.reduceLE, Int.reduceToNat, Int.reduceAdd, Int.reduceSub, Int.reduceMul, Int.reduceNeg, Int.reducePow, Int.reduceEq, Int.reduceNe, Int.reduceDiv, Int.reduceMod, Int.reduceTDiv, Int.reduceTMod, UInt8.reduceToNat, UInt8.reduceOfNat, pkR, zPk]
      (refine Ends_rq [] ?_; simp (disch := (first | omega | (simp only [List.length_set, List.length_append, List.length_cons, List.length_nil, List.length_take, List.length_drop, List.length_map, List.length_replicate]; omega))) only [↓pvd, pv0, pv1, pv2, pv3, pv4, pv5, pv6, pv7, pvc0, pvc1, pvc2, buildC, evP, evR, evE, Pv.get, Pv.put, putO, bin2, int2, binB2, un1, cells, boundO, AV.flat, bv, rowOne, pvf, rvs_1, rvs_2, rvL, rvX, liveB, setParts, szOk, notStr, lim, dedup, place, ent, Pv.new, Pv.newVar, Pv.newVec, setCells, AV.ones, AV.one, resX, entry, layL, layC, layA, lay, List.map, List.foldl, List.replicate, List.length_replicate, ↓reduceIte, reduceCtorEq, Nat.reduceEqDiff, Nat.reduceLT, Nat.reduceLeDiff, Nat.reduceAdd, Nat.reduceSub, Nat.reduceMul, Nat.reducePow, Nat.reduceDiv, Nat.reduceMod, Nat.reduceBEq, Nat.reduceBNe, Int.reduceLT, Int.reduceLE, Int.reduceToNat, Int.reduceAdd, Int.reduceSub, Int.reduceMul, Int.reduceNeg, Int.reducePow, Int.reduceEq, Int.reduceNe, Int.reduceDiv, Int.reduceMod, Int.reduceTDiv, Int.reduceTMod, UInt8.reduceToNat, UInt8.reduceOfNat]; exact ⟨_, rfl, rfl, rfl⟩)
    · have hsum := hop_sum p hok (by omega) hbl
      rw [if_neg h1, if_neg h1] at hh
      generalize hQ : ({ p with ttl := p.ttl - 1 } : Pk) = q at *
      have hoq : (ipP q).2 = 0 := by
        rw [← hQ]
        obtain ⟨k1, k2, k3, k4, k5, k6⟩ := hok
        unfold ipP
        dsimp only
        rw [if_neg (by omega), if_neg (by omega)]
      have hsq : 0 ≤ q.src ∧ q.src ≤ 4294967295 := by rw [← hQ]; exact hs
      have hdq : 0 ≤ q.dst ∧ q.dst ≤ 4294967295 := by rw [← hQ]; exact hd
      obtain ⟨hq2, hbl2, hok2⟩ := ipP_okk q hoq hsq hdq
      have hc := run_frz (ip_put_run q false hsq hdq (by unfold maxLen; omega))
      rw [hq] at hp
      rw [hq2] at hc
      have w0 := (W_b (hdr p 0) (((hdr p 0).length + 1) / 2)).1
      change 0 ≤ Wt (hdr p 0) at w0
      have w1 := (W_b (hdr q 0) (((hdr q 0).length + 1) / 2)).1
      change 0 ≤ Wt (hdr q 0) at w1
      have r0 := red_b w0
      have r1 := red_b w1
      have lb : (hdr p (65535 - red (Wt (hdr p 0))) ++ p.body).length = 20 + p.body.length := by simp [show ∀ s, (hdr p s).length = 20 from fun _ => rfl]
      have lc : (hdr q (65535 - red (Wt (hdr q 0))) ++ q.body).length = 20 + p.body.length := by rw [← hQ]; simp [show ∀ (p : Pk) s, (hdr p s).length = 20 from fun _ _ => rfl]
      have b8 := two_by2h (p.ttl * 256 + p.proto) (by have := hok.2.1; have := hok.2.2.1; omega)
      have b10 := two_by2h (65535 - red (Wt (hdr p 0))) (by omega)
      have c8 := two_by2h (q.ttl * 256 + q.proto) (by have := hok2.2.1; have := hok2.2.2.1; omega)
      have c10 := two_by2h (65535 - red (Wt (hdr q 0))) (by omega)
      have t1 : (hdr p (65535 - red (Wt (hdr p 0))) ++ p.body).take 8 = (hdr q (65535 - red (Wt (hdr q 0))) ++ q.body).take 8 := by rw [← hQ]; rfl
      have t2 : (hdr p (65535 - red (Wt (hdr p 0))) ++ p.body).drop 12 = (hdr q (65535 - red (Wt (hdr q 0))) ++ q.body).drop 12 := by rw [← hQ]; rfl
      change (((hdr p (65535 - red (Wt (hdr p 0))) ++ p.body)[8]!).toNat : Int) * 256 + ((hdr p (65535 - red (Wt (hdr p 0))) ++ p.body)[9]!).toNat = _ at b8
      change (((hdr p (65535 - red (Wt (hdr p 0))) ++ p.body)[10]!).toNat : Int) * 256 + ((hdr p (65535 - red (Wt (hdr p 0))) ++ p.body)[11]!).toNat = _ at b10
      change (((hdr q (65535 - red (Wt (hdr q 0))) ++ q.body)[8]!).toNat : Int) * 256 + ((hdr q (65535 - red (Wt (hdr q 0))) ++ q.body)[9]!).toNat = _ at c8
      change (((hdr q (65535 - red (Wt (hdr q 0))) ++ q.body)[10]!).toNat : Int) * 256 + ((hdr q (65535 - red (Wt (hdr q 0))) ++ q.body)[11]!).toNat = _ at c10
      have hqt : q.ttl * 256 + q.proto = (p.ttl - 1) * 256 + p.proto := by rw [← hQ]
      have hbq : q.body.length = p.body.length := by rw [← hQ]
      rw [← hqt] at hsum
      generalize hdr p (65535 - red (Wt (hdr p 0))) ++ p.body = b at *
      generalize hdr q (65535 - red (Wt (hdr q 0))) ++ q.body = c at *
      rw [← b8, ← c8, ← b10, ← c10] at hsum
      have g1 := (b[8]!).toNat_lt
      have g2 := (b[9]!).toNat_lt
      have g3 := (b[10]!).toNat_lt
      have g4 := (b[11]!).toNat_lt
      have g5 := (c[8]!).toNat_lt
      have g6 := (c[9]!).toNat_lt
      have g7 := (c[10]!).toNat_lt
      have g8 := (c[11]!).toNat_lt
      have htr := turn_run (b[10]!.toNat * 256 + b[11]!.toNat) (b[8]!.toNat * 256 + b[9]!.toNat) (c[8]!.toNat * 256 + c[9]!.toNat)
      rw [hsum] at htr
      simp (disch := (first | omega | (simp only [List.length_set, List.length_append, List.length_cons, List.length_nil, List.length_take, List.length_drop, List.length_map, List.length_replicate] at *; omega))) only [↓pvd, pv0, pv1, pv2, pv3, pv4, pv5, pv6, pv7, pvc0, pvc1, pvc2, buildC, evP, evR, evE, Pv.get, Pv.put, putO, bin2, int2, binB2, un1, cells, boundO, AV.flat, bv, rowOne, pvf, rvs_1, rvs_2, rvL, rvX, liveB, setParts, szOk, notStr, lim, dedup, place, ent, Pv.new, Pv.newVar, Pv.newVec, setCells, AV.ones, AV.one, resX, entry, layL, layC, layA, lay, List.map, List.foldl, List.replicate, List.length_replicate, ↓reduceIte, reduceCtorEq, Nat.reduceEqDiff, Nat.reduceLT, Nat.reduceLeDiff, Nat.reduceAdd, Nat.reduceSub, Nat.reduceMul, Nat.reducePow, Nat.reduceDiv, Nat.reduceMod, Nat.reduceBEq, Nat.reduceBNe, Int.reduceLT, Int.reduceLE, Int.reduceToNat, Int.reduceAdd, Int.reduceSub, Int.reduceMul, Int.reduceNeg, Int.reducePow, Int.reduceEq, Int.reduceNe, Int.reduceDiv, Int.reduceMod, Int.reduceTDiv, Int.reduceTMod, UInt8.reduceToNat, UInt8.reduceOfNat]
      refine awR_call hp rfl rfl ?_
      simp (disch := (first | omega | (simp only [List.length_set, List.length_append, List.length_cons, List.length_nil, List.length_take, List.length_drop, List.length_map, List.length_replicate]; omega))) only [↓pvd, pv0, pv1, pv2, pv3, pv4, pv5, pv6, pv7, pvc0, pvc1, pvc2, buildC, evP, evR, evE, Pv.get, Pv.put, putO, bin2, int2, binB2, un1, cells, boundO, AV.flat, bv, rowOne, pvf, rvs_1, rvs_2, rvL, rvX, liveB, setParts, szOk, notStr, lim, dedup, place, ent, Pv.new, Pv.newVar, Pv.newVec, setCells, AV.ones, AV.one, resX, entry, layL, layC, layA, lay, List.map, List.foldl, List.replicate, List.length_replicate, ↓reduceIte, reduceCtorEq, Nat.reduceEqDiff, Nat.reduceLT, Nat.reduceLeDiff, Nat.reduceAdd, Nat.reduceSub, Nat.reduceMul, Nat.reducePow, Nat.reduceDiv, Nat.reduceMod, Nat.reduceBEq, Nat.reduceBNe, Int.reduceLT, Int.reduceLE, Int.reduceToNat, Int.reduceAdd, Int.reduceSub, Int.reduceMul, Int.reduceNeg, Int.reducePow, Int.reduceEq, Int.reduceNe, Int.reduceDiv, Int.reduceMod, Int.reduceTDiv, Int.reduceTMod, UInt8.reduceToNat, UInt8.reduceOfNat, udpPR, frz, frzA, frzC]
      refine awR_call hh rfl rfl ?_
      simp (disch := (first | omega | (simp only [List.length_set, List.length_append, List.length_cons, List.length_nil, List.length_take, List.length_drop, List.length_map, List.length_replicate]; omega))) only [↓pvd, pv0, pv1, pv2, pv3, pv4, pv5, pv6, pv7, pvc0, pvc1, pvc2, buildC, evP, evR, evE, Pv.get, Pv.put, putO, bin2, int2, binB2, un1, cells, boundO, AV.flat, bv, rowOne, pvf, rvs_1, rvs_2, rvL, rvX, liveB, setParts, szOk, notStr, lim, dedup, place, ent, Pv.new, Pv.newVar, Pv.newVec, setCells, AV.ones, AV.one, resX, entry, layL, layC, layA, lay, List.map, List.foldl, List.replicate, List.length_replicate, ↓reduceIte, reduceCtorEq, Nat.reduceEqDiff, Nat.reduceLT, Nat.reduceLeDiff, Nat.reduceAdd, Nat.reduceSub, Nat.reduceMul, Nat.reducePow, Nat.reduceDiv, Nat.reduceMod, Nat.reduceBEq, Nat.reduceBNe, Int.reduceLT, Int.reduceLE, Int.reduceToNat, Int.reduceAdd, Int.reduceSub, Int.reduceMul, Int.reduceNeg, Int.reducePow, Int.reduceEq, Int.reduceNe, Int.reduceDiv, Int.reduceMod, Int.reduceTDiv, Int.reduceTMod, UInt8.reduceToNat, UInt8.reduceOfNat, pkR]
      refine awR_call hc rfl rfl ?_
      simp (disch := (first | omega | (simp only [List.length_set, List.length_append, List.length_cons, List.length_nil, List.length_take, List.length_drop, List.length_map, List.length_replicate]; omega))) only [↓pvd, pv0, pv1, pv2, pv3, pv4, pv5, pv6, pv7, pvc0, pvc1, pvc2, buildC, evP, evR, evE, Pv.get, Pv.put, putO, bin2, int2, binB2, un1, cells, boundO, AV.flat, bv, rowOne, pvf, rvs_1, rvs_2, rvL, rvX, liveB, setParts, szOk, notStr, lim, dedup, place, ent, Pv.new, Pv.newVar, Pv.newVec, setCells, AV.ones, AV.one, resX, entry, layL, layC, layA, lay, List.map, List.foldl, List.replicate, List.length_replicate, ↓reduceIte, reduceCtorEq, Nat.reduceEqDiff, Nat.reduceLT, Nat.reduceLeDiff, Nat.reduceAdd, Nat.reduceSub, Nat.reduceMul, Nat.reducePow, Nat.reduceDiv, Nat.reduceMod, Nat.reduceBEq, Nat.reduceBNe, Int.reduceLT, Int.reduceLE, Int.reduceToNat, Int.reduceAdd, Int.reduceSub, Int.reduceMul, Int.reduceNeg, Int.reducePow, Int.reduceEq, Int.reduceNe, Int.reduceDiv, Int.reduceMod, Int.reduceTDiv, Int.reduceTMod, UInt8.reduceToNat, UInt8.reduceOfNat, udpPR, frz, frzA, frzC]
      refine awR_callD htr rfl rfl (fun _ => rfl) ?_
      simp (disch := (first | omega | (simp only [List.length_set, List.length_append, List.length_cons, List.length_nil, List.length_take, List.length_drop, List.length_map, List.length_replicate]; omega))) only [↓pvd, pv0, pv1, pv2, pv3, pv4, pv5, pv6, pv7, pvc0, pvc1, pvc2, buildC, evP, evR, evE, Pv.get, Pv.put, putO, bin2, int2, binB2, un1, cells, boundO, AV.flat, bv, rowOne, pvf, rvs_1, rvs_2, rvL, rvX, liveB, setParts, szOk, notStr, lim, dedup, place, ent, Pv.new, Pv.newVar, Pv.newVec, setCells, AV.ones, AV.one, resX, entry, layL, layC, layA, lay, List.map, List.foldl, List.replicate, List.length_replicate, ↓reduceIte, reduceCtorEq, Nat.reduceEqDiff, Nat.reduceLT, Nat.reduceLeDiff, Nat.reduceAdd, Nat.reduceSub, Nat.reduceMul, Nat.reducePow, Nat.reduceDiv, Nat.reduceMod, Nat.reduceBEq, Nat.reduceBNe, Int.reduceLT, Int.reduceLE, Int.reduceToNat, Int.reduceAdd, Int.reduceSub, Int.reduceMul, Int.reduceNeg, Int.reducePow, Int.reduceEq, Int.reduceNe, Int.reduceDiv, Int.reduceMod, Int.reduceTDiv, Int.reduceTMod, UInt8.reduceToNat, UInt8.reduceOfNat, t1, t2]
      (refine Ends_rq [] ?_; simp (disch := (first | omega | (simp only [List.length_set, List.length_append, List.length_cons, List.length_nil, List.length_take, List.length_drop, List.length_map, List.length_replicate]; omega))) only [↓pvd, pv0, pv1, pv2, pv3, pv4, pv5, pv6, pv7, pvc0, pvc1, pvc2, buildC, evP, evR, evE, Pv.get, Pv.put, putO, bin2, int2, binB2, un1, cells, boundO, AV.flat, bv, rowOne, pvf, rvs_1, rvs_2, rvL, rvX, liveB, setParts, szOk, notStr, lim, dedup, place, ent, Pv.new, Pv.newVar, Pv.newVec, setCells, AV.ones, AV.one, resX, entry, layL, layC, layA, lay, List.map, List.foldl, List.replicate, List.length_replicate, ↓reduceIte, reduceCtorEq, Nat.reduceEqDiff, Nat.reduceLT, Nat.reduceLeDiff, Nat.reduceAdd, Nat.reduceSub, Nat.reduceMul, Nat.reducePow, Nat.reduceDiv, Nat.reduceMod, Nat.reduceBEq, Nat.reduceBNe, Int.reduceLT, Int.reduceLE, Int.reduceToNat, Int.reduceAdd, Int.reduceSub, Int.reduceMul, Int.reduceNeg, Int.reducePow, Int.reduceEq, Int.reduceNe, Int.reduceDiv, Int.reduceMod, Int.reduceTDiv, Int.reduceTMod, UInt8.reduceToNat, UInt8.reduceOfNat]; exact ⟨_, rfl, rfl, rfl⟩)
  · rcases ipP_bad p he with e | e
    all_goals
      rw [e] at hp
      generalize (if p.ttl ≤ 1 then zPk else { p with ttl := p.ttl - 1 }) = x at *
      generalize (if p.ttl ≤ 1 then (13 : Int) else 0) = e at *
      simp (disch := (first | omega | (simp only [List.length_set, List.length_append, List.length_cons, List.length_nil, List.length_take, List.length_drop, List.length_map, List.length_replicate] at *; omega))) only [↓pvd, pv0, pv1, pv2, pv3, pv4, pv5, pv6, pv7, pvc0, pvc1, pvc2, buildC, evP, evR, evE, Pv.get, Pv.put, putO, bin2, int2, binB2, un1, cells, boundO, AV.flat, bv, rowOne, pvf, rvs_1, rvs_2, rvL, rvX, liveB, setParts, szOk, notStr, lim, dedup, place, ent, Pv.new, Pv.newVar, Pv.newVec, setCells, AV.ones, AV.one, resX, entry, layL, layC, layA, lay, List.map, List.foldl, List.replicate, List.length_replicate, ↓reduceIte, reduceCtorEq, Nat.reduceEqDiff, Nat.reduceLT, Nat.reduceLeDiff, Nat.reduceAdd, Nat.reduceSub, Nat.reduceMul, Nat.reducePow, Nat.reduceDiv, Nat.reduceMod, Nat.reduceBEq, Nat.reduceBNe, Int.reduceLT, Int.reduceLE, Int.reduceToNat, Int.reduceAdd, Int.reduceSub, Int.reduceMul, Int.reduceNeg, Int.reducePow, Int.reduceEq, Int.reduceNe, Int.reduceDiv, Int.reduceMod, Int.reduceTDiv, Int.reduceTMod, UInt8.reduceToNat, UInt8.reduceOfNat]
      refine awR_call hp rfl rfl ?_
      simp (disch := (first | omega | (simp only [List.length_set, List.length_append, List.length_cons, List.length_nil, List.length_take, List.length_drop, List.length_map, List.length_replicate]; omega))) only [↓pvd, pv0, pv1, pv2, pv3, pv4, pv5, pv6, pv7, pvc0, pvc1, pvc2, buildC, evP, evR, evE, Pv.get, Pv.put, putO, bin2, int2, binB2, un1, cells, boundO, AV.flat, bv, rowOne, pvf, rvs_1, rvs_2, rvL, rvX, liveB, setParts, szOk, notStr, lim, dedup, place, ent, Pv.new, Pv.newVar, Pv.newVec, setCells, AV.ones, AV.one, resX, entry, layL, layC, layA, lay, List.map, List.foldl, List.replicate, List.length_replicate, ↓reduceIte, reduceCtorEq, Nat.reduceEqDiff, Nat.reduceLT, Nat.reduceLeDiff, Nat.reduceAdd, Nat.reduceSub, Nat.reduceMul, Nat.reducePow, Nat.reduceDiv, Nat.reduceMod, Nat.reduceBEq, Nat.reduceBNe, Int.reduceLT, Int.reduceLE, Int.reduceToNat, Int.reduceAdd, Int.reduceSub, Int.reduceMul, Int.reduceNeg, Int.reducePow, Int.reduceEq, Int.reduceNe, Int.reduceDiv, Int.reduceMod, Int.reduceTDiv, Int.reduceTMod, UInt8.reduceToNat, UInt8.reduceOfNat, udpPR, frz, frzA, frzC]
      refine awR_call hh rfl rfl ?_
      simp (disch := (first | omega | (simp only [List.length_set, List.length_append, List.length_cons, List.length_nil, List.length_take, List.length_drop, List.length_map, List.length_replicate]; omega))) only [↓pvd, pv0, pv1, pv2, pv3, pv4, pv5, pv6, pv7, pvc0, pvc1, pvc2, buildC, evP, evR, evE, Pv.get, Pv.put, putO, bin2, int2, binB2, un1, cells, boundO, AV.flat, bv, rowOne, pvf, rvs_1, rvs_2, rvL, rvX, liveB, setParts, szOk, notStr, lim, dedup, place, ent, Pv.new, Pv.newVar, Pv.newVec, setCells, AV.ones, AV.one, resX, entry, layL, layC, layA, lay, List.map, List.foldl, List.replicate, List.length_replicate, ↓reduceIte, reduceCtorEq, Nat.reduceEqDiff, Nat.reduceLT, Nat.reduceLeDiff, Nat.reduceAdd, Nat.reduceSub, Nat.reduceMul, Nat.reducePow, Nat.reduceDiv, Nat.reduceMod, Nat.reduceBEq, Nat.reduceBNe, Int.reduceLT, Int.reduceLE, Int.reduceToNat, Int.reduceAdd, Int.reduceSub, Int.reduceMul, Int.reduceNeg, Int.reducePow, Int.reduceEq, Int.reduceNe, Int.reduceDiv, Int.reduceMod, Int.reduceTDiv, Int.reduceTMod, UInt8.reduceToNat, UInt8.reduceOfNat, pkR]
      (refine Ends_rq [] ?_; simp (disch := (first | omega | (simp only [List.length_set, List.length_append, List.length_cons, List.length_nil, List.length_take, List.length_drop, List.length_map, List.length_replicate]; omega))) only [↓pvd, pv0, pv1, pv2, pv3, pv4, pv5, pv6, pv7, pvc0, pvc1, pvc2, buildC, evP, evR, evE, Pv.get, Pv.put, putO, bin2, int2, binB2, un1, cells, boundO, AV.flat, bv, rowOne, pvf, rvs_1, rvs_2, rvL, rvX, liveB, setParts, szOk, notStr, lim, dedup, place, ent, Pv.new, Pv.newVar, Pv.newVec, setCells, AV.ones, AV.one, resX, entry, layL, layC, layA, lay, List.map, List.foldl, List.replicate, List.length_replicate, ↓reduceIte, reduceCtorEq, Nat.reduceEqDiff, Nat.reduceLT, Nat.reduceLeDiff, Nat.reduceAdd, Nat.reduceSub, Nat.reduceMul, Nat.reducePow, Nat.reduceDiv, Nat.reduceMod, Nat.reduceBEq, Nat.reduceBNe, Int.reduceLT, Int.reduceLE, Int.reduceToNat, Int.reduceAdd, Int.reduceSub, Int.reduceMul, Int.reduceNeg, Int.reducePow, Int.reduceEq, Int.reduceNe, Int.reduceDiv, Int.reduceMod, Int.reduceTDiv, Int.reduceTMod, UInt8.reduceToNat, UInt8.reduceOfNat]; exact ⟨_, rfl, rfl, rfl⟩)
theorem ipHops_all : ∀ xs, DatL Try.prog 6 Try.f14.params.toList xs → SzL xs → Run Try.prog 14 xs (.bool true) := by
  intro xs h hz
  rw [show Try.f14.params.toList = [48] from rfl] at h
  obtain ⟨y1, rfl, h1⟩ := datL1 h
  obtain ⟨p, rfl, hs, hd, ht, hm⟩ := dat_pk h1
  have z1 : Sz (pkR p false) := hz _ (by simp)
  unfold pkR at z1
  have z2 := (z1.aggAll _ (List.mem_cons_of_mem _ (List.mem_cons_of_mem _ (List.mem_cons_of_mem _ (List.mem_cons_of_mem _ (List.mem_cons_of_mem _ (List.mem_cons_of_mem _ (List.mem_singleton.2 rfl)))))))).slLen
  exact hops_run p hs hd ht (by simpa [bys] using Nat.le_trans z2 (by decide))
end Go.Proofs
