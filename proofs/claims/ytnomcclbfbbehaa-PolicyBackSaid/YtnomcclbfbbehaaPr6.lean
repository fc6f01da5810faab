/- The proofs of what the functions of this seat do. -/
import Derived.Test.YtnomcclbfbbehaaPr5
set_option linter.unusedSimpArgs false
set_option linter.unusedVariables false
set_option maxHeartbeats 2000000
set_option maxRecDepth 20000
namespace Go.Proofs
open Go.Pv
instance (t : Tn) : Decidable (grT t) := by unfold grT; infer_instance
def grL (l : List Tn) : Prop := l.length ≤ 40 ∧ ∀ t ∈ l, grT t
instance (l : List Tn) : Decidable (grL l) := by unfold grL; infer_instance
def bdT (t : Tn) : Prop := t.nm.length ≤ maxLen ∧ t.ds.length ≤ maxLen ∧ t.ps.length ≤ maxLen ∧ (∀ d ∈ t.ds, d.length ≤ maxLen) ∧ ∀ p ∈ t.ps, p.length ≤ maxLen
theorem great_run14 (l : List Tn) (f : Bool) (hl : l.length ≤ maxLen) (hb : ∀ t ∈ l, bdT t) : Run Try.prog 19 [.sl 4 (l.map tnR) f] (.bool (!decide (grL l))) := by
  simp only [maxLen] at hl
  generalize hv : (!decide (grL l)) = v
  refine Try.run19 (by simp) ?_
  unfold Try.c19
  by_cases h40 : 40 < l.length
  · rw [decide_eq_false (show ¬ grL l from fun h => by have := h.1; omega)] at hv
    subst hv
    simp (disch := (first | omega | (simp only [List.length_set, List.length_append, List.length_cons, List.length_nil, List.length_take, List.length_drop, List.length_map, List.length_replicate] at *; omega))) only [↓pvd, pv0, pv1, pv2, pv3, pv4, pv5, pv6, pv7, pvc0, pvc1, pvc2, buildC, evP, evR, evE, Pv.get, Pv.put, putO, bin2, int2, binB2, un1, cells, boundO, AV.flat, bv, rowOne, pvf, rvs_1, rvs_2, rvL, rvX, liveB, setParts, szOk, notStr, lim, dedup, place, ent, Pv.new, Pv.newVar, Pv.newVec, setCells, AV.ones, AV.one, resX, entry, layL, layC, layA, lay, List.map, List.foldl, List.replicate, List.length_replicate, ↓reduceIte, reduceCtorEq, Nat.reduceEqDiff, Nat.reduceLT, Nat.reduceLeDiff, Nat.reduceAdd, Nat.reduceSub, Nat.reduceMul, Nat.reducePow, Nat.reduceDiv, Nat.reduceMod, Nat.reduceBEq, Nat.reduceBNe, Int.reduceLT, Int.reduceLE, Int.reduceToNat, Int.reduceAdd, Int.reduceSub, Int.reduceMul, Int.reduceNeg, Int.reducePow, Int.reduceEq, Int.reduceNe, Int.reduceDiv, Int.reduceMod, Int.reduceTDiv, Int.reduceTMod, UInt8.reduceToNat, UInt8.reduceOfNat]
    (refine Ends_rq [] ?_; simp (disch := (first | omega | (simp only [List.length_set, List.length_append, List.length_cons, List.length_nil, List.length_take, List.length_drop, List.length_map, List.length_replicate]; omega))) only [↓pvd, pv0, pv1, pv2, pv3, pv4, pv5, pv6, pv7, pvc0, pvc1, pvc2, buildC, evP, evR, evE, Pv.get, Pv.put, putO, bin2, int2, binB2, un1, cells, boundO, AV.flat, bv, rowOne, pvf, rvs_1, rvs_2, rvL, rvX, liveB, setParts, szOk, notStr, lim, dedup, place, ent, Pv.new, Pv.newVar, Pv.newVec, setCells, AV.ones, AV.one, resX, entry, layL, layC, layA, lay, List.map, List.foldl, List.replicate, List.length_replicate, ↓reduceIte, reduceCtorEq, Nat.reduceEqDiff, Nat.reduceLT, Nat.reduceLeDiff, Nat.reduceAdd, Nat.reduceSub, Nat.reduceMul, Nat.reducePow, Nat.reduceDiv, Nat.reduceMod, Nat.reduceBEq, Nat.reduceBNe, Int.reduceLT, Int.reduceLE, Int.reduceToNat, Int.reduceAdd, Int.reduceSub, Int.reduceMul, Int.reduceNeg, Int.reducePow, Int.reduceEq, Int.reduceNe, Int.reduceDiv, Int.reduceMod, Int.reduceTDiv, Int.reduceTMod, UInt8.reduceToNat, UInt8.reduceOfNat]; exact ⟨_, rfl, rfl, rfl⟩)
  simp (disch := (first | omega | (simp only [List.length_set, List.length_append, List.length_cons, List.length_nil, List.length_take, List.length_drop, List.length_map, List.length_replicate] at *; omega))) only [↓pvd, pv0, pv1, pv2, pv3, pv4, pv5, pv6, pv7, pvc0, pvc1, pvc2, buildC, evP, evR, evE, Pv.get, Pv.put, putO, bin2, int2, binB2, un1, cells, boundO, AV.flat, bv, rowOne, pvf, rvs_1, rvs_2, rvL, rvX, liveB, setParts, szOk, notStr, lim, dedup, place, ent, Pv.new, Pv.newVar, Pv.newVec, setCells, AV.ones, AV.one, resX, entry, layL, layC, layA, lay, List.map, List.foldl, List.replicate, List.length_replicate, ↓reduceIte, reduceCtorEq, Nat.reduceEqDiff, Nat.reduceLT, Nat.reduceLeDiff, Nat.reduceAdd, Nat.reduceSub, Nat.reduceMul, Nat.reducePow, Nat.reduceDiv, Nat.reduceMod, Nat.reduceBEq, Nat.reduceBNe, Int.reduceLT, Int.reduceLE, Int.reduceToNat, Int.reduceAdd, Int.reduceSub, Int.reduceMul, Int.reduceNeg, Int.reducePow, Int.reduceEq, Int.reduceNe, Int.reduceDiv, Int.reduceMod, Int.reduceTDiv, Int.reduceTMod, UInt8.reduceToNat, UInt8.reduceOfNat]
  refine aw_loop (fun k : Nat => ⟨[(0, .sl 4 (l.map tnR) f), (3, .int .i64 k)], []⟩) (fun k => k ≤ l.length ∧ ∀ j, j < k → grT l[j]!) (fun k => l.length - k) 0 ?_ ⟨by omega, fun j hj => by omega⟩ ?_
  · simp (disch := (first | omega | (simp only [List.length_set, List.length_append, List.length_cons, List.length_nil, List.length_take, List.length_drop, List.length_map, List.length_replicate] at *; omega))) only [↓pvd, pv0, pv1, pv2, pv3, pv4, pv5, pv6, pv7, pvc0, pvc1, pvc2, buildC, evP, evR, evE, Pv.get, Pv.put, putO, bin2, int2, binB2, un1, cells, boundO, AV.flat, bv, rowOne, pvf, rvs_1, rvs_2, rvL, rvX, liveB, setParts, szOk, notStr, lim, dedup, place, ent, Pv.new, Pv.newVar, Pv.newVec, setCells, AV.ones, AV.one, resX, entry, layL, layC, layA, lay, List.map, List.foldl, List.replicate, List.length_replicate, ↓reduceIte, reduceCtorEq, Nat.reduceEqDiff, Nat.reduceLT, Nat.reduceLeDiff, Nat.reduceAdd, Nat.reduceSub, Nat.reduceMul, Nat.reducePow, Nat.reduceDiv, Nat.reduceMod, Nat.reduceBEq, Nat.reduceBNe, Int.reduceLT, Int.reduceLE, Int.reduceToNat, Int.reduceAdd, Int.reduceSub, Int.reduceMul, Int.reduceNeg, Int.reducePow, Int.reduceEq, Int.reduceNe, Int.reduceDiv, Int.reduceMod, Int.reduceTDiv, Int.reduceTMod, UInt8.reduceToNat, UInt8.reduceOfNat]
    try rfl
  rintro k ⟨hk, hall⟩
  unfold Try.c19b2
  by_cases hx : k < l.length
  · have hgi : (l.map tnR)[k]? = some (tnR l[k]!) := map_get hx
    have hbt := hb _ (get_mem hx)
    obtain ⟨b1, b2, b3, b4, b5⟩ := hbt
    simp only [maxLen] at b1 b2 b3 b4 b5
    have hbad : ¬ grT l[k]! → v = true := fun h => by rw [← hv, decide_eq_false fun hg => h (hg.2 _ (get_mem hx))]; rfl
    have hall2 : grT l[k]! → ∀ j, j < k + 1 → grT l[j]! := fun h j hj => by
      by_cases e : j = k
      · rw [e]; exact h
      · exact hall j (by omega)
    generalize l[k]! = t at *
    by_cases h1 : 300 < t.nm.length
    · rw [hbad (fun h => by have := h.1; omega)]
      simp (disch := (first | omega | (simp only [List.length_set, List.length_append, List.length_cons, List.length_nil, List.length_take, List.length_drop, List.length_map, List.length_replicate]; omega))) only [↓pvd, pv0, pv1, pv2, pv3, pv4, pv5, pv6, pv7, pvc0, pvc1, pvc2, buildC, evP, evR, evE, Pv.get, Pv.put, putO, bin2, int2, binB2, un1, cells, boundO, AV.flat, bv, rowOne, pvf, rvs_1, rvs_2, rvL, rvX, liveB, setParts, szOk, notStr, lim, dedup, place, ent, Pv.new, Pv.newVar, Pv.newVec, setCells, AV.ones, AV.one, resX, entry, layL, layC, layA, lay, List.map, List.foldl, List.replicate, List.length_replicate, ↓reduceIte, reduceCtorEq, Nat.reduceEqDiff, Nat.reduceLT, Nat.reduceLeDiff, Nat.reduceAdd, Nat.reduceSub, Nat.reduceMul, Nat.reducePow, Nat.reduceDiv, Nat.reduceMod, Nat.reduceBEq, Nat.reduceBNe, Int.reduceLT, Int.reduceLE, Int.reduceToNat, Int.reduceAdd, Int.reduceSub, Int.reduceMul, Int.reduceNeg, Int.reducePow, Int.reduceEq, Int.reduceNe, Int.reduceDiv, Int.reduceMod, Int.reduceTDiv, Int.reduceTMod, UInt8.reduceToNat, UInt8.reduceOfNat, hgi, tnR]
      (refine Ends_rq [] ?_; simp (disch := (first | omega | (simp only [List.length_set, List.length_append, List.length_cons, List.length_nil, List.length_take, List.length_drop, List.length_map, List.length_replicate]; omega))) only [↓pvd, pv0, pv1, pv2, pv3, pv4, pv5, pv6, pv7, pvc0, pvc1, pvc2, buildC, evP, evR, evE, Pv.get, Pv.put, putO, bin2, int2, binB2, un1, cells, boundO, AV.flat, bv, rowOne, pvf, rvs_1, rvs_2, rvL, rvX, liveB, setParts, szOk, notStr, lim, dedup, place, ent, Pv.new, Pv.newVar, Pv.newVec, setCells, AV.ones, AV.one, resX, entry, layL, layC, layA, lay, List.map, List.foldl, List.replicate, List.length_replicate, ↓reduceIte, reduceCtorEq, Nat.reduceEqDiff, Nat.reduceLT, Nat.reduceLeDiff, Nat.reduceAdd, Nat.reduceSub, Nat.reduceMul, Nat.reducePow, Nat.reduceDiv, Nat.reduceMod, Nat.reduceBEq, Nat.reduceBNe, Int.reduceLT, Int.reduceLE, Int.reduceToNat, Int.reduceAdd, Int.reduceSub, Int.reduceMul, Int.reduceNeg, Int.reducePow, Int.reduceEq, Int.reduceNe, Int.reduceDiv, Int.reduceMod, Int.reduceTDiv, Int.reduceTMod, UInt8.reduceToNat, UInt8.reduceOfNat]; exact ⟨_, rfl, rfl, rfl⟩)
    by_cases h2 : 40 < t.ds.length
    · rw [hbad (fun h => by have := h.2.1; omega)]
      simp (disch := (first | omega | (simp only [List.length_set, List.length_append, List.length_cons, List.length_nil, List.length_take, List.length_drop, List.length_map, List.length_replicate]; omega))) only [↓pvd, pv0, pv1, pv2, pv3, pv4, pv5, pv6, pv7, pvc0, pvc1, pvc2, buildC, evP, evR, evE, Pv.get, Pv.put, putO, bin2, int2, binB2, un1, cells, boundO, AV.flat, bv, rowOne, pvf, rvs_1, rvs_2, rvL, rvX, liveB, setParts, szOk, notStr, lim, dedup, place, ent, Pv.new, Pv.newVar, Pv.newVec, setCells, AV.ones, AV.one, resX, entry, layL, layC, layA, lay, List.map, List.foldl, List.replicate, List.length_replicate, ↓reduceIte, reduceCtorEq, Nat.reduceEqDiff, Nat.reduceLT, Nat.reduceLeDiff, Nat.reduceAdd, Nat.reduceSub, Nat.reduceMul, Nat.reducePow, Nat.reduceDiv, Nat.reduceMod, Nat.reduceBEq, Nat.reduceBNe, Int.reduceLT, Int.reduceLE, Int.reduceToNat, Int.reduceAdd, Int.reduceSub, Int.reduceMul, Int.reduceNeg, Int.reducePow, Int.reduceEq, Int.reduceNe, Int.reduceDiv, Int.reduceMod, Int.reduceTDiv, Int.reduceTMod, UInt8.reduceToNat, UInt8.reduceOfNat, hgi, tnR]
      (refine Ends_rq [] ?_; simp (disch := (first | omega | (simp only [List.length_set, List.length_append, List.length_cons, List.length_nil, List.length_take, List.length_drop, List.length_map, List.length_replicate]; omega))) only [↓pvd, pv0, pv1, pv2, pv3, pv4, pv5, pv6, pv7, pvc0, pvc1, pvc2, buildC, evP, evR, evE, Pv.get, Pv.put, putO, bin2, int2, binB2, un1, cells, boundO, AV.flat, bv, rowOne, pvf, rvs_1, rvs_2, rvL, rvX, liveB, setParts, szOk, notStr, lim, dedup, place, ent, Pv.new, Pv.newVar, Pv.newVec, setCells, AV.ones, AV.one, resX, entry, layL, layC, layA, lay, List.map, List.foldl, List.replicate, List.length_replicate, ↓reduceIte, reduceCtorEq, Nat.reduceEqDiff, Nat.reduceLT, Nat.reduceLeDiff, Nat.reduceAdd, Nat.reduceSub, Nat.reduceMul, Nat.reducePow, Nat.reduceDiv, Nat.reduceMod, Nat.reduceBEq, Nat.reduceBNe, Int.reduceLT, Int.reduceLE, Int.reduceToNat, Int.reduceAdd, Int.reduceSub, Int.reduceMul, Int.reduceNeg, Int.reducePow, Int.reduceEq, Int.reduceNe, Int.reduceDiv, Int.reduceMod, Int.reduceTDiv, Int.reduceTMod, UInt8.reduceToNat, UInt8.reduceOfNat]; exact ⟨_, rfl, rfl, rfl⟩)
    by_cases h3 : 40 < t.ps.length
    · rw [hbad (fun h => by have := h.2.2.1; omega)]
      simp (disch := (first | omega | (simp only [List.length_set, List.length_append, List.length_cons, List.length_nil, List.length_take, List.length_drop, List.length_map, List.length_replicate]; omega))) only [↓pvd, pv0, pv1, pv2, pv3, pv4, pv5, pv6, pv7, pvc0, pvc1, pvc2, buildC, evP, evR, evE, Pv.get, Pv.put, putO, bin2, int2, binB2, un1, cells, boundO, AV.flat, bv, rowOne, pvf, rvs_1, rvs_2, rvL, rvX, liveB, setParts, szOk, notStr, lim, dedup, place, ent, Pv.new, Pv.newVar, Pv.newVec, setCells, AV.ones, AV.one, resX, entry, layL, layC, layA, lay, List.map, List.foldl, List.replicate, List.length_replicate, ↓reduceIte, reduceCtorEq, Nat.reduceEqDiff, Nat.reduceLT, Nat.reduceLeDiff, Nat.reduceAdd, Nat.reduceSub, Nat.reduceMul, Nat.reducePow, Nat.reduceDiv, Nat.reduceMod, Nat.reduceBEq, Nat.reduceBNe, Int.reduceLT, Int.reduceLE, Int.reduceToNat, Int.reduceAdd, Int.reduceSub, Int.reduceMul, Int.reduceNeg, Int.reducePow, Int.reduceEq, Int.reduceNe, Int.reduceDiv, Int.reduceMod, Int.reduceTDiv, Int.reduceTMod, UInt8.reduceToNat, UInt8.reduceOfNat, hgi, tnR]
      (refine Ends_rq [] ?_; simp (disch := (first | omega | (simp only [List.length_set, List.length_append, List.length_cons, List.length_nil, List.length_take, List.length_drop, List.length_map, List.length_replicate]; omega))) only [↓pvd, pv0, pv1, pv2, pv3, pv4, pv5, pv6, pv7, pvc0, pvc1, pvc2, buildC, evP, evR, evE, Pv.get, Pv.put, putO, bin2, int2, binB2, un1, cells, boundO, AV.flat, bv, rowOne, pvf, rvs_1, rvs_2, rvL, rvX, liveB, setParts, szOk, notStr, lim, dedup, place, ent, Pv.new, Pv.newVar, Pv.newVec, setCells, AV.ones, AV.one, resX, entry, layL, layC, layA, lay, List.map, List.foldl, List.replicate, List.length_replicate, ↓reduceIte, reduceCtorEq, Nat.reduceEqDiff, Nat.reduceLT, Nat.reduceLeDiff, Nat.reduceAdd, Nat.reduceSub, Nat.reduceMul, Nat.reducePow, Nat.reduceDiv, Nat.reduceMod, Nat.reduceBEq, Nat.reduceBNe, Int.reduceLT, Int.reduceLE, Int.reduceToNat, Int.reduceAdd, Int.reduceSub, Int.reduceMul, Int.reduceNeg, Int.reducePow, Int.reduceEq, Int.reduceNe, Int.reduceDiv, Int.reduceMod, Int.reduceTDiv, Int.reduceTMod, UInt8.reduceToNat, UInt8.reduceOfNat]; exact ⟨_, rfl, rfl, rfl⟩)
    simp (disch := (first | omega | (simp only [List.length_set, List.length_append, List.length_cons, List.length_nil, List.length_take, List.length_drop, List.length_map, List.length_replicate]; omega))) only [↓pvd, pv0, pv1, pv2, pv3, pv4, pv5, pv6, pv7, pvc0, pvc1, pvc2, buildC, evP, evR, evE, Pv.get, Pv.put, putO, bin2, int2, binB2, un1, cells, boundO, AV.flat, bv, rowOne, pvf, rvs_1, rvs_2, rvL, rvX, liveB, setParts, szOk, notStr, lim, dedup, place, ent, Pv.new, Pv.newVar, Pv.newVec, setCells, AV.ones, AV.one, resX, entry, layL, layC, layA, lay, List.map, List.foldl, List.replicate, List.length_replicate, ↓reduceIte, reduceCtorEq, Nat.reduceEqDiff, Nat.reduceLT, Nat.reduceLeDiff, Nat.reduceAdd, Nat.reduceSub, Nat.reduceMul, Nat.reducePow, Nat.reduceDiv, Nat.reduceMod, Nat.reduceBEq, Nat.reduceBNe, Int.reduceLT, Int.reduceLE, Int.reduceToNat, Int.reduceAdd, Int.reduceSub, Int.reduceMul, Int.reduceNeg, Int.reducePow, Int.reduceEq, Int.reduceNe, Int.reduceDiv, Int.reduceMod, Int.reduceTDiv, Int.reduceTMod, UInt8.reduceToNat, UInt8.reduceOfNat, hgi, tnR]
    refine aw_loop (fun i : Nat => ⟨[(0, .sl 4 (l.map tnR) f), (3, .int .i64 k), (4, .int .i64 i)], []⟩) (fun i => i ≤ t.ds.length ∧ ∀ j, j < i → t.ds[j]!.length ≤ 300) (fun i => t.ds.length - i) 0 ?_ ⟨by omega, fun j hj => by omega⟩ ?_
    · simp (disch := (first | omega | (simp only [List.length_set, List.length_append, List.length_cons, List.length_nil, List.length_take, List.length_drop, List.length_map, List.length_replicate] at *; omega))) only [↓pvd, pv0, pv1, pv2, pv3, pv4, pv5, pv6, pv7, pvc0, pvc1, pvc2, buildC, evP, evR, evE, Pv.get, Pv.put, putO, bin2, int2, binB2, un1, cells, boundO, AV.flat, bv, rowOne, pvf, rvs_1, rvs_2, rvL, rvX, liveB, setParts, szOk, notStr, lim, dedup, place, ent, Pv.new, Pv.newVar, Pv.newVec, setCells, AV.ones, AV.one, resX, entry, layL, layC, layA, lay, List.map, List.foldl, List.replicate, List.length_replicate, ↓reduceIte, reduceCtorEq, Nat.reduceEqDiff, Nat.reduceLT, Nat.reduceLeDiff, Nat.reduceAdd, Nat.reduceSub, Nat.reduceMul, Nat.reducePow, Nat.reduceDiv, Nat.reduceMod, Nat.reduceBEq, Nat.reduceBNe, Int.reduceLT, Int.reduceLE, Int.reduceToNat, Int.reduceAdd, Int.reduceSub, Int.reduceMul, Int.reduceNeg, Int.reducePow, Int.reduceEq, Int.reduceNe, Int.reduceDiv, Int.reduceMod, Int.reduceTDiv, Int.reduceTMod, UInt8.reduceToNat, UInt8.reduceOfNat]
      try rfl
    rintro i ⟨hi, hdl⟩
    unfold Try.c19b0
    by_cases hx2 : i < t.ds.length
    · have hgd : (t.ds.map AV.str)[i]? = some (.str t.ds[i]!) := map_get hx2
      have hm := get_mem hx2
      have b6 := b4 _ hm
      by_cases h4 : 300 < t.ds[i]!.length
      · rw [hbad (fun h => by have := h.2.2.2.1 _ hm; omega)]
        generalize t.ds[i]! = d at *
        simp (disch := (first | omega | (simp only [List.length_set, List.length_append, List.length_cons, List.length_nil, List.length_take, List.length_drop, List.length_map, List.length_replicate]; omega))) only [↓pvd, pv0, pv1, pv2, pv3, pv4, pv5, pv6, pv7, pvc0, pvc1, pvc2, buildC, evP, evR, evE, Pv.get, Pv.put, putO, bin2, int2, binB2, un1, cells, boundO, AV.flat, bv, rowOne, pvf, rvs_1, rvs_2, rvL, rvX, liveB, setParts, szOk, notStr, lim, dedup, place, ent, Pv.new, Pv.newVar, Pv.newVec, setCells, AV.ones, AV.one, resX, entry, layL, layC, layA, lay, List.map, List.foldl, List.replicate, List.length_replicate, ↓reduceIte, reduceCtorEq, Nat.reduceEqDiff, Nat.reduceLT, Nat.reduceLeDiff, Nat.reduceAdd, Nat.reduceSub, Nat.reduceMul, Nat.reducePow, Nat.reduceDiv, Nat.reduceMod, Nat.reduceBEq, Nat.reduceBNe, Int.reduceLT, Int.reduceLE, Int.reduceToNat, Int.reduceAdd, Int.reduceSub, Int.reduceMul, Int.reduceNeg, Int.reducePow, Int.reduceEq, Int.reduceNe, Int.reduceDiv, Int.reduceMod, Int.reduceTDiv, Int.reduceTMod, UInt8.reduceToNat, UInt8.reduceOfNat, hgi, hgd, tnR]
        (refine Ends_rq [] ?_; simp (disch := (first | omega | (simp only [List.length_set, List.length_append, List.length_cons, List.length_nil, List.length_take, List.length_drop, List.length_map, List.length_replicate]; omega))) only [↓pvd, pv0, pv1, pv2, pv3, pv4, pv5, pv6, pv7, pvc0, pvc1, pvc2, buildC, evP, evR, evE, Pv.get, Pv.put, putO, bin2, int2, binB2, un1, cells, boundO, AV.flat, bv, rowOne, pvf, rvs_1, rvs_2, rvL, rvX, liveB, setParts, szOk, notStr, lim, dedup, place, ent, Pv.new, Pv.newVar, Pv.newVec, setCells, AV.ones, AV.one, resX, entry, layL, layC, layA, lay, List.map, List.foldl, List.replicate, List.length_replicate, ↓reduceIte, reduceCtorEq, Nat.reduceEqDiff, Nat.reduceLT, Nat.reduceLeDiff, Nat.reduceAdd, Nat.reduceSub, Nat.reduceMul, Nat.reducePow, Nat.reduceDiv, Nat.reduceMod, Nat.reduceBEq, Nat.reduceBNe, Int.reduceLT, Int.reduceLE, Int.reduceToNat, Int.reduceAdd, Int.reduceSub, Int.reduceMul, Int.reduceNeg, Int.reducePow, Int.reduceEq, Int.reduceNe, Int.reduceDiv, Int.reduceMod, Int.reduceTDiv, Int.reduceTMod, UInt8.reduceToNat, UInt8.reduceOfNat]; exact ⟨_, rfl, rfl, rfl⟩)
      · have hdl2 : ∀ j, j < i + 1 → t.ds[j]!.length ≤ 300 := fun j hj => by
          by_cases e : j = i
          · rw [e]; omega
          · exact hdl j (by omega)
        generalize t.ds[i]! = d at *
        simp (disch := (first | omega | (simp only [List.length_set, List.length_append, List.length_cons, List.length_nil, List.length_take, List.length_drop, List.length_map, List.length_replicate]; omega))) only [↓pvd, pv0, pv1, pv2, pv3, pv4, pv5, pv6, pv7, pvc0, pvc1, pvc2, buildC, evP, evR, evE, Pv.get, Pv.put, putO, bin2, int2, binB2, un1, cells, boundO, AV.flat, bv, rowOne, pvf, rvs_1, rvs_2, rvL, rvX, liveB, setParts, szOk, notStr, lim, dedup, place, ent, Pv.new, Pv.newVar, Pv.newVec, setCells, AV.ones, AV.one, resX, entry, layL, layC, layA, lay, List.map, List.foldl, List.replicate, List.length_replicate, ↓reduceIte, reduceCtorEq, Nat.reduceEqDiff, Nat.reduceLT, Nat.reduceLeDiff, Nat.reduceAdd, Nat.reduceSub, Nat.reduceMul, Nat.reducePow, Nat.reduceDiv, Nat.reduceMod, Nat.reduceBEq, Nat.reduceBNe, Int.reduceLT, Int.reduceLE, Int.reduceToNat, Int.reduceAdd, Int.reduceSub, Int.reduceMul, Int.reduceNeg, Int.reducePow, Int.reduceEq, Int.reduceNe, Int.reduceDiv, Int.reduceMod, Int.reduceTDiv, Int.reduceTMod, UInt8.reduceToNat, UInt8.reduceOfNat, hgi, hgd, tnR]
        exact ⟨i + 1, rfl, ⟨by omega, hdl2⟩, by omega⟩
    obtain rfl : i = t.ds.length := by omega
    simp (disch := (first | omega | (simp only [List.length_set, List.length_append, List.length_cons, List.length_nil, List.length_take, List.length_drop, List.length_map, List.length_replicate]; omega))) only [↓pvd, pv0, pv1, pv2, pv3, pv4, pv5, pv6, pv7, pvc0, pvc1, pvc2, buildC, evP, evR, evE, Pv.get, Pv.put, putO, bin2, int2, binB2, un1, cells, boundO, AV.flat, bv, rowOne, pvf, rvs_1, rvs_2, rvL, rvX, liveB, setParts, szOk, notStr, lim, dedup, place, ent, Pv.new, Pv.newVar, Pv.newVec, setCells, AV.ones, AV.one, resX, entry, layL, layC, layA, lay, List.map, List.foldl, List.replicate, List.length_replicate, ↓reduceIte, reduceCtorEq, Nat.reduceEqDiff, Nat.reduceLT, Nat.reduceLeDiff, Nat.reduceAdd, Nat.reduceSub, Nat.reduceMul, Nat.reducePow, Nat.reduceDiv, Nat.reduceMod, Nat.reduceBEq, Nat.reduceBNe, Int.reduceLT, Int.reduceLE, Int.reduceToNat, Int.reduceAdd, Int.reduceSub, Int.reduceMul, Int.reduceNeg, Int.reducePow, Int.reduceEq, Int.reduceNe, Int.reduceDiv, Int.reduceMod, Int.reduceTDiv, Int.reduceTMod, UInt8.reduceToNat, UInt8.reduceOfNat, hgi, tnR]
    refine aw_loop (fun i : Nat => ⟨[(0, .sl 4 (l.map tnR) f), (3, .int .i64 k), (5, .int .i64 i)], []⟩) (fun i => i ≤ t.ps.length ∧ ∀ j, j < i → t.ps[j]!.length ≤ 300) (fun i => t.ps.length - i) 0 ?_ ⟨by omega, fun j hj => by omega⟩ ?_
    · simp (disch := (first | omega | (simp only [List.length_set, List.length_append, List.length_cons, List.length_nil, List.length_take, List.length_drop, List.length_map, List.length_replicate] at *; omega))) only [↓pvd, pv0, pv1, pv2, pv3, pv4, pv5, pv6, pv7, pvc0, pvc1, pvc2, buildC, evP, evR, evE, Pv.get, Pv.put, putO, bin2, int2, binB2, un1, cells, boundO, AV.flat, bv, rowOne, pvf, rvs_1, rvs_2, rvL, rvX, liveB, setParts, szOk, notStr, lim, dedup, place, ent, Pv.new, Pv.newVar, Pv.newVec, setCells, AV.ones, AV.one, resX, entry, layL, layC, layA, lay, List.map, List.foldl, List.replicate, List.length_replicate, ↓reduceIte, reduceCtorEq, Nat.reduceEqDiff, Nat.reduceLT, Nat.reduceLeDiff, Nat.reduceAdd, Nat.reduceSub, Nat.reduceMul, Nat.reducePow, Nat.reduceDiv, Nat.reduceMod, Nat.reduceBEq, Nat.reduceBNe, Int.reduceLT, Int.reduceLE, Int.reduceToNat, Int.reduceAdd, Int.reduceSub, Int.reduceMul, Int.reduceNeg, Int.reducePow, Int.reduceEq, Int.reduceNe, Int.reduceDiv, Int.reduceMod, Int.reduceTDiv, Int.reduceTMod, UInt8.reduceToNat, UInt8.reduceOfNat]
      try rfl
    rintro i ⟨hi2, hpl⟩
    unfold Try.c19b1
    by_cases hx2 : i < t.ps.length
    · have hgd : (t.ps.map AV.str)[i]? = some (.str t.ps[i]!) := map_get hx2
      have hm := get_mem hx2
      have b6 := b5 _ hm
      by_cases h4 : 300 < t.ps[i]!.length
      · rw [hbad (fun h => by have := h.2.2.2.2 _ hm; omega)]
        generalize t.ps[i]! = d at *
        simp (disch := (first | omega | (simp only [List.length_set, List.length_append, List.length_cons, List.length_nil, List.length_take, List.length_drop, List.length_map, List.length_replicate]; omega))) only [↓pvd, pv0, pv1, pv2, pv3, pv4, pv5, pv6, pv7, pvc0, pvc1, pvc2, buildC, evP, evR, evE, Pv.get, Pv.put, putO, bin2, int2, binB2, un1, cells, boundO, AV.flat, bv, rowOne, pvf, rvs_1, rvs_2, rvL, rvX, liveB, setParts, szOk, notStr, lim, dedup, place, ent, Pv.new, Pv.newVar, Pv.newVec, setCells, AV.ones, AV.one, resX, entry, layL, layC, layA, lay, List.map, List.foldl, List.replicate, List.length_replicate, ↓reduceIte, reduceCtorEq, Nat.reduceEqDiff, Nat.reduceLT, Nat.reduceLeDiff, Nat.reduceAdd, Nat.reduceSub, Nat.reduceMul, Nat.reducePow, Nat.reduceDiv, Nat.reduceMod, Nat.reduceBEq, Nat.reduceBNe, Int.reduceLT, Int.reduceLE, Int.reduceToNat, Int.reduceAdd, Int.reduceSub, Int.reduceMul, Int.reduceNeg, Int.reducePow, Int.reduceEq, Int.reduceNe, Int.reduceDiv, Int.reduceMod, Int.reduceTDiv, Int.reduceTMod, UInt8.reduceToNat, UInt8.reduceOfNat, hgi, hgd, tnR]
        (refine Ends_rq [] ?_; simp (disch := (first | omega | (simp only [List.length_set, List.length_append, List.length_cons, List.length_nil, List.length_take, List.length_drop, List.length_map, List.length_replicate]; omega))) only [↓pvd, pv0, pv1, pv2, pv3, pv4, pv5, pv6, pv7, pvc0, pvc1, pvc2, buildC, evP, evR, evE, Pv.get, Pv.put, putO, bin2, int2, binB2, un1, cells, boundO, AV.flat, bv, rowOne, pvf, rvs_1, rvs_2, rvL, rvX, liveB, setParts, szOk, notStr, lim, dedup, place, ent, Pv.new, Pv.newVar, Pv.newVec, setCells, AV.ones, AV.one, resX, entry, layL, layC, layA, lay, List.map, List.foldl, List.replicate, List.length_replicate, ↓reduceIte, reduceCtorEq, Nat.reduceEqDiff, Nat.reduceLT, Nat.reduceLeDiff, Nat.reduceAdd, Nat.reduceSub, Nat.reduceMul, Nat.reducePow, Nat.reduceDiv, Nat.reduceMod, Nat.reduceBEq, Nat.reduceBNe, Int.reduceLT, Int.reduceLE, Int.reduceToNat, Int.reduceAdd, Int.reduceSub, Int.reduceMul, Int.reduceNeg, Int.reducePow, Int.reduceEq, Int.reduceNe, Int.reduceDiv, Int.reduceMod, Int.reduceTDiv, Int.reduceTMod, UInt8.reduceToNat, UInt8.reduceOfNat]; exact ⟨_, rfl, rfl, rfl⟩)
      · have hpl2 : ∀ j, j < i + 1 → t.ps[j]!.length ≤ 300 := fun j hj => by
          by_cases e : j = i
          · rw [e]; omega
          · exact hpl j (by omega)
        generalize t.ps[i]! = d at *
        simp (disch := (first | omega | (simp only [List.length_set, List.length_append, List.length_cons, List.length_nil, List.length_take, List.length_drop, List.length_map, List.length_replicate]; omega))) only [↓pvd, pv0, pv1, pv2, pv3, pv4, pv5, pv6, pv7, pvc0, pvc1, pvc2, buildC, evP, evR, evE, Pv.get, Pv.put, putO, bin2, int2, binB2, un1, cells, boundO, AV.flat, bv, rowOne, pvf, rvs_1, rvs_2, rvL, rvX, liveB, setParts, szOk, notStr, lim, dedup, place, ent, Pv.new, Pv.newVar, Pv.newVec, setCells, AV.ones, AV.one, resX, entry, layL, layC, layA, lay, List.map, List.foldl, List.replicate, List.length_replicate, ↓reduceIte, reduceCtorEq, Nat.reduceEqDiff, Nat.reduceLT, Nat.reduceLeDiff, Nat.reduceAdd, Nat.reduceSub, Nat.reduceMul, Nat.reducePow, Nat.reduceDiv, Nat.reduceMod, Nat.reduceBEq, Nat.reduceBNe, Int.reduceLT, Int.reduceLE, Int.reduceToNat, Int.reduceAdd, Int.reduceSub, Int.reduceMul, Int.reduceNeg, Int.reducePow, Int.reduceEq, Int.reduceNe, Int.reduceDiv, Int.reduceMod, Int.reduceTDiv, Int.reduceTMod, UInt8.reduceToNat, UInt8.reduceOfNat, hgi, hgd, tnR]
        exact ⟨i + 1, rfl, ⟨by omega, hpl2⟩, by omega⟩
    obtain rfl : i = t.ps.length := by omega
    have hgt : grT t := by
      refine ⟨by omega, by omega, by omega, fun d hd => ?_, fun d hd => ?_⟩
      · obtain ⟨j, hj, rfl⟩ := List.mem_iff_getElem.1 hd
        have := hdl j hj
        rwa [getElem!_pos t.ds j hj] at this
      · obtain ⟨j, hj, rfl⟩ := List.mem_iff_getElem.1 hd
        have := hpl j hj
        rwa [getElem!_pos t.ps j hj] at this
    simp (disch := (first | omega | (simp only [List.length_set, List.length_append, List.length_cons, List.length_nil, List.length_take, List.length_drop, List.length_map, List.length_replicate]; omega))) only [↓pvd, pv0, pv1, pv2, pv3, pv4, pv5, pv6, pv7, pvc0, pvc1, pvc2, buildC, evP, evR, evE, Pv.get, Pv.put, putO, bin2, int2, binB2, un1, cells, boundO, AV.flat, bv, rowOne, pvf, rvs_1, rvs_2, rvL, rvX, liveB, setParts, szOk, notStr, lim, dedup, place, ent, Pv.new, Pv.newVar, Pv.newVec, setCells, AV.ones, AV.one, resX, entry, layL, layC, layA, lay, List.map, List.foldl, List.replicate, List.length_replicate, ↓reduceIte, reduceCtorEq, Nat.reduceEqDiff, Nat.reduceLT, Nat.reduceLeDiff, Nat.reduceAdd, Nat.reduceSub, Nat.reduceMul, Nat.reducePow, Nat.reduceDiv, Nat.reduceMod, Nat.reduceBEq, Nat.reduceBNe, Int.reduceLT, Int.reduceLE, Int.reduceToNat, Int.reduceAdd, Int.reduceSub, Int.reduceMul, Int.reduceNeg, Int.reducePow, Int.reduceEq, Int.reduceNe, Int.reduceDiv, Int.reduceMod, Int.reduceTDiv, Int.reduceTMod, UInt8.reduceToNat, UInt8.reduceOfNat, hgi, tnR]
    exact ⟨k + 1, rfl, ⟨by omega, hall2 hgt⟩, by omega⟩
  · obtain rfl : k = l.length := by omega
    have hgl : grL l := ⟨by omega, fun t ht => by
      obtain ⟨j, hj, rfl⟩ := List.mem_iff_getElem.1 ht
      have := hall j hj
      rwa [getElem!_pos l j hj] at this⟩
    rw [decide_eq_true hgl] at hv
    subst hv
    simp (disch := (first | omega | (simp only [List.length_set, List.length_append, List.length_cons, List.length_nil, List.length_take, List.length_drop, List.length_map, List.length_replicate] at *; omega))) only [↓pvd, pv0, pv1, pv2, pv3, pv4, pv5, pv6, pv7, pvc0, pvc1, pvc2, buildC, evP, evR, evE, Pv.get, Pv.put, putO, bin2, int2, binB2, un1, cells, boundO, AV.flat, bv, rowOne, pvf, rvs_1, rvs_2, rvL, rvX, liveB, setParts, szOk, notStr, lim, dedup, place, ent, Pv.new, Pv.newVar, Pv.newVec, setCells, AV.ones, AV.one, resX, entry, layL, layC, layA, lay, List.map, List.foldl, List.replicate, List.length_replicate, ↓reduceIte, reduceCtorEq, Nat.reduceEqDiff, Nat.reduceLT, Nat.reduceLeDiff, Nat.reduceAdd, Nat.reduceSub, Nat.reduceMul, Nat.reducePow, Nat.reduceDiv, Nat.reduceMod, Nat.reduceBEq, Nat.reduceBNe, Int.reduceLT, Int.reduceLE, Int.reduceToNat, Int.reduceAdd, Int.reduceSub, Int.reduceMul, Int.reduceNeg, Int.reducePow, Int.reduceEq, Int.reduceNe, Int.reduceDiv, Int.reduceMod, Int.reduceTDiv, Int.reduceTMod, UInt8.reduceToNat, UInt8.reduceOfNat]
    (refine Ends_rq [] ?_; simp (disch := (first | omega | (simp only [List.length_set, List.length_append, List.length_cons, List.length_nil, List.length_take, List.length_drop, List.length_map, List.length_replicate]; omega))) only [↓pvd, pv0, pv1, pv2, pv3, pv4, pv5, pv6, pv7, pvc0, pvc1, pvc2, buildC, evP, evR, evE, Pv.get, Pv.put, putO, bin2, int2, binB2, un1, cells, boundO, AV.flat, bv, rowOne, pvf, rvs_1, rvs_2, rvL, rvX, liveB, setParts, szOk, notStr, lim, dedup, place, ent, Pv.new, Pv.newVar, Pv.newVec, setCells, AV.ones, AV.one, resX, entry, layL, layC, layA, lay, List.map, List.foldl, List.replicate, List.length_replicate, ↓reduceIte, reduceCtorEq, Nat.reduceEqDiff, Nat.reduceLT, Nat.reduceLeDiff, Nat.reduceAdd, Nat.reduceSub, Nat.reduceMul, Nat.reducePow, Nat.reduceDiv, Nat.reduceMod, Nat.reduceBEq, Nat.reduceBNe, Int.reduceLT, Int.reduceLE, Int.reduceToNat, Int.reduceAdd, Int.reduceSub, Int.reduceMul, Int.reduceNeg, Int.reducePow, Int.reduceEq, Int.reduceNe, Int.reduceDiv, Int.reduceMod, Int.reduceTDiv, Int.reduceTMod, UInt8.reduceToNat, UInt8.reduceOfNat]; exact ⟨_, rfl, rfl, rfl⟩)
end Go.Proofs

set_option linter.unusedSimpArgs false
set_option linter.unusedVariables false
set_option maxHeartbeats 2000000
set_option maxRecDepth 20000
namespace Go.Proofs
open Go.Pv
theorem dat1_strs {d : Nat} {xs : List AV} (h : Dat Try.prog (d + 4) 45 xs) : ∃ l : List (List UInt8), xs = [.sl 1 (l.map .str) false] ∧ l.length ≤ maxLen ∧ ∀ r ∈ l, r.length ≤ maxLen := by
  obtain ⟨es, rfl, h2, h3⟩ := dat1_slice Try.underlying45 h
  obtain ⟨l, rfl, hk⟩ := map_ofP (f := AV.str) (p := fun r => r.length ≤ maxLen) (es := es) fun x hx => dat_str Try.underlying9 (h3 x hx)
  exact ⟨l, by rw [show Try.prog.cellsOf 9 = 1 by kernel_rfl], by simpa using h2, hk⟩
theorem dat_tn {d : Nat} {y : AV} (h : DatV Try.prog (d + 5) 47 y) : ∃ t : Tn, y = tnR t ∧ bdT t := by
  obtain ⟨cs, rfl, hl, hf⟩ := dat_struct Try.underlying47 h
  rw [show Try.prog.cellsOf 47 = 4 by kernel_rfl] at hl
  match cs, hl with
  | [x0, x1, x2, x3], _ =>
    simp only [List.mem_cons, List.not_mem_nil, or_false, forall_eq_or_imp, forall_eq] at hf
    obtain ⟨f0, f1, f2, f3⟩ := hf
    rw [show Try.prog.cellsOf 3 = 1 by kernel_rfl] at f0
    rw [show Try.prog.cellsOf 9 = 1 by kernel_rfl] at f1
    rw [show Try.prog.cellsOf 45 = 1 by kernel_rfl] at f2 f3
    obtain ⟨m0, e0, w0⟩ := dat1_int Try.underlying3 f0
    obtain ⟨s, e1, w1⟩ := dat1_str Try.underlying9 f1
    obtain ⟨l1, e2, w2, w3⟩ := dat1_strs f2
    obtain ⟨l2, e3, w4, w5⟩ := dat1_strs f3
    simp at e0 e1 e2 e3
    subst e0 e1 e2 e3
    exact ⟨⟨m0, s, l1, l2⟩, rfl, w1, w2, w4, w3, w5⟩
theorem dat_tns {d : Nat} {y : AV} (h : DatV Try.prog (d + 6) 31 y) : ∃ l : List Tn, y = .sl 4 (l.map tnR) false ∧ l.length ≤ maxLen ∧ ∀ t ∈ l, bdT t := by
  obtain ⟨es, rfl, h2, h3⟩ := dat_slice Try.underlying31 h
  obtain ⟨l, rfl, hk⟩ := map_ofP (f := tnR) (p := bdT) (es := es) fun x hx => dat_tn (h3 x hx)
  exact ⟨l, by rw [show Try.prog.cellsOf 47 = 4 by kernel_rfl], by simpa using h2, hk⟩
end Go.Proofs

set_option linter.unusedSimpArgs false
set_option linter.unusedVariables false
set_option maxHeartbeats 2000000
set_option maxRecDepth 20000
namespace Go.Proofs
open Go.Pv
theorem wsF_end : ∀ (r : List (List UInt8)) (x : List UInt8) (out : List (List UInt8)), x ≠ [] → (∀ y ∈ r, okW y = true) → wsF x out (Lib.joinTail [32] r) = out ++ x :: r
  | [], x, out, hx, _ => by
    rw [show Lib.joinTail [32] ([] : List (List UInt8)) = [] from rfl, wsF]
    simp [finF, hx]
  | y :: r, x, out, hx, h => by
    have hy := okW_all (h y (by simp))
    rw [show Lib.joinTail [32] (y :: r) = 32 :: (y ++ Lib.joinTail [32] r) by simp [Lib.joinTail], wsF, if_neg (by decide), if_pos (by decide), wsF_word y [] _ _ hy.1, List.nil_append, wsF_end r y _ hy.2.1 (fun z hz => h z (by simp [hz]))]
    simp [finF, hx]
theorem swV_join (ws : List (List UInt8)) (h : ∀ y ∈ ws, okW y = true) : swV (Lib.join ws [32]) = ws := by
  rw [swV_ws]
  cases ws with
  | nil => rw [Lib.join_nil]; rfl
  | cons x r =>
    have hx := okW_all (h x (by simp))
    rw [Lib.join_cons, wsF_word x [] _ _ hx.1, List.nil_append, wsF_end r x _ hx.2.1 (fun z hz => h z (by simp [hz]))]
    rfl
theorem nm_okB {d : List UInt8} (h : nmP d) : d.all okB = true := by
  rw [List.all_eq_true]
  intro c hc
  obtain ⟨j, hj, rfl⟩ := List.mem_iff_getElem.1 hc
  have := h.2 j hj
  unfold nmB at this
  rw [getElem!_pos d j hj] at this
  unfold okB
  rw [decide_eq_true_eq]
  omega
theorem nm_okW {d : List UInt8} (h : nmP d) : okW d = true := by
  unfold okW
  have h1 := h.1
  rw [nm_okB h, decide_eq_true ⟨List.length_pos_iff.1 h1.1, by omega⟩]; rfl
theorem prt_okW {d p : List UInt8} (hd : nmP d) (hp : nmP p) : okW (prtW d p) = true := by
  have h1 := hd.1
  have h2 := hp.1
  unfold okW prtW
  rw [List.all_append, List.all_append, nm_okB hd, nm_okB hp, decide_eq_true ⟨by simp, by simp; omega⟩]
  rfl
theorem wds_okW (t : Tn) (ho : okT t) : ∀ w ∈ wdsT t, okW w = true := by
  intro w hw
  obtain ⟨h1, h2, h3, h4, h5, h6⟩ := ho
  unfold wdsT wdT at hw
  rcases List.mem_append.1 hw with hw | hw
  · simp only [List.mem_cons, List.not_mem_nil, or_false] at hw
    rcases hw with rfl | rfl
    · decide
    · exact nm_okW h1
  · obtain ⟨i, hi, rfl⟩ := List.mem_map.1 hw
    have hi := List.mem_range.1 hi
    exact prt_okW (h5 _ (get_mem (by omega))) (h6 _ (get_mem (by omega)))
theorem tail_no10 : ∀ (r : List (List UInt8)), (∀ y ∈ r, okW y = true) → no10 (Lib.joinTail [32] r)
  | [], _ => by intro c hc; simp [Lib.joinTail] at hc
  | y :: r, h => by
    have ih := tail_no10 r (fun z hz => h z (by simp [hz]))
    have hy := okW_all (h y (by simp))
    rw [show Lib.joinTail [32] (y :: r) = 32 :: (y ++ Lib.joinTail [32] r) by simp [Lib.joinTail]]
    intro c hc
    rcases List.mem_cons.1 hc with rfl | hc
    · decide
    · rcases List.mem_append.1 hc with hc | hc
      · have := List.all_eq_true.1 hy.1 c hc
        rintro rfl
        exact absurd this (by decide)
      · exact ih c hc
theorem join_no10 (ws : List (List UInt8)) (h : ∀ y ∈ ws, okW y = true) : no10 (Lib.join ws [32]) := by
  cases ws with
  | nil => rw [Lib.join_nil]; intro c hc; simp at hc
  | cons x r =>
    have hx := okW_all (h x (by simp))
    rw [Lib.join_cons]
    intro c hc
    rcases List.mem_append.1 hc with hc | hc
    · have := List.all_eq_true.1 hx.1 c hc
      rintro rfl
      exact absurd this (by decide)
    · exact tail_no10 r (fun z hz => h z (by simp [hz])) c hc
def reT (l : List Tn) (i : Nat) : Tn := { l[i]! with row := (i : Int) + 1 }
/-- The same tenants, of the rows 1, 2 and so on. -/
def renum (l : List Tn) : List Tn := (List.range l.length).map (reT l)
theorem renum_len (l : List Tn) : (renum l).length = l.length := by simp [renum]
theorem renum_get (l : List Tn) (i : Nat) (hi : i < l.length) : (renum l)[i]! = reT l i := by
  rw [getElem!_pos (renum l) i (by rw [renum_len]; exact hi)]; simp [renum]
theorem renum_key (l : List Tn) : (renum l).map tnK = l.map tnK := by
  unfold renum
  rw [List.map_map]
  exact map_range_get l tnK
theorem reT_ok (l : List Tn) (ho : ∀ t ∈ l, okT t) (i : Nat) (hi : i < l.length) : okT (reT l i) := by
  have h := ho l[i]! (get_mem hi)
  unfold okT at h ⊢
  exact h
theorem rdT_join (l : List Tn) (ho : ∀ t ∈ l, okT t) (hl : l.length ≤ 10) : ∀ k, k ≤ l.length → rdT (l.map fun t => Lib.join (wdsT t) [32]) k = .inr ((List.range k).map (reT l)) := by
  intro k
  induction k with
  | zero => intro _; rfl
  | succ k ih =>
    intro hk
    have hx : k < l.length := by omega
    rw [rdT_s _ k _ (ih (by omega))]
    have hg : (l.map fun t => Lib.join (wdsT t) [32])[k]! = Lib.join (wdsT l[k]!) [32] := by
      rw [getElem!_pos _ k (by simpa using hx), List.getElem_map, getElem!_pos l k hx]
    have hok := reT_ok l ho k hx
    have hw := wds_okW l[k]! (ho _ (get_mem hx))
    have hs : swV (Lib.join (wdsT l[k]!) [32]) = wdsT l[k]! := swV_join _ hw
    have hr : rowV (wdsT l[k]!) ((k : Int) + 1) = .inr (reT l k) := rowV_words (reT l k) hok
    have hst : stepT k (Lib.join (wdsT l[k]!) [32]) ((List.range k).map (reT l)) = .inr ((List.range k).map (reT l) ++ [reT l k]) := by
      unfold stepT
      rw [hs, if_pos (List.all_eq_true.2 hw), if_neg (by unfold wdsT wdT; simp), hr]
      dsimp only
      rw [if_neg (by simp; omega)]
    rw [hg, hst, List.range_succ, List.map_append]
    rfl
theorem readV_text (l : List Tn) (ho : ∀ t ∈ l, okT t) (hl : l.length ≤ 10) (hL : (txT l).length ≤ 20000) : readV (txT l) = .inr (renum l) := by
  have e : txT l = ends (l.map fun t => Lib.join (wdsT t) [32]) ++ [] := by
    unfold txT ends rwT
    rw [List.append_nil, List.flatMap_map]
  have hs : spl (txT l) = l.map fun t => Lib.join (wdsT t) [32] := by
    rw [e, spl_ends _ _ (fun r hr => by
      obtain ⟨t, ht, rfl⟩ := List.mem_map.1 hr
      exact join_no10 _ (wds_okW t (ho t ht)))]
    simp [spl]
  unfold readV
  rw [hs, if_neg (by simp; omega), List.length_map, rdT_join l ho hl _ (Nat.le_refl _)]
  rfl
theorem okT_gr {t : Tn} (h : okT t) : grT t := by
  obtain ⟨h1, h2, h3, h4, h5, h6⟩ := h
  refine ⟨by have := h1.1; omega, by omega, by omega, fun d hd => by have := (h5 d hd).1; omega, fun d hd => by have := (h6 d hd).1; omega⟩
theorem txT_small (l : List Tn) (ho : ∀ t ∈ l, okT t) : ∀ k, k ≤ l.length → (txT (l.take k)).length ≤ 800 * k := by
  intro k
  induction k with
  | zero => intro _; simp [txT]
  | succ k ih =>
    intro hk
    have h1 := ih (by omega)
    have hok := ho _ (get_mem (show k < l.length by omega))
    have h2 := join_le (wdsT l[k]!)
    have h3 := lens_le (wdsT l[k]!) (fun y hy => (okW_all (wds_okW _ hok y hy)).2.2)
    have h4 : (wdsT l[k]!).length ≤ 18 := by unfold wdsT; rw [wdT_len]; have := hok.2.2.2.1; omega
    rw [txT_s l k (by omega), List.length_append, List.length_append]
    simp only [List.length_cons, List.length_nil]
    omega
theorem textV_ok {l : List Tn} (ho : ∀ t ∈ l, okT t) (hl : l.length ≤ 10) : textV l = .inr (txT l) ∧ (txT l).length ≤ 20000 := by
  have h1 := txT_small l ho l.length (Nat.le_refl _)
  rw [List.take_length] at h1
  refine ⟨?_, by omega⟩
  unfold textV
  rw [if_neg (fun h => h ho), if_neg (by omega)]
theorem textV_inr {l : List Tn} {X : List UInt8} (h : textV l = .inr X) : (∀ t ∈ l, okT t) ∧ l.length ≤ 10 ∧ (txT l).length ≤ 20000 ∧ X = txT l := by
  unfold textV at h
  split at h
  · cases h
  rename_i h1
  split at h
  · cases h
  rename_i h2
  simp only [Sum.inr.injEq] at h
  exact ⟨Classical.not_not.1 h1, by omega, by omega, h.symm⟩
theorem textV_inl {l : List Tn} {e : Int} (h : textV l = .inl e) : e = 2 ∨ e = 3 := by
  unfold textV at h
  split at h
  · simp only [Sum.inl.injEq] at h; omega
  split at h
  · simp only [Sum.inl.injEq] at h; omega
  · cases h
theorem rdT_inl (rows : List (List UInt8)) : ∀ (k : Nat) (r e : Int), rdT rows k = .inl (r, e) → 0 < r ∧ r ≤ k ∧ (e = 3 ∨ e = 20 ∨ e = 22)
  | 0, r, e, h => by cases h
  | k + 1, r, e, h => by
    simp only [rdT] at h
    cases hr : rdT rows k with
    | inl x =>
      obtain ⟨r', e'⟩ := x
      have := rdT_inl rows k r' e' hr
      rw [hr] at h
      simp only [Sum.inl.injEq, Prod.mk.injEq] at h
      omega
    | inr acc =>
      rw [hr] at h
      dsimp only at h
      cases hs : stepT k rows[k]! acc with
      | inl e2 =>
        rw [hs] at h
        simp only [Sum.inl.injEq, Prod.mk.injEq] at h
        have he : e2 = 3 ∨ e2 = 20 ∨ e2 = 22 := by
          unfold stepT at hs
          split at hs
          · split at hs
            · cases hs
            · split at hs
              · rename_i e3 hv
                have := rowV_err hv
                simp only [Sum.inl.injEq] at hs; omega
              · split at hs
                · simp only [Sum.inl.injEq] at hs; omega
                · cases hs
          · simp only [Sum.inl.injEq] at hs; omega
        omega
      | inr a => rw [hs] at h; cases h
theorem readV_inl {b : List UInt8} {r e : Int} (hb : b.length ≤ 100000) (h : readV b = .inl (r, e)) : (e = 3 ∨ 0 < r) ∧ r ≤ 100000 ∧ 0 ≤ r ∧ (e = 3 ∨ e = 20 ∨ e = 22) := by
  unfold readV at h
  split at h
  · simp only [Sum.inl.injEq, Prod.mk.injEq] at h; omega
  · have h1 := rdT_inl _ _ _ _ h
    have h2 := spl_le b
    omega
end Go.Proofs
