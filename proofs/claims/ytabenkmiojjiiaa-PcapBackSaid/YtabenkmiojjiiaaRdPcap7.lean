/- A part of the proofs of this seat: RdPcap7. -/
import Derived.Test.YtabenkmiojjiiaaRdPcap6
set_option linter.unusedSimpArgs false
set_option linter.unusedVariables false
set_option maxHeartbeats 2000000
set_option maxRecDepth 20000
namespace Go.Proofs
open Go.Pv
theorem setmr {α : Type} (f : Nat → α) (k i : Nat) (v : α) : ((List.range k).map f).set i v = (List.range k).map (fun j => if j = i then v else f j) := by
  apply List.ext_getElem
  · simp
  · intro j h1 h2
    simp only [List.getElem_set, List.getElem_map, List.getElem_range]
    by_cases h : i = j
    · rw [if_pos h, if_pos h.symm]
    · rw [if_neg h, if_neg (fun e => h e.symm)]
def rwL (n : Int) (k i j : Nat) : UInt8 := if j < i then u8i (n / 256 ^ j) else 0
def rwH (n : Int) (k i j : Nat) : UInt8 := if k - 1 - j < i then u8i (n / 256 ^ (k - 1 - j)) else 0
theorem rwL_set (n : Int) (k i : Nat) : ((List.range k).map (rwL n k i)).set i (u8i (n / 256 ^ i)) = (List.range k).map (rwL n k (i + 1)) := by
  rw [setmr]
  refine List.map_congr_left fun j hj => ?_
  unfold rwL
  by_cases h : j = i
  · rw [if_pos h, if_pos (by omega), h]
  · rw [if_neg h]
    by_cases h2 : j < i
    · rw [if_pos h2, if_pos (by omega)]
    · rw [if_neg h2, if_neg (by omega)]
theorem rwH_set (n : Int) (k i : Nat) (hi : i < k) : ((List.range k).map (rwH n k i)).set (k - 1 - i) (u8i (n / 256 ^ i)) = (List.range k).map (rwH n k (i + 1)) := by
  rw [setmr]
  refine List.map_congr_left fun j hj => ?_
  have hj := List.mem_range.1 hj
  unfold rwH
  by_cases h : j = k - 1 - i
  · rw [if_pos h, if_pos (by omega), h, show k - 1 - (k - 1 - i) = i by omega]
  · rw [if_neg h]
    by_cases h2 : k - 1 - j < i
    · rw [if_pos h2, if_pos (by omega)]
    · rw [if_neg h2, if_neg (by omega)]
theorem rwL_all (n : Int) (k : Nat) : (List.range k).map (rwL n k k) = leF n k := by
  unfold leF
  refine List.map_congr_left fun j hj => ?_
  have hj := List.mem_range.1 hj
  unfold rwL; rw [if_pos hj]
theorem rwH_all (n : Int) (k : Nat) : (List.range k).map (rwH n k k) = bgF n k := by
  unfold bgF beF
  refine List.map_congr_left fun j hj => ?_
  have hj := List.mem_range.1 hj
  unfold rwH; rw [if_pos (by omega)]
theorem rw_zero {f : Nat → UInt8} (h : ∀ j, f j = 0) (k : Nat) : bys ((List.range k).map f) = List.replicate k (.int .u8 0) := by
  apply List.ext_getElem
  · simp
  · intro j h1 h2
    simp [h, bv]
theorem emod_emod {a n : Int} : a % n % n = a % n := Int.emod_emod_of_dvd a (Int.dvd_refl n)
theorem pow_next (n : Int) (i : Nat) (h0 : 0 ≤ n) : n / 256 ^ i / 256 = n / 256 ^ (i + 1) := by
  rw [Int.pow_succ, Int.ediv_ediv_of_nonneg (Int.le_of_lt (Int.pow_pos (by omega)))]
theorem pow_rng (n : Int) (i : Nat) (h0 : 0 ≤ n) (h1 : n < 4294967296) : 0 ≤ n / 256 ^ i ∧ n / 256 ^ i < 4294967296 := by
  have hp : (0 : Int) < 256 ^ i := Int.pow_pos (by omega)
  refine ⟨Int.ediv_nonneg h0 (Int.le_of_lt hp), ?_⟩
  have := Int.ediv_le_self (256 ^ i) h0
  omega
theorem bytesL_run (n : Int) (k : Nat) (hk : k ≤ 4) (h0 : 0 ≤ n) (h1 : n < 4294967296) : Run Try.prog 67 [.int .i64 n, .int .i64 k, .bool true] (.own 1 5 (bys (leF n k))) := by
  refine Try.run67 (by simp) ?_
  unfold Try.c67
  rw [← rwL_all]
  obtain ⟨R, hR⟩ : ∃ R : Nat → List UInt8, ∀ i, R i = (List.range k).map (rwL n k i) := ⟨_, fun _ => rfl⟩
  obtain ⟨N, hN⟩ : ∃ N : Nat → Int, ∀ i, N i = n / 256 ^ i := ⟨_, fun _ => rfl⟩
  rw [← hR]
  have hz : bys (R 0) = List.replicate k (.int .u8 0) := by rw [hR]; exact rw_zero (fun j => by unfold rwL; rw [if_neg (by omega)]) k
  have hN0 : n = N 0 := by rw [hN]; simp
  have hRl : ∀ i, (R i).length = k := fun i => by rw [hR]; simp
  have hNr : ∀ i, 0 ≤ N i ∧ N i < 4294967296 := fun i => by rw [hN]; exact pow_rng n i h0 h1
  have hNs : ∀ i, N i / 256 = N (i + 1) := fun i => by rw [hN, hN]; exact pow_next n i h0
  have hRs : ∀ i, (R i).set i (u8i (N i)) = R (i + 1) := fun i => by rw [hR, hR, hN]; exact rwL_set n k i
  rw [hN0]
  have hr0 := hNr 0
  simp (disch := (first | omega | (simp only [List.length_set, List.length_append, List.length_cons, List.length_nil, List.length_take, List.length_drop, List.length_map, List.length_replicate]; omega))) only [↓pvd, pv0, pv1, pv2, pv3, pv4, pv5, pv6, pv7, pvc0, pvc1, pvc2, buildC, evP, evR, evE, Pv.get, Pv.put, putO, bin2, int2, binB2, un1, cells, boundO, AV.flat, bv, rowOne, pvf, rvs_1, rvs_2, rvL, rvX, liveB, setParts, szOk, notStr, lim, dedup, place, ent, Pv.new, Pv.newVar, Pv.newVec, setCells, AV.ones, AV.one, resX, entry, layL, layC, layA, lay, List.map, List.foldl, List.replicate, List.length_replicate, ↓reduceIte, reduceCtorEq, Nat.reduceEqDiff, Nat.reduceLT, Nat.reduceLeDiff, Nat.reduceAdd, Nat.reduceSub, Nat.reduceMul, Nat.reducePow, Nat.reduceDiv, Nat.reduceMod, Nat.reduceBEq, Nat.reduceBNe, Int.reduceLT, Int.reduceLE, Int.reduceToNat, Int.reduceAdd, Int.reduceSub, Int.reduceMul, Int.reduceNeg, Int.reducePow, Int.reduceEq, Int.reduceNe, Int.reduceDiv, Int.reduceMod, Int.reduceTDiv, Int.reduceTMod, UInt8.reduceToNat, UInt8.reduceOfNat, Int.toNat_natCast, ← hz]
  refine aw_loop (fun i : Nat => ⟨[(0, .int .i64 (N i)), (1, .int .i64 k), (2, .bool true), (7, .vec 0 1 0 k), (8, .int .i64 i)], [some ⟨5, bys (R i), true⟩]⟩) (fun i => i ≤ k) (fun i => k - i) 0 ?_ (by omega) ?_
  · simp (disch := (first | omega | (simp only [List.length_set, List.length_append, List.length_cons, List.length_nil, List.length_take, List.length_drop, List.length_map, List.length_replicate] at *; omega))) only [↓pvd, pv0, pv1, pv2, pv3, pv4, pv5, pv6, pv7, pvc0, pvc1, pvc2, buildC, evP, evR, evE, Pv.get, Pv.put, putO, bin2, int2, binB2, un1, cells, boundO, AV.flat, bv, rowOne, pvf, rvs_1, rvs_2, rvL, rvX, liveB, setParts, szOk, notStr, lim, dedup, place, ent, Pv.new, Pv.newVar, Pv.newVec, setCells, AV.ones, AV.one, resX, entry, layL, layC, layA, lay, List.map, List.foldl, List.replicate, List.length_replicate, ↓reduceIte, reduceCtorEq, Nat.reduceEqDiff, Nat.reduceLT, Nat.reduceLeDiff, Nat.reduceAdd, Nat.reduceSub, Nat.reduceMul, Nat.reducePow, Nat.reduceDiv, Nat.reduceMod, Nat.reduceBEq, Nat.reduceBNe, Int.reduceLT, Int.reduceLE, Int.reduceToNat, Int.reduceAdd, Int.reduceSub, Int.reduceMul, Int.reduceNeg, Int.reducePow, Int.reduceEq, Int.reduceNe, Int.reduceDiv, Int.reduceMod, Int.reduceTDiv, Int.reduceTMod, UInt8.reduceToNat, UInt8.reduceOfNat]
    try rfl
  intro i hi
  have hri := hNr i
  have hrn := hNr (i + 1)
  have hli := hRl i
  have hsi := hRs i
  have hni := hNs i
  unfold Try.c67b0
  by_cases hx : i < k
  · have hgi : ((R i).map bv)[i]? = some (bv (R i)[i]!) := map_get (by omega)
    simp (disch := (first | omega | (simp only [List.length_set, List.length_append, List.length_cons, List.length_nil, List.length_take, List.length_drop, List.length_map, List.length_replicate]; omega))) only [↓pvd, pv0, pv1, pv2, pv3, pv4, pv5, pv6, pv7, pvc0, pvc1, pvc2, buildC, evP, evR, evE, Pv.get, Pv.put, putO, bin2, int2, binB2, un1, cells, boundO, AV.flat, bv, rowOne, pvf, rvs_1, rvs_2, rvL, rvX, liveB, setParts, szOk, notStr, lim, dedup, place, ent, Pv.new, Pv.newVar, Pv.newVec, setCells, AV.ones, AV.one, resX, entry, layL, layC, layA, lay, List.map, List.foldl, List.replicate, List.length_replicate, ↓reduceIte, reduceCtorEq, Nat.reduceEqDiff, Nat.reduceLT, Nat.reduceLeDiff, Nat.reduceAdd, Nat.reduceSub, Nat.reduceMul, Nat.reducePow, Nat.reduceDiv, Nat.reduceMod, Nat.reduceBEq, Nat.reduceBNe, Int.reduceLT, Int.reduceLE, Int.reduceToNat, Int.reduceAdd, Int.reduceSub, Int.reduceMul, Int.reduceNeg, Int.reducePow, Int.reduceEq, Int.reduceNe, Int.reduceDiv, Int.reduceMod, Int.reduceTDiv, Int.reduceTMod, UInt8.reduceToNat, UInt8.reduceOfNat, hgi, emod_emod, hsi, hni, bv]
    exact ⟨i + 1, rfl, by omega, by omega⟩
  · obtain rfl : i = k := by omega
    simp (disch := (first | omega | (simp only [List.length_set, List.length_append, List.length_cons, List.length_nil, List.length_take, List.length_drop, List.length_map, List.length_replicate] at *; omega))) only [↓pvd, pv0, pv1, pv2, pv3, pv4, pv5, pv6, pv7, pvc0, pvc1, pvc2, buildC, evP, evR, evE, Pv.get, Pv.put, putO, bin2, int2, binB2, un1, cells, boundO, AV.flat, bv, rowOne, pvf, rvs_1, rvs_2, rvL, rvX, liveB, setParts, szOk, notStr, lim, dedup, place, ent, Pv.new, Pv.newVar, Pv.newVec, setCells, AV.ones, AV.one, resX, entry, layL, layC, layA, lay, List.map, List.foldl, List.replicate, List.length_replicate, ↓reduceIte, reduceCtorEq, Nat.reduceEqDiff, Nat.reduceLT, Nat.reduceLeDiff, Nat.reduceAdd, Nat.reduceSub, Nat.reduceMul, Nat.reducePow, Nat.reduceDiv, Nat.reduceMod, Nat.reduceBEq, Nat.reduceBNe, Int.reduceLT, Int.reduceLE, Int.reduceToNat, Int.reduceAdd, Int.reduceSub, Int.reduceMul, Int.reduceNeg, Int.reducePow, Int.reduceEq, Int.reduceNe, Int.reduceDiv, Int.reduceMod, Int.reduceTDiv, Int.reduceTMod, UInt8.reduceToNat, UInt8.reduceOfNat]
    (refine Ends_rq [[.own 1 5]] ?_; simp (disch := (first | omega | (simp only [List.length_set, List.length_append, List.length_cons, List.length_nil, List.length_take, List.length_drop, List.length_map, List.length_replicate]; omega))) only [↓pvd, pv0, pv1, pv2, pv3, pv4, pv5, pv6, pv7, pvc0, pvc1, pvc2, buildC, evP, evR, evE, Pv.get, Pv.put, putO, bin2, int2, binB2, un1, cells, boundO, AV.flat, bv, rowOne, pvf, rvs_1, rvs_2, rvL, rvX, liveB, setParts, szOk, notStr, lim, dedup, place, ent, Pv.new, Pv.newVar, Pv.newVec, setCells, AV.ones, AV.one, resX, entry, layL, layC, layA, lay, List.map, List.foldl, List.replicate, List.length_replicate, ↓reduceIte, reduceCtorEq, Nat.reduceEqDiff, Nat.reduceLT, Nat.reduceLeDiff, Nat.reduceAdd, Nat.reduceSub, Nat.reduceMul, Nat.reducePow, Nat.reduceDiv, Nat.reduceMod, Nat.reduceBEq, Nat.reduceBNe, Int.reduceLT, Int.reduceLE, Int.reduceToNat, Int.reduceAdd, Int.reduceSub, Int.reduceMul, Int.reduceNeg, Int.reducePow, Int.reduceEq, Int.reduceNe, Int.reduceDiv, Int.reduceMod, Int.reduceTDiv, Int.reduceTMod, UInt8.reduceToNat, UInt8.reduceOfNat]; exact ⟨_, rfl, rfl, rfl⟩)
theorem bytesH_run (n : Int) (k : Nat) (hk : k ≤ 4) (h0 : 0 ≤ n) (h1 : n < 4294967296) : Run Try.prog 67 [.int .i64 n, .int .i64 k, .bool false] (.own 1 5 (bys (bgF n k))) := by
  refine Try.run67 (by simp) ?_
  unfold Try.c67
  rw [← rwH_all]
  obtain ⟨R, hR⟩ : ∃ R : Nat → List UInt8, ∀ i, R i = (List.range k).map (rwH n k i) := ⟨_, fun _ => rfl⟩
  obtain ⟨N, hN⟩ : ∃ N : Nat → Int, ∀ i, N i = n / 256 ^ i := ⟨_, fun _ => rfl⟩
  rw [← hR]
  have hz : bys (R 0) = List.replicate k (.int .u8 0) := by rw [hR]; exact rw_zero (fun j => by unfold rwH; rw [if_neg (by omega)]) k
  have hN0 : n = N 0 := by rw [hN]; simp
  have hRl : ∀ i, (R i).length = k := fun i => by rw [hR]; simp
  have hNr : ∀ i, 0 ≤ N i ∧ N i < 4294967296 := fun i => by rw [hN]; exact pow_rng n i h0 h1
  have hNs : ∀ i, N i / 256 = N (i + 1) := fun i => by rw [hN, hN]; exact pow_next n i h0
  have hRs : ∀ i, i < k → (R i).set (k - 1 - i) (u8i (N i)) = R (i + 1) := fun i hi => by rw [hR, hR, hN]; exact rwH_set n k i hi
  rw [hN0]
  have hr0 := hNr 0
  simp (disch := (first | omega | (simp only [List.length_set, List.length_append, List.length_cons, List.length_nil, List.length_take, List.length_drop, List.length_map, List.length_replicate]; omega))) only [↓pvd, pv0, pv1, pv2, pv3, pv4, pv5, pv6, pv7, pvc0, pvc1, pvc2, buildC, evP, evR, evE, Pv.get, Pv.put, putO, bin2, int2, binB2, un1, cells, boundO, AV.flat, bv, rowOne, pvf, rvs_1, rvs_2, rvL, rvX, liveB, setParts, szOk, notStr, lim, dedup, place, ent, Pv.new, Pv.newVar, Pv.newVec, setCells, AV.ones, AV.one, resX, entry, layL, layC, layA, lay, List.map, List.foldl, List.replicate, List.length_replicate, ↓reduceIte, reduceCtorEq, Nat.reduceEqDiff, Nat.reduceLT, Nat.reduceLeDiff, Nat.reduceAdd, Nat.reduceSub, Nat.reduceMul, Nat.reducePow, Nat.reduceDiv, Nat.reduceMod, Nat.reduceBEq, Nat.reduceBNe, Int.reduceLT, Int.reduceLE, Int.reduceToNat, Int.reduceAdd, Int.reduceSub, Int.reduceMul, Int.reduceNeg, Int.reducePow, Int.reduceEq, Int.reduceNe, Int.reduceDiv, Int.reduceMod, Int.reduceTDiv, Int.reduceTMod, UInt8.reduceToNat, UInt8.reduceOfNat, Int.toNat_natCast, ← hz]
  refine aw_loop (fun i : Nat => ⟨[(0, .int .i64 (N i)), (1, .int .i64 k), (2, .bool false), (7, .vec 0 1 0 k), (8, .int .i64 i)], [some ⟨5, bys (R i), true⟩]⟩) (fun i => i ≤ k) (fun i => k - i) 0 ?_ (by omega) ?_
  · simp (disch := (first | omega | (simp only [List.length_set, List.length_append, List.length_cons, List.length_nil, List.length_take, List.length_drop, List.length_map, List.length_replicate] at *; omega))) only [↓pvd, pv0, pv1, pv2, pv3, pv4, pv5, pv6, pv7, pvc0, pvc1, pvc2, buildC, evP, evR, evE, Pv.get, Pv.put, putO, bin2, int2, binB2, un1, cells, boundO, AV.flat, bv, rowOne, pvf, rvs_1, rvs_2, rvL, rvX, liveB, setParts, szOk, notStr, lim, dedup, place, ent, Pv.new, Pv.newVar, Pv.newVec, setCells, AV.ones, AV.one, resX, entry, layL, layC, layA, lay, List.map, List.foldl, List.replicate, List.length_replicate, ↓reduceIte, reduceCtorEq, Nat.reduceEqDiff, Nat.reduceLT, Nat.reduceLeDiff, Nat.reduceAdd, Nat.reduceSub, Nat.reduceMul, Nat.reducePow, Nat.reduceDiv, Nat.reduceMod, Nat.reduceBEq, Nat.reduceBNe, Int.reduceLT, Int.reduceLE, Int.reduceToNat, Int.reduceAdd, Int.reduceSub, Int.reduceMul, Int.reduceNeg, Int.reducePow, Int.reduceEq, Int.reduceNe, Int.reduceDiv, Int.reduceMod, Int.reduceTDiv, Int.reduceTMod, UInt8.reduceToNat, UInt8.reduceOfNat]
    try rfl
  intro i hi
  have hri := hNr i
  have hrn := hNr (i + 1)
  have hli := hRl i
  have hni := hNs i
  unfold Try.c67b0
  by_cases hx : i < k
  · have hgi : ((R i).map bv)[k - 1 - i]? = some (bv (R i)[k - 1 - i]!) := map_get (by omega)
    have hsi := hRs i hx
    have hii : ((k : Int) - 1 - i).toNat = k - 1 - i := by omega
    simp (disch := (first | omega | (simp only [List.length_set, List.length_append, List.length_cons, List.length_nil, List.length_take, List.length_drop, List.length_map, List.length_replicate]; omega))) only [↓pvd, pv0, pv1, pv2, pv3, pv4, pv5, pv6, pv7, pvc0, pvc1, pvc2, buildC, evP, evR, evE, Pv.get, Pv.put, putO, bin2, int2, binB2, un1, cells, boundO, AV.flat, bv, rowOne, pvf, rvs_1, rvs_2, rvL, rvX, liveB, setParts, szOk, notStr, lim, dedup, place, ent, Pv.new, Pv.newVar, Pv.newVec, setCells, AV.ones, AV.one, resX, entry, layL, layC, layA, lay, List.map, List.foldl, List.replicate, List.length_replicate, ↓reduceIte, reduceCtorEq, Nat.reduceEqDiff, Nat.reduceLT, Nat.reduceLeDiff, Nat.reduceAdd, Nat.reduceSub, Nat.reduceMul, Nat.reducePow, Nat.reduceDiv, Nat.reduceMod, Nat.reduceBEq, Nat.reduceBNe, Int.reduceLT, Int.reduceLE, Int.reduceToNat, Int.reduceAdd, Int.reduceSub, Int.reduceMul, Int.reduceNeg, Int.reducePow, Int.reduceEq, Int.reduceNe, Int.reduceDiv, Int.reduceMod, Int.reduceTDiv, Int.reduceTMod, UInt8.reduceToNat, UInt8.reduceOfNat, hii, hgi, emod_emod, hsi, hni, bv]
    exact ⟨i + 1, rfl, by omega, by omega⟩
  · obtain rfl : i = k := by omega
    simp (disch := (first | omega | (simp only [List.length_set, List.length_append, List.length_cons, List.length_nil, List.length_take, List.length_drop, List.length_map, List.length_replicate] at *; omega))) only [↓pvd, pv0, pv1, pv2, pv3, pv4, pv5, pv6, pv7, pvc0, pvc1, pvc2, buildC, evP, evR, evE, Pv.get, Pv.put, putO, bin2, int2, binB2, un1, cells, boundO, AV.flat, bv, rowOne, pvf, rvs_1, rvs_2, rvL, rvX, liveB, setParts, szOk, notStr, lim, dedup, place, ent, Pv.new, Pv.newVar, Pv.newVec, setCells, AV.ones, AV.one, resX, entry, layL, layC, layA, lay, List.map, List.foldl, List.replicate, List.length_replicate, ↓reduceIte, reduceCtorEq, Nat.reduceEqDiff, Nat.reduceLT, Nat.reduceLeDiff, Nat.reduceAdd, Nat.reduceSub, Nat.reduceMul, Nat.reducePow, Nat.reduceDiv, Nat.reduceMod, Nat.reduceBEq, Nat.reduceBNe, Int.reduceLT, Int.reduceLE, Int.reduceToNat, Int.reduceAdd, Int.reduceSub, Int.reduceMul, Int.reduceNeg, Int.reducePow, Int.reduceEq, Int.reduceNe, Int.reduceDiv, Int.reduceMod, Int.reduceTDiv, Int.reduceTMod, UInt8.reduceToNat, UInt8.reduceOfNat]
    (refine Ends_rq [[.own 1 5]] ?_; simp (disch := (first | omega | (simp only [List.length_set, List.length_append, List.length_cons, List.length_nil, List.length_take, List.length_drop, List.length_map, List.length_replicate]; omega))) only [↓pvd, pv0, pv1, pv2, pv3, pv4, pv5, pv6, pv7, pvc0, pvc1, pvc2, buildC, evP, evR, evE, Pv.get, Pv.put, putO, bin2, int2, binB2, un1, cells, boundO, AV.flat, bv, rowOne, pvf, rvs_1, rvs_2, rvL, rvX, liveB, setParts, szOk, notStr, lim, dedup, place, ent, Pv.new, Pv.newVar, Pv.newVec, setCells, AV.ones, AV.one, resX, entry, layL, layC, layA, lay, List.map, List.foldl, List.replicate, List.length_replicate, ↓reduceIte, reduceCtorEq, Nat.reduceEqDiff, Nat.reduceLT, Nat.reduceLeDiff, Nat.reduceAdd, Nat.reduceSub, Nat.reduceMul, Nat.reducePow, Nat.reduceDiv, Nat.reduceMod, Nat.reduceBEq, Nat.reduceBNe, Int.reduceLT, Int.reduceLE, Int.reduceToNat, Int.reduceAdd, Int.reduceSub, Int.reduceMul, Int.reduceNeg, Int.reducePow, Int.reduceEq, Int.reduceNe, Int.reduceDiv, Int.reduceMod, Int.reduceTDiv, Int.reduceTMod, UInt8.reduceToNat, UInt8.reduceOfNat]; exact ⟨_, rfl, rfl, rfl⟩)
end Go.Proofs
