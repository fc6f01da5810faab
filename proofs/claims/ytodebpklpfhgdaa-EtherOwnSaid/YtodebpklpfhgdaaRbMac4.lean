/- A part of the proofs of this seat: RbMac4. -/
import Derived.Test.YtodebpklpfhgdaaRbMac3
set_option linter.unusedSimpArgs false
set_option linter.unusedVariables false
set_option maxHeartbeats 2000000
set_option maxRecDepth 20000
namespace Go.Proofs
open Go.Pv
/-- The number of the first k pairs of digits. -/
def num (s : List UInt8) : Nat → Int
  | 0 => 0
  | k + 1 => num s k * 256 + (dg s[3 * k]! * 16 + dg s[3 * k + 1]!)
/-- They are digits, with colons between. -/
def okR (s : List UInt8) (k : Nat) : Prop := ∀ i, i < k → dg s[3 * i]! ≤ 15 ∧ dg s[3 * i + 1]! ≤ 15 ∧ (i + 1 < 6 → s[3 * i + 2]!.toNat = 58)
theorem dg_b (c : UInt8) : 0 ≤ dg c ∧ dg c ≤ 16 := by
  have := c.toNat_lt
  unfold dg; split
  · omega
  · split <;> omega
theorem num_b (s : List UInt8) (k : Nat) (h : okR s k) : 0 ≤ num s k ∧ num s k < 256 ^ k := by
  induction k with
  | zero => simp [num]
  | succ k ih =>
    have h1 := ih (fun i hi => h i (by omega))
    have h2 := h k (by omega)
    have d1 := dg_b s[3 * k]!
    have d2 := dg_b s[3 * k + 1]!
    rw [num, Int.pow_succ]
    generalize (256 : Int) ^ k = q at *
    omega
theorem num_s (s : List UInt8) (k : Nat) (hk : k < 6) (h : okR s k) : 0 ≤ num s k ∧ num s k < 1099511627776 := by
  have h1 := num_b s k h
  have : (256 : Int) ^ k ≤ 256 ^ 5 := by exact_mod_cast Nat.pow_le_pow_right (by decide) (by omega)
  omega
open Classical in
/-- What a text is read as. -/
noncomputable def rdm (s : List UInt8) : Int × Bool := if s.length = 17 ∧ okR s 6 then (num s 6, true) else (0, false)
theorem str_get {s : List UInt8} {k : Nat} (h : k < s.length) : Option.map bv (s[k]?) = some (.int .u8 (s[k]!).toNat) := by
  rw [List.getElem?_eq_getElem h, List.getElem!_eq_getElem?_getD, List.getElem?_eq_getElem h]; rfl
theorem or_u64_4 {a b : Int} (ha : 0 ≤ a) (ha' : a < 18446744073709551616) (hb : 0 ≤ b) (hb' : b < 16) (hd : a % 16 = 0) : or2 .u64 a b = a + b :=
  or2_un (j := 4) rfl ha ha' hb hb' (by decide) hd
theorem read_run (s : List UInt8) (hm : s.length ≤ maxLen) : Run Try.prog 12 [.str s] (.tup [.int .u64 (rdm s).1, .bool (rdm s).2]) := by
  unfold maxLen at hm
  refine Try.run12 (by simp) ?_
  unfold Try.c12
  simp (disch := (first | omega | (simp only [List.length_set, List.length_append, List.length_cons, List.length_nil, List.length_take, List.length_drop, List.length_map, List.length_replicate] at *; omega))) only [↓pvd, pv0, pv1, pv2, pv3, pv4, pv5, pv6, pv7, pvc0, pvc1, pvc2, buildC, evP, evR, evE, Pv.get, Pv.put, putO, bin2, int2, binB2, un1, cells, boundO, AV.flat, bv, rowOne, rvs_1, rvs_2, rvL, rvX, liveB, setParts, szOk, notStr, lim, dedup, place, ent, Pv.new, Pv.newVar, Pv.newVec, setCells, AV.ones, AV.one, resX, entry, layL, layC, layA, lay, List.map, List.foldl, List.replicate, ↓reduceIte, reduceCtorEq, Nat.reduceEqDiff, Nat.reduceLT, Nat.reduceLeDiff, Nat.reduceAdd, Nat.reduceSub, Nat.reduceMul, Nat.reducePow, Nat.reduceDiv, Nat.reduceMod, Nat.reduceBEq, Nat.reduceBNe, Int.reduceLT, Int.reduceLE, Int.reduceToNat, Int.reduceAdd, Int.reduceSub, Int.reduceMul, Int.reduceNeg, Int.reducePow, Int.reduceEq, Int.reduceNe, Int.reduceDiv, Int.reduceMod, Int.reduceTDiv, Int.reduceTMod, UInt8.reduceToNat, UInt8.reduceOfNat]
  refine condP_d (fun hl => ?_) (fun hl => ?_)
  · have e : rdm s = (0, false) := by unfold rdm; rw [if_neg]; rintro ⟨h1, _⟩; omega
    rw [e]
    simp (disch := (first | omega | (simp only [List.length_set, List.length_append, List.length_cons, List.length_nil, List.length_take, List.length_drop, List.length_map, List.length_replicate] at *; omega))) only [↓pvd, pv0, pv1, pv2, pv3, pv4, pv5, pv6, pv7, pvc0, pvc1, pvc2, buildC, evP, evR, evE, Pv.get, Pv.put, putO, bin2, int2, binB2, un1, cells, boundO, AV.flat, bv, rowOne, rvs_1, rvs_2, rvL, rvX, liveB, setParts, szOk, notStr, lim, dedup, place, ent, Pv.new, Pv.newVar, Pv.newVec, setCells, AV.ones, AV.one, resX, entry, layL, layC, layA, lay, List.map, List.foldl, List.replicate, ↓reduceIte, reduceCtorEq, Nat.reduceEqDiff, Nat.reduceLT, Nat.reduceLeDiff, Nat.reduceAdd, Nat.reduceSub, Nat.reduceMul, Nat.reducePow, Nat.reduceDiv, Nat.reduceMod, Nat.reduceBEq, Nat.reduceBNe, Int.reduceLT, Int.reduceLE, Int.reduceToNat, Int.reduceAdd, Int.reduceSub, Int.reduceMul, Int.reduceNeg, Int.reducePow, Int.reduceEq, Int.reduceNe, Int.reduceDiv, Int.reduceMod, Int.reduceTDiv, Int.reduceTMod, UInt8.reduceToNat, UInt8.reduceOfNat]
    (refine Ends_rq [] ?_; simp (disch := (first | omega | (simp only [List.length_set, List.length_append, List.length_cons, List.length_nil, List.length_take, List.length_drop, List.length_map, List.length_replicate]; omega))) only [↓pvd, pv0, pv1, pv2, pv3, pv4, pv5, pv6, pv7, pvc0, pvc1, pvc2, buildC, evP, evR, evE, Pv.get, Pv.put, putO, bin2, int2, binB2, un1, cells, boundO, AV.flat, bv, rowOne, rvs_1, rvs_2, rvL, rvX, liveB, setParts, szOk, notStr, lim, dedup, place, ent, Pv.new, Pv.newVar, Pv.newVec, setCells, AV.ones, AV.one, resX, entry, layL, layC, layA, lay, List.map, List.foldl, List.replicate, ↓reduceIte, reduceCtorEq, Nat.reduceEqDiff, Nat.reduceLT, Nat.reduceLeDiff, Nat.reduceAdd, Nat.reduceSub, Nat.reduceMul, Nat.reducePow, Nat.reduceDiv, Nat.reduceMod, Nat.reduceBEq, Nat.reduceBNe, Int.reduceLT, Int.reduceLE, Int.reduceToNat, Int.reduceAdd, Int.reduceSub, Int.reduceMul, Int.reduceNeg, Int.reducePow, Int.reduceEq, Int.reduceNe, Int.reduceDiv, Int.reduceMod, Int.reduceTDiv, Int.reduceTMod, UInt8.reduceToNat, UInt8.reduceOfNat]; exact ⟨_, rfl, rfl, rfl⟩)
  have hl' : s.length = 17 := by omega
  simp (disch := (first | omega | (simp only [List.length_set, List.length_append, List.length_cons, List.length_nil, List.length_take, List.length_drop, List.length_map, List.length_replicate] at *; omega))) only [↓pvd, pv0, pv1, pv2, pv3, pv4, pv5, pv6, pv7, pvc0, pvc1, pvc2, buildC, evP, evR, evE, Pv.get, Pv.put, putO, bin2, int2, binB2, un1, cells, boundO, AV.flat, bv, rowOne, rvs_1, rvs_2, rvL, rvX, liveB, setParts, szOk, notStr, lim, dedup, place, ent, Pv.new, Pv.newVar, Pv.newVec, setCells, AV.ones, AV.one, resX, entry, layL, layC, layA, lay, List.map, List.foldl, List.replicate, ↓reduceIte, reduceCtorEq, Nat.reduceEqDiff, Nat.reduceLT, Nat.reduceLeDiff, Nat.reduceAdd, Nat.reduceSub, Nat.reduceMul, Nat.reducePow, Nat.reduceDiv, Nat.reduceMod, Nat.reduceBEq, Nat.reduceBNe, Int.reduceLT, Int.reduceLE, Int.reduceToNat, Int.reduceAdd, Int.reduceSub, Int.reduceMul, Int.reduceNeg, Int.reducePow, Int.reduceEq, Int.reduceNe, Int.reduceDiv, Int.reduceMod, Int.reduceTDiv, Int.reduceTMod, UInt8.reduceToNat, UInt8.reduceOfNat]
  refine aw_loop (fun k : Nat => ⟨[(0, .str s), (4, .int .u64 (num s k)), (11, .int .i64 k)], []⟩) (fun k => k ≤ 6 ∧ okR s k) (fun k => 6 - k) 0 ?_ ⟨by omega, fun i hi => by omega⟩ ?_
  · simp (disch := (first | omega | (simp only [List.length_set, List.length_append, List.length_cons, List.length_nil, List.length_take, List.length_drop, List.length_map, List.length_replicate] at *; omega))) only [↓pvd, pv0, pv1, pv2, pv3, pv4, pv5, pv6, pv7, pvc0, pvc1, pvc2, buildC, evP, evR, evE, Pv.get, Pv.put, putO, bin2, int2, binB2, un1, cells, boundO, AV.flat, bv, rowOne, rvs_1, rvs_2, rvL, rvX, liveB, setParts, szOk, notStr, lim, dedup, place, ent, Pv.new, Pv.newVar, Pv.newVec, setCells, AV.ones, AV.one, resX, entry, layL, layC, layA, lay, List.map, List.foldl, List.replicate, ↓reduceIte, reduceCtorEq, Nat.reduceEqDiff, Nat.reduceLT, Nat.reduceLeDiff, Nat.reduceAdd, Nat.reduceSub, Nat.reduceMul, Nat.reducePow, Nat.reduceDiv, Nat.reduceMod, Nat.reduceBEq, Nat.reduceBNe, Int.reduceLT, Int.reduceLE, Int.reduceToNat, Int.reduceAdd, Int.reduceSub, Int.reduceMul, Int.reduceNeg, Int.reducePow, Int.reduceEq, Int.reduceNe, Int.reduceDiv, Int.reduceMod, Int.reduceTDiv, Int.reduceTMod, UInt8.reduceToNat, UInt8.reduceOfNat]
    rfl
  intro k ⟨hk, hok⟩
  unfold Try.c12b0
  simp (disch := (first | omega | (simp only [List.length_set, List.length_append, List.length_cons, List.length_nil, List.length_take, List.length_drop, List.length_map, List.length_replicate] at *; omega))) only [↓pvd, pv0, pv1, pv2, pv3, pv4, pv5, pv6, pv7, pvc0, pvc1, pvc2, buildC, evP, evR, evE, Pv.get, Pv.put, putO, bin2, int2, binB2, un1, cells, boundO, AV.flat, bv, rowOne, rvs_1, rvs_2, rvL, rvX, liveB, setParts, szOk, notStr, lim, dedup, place, ent, Pv.new, Pv.newVar, Pv.newVec, setCells, AV.ones, AV.one, resX, entry, layL, layC, layA, lay, List.map, List.foldl, List.replicate, ↓reduceIte, reduceCtorEq, Nat.reduceEqDiff, Nat.reduceLT, Nat.reduceLeDiff, Nat.reduceAdd, Nat.reduceSub, Nat.reduceMul, Nat.reducePow, Nat.reduceDiv, Nat.reduceMod, Nat.reduceBEq, Nat.reduceBNe, Int.reduceLT, Int.reduceLE, Int.reduceToNat, Int.reduceAdd, Int.reduceSub, Int.reduceMul, Int.reduceNeg, Int.reducePow, Int.reduceEq, Int.reduceNe, Int.reduceDiv, Int.reduceMod, Int.reduceTDiv, Int.reduceTMod, UInt8.reduceToNat, UInt8.reduceOfNat]
  refine condP_d (fun hc => ?_) (fun hc => ?_)
  · have hn := num_s s k (by omega) hok
    have d1 := dg_b s[3 * k]!
    have d2 := dg_b s[3 * k + 1]!
    have g1 := digit_run s[3 * k]!
    have g2 := digit_run s[3 * k + 1]!
    simp (disch := (first | omega | (simp only [List.length_set, List.length_append, List.length_cons, List.length_nil, List.length_take, List.length_drop, List.length_map, List.length_replicate]; omega))) only [↓pvd, pv0, pv1, pv2, pv3, pv4, pv5, pv6, pv7, pvc0, pvc1, pvc2, buildC, evP, evR, evE, Pv.get, Pv.put, putO, bin2, int2, binB2, un1, cells, boundO, AV.flat, bv, rowOne, rvs_1, rvs_2, rvL, rvX, liveB, setParts, szOk, notStr, lim, dedup, place, ent, Pv.new, Pv.newVar, Pv.newVec, setCells, AV.ones, AV.one, resX, entry, layL, layC, layA, lay, List.map, List.foldl, List.replicate, ↓reduceIte, reduceCtorEq, Nat.reduceEqDiff, Nat.reduceLT, Nat.reduceLeDiff, Nat.reduceAdd, Nat.reduceSub, Nat.reduceMul, Nat.reducePow, Nat.reduceDiv, Nat.reduceMod, Nat.reduceBEq, Nat.reduceBNe, Int.reduceLT, Int.reduceLE, Int.reduceToNat, Int.reduceAdd, Int.reduceSub, Int.reduceMul, Int.reduceNeg, Int.reducePow, Int.reduceEq, Int.reduceNe, Int.reduceDiv, Int.reduceMod, Int.reduceTDiv, Int.reduceTMod, UInt8.reduceToNat, UInt8.reduceOfNat, str_get]
    refine awR_callD g1 rfl rfl (fun _ => rfl) ?_
    simp (disch := (first | omega | (simp only [List.length_set, List.length_append, List.length_cons, List.length_nil, List.length_take, List.length_drop, List.length_map, List.length_replicate] at *; omega))) only [↓pvd, pv0, pv1, pv2, pv3, pv4, pv5, pv6, pv7, pvc0, pvc1, pvc2, buildC, evP, evR, evE, Pv.get, Pv.put, putO, bin2, int2, binB2, un1, cells, boundO, AV.flat, bv, rowOne, rvs_1, rvs_2, rvL, rvX, liveB, setParts, szOk, notStr, lim, dedup, place, ent, Pv.new, Pv.newVar, Pv.newVec, setCells, AV.ones, AV.one, resX, entry, layL, layC, layA, lay, List.map, List.foldl, List.replicate, ↓reduceIte, reduceCtorEq, Nat.reduceEqDiff, Nat.reduceLT, Nat.reduceLeDiff, Nat.reduceAdd, Nat.reduceSub, Nat.reduceMul, Nat.reducePow, Nat.reduceDiv, Nat.reduceMod, Nat.reduceBEq, Nat.reduceBNe, Int.reduceLT, Int.reduceLE, Int.reduceToNat, Int.reduceAdd, Int.reduceSub, Int.reduceMul, Int.reduceNeg, Int.reducePow, Int.reduceEq, Int.reduceNe, Int.reduceDiv, Int.reduceMod, Int.reduceTDiv, Int.reduceTMod, UInt8.reduceToNat, UInt8.reduceOfNat]
    refine awR_callD g2 rfl rfl (fun _ => rfl) ?_
    simp (disch := (first | omega | (simp only [List.length_set, List.length_append, List.length_cons, List.length_nil, List.length_take, List.length_drop, List.length_map, List.length_replicate] at *; omega))) only [↓pvd, pv0, pv1, pv2, pv3, pv4, pv5, pv6, pv7, pvc0, pvc1, pvc2, buildC, evP, evR, evE, Pv.get, Pv.put, putO, bin2, int2, binB2, un1, cells, boundO, AV.flat, bv, rowOne, rvs_1, rvs_2, rvL, rvX, liveB, setParts, szOk, notStr, lim, dedup, place, ent, Pv.new, Pv.newVar, Pv.newVec, setCells, AV.ones, AV.one, resX, entry, layL, layC, layA, lay, List.map, List.foldl, List.replicate, ↓reduceIte, reduceCtorEq, Nat.reduceEqDiff, Nat.reduceLT, Nat.reduceLeDiff, Nat.reduceAdd, Nat.reduceSub, Nat.reduceMul, Nat.reducePow, Nat.reduceDiv, Nat.reduceMod, Nat.reduceBEq, Nat.reduceBNe, Int.reduceLT, Int.reduceLE, Int.reduceToNat, Int.reduceAdd, Int.reduceSub, Int.reduceMul, Int.reduceNeg, Int.reducePow, Int.reduceEq, Int.reduceNe, Int.reduceDiv, Int.reduceMod, Int.reduceTDiv, Int.reduceTMod, UInt8.reduceToNat, UInt8.reduceOfNat]
    have hno : ¬ (dg s[3 * k]! ≤ 15 ∧ dg s[3 * k + 1]! ≤ 15 ∧ (k + 1 < 6 → s[3 * k + 2]!.toNat = 58)) → rdm s = (0, false) := by
      intro hx
      unfold rdm; rw [if_neg]; rintro ⟨_, h2⟩; exact hx (h2 k (by omega))
    have hyes : (dg s[3 * k]! ≤ 15 ∧ dg s[3 * k + 1]! ≤ 15 ∧ (k + 1 < 6 → s[3 * k + 2]!.toNat = 58)) → okR s (k + 1) := by
      intro hx i hi
      by_cases h : i < k
      · exact hok i h
      · have : i = k := by omega
        subst this; exact hx
    have hns : num s (k + 1) = num s k * 256 + (dg s[3 * k]! * 16 + dg s[3 * k + 1]!) := rfl
    generalize dg s[3 * k]! = x at *
    generalize dg s[3 * k + 1]! = y at *
    generalize num s k = n at *
    generalize hn' : num s (k + 1) = n' at *
    have tk : (3 * (k : Int) + 2).toNat = 3 * k + 2 := by omega
    repeat' (first | simp (disch := (first | omega | (simp only [List.length_set, List.length_append, List.length_cons, List.length_nil, List.length_take, List.length_drop, List.length_map, List.length_replicate]; omega))) only [↓pvd, pv0, pv1, pv2, pv3, pv4, pv5, pv6, pv7, pvc0, pvc1, pvc2, buildC, evP, evR, evE, Pv.get, Pv.put, putO, bin2, int2, binB2, un1, cells, boundO, AV.flat, bv, rowOne, rvs_1, rvs_2, rvL, rvX, liveB, setParts, szOk, notStr, lim, dedup, place, ent, Pv.new, Pv.newVar, Pv.newVec, setCells, AV.ones, AV.one, resX, entry, layL, layC, layA, lay, List.map, List.foldl, List.replicate, ↓reduceIte, reduceCtorEq, Nat.reduceEqDiff, Nat.reduceLT, Nat.reduceLeDiff, Nat.reduceAdd, Nat.reduceSub, Nat.reduceMul, Nat.reducePow, Nat.reduceDiv, Nat.reduceMod, Nat.reduceBEq, Nat.reduceBNe, Int.reduceLT, Int.reduceLE, Int.reduceToNat, Int.reduceAdd, Int.reduceSub, Int.reduceMul, Int.reduceNeg, Int.reducePow, Int.reduceEq, Int.reduceNe, Int.reduceDiv, Int.reduceMod, Int.reduceTDiv, Int.reduceTMod, UInt8.reduceToNat, UInt8.reduceOfNat, str_get, or_u64_4] | with_reducible refine condP_d (fun _ => ?_) (fun _ => ?_) | with_reducible refine guardP_d0 (fun _ => ?_) (fun _ => ?_) | with_reducible refine guardP_d1 (fun _ => ?_) (fun _ => ?_) | with_reducible refine condP_any ?_ ?_)
    all_goals simp only [tk] at *
    all_goals first
      | (rw [hno (by omega)]; (refine Ends_rq [] ?_; simp (disch := (first | omega | (simp only [List.length_set, List.length_append, List.length_cons, List.length_nil, List.length_take, List.length_drop, List.length_map, List.length_replicate]; omega))) only [↓pvd, pv0, pv1, pv2, pv3, pv4, pv5, pv6, pv7, pvc0, pvc1, pvc2, buildC, evP, evR, evE, Pv.get, Pv.put, putO, bin2, int2, binB2, un1, cells, boundO, AV.flat, bv, rowOne, rvs_1, rvs_2, rvL, rvX, liveB, setParts, szOk, notStr, lim, dedup, place, ent, Pv.new, Pv.newVar, Pv.newVec, setCells, AV.ones, AV.one, resX, entry, layL, layC, layA, lay, List.map, List.foldl, List.replicate, ↓reduceIte, reduceCtorEq, Nat.reduceEqDiff, Nat.reduceLT, Nat.reduceLeDiff, Nat.reduceAdd, Nat.reduceSub, Nat.reduceMul, Nat.reducePow, Nat.reduceDiv, Nat.reduceMod, Nat.reduceBEq, Nat.reduceBNe, Int.reduceLT, Int.reduceLE, Int.reduceToNat, Int.reduceAdd, Int.reduceSub, Int.reduceMul, Int.reduceNeg, Int.reducePow, Int.reduceEq, Int.reduceNe, Int.reduceDiv, Int.reduceMod, Int.reduceTDiv, Int.reduceTMod, UInt8.reduceToNat, UInt8.reduceOfNat]; exact ⟨_, rfl, rfl, rfl⟩); done)
      | (refine ⟨k + 1, ?_, ⟨by omega, hyes (by omega)⟩, by omega⟩
         rw [hn', hns]
         simp only [St.mk.injEq, List.cons.injEq, Prod.mk.injEq, AV.int.injEq, and_true, true_and]
         omega)
  · have : k = 6 := by omega
    subst this
    have e : rdm s = (num s 6, true) := by unfold rdm; rw [if_pos ⟨hl', hok⟩]
    rw [e]
    simp (disch := (first | omega | (simp only [List.length_set, List.length_append, List.length_cons, List.length_nil, List.length_take, List.length_drop, List.length_map, List.length_replicate] at *; omega))) only [↓pvd, pv0, pv1, pv2, pv3, pv4, pv5, pv6, pv7, pvc0, pvc1, pvc2, buildC, evP, evR, evE, Pv.get, Pv.put, putO, bin2, int2, binB2, un1, cells, boundO, AV.flat, bv, rowOne, rvs_1, rvs_2, rvL, rvX, liveB, setParts, szOk, notStr, lim, dedup, place, ent, Pv.new, Pv.newVar, Pv.newVec, setCells, AV.ones, AV.one, resX, entry, layL, layC, layA, lay, List.map, List.foldl, List.replicate, ↓reduceIte, reduceCtorEq, Nat.reduceEqDiff, Nat.reduceLT, Nat.reduceLeDiff, Nat.reduceAdd, Nat.reduceSub, Nat.reduceMul, Nat.reducePow, Nat.reduceDiv, Nat.reduceMod, Nat.reduceBEq, Nat.reduceBNe, Int.reduceLT, Int.reduceLE, Int.reduceToNat, Int.reduceAdd, Int.reduceSub, Int.reduceMul, Int.reduceNeg, Int.reducePow, Int.reduceEq, Int.reduceNe, Int.reduceDiv, Int.reduceMod, Int.reduceTDiv, Int.reduceTMod, UInt8.reduceToNat, UInt8.reduceOfNat]
    (refine Ends_rq [] ?_; simp (disch := (first | omega | (simp only [List.length_set, List.length_append, List.length_cons, List.length_nil, List.length_take, List.length_drop, List.length_map, List.length_replicate]; omega))) only [↓pvd, pv0, pv1, pv2, pv3, pv4, pv5, pv6, pv7, pvc0, pvc1, pvc2, buildC, evP, evR, evE, Pv.get, Pv.put, putO, bin2, int2, binB2, un1, cells, boundO, AV.flat, bv, rowOne, rvs_1, rvs_2, rvL, rvX, liveB, setParts, szOk, notStr, lim, dedup, place, ent, Pv.new, Pv.newVar, Pv.newVec, setCells, AV.ones, AV.one, resX, entry, layL, layC, layA, lay, List.map, List.foldl, List.replicate, ↓reduceIte, reduceCtorEq, Nat.reduceEqDiff, Nat.reduceLT, Nat.reduceLeDiff, Nat.reduceAdd, Nat.reduceSub, Nat.reduceMul, Nat.reducePow, Nat.reduceDiv, Nat.reduceMod, Nat.reduceBEq, Nat.reduceBNe, Int.reduceLT, Int.reduceLE, Int.reduceToNat, Int.reduceAdd, Int.reduceSub, Int.reduceMul, Int.reduceNeg, Int.reducePow, Int.reduceEq, Int.reduceNe, Int.reduceDiv, Int.reduceMod, Int.reduceTDiv, Int.reduceTMod, UInt8.reduceToNat, UInt8.reduceOfNat]; exact ⟨_, rfl, rfl, rfl⟩)
/-! The reference's. -/
def de (c : UInt8) : Int := if dg c ≤ 15 then dg c else 0
def rn (s : List UInt8) : Nat → Int
  | 0 => 0
  | k + 1 => if k % 3 ≠ 2 then rn s k * 16 + de s[k]! else rn s k
theorem hx_de (c : UInt8) : hx (de c) = c ↔ dg c ≤ 15 := by
  have h : ∀ x : Fin 256, hx (de (UInt8.ofNat x)) = UInt8.ofNat x ↔ dg (UInt8.ofNat x) ≤ 15 := by decide +kernel
  have := h ⟨c.toNat, c.toNat_lt⟩
  simpa using this
theorem de_b (c : UInt8) : 0 ≤ de c ∧ de c ≤ 15 := by
  have := dg_b c
  unfold de; split <;> omega
theorem list17 {s : List UInt8} (h : s.length = 17) : ∃ c0 c1 c2 c3 c4 c5 c6 c7 c8 c9 c10 c11 c12 c13 c14 c15 c16, s = [c0, c1, c2, c3, c4, c5, c6, c7, c8, c9, c10, c11, c12, c13, c14, c15, c16] := by
  rcases s with _ | ⟨c0, _ | ⟨c1, _ | ⟨c2, _ | ⟨c3, _ | ⟨c4, _ | ⟨c5, _ | ⟨c6, _ | ⟨c7, _ | ⟨c8, _ | ⟨c9, _ | ⟨c10, _ | ⟨c11, _ | ⟨c12, _ | ⟨c13, _ | ⟨c14, _ | ⟨c15, _ | ⟨c16, _ | ⟨c17, s⟩⟩⟩⟩⟩⟩⟩⟩⟩⟩⟩⟩⟩⟩⟩⟩⟩⟩
  all_goals first
    | exact ⟨_, _, _, _, _, _, _, _, _, _, _, _, _, _, _, _, _, rfl⟩
    | (simp at h; done)
theorem rn_tx (s : List UInt8) (h : s.length = 17) : tx (rn s 17) = s ↔ okR s 6 := by
  obtain ⟨c0, c1, c2, c3, c4, c5, c6, c7, c8, c9, c10, c11, c12, c13, c14, c15, c16, rfl⟩ := list17 h
  have e : rn [c0, c1, c2, c3, c4, c5, c6, c7, c8, c9, c10, c11, c12, c13, c14, c15, c16] 17 =
    ((((((((((de c0 * 16 + de c1) * 16 + de c3) * 16 + de c4) * 16 + de c6) * 16 + de c7) * 16 + de c9) * 16 + de c10) * 16 + de c12) * 16 + de c13) * 16 + de c15) * 16 + de c16 := by
    simp [rn]
  rw [e]
  have b0 := de_b c0
  have b1 := de_b c1
  have b3 := de_b c3
  have b4 := de_b c4
  have b6 := de_b c6
  have b7 := de_b c7
  have b9 := de_b c9
  have b10 := de_b c10
  have b12 := de_b c12
  have b13 := de_b c13
  have b15 := de_b c15
  have b16 := de_b c16
  have x0 := hx_de c0
  have x1 := hx_de c1
  have x3 := hx_de c3
  have x4 := hx_de c4
  have x6 := hx_de c6
  have x7 := hx_de c7
  have x9 := hx_de c9
  have x10 := hx_de c10
  have x12 := hx_de c12
  have x13 := hx_de c13
  have x15 := hx_de c15
  have x16 := hx_de c16
  have ho : okR [c0, c1, c2, c3, c4, c5, c6, c7, c8, c9, c10, c11, c12, c13, c14, c15, c16] 6 ↔ ((dg c0 ≤ 15 ∧ dg c1 ≤ 15 ∧ c2.toNat = 58) ∧ (dg c3 ≤ 15 ∧ dg c4 ≤ 15 ∧ c5.toNat = 58) ∧ (dg c6 ≤ 15 ∧ dg c7 ≤ 15 ∧ c8.toNat = 58) ∧ (dg c9 ≤ 15 ∧ dg c10 ≤ 15 ∧ c11.toNat = 58) ∧ (dg c12 ≤ 15 ∧ dg c13 ≤ 15 ∧ c14.toNat = 58) ∧ (dg c15 ≤ 15 ∧ dg c16 ≤ 15)) := by
    constructor
    · intro k
      have k0 := k 0 (by omega)
      have k1 := k 1 (by omega)
      have k2 := k 2 (by omega)
      have k3 := k 3 (by omega)
      have k4 := k 4 (by omega)
      have k5 := k 5 (by omega)
      simp at k0 k1 k2 k3 k4 k5
      exact ⟨k0, k1, k2, k3, k4, k5⟩
    · rintro ⟨k0, k1, k2, k3, k4, k5⟩ i hi
      have hi' : i = 0 ∨ i = 1 ∨ i = 2 ∨ i = 3 ∨ i = 4 ∨ i = 5 := by omega
      rcases hi' with rfl | rfl | rfl | rfl | rfl | rfl
      · simpa using k0
      · simpa using k1
      · simpa using k2
      · simpa using k3
      · simpa using k4
      · simpa using k5
  rw [ho, ← x0, ← x1, ← x3, ← x4, ← x6, ← x7, ← x9, ← x10, ← x12, ← x13, ← x15, ← x16]
  clear ho x0 x1 x3 x4 x6 x7 x9 x10 x12 x13 x15 x16 e h
  generalize de c0 = d0 at *
  generalize de c1 = d1 at *
  generalize de c3 = d3 at *
  generalize de c4 = d4 at *
  generalize de c6 = d6 at *
  generalize de c7 = d7 at *
  generalize de c9 = d9 at *
  generalize de c10 = d10 at *
  generalize de c12 = d12 at *
  generalize de c13 = d13 at *
  generalize de c15 = d15 at *
  generalize de c16 = d16 at *
  generalize hn : ((((((((((d0 * 16 + d1) * 16 + d3) * 16 + d4) * 16 + d6) * 16 + d7) * 16 + d9) * 16 + d10) * 16 + d12) * 16 + d13) * 16 + d15) * 16 + d16 = n
  have q5 : n / 256 = (((((((((d0 * 16 + d1) * 16 + d3) * 16 + d4) * 16 + d6) * 16 + d7) * 16 + d9) * 16 + d10) * 16 + d12) * 16 + d13) := by omega
  have q4 : n / 65536 = (((((((d0 * 16 + d1) * 16 + d3) * 16 + d4) * 16 + d6) * 16 + d7) * 16 + d9) * 16 + d10) := by omega
  have q3 : n / 16777216 = (((((d0 * 16 + d1) * 16 + d3) * 16 + d4) * 16 + d6) * 16 + d7) := by omega
  have q2 : n / 4294967296 = (((d0 * 16 + d1) * 16 + d3) * 16 + d4) := by omega
  have q1 : n / 1099511627776 = d0 * 16 + d1 := by omega
  have e0 : n / 1099511627776 % 256 / 16 = d0 := by omega
  have e1 : n / 1099511627776 % 256 % 16 = d1 := by omega
  have e3 : n / 4294967296 % 256 / 16 = d3 := by omega
  have e4 : n / 4294967296 % 256 % 16 = d4 := by omega
  have e6 : n / 16777216 % 256 / 16 = d6 := by omega
  have e7 : n / 16777216 % 256 % 16 = d7 := by omega
  have e9 : n / 65536 % 256 / 16 = d9 := by omega
  have e10 : n / 65536 % 256 % 16 = d10 := by omega
  have e12 : n / 256 % 256 / 16 = d12 := by omega
  have e13 : n / 256 % 256 % 16 = d13 := by omega
  have e15 : n % 256 / 16 = d15 := by omega
  have e16 : n % 256 % 16 = d16 := by omega
  have k (c : UInt8) : (58 = c) = (c.toNat = 58) := by
    rw [← UInt8.toNat_inj]; apply propext; constructor <;> intro h <;> exact h.symm
  unfold tx
  simp only [e0, e1, e3, e4, e6, e7, e9, e10, e12, e13, e15, e16, List.cons.injEq, k, and_true, and_assoc]
/-- The number is the same. -/
theorem rn_num (s : List UInt8) (h : s.length = 17) (ho : okR s 6) : rn s 17 = num s 6 := by
  have k0 := ho 0 (by omega)
  have k1 := ho 1 (by omega)
  have k2 := ho 2 (by omega)
  have k3 := ho 3 (by omega)
  have k4 := ho 4 (by omega)
  have k5 := ho 5 (by omega)
  simp [rn, num, de] at *
  simp only [if_pos, k0, k1, k2, k3, k4, k5]
  omega
end Go.Proofs
