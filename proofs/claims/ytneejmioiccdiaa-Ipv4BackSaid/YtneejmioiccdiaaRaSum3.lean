/- A part of the proofs of this seat: RaSum3. -/
import Derived.Test.YtneejmioiccdiaaRaSum2
set_option linter.unusedSimpArgs false
set_option linter.unusedVariables false
set_option maxHeartbeats 2000000
set_option maxRecDepth 20000
namespace Go.Proofs
open Go.Pv
/-! The plain law: what a bit turned does to a sum. -/
theorem W_app (b c : List UInt8) (k : Nat) (h : 2 * k ≤ b.length) : W (b ++ c) k = W b k := by
  induction k with
  | zero => rfl
  | succ k ih =>
    simp only [W]
    rw [ih (by omega)]
    rw [List.getElem!_eq_getElem?_getD, List.getElem!_eq_getElem?_getD, List.getElem!_eq_getElem?_getD, List.getElem!_eq_getElem?_getD, List.getElem?_append_left (by omega), List.getElem?_append_left (by omega)]
theorem Wt_two (b : List UInt8) (x y : UInt8) (h : b.length % 2 = 0) : Wt (b ++ [x, y]) = Wt b + ((x.toNat : Int) * 256 + y.toNat) := by
  unfold Wt
  have e : ((b ++ [x, y]).length + 1) / 2 = (b.length + 1) / 2 + 1 := by simp; omega
  rw [e, W, W_app b _ _ (by omega)]
  have h2 : 2 * ((b.length + 1) / 2) = b.length := by omega
  rw [h2]
  simp
/-- What place k counts for. -/
def wt (k : Nat) : Int := if k % 2 = 0 then 256 else 1
theorem W_set (b : List UInt8) (k : Nat) (v : UInt8) (hk : k < b.length) (n : Nat) : W (b.set k v) n = W b n + (if k < 2 * n then ((v.toNat : Int) - b[k]!.toNat) * wt k else 0) := by
  induction n with
  | zero => simp [W]
  | succ n ih =>
    have g : ∀ j, (b.set k v)[j]! = if j = k then v else b[j]! := by
      intro j
      rw [List.getElem!_eq_getElem?_getD, List.getElem?_set, List.getElem!_eq_getElem?_getD]
      by_cases hj : k = j
      · subst hj; simp [hk]
      · simp [hj, Ne.symm hj]
    simp only [W]
    rw [ih, g, g]
    by_cases h1 : 2 * n = k
    · subst h1
      have e : wt (2 * n) = 256 := by unfold wt; rw [if_pos (by omega)]
      rw [if_neg (by omega), if_pos rfl, if_neg (by omega), if_pos (by omega), e]
      omega
    · by_cases h2 : 2 * n + 1 = k
      · subst h2
        have e : wt (2 * n + 1) = 1 := by unfold wt; rw [if_neg (by omega)]
        rw [if_neg (by omega), if_neg (by omega), if_pos rfl, if_pos (by omega), e]
        omega
      · rw [if_neg h1, if_neg h2]
        by_cases h3 : k < 2 * n
        · rw [if_pos h3, if_pos (by omega)]; omega
        · rw [if_neg h3, if_neg (by omega)]; omega
theorem Wt_set (b : List UInt8) (k : Nat) (v : UInt8) (hk : k < b.length) : Wt (b.set k v) = Wt b + ((v.toNat : Int) - b[k]!.toNat) * wt k := by
  unfold Wt
  rw [List.length_set, W_set b k v hk, if_pos (by omega)]
theorem xor_bit : ∀ x : Fin 256, ∀ j : Fin 8, ((x.val ^^^ 2 ^ j.val : Nat) < 256) ∧ ((x.val ^^^ 2 ^ j.val : Nat) = x.val + 2 ^ j.val ∨ x.val = (x.val ^^^ 2 ^ j.val : Nat) + 2 ^ j.val) := by decide +kernel
theorem red_zero {n : Int} (h : 0 ≤ n) : red n = 65535 ↔ 0 < n ∧ n % 65535 = 0 := by unfold red; split <;> omega
/-- A right sum with one bit turned is not right. -/
theorem turned (a : List UInt8) (k j : Nat) (v : UInt8) (hk : k < a.length) (hj : j < 8) (hr : red (Wt a) = 65535) (hv : v.toNat = a[k]!.toNat + 2 ^ j ∨ a[k]!.toNat = v.toNat + 2 ^ j) : red (Wt (a.set k v)) ≠ 65535 := by
  have h0 := (W_b a ((a.length + 1) / 2)).1
  have h1 := (W_b (a.set k v) (((a.set k v).length + 1) / 2)).1
  change 0 ≤ Wt a at h0
  change 0 ≤ Wt (a.set k v) at h1
  rw [red_zero h0] at hr
  rw [Ne, red_zero h1, Wt_set a k v hk]
  have hw : wt k = 256 ∨ wt k = 1 := by unfold wt; split <;> simp
  have hj' : j = 0 ∨ j = 1 ∨ j = 2 ∨ j = 3 ∨ j = 4 ∨ j = 5 ∨ j = 6 ∨ j = 7 := by omega
  rcases hw with hw | hw <;> rw [hw] <;> rcases hj' with rfl | rfl | rfl | rfl | rfl | rfl | rfl | rfl <;> simp only [Nat.reducePow] at hv <;> omega
theorem sumBack_run (b : List UInt8) (at' bit : Int) (ha : 0 ≤ at' ∧ at' ≤ 65535) (hb : 0 ≤ bit ∧ bit ≤ 255) : Run Try.prog 5 [.sl 1 (bys b) false, .int .u16 at', .int .u8 bit] (.bool true) := by
  refine Try.run5 (by simp) ?_
  unfold Try.c5
  simp (disch := (first | omega | (simp only [List.length_set, List.length_append, List.length_cons, List.length_nil, List.length_take, List.length_drop, List.length_map, List.length_replicate] at *; omega))) only [↓pvd, pv0, pv1, pv2, pv3, pv4, pv5, pv6, pv7, pvc0, pvc1, pvc2, buildC, evP, evR, evE, Pv.get, Pv.put, putO, bin2, int2, binB2, un1, cells, boundO, AV.flat, bv, rowOne, rvs_1, rvs_2, rvL, rvX, liveB, setParts, szOk, notStr, lim, dedup, place, ent, Pv.new, Pv.newVar, Pv.newVec, setCells, AV.ones, AV.one, resX, entry, layL, layC, layA, lay, List.map, List.foldl, List.replicate, ↓reduceIte, reduceCtorEq, Nat.reduceEqDiff, Nat.reduceLT, Nat.reduceLeDiff, Nat.reduceAdd, Nat.reduceSub, Nat.reduceMul, Nat.reducePow, Nat.reduceDiv, Nat.reduceMod, Nat.reduceBEq, Nat.reduceBNe, Int.reduceLT, Int.reduceLE, Int.reduceToNat, Int.reduceAdd, Int.reduceSub, Int.reduceMul, Int.reduceNeg, Int.reducePow, Int.reduceEq, Int.reduceNe, Int.reduceDiv, Int.reduceMod, Int.reduceTDiv, Int.reduceTMod, UInt8.reduceToNat, UInt8.reduceOfNat]
  refine awR_call works_run rfl rfl ?_
  repeat' (first | simp (disch := (first | omega | (simp only [List.length_set, List.length_append, List.length_cons, List.length_nil, List.length_take, List.length_drop, List.length_map, List.length_replicate]; omega))) only [↓pvd, pv0, pv1, pv2, pv3, pv4, pv5, pv6, pv7, pvc0, pvc1, pvc2, buildC, evP, evR, evE, Pv.get, Pv.put, putO, bin2, int2, binB2, un1, cells, boundO, AV.flat, bv, rowOne, rvs_1, rvs_2, rvL, rvX, liveB, setParts, szOk, notStr, lim, dedup, place, ent, Pv.new, Pv.newVar, Pv.newVec, setCells, AV.ones, AV.one, resX, entry, layL, layC, layA, lay, List.map, List.foldl, List.replicate, ↓reduceIte, reduceCtorEq, Nat.reduceEqDiff, Nat.reduceLT, Nat.reduceLeDiff, Nat.reduceAdd, Nat.reduceSub, Nat.reduceMul, Nat.reducePow, Nat.reduceDiv, Nat.reduceMod, Nat.reduceBEq, Nat.reduceBNe, Int.reduceLT, Int.reduceLE, Int.reduceToNat, Int.reduceAdd, Int.reduceSub, Int.reduceMul, Int.reduceNeg, Int.reducePow, Int.reduceEq, Int.reduceNe, Int.reduceDiv, Int.reduceMod, Int.reduceTDiv, Int.reduceTMod, UInt8.reduceToNat, UInt8.reduceOfNat] | with_reducible refine condP_d (fun _ => ?_) (fun _ => ?_) | with_reducible refine guardP_d0 (fun _ => ?_) (fun _ => ?_) | with_reducible refine guardP_d1 (fun _ => ?_) (fun _ => ?_) | with_reducible refine condP_any ?_ ?_)
  all_goals first
    | (refine Ends_r ?_ ?_ <;> rfl; done)
    | skip
  have hw := (W_b b ((b.length + 1) / 2)).1
  change 0 ≤ Wt b at hw
  have hr := red_b hw
  refine awR_call (sum_of_run b false (by omega)) rfl rfl ?_
  simp (disch := (first | omega | (simp only [List.length_set, List.length_append, List.length_cons, List.length_nil, List.length_take, List.length_drop, List.length_map, List.length_replicate] at *; omega))) only [↓pvd, pv0, pv1, pv2, pv3, pv4, pv5, pv6, pv7, pvc0, pvc1, pvc2, buildC, evP, evR, evE, Pv.get, Pv.put, putO, bin2, int2, binB2, un1, cells, boundO, AV.flat, bv, rowOne, rvs_1, rvs_2, rvL, rvX, liveB, setParts, szOk, notStr, lim, dedup, place, ent, Pv.new, Pv.newVar, Pv.newVec, setCells, AV.ones, AV.one, resX, entry, layL, layC, layA, lay, List.map, List.foldl, List.replicate, ↓reduceIte, reduceCtorEq, Nat.reduceEqDiff, Nat.reduceLT, Nat.reduceLeDiff, Nat.reduceAdd, Nat.reduceSub, Nat.reduceMul, Nat.reducePow, Nat.reduceDiv, Nat.reduceMod, Nat.reduceBEq, Nat.reduceBNe, Int.reduceLT, Int.reduceLE, Int.reduceToNat, Int.reduceAdd, Int.reduceSub, Int.reduceMul, Int.reduceNeg, Int.reducePow, Int.reduceEq, Int.reduceNe, Int.reduceDiv, Int.reduceMod, Int.reduceTDiv, Int.reduceTMod, UInt8.reduceToNat, UInt8.reduceOfNat]
  have hl : (b ++ [u8i ((65535 - red (Wt b)) / 256), u8i (65535 - red (Wt b))]).length = b.length + 2 := by simp
  have hall : red (Wt (b ++ [u8i ((65535 - red (Wt b)) / 256), u8i (65535 - red (Wt b))])) = 65535 := by
    have h0 := (W_b (b ++ [u8i ((65535 - red (Wt b)) / 256), u8i (65535 - red (Wt b))]) (((b ++ [u8i ((65535 - red (Wt b)) / 256), u8i (65535 - red (Wt b))]).length + 1) / 2)).1
    change 0 ≤ Wt _ at h0
    rw [red_zero h0, Wt_two b _ _ (by omega), u8i_nat, u8i_nat]
    unfold red at *
    split <;> simp_all <;> omega
  generalize b ++ [u8i ((65535 - red (Wt b)) / 256), u8i (65535 - red (Wt b))] = all at *
  refine awR_callR (ms := []) (sum_right_run all false (by omega)) (by simp (disch := (first | omega | (simp only [List.length_set, List.length_append, List.length_cons, List.length_nil, List.length_take, List.length_drop, List.length_map, List.length_replicate] at *; omega))) only [↓pvd, pv0, pv1, pv2, pv3, pv4, pv5, pv6, pv7, pvc0, pvc1, pvc2, buildC, evP, evR, evE, Pv.get, Pv.put, putO, bin2, int2, binB2, un1, cells, boundO, AV.flat, bv, rowOne, rvs_1, rvs_2, rvL, rvX, liveB, setParts, szOk, notStr, lim, dedup, place, ent, Pv.new, Pv.newVar, Pv.newVec, setCells, AV.ones, AV.one, resX, entry, layL, layC, layA, lay, List.map, List.foldl, List.replicate, ↓reduceIte, reduceCtorEq, Nat.reduceEqDiff, Nat.reduceLT, Nat.reduceLeDiff, Nat.reduceAdd, Nat.reduceSub, Nat.reduceMul, Nat.reducePow, Nat.reduceDiv, Nat.reduceMod, Nat.reduceBEq, Nat.reduceBNe, Int.reduceLT, Int.reduceLE, Int.reduceToNat, Int.reduceAdd, Int.reduceSub, Int.reduceMul, Int.reduceNeg, Int.reducePow, Int.reduceEq, Int.reduceNe, Int.reduceDiv, Int.reduceMod, Int.reduceTDiv, Int.reduceTMod, UInt8.reduceToNat, UInt8.reduceOfNat]; rfl) (by simp (disch := (first | omega | (simp only [List.length_set, List.length_append, List.length_cons, List.length_nil, List.length_take, List.length_drop, List.length_map, List.length_replicate] at *; omega))) only [↓pvd, pv0, pv1, pv2, pv3, pv4, pv5, pv6, pv7, pvc0, pvc1, pvc2, buildC, evP, evR, evE, Pv.get, Pv.put, putO, bin2, int2, binB2, un1, cells, boundO, AV.flat, bv, rowOne, rvs_1, rvs_2, rvL, rvX, liveB, setParts, szOk, notStr, lim, dedup, place, ent, Pv.new, Pv.newVar, Pv.newVec, setCells, AV.ones, AV.one, resX, entry, layL, layC, layA, lay, List.map, List.foldl, List.replicate, ↓reduceIte, reduceCtorEq, Nat.reduceEqDiff, Nat.reduceLT, Nat.reduceLeDiff, Nat.reduceAdd, Nat.reduceSub, Nat.reduceMul, Nat.reducePow, Nat.reduceDiv, Nat.reduceMod, Nat.reduceBEq, Nat.reduceBNe, Int.reduceLT, Int.reduceLE, Int.reduceToNat, Int.reduceAdd, Int.reduceSub, Int.reduceMul, Int.reduceNeg, Int.reducePow, Int.reduceEq, Int.reduceNe, Int.reduceDiv, Int.reduceMod, Int.reduceTDiv, Int.reduceTMod, UInt8.reduceToNat, UInt8.reduceOfNat]) rfl ?_
  simp (disch := (first | omega | (simp only [List.length_set, List.length_append, List.length_cons, List.length_nil, List.length_take, List.length_drop, List.length_map, List.length_replicate]; omega))) only [↓pvd, pv0, pv1, pv2, pv3, pv4, pv5, pv6, pv7, pvc0, pvc1, pvc2, buildC, evP, evR, evE, Pv.get, Pv.put, putO, bin2, int2, binB2, un1, cells, boundO, AV.flat, bv, rowOne, rvs_1, rvs_2, rvL, rvX, liveB, setParts, szOk, notStr, lim, dedup, place, ent, Pv.new, Pv.newVar, Pv.newVec, setCells, AV.ones, AV.one, resX, entry, layL, layC, layA, lay, List.map, List.foldl, List.replicate, ↓reduceIte, reduceCtorEq, Nat.reduceEqDiff, Nat.reduceLT, Nat.reduceLeDiff, Nat.reduceAdd, Nat.reduceSub, Nat.reduceMul, Nat.reducePow, Nat.reduceDiv, Nat.reduceMod, Nat.reduceBEq, Nat.reduceBNe, Int.reduceLT, Int.reduceLE, Int.reduceToNat, Int.reduceAdd, Int.reduceSub, Int.reduceMul, Int.reduceNeg, Int.reducePow, Int.reduceEq, Int.reduceNe, Int.reduceDiv, Int.reduceMod, Int.reduceTDiv, Int.reduceTMod, UInt8.reduceToNat, UInt8.reduceOfNat, hall]
  obtain ⟨k, hk, hk'⟩ : ∃ k : Nat, at' % ((b.length + 2 : Nat) : Int) = k ∧ k < b.length + 2 := by
    have h1 := Int.emod_nonneg at' (b := ((b.length + 2 : Nat) : Int)) (by omega)
    have h2 := Int.emod_lt_of_pos at' (b := ((b.length + 2 : Nat) : Int)) (by omega)
    exact ⟨(at' % ((b.length + 2 : Nat) : Int)).toNat, by omega, by omega⟩
  obtain ⟨j, hj, hj'⟩ : ∃ j : Nat, bit % 8 = j ∧ j < 8 := ⟨(bit % 8).toNat, by omega, by omega⟩
  have hx := xor_bit ⟨all[k]!.toNat, all[k]!.toNat_lt⟩ ⟨j, hj'⟩
  simp only at hx
  have hp : (2 : Int) ^ j = ((2 ^ j : Nat) : Int) := by simp
  have hp2 : (2 : Nat) ^ j < 256 := by have : 2 ^ j ≤ 2 ^ 7 := Nat.pow_le_pow_right (by decide) (by omega); omega
  have hX : xor2 .u8 (all[k]!.toNat : Int) (1 * 2 ^ j % 256) = ((all[k]!.toNat ^^^ 2 ^ j : Nat) : Int) := by
    have := all[k]!.toNat_lt
    unfold xor2
    rw [Int.one_mul, hp]
    generalize 2 ^ j = q at *
    rw [xor_nat (by omega) (by rw [bits_u8]; omega) (by omega) (by rw [bits_u8]; omega)]
    rw [wrap_u8]
    have e1 : ((q : Int) % 256).toNat = q := by omega
    rw [e1, Int.toNat_natCast]
    omega
  rw [hk]
  simp (disch := (first | omega | (simp only [List.length_set, List.length_append, List.length_cons, List.length_nil, List.length_take, List.length_drop, List.length_map, List.length_replicate]; omega))) only [↓pvd, pv0, pv1, pv2, pv3, pv4, pv5, pv6, pv7, pvc0, pvc1, pvc2, buildC, evP, evR, evE, Pv.get, Pv.put, putO, bin2, int2, binB2, un1, cells, boundO, AV.flat, bv, rowOne, rvs_1, rvs_2, rvL, rvX, liveB, setParts, szOk, notStr, lim, dedup, place, ent, Pv.new, Pv.newVar, Pv.newVec, setCells, AV.ones, AV.one, resX, entry, layL, layC, layA, lay, List.map, List.foldl, List.replicate, ↓reduceIte, reduceCtorEq, Nat.reduceEqDiff, Nat.reduceLT, Nat.reduceLeDiff, Nat.reduceAdd, Nat.reduceSub, Nat.reduceMul, Nat.reducePow, Nat.reduceDiv, Nat.reduceMod, Nat.reduceBEq, Nat.reduceBNe, Int.reduceLT, Int.reduceLE, Int.reduceToNat, Int.reduceAdd, Int.reduceSub, Int.reduceMul, Int.reduceNeg, Int.reducePow, Int.reduceEq, Int.reduceNe, Int.reduceDiv, Int.reduceMod, Int.reduceTDiv, Int.reduceTMod, UInt8.reduceToNat, UInt8.reduceOfNat, hj, hX]
  have hb' := bys_set (b := all) (k := k) (n := ((all[k]!.toNat ^^^ 2 ^ j : Nat) : Int)) (by omega) (by omega)
  rw [hb']
  have hv : (u8i ((all[k]!.toNat ^^^ 2 ^ j : Nat) : Int)).toNat = all[k]!.toNat ^^^ 2 ^ j := by have := u8i_nat (n := ((all[k]!.toNat ^^^ 2 ^ j : Nat) : Int)); omega
  have ht := turned all k j (u8i ((all[k]!.toNat ^^^ 2 ^ j : Nat) : Int)) (by omega) hj' hall (by rw [hv]; exact hx.2)
  have hc : (all.set k (u8i ((all[k]!.toNat ^^^ 2 ^ j : Nat) : Int))).length = b.length + 2 := by rw [List.length_set]; exact hl
  generalize all.set k (u8i ((all[k]!.toNat ^^^ 2 ^ j : Nat) : Int)) = c at *
  refine awR_callR (ms := []) (sum_right_run c false (by omega)) (by simp (disch := (first | omega | (simp only [List.length_set, List.length_append, List.length_cons, List.length_nil, List.length_take, List.length_drop, List.length_map, List.length_replicate] at *; omega))) only [↓pvd, pv0, pv1, pv2, pv3, pv4, pv5, pv6, pv7, pvc0, pvc1, pvc2, buildC, evP, evR, evE, Pv.get, Pv.put, putO, bin2, int2, binB2, un1, cells, boundO, AV.flat, bv, rowOne, rvs_1, rvs_2, rvL, rvX, liveB, setParts, szOk, notStr, lim, dedup, place, ent, Pv.new, Pv.newVar, Pv.newVec, setCells, AV.ones, AV.one, resX, entry, layL, layC, layA, lay, List.map, List.foldl, List.replicate, ↓reduceIte, reduceCtorEq, Nat.reduceEqDiff, Nat.reduceLT, Nat.reduceLeDiff, Nat.reduceAdd, Nat.reduceSub, Nat.reduceMul, Nat.reducePow, Nat.reduceDiv, Nat.reduceMod, Nat.reduceBEq, Nat.reduceBNe, Int.reduceLT, Int.reduceLE, Int.reduceToNat, Int.reduceAdd, Int.reduceSub, Int.reduceMul, Int.reduceNeg, Int.reducePow, Int.reduceEq, Int.reduceNe, Int.reduceDiv, Int.reduceMod, Int.reduceTDiv, Int.reduceTMod, UInt8.reduceToNat, UInt8.reduceOfNat]; rfl) (by simp (disch := (first | omega | (simp only [List.length_set, List.length_append, List.length_cons, List.length_nil, List.length_take, List.length_drop, List.length_map, List.length_replicate] at *; omega))) only [↓pvd, pv0, pv1, pv2, pv3, pv4, pv5, pv6, pv7, pvc0, pvc1, pvc2, buildC, evP, evR, evE, Pv.get, Pv.put, putO, bin2, int2, binB2, un1, cells, boundO, AV.flat, bv, rowOne, rvs_1, rvs_2, rvL, rvX, liveB, setParts, szOk, notStr, lim, dedup, place, ent, Pv.new, Pv.newVar, Pv.newVec, setCells, AV.ones, AV.one, resX, entry, layL, layC, layA, lay, List.map, List.foldl, List.replicate, ↓reduceIte, reduceCtorEq, Nat.reduceEqDiff, Nat.reduceLT, Nat.reduceLeDiff, Nat.reduceAdd, Nat.reduceSub, Nat.reduceMul, Nat.reducePow, Nat.reduceDiv, Nat.reduceMod, Nat.reduceBEq, Nat.reduceBNe, Int.reduceLT, Int.reduceLE, Int.reduceToNat, Int.reduceAdd, Int.reduceSub, Int.reduceMul, Int.reduceNeg, Int.reducePow, Int.reduceEq, Int.reduceNe, Int.reduceDiv, Int.reduceMod, Int.reduceTDiv, Int.reduceTMod, UInt8.reduceToNat, UInt8.reduceOfNat]) rfl ?_
  simp (disch := (first | omega | (simp only [List.length_set, List.length_append, List.length_cons, List.length_nil, List.length_take, List.length_drop, List.length_map, List.length_replicate]; omega))) only [↓pvd, pv0, pv1, pv2, pv3, pv4, pv5, pv6, pv7, pvc0, pvc1, pvc2, buildC, evP, evR, evE, Pv.get, Pv.put, putO, bin2, int2, binB2, un1, cells, boundO, AV.flat, bv, rowOne, rvs_1, rvs_2, rvL, rvX, liveB, setParts, szOk, notStr, lim, dedup, place, ent, Pv.new, Pv.newVar, Pv.newVec, setCells, AV.ones, AV.one, resX, entry, layL, layC, layA, lay, List.map, List.foldl, List.replicate, ↓reduceIte, reduceCtorEq, Nat.reduceEqDiff, Nat.reduceLT, Nat.reduceLeDiff, Nat.reduceAdd, Nat.reduceSub, Nat.reduceMul, Nat.reducePow, Nat.reduceDiv, Nat.reduceMod, Nat.reduceBEq, Nat.reduceBNe, Int.reduceLT, Int.reduceLE, Int.reduceToNat, Int.reduceAdd, Int.reduceSub, Int.reduceMul, Int.reduceNeg, Int.reducePow, Int.reduceEq, Int.reduceNe, Int.reduceDiv, Int.reduceMod, Int.reduceTDiv, Int.reduceTMod, UInt8.reduceToNat, UInt8.reduceOfNat, decide_f ht]
  refine Ends_r ?_ ?_ <;> rfl
theorem sumBack_all : ∀ xs, DatL Try.prog 6 Try.f5.params.toList xs → Run Try.prog 5 xs (.bool true) := by
  intro xs h
  rw [show Try.f5.params.toList = [22, 28, 5] from rfl] at h
  obtain ⟨y1, y2, y3, rfl, h1, h2, h3⟩ := datL3 h
  obtain ⟨b, rfl, _⟩ := dat_bys Try.underlying22 Try.underlying5 (by kernel_rfl) h1
  obtain ⟨a, rfl, wa⟩ := dat_int Try.underlying28 h2
  obtain ⟨c, rfl, wc⟩ := dat_int Try.underlying5 h3
  exact sumBack_run b a c (wf_u16 wa) (wf_u8 wc)
end Go.Proofs
