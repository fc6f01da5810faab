/- A part of the proofs of this seat: RcTag2. -/
import Derived.Test.YtimibefpfenelaaRcTag
set_option linter.unusedSimpArgs false
set_option linter.unusedVariables false
set_option maxHeartbeats 2000000
set_option maxRecDepth 20000
namespace Go.Proofs
open Go.Pv
theorem cons_of {n : Nat} {b : List UInt8} (h : n + 1 ≤ b.length) : ∃ x r, b = x :: r ∧ n ≤ r.length := by
  cases b with
  | nil => simp at h
  | cons x r => exact ⟨x, r, rfl, by simpa using h⟩
theorem u8i_of {n : Int} {x : UInt8} (h : n % 256 = x.toNat) : u8i n = x := by
  apply UInt8.toNat_inj.1
  have := u8i_nat (n := n)
  omega
theorem two_by2 (m : Int) (t : List UInt8) (h : 0 ≤ m ∧ m ≤ 65535) : two (by2 m ++ t) 0 = m := by
  have : two (by2 m ++ t) 0 = ((u8i (m / 256)).toNat : Int) * 256 + (u8i m).toNat := rfl
  rw [this, u8i_nat, u8i_nat]; omega
theorem by2_two (x y : UInt8) : by2 ((x.toNat : Int) * 256 + y.toNat) = [x, y] := by
  have h1 := x.toNat_lt
  have h2 := y.toNat_lt
  unfold by2; rw [u8i_of (x := x) (by omega), u8i_of (x := y) (by omega)]
theorem ad_st (p : Fm) (v q : Int) (h : (adF p v q).2 = 0) : stF (adF p v q).1 = (p, v, q, 0) ∧ adF (adF p v q).1 v q = (zFm, 15) ∧ (adF p v q).1.ty = 33024 ∧ (adF p v q).1.body.length ≤ 1504 := by
  obtain ⟨d, s, t, b⟩ := p
  unfold adF at h
  dsimp only at h
  by_cases c1 : t = 33024 ∨ v < 0 ∨ 4094 < v ∨ q < 0 ∨ 15 < q
  · rw [if_pos c1] at h; cases h
  rw [if_neg c1] at h
  by_cases c2 : t < 0 ∨ 65535 < t
  · rw [if_pos c2] at h; cases h
  rw [if_neg c2] at h
  by_cases c3 : 1500 < b.length
  · rw [if_pos c3] at h; cases h
  have e : adF ⟨d, s, t, b⟩ v q = (⟨d, s, 33024, by2 (q * 4096 + v) ++ by2 t ++ b⟩, 0) := by
    unfold adF; dsimp only; rw [if_neg c1, if_neg c2, if_neg c3]
  rw [e]
  dsimp only
  have t0 : two (by2 (q * 4096 + v) ++ by2 t ++ b) 0 = q * 4096 + v := by rw [List.append_assoc]; exact two_by2 _ _ (by omega)
  have t2 : two (by2 (q * 4096 + v) ++ by2 t ++ b) 2 = t := by
    have : two (by2 (q * 4096 + v) ++ by2 t ++ b) 2 = two (by2 t ++ b) 0 := rfl
    rw [this]; exact two_by2 _ _ (by omega)
  have hl : (by2 (q * 4096 + v) ++ by2 t ++ b).length = b.length + 4 := by simp [by2]
  have hd : (by2 (q * 4096 + v) ++ by2 t ++ b).drop 4 = b := rfl
  refine ⟨?_, ?_, rfl, by omega⟩
  · unfold stF
    dsimp only
    rw [t0, t2, hl, hd, if_neg (by simp), if_neg (by omega), if_neg (by omega)]
    have e1 : (q * 4096 + v) % 4096 = v := by omega
    have e2 : (q * 4096 + v) / 4096 = q := by omega
    rw [e1, e2]
  · unfold adF; rw [if_pos (.inl rfl)]
theorem st_ad (p : Fm) (hp : okF p) : ((stF p).2.2.2 ≠ 0 ∧ (stF p).1 = zFm ∧ (stF p).2.1 = 0 ∧ (stF p).2.2.1 = 0) ∨
    ((stF p).2.2.2 = 0 ∧ okF (stF p).1 ∧ (stF p).1.ty ≠ 33024 ∧ (0 ≤ (stF p).2.1 ∧ (stF p).2.1 ≤ 4095) ∧ (0 ≤ (stF p).2.2.1 ∧ (stF p).2.2.1 ≤ 15) ∧ adF (stF p).1 (stF p).2.1 (stF p).2.2.1 = if 1504 < p.body.length then (zFm, 14) else (p, 0)) := by
  obtain ⟨d, s, t, b⟩ := p
  obtain ⟨h1, h3, h5, h7⟩ := hp
  dsimp only at *
  unfold stF
  dsimp only
  by_cases c1 : t ≠ 33024
  · rw [if_pos c1]; exact .inl ⟨by simp, rfl, rfl, rfl⟩
  rw [if_neg c1]
  by_cases c2 : b.length < 4
  · rw [if_pos c2]; exact .inl ⟨by simp, rfl, rfl, rfl⟩
  rw [if_neg c2]
  by_cases c3 : two b 0 % 4096 = 4095 ∨ two b 2 = 33024
  · rw [if_pos c3]; exact .inl ⟨by simp, rfl, rfl, rfl⟩
  rw [if_neg c3]
  refine .inr ⟨rfl, ?_⟩
  have k0 := two_b b 0
  have k2 := two_b b 2
  dsimp only
  refine ⟨⟨h1, h3, by dsimp only; omega, by simp [maxLen] at *; omega⟩, by omega, by omega, by omega, ?_⟩
  unfold adF
  dsimp only
  rw [if_neg (by omega), if_neg (by omega)]
  have hl : (b.drop 4).length = b.length - 4 := by simp
  rw [hl]
  by_cases c4 : 1504 < b.length
  · rw [if_pos (by omega), if_pos c4]
  rw [if_neg (by omega), if_neg c4]
  have e : two b 0 / 4096 * 4096 + two b 0 % 4096 = two b 0 := by omega
  rw [e]
  obtain ⟨x0, r0, rfl, g0⟩ := cons_of (n := 3) (b := b) (by omega)
  obtain ⟨x1, r1, rfl, g1⟩ := cons_of (n := 2) g0
  obtain ⟨x2, r2, rfl, g2⟩ := cons_of (n := 1) g1
  obtain ⟨x3, r3, rfl, g3⟩ := cons_of (n := 0) g2
  have f0 : two (x0 :: x1 :: x2 :: x3 :: r3) 0 = (x0.toNat : Int) * 256 + x1.toNat := rfl
  have f2 : two (x0 :: x1 :: x2 :: x3 :: r3) 2 = (x2.toNat : Int) * 256 + x3.toNat := rfl
  rw [f0, f2, by2_two, by2_two]
  have : t = 33024 := by omega
  subst this
  rfl
theorem strip_runF (p : Fm) (f : Bool) (h : p.body.length ≤ 10000) : Run Try.prog 24 [fmR p f] (.tup [fmR (stF p).1 false, .int .i64 (stF p).2.1, .int .i64 (stF p).2.2.1, .int .i64 (stF p).2.2.2]) := run_frz (strip_run p f h)
theorem ref_strip_runF (p : Fm) (f : Bool) (h : p.body.length ≤ 10000) : Run Try.prog 25 [fmR p f] (.tup [fmR (stF p).1 false, .int .i64 (stF p).2.1, .int .i64 (stF p).2.2.1, .int .i64 (stF p).2.2.2]) := run_frz (ref_strip_run p f h)
theorem add_runF (p : Fm) (v q : Int) (f : Bool) (hk : okF p) (hv : -9223372036854775808 ≤ v ∧ v ≤ 9223372036854775807) (hq : -9223372036854775808 ≤ q ∧ q ≤ 9223372036854775807) : Run Try.prog 28 [fmR p f, .int .i64 v, .int .i64 q] (.tup [fmR (adF p v q).1 false, .int .i64 (adF p v q).2]) := run_frz (add_run p v q f hk hv hq)
theorem ref_add_runF (p : Fm) (v q : Int) (f : Bool) (hk : okF p) (hv : -9223372036854775808 ≤ v ∧ v ≤ 9223372036854775807) (hq : -9223372036854775808 ≤ q ∧ q ≤ 9223372036854775807) : Run Try.prog 29 [fmR p f, .int .i64 v, .int .i64 q] (.tup [fmR (adF p v q).1 false, .int .i64 (adF p v q).2]) := run_frz (ref_add_run p v q f hk hv hq)
theorem is_z_run : Run Try.prog 27 [fmZ] (.bool false) := by
  refine Try.run27 (by simp) ?_
  unfold Try.c27 fmZ
  simp (disch := (first | omega | (simp only [List.length_set, List.length_append, List.length_cons, List.length_nil, List.length_take, List.length_drop, List.length_map, List.length_replicate] at *; omega))) only [↓pvd, pv0, pv1, pv2, pv3, pv4, pv5, pv6, pv7, pvc0, pvc1, pvc2, buildC, evP, evR, evE, Pv.get, Pv.put, putO, bin2, int2, binB2, un1, cells, boundO, AV.flat, bv, rowOne, rvs_1, rvs_2, rvL, rvX, liveB, setParts, szOk, notStr, lim, dedup, place, ent, Pv.new, Pv.newVar, Pv.newVec, setCells, AV.ones, AV.one, resX, entry, layL, layC, layA, lay, List.map, List.foldl, List.replicate, List.length_replicate, ↓reduceIte, reduceCtorEq, Nat.reduceEqDiff, Nat.reduceLT, Nat.reduceLeDiff, Nat.reduceAdd, Nat.reduceSub, Nat.reduceMul, Nat.reducePow, Nat.reduceDiv, Nat.reduceMod, Nat.reduceBEq, Nat.reduceBNe, Int.reduceLT, Int.reduceLE, Int.reduceToNat, Int.reduceAdd, Int.reduceSub, Int.reduceMul, Int.reduceNeg, Int.reducePow, Int.reduceEq, Int.reduceNe, Int.reduceDiv, Int.reduceMod, Int.reduceTDiv, Int.reduceTMod, UInt8.reduceToNat, UInt8.reduceOfNat]
  (refine Ends_rq [] ?_; simp (disch := (first | omega | (simp only [List.length_set, List.length_append, List.length_cons, List.length_nil, List.length_take, List.length_drop, List.length_map, List.length_replicate]; omega))) only [↓pvd, pv0, pv1, pv2, pv3, pv4, pv5, pv6, pv7, pvc0, pvc1, pvc2, buildC, evP, evR, evE, Pv.get, Pv.put, putO, bin2, int2, binB2, un1, cells, boundO, AV.flat, bv, rowOne, rvs_1, rvs_2, rvL, rvX, liveB, setParts, szOk, notStr, lim, dedup, place, ent, Pv.new, Pv.newVar, Pv.newVec, setCells, AV.ones, AV.one, resX, entry, layL, layC, layA, lay, List.map, List.foldl, List.replicate, List.length_replicate, ↓reduceIte, reduceCtorEq, Nat.reduceEqDiff, Nat.reduceLT, Nat.reduceLeDiff, Nat.reduceAdd, Nat.reduceSub, Nat.reduceMul, Nat.reducePow, Nat.reduceDiv, Nat.reduceMod, Nat.reduceBEq, Nat.reduceBNe, Int.reduceLT, Int.reduceLE, Int.reduceToNat, Int.reduceAdd, Int.reduceSub, Int.reduceMul, Int.reduceNeg, Int.reducePow, Int.reduceEq, Int.reduceNe, Int.reduceDiv, Int.reduceMod, Int.reduceTDiv, Int.reduceTMod, UInt8.reduceToNat, UInt8.reduceOfNat]; exact ⟨_, rfl, rfl, rfl⟩)
theorem strip_z_run : Run Try.prog 24 [fmZ] (.tup [fmR zFm false, .int .i64 0, .int .i64 0, .int .i64 11]) := by
  refine run_frz (r := .tup [fmOw zFm, .int .i64 0, .int .i64 0, .int .i64 11]) ?_
  refine Try.run24 (by simp) ?_
  have q1 := is_z_run
  unfold Try.c24
  simp only [fmZ, fmOw, zFm] at *
  simp (disch := (first | omega | (simp only [List.length_set, List.length_append, List.length_cons, List.length_nil, List.length_take, List.length_drop, List.length_map, List.length_replicate] at *; omega))) only [↓pvd, pv0, pv1, pv2, pv3, pv4, pv5, pv6, pv7, pvc0, pvc1, pvc2, buildC, evP, evR, evE, Pv.get, Pv.put, putO, bin2, int2, binB2, un1, cells, boundO, AV.flat, bv, rowOne, rvs_1, rvs_2, rvL, rvX, liveB, setParts, szOk, notStr, lim, dedup, place, ent, Pv.new, Pv.newVar, Pv.newVec, setCells, AV.ones, AV.one, resX, entry, layL, layC, layA, lay, List.map, List.foldl, List.replicate, List.length_replicate, ↓reduceIte, reduceCtorEq, Nat.reduceEqDiff, Nat.reduceLT, Nat.reduceLeDiff, Nat.reduceAdd, Nat.reduceSub, Nat.reduceMul, Nat.reducePow, Nat.reduceDiv, Nat.reduceMod, Nat.reduceBEq, Nat.reduceBNe, Int.reduceLT, Int.reduceLE, Int.reduceToNat, Int.reduceAdd, Int.reduceSub, Int.reduceMul, Int.reduceNeg, Int.reducePow, Int.reduceEq, Int.reduceNe, Int.reduceDiv, Int.reduceMod, Int.reduceTDiv, Int.reduceTMod, UInt8.reduceToNat, UInt8.reduceOfNat]
  refine awR_call q1 rfl rfl ?_
  simp (disch := (first | omega | (simp only [List.length_set, List.length_append, List.length_cons, List.length_nil, List.length_take, List.length_drop, List.length_map, List.length_replicate] at *; omega))) only [↓pvd, pv0, pv1, pv2, pv3, pv4, pv5, pv6, pv7, pvc0, pvc1, pvc2, buildC, evP, evR, evE, Pv.get, Pv.put, putO, bin2, int2, binB2, un1, cells, boundO, AV.flat, bv, rowOne, rvs_1, rvs_2, rvL, rvX, liveB, setParts, szOk, notStr, lim, dedup, place, ent, Pv.new, Pv.newVar, Pv.newVec, setCells, AV.ones, AV.one, resX, entry, layL, layC, layA, lay, List.map, List.foldl, List.replicate, List.length_replicate, ↓reduceIte, reduceCtorEq, Nat.reduceEqDiff, Nat.reduceLT, Nat.reduceLeDiff, Nat.reduceAdd, Nat.reduceSub, Nat.reduceMul, Nat.reducePow, Nat.reduceDiv, Nat.reduceMod, Nat.reduceBEq, Nat.reduceBNe, Int.reduceLT, Int.reduceLE, Int.reduceToNat, Int.reduceAdd, Int.reduceSub, Int.reduceMul, Int.reduceNeg, Int.reducePow, Int.reduceEq, Int.reduceNe, Int.reduceDiv, Int.reduceMod, Int.reduceTDiv, Int.reduceTMod, UInt8.reduceToNat, UInt8.reduceOfNat]
  (refine EndsX_rq [[.snap, .snap, .snap, .own 1 5], [.snap], [.snap], [.snap]] ?_; simp (disch := (first | omega | (simp only [List.length_set, List.length_append, List.length_cons, List.length_nil, List.length_take, List.length_drop, List.length_map, List.length_replicate]; omega))) only [↓pvd, pv0, pv1, pv2, pv3, pv4, pv5, pv6, pv7, pvc0, pvc1, pvc2, buildC, evP, evR, evE, Pv.get, Pv.put, putO, bin2, int2, binB2, un1, cells, boundO, AV.flat, bv, rowOne, rvs_1, rvs_2, rvL, rvX, liveB, setParts, szOk, notStr, lim, dedup, place, ent, Pv.new, Pv.newVar, Pv.newVec, setCells, AV.ones, AV.one, resX, entry, layL, layC, layA, lay, List.map, List.foldl, List.replicate, List.length_replicate, ↓reduceIte, reduceCtorEq, Nat.reduceEqDiff, Nat.reduceLT, Nat.reduceLeDiff, Nat.reduceAdd, Nat.reduceSub, Nat.reduceMul, Nat.reducePow, Nat.reduceDiv, Nat.reduceMod, Nat.reduceBEq, Nat.reduceBNe, Int.reduceLT, Int.reduceLE, Int.reduceToNat, Int.reduceAdd, Int.reduceSub, Int.reduceMul, Int.reduceNeg, Int.reducePow, Int.reduceEq, Int.reduceNe, Int.reduceDiv, Int.reduceMod, Int.reduceTDiv, Int.reduceTMod, UInt8.reduceToNat, UInt8.reduceOfNat]; exact ⟨_, rfl, rfl, rfl⟩)
theorem works_tag : Run Try.prog 23 [] (.bool true) := by
  refine Try.run23 (by simp) ?_
  unfold Try.c23
  have q1 := add_runF ⟨0, 0, 2048, [120]⟩ 10 0 false ⟨by decide, by decide, by decide, by decide⟩ (by decide) (by decide)
  rw [show adF ⟨0, 0, 2048, [120]⟩ 10 0 = (⟨0, 0, 33024, [0, 10, 8, 0, 120]⟩, 0) by decide] at q1
  have q2 := strip_z_run
  have q3 := is_run ⟨0, 0, 33024, [0, 10, 8, 0, 120]⟩ false
  simp only [fmR, fmC, fmZ, zFm, bys, List.map] at q1 q2 q3
  have eb : toBytes [.int .u8 0, .int .u8 10, .int .u8 8, .int .u8 0, .int .u8 120] = some [0, 10, 8, 0, 120] := rfl
  repeat' (first | (simp (disch := (first | omega | (simp only [List.length_set, List.length_append, List.length_cons, List.length_nil, List.length_take, List.length_drop, List.length_map, List.length_replicate]; omega))) only [↓pvd, pv0, pv1, pv2, pv3, pv4, pv5, pv6, pv7, pvc0, pvc1, pvc2, buildC, evP, evR, evE, Pv.get, Pv.put, putO, bin2, int2, binB2, un1, cells, boundO, AV.flat, bv, rowOne, rvs_1, rvs_2, rvL, rvX, liveB, setParts, szOk, notStr, lim, dedup, place, ent, Pv.new, Pv.newVar, Pv.newVec, setCells, AV.ones, AV.one, resX, entry, layL, layC, layA, lay, List.map, List.foldl, List.replicate, List.length_replicate, ↓reduceIte, reduceCtorEq, Nat.reduceEqDiff, Nat.reduceLT, Nat.reduceLeDiff, Nat.reduceAdd, Nat.reduceSub, Nat.reduceMul, Nat.reducePow, Nat.reduceDiv, Nat.reduceMod, Nat.reduceBEq, Nat.reduceBNe, Int.reduceLT, Int.reduceLE, Int.reduceToNat, Int.reduceAdd, Int.reduceSub, Int.reduceMul, Int.reduceNeg, Int.reducePow, Int.reduceEq, Int.reduceNe, Int.reduceDiv, Int.reduceMod, Int.reduceTDiv, Int.reduceTMod, UInt8.reduceToNat, UInt8.reduceOfNat, eb, still]) | with_reducible refine condP_d (fun _ => ?_) (fun _ => ?_) | with_reducible refine guardP_d0 (fun _ => ?_) (fun _ => ?_) | with_reducible refine guardP_d1 (fun _ => ?_) (fun _ => ?_) | with_reducible refine condP_any ?_ ?_ | refine awR_callS (ms := []) q1 (by simp (disch := (first | omega | (simp only [List.length_set, List.length_append, List.length_cons, List.length_nil, List.length_take, List.length_drop, List.length_map, List.length_replicate]; omega))) only [↓pvd, pv0, pv1, pv2, pv3, pv4, pv5, pv6, pv7, pvc0, pvc1, pvc2, buildC, evP, evR, evE, Pv.get, Pv.put, putO, bin2, int2, binB2, un1, cells, boundO, AV.flat, bv, rowOne, rvs_1, rvs_2, rvL, rvX, liveB, setParts, szOk, notStr, lim, dedup, place, ent, Pv.new, Pv.newVar, Pv.newVec, setCells, AV.ones, AV.one, resX, entry, layL, layC, layA, lay, List.map, List.foldl, List.replicate, List.length_replicate, ↓reduceIte, reduceCtorEq, Nat.reduceEqDiff, Nat.reduceLT, Nat.reduceLeDiff, Nat.reduceAdd, Nat.reduceSub, Nat.reduceMul, Nat.reducePow, Nat.reduceDiv, Nat.reduceMod, Nat.reduceBEq, Nat.reduceBNe, Int.reduceLT, Int.reduceLE, Int.reduceToNat, Int.reduceAdd, Int.reduceSub, Int.reduceMul, Int.reduceNeg, Int.reducePow, Int.reduceEq, Int.reduceNe, Int.reduceDiv, Int.reduceMod, Int.reduceTDiv, Int.reduceTMod, UInt8.reduceToNat, UInt8.reduceOfNat, eb, still]; rfl) (by simp (disch := (first | omega | (simp only [List.length_set, List.length_append, List.length_cons, List.length_nil, List.length_take, List.length_drop, List.length_map, List.length_replicate]; omega))) only [↓pvd, pv0, pv1, pv2, pv3, pv4, pv5, pv6, pv7, pvc0, pvc1, pvc2, buildC, evP, evR, evE, Pv.get, Pv.put, putO, bin2, int2, binB2, un1, cells, boundO, AV.flat, bv, rowOne, rvs_1, rvs_2, rvL, rvX, liveB, setParts, szOk, notStr, lim, dedup, place, ent, Pv.new, Pv.newVar, Pv.newVec, setCells, AV.ones, AV.one, resX, entry, layL, layC, layA, lay, List.map, List.foldl, List.replicate, List.length_replicate, ↓reduceIte, reduceCtorEq, Nat.reduceEqDiff, Nat.reduceLT, Nat.reduceLeDiff, Nat.reduceAdd, Nat.reduceSub, Nat.reduceMul, Nat.reducePow, Nat.reduceDiv, Nat.reduceMod, Nat.reduceBEq, Nat.reduceBNe, Int.reduceLT, Int.reduceLE, Int.reduceToNat, Int.reduceAdd, Int.reduceSub, Int.reduceMul, Int.reduceNeg, Int.reducePow, Int.reduceEq, Int.reduceNe, Int.reduceDiv, Int.reduceMod, Int.reduceTDiv, Int.reduceTMod, UInt8.reduceToNat, UInt8.reduceOfNat, eb, still]) ?_ | refine awR_call q2 rfl rfl ?_ | refine awR_callD q2 rfl rfl (fun _ => rfl) ?_ | refine awR_callS (ms := []) q3 (by simp (disch := (first | omega | (simp only [List.length_set, List.length_append, List.length_cons, List.length_nil, List.length_take, List.length_drop, List.length_map, List.length_replicate]; omega))) only [↓pvd, pv0, pv1, pv2, pv3, pv4, pv5, pv6, pv7, pvc0, pvc1, pvc2, buildC, evP, evR, evE, Pv.get, Pv.put, putO, bin2, int2, binB2, un1, cells, boundO, AV.flat, bv, rowOne, rvs_1, rvs_2, rvL, rvX, liveB, setParts, szOk, notStr, lim, dedup, place, ent, Pv.new, Pv.newVar, Pv.newVec, setCells, AV.ones, AV.one, resX, entry, layL, layC, layA, lay, List.map, List.foldl, List.replicate, List.length_replicate, ↓reduceIte, reduceCtorEq, Nat.reduceEqDiff, Nat.reduceLT, Nat.reduceLeDiff, Nat.reduceAdd, Nat.reduceSub, Nat.reduceMul, Nat.reducePow, Nat.reduceDiv, Nat.reduceMod, Nat.reduceBEq, Nat.reduceBNe, Int.reduceLT, Int.reduceLE, Int.reduceToNat, Int.reduceAdd, Int.reduceSub, Int.reduceMul, Int.reduceNeg, Int.reducePow, Int.reduceEq, Int.reduceNe, Int.reduceDiv, Int.reduceMod, Int.reduceTDiv, Int.reduceTMod, UInt8.reduceToNat, UInt8.reduceOfNat, eb, still]; rfl) (by simp (disch := (first | omega | (simp only [List.length_set, List.length_append, List.length_cons, List.length_nil, List.length_take, List.length_drop, List.length_map, List.length_replicate]; omega))) only [↓pvd, pv0, pv1, pv2, pv3, pv4, pv5, pv6, pv7, pvc0, pvc1, pvc2, buildC, evP, evR, evE, Pv.get, Pv.put, putO, bin2, int2, binB2, un1, cells, boundO, AV.flat, bv, rowOne, rvs_1, rvs_2, rvL, rvX, liveB, setParts, szOk, notStr, lim, dedup, place, ent, Pv.new, Pv.newVar, Pv.newVec, setCells, AV.ones, AV.one, resX, entry, layL, layC, layA, lay, List.map, List.foldl, List.replicate, List.length_replicate, ↓reduceIte, reduceCtorEq, Nat.reduceEqDiff, Nat.reduceLT, Nat.reduceLeDiff, Nat.reduceAdd, Nat.reduceSub, Nat.reduceMul, Nat.reducePow, Nat.reduceDiv, Nat.reduceMod, Nat.reduceBEq, Nat.reduceBNe, Int.reduceLT, Int.reduceLE, Int.reduceToNat, Int.reduceAdd, Int.reduceSub, Int.reduceMul, Int.reduceNeg, Int.reducePow, Int.reduceEq, Int.reduceNe, Int.reduceDiv, Int.reduceMod, Int.reduceTDiv, Int.reduceTMod, UInt8.reduceToNat, UInt8.reduceOfNat, eb, still]) ?_ | (refine Ends_rq [] ?_; simp (disch := (first | omega | (simp only [List.length_set, List.length_append, List.length_cons, List.length_nil, List.length_take, List.length_drop, List.length_map, List.length_replicate]; omega))) only [↓pvd, pv0, pv1, pv2, pv3, pv4, pv5, pv6, pv7, pvc0, pvc1, pvc2, buildC, evP, evR, evE, Pv.get, Pv.put, putO, bin2, int2, binB2, un1, cells, boundO, AV.flat, bv, rowOne, rvs_1, rvs_2, rvL, rvX, liveB, setParts, szOk, notStr, lim, dedup, place, ent, Pv.new, Pv.newVar, Pv.newVec, setCells, AV.ones, AV.one, resX, entry, layL, layC, layA, lay, List.map, List.foldl, List.replicate, List.length_replicate, ↓reduceIte, reduceCtorEq, Nat.reduceEqDiff, Nat.reduceLT, Nat.reduceLeDiff, Nat.reduceAdd, Nat.reduceSub, Nat.reduceMul, Nat.reducePow, Nat.reduceDiv, Nat.reduceMod, Nat.reduceBEq, Nat.reduceBNe, Int.reduceLT, Int.reduceLE, Int.reduceToNat, Int.reduceAdd, Int.reduceSub, Int.reduceMul, Int.reduceNeg, Int.reducePow, Int.reduceEq, Int.reduceNe, Int.reduceDiv, Int.reduceMod, Int.reduceTDiv, Int.reduceTMod, UInt8.reduceToNat, UInt8.reduceOfNat]; exact ⟨_, rfl, rfl, rfl⟩))
end Go.Proofs
