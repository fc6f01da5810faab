/- A part of the proofs of this seat: ReNum9. -/
import Derived.Test.YtnomcclbfbbehaaReNum8
set_option linter.unusedSimpArgs false
set_option linter.unusedVariables false
set_option maxHeartbeats 2000000
set_option maxRecDepth 20000
namespace Go.Proofs
open Go.Pv
theorem txF_len (n : Int) (h : n.natAbs < 10000000000) : (txF n).length ≤ 11 := by
  have hl := digF_len n.natAbs 9 (by simpa using h)
  unfold txF
  split
  · rw [show (-n).toNat = n.natAbs by omega]; simp; omega
  · rw [show n.toNat = n.natAbs by omega]; omega
theorem numBack_run (n by_ : Int) (h0 : -2147483648 ≤ n) (h1 : n ≤ 2147483647) (h2 : 0 ≤ by_) (h3 : by_ ≤ 65535) :
    Run Try.prog 4 [.int .i32 n, .int .u16 by_] (.bool true) := by
  have w := works03
  have hl := txF_len n (by omega)
  have q1 := text_runx n (by omega) (by omega)
  have q2 := read_run (txF n) (n - by_) (n + by_) (by omega)
  have q3 := read_run (txF n) (n + 1) (n + 1 + by_) (by omega)
  have q4 := read_run (48 :: txF n) (-1099511627776) 1099511627776 (by simp; omega)
  rw [rd_tx n _ _ (by omega), if_neg (by omega), if_neg (by omega)] at q2
  rw [rd_tx n _ _ (by omega), if_pos (by omega)] at q3
  have h4 := rd_zero n (-1099511627776) 1099511627776
  unfold rdR at q2 q3 q4
  rw [h4] at q4
  dsimp only at q2 q3 q4
  generalize (rdF (48 :: txF n) (-1099511627776) 1099511627776).1 = z at *
  generalize txF n = t at *
  refine Try.run4 (by simp) ?_
  unfold Try.c4
  repeat' (first | (simp (disch := (first | omega | (simp only [List.length_set, List.length_append, List.length_cons, List.length_nil, List.length_take, List.length_drop, List.length_map, List.length_replicate]; omega))) only [↓pvd, pv0, pv1, pv2, pv3, pv4, pv5, pv6, pv7, pvc0, pvc1, pvc2, buildC, evP, evR, evE, Pv.get, Pv.put, putO, bin2, int2, binB2, un1, cells, boundO, AV.flat, bv, rowOne, rvs_1, rvs_2, rvL, rvX, liveB, setParts, szOk, notStr, lim, dedup, place, ent, Pv.new, Pv.newVar, Pv.newVec, setCells, AV.ones, AV.one, resX, entry, layL, layC, layA, lay, List.map, List.foldl, List.replicate, List.length_replicate, ↓reduceIte, reduceCtorEq, Nat.reduceEqDiff, Nat.reduceLT, Nat.reduceLeDiff, Nat.reduceAdd, Nat.reduceSub, Nat.reduceMul, Nat.reducePow, Nat.reduceDiv, Nat.reduceMod, Nat.reduceBEq, Nat.reduceBNe, Int.reduceLT, Int.reduceLE, Int.reduceToNat, Int.reduceAdd, Int.reduceSub, Int.reduceMul, Int.reduceNeg, Int.reducePow, Int.reduceEq, Int.reduceNe, Int.reduceDiv, Int.reduceMod, Int.reduceTDiv, Int.reduceTMod, UInt8.reduceToNat, UInt8.reduceOfNat, still]) | with_reducible refine condP_d (fun _ => ?_) (fun _ => ?_) | with_reducible refine guardP_d0 (fun _ => ?_) (fun _ => ?_) | with_reducible refine guardP_d1 (fun _ => ?_) (fun _ => ?_) | with_reducible refine condP_any ?_ ?_ | refine awR_call w rfl rfl ?_ | refine awR_callD w rfl rfl (fun _ => rfl) ?_ | refine awR_call q1 rfl rfl ?_ | refine awR_callD q1 rfl rfl (fun _ => rfl) ?_ | refine awR_call q2 rfl rfl ?_ | refine awR_callD q2 rfl rfl (fun _ => rfl) ?_ | refine awR_call q1 rfl rfl ?_ | refine awR_callD q1 rfl rfl (fun _ => rfl) ?_ | refine awR_call q3 rfl rfl ?_ | refine awR_callD q3 rfl rfl (fun _ => rfl) ?_ | refine awR_call q1 rfl rfl ?_ | refine awR_callD q1 rfl rfl (fun _ => rfl) ?_ | refine awR_call q4 rfl rfl ?_ | refine awR_callD q4 rfl rfl (fun _ => rfl) ?_ | (refine Ends_rq [] ?_; simp (disch := (first | omega | (simp only [List.length_set, List.length_append, List.length_cons, List.length_nil, List.length_take, List.length_drop, List.length_map, List.length_replicate]; omega))) only [↓pvd, pv0, pv1, pv2, pv3, pv4, pv5, pv6, pv7, pvc0, pvc1, pvc2, buildC, evP, evR, evE, Pv.get, Pv.put, putO, bin2, int2, binB2, un1, cells, boundO, AV.flat, bv, rowOne, rvs_1, rvs_2, rvL, rvX, liveB, setParts, szOk, notStr, lim, dedup, place, ent, Pv.new, Pv.newVar, Pv.newVec, setCells, AV.ones, AV.one, resX, entry, layL, layC, layA, lay, List.map, List.foldl, List.replicate, List.length_replicate, ↓reduceIte, reduceCtorEq, Nat.reduceEqDiff, Nat.reduceLT, Nat.reduceLeDiff, Nat.reduceAdd, Nat.reduceSub, Nat.reduceMul, Nat.reducePow, Nat.reduceDiv, Nat.reduceMod, Nat.reduceBEq, Nat.reduceBNe, Int.reduceLT, Int.reduceLE, Int.reduceToNat, Int.reduceAdd, Int.reduceSub, Int.reduceMul, Int.reduceNeg, Int.reducePow, Int.reduceEq, Int.reduceNe, Int.reduceDiv, Int.reduceMod, Int.reduceTDiv, Int.reduceTMod, UInt8.reduceToNat, UInt8.reduceOfNat]; exact ⟨_, rfl, rfl, rfl⟩))
theorem numBack_all : ∀ xs, DatL Try.prog 6 Try.f4.params.toList xs → Run Try.prog 4 xs (.bool true) := by
  intro xs h
  rw [show Try.f4.params.toList = [21, 28] from rfl] at h
  obtain ⟨y1, y2, rfl, h1, h2⟩ := datL2 h
  obtain ⟨n, rfl, wn⟩ := dat_int Try.underlying21 h1
  obtain ⟨b, rfl, wb⟩ := dat_int Try.underlying28 h2
  have e1 := wf_i32 wn
  have e2 := wf_u16 wb
  exact numBack_run n b e1.1 e1.2 e2.1 e2.2
end Go.Proofs
