/- A part of the proofs of this seat: RaUdp2. -/
import Derived.Test.YtneejmioiccdiaaRaUdp
import Derived.Test.YtneejmioiccdiaaRaSum2
set_option linter.unusedSimpArgs false
set_option linter.unusedVariables false
set_option maxHeartbeats 2000000
set_option maxRecDepth 20000
namespace Go.Proofs
open Go.Pv
theorem udpTakes_all : ∀ xs, DatL Try.prog 6 Try.f7.params.toList xs → Run Try.prog 7 xs (.bool true) := by
  intro xs h
  rw [show Try.f7.params.toList = [22, 32, 32] from rfl] at h
  obtain ⟨y1, y2, y3, rfl, h1, h2, h3⟩ := datL3 h
  obtain ⟨b, rfl, _⟩ := dat_bys Try.underlying22 Try.underlying5 (by kernel_rfl) h1
  obtain ⟨a, rfl, wa⟩ := dat_int Try.underlying32 h2
  obtain ⟨c, rfl, wc⟩ := dat_int Try.underlying32 h3
  have := wf_u64 wa
  have := wf_u64 wc
  have h := udpTakes_run b a.toNat c.toNat (by omega) (by omega)
  rw [Int.toNat_of_nonneg (by omega), Int.toNat_of_nonneg (by omega)] at h
  exact h
theorem udpPuts_all : ∀ xs, DatL Try.prog 6 Try.f8.params.toList xs → Run Try.prog 8 xs (.bool true) := by
  intro xs h
  rw [show Try.f8.params.toList = [3, 3, 22] from rfl] at h
  obtain ⟨y1, y2, y3, rfl, h1, h2, h3⟩ := datL3 h
  obtain ⟨b, rfl, _⟩ := dat_bys Try.underlying22 Try.underlying5 (by kernel_rfl) h3
  obtain ⟨a, rfl, wa⟩ := dat_int Try.underlying3 h1
  obtain ⟨c, rfl, wc⟩ := dat_int Try.underlying3 h2
  exact udpPuts_run a c b
/-! The plain law: there and back. -/
theorem two_app {a b : List UInt8} {n i : Nat} (h : a.length = n) : two (a ++ b) (n + i) = two b i := by
  subst h
  unfold two
  rw [List.getElem!_eq_getElem?_getD, List.getElem!_eq_getElem?_getD, List.getElem!_eq_getElem?_getD, List.getElem!_eq_getElem?_getD, Nat.add_assoc, List.getElem?_append_right (by omega), List.getElem?_append_right (by omega)]
  simp
theorem two_by2 {n : Int} {r : List UInt8} (h : 0 ≤ n) (h' : n ≤ 65535) : two (by2 n ++ r) 0 = n := by
  unfold two by2
  simp only [List.cons_append, List.nil_append, List.getElem!_cons_zero, Nat.zero_add, List.getElem!_cons_succ]
  rw [u8i_nat, u8i_nat]; omega
theorem by2_two {x y : UInt8} : by2 ((x.toNat : Int) * 256 + y.toNat) = [x, y] := by
  have hx := x.toNat_lt
  have hy := y.toNat_lt
  unfold by2
  have e1 : u8i (((x.toNat : Int) * 256 + y.toNat) / 256) = x := by
    apply UInt8.toNat_inj.1
    have := u8i_nat (n := ((x.toNat : Int) * 256 + y.toNat) / 256)
    omega
  have e2 : u8i ((x.toNat : Int) * 256 + y.toNat) = y := by
    apply UInt8.toNat_inj.1
    have := u8i_nat (n := (x.toNat : Int) * 256 + y.toNat)
    omega
  rw [e1, e2]
theorem udp_there (s d : Int) (body tail : List UInt8) (hs : 0 ≤ s ∧ s ≤ 65535) (hd : 0 ≤ d ∧ d ≤ 65535) (hb : body.length ≤ 1472) :
    udpP s d body = (by2 s ++ by2 d ++ by2 (8 + body.length) ++ by2 0 ++ body, 0) ∧ udpF (by2 s ++ by2 d ++ by2 (8 + body.length) ++ by2 0 ++ body ++ tail) = (s, d, body, 0) := by
  have e0 : two (by2 s ++ by2 d ++ by2 (8 + body.length) ++ by2 0 ++ body ++ tail) 0 = s := by
    simp only [List.append_assoc]; exact two_by2 hs.1 hs.2
  have e2 : two (by2 s ++ by2 d ++ by2 (8 + body.length) ++ by2 0 ++ body ++ tail) 2 = d := by
    simp only [List.append_assoc]; rw [two_app (n := 2) (i := 0) rfl]; exact two_by2 hd.1 hd.2
  have e4 : two (by2 s ++ by2 d ++ by2 (8 + body.length) ++ by2 0 ++ body ++ tail) 4 = 8 + body.length := by
    simp only [List.append_assoc]; rw [two_app (n := 2) (i := 2) rfl, two_app (n := 2) (i := 0) rfl]; exact two_by2 (by omega) (by omega)
  have e6 : two (by2 s ++ by2 d ++ by2 (8 + body.length) ++ by2 0 ++ body ++ tail) 6 = 0 := by
    simp only [List.append_assoc]; rw [two_app (n := 2) (i := 4) rfl, two_app (n := 2) (i := 2) rfl, two_app (n := 2) (i := 0) rfl]; exact two_by2 (by omega) (by omega)
  refine ⟨?_, ?_⟩
  · unfold udpP; rw [if_neg (by omega), if_neg (by omega)]
  · unfold udpF
    rw [e0, e2, e4, e6]
    rw [if_neg (by simp [by2]), if_neg (by omega), if_neg (by simp [by2]; omega), if_neg (by omega)]
    have e : ((8 : Int) + body.length).toNat = 8 + body.length := by omega
    rw [e]
    have e8 : by2 s ++ by2 d ++ by2 (8 + body.length) ++ by2 0 ++ body ++ tail = (by2 s ++ by2 d ++ by2 (8 + body.length) ++ by2 0) ++ (body ++ tail) := by simp
    have hl : (by2 s ++ by2 d ++ by2 (8 + body.length) ++ by2 0).length = 8 := rfl
    rw [e8]
    generalize by2 s ++ by2 d ++ by2 (8 + body.length) ++ by2 0 = H at *
    have t1 : (H ++ (body ++ tail)).take (8 + body.length) = H ++ body := by
      rw [List.take_append, hl, List.take_of_length_le (by omega), show 8 + body.length - 8 = body.length by omega, List.take_left]
    rw [t1, ← hl, List.drop_left]
theorem cons_of {n : Nat} {b : List UInt8} (h : n + 1 ≤ b.length) : ∃ x r, b = x :: r ∧ n ≤ r.length := by
  cases b with
  | nil => simp at h
  | cons x r => exact ⟨x, r, rfl, by simpa using h⟩
theorem udp_here (b : List UInt8) (h : (udpF b).2.2.2 = 0) : (udpF b).1 = two b 0 ∧ (udpF b).2.1 = two b 2 ∧ two b 4 = 8 + (udpF b).2.2.1.length ∧ two b 4 ≤ b.length ∧
    by2 (two b 0) ++ by2 (two b 2) ++ by2 (8 + (udpF b).2.2.1.length) ++ by2 0 ++ (udpF b).2.2.1 = b.take (two b 4).toNat := by
  unfold udpF at *
  split at h
  · simp at h
  split at h
  · simp at h
  split at h
  · simp at h
  split at h
  · simp at h
  rename_i h1 h2 h3 h4
  rw [if_neg h1, if_neg h2, if_neg h3, if_neg h4]
  have hl : ((b.take (two b 4).toNat).drop 8).length = (two b 4).toNat - 8 := by simp; omega
  have h6 : two b 6 = 0 := by omega
  refine ⟨rfl, rfl, by dsimp only; rw [hl]; omega, by omega, ?_⟩
  dsimp only
  have e4 : (8 : Int) + (((b.take (two b 4).toNat).drop 8).length : Nat) = two b 4 := by rw [hl]; omega
  rw [e4]
  generalize hn : (two b 4).toNat = n
  have hn8 : 8 ≤ n := by omega
  obtain ⟨x0, r0, rfl, g0⟩ := cons_of (n := 7) (b := b) (by omega)
  obtain ⟨x1, r1, rfl, g1⟩ := cons_of (n := 6) g0
  obtain ⟨x2, r2, rfl, g2⟩ := cons_of (n := 5) g1
  obtain ⟨x3, r3, rfl, g3⟩ := cons_of (n := 4) g2
  obtain ⟨x4, r4, rfl, g4⟩ := cons_of (n := 3) g3
  obtain ⟨x5, r5, rfl, g5⟩ := cons_of (n := 2) g4
  obtain ⟨x6, r6, rfl, g6⟩ := cons_of (n := 1) g5
  obtain ⟨x7, r, rfl, g7⟩ := cons_of (n := 0) g6
  obtain ⟨m, rfl⟩ : ∃ m, n = m + 8 := ⟨n - 8, by omega⟩
  have f0 : two (x0 :: x1 :: x2 :: x3 :: x4 :: x5 :: x6 :: x7 :: r) 0 = (x0.toNat : Int) * 256 + x1.toNat := rfl
  have f2 : two (x0 :: x1 :: x2 :: x3 :: x4 :: x5 :: x6 :: x7 :: r) 2 = (x2.toNat : Int) * 256 + x3.toNat := rfl
  have f4 : two (x0 :: x1 :: x2 :: x3 :: x4 :: x5 :: x6 :: x7 :: r) 4 = (x4.toNat : Int) * 256 + x5.toNat := rfl
  have f6 : two (x0 :: x1 :: x2 :: x3 :: x4 :: x5 :: x6 :: x7 :: r) 6 = (x6.toNat : Int) * 256 + x7.toNat := rfl
  rw [f6] at h6
  have h7 : by2 0 = [x6, x7] := by rw [← h6]; exact by2_two
  rw [f0, f2, f4, by2_two, by2_two, by2_two, h7]
  simp
theorem udp_not (b : List UInt8) (h : (udpF b).2.2.2 ≠ 0) : (udpF b).1 = 0 ∧ (udpF b).2.1 = 0 ∧ (udpF b).2.2.1 = [] := by
  unfold udpF at *
  by_cases h1 : b.length < 8
  · rw [if_pos h1]; exact ⟨rfl, rfl, rfl⟩
  rw [if_neg h1] at h ⊢
  by_cases h2 : two b 4 < 8
  · rw [if_pos h2]; exact ⟨rfl, rfl, rfl⟩
  rw [if_neg h2] at h ⊢
  by_cases h3 : (b.length : Int) < two b 4
  · rw [if_pos h3]; exact ⟨rfl, rfl, rfl⟩
  rw [if_neg h3] at h ⊢
  by_cases h4 : two b 6 ≠ 0
  · rw [if_pos h4]; exact ⟨rfl, rfl, rfl⟩
  rw [if_neg h4] at h
  exact absurd rfl h
theorem udpBack_run (s d : Int) (body tail b : List UInt8) (hs : 0 ≤ s ∧ s ≤ 65535) (hd : 0 ≤ d ∧ d ≤ 65535) : Run Try.prog 9 [.int .u16 s, .int .u16 d, .sl 1 (bys body) false, .sl 1 (bys tail) false, .sl 1 (bys b) false] (.bool true) := by
  refine Try.run9 (by simp) ?_
  unfold Try.c9
  simp (disch := (first | omega | (simp only [List.length_set, List.length_append, List.length_cons, List.length_nil, List.length_take, List.length_drop, List.length_map, List.length_replicate] at *; omega))) only [↓pvd, pv0, pv1, pv2, pv3, pv4, pv5, pv6, pv7, pvc0, pvc1, pvc2, buildC, evP, evR, evE, Pv.get, Pv.put, putO, bin2, int2, binB2, un1, cells, boundO, AV.flat, bv, rowOne, rvs_1, rvs_2, rvL, rvX, liveB, setParts, szOk, notStr, lim, dedup, place, ent, Pv.new, Pv.newVar, Pv.newVec, setCells, AV.ones, AV.one, resX, entry, layL, layC, layA, lay, List.map, List.foldl, List.replicate, ↓reduceIte, reduceCtorEq, Nat.reduceEqDiff, Nat.reduceLT, Nat.reduceLeDiff, Nat.reduceAdd, Nat.reduceSub, Nat.reduceMul, Nat.reducePow, Nat.reduceDiv, Nat.reduceMod, Nat.reduceBEq, Nat.reduceBNe, Int.reduceLT, Int.reduceLE, Int.reduceToNat, Int.reduceAdd, Int.reduceSub, Int.reduceMul, Int.reduceNeg, Int.reducePow, Int.reduceEq, Int.reduceNe, Int.reduceDiv, Int.reduceMod, Int.reduceTDiv, Int.reduceTMod, UInt8.reduceToNat, UInt8.reduceOfNat]
  refine awR_call udp_works rfl rfl ?_
  repeat' (first | simp (disch := (first | omega | (simp only [List.length_set, List.length_append, List.length_cons, List.length_nil, List.length_take, List.length_drop, List.length_map, List.length_replicate]; omega))) only [↓pvd, pv0, pv1, pv2, pv3, pv4, pv5, pv6, pv7, pvc0, pvc1, pvc2, buildC, evP, evR, evE, Pv.get, Pv.put, putO, bin2, int2, binB2, un1, cells, boundO, AV.flat, bv, rowOne, rvs_1, rvs_2, rvL, rvX, liveB, setParts, szOk, notStr, lim, dedup, place, ent, Pv.new, Pv.newVar, Pv.newVec, setCells, AV.ones, AV.one, resX, entry, layL, layC, layA, lay, List.map, List.foldl, List.replicate, ↓reduceIte, reduceCtorEq, Nat.reduceEqDiff, Nat.reduceLT, Nat.reduceLeDiff, Nat.reduceAdd, Nat.reduceSub, Nat.reduceMul, Nat.reducePow, Nat.reduceDiv, Nat.reduceMod, Nat.reduceBEq, Nat.reduceBNe, Int.reduceLT, Int.reduceLE, Int.reduceToNat, Int.reduceAdd, Int.reduceSub, Int.reduceMul, Int.reduceNeg, Int.reducePow, Int.reduceEq, Int.reduceNe, Int.reduceDiv, Int.reduceMod, Int.reduceTDiv, Int.reduceTMod, UInt8.reduceToNat, UInt8.reduceOfNat] | with_reducible refine condP_d (fun _ => ?_) (fun _ => ?_) | with_reducible refine guardP_d0 (fun _ => ?_) (fun _ => ?_) | with_reducible refine guardP_d1 (fun _ => ?_) (fun _ => ?_) | with_reducible refine condP_any ?_ ?_)
  all_goals first
    | ((refine Ends_rq [] ?_; simp (disch := (first | omega | (simp only [List.length_set, List.length_append, List.length_cons, List.length_nil, List.length_take, List.length_drop, List.length_map, List.length_replicate]; omega))) only [↓pvd, pv0, pv1, pv2, pv3, pv4, pv5, pv6, pv7, pvc0, pvc1, pvc2, buildC, evP, evR, evE, Pv.get, Pv.put, putO, bin2, int2, binB2, un1, cells, boundO, AV.flat, bv, rowOne, rvs_1, rvs_2, rvL, rvX, liveB, setParts, szOk, notStr, lim, dedup, place, ent, Pv.new, Pv.newVar, Pv.newVec, setCells, AV.ones, AV.one, resX, entry, layL, layC, layA, lay, List.map, List.foldl, List.replicate, ↓reduceIte, reduceCtorEq, Nat.reduceEqDiff, Nat.reduceLT, Nat.reduceLeDiff, Nat.reduceAdd, Nat.reduceSub, Nat.reduceMul, Nat.reducePow, Nat.reduceDiv, Nat.reduceMod, Nat.reduceBEq, Nat.reduceBNe, Int.reduceLT, Int.reduceLE, Int.reduceToNat, Int.reduceAdd, Int.reduceSub, Int.reduceMul, Int.reduceNeg, Int.reducePow, Int.reduceEq, Int.reduceNe, Int.reduceDiv, Int.reduceMod, Int.reduceTDiv, Int.reduceTMod, UInt8.reduceToNat, UInt8.reduceOfNat]; exact ⟨_, rfl, rfl, rfl⟩); done)
    | skip
  obtain ⟨hp, hf⟩ := udp_there s d body tail hs hd (by omega)
  refine awR_call (udp_put_run s d body false (by omega)) rfl rfl ?_
  rw [hp]
  have hl : (by2 s ++ by2 d ++ by2 (8 + body.length) ++ by2 0 ++ body).length = 8 + body.length := by simp [by2]; omega
  generalize by2 s ++ by2 d ++ by2 (8 + body.length) ++ by2 0 ++ body = c at *
  simp (disch := (first | omega | (simp only [List.length_set, List.length_append, List.length_cons, List.length_nil, List.length_take, List.length_drop, List.length_map, List.length_replicate]; omega))) only [↓pvd, pv0, pv1, pv2, pv3, pv4, pv5, pv6, pv7, pvc0, pvc1, pvc2, buildC, evP, evR, evE, Pv.get, Pv.put, putO, bin2, int2, binB2, un1, cells, boundO, AV.flat, bv, rowOne, rvs_1, rvs_2, rvL, rvX, liveB, setParts, szOk, notStr, lim, dedup, place, ent, Pv.new, Pv.newVar, Pv.newVec, setCells, AV.ones, AV.one, resX, entry, layL, layC, layA, lay, List.map, List.foldl, List.replicate, ↓reduceIte, reduceCtorEq, Nat.reduceEqDiff, Nat.reduceLT, Nat.reduceLeDiff, Nat.reduceAdd, Nat.reduceSub, Nat.reduceMul, Nat.reducePow, Nat.reduceDiv, Nat.reduceMod, Nat.reduceBEq, Nat.reduceBNe, Int.reduceLT, Int.reduceLE, Int.reduceToNat, Int.reduceAdd, Int.reduceSub, Int.reduceMul, Int.reduceNeg, Int.reducePow, Int.reduceEq, Int.reduceNe, Int.reduceDiv, Int.reduceMod, Int.reduceTDiv, Int.reduceTMod, UInt8.reduceToNat, UInt8.reduceOfNat, udpPR]
  have ht := udp_take_run (c ++ tail) false (by simp; omega)
  rw [hf] at ht
  refine awR_callS (ms := []) ht (by simp (disch := (first | omega | (simp only [List.length_set, List.length_append, List.length_cons, List.length_nil, List.length_take, List.length_drop, List.length_map, List.length_replicate] at *; omega))) only [↓pvd, pv0, pv1, pv2, pv3, pv4, pv5, pv6, pv7, pvc0, pvc1, pvc2, buildC, evP, evR, evE, Pv.get, Pv.put, putO, bin2, int2, binB2, un1, cells, boundO, AV.flat, bv, rowOne, rvs_1, rvs_2, rvL, rvX, liveB, setParts, szOk, notStr, lim, dedup, place, ent, Pv.new, Pv.newVar, Pv.newVec, setCells, AV.ones, AV.one, resX, entry, layL, layC, layA, lay, List.map, List.foldl, List.replicate, ↓reduceIte, reduceCtorEq, Nat.reduceEqDiff, Nat.reduceLT, Nat.reduceLeDiff, Nat.reduceAdd, Nat.reduceSub, Nat.reduceMul, Nat.reducePow, Nat.reduceDiv, Nat.reduceMod, Nat.reduceBEq, Nat.reduceBNe, Int.reduceLT, Int.reduceLE, Int.reduceToNat, Int.reduceAdd, Int.reduceSub, Int.reduceMul, Int.reduceNeg, Int.reducePow, Int.reduceEq, Int.reduceNe, Int.reduceDiv, Int.reduceMod, Int.reduceTDiv, Int.reduceTMod, UInt8.reduceToNat, UInt8.reduceOfNat]; rfl) (by simp (disch := (first | omega | (simp only [List.length_set, List.length_append, List.length_cons, List.length_nil, List.length_take, List.length_drop, List.length_map, List.length_replicate] at *; omega))) only [↓pvd, pv0, pv1, pv2, pv3, pv4, pv5, pv6, pv7, pvc0, pvc1, pvc2, buildC, evP, evR, evE, Pv.get, Pv.put, putO, bin2, int2, binB2, un1, cells, boundO, AV.flat, bv, rowOne, rvs_1, rvs_2, rvL, rvX, liveB, setParts, szOk, notStr, lim, dedup, place, ent, Pv.new, Pv.newVar, Pv.newVec, setCells, AV.ones, AV.one, resX, entry, layL, layC, layA, lay, List.map, List.foldl, List.replicate, ↓reduceIte, reduceCtorEq, Nat.reduceEqDiff, Nat.reduceLT, Nat.reduceLeDiff, Nat.reduceAdd, Nat.reduceSub, Nat.reduceMul, Nat.reducePow, Nat.reduceDiv, Nat.reduceMod, Nat.reduceBEq, Nat.reduceBNe, Int.reduceLT, Int.reduceLE, Int.reduceToNat, Int.reduceAdd, Int.reduceSub, Int.reduceMul, Int.reduceNeg, Int.reducePow, Int.reduceEq, Int.reduceNe, Int.reduceDiv, Int.reduceMod, Int.reduceTDiv, Int.reduceTMod, UInt8.reduceToNat, UInt8.reduceOfNat]) ?_
  simp (disch := (first | omega | (simp only [List.length_set, List.length_append, List.length_cons, List.length_nil, List.length_take, List.length_drop, List.length_map, List.length_replicate]; omega))) only [↓pvd, pv0, pv1, pv2, pv3, pv4, pv5, pv6, pv7, pvc0, pvc1, pvc2, buildC, evP, evR, evE, Pv.get, Pv.put, putO, bin2, int2, binB2, un1, cells, boundO, AV.flat, bv, rowOne, rvs_1, rvs_2, rvL, rvX, liveB, setParts, szOk, notStr, lim, dedup, place, ent, Pv.new, Pv.newVar, Pv.newVec, setCells, AV.ones, AV.one, resX, entry, layL, layC, layA, lay, List.map, List.foldl, List.replicate, ↓reduceIte, reduceCtorEq, Nat.reduceEqDiff, Nat.reduceLT, Nat.reduceLeDiff, Nat.reduceAdd, Nat.reduceSub, Nat.reduceMul, Nat.reducePow, Nat.reduceDiv, Nat.reduceMod, Nat.reduceBEq, Nat.reduceBNe, Int.reduceLT, Int.reduceLE, Int.reduceToNat, Int.reduceAdd, Int.reduceSub, Int.reduceMul, Int.reduceNeg, Int.reducePow, Int.reduceEq, Int.reduceNe, Int.reduceDiv, Int.reduceMod, Int.reduceTDiv, Int.reduceTMod, UInt8.reduceToNat, UInt8.reduceOfNat, udpR, still]
  refine awR_call (udp_take_run b false (by omega)) rfl rfl ?_
  simp (disch := (first | omega | (simp only [List.length_set, List.length_append, List.length_cons, List.length_nil, List.length_take, List.length_drop, List.length_map, List.length_replicate]; omega))) only [↓pvd, pv0, pv1, pv2, pv3, pv4, pv5, pv6, pv7, pvc0, pvc1, pvc2, buildC, evP, evR, evE, Pv.get, Pv.put, putO, bin2, int2, binB2, un1, cells, boundO, AV.flat, bv, rowOne, rvs_1, rvs_2, rvL, rvX, liveB, setParts, szOk, notStr, lim, dedup, place, ent, Pv.new, Pv.newVar, Pv.newVec, setCells, AV.ones, AV.one, resX, entry, layL, layC, layA, lay, List.map, List.foldl, List.replicate, ↓reduceIte, reduceCtorEq, Nat.reduceEqDiff, Nat.reduceLT, Nat.reduceLeDiff, Nat.reduceAdd, Nat.reduceSub, Nat.reduceMul, Nat.reducePow, Nat.reduceDiv, Nat.reduceMod, Nat.reduceBEq, Nat.reduceBNe, Int.reduceLT, Int.reduceLE, Int.reduceToNat, Int.reduceAdd, Int.reduceSub, Int.reduceMul, Int.reduceNeg, Int.reducePow, Int.reduceEq, Int.reduceNe, Int.reduceDiv, Int.reduceMod, Int.reduceTDiv, Int.reduceTMod, UInt8.reduceToNat, UInt8.reduceOfNat, udpR]
  refine condP_d (fun hn => ?_) (fun hn => ?_)
  · obtain ⟨n1, n2, n3⟩ := udp_not b hn
    simp (disch := (first | omega | (simp only [List.length_set, List.length_append, List.length_cons, List.length_nil, List.length_take, List.length_drop, List.length_map, List.length_replicate]; omega))) only [↓pvd, pv0, pv1, pv2, pv3, pv4, pv5, pv6, pv7, pvc0, pvc1, pvc2, buildC, evP, evR, evE, Pv.get, Pv.put, putO, bin2, int2, binB2, un1, cells, boundO, AV.flat, bv, rowOne, rvs_1, rvs_2, rvL, rvX, liveB, setParts, szOk, notStr, lim, dedup, place, ent, Pv.new, Pv.newVar, Pv.newVec, setCells, AV.ones, AV.one, resX, entry, layL, layC, layA, lay, List.map, List.foldl, List.replicate, ↓reduceIte, reduceCtorEq, Nat.reduceEqDiff, Nat.reduceLT, Nat.reduceLeDiff, Nat.reduceAdd, Nat.reduceSub, Nat.reduceMul, Nat.reducePow, Nat.reduceDiv, Nat.reduceMod, Nat.reduceBEq, Nat.reduceBNe, Int.reduceLT, Int.reduceLE, Int.reduceToNat, Int.reduceAdd, Int.reduceSub, Int.reduceMul, Int.reduceNeg, Int.reducePow, Int.reduceEq, Int.reduceNe, Int.reduceDiv, Int.reduceMod, Int.reduceTDiv, Int.reduceTMod, UInt8.reduceToNat, UInt8.reduceOfNat, n1, n2, n3]
    (refine Ends_rq [] ?_; simp (disch := (first | omega | (simp only [List.length_set, List.length_append, List.length_cons, List.length_nil, List.length_take, List.length_drop, List.length_map, List.length_replicate]; omega))) only [↓pvd, pv0, pv1, pv2, pv3, pv4, pv5, pv6, pv7, pvc0, pvc1, pvc2, buildC, evP, evR, evE, Pv.get, Pv.put, putO, bin2, int2, binB2, un1, cells, boundO, AV.flat, bv, rowOne, rvs_1, rvs_2, rvL, rvX, liveB, setParts, szOk, notStr, lim, dedup, place, ent, Pv.new, Pv.newVar, Pv.newVec, setCells, AV.ones, AV.one, resX, entry, layL, layC, layA, lay, List.map, List.foldl, List.replicate, ↓reduceIte, reduceCtorEq, Nat.reduceEqDiff, Nat.reduceLT, Nat.reduceLeDiff, Nat.reduceAdd, Nat.reduceSub, Nat.reduceMul, Nat.reducePow, Nat.reduceDiv, Nat.reduceMod, Nat.reduceBEq, Nat.reduceBNe, Int.reduceLT, Int.reduceLE, Int.reduceToNat, Int.reduceAdd, Int.reduceSub, Int.reduceMul, Int.reduceNeg, Int.reducePow, Int.reduceEq, Int.reduceNe, Int.reduceDiv, Int.reduceMod, Int.reduceTDiv, Int.reduceTMod, UInt8.reduceToNat, UInt8.reduceOfNat]; exact ⟨_, rfl, rfl, rfl⟩)
  · obtain ⟨k1, k2, k3, k4, k5⟩ := udp_here b (by omega)
    have b0 := two_b b 0
    have b2 := two_b b 2
    simp (disch := (first | omega | (simp only [List.length_set, List.length_append, List.length_cons, List.length_nil, List.length_take, List.length_drop, List.length_map, List.length_replicate] at *; omega))) only [↓pvd, pv0, pv1, pv2, pv3, pv4, pv5, pv6, pv7, pvc0, pvc1, pvc2, buildC, evP, evR, evE, Pv.get, Pv.put, putO, bin2, int2, binB2, un1, cells, boundO, AV.flat, bv, rowOne, rvs_1, rvs_2, rvL, rvX, liveB, setParts, szOk, notStr, lim, dedup, place, ent, Pv.new, Pv.newVar, Pv.newVec, setCells, AV.ones, AV.one, resX, entry, layL, layC, layA, lay, List.map, List.foldl, List.replicate, ↓reduceIte, reduceCtorEq, Nat.reduceEqDiff, Nat.reduceLT, Nat.reduceLeDiff, Nat.reduceAdd, Nat.reduceSub, Nat.reduceMul, Nat.reducePow, Nat.reduceDiv, Nat.reduceMod, Nat.reduceBEq, Nat.reduceBNe, Int.reduceLT, Int.reduceLE, Int.reduceToNat, Int.reduceAdd, Int.reduceSub, Int.reduceMul, Int.reduceNeg, Int.reducePow, Int.reduceEq, Int.reduceNe, Int.reduceDiv, Int.reduceMod, Int.reduceTDiv, Int.reduceTMod, UInt8.reduceToNat, UInt8.reduceOfNat]
    have hs' : Run Try.prog 25 [.int .u64 s, .int .u64 d] (.int .i64 (portF s d)) := port_run s d (by omega) (by omega)
    have hd' : Run Try.prog 25 [.int .u64 d, .int .u64 s] (.int .i64 (portF s d)) := by
      have := port_run d s (by omega) (by omega)
      have e : portF d s = portF s d := by unfold portF; rw [Nat.xor_comm]
      rw [e] at this; exact this
    have hpr : 49152 ≤ portF s d ∧ portF s d ≤ 65535 := by
      unfold portF
      have := Int.emod_nonneg ((s.toNat ^^^ d.toNat : Nat) : Int) (b := 16384) (by decide)
      have := Int.emod_lt_of_pos ((s.toNat ^^^ d.toNat : Nat) : Int) (b := 16384) (by decide)
      omega
    generalize portF s d = q at *
    rw [k1, k2]
    have hq := run_frz (udp_put_run (two b 0) (two b 2) (udpF b).2.2.1 false (by omega))
    generalize (udpF b).2.2.1 = z at *
    by_cases hz : 1472 < z.length
    · have e : udpP (two b 0) (two b 2) z = ([], 14) := by unfold udpP; rw [if_neg (by omega), if_pos hz]
      rw [e] at hq
      refine awR_call hq rfl rfl ?_
      simp (disch := (first | omega | (simp only [List.length_set, List.length_append, List.length_cons, List.length_nil, List.length_take, List.length_drop, List.length_map, List.length_replicate]; omega))) only [↓pvd, pv0, pv1, pv2, pv3, pv4, pv5, pv6, pv7, pvc0, pvc1, pvc2, buildC, evP, evR, evE, Pv.get, Pv.put, putO, bin2, int2, binB2, un1, cells, boundO, AV.flat, bv, rowOne, rvs_1, rvs_2, rvL, rvX, liveB, setParts, szOk, notStr, lim, dedup, place, ent, Pv.new, Pv.newVar, Pv.newVec, setCells, AV.ones, AV.one, resX, entry, layL, layC, layA, lay, List.map, List.foldl, List.replicate, ↓reduceIte, reduceCtorEq, Nat.reduceEqDiff, Nat.reduceLT, Nat.reduceLeDiff, Nat.reduceAdd, Nat.reduceSub, Nat.reduceMul, Nat.reducePow, Nat.reduceDiv, Nat.reduceMod, Nat.reduceBEq, Nat.reduceBNe, Int.reduceLT, Int.reduceLE, Int.reduceToNat, Int.reduceAdd, Int.reduceSub, Int.reduceMul, Int.reduceNeg, Int.reducePow, Int.reduceEq, Int.reduceNe, Int.reduceDiv, Int.reduceMod, Int.reduceTDiv, Int.reduceTMod, UInt8.reduceToNat, UInt8.reduceOfNat, udpPR, frz, frzA, frzC]
      refine awR_call hs' rfl rfl ?_
      simp (disch := (first | omega | (simp only [List.length_set, List.length_append, List.length_cons, List.length_nil, List.length_take, List.length_drop, List.length_map, List.length_replicate] at *; omega))) only [↓pvd, pv0, pv1, pv2, pv3, pv4, pv5, pv6, pv7, pvc0, pvc1, pvc2, buildC, evP, evR, evE, Pv.get, Pv.put, putO, bin2, int2, binB2, un1, cells, boundO, AV.flat, bv, rowOne, rvs_1, rvs_2, rvL, rvX, liveB, setParts, szOk, notStr, lim, dedup, place, ent, Pv.new, Pv.newVar, Pv.newVec, setCells, AV.ones, AV.one, resX, entry, layL, layC, layA, lay, List.map, List.foldl, List.replicate, ↓reduceIte, reduceCtorEq, Nat.reduceEqDiff, Nat.reduceLT, Nat.reduceLeDiff, Nat.reduceAdd, Nat.reduceSub, Nat.reduceMul, Nat.reducePow, Nat.reduceDiv, Nat.reduceMod, Nat.reduceBEq, Nat.reduceBNe, Int.reduceLT, Int.reduceLE, Int.reduceToNat, Int.reduceAdd, Int.reduceSub, Int.reduceMul, Int.reduceNeg, Int.reducePow, Int.reduceEq, Int.reduceNe, Int.reduceDiv, Int.reduceMod, Int.reduceTDiv, Int.reduceTMod, UInt8.reduceToNat, UInt8.reduceOfNat]
      refine awR_callD hd' rfl rfl (fun _ => rfl) ?_
      simp (disch := (first | omega | (simp only [List.length_set, List.length_append, List.length_cons, List.length_nil, List.length_take, List.length_drop, List.length_map, List.length_replicate] at *; omega))) only [↓pvd, pv0, pv1, pv2, pv3, pv4, pv5, pv6, pv7, pvc0, pvc1, pvc2, buildC, evP, evR, evE, Pv.get, Pv.put, putO, bin2, int2, binB2, un1, cells, boundO, AV.flat, bv, rowOne, rvs_1, rvs_2, rvL, rvX, liveB, setParts, szOk, notStr, lim, dedup, place, ent, Pv.new, Pv.newVar, Pv.newVec, setCells, AV.ones, AV.one, resX, entry, layL, layC, layA, lay, List.map, List.foldl, List.replicate, ↓reduceIte, reduceCtorEq, Nat.reduceEqDiff, Nat.reduceLT, Nat.reduceLeDiff, Nat.reduceAdd, Nat.reduceSub, Nat.reduceMul, Nat.reducePow, Nat.reduceDiv, Nat.reduceMod, Nat.reduceBEq, Nat.reduceBNe, Int.reduceLT, Int.reduceLE, Int.reduceToNat, Int.reduceAdd, Int.reduceSub, Int.reduceMul, Int.reduceNeg, Int.reducePow, Int.reduceEq, Int.reduceNe, Int.reduceDiv, Int.reduceMod, Int.reduceTDiv, Int.reduceTMod, UInt8.reduceToNat, UInt8.reduceOfNat]
      (refine Ends_rq [] ?_; simp (disch := (first | omega | (simp only [List.length_set, List.length_append, List.length_cons, List.length_nil, List.length_take, List.length_drop, List.length_map, List.length_replicate]; omega))) only [↓pvd, pv0, pv1, pv2, pv3, pv4, pv5, pv6, pv7, pvc0, pvc1, pvc2, buildC, evP, evR, evE, Pv.get, Pv.put, putO, bin2, int2, binB2, un1, cells, boundO, AV.flat, bv, rowOne, rvs_1, rvs_2, rvL, rvX, liveB, setParts, szOk, notStr, lim, dedup, place, ent, Pv.new, Pv.newVar, Pv.newVec, setCells, AV.ones, AV.one, resX, entry, layL, layC, layA, lay, List.map, List.foldl, List.replicate, ↓reduceIte, reduceCtorEq, Nat.reduceEqDiff, Nat.reduceLT, Nat.reduceLeDiff, Nat.reduceAdd, Nat.reduceSub, Nat.reduceMul, Nat.reducePow, Nat.reduceDiv, Nat.reduceMod, Nat.reduceBEq, Nat.reduceBNe, Int.reduceLT, Int.reduceLE, Int.reduceToNat, Int.reduceAdd, Int.reduceSub, Int.reduceMul, Int.reduceNeg, Int.reducePow, Int.reduceEq, Int.reduceNe, Int.reduceDiv, Int.reduceMod, Int.reduceTDiv, Int.reduceTMod, UInt8.reduceToNat, UInt8.reduceOfNat]; exact ⟨_, rfl, rfl, rfl⟩)
    · have e : udpP (two b 0) (two b 2) z = (b.take (two b 4).toNat, 0) := by unfold udpP; rw [if_neg (by omega), if_neg hz, k5]
      rw [e] at hq
      refine awR_call hq rfl rfl ?_
      simp (disch := (first | omega | (simp only [List.length_set, List.length_append, List.length_cons, List.length_nil, List.length_take, List.length_drop, List.length_map, List.length_replicate]; omega))) only [↓pvd, pv0, pv1, pv2, pv3, pv4, pv5, pv6, pv7, pvc0, pvc1, pvc2, buildC, evP, evR, evE, Pv.get, Pv.put, putO, bin2, int2, binB2, un1, cells, boundO, AV.flat, bv, rowOne, rvs_1, rvs_2, rvL, rvX, liveB, setParts, szOk, notStr, lim, dedup, place, ent, Pv.new, Pv.newVar, Pv.newVec, setCells, AV.ones, AV.one, resX, entry, layL, layC, layA, lay, List.map, List.foldl, List.replicate, ↓reduceIte, reduceCtorEq, Nat.reduceEqDiff, Nat.reduceLT, Nat.reduceLeDiff, Nat.reduceAdd, Nat.reduceSub, Nat.reduceMul, Nat.reducePow, Nat.reduceDiv, Nat.reduceMod, Nat.reduceBEq, Nat.reduceBNe, Int.reduceLT, Int.reduceLE, Int.reduceToNat, Int.reduceAdd, Int.reduceSub, Int.reduceMul, Int.reduceNeg, Int.reducePow, Int.reduceEq, Int.reduceNe, Int.reduceDiv, Int.reduceMod, Int.reduceTDiv, Int.reduceTMod, UInt8.reduceToNat, UInt8.reduceOfNat, udpPR, frz, frzA, frzC]
      refine awR_call hs' rfl rfl ?_
      have e4 : ((List.take (two b 4).toNat b).length : Int) = two b 4 := by rw [List.length_take]; omega
      simp (disch := (first | omega | (simp only [List.length_set, List.length_append, List.length_cons, List.length_nil, List.length_take, List.length_drop, List.length_map, List.length_replicate]; omega))) only [↓pvd, pv0, pv1, pv2, pv3, pv4, pv5, pv6, pv7, pvc0, pvc1, pvc2, buildC, evP, evR, evE, Pv.get, Pv.put, putO, bin2, int2, binB2, un1, cells, boundO, AV.flat, bv, rowOne, rvs_1, rvs_2, rvL, rvX, liveB, setParts, szOk, notStr, lim, dedup, place, ent, Pv.new, Pv.newVar, Pv.newVec, setCells, AV.ones, AV.one, resX, entry, layL, layC, layA, lay, List.map, List.foldl, List.replicate, ↓reduceIte, reduceCtorEq, Nat.reduceEqDiff, Nat.reduceLT, Nat.reduceLeDiff, Nat.reduceAdd, Nat.reduceSub, Nat.reduceMul, Nat.reducePow, Nat.reduceDiv, Nat.reduceMod, Nat.reduceBEq, Nat.reduceBNe, Int.reduceLT, Int.reduceLE, Int.reduceToNat, Int.reduceAdd, Int.reduceSub, Int.reduceMul, Int.reduceNeg, Int.reducePow, Int.reduceEq, Int.reduceNe, Int.reduceDiv, Int.reduceMod, Int.reduceTDiv, Int.reduceTMod, UInt8.reduceToNat, UInt8.reduceOfNat, e4]
      refine awR_callD hd' rfl rfl (fun _ => rfl) ?_
      simp (disch := (first | omega | (simp only [List.length_set, List.length_append, List.length_cons, List.length_nil, List.length_take, List.length_drop, List.length_map, List.length_replicate] at *; omega))) only [↓pvd, pv0, pv1, pv2, pv3, pv4, pv5, pv6, pv7, pvc0, pvc1, pvc2, buildC, evP, evR, evE, Pv.get, Pv.put, putO, bin2, int2, binB2, un1, cells, boundO, AV.flat, bv, rowOne, rvs_1, rvs_2, rvL, rvX, liveB, setParts, szOk, notStr, lim, dedup, place, ent, Pv.new, Pv.newVar, Pv.newVec, setCells, AV.ones, AV.one, resX, entry, layL, layC, layA, lay, List.map, List.foldl, List.replicate, ↓reduceIte, reduceCtorEq, Nat.reduceEqDiff, Nat.reduceLT, Nat.reduceLeDiff, Nat.reduceAdd, Nat.reduceSub, Nat.reduceMul, Nat.reducePow, Nat.reduceDiv, Nat.reduceMod, Nat.reduceBEq, Nat.reduceBNe, Int.reduceLT, Int.reduceLE, Int.reduceToNat, Int.reduceAdd, Int.reduceSub, Int.reduceMul, Int.reduceNeg, Int.reducePow, Int.reduceEq, Int.reduceNe, Int.reduceDiv, Int.reduceMod, Int.reduceTDiv, Int.reduceTMod, UInt8.reduceToNat, UInt8.reduceOfNat]
      (refine Ends_rq [] ?_; simp (disch := (first | omega | (simp only [List.length_set, List.length_append, List.length_cons, List.length_nil, List.length_take, List.length_drop, List.length_map, List.length_replicate]; omega))) only [↓pvd, pv0, pv1, pv2, pv3, pv4, pv5, pv6, pv7, pvc0, pvc1, pvc2, buildC, evP, evR, evE, Pv.get, Pv.put, putO, bin2, int2, binB2, un1, cells, boundO, AV.flat, bv, rowOne, rvs_1, rvs_2, rvL, rvX, liveB, setParts, szOk, notStr, lim, dedup, place, ent, Pv.new, Pv.newVar, Pv.newVec, setCells, AV.ones, AV.one, resX, entry, layL, layC, layA, lay, List.map, List.foldl, List.replicate, ↓reduceIte, reduceCtorEq, Nat.reduceEqDiff, Nat.reduceLT, Nat.reduceLeDiff, Nat.reduceAdd, Nat.reduceSub, Nat.reduceMul, Nat.reducePow, Nat.reduceDiv, Nat.reduceMod, Nat.reduceBEq, Nat.reduceBNe, Int.reduceLT, Int.reduceLE, Int.reduceToNat, Int.reduceAdd, Int.reduceSub, Int.reduceMul, Int.reduceNeg, Int.reducePow, Int.reduceEq, Int.reduceNe, Int.reduceDiv, Int.reduceMod, Int.reduceTDiv, Int.reduceTMod, UInt8.reduceToNat, UInt8.reduceOfNat]; exact ⟨_, rfl, rfl, rfl⟩)
theorem udpBack_all : ∀ xs, DatL Try.prog 6 Try.f9.params.toList xs → Run Try.prog 9 xs (.bool true) := by
  intro xs h
  rw [show Try.f9.params.toList = [28, 28, 22, 22, 22] from rfl] at h
  obtain ⟨y1, y2, y3, y4, y5, rfl, h1, h2, h3, h4, h5⟩ := datL5 h
  obtain ⟨a, rfl, wa⟩ := dat_int Try.underlying28 h1
  obtain ⟨c, rfl, wc⟩ := dat_int Try.underlying28 h2
  obtain ⟨b3, rfl, _⟩ := dat_bys Try.underlying22 Try.underlying5 (by kernel_rfl) h3
  obtain ⟨b4, rfl, _⟩ := dat_bys Try.underlying22 Try.underlying5 (by kernel_rfl) h4
  obtain ⟨b5, rfl, _⟩ := dat_bys Try.underlying22 Try.underlying5 (by kernel_rfl) h5
  exact udpBack_run a c b3 b4 b5 (wf_u16 wa) (wf_u16 wc)
end Go.Proofs
