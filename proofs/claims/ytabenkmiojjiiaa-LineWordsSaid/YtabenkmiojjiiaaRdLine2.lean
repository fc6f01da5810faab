/- A part of the proofs of this seat: RdLine2. -/
import Derived.Test.YtabenkmiojjiiaaRdLine1
set_option linter.unusedSimpArgs false
set_option linter.unusedVariables false
set_option maxHeartbeats 2000000
set_option maxRecDepth 20000
namespace Go.Proofs
open Go.Pv
/-- The text before the first such byte, what is behind it, and whether it is there. -/
def cutV (s : List UInt8) (c : UInt8) : List UInt8 × List UInt8 × Bool :=
  if Lib.indexByte s c = -1 then (s, [], false) else (s.take (Lib.indexByte s c).toNat, s.drop ((Lib.indexByte s c).toNat + 1), true)
theorem cutl_run (s : List UInt8) (c : UInt8) (hs : s.length ≤ 100000) : Run Try.prog 71 [.str s, .str [c]] (.tup [.str (cutV s c).1, .str (cutV s c).2.1, .bool (cutV s c).2.2]) := by
  have q := index1_run s c
  have hb := ib_b s c
  refine Try.run71 (by simp) ?_
  unfold Try.c71
  unfold cutV
  by_cases h : Lib.indexByte s c = -1
  · rw [if_pos h]
    rw [h] at q
    repeat' (first | (simp (disch := (first | omega | (simp only [List.length_set, List.length_append, List.length_cons, List.length_nil, List.length_take, List.length_drop, List.length_map, List.length_replicate]; omega))) only [↓pvd, pv0, pv1, pv2, pv3, pv4, pv5, pv6, pv7, pvc0, pvc1, pvc2, buildC, evP, evR, evE, Pv.get, Pv.put, putO, bin2, int2, binB2, un1, cells, boundO, AV.flat, bv, rowOne, rvs_1, rvs_2, rvL, rvX, liveB, setParts, szOk, notStr, lim, dedup, place, ent, Pv.new, Pv.newVar, Pv.newVec, setCells, AV.ones, AV.one, resX, entry, layL, layC, layA, lay, List.map, List.foldl, List.replicate, List.length_replicate, ↓reduceIte, reduceCtorEq, Nat.reduceEqDiff, Nat.reduceLT, Nat.reduceLeDiff, Nat.reduceAdd, Nat.reduceSub, Nat.reduceMul, Nat.reducePow, Nat.reduceDiv, Nat.reduceMod, Nat.reduceBEq, Nat.reduceBNe, Int.reduceLT, Int.reduceLE, Int.reduceToNat, Int.reduceAdd, Int.reduceSub, Int.reduceMul, Int.reduceNeg, Int.reducePow, Int.reduceEq, Int.reduceNe, Int.reduceDiv, Int.reduceMod, Int.reduceTDiv, Int.reduceTMod, UInt8.reduceToNat, UInt8.reduceOfNat, still]) | with_reducible refine condP_d (fun _ => ?_) (fun _ => ?_) | with_reducible refine guardP_d0 (fun _ => ?_) (fun _ => ?_) | with_reducible refine guardP_d1 (fun _ => ?_) (fun _ => ?_) | with_reducible refine condP_any ?_ ?_ | refine awR_call q rfl rfl ?_ | refine awR_callD q rfl rfl (fun _ => rfl) ?_ | (refine Ends_rq [] ?_; simp (disch := (first | omega | (simp only [List.length_set, List.length_append, List.length_cons, List.length_nil, List.length_take, List.length_drop, List.length_map, List.length_replicate]; omega))) only [↓pvd, pv0, pv1, pv2, pv3, pv4, pv5, pv6, pv7, pvc0, pvc1, pvc2, buildC, evP, evR, evE, Pv.get, Pv.put, putO, bin2, int2, binB2, un1, cells, boundO, AV.flat, bv, rowOne, rvs_1, rvs_2, rvL, rvX, liveB, setParts, szOk, notStr, lim, dedup, place, ent, Pv.new, Pv.newVar, Pv.newVec, setCells, AV.ones, AV.one, resX, entry, layL, layC, layA, lay, List.map, List.foldl, List.replicate, List.length_replicate, ↓reduceIte, reduceCtorEq, Nat.reduceEqDiff, Nat.reduceLT, Nat.reduceLeDiff, Nat.reduceAdd, Nat.reduceSub, Nat.reduceMul, Nat.reducePow, Nat.reduceDiv, Nat.reduceMod, Nat.reduceBEq, Nat.reduceBNe, Int.reduceLT, Int.reduceLE, Int.reduceToNat, Int.reduceAdd, Int.reduceSub, Int.reduceMul, Int.reduceNeg, Int.reducePow, Int.reduceEq, Int.reduceNe, Int.reduceDiv, Int.reduceMod, Int.reduceTDiv, Int.reduceTMod, UInt8.reduceToNat, UInt8.reduceOfNat]; exact ⟨_, rfl, rfl, rfl⟩))
  · rw [if_neg h]
    obtain ⟨o, ho⟩ : ∃ o : Nat, Lib.indexByte s c = o := ⟨_, (Int.toNat_of_nonneg (by omega)).symm⟩
    rw [ho] at q
    rw [ho]
    have : o < s.length := by omega
    clear h hb
    repeat' (first | (simp (disch := (first | omega | (simp only [List.length_set, List.length_append, List.length_cons, List.length_nil, List.length_take, List.length_drop, List.length_map, List.length_replicate]; omega))) only [↓pvd, pv0, pv1, pv2, pv3, pv4, pv5, pv6, pv7, pvc0, pvc1, pvc2, buildC, evP, evR, evE, Pv.get, Pv.put, putO, bin2, int2, binB2, un1, cells, boundO, AV.flat, bv, rowOne, rvs_1, rvs_2, rvL, rvX, liveB, setParts, szOk, notStr, lim, dedup, place, ent, Pv.new, Pv.newVar, Pv.newVec, setCells, AV.ones, AV.one, resX, entry, layL, layC, layA, lay, List.map, List.foldl, List.replicate, List.length_replicate, ↓reduceIte, reduceCtorEq, Nat.reduceEqDiff, Nat.reduceLT, Nat.reduceLeDiff, Nat.reduceAdd, Nat.reduceSub, Nat.reduceMul, Nat.reducePow, Nat.reduceDiv, Nat.reduceMod, Nat.reduceBEq, Nat.reduceBNe, Int.reduceLT, Int.reduceLE, Int.reduceToNat, Int.reduceAdd, Int.reduceSub, Int.reduceMul, Int.reduceNeg, Int.reducePow, Int.reduceEq, Int.reduceNe, Int.reduceDiv, Int.reduceMod, Int.reduceTDiv, Int.reduceTMod, UInt8.reduceToNat, UInt8.reduceOfNat, still]) | with_reducible refine condP_d (fun _ => ?_) (fun _ => ?_) | with_reducible refine guardP_d0 (fun _ => ?_) (fun _ => ?_) | with_reducible refine guardP_d1 (fun _ => ?_) (fun _ => ?_) | with_reducible refine condP_any ?_ ?_ | refine awR_call q rfl rfl ?_ | refine awR_callD q rfl rfl (fun _ => rfl) ?_ | (refine Ends_rq [] ?_; simp (disch := (first | omega | (simp only [List.length_set, List.length_append, List.length_cons, List.length_nil, List.length_take, List.length_drop, List.length_map, List.length_replicate]; omega))) only [↓pvd, pv0, pv1, pv2, pv3, pv4, pv5, pv6, pv7, pvc0, pvc1, pvc2, buildC, evP, evR, evE, Pv.get, Pv.put, putO, bin2, int2, binB2, un1, cells, boundO, AV.flat, bv, rowOne, rvs_1, rvs_2, rvL, rvX, liveB, setParts, szOk, notStr, lim, dedup, place, ent, Pv.new, Pv.newVar, Pv.newVec, setCells, AV.ones, AV.one, resX, entry, layL, layC, layA, lay, List.map, List.foldl, List.replicate, List.length_replicate, ↓reduceIte, reduceCtorEq, Nat.reduceEqDiff, Nat.reduceLT, Nat.reduceLeDiff, Nat.reduceAdd, Nat.reduceSub, Nat.reduceMul, Nat.reducePow, Nat.reduceDiv, Nat.reduceMod, Nat.reduceBEq, Nat.reduceBNe, Int.reduceLT, Int.reduceLE, Int.reduceToNat, Int.reduceAdd, Int.reduceSub, Int.reduceMul, Int.reduceNeg, Int.reducePow, Int.reduceEq, Int.reduceNe, Int.reduceDiv, Int.reduceMod, Int.reduceTDiv, Int.reduceTMod, UInt8.reduceToNat, UInt8.reduceOfNat]; exact ⟨_, rfl, rfl, rfl⟩))
theorem cut_run (s : List UInt8) (c : UInt8) (hs : s.length ≤ 100000) : Run Try.prog 60 [.str s, .str [c]] (.tup [.str (cutV s c).1, .str (cutV s c).2.1, .bool (cutV s c).2.2]) := by
  have q := cutl_run s c hs
  refine Try.run60 (by simp) ?_
  unfold Try.c60
  repeat' (first | (simp (disch := (first | omega | (simp only [List.length_set, List.length_append, List.length_cons, List.length_nil, List.length_take, List.length_drop, List.length_map, List.length_replicate]; omega))) only [↓pvd, pv0, pv1, pv2, pv3, pv4, pv5, pv6, pv7, pvc0, pvc1, pvc2, buildC, evP, evR, evE, Pv.get, Pv.put, putO, bin2, int2, binB2, un1, cells, boundO, AV.flat, bv, rowOne, rvs_1, rvs_2, rvL, rvX, liveB, setParts, szOk, notStr, lim, dedup, place, ent, Pv.new, Pv.newVar, Pv.newVec, setCells, AV.ones, AV.one, resX, entry, layL, layC, layA, lay, List.map, List.foldl, List.replicate, List.length_replicate, ↓reduceIte, reduceCtorEq, Nat.reduceEqDiff, Nat.reduceLT, Nat.reduceLeDiff, Nat.reduceAdd, Nat.reduceSub, Nat.reduceMul, Nat.reducePow, Nat.reduceDiv, Nat.reduceMod, Nat.reduceBEq, Nat.reduceBNe, Int.reduceLT, Int.reduceLE, Int.reduceToNat, Int.reduceAdd, Int.reduceSub, Int.reduceMul, Int.reduceNeg, Int.reducePow, Int.reduceEq, Int.reduceNe, Int.reduceDiv, Int.reduceMod, Int.reduceTDiv, Int.reduceTMod, UInt8.reduceToNat, UInt8.reduceOfNat, still]) | with_reducible refine condP_d (fun _ => ?_) (fun _ => ?_) | with_reducible refine guardP_d0 (fun _ => ?_) (fun _ => ?_) | with_reducible refine guardP_d1 (fun _ => ?_) (fun _ => ?_) | with_reducible refine condP_any ?_ ?_ | refine awR_call q rfl rfl ?_ | refine awR_callD q rfl rfl (fun _ => rfl) ?_ | (refine Ends_rq [] ?_; simp (disch := (first | omega | (simp only [List.length_set, List.length_append, List.length_cons, List.length_nil, List.length_take, List.length_drop, List.length_map, List.length_replicate]; omega))) only [↓pvd, pv0, pv1, pv2, pv3, pv4, pv5, pv6, pv7, pvc0, pvc1, pvc2, buildC, evP, evR, evE, Pv.get, Pv.put, putO, bin2, int2, binB2, un1, cells, boundO, AV.flat, bv, rowOne, rvs_1, rvs_2, rvL, rvX, liveB, setParts, szOk, notStr, lim, dedup, place, ent, Pv.new, Pv.newVar, Pv.newVec, setCells, AV.ones, AV.one, resX, entry, layL, layC, layA, lay, List.map, List.foldl, List.replicate, List.length_replicate, ↓reduceIte, reduceCtorEq, Nat.reduceEqDiff, Nat.reduceLT, Nat.reduceLeDiff, Nat.reduceAdd, Nat.reduceSub, Nat.reduceMul, Nat.reducePow, Nat.reduceDiv, Nat.reduceMod, Nat.reduceBEq, Nat.reduceBNe, Int.reduceLT, Int.reduceLE, Int.reduceToNat, Int.reduceAdd, Int.reduceSub, Int.reduceMul, Int.reduceNeg, Int.reducePow, Int.reduceEq, Int.reduceNe, Int.reduceDiv, Int.reduceMod, Int.reduceTDiv, Int.reduceTMod, UInt8.reduceToNat, UInt8.reduceOfNat]; exact ⟨_, rfl, rfl, rfl⟩))
/-- The rows of a text: what stands between bytes 10; a last one has bytes. -/
def spl : List UInt8 → List (List UInt8)
  | [] => []
  | c :: r => if c = 10 then [] :: spl r else match spl r with
    | [] => [[c]]
    | h :: t => (c :: h) :: t
theorem spl_hit : ∀ (a r : List UInt8), (∀ c ∈ a, c ≠ 10) → spl (a ++ 10 :: r) = a :: spl r
  | [], r, _ => by simp [spl]
  | c :: a, r, h => by
    have := spl_hit a r (fun x hx => h x (by simp [hx]))
    simp [spl, this, h c (by simp)]
theorem spl_miss : ∀ (a : List UInt8), (∀ c ∈ a, c ≠ 10) → a ≠ [] → spl a = [a]
  | [], _, h => absurd rfl h
  | [c], h, _ => by simp [spl, h c (by simp)]
  | c :: d :: a, h, _ => by
    have := spl_miss (d :: a) (fun x hx => h x (by simp_all)) (by simp)
    rw [spl, this]
    simp [h c (by simp)]
/-- The cut of a text at the first byte 10 gives its first row and the others. -/
theorem spl_cut (s : List UInt8) (hs : s ≠ []) : spl s = (cutV s 10).1 :: spl (cutV s 10).2.1 := by
  have hb := ib_b s 10
  unfold cutV
  by_cases h : Lib.indexByte s 10 = -1
  · rw [if_pos h]
    have := Lib.indexByte_none h
    rw [spl_miss s ?_ hs]
    · simp [spl]
    intro c hc e
    subst e
    obtain ⟨k, hk, e⟩ := List.mem_iff_getElem.1 hc
    exact this k (by rw [List.getElem?_eq_getElem hk, e])
  · rw [if_neg h]
    obtain ⟨o, ho⟩ : ∃ o : Nat, Lib.indexByte s 10 = o := ⟨_, (Int.toNat_of_nonneg (by omega)).symm⟩
    rw [ho]
    obtain ⟨h1, h2⟩ := Lib.indexByte_some ho
    obtain ⟨hl, h1⟩ := List.getElem?_eq_some_iff.1 h1
    have e : s = s.take o ++ 10 :: s.drop (o + 1) := by
      rw [← h1, ← List.drop_eq_getElem_cons hl, List.take_append_drop]
    have := spl_hit (s.take o) (s.drop (o + 1)) (fun c hc e => by
      subst e
      obtain ⟨k, hk, e⟩ := List.mem_iff_getElem.1 hc
      simp at hk e
      exact h2 k (by omega) (by rw [List.getElem?_eq_getElem (by omega), e]))
    rw [← e] at this
    simpa using this
theorem cut_len (s : List UInt8) (hs : s ≠ []) : (cutV s 10).2.1.length < s.length := by
  have := List.length_pos_iff.2 hs
  unfold cutV
  split
  · simpa using this
  · simp; omega
/-- The answer: the rows, or 3 of a text that is too great. -/
def rowsV (b : List UInt8) : List (List UInt8) × Int :=
  if 20000 < b.length ∨ 400 < (spl b).length then ([], 3) else (spl b, 0)
theorem spl_le : ∀ (s : List UInt8), (spl s).length ≤ s.length
  | [] => by simp [spl]
  | c :: r => by
    have := spl_le r
    rw [spl]
    split
    · simp; omega
    · split
      · simp
      · rename_i h t e
        rw [e] at this
        simp at this ⊢
        omega
end Go.Proofs
