/- The proofs of what the functions of this seat do. -/
import Derived.Test.YtnomcclbfbbehaaReCodeA
import Derived.Lib.Bytealg
import Derived.Lib.IndexLaws
/-
  The machine of plain values, 32: rows of plain elements; plain lists.
-/
set_option linter.unusedVariables false
namespace Go.Pv
theorem take_snoc {α : Type} [Inhabited α] {l : List α} {k : Nat} (h : k < l.length) : l.take (k + 1) = l.take k ++ [l[k]!] := by
  rw [List.take_succ_eq_append_getElem h]
  simp [h]
theorem take_next {α : Type} [Inhabited α] {l m : List α} {k : Nat} (h : l.take k = m.take k) (hl : k < l.length) (hm : k < m.length) (e : l[k]! = m[k]!) : l.take (k + 1) = m.take (k + 1) := by
  rw [take_snoc hl, take_snoc hm, h, e]
theorem take_ne {α : Type} [Inhabited α] {l m : List α} {k : Nat} (hl : k < l.length) (hm : k < m.length) (e : l[k]! ≠ m[k]!) : l ≠ m := by
  rintro rfl; exact e rfl
theorem take_full {α : Type} {l m : List α} {k : Nat} (h : l.take k = m.take k) (hl : l.length ≤ k) (hm : m.length ≤ k) : l = m := by
  rwa [List.take_of_length_le hl, List.take_of_length_le hm] at h
theorem snp_fn {hp : Hp} {n : Nat} {f : FuncId} {cs : List AV} : snap hp (n + 1) (.fn f cs) = (mapO (snap hp n) cs).map (.fn f) := (rfl)
theorem rws_fn {hp : Hp} {n : Nat} {f : FuncId} {cs : List AV} : rows hp (n + 1) (.fn f cs) = cs.flatMap (rows hp n) := (rfl)
theorem fi_stop {α : Type} [Inhabited α] {p : α → Bool} {l : List α} {k : Nat} (hk : k ≤ l.findIdx p) (hl : k < l.length) (h : p l[k]! = true) : l.findIdx p = k := by
  rcases Nat.lt_or_ge k (l.findIdx p) with hlt | hge
  · have := List.not_of_lt_findIdx hlt
    rw [getElem!_pos l k hl] at h
    rw [h] at this; cases this
  · omega
theorem fi_go {α : Type} [Inhabited α] {p : α → Bool} {l : List α} {k : Nat} (hk : k ≤ l.findIdx p) (hl : k < l.length) (h : p l[k]! = false) : k + 1 ≤ l.findIdx p := by
  rcases Nat.lt_or_ge k (l.findIdx p) with hlt | hge
  · exact hlt
  · have e : l.findIdx p = k := by omega
    have hw : l.findIdx p < l.length := by omega
    have := List.findIdx_getElem (xs := l) (p := p) (w := hw)
    rw [getElem!_pos l k hl] at h
    simp only [e] at this
    rw [h] at this; cases this
theorem fi_at {α : Type} [Inhabited α] {p : α → Bool} {l : List α} (h : l.findIdx p < l.length) : p l[l.findIdx p]! = true := by
  rw [getElem!_pos l _ h]; exact List.findIdx_getElem
theorem get_mem {α : Type} [Inhabited α] {l : List α} {k : Nat} (h : k < l.length) : l[k]! ∈ l := by
  rw [List.getElem!_eq_getElem?_getD, List.getElem?_eq_getElem h]; exact List.getElem_mem h
end Go.Pv

set_option linter.unusedSimpArgs false
set_option linter.unusedVariables false
set_option maxHeartbeats 2000000
set_option maxRecDepth 20000
namespace Go.Proofs
open Go.Pv
theorem u8b (c : UInt8) : c.toNat.toUInt8 = c := by simp
theorem ib_b (s : List UInt8) (c : UInt8) : -1 ≤ Lib.indexByte s c ∧ Lib.indexByte s c < s.length ∨ Lib.indexByte s c = -1 := by
  by_cases h : Lib.indexByte s c = -1
  · exact .inr h
  · have := Lib.indexByte_ge s c
    obtain ⟨o, ho⟩ : ∃ o : Nat, Lib.indexByte s c = o := ⟨_, (Int.toNat_of_nonneg (by omega)).symm⟩
    have := (Lib.indexByte_some ho).1
    have hl := (List.getElem?_eq_some_iff.1 this).1
    left; omega
theorem ixb_run (s : List UInt8) (c : UInt8) : Run Try.prog 64 [.str s, .int .u8 c.toNat] (.int .i64 (Lib.indexByte s c)) := by
  refine Try.run64 (by simp) ?_
  unfold Try.c64
  simp (disch := (first | omega | (simp only [List.length_set, List.length_append, List.length_cons, List.length_nil, List.length_take, List.length_drop, List.length_map, List.length_replicate]; omega))) only [↓pvd, pv0, pv1, pv2, pv3, pv4, pv5, pv6, pv7, pvc0, pvc1, pvc2, buildC, evP, evR, evE, Pv.get, Pv.put, putO, bin2, int2, binB2, un1, cells, boundO, AV.flat, bv, rowOne, pvf, rvs_1, rvs_2, rvL, rvX, liveB, setParts, szOk, notStr, lim, dedup, place, ent, Pv.new, Pv.newVar, Pv.newVec, setCells, AV.ones, AV.one, resX, entry, layL, layC, layA, lay, List.map, List.foldl, List.replicate, List.length_replicate, ↓reduceIte, reduceCtorEq, Nat.reduceEqDiff, Nat.reduceLT, Nat.reduceLeDiff, Nat.reduceAdd, Nat.reduceSub, Nat.reduceMul, Nat.reducePow, Nat.reduceDiv, Nat.reduceMod, Nat.reduceBEq, Nat.reduceBNe, Int.reduceLT, Int.reduceLE, Int.reduceToNat, Int.reduceAdd, Int.reduceSub, Int.reduceMul, Int.reduceNeg, Int.reducePow, Int.reduceEq, Int.reduceNe, Int.reduceDiv, Int.reduceMod, Int.reduceTDiv, Int.reduceTMod, UInt8.reduceToNat, UInt8.reduceOfNat, u8b]
  (refine Ends_rq [] ?_; simp (disch := (first | omega | (simp only [List.length_set, List.length_append, List.length_cons, List.length_nil, List.length_take, List.length_drop, List.length_map, List.length_replicate]; omega))) only [↓pvd, pv0, pv1, pv2, pv3, pv4, pv5, pv6, pv7, pvc0, pvc1, pvc2, buildC, evP, evR, evE, Pv.get, Pv.put, putO, bin2, int2, binB2, un1, cells, boundO, AV.flat, bv, rowOne, pvf, rvs_1, rvs_2, rvL, rvX, liveB, setParts, szOk, notStr, lim, dedup, place, ent, Pv.new, Pv.newVar, Pv.newVec, setCells, AV.ones, AV.one, resX, entry, layL, layC, layA, lay, List.map, List.foldl, List.replicate, List.length_replicate, ↓reduceIte, reduceCtorEq, Nat.reduceEqDiff, Nat.reduceLT, Nat.reduceLeDiff, Nat.reduceAdd, Nat.reduceSub, Nat.reduceMul, Nat.reducePow, Nat.reduceDiv, Nat.reduceMod, Nat.reduceBEq, Nat.reduceBNe, Int.reduceLT, Int.reduceLE, Int.reduceToNat, Int.reduceAdd, Int.reduceSub, Int.reduceMul, Int.reduceNeg, Int.reducePow, Int.reduceEq, Int.reduceNe, Int.reduceDiv, Int.reduceMod, Int.reduceTDiv, Int.reduceTMod, UInt8.reduceToNat, UInt8.reduceOfNat]; exact ⟨_, rfl, rfl, rfl⟩)
theorem index1_run (s : List UInt8) (c : UInt8) : Run Try.prog 61 [.str s, .str [c]] (.int .i64 (Lib.indexByte s c)) := by
  have q := ixb_run s c
  refine Try.run61 (by simp) ?_
  unfold Try.c61
  by_cases h : [c] = s
  · subst h
    have e : Lib.indexByte [c] c = 0 := by simp [Lib.indexByte]
    rw [e] at *
    repeat' (first | (simp (disch := (first | omega | (simp only [List.length_set, List.length_append, List.length_cons, List.length_nil, List.length_take, List.length_drop, List.length_map, List.length_replicate]; omega))) only [↓pvd, pv0, pv1, pv2, pv3, pv4, pv5, pv6, pv7, pvc0, pvc1, pvc2, buildC, evP, evR, evE, Pv.get, Pv.put, putO, bin2, int2, binB2, un1, cells, boundO, AV.flat, bv, rowOne, pvf, rvs_1, rvs_2, rvL, rvX, liveB, setParts, szOk, notStr, lim, dedup, place, ent, Pv.new, Pv.newVar, Pv.newVec, setCells, AV.ones, AV.one, resX, entry, layL, layC, layA, lay, List.map, List.foldl, List.replicate, List.length_replicate, ↓reduceIte, reduceCtorEq, Nat.reduceEqDiff, Nat.reduceLT, Nat.reduceLeDiff, Nat.reduceAdd, Nat.reduceSub, Nat.reduceMul, Nat.reducePow, Nat.reduceDiv, Nat.reduceMod, Nat.reduceBEq, Nat.reduceBNe, Int.reduceLT, Int.reduceLE, Int.reduceToNat, Int.reduceAdd, Int.reduceSub, Int.reduceMul, Int.reduceNeg, Int.reducePow, Int.reduceEq, Int.reduceNe, Int.reduceDiv, Int.reduceMod, Int.reduceTDiv, Int.reduceTMod, UInt8.reduceToNat, UInt8.reduceOfNat, still]) | with_reducible refine condP_d (fun _ => ?_) (fun _ => ?_) | with_reducible refine guardP_d0 (fun _ => ?_) (fun _ => ?_) | with_reducible refine guardP_d1 (fun _ => ?_) (fun _ => ?_) | with_reducible refine condP_any ?_ ?_ | refine awR_call q rfl rfl ?_ | refine awR_callD q rfl rfl (fun _ => rfl) ?_ | (refine Ends_rq [] ?_; simp (disch := (first | omega | (simp only [List.length_set, List.length_append, List.length_cons, List.length_nil, List.length_take, List.length_drop, List.length_map, List.length_replicate]; omega))) only [↓pvd, pv0, pv1, pv2, pv3, pv4, pv5, pv6, pv7, pvc0, pvc1, pvc2, buildC, evP, evR, evE, Pv.get, Pv.put, putO, bin2, int2, binB2, un1, cells, boundO, AV.flat, bv, rowOne, pvf, rvs_1, rvs_2, rvL, rvX, liveB, setParts, szOk, notStr, lim, dedup, place, ent, Pv.new, Pv.newVar, Pv.newVec, setCells, AV.ones, AV.one, resX, entry, layL, layC, layA, lay, List.map, List.foldl, List.replicate, List.length_replicate, ↓reduceIte, reduceCtorEq, Nat.reduceEqDiff, Nat.reduceLT, Nat.reduceLeDiff, Nat.reduceAdd, Nat.reduceSub, Nat.reduceMul, Nat.reducePow, Nat.reduceDiv, Nat.reduceMod, Nat.reduceBEq, Nat.reduceBNe, Int.reduceLT, Int.reduceLE, Int.reduceToNat, Int.reduceAdd, Int.reduceSub, Int.reduceMul, Int.reduceNeg, Int.reducePow, Int.reduceEq, Int.reduceNe, Int.reduceDiv, Int.reduceMod, Int.reduceTDiv, Int.reduceTMod, UInt8.reduceToNat, UInt8.reduceOfNat]; exact ⟨_, rfl, rfl, rfl⟩))
  · repeat' (first | (simp (disch := (first | omega | (simp only [List.length_set, List.length_append, List.length_cons, List.length_nil, List.length_take, List.length_drop, List.length_map, List.length_replicate]; omega))) only [↓pvd, pv0, pv1, pv2, pv3, pv4, pv5, pv6, pv7, pvc0, pvc1, pvc2, buildC, evP, evR, evE, Pv.get, Pv.put, putO, bin2, int2, binB2, un1, cells, boundO, AV.flat, bv, rowOne, pvf, rvs_1, rvs_2, rvL, rvX, liveB, setParts, szOk, notStr, lim, dedup, place, ent, Pv.new, Pv.newVar, Pv.newVec, setCells, AV.ones, AV.one, resX, entry, layL, layC, layA, lay, List.map, List.foldl, List.replicate, List.length_replicate, ↓reduceIte, reduceCtorEq, Nat.reduceEqDiff, Nat.reduceLT, Nat.reduceLeDiff, Nat.reduceAdd, Nat.reduceSub, Nat.reduceMul, Nat.reducePow, Nat.reduceDiv, Nat.reduceMod, Nat.reduceBEq, Nat.reduceBNe, Int.reduceLT, Int.reduceLE, Int.reduceToNat, Int.reduceAdd, Int.reduceSub, Int.reduceMul, Int.reduceNeg, Int.reducePow, Int.reduceEq, Int.reduceNe, Int.reduceDiv, Int.reduceMod, Int.reduceTDiv, Int.reduceTMod, UInt8.reduceToNat, UInt8.reduceOfNat, bv, still]) | with_reducible refine condP_d (fun _ => ?_) (fun _ => ?_) | with_reducible refine guardP_d0 (fun _ => ?_) (fun _ => ?_) | with_reducible refine guardP_d1 (fun _ => ?_) (fun _ => ?_) | with_reducible refine condP_any ?_ ?_ | refine awR_call q rfl rfl ?_ | refine awR_callD q rfl rfl (fun _ => rfl) ?_ | (refine Ends_rq [] ?_; simp (disch := (first | omega | (simp only [List.length_set, List.length_append, List.length_cons, List.length_nil, List.length_take, List.length_drop, List.length_map, List.length_replicate]; omega))) only [↓pvd, pv0, pv1, pv2, pv3, pv4, pv5, pv6, pv7, pvc0, pvc1, pvc2, buildC, evP, evR, evE, Pv.get, Pv.put, putO, bin2, int2, binB2, un1, cells, boundO, AV.flat, bv, rowOne, pvf, rvs_1, rvs_2, rvL, rvX, liveB, setParts, szOk, notStr, lim, dedup, place, ent, Pv.new, Pv.newVar, Pv.newVec, setCells, AV.ones, AV.one, resX, entry, layL, layC, layA, lay, List.map, List.foldl, List.replicate, List.length_replicate, ↓reduceIte, reduceCtorEq, Nat.reduceEqDiff, Nat.reduceLT, Nat.reduceLeDiff, Nat.reduceAdd, Nat.reduceSub, Nat.reduceMul, Nat.reducePow, Nat.reduceDiv, Nat.reduceMod, Nat.reduceBEq, Nat.reduceBNe, Int.reduceLT, Int.reduceLE, Int.reduceToNat, Int.reduceAdd, Int.reduceSub, Int.reduceMul, Int.reduceNeg, Int.reducePow, Int.reduceEq, Int.reduceNe, Int.reduceDiv, Int.reduceMod, Int.reduceTDiv, Int.reduceTMod, UInt8.reduceToNat, UInt8.reduceOfNat]; exact ⟨_, rfl, rfl, rfl⟩))
end Go.Proofs

set_option linter.unusedSimpArgs false
set_option linter.unusedVariables false
set_option maxHeartbeats 2000000
set_option maxRecDepth 20000
namespace Go.Proofs
open Go.Pv
/-- The text before the first such byte, what is behind it, and whether it is there. -/
def cutV (s : List UInt8) (c : UInt8) : List UInt8 × List UInt8 × Bool :=
  if Lib.indexByte s c = -1 then (s, [], false) else (s.take (Lib.indexByte s c).toNat, s.drop ((Lib.indexByte s c).toNat + 1), true)
theorem cutl_run (s : List UInt8) (c : UInt8) (hs : s.length ≤ 100000) : Run Try.prog 56 [.str s, .str [c]] (.tup [.str (cutV s c).1, .str (cutV s c).2.1, .bool (cutV s c).2.2]) := by
  have q := index1_run s c
  have hb := ib_b s c
  refine Try.run56 (by simp) ?_
  unfold Try.c56
  unfold cutV
  by_cases h : Lib.indexByte s c = -1
  · rw [if_pos h]
    rw [h] at q
    repeat' (first | (simp (disch := (first | omega | (simp only [List.length_set, List.length_append, List.length_cons, List.length_nil, List.length_take, List.length_drop, List.length_map, List.length_replicate]; omega))) only [↓pvd, pv0, pv1, pv2, pv3, pv4, pv5, pv6, pv7, pvc0, pvc1, pvc2, buildC, evP, evR, evE, Pv.get, Pv.put, putO, bin2, int2, binB2, un1, cells, boundO, AV.flat, bv, rowOne, pvf, rvs_1, rvs_2, rvL, rvX, liveB, setParts, szOk, notStr, lim, dedup, place, ent, Pv.new, Pv.newVar, Pv.newVec, setCells, AV.ones, AV.one, resX, entry, layL, layC, layA, lay, List.map, List.foldl, List.replicate, List.length_replicate, ↓reduceIte, reduceCtorEq, Nat.reduceEqDiff, Nat.reduceLT, Nat.reduceLeDiff, Nat.reduceAdd, Nat.reduceSub, Nat.reduceMul, Nat.reducePow, Nat.reduceDiv, Nat.reduceMod, Nat.reduceBEq, Nat.reduceBNe, Int.reduceLT, Int.reduceLE, Int.reduceToNat, Int.reduceAdd, Int.reduceSub, Int.reduceMul, Int.reduceNeg, Int.reducePow, Int.reduceEq, Int.reduceNe, Int.reduceDiv, Int.reduceMod, Int.reduceTDiv, Int.reduceTMod, UInt8.reduceToNat, UInt8.reduceOfNat, still]) | with_reducible refine condP_d (fun _ => ?_) (fun _ => ?_) | with_reducible refine guardP_d0 (fun _ => ?_) (fun _ => ?_) | with_reducible refine guardP_d1 (fun _ => ?_) (fun _ => ?_) | with_reducible refine condP_any ?_ ?_ | refine awR_call q rfl rfl ?_ | refine awR_callD q rfl rfl (fun _ => rfl) ?_ | (refine Ends_rq [] ?_; simp (disch := (first | omega | (simp only [List.length_set, List.length_append, List.length_cons, List.length_nil, List.length_take, List.length_drop, List.length_map, List.length_replicate]; omega))) only [↓pvd, pv0, pv1, pv2, pv3, pv4, pv5, pv6, pv7, pvc0, pvc1, pvc2, buildC, evP, evR, evE, Pv.get, Pv.put, putO, bin2, int2, binB2, un1, cells, boundO, AV.flat, bv, rowOne, pvf, rvs_1, rvs_2, rvL, rvX, liveB, setParts, szOk, notStr, lim, dedup, place, ent, Pv.new, Pv.newVar, Pv.newVec, setCells, AV.ones, AV.one, resX, entry, layL, layC, layA, lay, List.map, List.foldl, List.replicate, List.length_replicate, ↓reduceIte, reduceCtorEq, Nat.reduceEqDiff, Nat.reduceLT, Nat.reduceLeDiff, Nat.reduceAdd, Nat.reduceSub, Nat.reduceMul, Nat.reducePow, Nat.reduceDiv, Nat.reduceMod, Nat.reduceBEq, Nat.reduceBNe, Int.reduceLT, Int.reduceLE, Int.reduceToNat, Int.reduceAdd, Int.reduceSub, Int.reduceMul, Int.reduceNeg, Int.reducePow, Int.reduceEq, Int.reduceNe, Int.reduceDiv, Int.reduceMod, Int.reduceTDiv, Int.reduceTMod, UInt8.reduceToNat, UInt8.reduceOfNat]; exact ⟨_, rfl, rfl, rfl⟩))
  · rw [if_neg h]
    obtain ⟨o, ho⟩ : ∃ o : Nat, Lib.indexByte s c = o := ⟨_, (Int.toNat_of_nonneg (by omega)).symm⟩
    rw [ho] at q
    rw [ho]
    have : o < s.length := by omega
    clear h hb
    repeat' (first | (simp (disch := (first | omega | (simp only [List.length_set, List.length_append, List.length_cons, List.length_nil, List.length_take, List.length_drop, List.length_map, List.length_replicate]; omega))) only [↓pvd, pv0, pv1, pv2, pv3, pv4, pv5, pv6, pv7, pvc0, pvc1, pvc2, buildC, evP, evR, evE, Pv.get, Pv.put, putO, bin2, int2, binB2, un1, cells, boundO, AV.flat, bv, rowOne, pvf, rvs_1, rvs_2, rvL, rvX, liveB, setParts, szOk, notStr, lim, dedup, place, ent, Pv.new, Pv.newVar, Pv.newVec, setCells, AV.ones, AV.one, resX, entry, layL, layC, layA, lay, List.map, List.foldl, List.replicate, List.length_replicate, ↓reduceIte, reduceCtorEq, Nat.reduceEqDiff, Nat.reduceLT, Nat.reduceLeDiff, Nat.reduceAdd, Nat.reduceSub, Nat.reduceMul, Nat.reducePow, Nat.reduceDiv, Nat.reduceMod, Nat.reduceBEq, Nat.reduceBNe, Int.reduceLT, Int.reduceLE, Int.reduceToNat, Int.reduceAdd, Int.reduceSub, Int.reduceMul, Int.reduceNeg, Int.reducePow, Int.reduceEq, Int.reduceNe, Int.reduceDiv, Int.reduceMod, Int.reduceTDiv, Int.reduceTMod, UInt8.reduceToNat, UInt8.reduceOfNat, still]) | with_reducible refine condP_d (fun _ => ?_) (fun _ => ?_) | with_reducible refine guardP_d0 (fun _ => ?_) (fun _ => ?_) | with_reducible refine guardP_d1 (fun _ => ?_) (fun _ => ?_) | with_reducible refine condP_any ?_ ?_ | refine awR_call q rfl rfl ?_ | refine awR_callD q rfl rfl (fun _ => rfl) ?_ | (refine Ends_rq [] ?_; simp (disch := (first | omega | (simp only [List.length_set, List.length_append, List.length_cons, List.length_nil, List.length_take, List.length_drop, List.length_map, List.length_replicate]; omega))) only [↓pvd, pv0, pv1, pv2, pv3, pv4, pv5, pv6, pv7, pvc0, pvc1, pvc2, buildC, evP, evR, evE, Pv.get, Pv.put, putO, bin2, int2, binB2, un1, cells, boundO, AV.flat, bv, rowOne, pvf, rvs_1, rvs_2, rvL, rvX, liveB, setParts, szOk, notStr, lim, dedup, place, ent, Pv.new, Pv.newVar, Pv.newVec, setCells, AV.ones, AV.one, resX, entry, layL, layC, layA, lay, List.map, List.foldl, List.replicate, List.length_replicate, ↓reduceIte, reduceCtorEq, Nat.reduceEqDiff, Nat.reduceLT, Nat.reduceLeDiff, Nat.reduceAdd, Nat.reduceSub, Nat.reduceMul, Nat.reducePow, Nat.reduceDiv, Nat.reduceMod, Nat.reduceBEq, Nat.reduceBNe, Int.reduceLT, Int.reduceLE, Int.reduceToNat, Int.reduceAdd, Int.reduceSub, Int.reduceMul, Int.reduceNeg, Int.reducePow, Int.reduceEq, Int.reduceNe, Int.reduceDiv, Int.reduceMod, Int.reduceTDiv, Int.reduceTMod, UInt8.reduceToNat, UInt8.reduceOfNat]; exact ⟨_, rfl, rfl, rfl⟩))
theorem cut_run (s : List UInt8) (c : UInt8) (hs : s.length ≤ 100000) : Run Try.prog 47 [.str s, .str [c]] (.tup [.str (cutV s c).1, .str (cutV s c).2.1, .bool (cutV s c).2.2]) := by
  have q := cutl_run s c hs
  refine Try.run47 (by simp) ?_
  unfold Try.c47
  repeat' (first | (simp (disch := (first | omega | (simp only [List.length_set, List.length_append, List.length_cons, List.length_nil, List.length_take, List.length_drop, List.length_map, List.length_replicate]; omega))) only [↓pvd, pv0, pv1, pv2, pv3, pv4, pv5, pv6, pv7, pvc0, pvc1, pvc2, buildC, evP, evR, evE, Pv.get, Pv.put, putO, bin2, int2, binB2, un1, cells, boundO, AV.flat, bv, rowOne, pvf, rvs_1, rvs_2, rvL, rvX, liveB, setParts, szOk, notStr, lim, dedup, place, ent, Pv.new, Pv.newVar, Pv.newVec, setCells, AV.ones, AV.one, resX, entry, layL, layC, layA, lay, List.map, List.foldl, List.replicate, List.length_replicate, ↓reduceIte, reduceCtorEq, Nat.reduceEqDiff, Nat.reduceLT, Nat.reduceLeDiff, Nat.reduceAdd, Nat.reduceSub, Nat.reduceMul, Nat.reducePow, Nat.reduceDiv, Nat.reduceMod, Nat.reduceBEq, Nat.reduceBNe, Int.reduceLT, Int.reduceLE, Int.reduceToNat, Int.reduceAdd, Int.reduceSub, Int.reduceMul, Int.reduceNeg, Int.reducePow, Int.reduceEq, Int.reduceNe, Int.reduceDiv, Int.reduceMod, Int.reduceTDiv, Int.reduceTMod, UInt8.reduceToNat, UInt8.reduceOfNat, still]) | with_reducible refine condP_d (fun _ => ?_) (fun _ => ?_) | with_reducible refine guardP_d0 (fun _ => ?_) (fun _ => ?_) | with_reducible refine guardP_d1 (fun _ => ?_) (fun _ => ?_) | with_reducible refine condP_any ?_ ?_ | refine awR_call q rfl rfl ?_ | refine awR_callD q rfl rfl (fun _ => rfl) ?_ | (refine Ends_rq [] ?_; simp (disch := (first | omega | (simp only [List.length_set, List.length_append, List.length_cons, List.length_nil, List.length_take, List.length_drop, List.length_map, List.length_replicate]; omega))) only [↓pvd, pv0, pv1, pv2, pv3, pv4, pv5, pv6, pv7, pvc0, pvc1, pvc2, buildC, evP, evR, evE, Pv.get, Pv.put, putO, bin2, int2, binB2, un1, cells, boundO, AV.flat, bv, rowOne, pvf, rvs_1, rvs_2, rvL, rvX, liveB, setParts, szOk, notStr, lim, dedup, place, ent, Pv.new, Pv.newVar, Pv.newVec, setCells, AV.ones, AV.one, resX, entry, layL, layC, layA, lay, List.map, List.foldl, List.replicate, List.length_replicate, ↓reduceIte, reduceCtorEq, Nat.reduceEqDiff, Nat.reduceLT, Nat.reduceLeDiff, Nat.reduceAdd, Nat.reduceSub, Nat.reduceMul, Nat.reducePow, Nat.reduceDiv, Nat.reduceMod, Nat.reduceBEq, Nat.reduceBNe, Int.reduceLT, Int.reduceLE, Int.reduceToNat, Int.reduceAdd, Int.reduceSub, Int.reduceMul, Int.reduceNeg, Int.reducePow, Int.reduceEq, Int.reduceNe, Int.reduceDiv, Int.reduceMod, Int.reduceTDiv, Int.reduceTMod, UInt8.reduceToNat, UInt8.reduceOfNat]; exact ⟨_, rfl, rfl, rfl⟩))
/-- The rows of a text: what stands between bytes 10; a last one has bytes. -/
def spl : List UInt8 → List (List UInt8)
  | [] => []
  | c :: r => if c = 10 then [] :: spl r else match spl r with
    | [] => [[c]]
    | h :: t => (c :: h) :: t
theorem spl_hit : ∀ (a r : List UInt8), (∀ c ∈ a, c ≠ 10) → spl (a ++ 10 :: r) = a :: spl r
  | [], r, _ => by simp [spl]
  | c :: a, r, h => by
    have := spl_hit a r (fun x hx => h x (by simp [hx]))
    simp [spl, this, h c (by simp)]
theorem spl_miss : ∀ (a : List UInt8), (∀ c ∈ a, c ≠ 10) → a ≠ [] → spl a = [a]
  | [], _, h => absurd rfl h
  | [c], h, _ => by simp [spl, h c (by simp)]
  | c :: d :: a, h, _ => by
    have := spl_miss (d :: a) (fun x hx => h x (by simp_all)) (by simp)
    rw [spl, this]
    simp [h c (by simp)]
/-- The cut of a text at the first byte 10 gives its first row and the others. -/
theorem spl_cut (s : List UInt8) (hs : s ≠ []) : spl s = (cutV s 10).1 :: spl (cutV s 10).2.1 := by
  have hb := ib_b s 10
  unfold cutV
  by_cases h : Lib.indexByte s 10 = -1
  · rw [if_pos h]
    have := Lib.indexByte_none h
    rw [spl_miss s ?_ hs]
    · simp [spl]
    intro c hc e
    subst e
    obtain ⟨k, hk, e⟩ := List.mem_iff_getElem.1 hc
    exact this k (by rw [List.getElem?_eq_getElem hk, e])
  · rw [if_neg h]
    obtain ⟨o, ho⟩ : ∃ o : Nat, Lib.indexByte s 10 = o := ⟨_, (Int.toNat_of_nonneg (by omega)).symm⟩
    rw [ho]
    obtain ⟨h1, h2⟩ := Lib.indexByte_some ho
    obtain ⟨hl, h1⟩ := List.getElem?_eq_some_iff.1 h1
    have e : s = s.take o ++ 10 :: s.drop (o + 1) := by
      rw [← h1, ← List.drop_eq_getElem_cons hl, List.take_append_drop]
    have := spl_hit (s.take o) (s.drop (o + 1)) (fun c hc e => by
      subst e
      obtain ⟨k, hk, e⟩ := List.mem_iff_getElem.1 hc
      simp at hk e
      exact h2 k (by omega) (by rw [List.getElem?_eq_getElem (by omega), e]))
    rw [← e] at this
    simpa using this
theorem cut_len (s : List UInt8) (hs : s ≠ []) : (cutV s 10).2.1.length < s.length := by
  have := List.length_pos_iff.2 hs
  unfold cutV
  split
  · simpa using this
  · simp; omega
theorem spl_le : ∀ (s : List UInt8), (spl s).length ≤ s.length
  | [] => by simp [spl]
  | c :: r => by
    have := spl_le r
    rw [spl]
    split
    · simp; omega
    · split
      · simp
      · rename_i h t e
        rw [e] at this
        simp at this ⊢
        omega
end Go.Proofs

set_option linter.unusedSimpArgs false
set_option linter.unusedVariables false
set_option maxHeartbeats 2000000
set_option maxRecDepth 20000
namespace Go.Proofs
open Go.Pv
end Go.Proofs

set_option linter.unusedSimpArgs false
set_option linter.unusedVariables false
set_option maxHeartbeats 2000000
set_option maxRecDepth 20000
namespace Go.Proofs
open Go.Pv
end Go.Proofs

set_option linter.unusedSimpArgs false
set_option linter.unusedVariables false
set_option maxHeartbeats 2000000
set_option maxRecDepth 20000
namespace Go.Proofs
open Go.Pv
end Go.Proofs

set_option linter.unusedSimpArgs false
set_option linter.unusedVariables false
set_option maxHeartbeats 2000000
set_option maxRecDepth 20000
namespace Go.Proofs
open Go.Pv
/-- A byte that a name may have there. -/
def nmB (s : List UInt8) (j : Nat) : Prop := (97 ≤ (s[j]!.toNat : Int) ∧ (s[j]!.toNat : Int) ≤ 122) ∨ ((48 ≤ (s[j]!.toNat : Int) ∧ (s[j]!.toNat : Int) ≤ 57) ∧ j ≠ 0)
instance (s : List UInt8) (j : Nat) : Decidable (nmB s j) := by unfold nmB; infer_instance
def nmP (s : List UInt8) : Prop := (0 < s.length ∧ s.length ≤ 12) ∧ ∀ j, j < s.length → nmB s j
instance (s : List UInt8) : Decidable (nmP s) := by unfold nmP; infer_instance
theorem name_run (s : List UInt8) (hs : s.length ≤ 50000) : Run Try.prog 13 [.str s] (.bool (decide (nmP s))) := by
  refine Try.run13 (by simp) ?_
  unfold Try.c13
  simp (disch := (first | omega | (simp only [List.length_set, List.length_append, List.length_cons, List.length_nil, List.length_take, List.length_drop, List.length_map, List.length_replicate] at *; omega))) only [↓pvd, pv0, pv1, pv2, pv3, pv4, pv5, pv6, pv7, pvc0, pvc1, pvc2, buildC, evP, evR, evE, Pv.get, Pv.put, putO, bin2, int2, binB2, un1, cells, boundO, AV.flat, bv, rowOne, pvf, rvs_1, rvs_2, rvL, rvX, liveB, setParts, szOk, notStr, lim, dedup, place, ent, Pv.new, Pv.newVar, Pv.newVec, setCells, AV.ones, AV.one, resX, entry, layL, layC, layA, lay, List.map, List.foldl, List.replicate, List.length_replicate, ↓reduceIte, reduceCtorEq, Nat.reduceEqDiff, Nat.reduceLT, Nat.reduceLeDiff, Nat.reduceAdd, Nat.reduceSub, Nat.reduceMul, Nat.reducePow, Nat.reduceDiv, Nat.reduceMod, Nat.reduceBEq, Nat.reduceBNe, Int.reduceLT, Int.reduceLE, Int.reduceToNat, Int.reduceAdd, Int.reduceSub, Int.reduceMul, Int.reduceNeg, Int.reducePow, Int.reduceEq, Int.reduceNe, Int.reduceDiv, Int.reduceMod, Int.reduceTDiv, Int.reduceTMod, UInt8.reduceToNat, UInt8.reduceOfNat]
  refine aw_loop (fun k : Nat => ⟨[(0, .str s), (7, .int .i64 s.length), (8, .int .i64 k)], []⟩) (fun k => k ≤ s.length ∧ ∀ j, j < k → nmB s j) (fun k => s.length - k) 0 rfl ⟨by omega, fun j hj => by omega⟩ ?_
  rintro k ⟨hk, hp⟩
  unfold Try.c13b0
  by_cases hx : k < s.length
  · have hgi : s[k]? = some s[k]! := by rw [getElem!_pos s k hx, List.getElem?_eq_getElem hx]
    by_cases hd : nmB s k
    · have h2 := hd
      unfold nmB at h2
      have hstep : ∃ a', (⟨[(0, AV.str s), (7, .int .i64 s.length), (8, .int .i64 (k + 1))], []⟩ : St) = ⟨[(0, .str s), (7, .int .i64 s.length), (8, .int .i64 (a' : Nat))], []⟩ ∧ (a' ≤ s.length ∧ ∀ j, j < a' → nmB s j) ∧ s.length - a' < s.length - k :=
        ⟨k + 1, rfl, ⟨by omega, fun j hj => by
          by_cases hjk : j = k
          · rw [hjk]; exact hd
          · exact hp j (by omega)⟩, by omega⟩
      repeat' (first | (simp (disch := (first | omega | (simp only [List.length_set, List.length_append, List.length_cons, List.length_nil, List.length_take, List.length_drop, List.length_map, List.length_replicate]; omega))) only [↓pvd, pv0, pv1, pv2, pv3, pv4, pv5, pv6, pv7, pvc0, pvc1, pvc2, buildC, evP, evR, evE, Pv.get, Pv.put, putO, bin2, int2, binB2, un1, cells, boundO, AV.flat, bv, rowOne, pvf, rvs_1, rvs_2, rvL, rvX, liveB, setParts, szOk, notStr, lim, dedup, place, ent, Pv.new, Pv.newVar, Pv.newVec, setCells, AV.ones, AV.one, resX, entry, layL, layC, layA, lay, List.map, List.foldl, List.replicate, List.length_replicate, ↓reduceIte, reduceCtorEq, Nat.reduceEqDiff, Nat.reduceLT, Nat.reduceLeDiff, Nat.reduceAdd, Nat.reduceSub, Nat.reduceMul, Nat.reducePow, Nat.reduceDiv, Nat.reduceMod, Nat.reduceBEq, Nat.reduceBNe, Int.reduceLT, Int.reduceLE, Int.reduceToNat, Int.reduceAdd, Int.reduceSub, Int.reduceMul, Int.reduceNeg, Int.reducePow, Int.reduceEq, Int.reduceNe, Int.reduceDiv, Int.reduceMod, Int.reduceTDiv, Int.reduceTMod, UInt8.reduceToNat, UInt8.reduceOfNat, hgi, bv, still]) | with_reducible refine condP_d (fun _ => ?_) (fun _ => ?_) | with_reducible refine guardP_d0 (fun _ => ?_) (fun _ => ?_) | with_reducible refine guardP_d1 (fun _ => ?_) (fun _ => ?_) | with_reducible refine condP_any ?_ ?_ | (refine Ends_rq [] ?_; simp (disch := (first | omega | (simp only [List.length_set, List.length_append, List.length_cons, List.length_nil, List.length_take, List.length_drop, List.length_map, List.length_replicate]; omega))) only [↓pvd, pv0, pv1, pv2, pv3, pv4, pv5, pv6, pv7, pvc0, pvc1, pvc2, buildC, evP, evR, evE, Pv.get, Pv.put, putO, bin2, int2, binB2, un1, cells, boundO, AV.flat, bv, rowOne, pvf, rvs_1, rvs_2, rvL, rvX, liveB, setParts, szOk, notStr, lim, dedup, place, ent, Pv.new, Pv.newVar, Pv.newVec, setCells, AV.ones, AV.one, resX, entry, layL, layC, layA, lay, List.map, List.foldl, List.replicate, List.length_replicate, ↓reduceIte, reduceCtorEq, Nat.reduceEqDiff, Nat.reduceLT, Nat.reduceLeDiff, Nat.reduceAdd, Nat.reduceSub, Nat.reduceMul, Nat.reducePow, Nat.reduceDiv, Nat.reduceMod, Nat.reduceBEq, Nat.reduceBNe, Int.reduceLT, Int.reduceLE, Int.reduceToNat, Int.reduceAdd, Int.reduceSub, Int.reduceMul, Int.reduceNeg, Int.reducePow, Int.reduceEq, Int.reduceNe, Int.reduceDiv, Int.reduceMod, Int.reduceTDiv, Int.reduceTMod, UInt8.reduceToNat, UInt8.reduceOfNat]; exact ⟨_, rfl, rfl, rfl⟩))
      all_goals exact hstep
    · have h2 := hd
      unfold nmB at h2
      rw [decide_eq_false (fun h : nmP s => hd (h.2 k hx))]
      repeat' (first | (simp (disch := (first | omega | (simp only [List.length_set, List.length_append, List.length_cons, List.length_nil, List.length_take, List.length_drop, List.length_map, List.length_replicate]; omega))) only [↓pvd, pv0, pv1, pv2, pv3, pv4, pv5, pv6, pv7, pvc0, pvc1, pvc2, buildC, evP, evR, evE, Pv.get, Pv.put, putO, bin2, int2, binB2, un1, cells, boundO, AV.flat, bv, rowOne, pvf, rvs_1, rvs_2, rvL, rvX, liveB, setParts, szOk, notStr, lim, dedup, place, ent, Pv.new, Pv.newVar, Pv.newVec, setCells, AV.ones, AV.one, resX, entry, layL, layC, layA, lay, List.map, List.foldl, List.replicate, List.length_replicate, ↓reduceIte, reduceCtorEq, Nat.reduceEqDiff, Nat.reduceLT, Nat.reduceLeDiff, Nat.reduceAdd, Nat.reduceSub, Nat.reduceMul, Nat.reducePow, Nat.reduceDiv, Nat.reduceMod, Nat.reduceBEq, Nat.reduceBNe, Int.reduceLT, Int.reduceLE, Int.reduceToNat, Int.reduceAdd, Int.reduceSub, Int.reduceMul, Int.reduceNeg, Int.reducePow, Int.reduceEq, Int.reduceNe, Int.reduceDiv, Int.reduceMod, Int.reduceTDiv, Int.reduceTMod, UInt8.reduceToNat, UInt8.reduceOfNat, hgi, bv, still]) | with_reducible refine condP_d (fun _ => ?_) (fun _ => ?_) | with_reducible refine guardP_d0 (fun _ => ?_) (fun _ => ?_) | with_reducible refine guardP_d1 (fun _ => ?_) (fun _ => ?_) | with_reducible refine condP_any ?_ ?_ | (refine Ends_rq [] ?_; simp (disch := (first | omega | (simp only [List.length_set, List.length_append, List.length_cons, List.length_nil, List.length_take, List.length_drop, List.length_map, List.length_replicate]; omega))) only [↓pvd, pv0, pv1, pv2, pv3, pv4, pv5, pv6, pv7, pvc0, pvc1, pvc2, buildC, evP, evR, evE, Pv.get, Pv.put, putO, bin2, int2, binB2, un1, cells, boundO, AV.flat, bv, rowOne, pvf, rvs_1, rvs_2, rvL, rvX, liveB, setParts, szOk, notStr, lim, dedup, place, ent, Pv.new, Pv.newVar, Pv.newVec, setCells, AV.ones, AV.one, resX, entry, layL, layC, layA, lay, List.map, List.foldl, List.replicate, List.length_replicate, ↓reduceIte, reduceCtorEq, Nat.reduceEqDiff, Nat.reduceLT, Nat.reduceLeDiff, Nat.reduceAdd, Nat.reduceSub, Nat.reduceMul, Nat.reducePow, Nat.reduceDiv, Nat.reduceMod, Nat.reduceBEq, Nat.reduceBNe, Int.reduceLT, Int.reduceLE, Int.reduceToNat, Int.reduceAdd, Int.reduceSub, Int.reduceMul, Int.reduceNeg, Int.reducePow, Int.reduceEq, Int.reduceNe, Int.reduceDiv, Int.reduceMod, Int.reduceTDiv, Int.reduceTMod, UInt8.reduceToNat, UInt8.reduceOfNat]; exact ⟨_, rfl, rfl, rfl⟩))
  · by_cases h1 : 0 < s.length ∧ s.length ≤ 12
    · rw [decide_eq_true (show nmP s from ⟨h1, fun j hj => hp j (by omega)⟩)]
      repeat' (first | (simp (disch := (first | omega | (simp only [List.length_set, List.length_append, List.length_cons, List.length_nil, List.length_take, List.length_drop, List.length_map, List.length_replicate]; omega))) only [↓pvd, pv0, pv1, pv2, pv3, pv4, pv5, pv6, pv7, pvc0, pvc1, pvc2, buildC, evP, evR, evE, Pv.get, Pv.put, putO, bin2, int2, binB2, un1, cells, boundO, AV.flat, bv, rowOne, pvf, rvs_1, rvs_2, rvL, rvX, liveB, setParts, szOk, notStr, lim, dedup, place, ent, Pv.new, Pv.newVar, Pv.newVec, setCells, AV.ones, AV.one, resX, entry, layL, layC, layA, lay, List.map, List.foldl, List.replicate, List.length_replicate, ↓reduceIte, reduceCtorEq, Nat.reduceEqDiff, Nat.reduceLT, Nat.reduceLeDiff, Nat.reduceAdd, Nat.reduceSub, Nat.reduceMul, Nat.reducePow, Nat.reduceDiv, Nat.reduceMod, Nat.reduceBEq, Nat.reduceBNe, Int.reduceLT, Int.reduceLE, Int.reduceToNat, Int.reduceAdd, Int.reduceSub, Int.reduceMul, Int.reduceNeg, Int.reducePow, Int.reduceEq, Int.reduceNe, Int.reduceDiv, Int.reduceMod, Int.reduceTDiv, Int.reduceTMod, UInt8.reduceToNat, UInt8.reduceOfNat, still]) | with_reducible refine condP_d (fun _ => ?_) (fun _ => ?_) | with_reducible refine guardP_d0 (fun _ => ?_) (fun _ => ?_) | with_reducible refine guardP_d1 (fun _ => ?_) (fun _ => ?_) | with_reducible refine condP_any ?_ ?_ | (refine Ends_rq [] ?_; simp (disch := (first | omega | (simp only [List.length_set, List.length_append, List.length_cons, List.length_nil, List.length_take, List.length_drop, List.length_map, List.length_replicate]; omega))) only [↓pvd, pv0, pv1, pv2, pv3, pv4, pv5, pv6, pv7, pvc0, pvc1, pvc2, buildC, evP, evR, evE, Pv.get, Pv.put, putO, bin2, int2, binB2, un1, cells, boundO, AV.flat, bv, rowOne, pvf, rvs_1, rvs_2, rvL, rvX, liveB, setParts, szOk, notStr, lim, dedup, place, ent, Pv.new, Pv.newVar, Pv.newVec, setCells, AV.ones, AV.one, resX, entry, layL, layC, layA, lay, List.map, List.foldl, List.replicate, List.length_replicate, ↓reduceIte, reduceCtorEq, Nat.reduceEqDiff, Nat.reduceLT, Nat.reduceLeDiff, Nat.reduceAdd, Nat.reduceSub, Nat.reduceMul, Nat.reducePow, Nat.reduceDiv, Nat.reduceMod, Nat.reduceBEq, Nat.reduceBNe, Int.reduceLT, Int.reduceLE, Int.reduceToNat, Int.reduceAdd, Int.reduceSub, Int.reduceMul, Int.reduceNeg, Int.reducePow, Int.reduceEq, Int.reduceNe, Int.reduceDiv, Int.reduceMod, Int.reduceTDiv, Int.reduceTMod, UInt8.reduceToNat, UInt8.reduceOfNat]; exact ⟨_, rfl, rfl, rfl⟩))
    · rw [decide_eq_false (fun h : nmP s => h1 h.1)]
      by_cases h3 : 0 < s.length
      · have : 12 < s.length := by omega
        repeat' (first | (simp (disch := (first | omega | (simp only [List.length_set, List.length_append, List.length_cons, List.length_nil, List.length_take, List.length_drop, List.length_map, List.length_replicate]; omega))) only [↓pvd, pv0, pv1, pv2, pv3, pv4, pv5, pv6, pv7, pvc0, pvc1, pvc2, buildC, evP, evR, evE, Pv.get, Pv.put, putO, bin2, int2, binB2, un1, cells, boundO, AV.flat, bv, rowOne, pvf, rvs_1, rvs_2, rvL, rvX, liveB, setParts, szOk, notStr, lim, dedup, place, ent, Pv.new, Pv.newVar, Pv.newVec, setCells, AV.ones, AV.one, resX, entry, layL, layC, layA, lay, List.map, List.foldl, List.replicate, List.length_replicate, ↓reduceIte, reduceCtorEq, Nat.reduceEqDiff, Nat.reduceLT, Nat.reduceLeDiff, Nat.reduceAdd, Nat.reduceSub, Nat.reduceMul, Nat.reducePow, Nat.reduceDiv, Nat.reduceMod, Nat.reduceBEq, Nat.reduceBNe, Int.reduceLT, Int.reduceLE, Int.reduceToNat, Int.reduceAdd, Int.reduceSub, Int.reduceMul, Int.reduceNeg, Int.reducePow, Int.reduceEq, Int.reduceNe, Int.reduceDiv, Int.reduceMod, Int.reduceTDiv, Int.reduceTMod, UInt8.reduceToNat, UInt8.reduceOfNat, still]) | with_reducible refine condP_d (fun _ => ?_) (fun _ => ?_) | with_reducible refine guardP_d0 (fun _ => ?_) (fun _ => ?_) | with_reducible refine guardP_d1 (fun _ => ?_) (fun _ => ?_) | with_reducible refine condP_any ?_ ?_ | (refine Ends_rq [] ?_; simp (disch := (first | omega | (simp only [List.length_set, List.length_append, List.length_cons, List.length_nil, List.length_take, List.length_drop, List.length_map, List.length_replicate]; omega))) only [↓pvd, pv0, pv1, pv2, pv3, pv4, pv5, pv6, pv7, pvc0, pvc1, pvc2, buildC, evP, evR, evE, Pv.get, Pv.put, putO, bin2, int2, binB2, un1, cells, boundO, AV.flat, bv, rowOne, pvf, rvs_1, rvs_2, rvL, rvX, liveB, setParts, szOk, notStr, lim, dedup, place, ent, Pv.new, Pv.newVar, Pv.newVec, setCells, AV.ones, AV.one, resX, entry, layL, layC, layA, lay, List.map, List.foldl, List.replicate, List.length_replicate, ↓reduceIte, reduceCtorEq, Nat.reduceEqDiff, Nat.reduceLT, Nat.reduceLeDiff, Nat.reduceAdd, Nat.reduceSub, Nat.reduceMul, Nat.reducePow, Nat.reduceDiv, Nat.reduceMod, Nat.reduceBEq, Nat.reduceBNe, Int.reduceLT, Int.reduceLE, Int.reduceToNat, Int.reduceAdd, Int.reduceSub, Int.reduceMul, Int.reduceNeg, Int.reducePow, Int.reduceEq, Int.reduceNe, Int.reduceDiv, Int.reduceMod, Int.reduceTDiv, Int.reduceTMod, UInt8.reduceToNat, UInt8.reduceOfNat]; exact ⟨_, rfl, rfl, rfl⟩))
      · repeat' (first | (simp (disch := (first | omega | (simp only [List.length_set, List.length_append, List.length_cons, List.length_nil, List.length_take, List.length_drop, List.length_map, List.length_replicate]; omega))) only [↓pvd, pv0, pv1, pv2, pv3, pv4, pv5, pv6, pv7, pvc0, pvc1, pvc2, buildC, evP, evR, evE, Pv.get, Pv.put, putO, bin2, int2, binB2, un1, cells, boundO, AV.flat, bv, rowOne, pvf, rvs_1, rvs_2, rvL, rvX, liveB, setParts, szOk, notStr, lim, dedup, place, ent, Pv.new, Pv.newVar, Pv.newVec, setCells, AV.ones, AV.one, resX, entry, layL, layC, layA, lay, List.map, List.foldl, List.replicate, List.length_replicate, ↓reduceIte, reduceCtorEq, Nat.reduceEqDiff, Nat.reduceLT, Nat.reduceLeDiff, Nat.reduceAdd, Nat.reduceSub, Nat.reduceMul, Nat.reducePow, Nat.reduceDiv, Nat.reduceMod, Nat.reduceBEq, Nat.reduceBNe, Int.reduceLT, Int.reduceLE, Int.reduceToNat, Int.reduceAdd, Int.reduceSub, Int.reduceMul, Int.reduceNeg, Int.reducePow, Int.reduceEq, Int.reduceNe, Int.reduceDiv, Int.reduceMod, Int.reduceTDiv, Int.reduceTMod, UInt8.reduceToNat, UInt8.reduceOfNat, still]) | with_reducible refine condP_d (fun _ => ?_) (fun _ => ?_) | with_reducible refine guardP_d0 (fun _ => ?_) (fun _ => ?_) | with_reducible refine guardP_d1 (fun _ => ?_) (fun _ => ?_) | with_reducible refine condP_any ?_ ?_ | (refine Ends_rq [] ?_; simp (disch := (first | omega | (simp only [List.length_set, List.length_append, List.length_cons, List.length_nil, List.length_take, List.length_drop, List.length_map, List.length_replicate]; omega))) only [↓pvd, pv0, pv1, pv2, pv3, pv4, pv5, pv6, pv7, pvc0, pvc1, pvc2, buildC, evP, evR, evE, Pv.get, Pv.put, putO, bin2, int2, binB2, un1, cells, boundO, AV.flat, bv, rowOne, pvf, rvs_1, rvs_2, rvL, rvX, liveB, setParts, szOk, notStr, lim, dedup, place, ent, Pv.new, Pv.newVar, Pv.newVec, setCells, AV.ones, AV.one, resX, entry, layL, layC, layA, lay, List.map, List.foldl, List.replicate, List.length_replicate, ↓reduceIte, reduceCtorEq, Nat.reduceEqDiff, Nat.reduceLT, Nat.reduceLeDiff, Nat.reduceAdd, Nat.reduceSub, Nat.reduceMul, Nat.reducePow, Nat.reduceDiv, Nat.reduceMod, Nat.reduceBEq, Nat.reduceBNe, Int.reduceLT, Int.reduceLE, Int.reduceToNat, Int.reduceAdd, Int.reduceSub, Int.reduceMul, Int.reduceNeg, Int.reducePow, Int.reduceEq, Int.reduceNe, Int.reduceDiv, Int.reduceMod, Int.reduceTDiv, Int.reduceTMod, UInt8.reduceToNat, UInt8.reduceOfNat]; exact ⟨_, rfl, rfl, rfl⟩))
end Go.Proofs

set_option linter.unusedSimpArgs false
set_option linter.unusedVariables false
set_option maxHeartbeats 2000000
set_option maxRecDepth 20000
namespace Go.Proofs
open Go.Pv
end Go.Proofs

set_option linter.unusedSimpArgs false
set_option linter.unusedVariables false
set_option maxHeartbeats 2000000
set_option maxRecDepth 20000
namespace Go.Proofs
open Go.Pv
end Go.Proofs

set_option linter.unusedSimpArgs false
set_option linter.unusedVariables false
set_option maxHeartbeats 2000000
set_option maxRecDepth 20000
namespace Go.Proofs
open Go.Pv
theorem str_pl (l : List UInt8) : (AV.str l).pl = true := rfl
theorem str_nr (l : List UInt8) : (AV.str l).nr1 = true := rfl
theorem rows_run (b : List UInt8) (f : Bool) (hb : b.length ≤ 100000) (h1 : b.length ≤ 20000) :
    Run Try.prog 29 [.sl 1 (bys b) f] (if 400 < (spl b).length then .tup [.sl 0 [] true, .int .i64 3] else .tup [.own 1 9 ((spl b).map .str), .int .i64 0]) := by
  have hs := spl_le b
  refine Try.run29 (by simp) ?_
  unfold Try.c29
  simp (disch := (first | omega | (simp only [List.length_set, List.length_append, List.length_cons, List.length_nil, List.length_take, List.length_drop, List.length_map, List.length_replicate] at *; omega))) only [↓pvd, pv0, pv1, pv2, pv3, pv4, pv5, pv6, pv7, pvc0, pvc1, pvc2, buildC, evP, evR, evE, Pv.get, Pv.put, putO, bin2, int2, binB2, un1, cells, boundO, AV.flat, bv, rowOne, pvf, rvs_1, rvs_2, rvL, rvX, liveB, setParts, szOk, notStr, lim, dedup, place, ent, Pv.new, Pv.newVar, Pv.newVec, setCells, AV.ones, AV.one, resX, entry, layL, layC, layA, lay, List.map, List.foldl, List.replicate, List.length_replicate, ↓reduceIte, reduceCtorEq, Nat.reduceEqDiff, Nat.reduceLT, Nat.reduceLeDiff, Nat.reduceAdd, Nat.reduceSub, Nat.reduceMul, Nat.reducePow, Nat.reduceDiv, Nat.reduceMod, Nat.reduceBEq, Nat.reduceBNe, Int.reduceLT, Int.reduceLE, Int.reduceToNat, Int.reduceAdd, Int.reduceSub, Int.reduceMul, Int.reduceNeg, Int.reducePow, Int.reduceEq, Int.reduceNe, Int.reduceDiv, Int.reduceMod, Int.reduceTDiv, Int.reduceTMod, UInt8.reduceToNat, UInt8.reduceOfNat]
  refine aw_loop (fun a : List (List UInt8) × List UInt8 => ⟨[(4, .vec 0 1 0 a.1.length), (5, .str a.2)], [some ⟨9, a.1.map .str, true⟩]⟩) (fun a => a.1 ++ spl a.2 = spl b ∧ a.2.length ≤ b.length) (fun a => a.2.length) ([], b) ?_ ⟨rfl, Nat.le_refl _⟩ ?_
  · simp (disch := (first | omega | (simp only [List.length_set, List.length_append, List.length_cons, List.length_nil, List.length_take, List.length_drop, List.length_map, List.length_replicate] at *; omega))) only [↓pvd, pv0, pv1, pv2, pv3, pv4, pv5, pv6, pv7, pvc0, pvc1, pvc2, buildC, evP, evR, evE, Pv.get, Pv.put, putO, bin2, int2, binB2, un1, cells, boundO, AV.flat, bv, rowOne, pvf, rvs_1, rvs_2, rvL, rvX, liveB, setParts, szOk, notStr, lim, dedup, place, ent, Pv.new, Pv.newVar, Pv.newVec, setCells, AV.ones, AV.one, resX, entry, layL, layC, layA, lay, List.map, List.foldl, List.replicate, List.length_replicate, ↓reduceIte, reduceCtorEq, Nat.reduceEqDiff, Nat.reduceLT, Nat.reduceLeDiff, Nat.reduceAdd, Nat.reduceSub, Nat.reduceMul, Nat.reducePow, Nat.reduceDiv, Nat.reduceMod, Nat.reduceBEq, Nat.reduceBNe, Int.reduceLT, Int.reduceLE, Int.reduceToNat, Int.reduceAdd, Int.reduceSub, Int.reduceMul, Int.reduceNeg, Int.reducePow, Int.reduceEq, Int.reduceNe, Int.reduceDiv, Int.reduceMod, Int.reduceTDiv, Int.reduceTMod, UInt8.reduceToNat, UInt8.reduceOfNat]
  rintro ⟨o, r⟩ ⟨ho, hr⟩
  dsimp only at ho hr ⊢
  unfold Try.c29b0
  have q := cut_run r 10 (by omega)
  by_cases he : r = []
  · subst he
    simp only [spl, List.append_nil] at ho
    subst ho
    simp (disch := (first | omega | (simp only [List.length_set, List.length_append, List.length_cons, List.length_nil, List.length_take, List.length_drop, List.length_map, List.length_replicate] at *; omega))) only [↓pvd, pv0, pv1, pv2, pv3, pv4, pv5, pv6, pv7, pvc0, pvc1, pvc2, buildC, evP, evR, evE, Pv.get, Pv.put, putO, bin2, int2, binB2, un1, cells, boundO, AV.flat, bv, rowOne, pvf, rvs_1, rvs_2, rvL, rvX, liveB, setParts, szOk, notStr, lim, dedup, place, ent, Pv.new, Pv.newVar, Pv.newVec, setCells, AV.ones, AV.one, resX, entry, layL, layC, layA, lay, List.map, List.foldl, List.replicate, List.length_replicate, ↓reduceIte, reduceCtorEq, Nat.reduceEqDiff, Nat.reduceLT, Nat.reduceLeDiff, Nat.reduceAdd, Nat.reduceSub, Nat.reduceMul, Nat.reducePow, Nat.reduceDiv, Nat.reduceMod, Nat.reduceBEq, Nat.reduceBNe, Int.reduceLT, Int.reduceLE, Int.reduceToNat, Int.reduceAdd, Int.reduceSub, Int.reduceMul, Int.reduceNeg, Int.reducePow, Int.reduceEq, Int.reduceNe, Int.reduceDiv, Int.reduceMod, Int.reduceTDiv, Int.reduceTMod, UInt8.reduceToNat, UInt8.reduceOfNat]
    by_cases h4 : 400 < (spl b).length
    · rw [if_pos h4]
      simp (disch := (first | omega | (simp only [List.length_set, List.length_append, List.length_cons, List.length_nil, List.length_take, List.length_drop, List.length_map, List.length_replicate] at *; omega))) only [↓pvd, pv0, pv1, pv2, pv3, pv4, pv5, pv6, pv7, pvc0, pvc1, pvc2, buildC, evP, evR, evE, Pv.get, Pv.put, putO, bin2, int2, binB2, un1, cells, boundO, AV.flat, bv, rowOne, pvf, rvs_1, rvs_2, rvL, rvX, liveB, setParts, szOk, notStr, lim, dedup, place, ent, Pv.new, Pv.newVar, Pv.newVec, setCells, AV.ones, AV.one, resX, entry, layL, layC, layA, lay, List.map, List.foldl, List.replicate, List.length_replicate, ↓reduceIte, reduceCtorEq, Nat.reduceEqDiff, Nat.reduceLT, Nat.reduceLeDiff, Nat.reduceAdd, Nat.reduceSub, Nat.reduceMul, Nat.reducePow, Nat.reduceDiv, Nat.reduceMod, Nat.reduceBEq, Nat.reduceBNe, Int.reduceLT, Int.reduceLE, Int.reduceToNat, Int.reduceAdd, Int.reduceSub, Int.reduceMul, Int.reduceNeg, Int.reducePow, Int.reduceEq, Int.reduceNe, Int.reduceDiv, Int.reduceMod, Int.reduceTDiv, Int.reduceTMod, UInt8.reduceToNat, UInt8.reduceOfNat]
      (refine Ends_rq [] ?_; simp (disch := (first | omega | (simp only [List.length_set, List.length_append, List.length_cons, List.length_nil, List.length_take, List.length_drop, List.length_map, List.length_replicate]; omega))) only [↓pvd, pv0, pv1, pv2, pv3, pv4, pv5, pv6, pv7, pvc0, pvc1, pvc2, buildC, evP, evR, evE, Pv.get, Pv.put, putO, bin2, int2, binB2, un1, cells, boundO, AV.flat, bv, rowOne, pvf, rvs_1, rvs_2, rvL, rvX, liveB, setParts, szOk, notStr, lim, dedup, place, ent, Pv.new, Pv.newVar, Pv.newVec, setCells, AV.ones, AV.one, resX, entry, layL, layC, layA, lay, List.map, List.foldl, List.replicate, List.length_replicate, ↓reduceIte, reduceCtorEq, Nat.reduceEqDiff, Nat.reduceLT, Nat.reduceLeDiff, Nat.reduceAdd, Nat.reduceSub, Nat.reduceMul, Nat.reducePow, Nat.reduceDiv, Nat.reduceMod, Nat.reduceBEq, Nat.reduceBNe, Int.reduceLT, Int.reduceLE, Int.reduceToNat, Int.reduceAdd, Int.reduceSub, Int.reduceMul, Int.reduceNeg, Int.reducePow, Int.reduceEq, Int.reduceNe, Int.reduceDiv, Int.reduceMod, Int.reduceTDiv, Int.reduceTMod, UInt8.reduceToNat, UInt8.reduceOfNat]; exact ⟨_, rfl, rfl, rfl⟩)
    · rw [if_neg h4]
      simp (disch := (first | omega | (simp only [List.length_set, List.length_append, List.length_cons, List.length_nil, List.length_take, List.length_drop, List.length_map, List.length_replicate] at *; omega))) only [↓pvd, pv0, pv1, pv2, pv3, pv4, pv5, pv6, pv7, pvc0, pvc1, pvc2, buildC, evP, evR, evE, Pv.get, Pv.put, putO, bin2, int2, binB2, un1, cells, boundO, AV.flat, bv, rowOne, pvf, rvs_1, rvs_2, rvL, rvX, liveB, setParts, szOk, notStr, lim, dedup, place, ent, Pv.new, Pv.newVar, Pv.newVec, setCells, AV.ones, AV.one, resX, entry, layL, layC, layA, lay, List.map, List.foldl, List.replicate, List.length_replicate, ↓reduceIte, reduceCtorEq, Nat.reduceEqDiff, Nat.reduceLT, Nat.reduceLeDiff, Nat.reduceAdd, Nat.reduceSub, Nat.reduceMul, Nat.reducePow, Nat.reduceDiv, Nat.reduceMod, Nat.reduceBEq, Nat.reduceBNe, Int.reduceLT, Int.reduceLE, Int.reduceToNat, Int.reduceAdd, Int.reduceSub, Int.reduceMul, Int.reduceNeg, Int.reducePow, Int.reduceEq, Int.reduceNe, Int.reduceDiv, Int.reduceMod, Int.reduceTDiv, Int.reduceTMod, UInt8.reduceToNat, UInt8.reduceOfNat]
      (refine Ends_rq [[.own 1 9], [.snap]] ?_; simp (disch := (first | omega | (simp only [List.length_set, List.length_append, List.length_cons, List.length_nil, List.length_take, List.length_drop, List.length_map, List.length_replicate]; omega))) only [↓pvd, pv0, pv1, pv2, pv3, pv4, pv5, pv6, pv7, pvc0, pvc1, pvc2, buildC, evP, evR, evE, Pv.get, Pv.put, putO, bin2, int2, binB2, un1, cells, boundO, AV.flat, bv, rowOne, pvf, rvs_1, rvs_2, rvL, rvX, liveB, setParts, szOk, notStr, lim, dedup, place, ent, Pv.new, Pv.newVar, Pv.newVec, setCells, AV.ones, AV.one, resX, entry, layL, layC, layA, lay, List.map, List.foldl, List.replicate, List.length_replicate, ↓reduceIte, reduceCtorEq, Nat.reduceEqDiff, Nat.reduceLT, Nat.reduceLeDiff, Nat.reduceAdd, Nat.reduceSub, Nat.reduceMul, Nat.reducePow, Nat.reduceDiv, Nat.reduceMod, Nat.reduceBEq, Nat.reduceBNe, Int.reduceLT, Int.reduceLE, Int.reduceToNat, Int.reduceAdd, Int.reduceSub, Int.reduceMul, Int.reduceNeg, Int.reducePow, Int.reduceEq, Int.reduceNe, Int.reduceDiv, Int.reduceMod, Int.reduceTDiv, Int.reduceTMod, UInt8.reduceToNat, UInt8.reduceOfNat, ids_map str_pl, ren_map str_pl, mapO_map str_nr, rows_map str_nr]; exact ⟨_, rfl, rfl, rfl⟩)
  · have h2 := spl_cut r he
    have h3 := cut_len r he
    have h5 : o.length + (spl r).length = (spl b).length := by rw [← ho, List.length_append]
    have h6 := congrArg List.length h2
    rw [List.length_cons] at h6
    generalize cutV r 10 = cv at *
    obtain ⟨w, r2, fd⟩ := cv
    dsimp only at h2 h3 h6 q ⊢
    simp (disch := (first | omega | (simp only [List.length_set, List.length_append, List.length_cons, List.length_nil, List.length_take, List.length_drop, List.length_map, List.length_replicate] at *; omega))) only [↓pvd, pv0, pv1, pv2, pv3, pv4, pv5, pv6, pv7, pvc0, pvc1, pvc2, buildC, evP, evR, evE, Pv.get, Pv.put, putO, bin2, int2, binB2, un1, cells, boundO, AV.flat, bv, rowOne, pvf, rvs_1, rvs_2, rvL, rvX, liveB, setParts, szOk, notStr, lim, dedup, place, ent, Pv.new, Pv.newVar, Pv.newVec, setCells, AV.ones, AV.one, resX, entry, layL, layC, layA, lay, List.map, List.foldl, List.replicate, List.length_replicate, ↓reduceIte, reduceCtorEq, Nat.reduceEqDiff, Nat.reduceLT, Nat.reduceLeDiff, Nat.reduceAdd, Nat.reduceSub, Nat.reduceMul, Nat.reducePow, Nat.reduceDiv, Nat.reduceMod, Nat.reduceBEq, Nat.reduceBNe, Int.reduceLT, Int.reduceLE, Int.reduceToNat, Int.reduceAdd, Int.reduceSub, Int.reduceMul, Int.reduceNeg, Int.reducePow, Int.reduceEq, Int.reduceNe, Int.reduceDiv, Int.reduceMod, Int.reduceTDiv, Int.reduceTMod, UInt8.reduceToNat, UInt8.reduceOfNat]
    refine awR_call q rfl rfl ?_
    simp (disch := (first | omega | (simp only [List.length_set, List.length_append, List.length_cons, List.length_nil, List.length_take, List.length_drop, List.length_map, List.length_replicate]; omega))) only [↓pvd, pv0, pv1, pv2, pv3, pv4, pv5, pv6, pv7, pvc0, pvc1, pvc2, buildC, evP, evR, evE, Pv.get, Pv.put, putO, bin2, int2, binB2, un1, cells, boundO, AV.flat, bv, rowOne, pvf, rvs_1, rvs_2, rvL, rvX, liveB, setParts, szOk, notStr, lim, dedup, place, ent, Pv.new, Pv.newVar, Pv.newVec, setCells, AV.ones, AV.one, resX, entry, layL, layC, layA, lay, List.map, List.foldl, List.replicate, List.length_replicate, ↓reduceIte, reduceCtorEq, Nat.reduceEqDiff, Nat.reduceLT, Nat.reduceLeDiff, Nat.reduceAdd, Nat.reduceSub, Nat.reduceMul, Nat.reducePow, Nat.reduceDiv, Nat.reduceMod, Nat.reduceBEq, Nat.reduceBNe, Int.reduceLT, Int.reduceLE, Int.reduceToNat, Int.reduceAdd, Int.reduceSub, Int.reduceMul, Int.reduceNeg, Int.reducePow, Int.reduceEq, Int.reduceNe, Int.reduceDiv, Int.reduceMod, Int.reduceTDiv, Int.reduceTMod, UInt8.reduceToNat, UInt8.reduceOfNat, ids_map str_pl, ren_map str_pl, List.flatMap_append, List.map_append]
    refine ⟨(o ++ [w], r2), ?_, ⟨?_, ?_⟩, h3⟩
    · simp (disch := (first | omega | (simp only [List.length_set, List.length_append, List.length_cons, List.length_nil, List.length_take, List.length_drop, List.length_map, List.length_replicate]; omega))) only [↓pvd, pv0, pv1, pv2, pv3, pv4, pv5, pv6, pv7, pvc0, pvc1, pvc2, buildC, evP, evR, evE, Pv.get, Pv.put, putO, bin2, int2, binB2, un1, cells, boundO, AV.flat, bv, rowOne, pvf, rvs_1, rvs_2, rvL, rvX, liveB, setParts, szOk, notStr, lim, dedup, place, ent, Pv.new, Pv.newVar, Pv.newVec, setCells, AV.ones, AV.one, resX, entry, layL, layC, layA, lay, List.map, List.foldl, List.replicate, List.length_replicate, ↓reduceIte, reduceCtorEq, Nat.reduceEqDiff, Nat.reduceLT, Nat.reduceLeDiff, Nat.reduceAdd, Nat.reduceSub, Nat.reduceMul, Nat.reducePow, Nat.reduceDiv, Nat.reduceMod, Nat.reduceBEq, Nat.reduceBNe, Int.reduceLT, Int.reduceLE, Int.reduceToNat, Int.reduceAdd, Int.reduceSub, Int.reduceMul, Int.reduceNeg, Int.reducePow, Int.reduceEq, Int.reduceNe, Int.reduceDiv, Int.reduceMod, Int.reduceTDiv, Int.reduceTMod, UInt8.reduceToNat, UInt8.reduceOfNat, ids_map str_pl, ren_map str_pl, List.flatMap_append, List.map_append]
      try simp
    · rw [← ho, h2]; simp
    · dsimp only; omega
end Go.Proofs

set_option linter.unusedSimpArgs false
set_option linter.unusedVariables false
set_option maxHeartbeats 2000000
set_option maxRecDepth 20000
namespace Go.Proofs
open Go.Pv
end Go.Proofs

set_option linter.unusedSimpArgs false
set_option linter.unusedVariables false
set_option maxHeartbeats 2000000
set_option maxRecDepth 20000
namespace Go.Proofs
open Go.Pv
theorem rows_big (b : List UInt8) (f : Bool) (hb : b.length ≤ 100000) (h1 : ¬ b.length ≤ 20000) :
    Run Try.prog 29 [.sl 1 (bys b) f] (.tup [.sl 0 [] true, .int .i64 3]) := by
  refine Try.run29 (by simp) ?_
  unfold Try.c29
  simp (disch := (first | omega | (simp only [List.length_set, List.length_append, List.length_cons, List.length_nil, List.length_take, List.length_drop, List.length_map, List.length_replicate] at *; omega))) only [↓pvd, pv0, pv1, pv2, pv3, pv4, pv5, pv6, pv7, pvc0, pvc1, pvc2, buildC, evP, evR, evE, Pv.get, Pv.put, putO, bin2, int2, binB2, un1, cells, boundO, AV.flat, bv, rowOne, pvf, rvs_1, rvs_2, rvL, rvX, liveB, setParts, szOk, notStr, lim, dedup, place, ent, Pv.new, Pv.newVar, Pv.newVec, setCells, AV.ones, AV.one, resX, entry, layL, layC, layA, lay, List.map, List.foldl, List.replicate, List.length_replicate, ↓reduceIte, reduceCtorEq, Nat.reduceEqDiff, Nat.reduceLT, Nat.reduceLeDiff, Nat.reduceAdd, Nat.reduceSub, Nat.reduceMul, Nat.reducePow, Nat.reduceDiv, Nat.reduceMod, Nat.reduceBEq, Nat.reduceBNe, Int.reduceLT, Int.reduceLE, Int.reduceToNat, Int.reduceAdd, Int.reduceSub, Int.reduceMul, Int.reduceNeg, Int.reducePow, Int.reduceEq, Int.reduceNe, Int.reduceDiv, Int.reduceMod, Int.reduceTDiv, Int.reduceTMod, UInt8.reduceToNat, UInt8.reduceOfNat]
  (refine Ends_rq [] ?_; simp (disch := (first | omega | (simp only [List.length_set, List.length_append, List.length_cons, List.length_nil, List.length_take, List.length_drop, List.length_map, List.length_replicate]; omega))) only [↓pvd, pv0, pv1, pv2, pv3, pv4, pv5, pv6, pv7, pvc0, pvc1, pvc2, buildC, evP, evR, evE, Pv.get, Pv.put, putO, bin2, int2, binB2, un1, cells, boundO, AV.flat, bv, rowOne, pvf, rvs_1, rvs_2, rvL, rvX, liveB, setParts, szOk, notStr, lim, dedup, place, ent, Pv.new, Pv.newVar, Pv.newVec, setCells, AV.ones, AV.one, resX, entry, layL, layC, layA, lay, List.map, List.foldl, List.replicate, List.length_replicate, ↓reduceIte, reduceCtorEq, Nat.reduceEqDiff, Nat.reduceLT, Nat.reduceLeDiff, Nat.reduceAdd, Nat.reduceSub, Nat.reduceMul, Nat.reducePow, Nat.reduceDiv, Nat.reduceMod, Nat.reduceBEq, Nat.reduceBNe, Int.reduceLT, Int.reduceLE, Int.reduceToNat, Int.reduceAdd, Int.reduceSub, Int.reduceMul, Int.reduceNeg, Int.reducePow, Int.reduceEq, Int.reduceNe, Int.reduceDiv, Int.reduceMod, Int.reduceTDiv, Int.reduceTMod, UInt8.reduceToNat, UInt8.reduceOfNat]; exact ⟨_, rfl, rfl, rfl⟩)
end Go.Proofs

set_option linter.unusedSimpArgs false
set_option linter.unusedVariables false
set_option maxHeartbeats 2000000
set_option maxRecDepth 20000
namespace Go.Proofs
open Go.Pv
/-- The heap of the closure: the row, what is out, where a word begins. -/
def stH (w : List UInt8) (fr : Nat) : List (List UInt8) → Hp
  | [] => [some ⟨9, [.str w], true⟩, some ⟨45, [.sl 0 [] true], true⟩, some ⟨3, [.int .i64 fr], true⟩]
  | o :: r => [some ⟨9, [.str w], true⟩, some ⟨45, [.vec 2 1 0 (o :: r).length], true⟩, some ⟨9, (o :: r).map .str, true⟩, some ⟨3, [.int .i64 fr], true⟩]
/-- Where the place of a word's begin lies. -/
def stK : List (List UInt8) → Nat
  | [] => 2
  | _ :: _ => 3
theorem stK_ne {L : List (List UInt8)} (h : L ≠ []) : stK L = 3 := by
  cases L with
  | nil => exact absurd rfl h
  | cons o r => rfl
theorem stK_nil : stK [] = 2 := rfl
theorem str1_no (w : List UInt8) (i fr : Nat) (out : List (List UInt8)) (hw : w.length ≤ 100000) (hi : i ≤ w.length) (h : i ≤ fr) :
    Gen Try.prog 57 [.int .i64 i, .eptr (stK out) 0 0, .eptr 1 0 0, .eptr 0 0 0] (stH w fr out) (.tup []) (stH w (i + 1) out) := by
  refine Try.gen57 (by simp) ?_
  unfold Try.c57
  cases out with
  | nil =>
    unfold stH stK
    simp (disch := (first | omega | (simp only [List.length_set, List.length_append, List.length_cons, List.length_nil, List.length_take, List.length_drop, List.length_map, List.length_replicate] at *; omega))) only [↓pvd, pv0, pv1, pv2, pv3, pv4, pv5, pv6, pv7, pvc0, pvc1, pvc2, buildC, evP, evR, evE, Pv.get, Pv.put, putO, bin2, int2, binB2, un1, cells, boundO, AV.flat, bv, rowOne, pvf, rvs_1, rvs_2, rvL, rvX, liveB, setParts, szOk, notStr, lim, dedup, place, ent, Pv.new, Pv.newVar, Pv.newVec, setCells, AV.ones, AV.one, resX, entry, layL, layC, layA, lay, List.map, List.foldl, List.replicate, List.length_replicate, ↓reduceIte, reduceCtorEq, Nat.reduceEqDiff, Nat.reduceLT, Nat.reduceLeDiff, Nat.reduceAdd, Nat.reduceSub, Nat.reduceMul, Nat.reducePow, Nat.reduceDiv, Nat.reduceMod, Nat.reduceBEq, Nat.reduceBNe, Int.reduceLT, Int.reduceLE, Int.reduceToNat, Int.reduceAdd, Int.reduceSub, Int.reduceMul, Int.reduceNeg, Int.reducePow, Int.reduceEq, Int.reduceNe, Int.reduceDiv, Int.reduceMod, Int.reduceTDiv, Int.reduceTMod, UInt8.reduceToNat, UInt8.reduceOfNat]
    exact ⟨rfl, rfl⟩
  | cons o r =>
    unfold stH stK
    simp (disch := (first | omega | (simp only [List.length_set, List.length_append, List.length_cons, List.length_nil, List.length_take, List.length_drop, List.length_map, List.length_replicate] at *; omega))) only [↓pvd, pv0, pv1, pv2, pv3, pv4, pv5, pv6, pv7, pvc0, pvc1, pvc2, buildC, evP, evR, evE, Pv.get, Pv.put, putO, bin2, int2, binB2, un1, cells, boundO, AV.flat, bv, rowOne, pvf, rvs_1, rvs_2, rvL, rvX, liveB, setParts, szOk, notStr, lim, dedup, place, ent, Pv.new, Pv.newVar, Pv.newVec, setCells, AV.ones, AV.one, resX, entry, layL, layC, layA, lay, List.map, List.foldl, List.replicate, List.length_replicate, ↓reduceIte, reduceCtorEq, Nat.reduceEqDiff, Nat.reduceLT, Nat.reduceLeDiff, Nat.reduceAdd, Nat.reduceSub, Nat.reduceMul, Nat.reducePow, Nat.reduceDiv, Nat.reduceMod, Nat.reduceBEq, Nat.reduceBNe, Int.reduceLT, Int.reduceLE, Int.reduceToNat, Int.reduceAdd, Int.reduceSub, Int.reduceMul, Int.reduceNeg, Int.reducePow, Int.reduceEq, Int.reduceNe, Int.reduceDiv, Int.reduceMod, Int.reduceTDiv, Int.reduceTMod, UInt8.reduceToNat, UInt8.reduceOfNat]
    exact ⟨rfl, rfl⟩
theorem str1_nil (w : List UInt8) (i fr : Nat) (hw : w.length ≤ 100000) (hi : i ≤ w.length) (h : fr < i) :
    Gen Try.prog 57 [.int .i64 i, .eptr 2 0 0, .eptr 1 0 0, .eptr 0 0 0] (stH w fr []) (.tup [])
      ([some ⟨9, [.str w], true⟩, some ⟨45, [.vec 9 1 0 1], true⟩, some ⟨3, [.int .i64 (i + 1)], true⟩, none, none, none, none, none, some ⟨9, [.str ((w.take i).drop fr)], true⟩, some ⟨9, [.str ((w.take i).drop fr)], true⟩, none]) := by
  refine Try.gen57 (by simp) ?_
  unfold Try.c57
  unfold stH
  simp (disch := (first | omega | (simp only [List.length_set, List.length_append, List.length_cons, List.length_nil, List.length_take, List.length_drop, List.length_map, List.length_replicate] at *; omega))) only [↓pvd, pv0, pv1, pv2, pv3, pv4, pv5, pv6, pv7, pvc0, pvc1, pvc2, buildC, evP, evR, evE, Pv.get, Pv.put, putO, bin2, int2, binB2, un1, cells, boundO, AV.flat, bv, rowOne, pvf, rvs_1, rvs_2, rvL, rvX, liveB, setParts, szOk, notStr, lim, dedup, place, ent, Pv.new, Pv.newVar, Pv.newVec, setCells, AV.ones, AV.one, resX, entry, layL, layC, layA, lay, List.map, List.foldl, List.replicate, List.length_replicate, ↓reduceIte, reduceCtorEq, Nat.reduceEqDiff, Nat.reduceLT, Nat.reduceLeDiff, Nat.reduceAdd, Nat.reduceSub, Nat.reduceMul, Nat.reducePow, Nat.reduceDiv, Nat.reduceMod, Nat.reduceBEq, Nat.reduceBNe, Int.reduceLT, Int.reduceLE, Int.reduceToNat, Int.reduceAdd, Int.reduceSub, Int.reduceMul, Int.reduceNeg, Int.reducePow, Int.reduceEq, Int.reduceNe, Int.reduceDiv, Int.reduceMod, Int.reduceTDiv, Int.reduceTMod, UInt8.reduceToNat, UInt8.reduceOfNat]
  exact ⟨rfl, rfl⟩
theorem str1_app (w : List UInt8) (i fr : Nat) (o : List UInt8) (r : List (List UInt8)) (hw : w.length ≤ 100000) (hi : i ≤ w.length) (h : fr < i) (hr : r.length ≤ 100000) :
    Gen Try.prog 57 [.int .i64 i, .eptr 3 0 0, .eptr 1 0 0, .eptr 0 0 0] (stH w fr (o :: r)) (.tup [])
      ([some ⟨9, [.str w], true⟩, some ⟨45, [.vec 10 1 0 ((o :: r).length + 1)], true⟩, some ⟨9, [], false⟩, some ⟨3, [.int .i64 (i + 1)], true⟩, none, none, none, none, none, some ⟨9, [.str ((w.take i).drop fr)], true⟩, some ⟨9, (o :: r).map .str ++ [.str ((w.take i).drop fr)], true⟩, none]) := by
  refine Try.gen57 (by simp) ?_
  unfold Try.c57
  unfold stH
  simp (disch := (first | omega | (simp only [List.length_set, List.length_append, List.length_cons, List.length_nil, List.length_take, List.length_drop, List.length_map, List.length_replicate] at *; omega))) only [↓pvd, pv0, pv1, pv2, pv3, pv4, pv5, pv6, pv7, pvc0, pvc1, pvc2, buildC, evP, evR, evE, Pv.get, Pv.put, putO, bin2, int2, binB2, un1, cells, boundO, AV.flat, bv, rowOne, pvf, rvs_1, rvs_2, rvL, rvX, liveB, setParts, szOk, notStr, lim, dedup, place, ent, Pv.new, Pv.newVar, Pv.newVec, setCells, AV.ones, AV.one, resX, entry, layL, layC, layA, lay, List.map, List.foldl, List.replicate, List.length_replicate, ↓reduceIte, reduceCtorEq, Nat.reduceEqDiff, Nat.reduceLT, Nat.reduceLeDiff, Nat.reduceAdd, Nat.reduceSub, Nat.reduceMul, Nat.reducePow, Nat.reduceDiv, Nat.reduceMod, Nat.reduceBEq, Nat.reduceBNe, Int.reduceLT, Int.reduceLE, Int.reduceToNat, Int.reduceAdd, Int.reduceSub, Int.reduceMul, Int.reduceNeg, Int.reducePow, Int.reduceEq, Int.reduceNe, Int.reduceDiv, Int.reduceMod, Int.reduceTDiv, Int.reduceTMod, UInt8.reduceToNat, UInt8.reduceOfNat]
  exact ⟨rfl, rfl⟩
theorem stH_ne (w : List UInt8) (fr : Nat) (L : List (List UInt8)) (h : L ≠ []) : stH w fr L = [some ⟨9, [.str w], true⟩, some ⟨45, [.vec 2 1 0 L.length], true⟩, some ⟨9, L.map .str, true⟩, some ⟨3, [.int .i64 fr], true⟩] := by
  cases L with
  | nil => exact absurd rfl h
  | cons o r => rfl
theorem str1_appL (w : List UInt8) (i fr : Nat) (L : List (List UInt8)) (h0 : L ≠ []) (hw : w.length ≤ 100000) (hi : i ≤ w.length) (h : fr < i) (hr : L.length ≤ 100000) :
    Gen Try.prog 57 [.int .i64 i, .eptr 3 0 0, .eptr 1 0 0, .eptr 0 0 0] (stH w fr L) (.tup [])
      ([some ⟨9, [.str w], true⟩, some ⟨45, [.vec 10 1 0 (L.length + 1)], true⟩, some ⟨9, [], false⟩, some ⟨3, [.int .i64 (i + 1)], true⟩, none, none, none, none, none, some ⟨9, [.str ((w.take i).drop fr)], true⟩, some ⟨9, L.map .str ++ [.str ((w.take i).drop fr)], true⟩, none]) := by
  cases L with
  | nil => exact absurd rfl h0
  | cons o r => exact str1_app w i fr o r hw hi h (by simp at hr; omega)
end Go.Proofs

set_option linter.unusedSimpArgs false
set_option linter.unusedVariables false
set_option maxHeartbeats 2000000
set_option maxRecDepth 20000
namespace Go.Proofs
open Go.Pv
/-- A word's end: the words with this one, if it has bytes. -/
def enO (w : List UInt8) (i fr : Nat) (out : List (List UInt8)) : List (List UInt8) := if fr < i then out ++ [(w.take i).drop fr] else out
/-- The words of a row, as the program looks for them. -/
def swF (w : List UInt8) : Nat → Nat → Nat → List (List UInt8) → List (List UInt8)
  | 0, i, fr, out => enO w i fr out
  | n + 1, i, fr, out => if i < w.length then
      if w[i]! = 35 then enO w i fr out
      else if w[i]! = 32 ∨ w[i]! = 9 then swF w n (i + 1) (i + 1) (enO w i fr out)
      else swF w n (i + 1) fr out
    else enO w i fr out
def swV (w : List UInt8) : List (List UInt8) := swF w (w.length + 1) 0 0 []
def strR (l : List (List UInt8)) : AV := if l = [] then .sl 0 [] true else .own 1 9 (l.map .str)
def stS (w : List UInt8) (a : Nat × Nat × List (List UInt8)) : St := ⟨[(1, .eptr 0 0 0), (3, .eptr 1 0 0), (5, .fn 57 [.eptr (stK a.2.2) 0 0, .eptr 1 0 0, .eptr 0 0 0]), (6, .int .i64 a.1)], stH w a.2.1 a.2.2⟩
end Go.Proofs
