/- A part of the proofs of this seat: RcTab9. -/
import Derived.Test.YtimibefpfenelaaRcTab8
set_option linter.unusedSimpArgs false
set_option linter.unusedVariables false
set_option maxHeartbeats 2000000
set_option maxRecDepth 20000
namespace Go.Proofs
open Go.Pv
theorem fd_mem {u : List En} (h : riB u = true) {x : En} (hx : x ∈ u) : fdF u x.mac = (x.wh, true) := by
  obtain ⟨i, hi, rfl⟩ := List.mem_iff_getElem.1 hx
  have := (ri_of h).2 i hi
  unfold okA at this
  rw [getElem!_pos u i hi] at this
  simp only [Bool.and_eq_true, decide_eq_true_eq] at this
  unfold fdF
  rw [this.2.2, if_pos hi, getElem!_pos u i hi]
theorem fd_none {u : List En} {c : Int} (h : ∀ x ∈ u, x.mac ≠ c) : fdF u c = (0, false) := by
  unfold fdF
  rw [if_neg]
  intro hlt
  have := of_decide_eq_true (fi_at (p := fun e : En => decide (e.mac = c)) hlt)
  have hlt' : u.findIdx (fun e : En => decide (e.mac = c)) < u.length := hlt
  rw [getElem!_pos u _ hlt'] at this
  exact h _ (List.getElem_mem hlt') this
theorem old_min (t : List En) : ∀ k j, j < k → t[old t k]!.seen ≤ t[j]!.seen
  | 0, j, h => absurd h (by omega)
  | k + 1, j, h => by
    have hs : old t (k + 1) = if t[k]!.seen < t[old t k]!.seen then k else old t k := rfl
    rw [hs]
    split
    · rename_i hlt
      rcases Nat.lt_succ_iff_lt_or_eq.1 h with h' | rfl
      · have := old_min t k j h'; omega
      · exact Int.le_refl _
    · rename_i hlt
      rcases Nat.lt_succ_iff_lt_or_eq.1 h with h' | rfl
      · exact old_min t k j h'
      · omega
theorem rmA_sub {α : Type} (l : List α) (a : Int) : (rmA l a).Sublist l := by
  unfold rmA; split
  · exact List.Sublist.refl _
  · have h1 : (l.drop (a.toNat + 1)).Sublist (l.drop a.toNat) := by rw [show a.toNat + 1 = a.toNat + 1 from rfl, ← List.drop_drop]; exact List.drop_sublist _ _
    have h2 := List.Sublist.append (List.Sublist.refl (l.take a.toNat)) h1
    rwa [List.take_append_drop] at h2
theorem ix_none {t : List En} {m : Int} (h : ¬ ixN t m < t.length) : ∀ x ∈ t, x.mac ≠ m := by
  intro x hx
  obtain ⟨i, hi, rfl⟩ := List.mem_iff_getElem.1 hx
  have := fi_lt (p := fun e : En => decide (e.mac = m)) (l := t) (k := i) (by unfold ixN at h; omega)
  rw [getElem!_pos t i hi] at this
  exact of_decide_eq_false this
theorem ln_keeps (t : List En) (m w n : Int) (hr : riB t = true) (hs : stB m = true) (hn : tmB n = true) : riB (lnF t m w n) = true ∧ fdF (lnF t m w n) m = (w, true) ∧
    ∃ s : Int, -1 ≤ s ∧ (0 ≤ s → s < t.length ∧ t.length = 8 ∧ (fdF t m).2 = false ∧ ∀ j, j < t.length → t[s.toNat]!.seen ≤ t[j]!.seen) ∧
      ∀ k, k < t.length → ((k : Int) = s → (fdF (lnF t m w n) t[k]!.mac).2 = false) ∧ ((k : Int) ≠ s → (fdF (lnF t m w n) t[k]!.mac).2 = true ∧ (t[k]!.mac ≠ m → (fdF (lnF t m w n) t[k]!.mac).1 = t[k]!.wh)) := by
  have hg : ¬ gate t m n = false := by unfold gate; rw [hr, hs, hn]; simp
  have hi := (ri_iff t).1 hr
  obtain ⟨i1, i2, i3⟩ := hi
  unfold lnF
  rw [if_neg hg]
  by_cases hx : ixN t m < t.length
  · rw [if_pos hx]
    have hat : t[ixN t m]!.mac = m := of_decide_eq_true (fi_at (p := fun e : En => decide (e.mac = m)) hx)
    generalize ixN t m = i at *
    rw [getElem!_pos t i hx] at hat
    have hmap : (t.set i ⟨m, w, n⟩).map (·.mac) = t.map (·.mac) := by
      rw [List.map_set]
      apply List.ext_getElem (by simp)
      intro j h1 h2
      rw [List.getElem_set]
      split
      · rename_i h; subst h; simp [hat]
      · rfl
    have hu : riB (t.set i ⟨m, w, n⟩) = true := by
      rw [ri_iff]
      refine ⟨by simpa using i1, fun e he => ?_, by rw [hmap]; exact i3⟩
      rcases List.mem_or_eq_of_mem_set he with h | rfl
      · exact i2 e h
      · exact ⟨hs, hn⟩
    have he : (⟨m, w, n⟩ : En) ∈ t.set i ⟨m, w, n⟩ := List.mem_set hx _
    refine ⟨hu, fd_mem hu he, -1, by omega, fun h => absurd h (by omega), fun k hk => ⟨fun h => absurd h (by omega), fun _ => ?_⟩⟩
    by_cases hm : t[k]!.mac = m
    · rw [hm, fd_mem hu he]; exact ⟨rfl, fun h => absurd rfl h⟩
    · have : t[k]! ∈ t.set i ⟨m, w, n⟩ := by
        have hki : i ≠ k := by rintro rfl; rw [getElem!_pos t i hx] at hm; exact hm hat
        have hg := set_get t i k ⟨m, w, n⟩ hk
        rw [if_neg hki, getElem!_pos _ _ (by simpa using hk)] at hg
        rw [← hg]; exact List.getElem_mem _
      rw [fd_mem hu this]; exact ⟨rfl, fun _ => rfl⟩
  · rw [if_neg hx]
    have hno := ix_none hx
    generalize hoo : (if t.length = 8 then (old t t.length : Int) else -1) = o
    have hsub := rmA_sub t o
    have hlen : (rmA t o).length + 1 ≤ 8 := by
      by_cases h8 : t.length = 8
      · rw [if_pos h8] at hoo
        subst hoo
        have := old_lt2 t t.length (by omega)
        unfold rmA; rw [if_neg (by omega)]; simp; omega
      · have := hsub.length_le; omega
    have hu : riB (rmA t o ++ [⟨m, w, n⟩]) = true := by
      rw [ri_iff]
      refine ⟨by simpa using hlen, fun e he => ?_, ?_⟩
      · rcases List.mem_append.1 he with h | h
        · exact i2 e (hsub.subset h)
        · simp at h; subst h; exact ⟨hs, hn⟩
      · rw [List.map_append, List.nodup_append]
        refine ⟨i3.sublist (hsub.map _), by simp, fun a ha b hb => ?_⟩
        simp at hb; subst hb
        obtain ⟨x, hx', rfl⟩ := List.mem_map.1 ha
        exact hno x (hsub.subset hx')
    have he : (⟨m, w, n⟩ : En) ∈ rmA t o ++ [⟨m, w, n⟩] := by simp
    have hf : (fdF t m).2 = false := by unfold fdF; rw [if_neg hx]
    refine ⟨hu, fd_mem hu he, o, ?_, ?_, ?_⟩
    · rw [← hoo]; split <;> omega
    · intro h0
      by_cases h8 : t.length = 8
      · rw [if_pos h8] at hoo
        subst hoo
        have := old_lt2 t t.length (by omega)
        refine ⟨by omega, h8, hf, fun j hj => ?_⟩
        rw [Int.toNat_natCast]; exact old_min t _ j hj
      · rw [if_neg h8] at hoo; omega
    · intro k hk
      constructor
      · intro hko
        have : fdF (rmA t o ++ [⟨m, w, n⟩]) t[k]!.mac = (0, false) := by
          apply fd_none
          intro x hx'
          rw [getElem!_pos t k hk]
          rcases List.mem_append.1 hx' with h | h
          · subst hko
            unfold rmA at h
            rw [if_neg (by omega), Int.toNat_natCast] at h
            unfold List.Nodup at i3
            rw [List.pairwise_iff_getElem] at i3
            rcases List.mem_append.1 h with h | h
            · obtain ⟨j, hj, rfl⟩ := List.mem_iff_getElem.1 h
              rw [List.length_take] at hj
              have := i3 j k (by simp; omega) (by simp; omega) (by omega)
              simpa using this
            · obtain ⟨j, hj, rfl⟩ := List.mem_iff_getElem.1 h
              rw [List.length_drop] at hj
              have := i3 k (k + 1 + j) (by simp; omega) (by simp; omega) (by omega)
              simp only [List.getElem_map] at this
              rw [List.getElem_drop]
              exact fun h => this h.symm
          · simp at h; subst h
            exact fun h => hno _ (List.getElem_mem hk) h.symm
        rw [this]
      · intro hko
        have : t[k]! ∈ rmA t o ++ [⟨m, w, n⟩] := by
          apply List.mem_append_left
          unfold rmA
          by_cases h0 : o < 0
          · rw [if_pos h0]; exact get_mem hk
          · rw [if_neg h0]
            rcases Nat.lt_or_ge k o.toNat with h | h
            · apply List.mem_append_left
              rw [getElem!_pos t k hk]
              exact List.mem_iff_getElem.2 ⟨k, by simp; omega, by simp⟩
            · apply List.mem_append_right
              rw [getElem!_pos t k hk]
              exact List.mem_iff_getElem.2 ⟨k - (o.toNat + 1), by simp; omega, by simp; congr 1; omega⟩
        rw [fd_mem hu this]; exact ⟨rfl, fun _ => rfl⟩
def lostI (s : Int) (k : Nat) : Int := if 0 ≤ s ∧ s < k then 1 else 0
theorem tableKeeps_run (t : List En) (m w n : Int) (ht : t.length ≤ maxLen) (ho : ∀ e ∈ t, okE e) (hm : 0 ≤ m ∧ m < 18446744073709551616) (hw : -9223372036854775808 ≤ w ∧ w ≤ 9223372036854775807) (hn : -9223372036854775808 ≤ n ∧ n ≤ 9223372036854775807) : Run Try.prog 11 [esR t false, .int .u64 m, .int .i64 w, .int .i64 n] (.bool true) := by
  have w' := works_tab
  have q1 := right_run t false ht ho
  have q2 := group_run m hm.1 hm.2
  refine Try.run11 (by simp) ?_
  unfold Try.c11
  have ht' := ht
  simp only [maxLen] at ht
  by_cases h1 : 200 < t.length
  · simp only [esR] at *
    repeat' (first | (simp (disch := (first | omega | (simp only [List.length_set, List.length_append, List.length_cons, List.length_nil, List.length_take, List.length_drop, List.length_map, List.length_replicate]; omega))) only [↓pvd, pv0, pv1, pv2, pv3, pv4, pv5, pv6, pv7, pvc0, pvc1, pvc2, buildC, evP, evR, evE, Pv.get, Pv.put, putO, bin2, int2, binB2, un1, cells, boundO, AV.flat, bv, rowOne, rvs_1, rvs_2, rvL, rvX, liveB, setParts, szOk, notStr, lim, dedup, place, ent, Pv.new, Pv.newVar, Pv.newVec, setCells, AV.ones, AV.one, resX, entry, layL, layC, layA, lay, List.map, List.foldl, List.replicate, List.length_replicate, ↓reduceIte, reduceCtorEq, Nat.reduceEqDiff, Nat.reduceLT, Nat.reduceLeDiff, Nat.reduceAdd, Nat.reduceSub, Nat.reduceMul, Nat.reducePow, Nat.reduceDiv, Nat.reduceMod, Nat.reduceBEq, Nat.reduceBNe, Int.reduceLT, Int.reduceLE, Int.reduceToNat, Int.reduceAdd, Int.reduceSub, Int.reduceMul, Int.reduceNeg, Int.reducePow, Int.reduceEq, Int.reduceNe, Int.reduceDiv, Int.reduceMod, Int.reduceTDiv, Int.reduceTMod, UInt8.reduceToNat, UInt8.reduceOfNat, still]) | with_reducible refine condP_d (fun _ => ?_) (fun _ => ?_) | with_reducible refine guardP_d0 (fun _ => ?_) (fun _ => ?_) | with_reducible refine guardP_d1 (fun _ => ?_) (fun _ => ?_) | with_reducible refine condP_any ?_ ?_ | refine awR_call w' rfl rfl ?_ | refine awR_callD w' rfl rfl (fun _ => rfl) ?_ | (refine Ends_rq [] ?_; simp (disch := (first | omega | (simp only [List.length_set, List.length_append, List.length_cons, List.length_nil, List.length_take, List.length_drop, List.length_map, List.length_replicate]; omega))) only [↓pvd, pv0, pv1, pv2, pv3, pv4, pv5, pv6, pv7, pvc0, pvc1, pvc2, buildC, evP, evR, evE, Pv.get, Pv.put, putO, bin2, int2, binB2, un1, cells, boundO, AV.flat, bv, rowOne, rvs_1, rvs_2, rvL, rvX, liveB, setParts, szOk, notStr, lim, dedup, place, ent, Pv.new, Pv.newVar, Pv.newVec, setCells, AV.ones, AV.one, resX, entry, layL, layC, layA, lay, List.map, List.foldl, List.replicate, List.length_replicate, ↓reduceIte, reduceCtorEq, Nat.reduceEqDiff, Nat.reduceLT, Nat.reduceLeDiff, Nat.reduceAdd, Nat.reduceSub, Nat.reduceMul, Nat.reducePow, Nat.reduceDiv, Nat.reduceMod, Nat.reduceBEq, Nat.reduceBNe, Int.reduceLT, Int.reduceLE, Int.reduceToNat, Int.reduceAdd, Int.reduceSub, Int.reduceMul, Int.reduceNeg, Int.reducePow, Int.reduceEq, Int.reduceNe, Int.reduceDiv, Int.reduceMod, Int.reduceTDiv, Int.reduceTMod, UInt8.reduceToNat, UInt8.reduceOfNat]; exact ⟨_, rfl, rfl, rfl⟩))
  cases c1 : riB t
  · rw [c1] at q1
    simp only [esR] at *
    repeat' (first | (simp (disch := (first | omega | (simp only [List.length_set, List.length_append, List.length_cons, List.length_nil, List.length_take, List.length_drop, List.length_map, List.length_replicate]; omega))) only [↓pvd, pv0, pv1, pv2, pv3, pv4, pv5, pv6, pv7, pvc0, pvc1, pvc2, buildC, evP, evR, evE, Pv.get, Pv.put, putO, bin2, int2, binB2, un1, cells, boundO, AV.flat, bv, rowOne, rvs_1, rvs_2, rvL, rvX, liveB, setParts, szOk, notStr, lim, dedup, place, ent, Pv.new, Pv.newVar, Pv.newVec, setCells, AV.ones, AV.one, resX, entry, layL, layC, layA, lay, List.map, List.foldl, List.replicate, List.length_replicate, ↓reduceIte, reduceCtorEq, Nat.reduceEqDiff, Nat.reduceLT, Nat.reduceLeDiff, Nat.reduceAdd, Nat.reduceSub, Nat.reduceMul, Nat.reducePow, Nat.reduceDiv, Nat.reduceMod, Nat.reduceBEq, Nat.reduceBNe, Int.reduceLT, Int.reduceLE, Int.reduceToNat, Int.reduceAdd, Int.reduceSub, Int.reduceMul, Int.reduceNeg, Int.reducePow, Int.reduceEq, Int.reduceNe, Int.reduceDiv, Int.reduceMod, Int.reduceTDiv, Int.reduceTMod, UInt8.reduceToNat, UInt8.reduceOfNat, still]) | with_reducible refine condP_d (fun _ => ?_) (fun _ => ?_) | with_reducible refine guardP_d0 (fun _ => ?_) (fun _ => ?_) | with_reducible refine guardP_d1 (fun _ => ?_) (fun _ => ?_) | with_reducible refine condP_any ?_ ?_ | refine awR_call w' rfl rfl ?_ | refine awR_callD w' rfl rfl (fun _ => rfl) ?_ | refine awR_call q1 rfl rfl ?_ | refine awR_callD q1 rfl rfl (fun _ => rfl) ?_ | (refine Ends_rq [] ?_; simp (disch := (first | omega | (simp only [List.length_set, List.length_append, List.length_cons, List.length_nil, List.length_take, List.length_drop, List.length_map, List.length_replicate]; omega))) only [↓pvd, pv0, pv1, pv2, pv3, pv4, pv5, pv6, pv7, pvc0, pvc1, pvc2, buildC, evP, evR, evE, Pv.get, Pv.put, putO, bin2, int2, binB2, un1, cells, boundO, AV.flat, bv, rowOne, rvs_1, rvs_2, rvL, rvX, liveB, setParts, szOk, notStr, lim, dedup, place, ent, Pv.new, Pv.newVar, Pv.newVec, setCells, AV.ones, AV.one, resX, entry, layL, layC, layA, lay, List.map, List.foldl, List.replicate, List.length_replicate, ↓reduceIte, reduceCtorEq, Nat.reduceEqDiff, Nat.reduceLT, Nat.reduceLeDiff, Nat.reduceAdd, Nat.reduceSub, Nat.reduceMul, Nat.reducePow, Nat.reduceDiv, Nat.reduceMod, Nat.reduceBEq, Nat.reduceBNe, Int.reduceLT, Int.reduceLE, Int.reduceToNat, Int.reduceAdd, Int.reduceSub, Int.reduceMul, Int.reduceNeg, Int.reducePow, Int.reduceEq, Int.reduceNe, Int.reduceDiv, Int.reduceMod, Int.reduceTDiv, Int.reduceTMod, UInt8.reduceToNat, UInt8.reduceOfNat]; exact ⟨_, rfl, rfl, rfl⟩))
  rw [c1] at q1
  by_cases h2 : 281474976710655 < m
  · simp only [esR] at *
    repeat' (first | (simp (disch := (first | omega | (simp only [List.length_set, List.length_append, List.length_cons, List.length_nil, List.length_take, List.length_drop, List.length_map, List.length_replicate]; omega))) only [↓pvd, pv0, pv1, pv2, pv3, pv4, pv5, pv6, pv7, pvc0, pvc1, pvc2, buildC, evP, evR, evE, Pv.get, Pv.put, putO, bin2, int2, binB2, un1, cells, boundO, AV.flat, bv, rowOne, rvs_1, rvs_2, rvL, rvX, liveB, setParts, szOk, notStr, lim, dedup, place, ent, Pv.new, Pv.newVar, Pv.newVec, setCells, AV.ones, AV.one, resX, entry, layL, layC, layA, lay, List.map, List.foldl, List.replicate, List.length_replicate, ↓reduceIte, reduceCtorEq, Nat.reduceEqDiff, Nat.reduceLT, Nat.reduceLeDiff, Nat.reduceAdd, Nat.reduceSub, Nat.reduceMul, Nat.reducePow, Nat.reduceDiv, Nat.reduceMod, Nat.reduceBEq, Nat.reduceBNe, Int.reduceLT, Int.reduceLE, Int.reduceToNat, Int.reduceAdd, Int.reduceSub, Int.reduceMul, Int.reduceNeg, Int.reducePow, Int.reduceEq, Int.reduceNe, Int.reduceDiv, Int.reduceMod, Int.reduceTDiv, Int.reduceTMod, UInt8.reduceToNat, UInt8.reduceOfNat, still]) | with_reducible refine condP_d (fun _ => ?_) (fun _ => ?_) | with_reducible refine guardP_d0 (fun _ => ?_) (fun _ => ?_) | with_reducible refine guardP_d1 (fun _ => ?_) (fun _ => ?_) | with_reducible refine condP_any ?_ ?_ | refine awR_call w' rfl rfl ?_ | refine awR_callD w' rfl rfl (fun _ => rfl) ?_ | refine awR_call q1 rfl rfl ?_ | refine awR_callD q1 rfl rfl (fun _ => rfl) ?_ | (refine Ends_rq [] ?_; simp (disch := (first | omega | (simp only [List.length_set, List.length_append, List.length_cons, List.length_nil, List.length_take, List.length_drop, List.length_map, List.length_replicate]; omega))) only [↓pvd, pv0, pv1, pv2, pv3, pv4, pv5, pv6, pv7, pvc0, pvc1, pvc2, buildC, evP, evR, evE, Pv.get, Pv.put, putO, bin2, int2, binB2, un1, cells, boundO, AV.flat, bv, rowOne, rvs_1, rvs_2, rvL, rvX, liveB, setParts, szOk, notStr, lim, dedup, place, ent, Pv.new, Pv.newVar, Pv.newVec, setCells, AV.ones, AV.one, resX, entry, layL, layC, layA, lay, List.map, List.foldl, List.replicate, List.length_replicate, ↓reduceIte, reduceCtorEq, Nat.reduceEqDiff, Nat.reduceLT, Nat.reduceLeDiff, Nat.reduceAdd, Nat.reduceSub, Nat.reduceMul, Nat.reducePow, Nat.reduceDiv, Nat.reduceMod, Nat.reduceBEq, Nat.reduceBNe, Int.reduceLT, Int.reduceLE, Int.reduceToNat, Int.reduceAdd, Int.reduceSub, Int.reduceMul, Int.reduceNeg, Int.reducePow, Int.reduceEq, Int.reduceNe, Int.reduceDiv, Int.reduceMod, Int.reduceTDiv, Int.reduceTMod, UInt8.reduceToNat, UInt8.reduceOfNat]; exact ⟨_, rfl, rfl, rfl⟩))
  by_cases h3 : m / 1099511627776 % 2 = 1
  · rw [decide_eq_true h3] at q2
    simp only [esR] at *
    repeat' (first | (simp (disch := (first | omega | (simp only [List.length_set, List.length_append, List.length_cons, List.length_nil, List.length_take, List.length_drop, List.length_map, List.length_replicate]; omega))) only [↓pvd, pv0, pv1, pv2, pv3, pv4, pv5, pv6, pv7, pvc0, pvc1, pvc2, buildC, evP, evR, evE, Pv.get, Pv.put, putO, bin2, int2, binB2, un1, cells, boundO, AV.flat, bv, rowOne, rvs_1, rvs_2, rvL, rvX, liveB, setParts, szOk, notStr, lim, dedup, place, ent, Pv.new, Pv.newVar, Pv.newVec, setCells, AV.ones, AV.one, resX, entry, layL, layC, layA, lay, List.map, List.foldl, List.replicate, List.length_replicate, ↓reduceIte, reduceCtorEq, Nat.reduceEqDiff, Nat.reduceLT, Nat.reduceLeDiff, Nat.reduceAdd, Nat.reduceSub, Nat.reduceMul, Nat.reducePow, Nat.reduceDiv, Nat.reduceMod, Nat.reduceBEq, Nat.reduceBNe, Int.reduceLT, Int.reduceLE, Int.reduceToNat, Int.reduceAdd, Int.reduceSub, Int.reduceMul, Int.reduceNeg, Int.reducePow, Int.reduceEq, Int.reduceNe, Int.reduceDiv, Int.reduceMod, Int.reduceTDiv, Int.reduceTMod, UInt8.reduceToNat, UInt8.reduceOfNat, still]) | with_reducible refine condP_d (fun _ => ?_) (fun _ => ?_) | with_reducible refine guardP_d0 (fun _ => ?_) (fun _ => ?_) | with_reducible refine guardP_d1 (fun _ => ?_) (fun _ => ?_) | with_reducible refine condP_any ?_ ?_ | refine awR_call w' rfl rfl ?_ | refine awR_callD w' rfl rfl (fun _ => rfl) ?_ | refine awR_call q1 rfl rfl ?_ | refine awR_callD q1 rfl rfl (fun _ => rfl) ?_ | refine awR_call q2 rfl rfl ?_ | refine awR_callD q2 rfl rfl (fun _ => rfl) ?_ | (refine Ends_rq [] ?_; simp (disch := (first | omega | (simp only [List.length_set, List.length_append, List.length_cons, List.length_nil, List.length_take, List.length_drop, List.length_map, List.length_replicate]; omega))) only [↓pvd, pv0, pv1, pv2, pv3, pv4, pv5, pv6, pv7, pvc0, pvc1, pvc2, buildC, evP, evR, evE, Pv.get, Pv.put, putO, bin2, int2, binB2, un1, cells, boundO, AV.flat, bv, rowOne, rvs_1, rvs_2, rvL, rvX, liveB, setParts, szOk, notStr, lim, dedup, place, ent, Pv.new, Pv.newVar, Pv.newVec, setCells, AV.ones, AV.one, resX, entry, layL, layC, layA, lay, List.map, List.foldl, List.replicate, List.length_replicate, ↓reduceIte, reduceCtorEq, Nat.reduceEqDiff, Nat.reduceLT, Nat.reduceLeDiff, Nat.reduceAdd, Nat.reduceSub, Nat.reduceMul, Nat.reducePow, Nat.reduceDiv, Nat.reduceMod, Nat.reduceBEq, Nat.reduceBNe, Int.reduceLT, Int.reduceLE, Int.reduceToNat, Int.reduceAdd, Int.reduceSub, Int.reduceMul, Int.reduceNeg, Int.reducePow, Int.reduceEq, Int.reduceNe, Int.reduceDiv, Int.reduceMod, Int.reduceTDiv, Int.reduceTMod, UInt8.reduceToNat, UInt8.reduceOfNat]; exact ⟨_, rfl, rfl, rfl⟩))
  rw [decide_eq_false h3] at q2
  by_cases h4 : n < 0
  · simp only [esR] at *
    repeat' (first | (simp (disch := (first | omega | (simp only [List.length_set, List.length_append, List.length_cons, List.length_nil, List.length_take, List.length_drop, List.length_map, List.length_replicate]; omega))) only [↓pvd, pv0, pv1, pv2, pv3, pv4, pv5, pv6, pv7, pvc0, pvc1, pvc2, buildC, evP, evR, evE, Pv.get, Pv.put, putO, bin2, int2, binB2, un1, cells, boundO, AV.flat, bv, rowOne, rvs_1, rvs_2, rvL, rvX, liveB, setParts, szOk, notStr, lim, dedup, place, ent, Pv.new, Pv.newVar, Pv.newVec, setCells, AV.ones, AV.one, resX, entry, layL, layC, layA, lay, List.map, List.foldl, List.replicate, List.length_replicate, ↓reduceIte, reduceCtorEq, Nat.reduceEqDiff, Nat.reduceLT, Nat.reduceLeDiff, Nat.reduceAdd, Nat.reduceSub, Nat.reduceMul, Nat.reducePow, Nat.reduceDiv, Nat.reduceMod, Nat.reduceBEq, Nat.reduceBNe, Int.reduceLT, Int.reduceLE, Int.reduceToNat, Int.reduceAdd, Int.reduceSub, Int.reduceMul, Int.reduceNeg, Int.reducePow, Int.reduceEq, Int.reduceNe, Int.reduceDiv, Int.reduceMod, Int.reduceTDiv, Int.reduceTMod, UInt8.reduceToNat, UInt8.reduceOfNat, still]) | with_reducible refine condP_d (fun _ => ?_) (fun _ => ?_) | with_reducible refine guardP_d0 (fun _ => ?_) (fun _ => ?_) | with_reducible refine guardP_d1 (fun _ => ?_) (fun _ => ?_) | with_reducible refine condP_any ?_ ?_ | refine awR_call w' rfl rfl ?_ | refine awR_callD w' rfl rfl (fun _ => rfl) ?_ | refine awR_call q1 rfl rfl ?_ | refine awR_callD q1 rfl rfl (fun _ => rfl) ?_ | refine awR_call q2 rfl rfl ?_ | refine awR_callD q2 rfl rfl (fun _ => rfl) ?_ | (refine Ends_rq [] ?_; simp (disch := (first | omega | (simp only [List.length_set, List.length_append, List.length_cons, List.length_nil, List.length_take, List.length_drop, List.length_map, List.length_replicate]; omega))) only [↓pvd, pv0, pv1, pv2, pv3, pv4, pv5, pv6, pv7, pvc0, pvc1, pvc2, buildC, evP, evR, evE, Pv.get, Pv.put, putO, bin2, int2, binB2, un1, cells, boundO, AV.flat, bv, rowOne, rvs_1, rvs_2, rvL, rvX, liveB, setParts, szOk, notStr, lim, dedup, place, ent, Pv.new, Pv.newVar, Pv.newVec, setCells, AV.ones, AV.one, resX, entry, layL, layC, layA, lay, List.map, List.foldl, List.replicate, List.length_replicate, ↓reduceIte, reduceCtorEq, Nat.reduceEqDiff, Nat.reduceLT, Nat.reduceLeDiff, Nat.reduceAdd, Nat.reduceSub, Nat.reduceMul, Nat.reducePow, Nat.reduceDiv, Nat.reduceMod, Nat.reduceBEq, Nat.reduceBNe, Int.reduceLT, Int.reduceLE, Int.reduceToNat, Int.reduceAdd, Int.reduceSub, Int.reduceMul, Int.reduceNeg, Int.reducePow, Int.reduceEq, Int.reduceNe, Int.reduceDiv, Int.reduceMod, Int.reduceTDiv, Int.reduceTMod, UInt8.reduceToNat, UInt8.reduceOfNat]; exact ⟨_, rfl, rfl, rfl⟩))
  by_cases h5 : 1099511627776 < n
  · simp only [esR] at *
    repeat' (first | (simp (disch := (first | omega | (simp only [List.length_set, List.length_append, List.length_cons, List.length_nil, List.length_take, List.length_drop, List.length_map, List.length_replicate]; omega))) only [↓pvd, pv0, pv1, pv2, pv3, pv4, pv5, pv6, pv7, pvc0, pvc1, pvc2, buildC, evP, evR, evE, Pv.get, Pv.put, putO, bin2, int2, binB2, un1, cells, boundO, AV.flat, bv, rowOne, rvs_1, rvs_2, rvL, rvX, liveB, setParts, szOk, notStr, lim, dedup, place, ent, Pv.new, Pv.newVar, Pv.newVec, setCells, AV.ones, AV.one, resX, entry, layL, layC, layA, lay, List.map, List.foldl, List.replicate, List.length_replicate, ↓reduceIte, reduceCtorEq, Nat.reduceEqDiff, Nat.reduceLT, Nat.reduceLeDiff, Nat.reduceAdd, Nat.reduceSub, Nat.reduceMul, Nat.reducePow, Nat.reduceDiv, Nat.reduceMod, Nat.reduceBEq, Nat.reduceBNe, Int.reduceLT, Int.reduceLE, Int.reduceToNat, Int.reduceAdd, Int.reduceSub, Int.reduceMul, Int.reduceNeg, Int.reducePow, Int.reduceEq, Int.reduceNe, Int.reduceDiv, Int.reduceMod, Int.reduceTDiv, Int.reduceTMod, UInt8.reduceToNat, UInt8.reduceOfNat, still]) | with_reducible refine condP_d (fun _ => ?_) (fun _ => ?_) | with_reducible refine guardP_d0 (fun _ => ?_) (fun _ => ?_) | with_reducible refine guardP_d1 (fun _ => ?_) (fun _ => ?_) | with_reducible refine condP_any ?_ ?_ | refine awR_call w' rfl rfl ?_ | refine awR_callD w' rfl rfl (fun _ => rfl) ?_ | refine awR_call q1 rfl rfl ?_ | refine awR_callD q1 rfl rfl (fun _ => rfl) ?_ | refine awR_call q2 rfl rfl ?_ | refine awR_callD q2 rfl rfl (fun _ => rfl) ?_ | (refine Ends_rq [] ?_; simp (disch := (first | omega | (simp only [List.length_set, List.length_append, List.length_cons, List.length_nil, List.length_take, List.length_drop, List.length_map, List.length_replicate]; omega))) only [↓pvd, pv0, pv1, pv2, pv3, pv4, pv5, pv6, pv7, pvc0, pvc1, pvc2, buildC, evP, evR, evE, Pv.get, Pv.put, putO, bin2, int2, binB2, un1, cells, boundO, AV.flat, bv, rowOne, rvs_1, rvs_2, rvL, rvX, liveB, setParts, szOk, notStr, lim, dedup, place, ent, Pv.new, Pv.newVar, Pv.newVec, setCells, AV.ones, AV.one, resX, entry, layL, layC, layA, lay, List.map, List.foldl, List.replicate, List.length_replicate, ↓reduceIte, reduceCtorEq, Nat.reduceEqDiff, Nat.reduceLT, Nat.reduceLeDiff, Nat.reduceAdd, Nat.reduceSub, Nat.reduceMul, Nat.reducePow, Nat.reduceDiv, Nat.reduceMod, Nat.reduceBEq, Nat.reduceBNe, Int.reduceLT, Int.reduceLE, Int.reduceToNat, Int.reduceAdd, Int.reduceSub, Int.reduceMul, Int.reduceNeg, Int.reducePow, Int.reduceEq, Int.reduceNe, Int.reduceDiv, Int.reduceMod, Int.reduceTDiv, Int.reduceTMod, UInt8.reduceToNat, UInt8.reduceOfNat]; exact ⟨_, rfl, rfl, rfl⟩))
  have s1 : stB m = true := by unfold stB; rw [decide_eq_true (by omega), decide_eq_false h3]; rfl
  have s2 : tmB n = true := by unfold tmB; simp; omega
  obtain ⟨f1, f2, s, f3, f4, f5⟩ := ln_keeps t m w n c1 s1 s2
  have q3 := learn_runF t m w n false (by omega) ho hm
  have hul := ln_len t m w n
  have hou : ∀ e ∈ lnF t m w n, okE e := fun e he => by
    have hnew : okE ⟨m, w, n⟩ := ⟨hm, hw, hn⟩
    unfold lnF at he
    split at he
    · exact ho e he
    split at he
    · rcases List.mem_or_eq_of_mem_set he with h | rfl
      · exact ho e h
      · exact hnew
    · rcases List.mem_append.1 he with h | h
      · exact ho e ((rmA_sub _ _).subset h)
      · simp at h; subst h; exact hnew
  have hF := fun c => find_run (lnF t m w n) c false (by simp [maxLen]; omega)
  have q4 := hF m
  rw [f2] at q4
  have q5 := find_run t m false ht'
  have q6 := right_run (lnF t m w n) false (by simp [maxLen]; omega) hou
  rw [f1] at q6
  generalize lnF t m w n = u at *
  generalize (fdF t m).1 = y5 at *
  generalize (fdF t m).2 = was at *
  simp only [esR] at *
  simp (disch := (first | omega | (simp only [List.length_set, List.length_append, List.length_cons, List.length_nil, List.length_take, List.length_drop, List.length_map, List.length_replicate] at *; omega))) only [↓pvd, pv0, pv1, pv2, pv3, pv4, pv5, pv6, pv7, pvc0, pvc1, pvc2, buildC, evP, evR, evE, Pv.get, Pv.put, putO, bin2, int2, binB2, un1, cells, boundO, AV.flat, bv, rowOne, rvs_1, rvs_2, rvL, rvX, liveB, setParts, szOk, notStr, lim, dedup, place, ent, Pv.new, Pv.newVar, Pv.newVec, setCells, AV.ones, AV.one, resX, entry, layL, layC, layA, lay, List.map, List.foldl, List.replicate, List.length_replicate, ↓reduceIte, reduceCtorEq, Nat.reduceEqDiff, Nat.reduceLT, Nat.reduceLeDiff, Nat.reduceAdd, Nat.reduceSub, Nat.reduceMul, Nat.reducePow, Nat.reduceDiv, Nat.reduceMod, Nat.reduceBEq, Nat.reduceBNe, Int.reduceLT, Int.reduceLE, Int.reduceToNat, Int.reduceAdd, Int.reduceSub, Int.reduceMul, Int.reduceNeg, Int.reducePow, Int.reduceEq, Int.reduceNe, Int.reduceDiv, Int.reduceMod, Int.reduceTDiv, Int.reduceTMod, UInt8.reduceToNat, UInt8.reduceOfNat]
  refine awR_call w' rfl rfl ?_
  simp (disch := (first | omega | (simp only [List.length_set, List.length_append, List.length_cons, List.length_nil, List.length_take, List.length_drop, List.length_map, List.length_replicate] at *; omega))) only [↓pvd, pv0, pv1, pv2, pv3, pv4, pv5, pv6, pv7, pvc0, pvc1, pvc2, buildC, evP, evR, evE, Pv.get, Pv.put, putO, bin2, int2, binB2, un1, cells, boundO, AV.flat, bv, rowOne, rvs_1, rvs_2, rvL, rvX, liveB, setParts, szOk, notStr, lim, dedup, place, ent, Pv.new, Pv.newVar, Pv.newVec, setCells, AV.ones, AV.one, resX, entry, layL, layC, layA, lay, List.map, List.foldl, List.replicate, List.length_replicate, ↓reduceIte, reduceCtorEq, Nat.reduceEqDiff, Nat.reduceLT, Nat.reduceLeDiff, Nat.reduceAdd, Nat.reduceSub, Nat.reduceMul, Nat.reducePow, Nat.reduceDiv, Nat.reduceMod, Nat.reduceBEq, Nat.reduceBNe, Int.reduceLT, Int.reduceLE, Int.reduceToNat, Int.reduceAdd, Int.reduceSub, Int.reduceMul, Int.reduceNeg, Int.reducePow, Int.reduceEq, Int.reduceNe, Int.reduceDiv, Int.reduceMod, Int.reduceTDiv, Int.reduceTMod, UInt8.reduceToNat, UInt8.reduceOfNat]
  refine awR_call q1 rfl rfl ?_
  simp (disch := (first | omega | (simp only [List.length_set, List.length_append, List.length_cons, List.length_nil, List.length_take, List.length_drop, List.length_map, List.length_replicate] at *; omega))) only [↓pvd, pv0, pv1, pv2, pv3, pv4, pv5, pv6, pv7, pvc0, pvc1, pvc2, buildC, evP, evR, evE, Pv.get, Pv.put, putO, bin2, int2, binB2, un1, cells, boundO, AV.flat, bv, rowOne, rvs_1, rvs_2, rvL, rvX, liveB, setParts, szOk, notStr, lim, dedup, place, ent, Pv.new, Pv.newVar, Pv.newVec, setCells, AV.ones, AV.one, resX, entry, layL, layC, layA, lay, List.map, List.foldl, List.replicate, List.length_replicate, ↓reduceIte, reduceCtorEq, Nat.reduceEqDiff, Nat.reduceLT, Nat.reduceLeDiff, Nat.reduceAdd, Nat.reduceSub, Nat.reduceMul, Nat.reducePow, Nat.reduceDiv, Nat.reduceMod, Nat.reduceBEq, Nat.reduceBNe, Int.reduceLT, Int.reduceLE, Int.reduceToNat, Int.reduceAdd, Int.reduceSub, Int.reduceMul, Int.reduceNeg, Int.reducePow, Int.reduceEq, Int.reduceNe, Int.reduceDiv, Int.reduceMod, Int.reduceTDiv, Int.reduceTMod, UInt8.reduceToNat, UInt8.reduceOfNat]
  refine awR_call q2 rfl rfl ?_
  simp (disch := (first | omega | (simp only [List.length_set, List.length_append, List.length_cons, List.length_nil, List.length_take, List.length_drop, List.length_map, List.length_replicate] at *; omega))) only [↓pvd, pv0, pv1, pv2, pv3, pv4, pv5, pv6, pv7, pvc0, pvc1, pvc2, buildC, evP, evR, evE, Pv.get, Pv.put, putO, bin2, int2, binB2, un1, cells, boundO, AV.flat, bv, rowOne, rvs_1, rvs_2, rvL, rvX, liveB, setParts, szOk, notStr, lim, dedup, place, ent, Pv.new, Pv.newVar, Pv.newVec, setCells, AV.ones, AV.one, resX, entry, layL, layC, layA, lay, List.map, List.foldl, List.replicate, List.length_replicate, ↓reduceIte, reduceCtorEq, Nat.reduceEqDiff, Nat.reduceLT, Nat.reduceLeDiff, Nat.reduceAdd, Nat.reduceSub, Nat.reduceMul, Nat.reducePow, Nat.reduceDiv, Nat.reduceMod, Nat.reduceBEq, Nat.reduceBNe, Int.reduceLT, Int.reduceLE, Int.reduceToNat, Int.reduceAdd, Int.reduceSub, Int.reduceMul, Int.reduceNeg, Int.reducePow, Int.reduceEq, Int.reduceNe, Int.reduceDiv, Int.reduceMod, Int.reduceTDiv, Int.reduceTMod, UInt8.reduceToNat, UInt8.reduceOfNat]
  refine awR_call q3 rfl rfl ?_
  simp (disch := (first | omega | (simp only [List.length_set, List.length_append, List.length_cons, List.length_nil, List.length_take, List.length_drop, List.length_map, List.length_replicate] at *; omega))) only [↓pvd, pv0, pv1, pv2, pv3, pv4, pv5, pv6, pv7, pvc0, pvc1, pvc2, buildC, evP, evR, evE, Pv.get, Pv.put, putO, bin2, int2, binB2, un1, cells, boundO, AV.flat, bv, rowOne, rvs_1, rvs_2, rvL, rvX, liveB, setParts, szOk, notStr, lim, dedup, place, ent, Pv.new, Pv.newVar, Pv.newVec, setCells, AV.ones, AV.one, resX, entry, layL, layC, layA, lay, List.map, List.foldl, List.replicate, List.length_replicate, ↓reduceIte, reduceCtorEq, Nat.reduceEqDiff, Nat.reduceLT, Nat.reduceLeDiff, Nat.reduceAdd, Nat.reduceSub, Nat.reduceMul, Nat.reducePow, Nat.reduceDiv, Nat.reduceMod, Nat.reduceBEq, Nat.reduceBNe, Int.reduceLT, Int.reduceLE, Int.reduceToNat, Int.reduceAdd, Int.reduceSub, Int.reduceMul, Int.reduceNeg, Int.reducePow, Int.reduceEq, Int.reduceNe, Int.reduceDiv, Int.reduceMod, Int.reduceTDiv, Int.reduceTMod, UInt8.reduceToNat, UInt8.reduceOfNat]
  refine awR_call q4 rfl rfl ?_
  simp (disch := (first | omega | (simp only [List.length_set, List.length_append, List.length_cons, List.length_nil, List.length_take, List.length_drop, List.length_map, List.length_replicate] at *; omega))) only [↓pvd, pv0, pv1, pv2, pv3, pv4, pv5, pv6, pv7, pvc0, pvc1, pvc2, buildC, evP, evR, evE, Pv.get, Pv.put, putO, bin2, int2, binB2, un1, cells, boundO, AV.flat, bv, rowOne, rvs_1, rvs_2, rvL, rvX, liveB, setParts, szOk, notStr, lim, dedup, place, ent, Pv.new, Pv.newVar, Pv.newVec, setCells, AV.ones, AV.one, resX, entry, layL, layC, layA, lay, List.map, List.foldl, List.replicate, List.length_replicate, ↓reduceIte, reduceCtorEq, Nat.reduceEqDiff, Nat.reduceLT, Nat.reduceLeDiff, Nat.reduceAdd, Nat.reduceSub, Nat.reduceMul, Nat.reducePow, Nat.reduceDiv, Nat.reduceMod, Nat.reduceBEq, Nat.reduceBNe, Int.reduceLT, Int.reduceLE, Int.reduceToNat, Int.reduceAdd, Int.reduceSub, Int.reduceMul, Int.reduceNeg, Int.reducePow, Int.reduceEq, Int.reduceNe, Int.reduceDiv, Int.reduceMod, Int.reduceTDiv, Int.reduceTMod, UInt8.reduceToNat, UInt8.reduceOfNat]
  refine awR_call q5 rfl rfl ?_
  simp (disch := (first | omega | (simp only [List.length_set, List.length_append, List.length_cons, List.length_nil, List.length_take, List.length_drop, List.length_map, List.length_replicate] at *; omega))) only [↓pvd, pv0, pv1, pv2, pv3, pv4, pv5, pv6, pv7, pvc0, pvc1, pvc2, buildC, evP, evR, evE, Pv.get, Pv.put, putO, bin2, int2, binB2, un1, cells, boundO, AV.flat, bv, rowOne, rvs_1, rvs_2, rvL, rvX, liveB, setParts, szOk, notStr, lim, dedup, place, ent, Pv.new, Pv.newVar, Pv.newVec, setCells, AV.ones, AV.one, resX, entry, layL, layC, layA, lay, List.map, List.foldl, List.replicate, List.length_replicate, ↓reduceIte, reduceCtorEq, Nat.reduceEqDiff, Nat.reduceLT, Nat.reduceLeDiff, Nat.reduceAdd, Nat.reduceSub, Nat.reduceMul, Nat.reducePow, Nat.reduceDiv, Nat.reduceMod, Nat.reduceBEq, Nat.reduceBNe, Int.reduceLT, Int.reduceLE, Int.reduceToNat, Int.reduceAdd, Int.reduceSub, Int.reduceMul, Int.reduceNeg, Int.reducePow, Int.reduceEq, Int.reduceNe, Int.reduceDiv, Int.reduceMod, Int.reduceTDiv, Int.reduceTMod, UInt8.reduceToNat, UInt8.reduceOfNat]
  refine awR_call q6 rfl rfl ?_
  simp (disch := (first | omega | (simp only [List.length_set, List.length_append, List.length_cons, List.length_nil, List.length_take, List.length_drop, List.length_map, List.length_replicate] at *; omega))) only [↓pvd, pv0, pv1, pv2, pv3, pv4, pv5, pv6, pv7, pvc0, pvc1, pvc2, buildC, evP, evR, evE, Pv.get, Pv.put, putO, bin2, int2, binB2, un1, cells, boundO, AV.flat, bv, rowOne, rvs_1, rvs_2, rvL, rvX, liveB, setParts, szOk, notStr, lim, dedup, place, ent, Pv.new, Pv.newVar, Pv.newVec, setCells, AV.ones, AV.one, resX, entry, layL, layC, layA, lay, List.map, List.foldl, List.replicate, List.length_replicate, ↓reduceIte, reduceCtorEq, Nat.reduceEqDiff, Nat.reduceLT, Nat.reduceLeDiff, Nat.reduceAdd, Nat.reduceSub, Nat.reduceMul, Nat.reducePow, Nat.reduceDiv, Nat.reduceMod, Nat.reduceBEq, Nat.reduceBNe, Int.reduceLT, Int.reduceLE, Int.reduceToNat, Int.reduceAdd, Int.reduceSub, Int.reduceMul, Int.reduceNeg, Int.reducePow, Int.reduceEq, Int.reduceNe, Int.reduceDiv, Int.reduceMod, Int.reduceTDiv, Int.reduceTMod, UInt8.reduceToNat, UInt8.reduceOfNat]
  refine aw_loop (fun k : Nat => ⟨[(0, .sl 3 (t.map enR) false), (1, .int .u64 m), (9, .sl 3 (u.map enR) false), (13, .bool was), (14, .int .i64 (lostI s k)), (78, .sl 3 (t.map enR) false), (79, .int .i64 t.length), (80, .int .i64 k)], []⟩) (fun k => k ≤ t.length) (fun k => t.length - k) 0 ?_ (by omega) ?_
  · have e0 : lostI s 0 = 0 := by unfold lostI; rw [if_neg (by omega)]
    simp (disch := (first | omega | (simp only [List.length_set, List.length_append, List.length_cons, List.length_nil, List.length_take, List.length_drop, List.length_map, List.length_replicate]; omega))) only [↓pvd, pv0, pv1, pv2, pv3, pv4, pv5, pv6, pv7, pvc0, pvc1, pvc2, buildC, evP, evR, evE, Pv.get, Pv.put, putO, bin2, int2, binB2, un1, cells, boundO, AV.flat, bv, rowOne, rvs_1, rvs_2, rvL, rvX, liveB, setParts, szOk, notStr, lim, dedup, place, ent, Pv.new, Pv.newVar, Pv.newVec, setCells, AV.ones, AV.one, resX, entry, layL, layC, layA, lay, List.map, List.foldl, List.replicate, List.length_replicate, ↓reduceIte, reduceCtorEq, Nat.reduceEqDiff, Nat.reduceLT, Nat.reduceLeDiff, Nat.reduceAdd, Nat.reduceSub, Nat.reduceMul, Nat.reducePow, Nat.reduceDiv, Nat.reduceMod, Nat.reduceBEq, Nat.reduceBNe, Int.reduceLT, Int.reduceLE, Int.reduceToNat, Int.reduceAdd, Int.reduceSub, Int.reduceMul, Int.reduceNeg, Int.reducePow, Int.reduceEq, Int.reduceNe, Int.reduceDiv, Int.reduceMod, Int.reduceTDiv, Int.reduceTMod, UInt8.reduceToNat, UInt8.reduceOfNat, e0]
    try rfl
  intro k hk
  unfold Try.c11b1
  by_cases hc : (k : Int) < t.length
  · have hk2 : k < t.length := by omega
    obtain ⟨g1, g2⟩ := f5 k hk2
    have qk := hF t[k]!.mac
    by_cases hs : (k : Int) = s
    · have g3 := g1 hs
      obtain ⟨p1, p2, p3, p4⟩ := f4 (by omega)
      have hl1 : lostI s k = 0 := by unfold lostI; rw [if_neg (by omega)]
      have hl2 : lostI s (k + 1) = 1 := by unfold lostI; rw [if_pos (by omega)]
      have hsk : s.toNat = k := by omega
      rw [hsk] at p4
      rw [g3] at qk
      rw [hl1]
      generalize (fdF u t[k]!.mac).1 = y at *
      simp (disch := (first | omega | (simp only [List.length_set, List.length_append, List.length_cons, List.length_nil, List.length_take, List.length_drop, List.length_map, List.length_replicate]; omega))) only [↓pvd, pv0, pv1, pv2, pv3, pv4, pv5, pv6, pv7, pvc0, pvc1, pvc2, buildC, evP, evR, evE, Pv.get, Pv.put, putO, bin2, int2, binB2, un1, cells, boundO, AV.flat, bv, rowOne, rvs_1, rvs_2, rvL, rvX, liveB, setParts, szOk, notStr, lim, dedup, place, ent, Pv.new, Pv.newVar, Pv.newVec, setCells, AV.ones, AV.one, resX, entry, layL, layC, layA, lay, List.map, List.foldl, List.replicate, List.length_replicate, ↓reduceIte, reduceCtorEq, Nat.reduceEqDiff, Nat.reduceLT, Nat.reduceLeDiff, Nat.reduceAdd, Nat.reduceSub, Nat.reduceMul, Nat.reducePow, Nat.reduceDiv, Nat.reduceMod, Nat.reduceBEq, Nat.reduceBNe, Int.reduceLT, Int.reduceLE, Int.reduceToNat, Int.reduceAdd, Int.reduceSub, Int.reduceMul, Int.reduceNeg, Int.reducePow, Int.reduceEq, Int.reduceNe, Int.reduceDiv, Int.reduceMod, Int.reduceTDiv, Int.reduceTMod, UInt8.reduceToNat, UInt8.reduceOfNat, enR]
      refine awR_call qk rfl rfl ?_
      simp (disch := (first | omega | (simp only [List.length_set, List.length_append, List.length_cons, List.length_nil, List.length_take, List.length_drop, List.length_map, List.length_replicate] at *; omega))) only [↓pvd, pv0, pv1, pv2, pv3, pv4, pv5, pv6, pv7, pvc0, pvc1, pvc2, buildC, evP, evR, evE, Pv.get, Pv.put, putO, bin2, int2, binB2, un1, cells, boundO, AV.flat, bv, rowOne, rvs_1, rvs_2, rvL, rvX, liveB, setParts, szOk, notStr, lim, dedup, place, ent, Pv.new, Pv.newVar, Pv.newVec, setCells, AV.ones, AV.one, resX, entry, layL, layC, layA, lay, List.map, List.foldl, List.replicate, List.length_replicate, ↓reduceIte, reduceCtorEq, Nat.reduceEqDiff, Nat.reduceLT, Nat.reduceLeDiff, Nat.reduceAdd, Nat.reduceSub, Nat.reduceMul, Nat.reducePow, Nat.reduceDiv, Nat.reduceMod, Nat.reduceBEq, Nat.reduceBNe, Int.reduceLT, Int.reduceLE, Int.reduceToNat, Int.reduceAdd, Int.reduceSub, Int.reduceMul, Int.reduceNeg, Int.reducePow, Int.reduceEq, Int.reduceNe, Int.reduceDiv, Int.reduceMod, Int.reduceTDiv, Int.reduceTMod, UInt8.reduceToNat, UInt8.reduceOfNat]
      refine aw_loop (fun j : Nat => ⟨[(0, .sl 3 (t.map enR) false), (1, .int .u64 m), (9, .sl 3 (u.map enR) false), (13, .bool was), (14, .int .i64 1), (16, .eptr 0 0 0), (17, .int .i64 y), (18, .bool false), (78, .sl 3 (t.map enR) false), (79, .int .i64 t.length), (80, .int .i64 k), (95, .sl 3 (t.map enR) false), (96, .int .i64 t.length), (97, .int .i64 j)], [some ⟨62, [enR t[k]!], true⟩]⟩) (fun j => j ≤ t.length) (fun j => t.length - j) 0 ?_ (by omega) ?_
      · simp (disch := (first | omega | (simp only [List.length_set, List.length_append, List.length_cons, List.length_nil, List.length_take, List.length_drop, List.length_map, List.length_replicate]; omega))) only [↓pvd, pv0, pv1, pv2, pv3, pv4, pv5, pv6, pv7, pvc0, pvc1, pvc2, buildC, evP, evR, evE, Pv.get, Pv.put, putO, bin2, int2, binB2, un1, cells, boundO, AV.flat, bv, rowOne, rvs_1, rvs_2, rvL, rvX, liveB, setParts, szOk, notStr, lim, dedup, place, ent, Pv.new, Pv.newVar, Pv.newVec, setCells, AV.ones, AV.one, resX, entry, layL, layC, layA, lay, List.map, List.foldl, List.replicate, List.length_replicate, ↓reduceIte, reduceCtorEq, Nat.reduceEqDiff, Nat.reduceLT, Nat.reduceLeDiff, Nat.reduceAdd, Nat.reduceSub, Nat.reduceMul, Nat.reducePow, Nat.reduceDiv, Nat.reduceMod, Nat.reduceBEq, Nat.reduceBNe, Int.reduceLT, Int.reduceLE, Int.reduceToNat, Int.reduceAdd, Int.reduceSub, Int.reduceMul, Int.reduceNeg, Int.reducePow, Int.reduceEq, Int.reduceNe, Int.reduceDiv, Int.reduceMod, Int.reduceTDiv, Int.reduceTMod, UInt8.reduceToNat, UInt8.reduceOfNat, enR]
        try rfl
      intro j hj
      unfold Try.c11b0
      by_cases hd : (j : Int) < t.length
      · have hj2 : j < t.length := by omega
        have qj := hF t[j]!.mac
        have hle := p4 j hj2
        generalize (fdF u t[j]!.mac).1 = yj at *
        cases hb : (fdF u t[j]!.mac).2
        · rw [hb] at qj
          simp (disch := (first | omega | (simp only [List.length_set, List.length_append, List.length_cons, List.length_nil, List.length_take, List.length_drop, List.length_map, List.length_replicate]; omega))) only [↓pvd, pv0, pv1, pv2, pv3, pv4, pv5, pv6, pv7, pvc0, pvc1, pvc2, buildC, evP, evR, evE, Pv.get, Pv.put, putO, bin2, int2, binB2, un1, cells, boundO, AV.flat, bv, rowOne, rvs_1, rvs_2, rvL, rvX, liveB, setParts, szOk, notStr, lim, dedup, place, ent, Pv.new, Pv.newVar, Pv.newVec, setCells, AV.ones, AV.one, resX, entry, layL, layC, layA, lay, List.map, List.foldl, List.replicate, List.length_replicate, ↓reduceIte, reduceCtorEq, Nat.reduceEqDiff, Nat.reduceLT, Nat.reduceLeDiff, Nat.reduceAdd, Nat.reduceSub, Nat.reduceMul, Nat.reducePow, Nat.reduceDiv, Nat.reduceMod, Nat.reduceBEq, Nat.reduceBNe, Int.reduceLT, Int.reduceLE, Int.reduceToNat, Int.reduceAdd, Int.reduceSub, Int.reduceMul, Int.reduceNeg, Int.reducePow, Int.reduceEq, Int.reduceNe, Int.reduceDiv, Int.reduceMod, Int.reduceTDiv, Int.reduceTMod, UInt8.reduceToNat, UInt8.reduceOfNat, enR]
          refine awR_call qj rfl rfl ?_
          simp (disch := (first | omega | (simp only [List.length_set, List.length_append, List.length_cons, List.length_nil, List.length_take, List.length_drop, List.length_map, List.length_replicate]; omega))) only [↓pvd, pv0, pv1, pv2, pv3, pv4, pv5, pv6, pv7, pvc0, pvc1, pvc2, buildC, evP, evR, evE, Pv.get, Pv.put, putO, bin2, int2, binB2, un1, cells, boundO, AV.flat, bv, rowOne, rvs_1, rvs_2, rvL, rvX, liveB, setParts, szOk, notStr, lim, dedup, place, ent, Pv.new, Pv.newVar, Pv.newVec, setCells, AV.ones, AV.one, resX, entry, layL, layC, layA, lay, List.map, List.foldl, List.replicate, List.length_replicate, ↓reduceIte, reduceCtorEq, Nat.reduceEqDiff, Nat.reduceLT, Nat.reduceLeDiff, Nat.reduceAdd, Nat.reduceSub, Nat.reduceMul, Nat.reducePow, Nat.reduceDiv, Nat.reduceMod, Nat.reduceBEq, Nat.reduceBNe, Int.reduceLT, Int.reduceLE, Int.reduceToNat, Int.reduceAdd, Int.reduceSub, Int.reduceMul, Int.reduceNeg, Int.reducePow, Int.reduceEq, Int.reduceNe, Int.reduceDiv, Int.reduceMod, Int.reduceTDiv, Int.reduceTMod, UInt8.reduceToNat, UInt8.reduceOfNat, enR]
          exact ⟨j + 1, rfl, by omega, by omega⟩
        · rw [hb] at qj
          simp (disch := (first | omega | (simp only [List.length_set, List.length_append, List.length_cons, List.length_nil, List.length_take, List.length_drop, List.length_map, List.length_replicate]; omega))) only [↓pvd, pv0, pv1, pv2, pv3, pv4, pv5, pv6, pv7, pvc0, pvc1, pvc2, buildC, evP, evR, evE, Pv.get, Pv.put, putO, bin2, int2, binB2, un1, cells, boundO, AV.flat, bv, rowOne, rvs_1, rvs_2, rvL, rvX, liveB, setParts, szOk, notStr, lim, dedup, place, ent, Pv.new, Pv.newVar, Pv.newVec, setCells, AV.ones, AV.one, resX, entry, layL, layC, layA, lay, List.map, List.foldl, List.replicate, List.length_replicate, ↓reduceIte, reduceCtorEq, Nat.reduceEqDiff, Nat.reduceLT, Nat.reduceLeDiff, Nat.reduceAdd, Nat.reduceSub, Nat.reduceMul, Nat.reducePow, Nat.reduceDiv, Nat.reduceMod, Nat.reduceBEq, Nat.reduceBNe, Int.reduceLT, Int.reduceLE, Int.reduceToNat, Int.reduceAdd, Int.reduceSub, Int.reduceMul, Int.reduceNeg, Int.reducePow, Int.reduceEq, Int.reduceNe, Int.reduceDiv, Int.reduceMod, Int.reduceTDiv, Int.reduceTMod, UInt8.reduceToNat, UInt8.reduceOfNat, enR]
          refine awR_call qj rfl rfl ?_
          simp (disch := (first | omega | (simp only [List.length_set, List.length_append, List.length_cons, List.length_nil, List.length_take, List.length_drop, List.length_map, List.length_replicate]; omega))) only [↓pvd, pv0, pv1, pv2, pv3, pv4, pv5, pv6, pv7, pvc0, pvc1, pvc2, buildC, evP, evR, evE, Pv.get, Pv.put, putO, bin2, int2, binB2, un1, cells, boundO, AV.flat, bv, rowOne, rvs_1, rvs_2, rvL, rvX, liveB, setParts, szOk, notStr, lim, dedup, place, ent, Pv.new, Pv.newVar, Pv.newVec, setCells, AV.ones, AV.one, resX, entry, layL, layC, layA, lay, List.map, List.foldl, List.replicate, List.length_replicate, ↓reduceIte, reduceCtorEq, Nat.reduceEqDiff, Nat.reduceLT, Nat.reduceLeDiff, Nat.reduceAdd, Nat.reduceSub, Nat.reduceMul, Nat.reducePow, Nat.reduceDiv, Nat.reduceMod, Nat.reduceBEq, Nat.reduceBNe, Int.reduceLT, Int.reduceLE, Int.reduceToNat, Int.reduceAdd, Int.reduceSub, Int.reduceMul, Int.reduceNeg, Int.reducePow, Int.reduceEq, Int.reduceNe, Int.reduceDiv, Int.reduceMod, Int.reduceTDiv, Int.reduceTMod, UInt8.reduceToNat, UInt8.reduceOfNat, enR]
          exact ⟨j + 1, rfl, by omega, by omega⟩
      · have : j = t.length := by omega
        subst this
        simp (disch := (first | omega | (simp only [List.length_set, List.length_append, List.length_cons, List.length_nil, List.length_take, List.length_drop, List.length_map, List.length_replicate]; omega))) only [↓pvd, pv0, pv1, pv2, pv3, pv4, pv5, pv6, pv7, pvc0, pvc1, pvc2, buildC, evP, evR, evE, Pv.get, Pv.put, putO, bin2, int2, binB2, un1, cells, boundO, AV.flat, bv, rowOne, rvs_1, rvs_2, rvL, rvX, liveB, setParts, szOk, notStr, lim, dedup, place, ent, Pv.new, Pv.newVar, Pv.newVec, setCells, AV.ones, AV.one, resX, entry, layL, layC, layA, lay, List.map, List.foldl, List.replicate, List.length_replicate, ↓reduceIte, reduceCtorEq, Nat.reduceEqDiff, Nat.reduceLT, Nat.reduceLeDiff, Nat.reduceAdd, Nat.reduceSub, Nat.reduceMul, Nat.reducePow, Nat.reduceDiv, Nat.reduceMod, Nat.reduceBEq, Nat.reduceBNe, Int.reduceLT, Int.reduceLE, Int.reduceToNat, Int.reduceAdd, Int.reduceSub, Int.reduceMul, Int.reduceNeg, Int.reducePow, Int.reduceEq, Int.reduceNe, Int.reduceDiv, Int.reduceMod, Int.reduceTDiv, Int.reduceTMod, UInt8.reduceToNat, UInt8.reduceOfNat, enR]
        exact ⟨k + 1, by rw [hl2]; rfl, by omega, by omega⟩
    · obtain ⟨g3, g4⟩ := g2 hs
      have hl1 : lostI s (k + 1) = lostI s k := by
        unfold lostI
        by_cases h : 0 ≤ s ∧ s < k
        · rw [if_pos h, if_pos (by omega)]
        · rw [if_neg h, if_neg (by omega)]
      have hlb : 0 ≤ lostI s k ∧ lostI s k ≤ 1 := by unfold lostI; split <;> omega
      rw [g3] at qk
      by_cases hmm : t[k]!.mac = m
      · generalize (fdF u t[k]!.mac).1 = y at *
        generalize lostI s k = L at *
        simp (disch := (first | omega | (simp only [List.length_set, List.length_append, List.length_cons, List.length_nil, List.length_take, List.length_drop, List.length_map, List.length_replicate]; omega))) only [↓pvd, pv0, pv1, pv2, pv3, pv4, pv5, pv6, pv7, pvc0, pvc1, pvc2, buildC, evP, evR, evE, Pv.get, Pv.put, putO, bin2, int2, binB2, un1, cells, boundO, AV.flat, bv, rowOne, rvs_1, rvs_2, rvL, rvX, liveB, setParts, szOk, notStr, lim, dedup, place, ent, Pv.new, Pv.newVar, Pv.newVec, setCells, AV.ones, AV.one, resX, entry, layL, layC, layA, lay, List.map, List.foldl, List.replicate, List.length_replicate, ↓reduceIte, reduceCtorEq, Nat.reduceEqDiff, Nat.reduceLT, Nat.reduceLeDiff, Nat.reduceAdd, Nat.reduceSub, Nat.reduceMul, Nat.reducePow, Nat.reduceDiv, Nat.reduceMod, Nat.reduceBEq, Nat.reduceBNe, Int.reduceLT, Int.reduceLE, Int.reduceToNat, Int.reduceAdd, Int.reduceSub, Int.reduceMul, Int.reduceNeg, Int.reducePow, Int.reduceEq, Int.reduceNe, Int.reduceDiv, Int.reduceMod, Int.reduceTDiv, Int.reduceTMod, UInt8.reduceToNat, UInt8.reduceOfNat, enR]
        refine awR_call qk rfl rfl ?_
        simp (disch := (first | omega | (simp only [List.length_set, List.length_append, List.length_cons, List.length_nil, List.length_take, List.length_drop, List.length_map, List.length_replicate]; omega))) only [↓pvd, pv0, pv1, pv2, pv3, pv4, pv5, pv6, pv7, pvc0, pvc1, pvc2, buildC, evP, evR, evE, Pv.get, Pv.put, putO, bin2, int2, binB2, un1, cells, boundO, AV.flat, bv, rowOne, rvs_1, rvs_2, rvL, rvX, liveB, setParts, szOk, notStr, lim, dedup, place, ent, Pv.new, Pv.newVar, Pv.newVec, setCells, AV.ones, AV.one, resX, entry, layL, layC, layA, lay, List.map, List.foldl, List.replicate, List.length_replicate, ↓reduceIte, reduceCtorEq, Nat.reduceEqDiff, Nat.reduceLT, Nat.reduceLeDiff, Nat.reduceAdd, Nat.reduceSub, Nat.reduceMul, Nat.reducePow, Nat.reduceDiv, Nat.reduceMod, Nat.reduceBEq, Nat.reduceBNe, Int.reduceLT, Int.reduceLE, Int.reduceToNat, Int.reduceAdd, Int.reduceSub, Int.reduceMul, Int.reduceNeg, Int.reducePow, Int.reduceEq, Int.reduceNe, Int.reduceDiv, Int.reduceMod, Int.reduceTDiv, Int.reduceTMod, UInt8.reduceToNat, UInt8.reduceOfNat, enR, hmm]
        exact ⟨k + 1, by rw [hl1]; rfl, by omega, by omega⟩
      · have g5 := g4 hmm
        rw [g5] at qk
        generalize lostI s k = L at *
        simp (disch := (first | omega | (simp only [List.length_set, List.length_append, List.length_cons, List.length_nil, List.length_take, List.length_drop, List.length_map, List.length_replicate]; omega))) only [↓pvd, pv0, pv1, pv2, pv3, pv4, pv5, pv6, pv7, pvc0, pvc1, pvc2, buildC, evP, evR, evE, Pv.get, Pv.put, putO, bin2, int2, binB2, un1, cells, boundO, AV.flat, bv, rowOne, rvs_1, rvs_2, rvL, rvX, liveB, setParts, szOk, notStr, lim, dedup, place, ent, Pv.new, Pv.newVar, Pv.newVec, setCells, AV.ones, AV.one, resX, entry, layL, layC, layA, lay, List.map, List.foldl, List.replicate, List.length_replicate, ↓reduceIte, reduceCtorEq, Nat.reduceEqDiff, Nat.reduceLT, Nat.reduceLeDiff, Nat.reduceAdd, Nat.reduceSub, Nat.reduceMul, Nat.reducePow, Nat.reduceDiv, Nat.reduceMod, Nat.reduceBEq, Nat.reduceBNe, Int.reduceLT, Int.reduceLE, Int.reduceToNat, Int.reduceAdd, Int.reduceSub, Int.reduceMul, Int.reduceNeg, Int.reducePow, Int.reduceEq, Int.reduceNe, Int.reduceDiv, Int.reduceMod, Int.reduceTDiv, Int.reduceTMod, UInt8.reduceToNat, UInt8.reduceOfNat, enR]
        refine awR_call qk rfl rfl ?_
        simp (disch := (first | omega | (simp only [List.length_set, List.length_append, List.length_cons, List.length_nil, List.length_take, List.length_drop, List.length_map, List.length_replicate]; omega))) only [↓pvd, pv0, pv1, pv2, pv3, pv4, pv5, pv6, pv7, pvc0, pvc1, pvc2, buildC, evP, evR, evE, Pv.get, Pv.put, putO, bin2, int2, binB2, un1, cells, boundO, AV.flat, bv, rowOne, rvs_1, rvs_2, rvL, rvX, liveB, setParts, szOk, notStr, lim, dedup, place, ent, Pv.new, Pv.newVar, Pv.newVec, setCells, AV.ones, AV.one, resX, entry, layL, layC, layA, lay, List.map, List.foldl, List.replicate, List.length_replicate, ↓reduceIte, reduceCtorEq, Nat.reduceEqDiff, Nat.reduceLT, Nat.reduceLeDiff, Nat.reduceAdd, Nat.reduceSub, Nat.reduceMul, Nat.reducePow, Nat.reduceDiv, Nat.reduceMod, Nat.reduceBEq, Nat.reduceBNe, Int.reduceLT, Int.reduceLE, Int.reduceToNat, Int.reduceAdd, Int.reduceSub, Int.reduceMul, Int.reduceNeg, Int.reducePow, Int.reduceEq, Int.reduceNe, Int.reduceDiv, Int.reduceMod, Int.reduceTDiv, Int.reduceTMod, UInt8.reduceToNat, UInt8.reduceOfNat, enR]
        exact ⟨k + 1, by rw [hl1]; rfl, by omega, by omega⟩
  · have : k = t.length := by omega
    subst this
    by_cases h0 : 0 ≤ s
    · obtain ⟨p1, p2, p3, p4⟩ := f4 h0
      subst p3
      rw [show lostI s t.length = 1 by unfold lostI; rw [if_pos ⟨h0, p1⟩]]
      simp (disch := (first | omega | (simp only [List.length_set, List.length_append, List.length_cons, List.length_nil, List.length_take, List.length_drop, List.length_map, List.length_replicate] at *; omega))) only [↓pvd, pv0, pv1, pv2, pv3, pv4, pv5, pv6, pv7, pvc0, pvc1, pvc2, buildC, evP, evR, evE, Pv.get, Pv.put, putO, bin2, int2, binB2, un1, cells, boundO, AV.flat, bv, rowOne, rvs_1, rvs_2, rvL, rvX, liveB, setParts, szOk, notStr, lim, dedup, place, ent, Pv.new, Pv.newVar, Pv.newVec, setCells, AV.ones, AV.one, resX, entry, layL, layC, layA, lay, List.map, List.foldl, List.replicate, List.length_replicate, ↓reduceIte, reduceCtorEq, Nat.reduceEqDiff, Nat.reduceLT, Nat.reduceLeDiff, Nat.reduceAdd, Nat.reduceSub, Nat.reduceMul, Nat.reducePow, Nat.reduceDiv, Nat.reduceMod, Nat.reduceBEq, Nat.reduceBNe, Int.reduceLT, Int.reduceLE, Int.reduceToNat, Int.reduceAdd, Int.reduceSub, Int.reduceMul, Int.reduceNeg, Int.reducePow, Int.reduceEq, Int.reduceNe, Int.reduceDiv, Int.reduceMod, Int.reduceTDiv, Int.reduceTMod, UInt8.reduceToNat, UInt8.reduceOfNat]
      (refine Ends_rq [] ?_; simp (disch := (first | omega | (simp only [List.length_set, List.length_append, List.length_cons, List.length_nil, List.length_take, List.length_drop, List.length_map, List.length_replicate]; omega))) only [↓pvd, pv0, pv1, pv2, pv3, pv4, pv5, pv6, pv7, pvc0, pvc1, pvc2, buildC, evP, evR, evE, Pv.get, Pv.put, putO, bin2, int2, binB2, un1, cells, boundO, AV.flat, bv, rowOne, rvs_1, rvs_2, rvL, rvX, liveB, setParts, szOk, notStr, lim, dedup, place, ent, Pv.new, Pv.newVar, Pv.newVec, setCells, AV.ones, AV.one, resX, entry, layL, layC, layA, lay, List.map, List.foldl, List.replicate, List.length_replicate, ↓reduceIte, reduceCtorEq, Nat.reduceEqDiff, Nat.reduceLT, Nat.reduceLeDiff, Nat.reduceAdd, Nat.reduceSub, Nat.reduceMul, Nat.reducePow, Nat.reduceDiv, Nat.reduceMod, Nat.reduceBEq, Nat.reduceBNe, Int.reduceLT, Int.reduceLE, Int.reduceToNat, Int.reduceAdd, Int.reduceSub, Int.reduceMul, Int.reduceNeg, Int.reducePow, Int.reduceEq, Int.reduceNe, Int.reduceDiv, Int.reduceMod, Int.reduceTDiv, Int.reduceTMod, UInt8.reduceToNat, UInt8.reduceOfNat]; exact ⟨_, rfl, rfl, rfl⟩)
    · rw [show lostI s t.length = 0 by unfold lostI; rw [if_neg (by omega)]]
      simp (disch := (first | omega | (simp only [List.length_set, List.length_append, List.length_cons, List.length_nil, List.length_take, List.length_drop, List.length_map, List.length_replicate] at *; omega))) only [↓pvd, pv0, pv1, pv2, pv3, pv4, pv5, pv6, pv7, pvc0, pvc1, pvc2, buildC, evP, evR, evE, Pv.get, Pv.put, putO, bin2, int2, binB2, un1, cells, boundO, AV.flat, bv, rowOne, rvs_1, rvs_2, rvL, rvX, liveB, setParts, szOk, notStr, lim, dedup, place, ent, Pv.new, Pv.newVar, Pv.newVec, setCells, AV.ones, AV.one, resX, entry, layL, layC, layA, lay, List.map, List.foldl, List.replicate, List.length_replicate, ↓reduceIte, reduceCtorEq, Nat.reduceEqDiff, Nat.reduceLT, Nat.reduceLeDiff, Nat.reduceAdd, Nat.reduceSub, Nat.reduceMul, Nat.reducePow, Nat.reduceDiv, Nat.reduceMod, Nat.reduceBEq, Nat.reduceBNe, Int.reduceLT, Int.reduceLE, Int.reduceToNat, Int.reduceAdd, Int.reduceSub, Int.reduceMul, Int.reduceNeg, Int.reducePow, Int.reduceEq, Int.reduceNe, Int.reduceDiv, Int.reduceMod, Int.reduceTDiv, Int.reduceTMod, UInt8.reduceToNat, UInt8.reduceOfNat]
      (refine Ends_rq [] ?_; simp (disch := (first | omega | (simp only [List.length_set, List.length_append, List.length_cons, List.length_nil, List.length_take, List.length_drop, List.length_map, List.length_replicate]; omega))) only [↓pvd, pv0, pv1, pv2, pv3, pv4, pv5, pv6, pv7, pvc0, pvc1, pvc2, buildC, evP, evR, evE, Pv.get, Pv.put, putO, bin2, int2, binB2, un1, cells, boundO, AV.flat, bv, rowOne, rvs_1, rvs_2, rvL, rvX, liveB, setParts, szOk, notStr, lim, dedup, place, ent, Pv.new, Pv.newVar, Pv.newVec, setCells, AV.ones, AV.one, resX, entry, layL, layC, layA, lay, List.map, List.foldl, List.replicate, List.length_replicate, ↓reduceIte, reduceCtorEq, Nat.reduceEqDiff, Nat.reduceLT, Nat.reduceLeDiff, Nat.reduceAdd, Nat.reduceSub, Nat.reduceMul, Nat.reducePow, Nat.reduceDiv, Nat.reduceMod, Nat.reduceBEq, Nat.reduceBNe, Int.reduceLT, Int.reduceLE, Int.reduceToNat, Int.reduceAdd, Int.reduceSub, Int.reduceMul, Int.reduceNeg, Int.reducePow, Int.reduceEq, Int.reduceNe, Int.reduceDiv, Int.reduceMod, Int.reduceTDiv, Int.reduceTMod, UInt8.reduceToNat, UInt8.reduceOfNat]; exact ⟨_, rfl, rfl, rfl⟩)
theorem tableKeeps_all : ∀ xs, DatL Try.prog 6 Try.f11.params.toList xs → Run Try.prog 11 xs (.bool true) := by
  intro xs h
  rw [show Try.f11.params.toList = [55, 23, 3, 3] from rfl] at h
  obtain ⟨y1, y2, y3, y4, rfl, h1, h2, h3, h4⟩ := datL4 h
  obtain ⟨t, rfl, ht, ho⟩ := dat_es h1
  obtain ⟨m, rfl, wm⟩ := dat_int Try.underlying23 h2
  obtain ⟨w, rfl, ww⟩ := dat_int Try.underlying3 h3
  obtain ⟨n, rfl, wn⟩ := dat_int Try.underlying3 h4
  have := wf_u64 wm
  exact tableKeeps_run t m w n ht ho (by omega) (wf_i64 ww) (wf_i64 wn)
end Go.Proofs
