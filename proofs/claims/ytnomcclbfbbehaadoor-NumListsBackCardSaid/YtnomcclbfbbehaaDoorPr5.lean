/- The proofs of what the functions of this seat do. -/
import Derived.Test.YtnomcclbfbbehaaDoorPr4
import Derived.Below
import Derived.Lib.Join
/-
  The machine of plain values: the library's strings.Join, from its contract.
-/
namespace Go.Pv
open Go.RowKit
theorem flat_str (s : List UInt8) : (AV.str s).flat = [AV.str s] := by simp [AV.flat]
theorem run_join {P : Program} {f : FuncId} (hc : Can P f)
    (hj : ∀ (bk o c : Nat) (xs : List ByteArray) (sep : ByteArray) (w : World), (∀ (j : Nat) x, xs[j]? = some x → w.cell? ⟨bk, o + j, none⟩ = some (.string x)) → bk < w.heap.size → xs.length ≤ 140737488355328 → xs.length ≤ c →
      (Lib.join (xs.map (·.data.toList)) sep.data.toList).length ≤ 140737488355328 →
      Calls P f #[.slice (some ⟨bk, o, none⟩) xs.length c, .string sep] w fun e w' => e = .returned (.string ⟨(Lib.join (xs.map (·.data.toList)) sep.data.toList).toArray⟩) ∧ Below w.heap.size w w')
    (hn : ∀ (a : Option Addr) (c : Nat) (sep : ByteArray) (w : World), Calls P f #[.slice a 0 c, .string sep] w fun e w' => e = .returned (.string ⟨#[]⟩) ∧ w' = w)
    (xs : List (List UInt8)) (sep : List UInt8) (full : Bool) (h1 : xs.length ≤ 100000) (h2 : (Lib.join xs sep).length ≤ 100000000) :
    Run P f [.sl 1 (xs.map .str) full, .str sep] (.str (Lib.join xs sep)) := by
  refine ⟨hc, ?_⟩
  intro w I os args hos ho
  obtain ⟨args⟩ := args
  generalize hes : xs.map AV.str = es at ho
  generalize hxs : [AV.sl 1 es full, AV.str sep] = ys at ho
  cases ho with
  | nil => cases hxs
  | cons ha ho =>
    cases hxs
    cases ho with
    | cons hb ho =>
      cases ho with
      | nil =>
        unfold OwnC at ha hb
        obtain ⟨rfl, ha⟩ := ha
        obtain ⟨rfl, hb⟩ := hb
        cases hb
        have fin : ∀ (W : World) (r : List UInt8), Below w.heap.size w W → ∃ v I' os', Ending.returned (.string ⟨r.toArray⟩) = .returned v ∧ OwnT W I' os' (.str r) v ∧ OsOk W I' os' ∧ StepB I ([] ++ ([] ++ [])) I' os' w W := by
          intro W r hB
          refine ⟨_, I, [], rfl, ?_, ⟨fun b h => ⟨Nat.lt_of_lt_of_le (hos.imm b h).1 hB.size, blks_nil b⟩, fun b h => absurd h (blks_nil b), .nil⟩, ⟨hB.os, hB.tape, hB.output, hB.size, fun b h _ => hB.block b h, fun b h => absurd h (blks_nil b), fun b h => h, fun b h => .inl h⟩⟩
          exact ⟨rfl, .str r⟩
        cases ha with
        | sl0 _ _ A cap h =>
          have : xs = [] := by simpa using hes
          subst this
          refine (hn A cap ⟨sep.toArray⟩ w).mono ?_
          rintro e W ⟨rfl, rfl⟩
          exact fin _ [] (Below.refl _ _)
        | sl _ _ _ b off cap U hp hcp hf hbk hi hz hcell hs =>
          subst hes
          have hq := hj b off cap (xs.map fun s => ⟨s.toArray⟩) ⟨sep.toArray⟩ w ?_ hbk (by simp; omega) (by simpa using hcp) ?_
          · simp only [List.map_map, List.length_map] at hq
            have e1 : xs.map ((fun x : ByteArray => x.data.toList) ∘ fun s => ⟨s.toArray⟩) = xs := by
              conv => rhs; rw [← List.map_id xs]
              exact List.map_congr_left fun s _ => rfl
            rw [e1] at hq
            rw [List.length_map]
            refine hq.mono ?_
            rintro e W ⟨rfl, hB⟩
            exact fin W _ hB
          · intro j x hx
            rw [List.getElem?_map] at hx
            cases hxj : xs[j]? with
            | none => rw [hxj] at hx; cases hx
            | some s =>
              rw [hxj] at hx
              cases hx
              have e : (xs.map AV.str)[j]? = some (.str s) := by rw [List.getElem?_map, hxj]; rfl
              have g1 := (hcell j (.str s) 0 (.str s) e (by rw [flat_str]; rfl)).1
              have g2 := hs j (.str s) 0 (.str s) e (by rw [flat_str]; rfl)
              rw [Nat.mul_one, Nat.add_zero] at g1
              rw [g1]
              generalize U j 0 = u at g2
              cases g2
              rfl
          · have e1 : (xs.map fun s => (⟨s.toArray⟩ : ByteArray)).map (fun x => x.data.toList) = xs := by
              rw [List.map_map]
              conv => rhs; rw [← List.map_id xs]
              exact List.map_congr_left fun s _ => rfl
            rw [e1]
            have : (⟨sep.toArray⟩ : ByteArray).data.toList = sep := rfl
            rw [this]
            omega
end Go.Pv

set_option linter.unusedSimpArgs false
set_option linter.unusedVariables false
set_option maxHeartbeats 2000000
set_option maxRecDepth 20000
namespace Go.Proofs
open Go.Pv
theorem join44_run (xs : List (List UInt8)) (f : Bool) (h1 : xs.length ≤ 100000) (h2 : (Lib.join xs [44]).length ≤ 100000000) : Run Tryd.prog 63 [.sl 1 (xs.map .str) f, .str [44]] (.str (Lib.join xs [44])) :=
  run_join (can_of Tryd.func63 rfl rfl) (fun bk o c xs sep w a b d e g => Any.strings_Join Tryd.lays156 Tryd.extra156 bk o c xs sep w a b d e g) (fun a c sep w => Any.strings_Join_none Tryd.lays156 Tryd.extra156 a c sep w) xs [44] f h1 h2
/-- The first texts, joined. -/
def jn4 (xs : List (List UInt8)) : Nat → List UInt8
  | 0 => []
  | k + 1 => (if 0 < k then jn4 xs k ++ [44] else jn4 xs k) ++ xs[k]!
theorem jn4_eq (x : List UInt8) (r : List (List UInt8)) : ∀ k, k ≤ r.length → jn4 (x :: r) (k + 1) = x ++ Lib.joinTail [44] (r.take k)
  | 0, _ => by simp [jn4, Lib.joinTail]
  | k + 1, h => by
    rw [jn4, if_pos (by omega), jn4_eq x r k (by omega), Lib.joinTail_take_succ [44] r k r[k]! (by rw [getElem!_pos r k (by omega), List.getElem?_eq_getElem (by omega)])]
    simp
theorem jn4_all (xs : List (List UInt8)) : jn4 xs xs.length = Lib.join xs [44] := by
  cases xs with
  | nil => rfl
  | cons x r => rw [List.length_cons, jn4_eq x r r.length (Nat.le_refl _), List.take_of_length_le (Nat.le_refl _), Lib.join_cons]
theorem jn4_len (xs : List (List UInt8)) (m : Nat) (h : ∀ x ∈ xs, x.length ≤ m) : ∀ k, k ≤ xs.length → (jn4 xs k).length ≤ (m + 1) * k
  | 0, _ => by simp [jn4]
  | k + 1, hk => by
    have ih := jn4_len xs m h k (by omega)
    have := h xs[k]! (by rw [getElem!_pos xs k (by omega)]; exact List.getElem_mem (by omega))
    rw [jn4, Nat.mul_add]
    split <;> simp only [List.length_append, List.length_cons, List.length_nil] <;> omega
theorem txF_most (n : Int) (h0 : -9223372036854775808 ≤ n) (h1 : n < 9223372036854775808) : (Nm.txF n).length ≤ 20 := by
  unfold Nm.txF
  split
  · have := Nm.digF_len (-n).toNat 18 (by omega)
    simp; omega
  · have := Nm.digF_len n.toNat 18 (by omega)
    omega
theorem wi_run (l : List Int) (f : Bool) (hl : l.length ≤ 1000) (hr : ∀ n ∈ l, -9223372036854775808 ≤ n ∧ n < 9223372036854775808) : Run Tryd.prog 54 [.sl 1 (l.map (.int .i64)) f, .fn 49 []] (.str (Lib.join (l.map Nm.txF) [44])) := by
  have hm : ∀ x ∈ l.map Nm.txF, x.length ≤ 20 := fun x hx => by
    obtain ⟨n, hn, rfl⟩ := List.mem_map.1 hx
    have := hr n hn
    exact txF_most n this.1 this.2
  have hjl := jn4_len _ 20 hm _ (Nat.le_refl _)
  rw [jn4_all, List.length_map] at hjl
  have qj := join44_run (l.map Nm.txF) false (by simp; omega) (by omega)
  refine Tryd.run54 (by simp) ?_
  unfold Tryd.c54
  obtain ⟨xs, hxs⟩ : ∃ xs, l.map Nm.txF = xs := ⟨_, rfl⟩
  have hxl : xs.length = l.length := by rw [← hxs]; simp
  have hxg : ∀ k, k < l.length → xs[k]! = Nm.txF l[k]! := fun k hk => by
    rw [getElem!_pos xs k (by omega), getElem!_pos l k hk]
    subst hxs
    simp
  rw [hxs] at qj hm hjl ⊢
  simp (disch := (first | omega | (simp only [List.length_set, List.length_append, List.length_cons, List.length_nil, List.length_take, List.length_drop, List.length_map, List.length_replicate] at *; omega))) only [↓pvd, pv0, pv1, pv2, pv3, pv4, pv5, pv6, pv7, pvc0, pvc1, pvc2, buildC, evP, evR, evE, Pv.get, Pv.put, putO, bin2, int2, binB2, un1, cells, boundO, AV.flat, bv, rowOne, pvf, rvs_1, rvs_2, rvL, rvX, liveB, setParts, szOk, notStr, lim, dedup, place, ent, Pv.new, Pv.newVar, Pv.newVec, setCells, AV.ones, AV.one, resX, entry, layL, layC, layA, lay, List.map, List.foldl, List.replicate, List.length_replicate, ↓reduceIte, reduceCtorEq, Nat.reduceEqDiff, Nat.reduceLT, Nat.reduceLeDiff, Nat.reduceAdd, Nat.reduceSub, Nat.reduceMul, Nat.reducePow, Nat.reduceDiv, Nat.reduceMod, Nat.reduceBEq, Nat.reduceBNe, Int.reduceLT, Int.reduceLE, Int.reduceToNat, Int.reduceAdd, Int.reduceSub, Int.reduceMul, Int.reduceNeg, Int.reducePow, Int.reduceEq, Int.reduceNe, Int.reduceDiv, Int.reduceMod, Int.reduceTDiv, Int.reduceTMod, UInt8.reduceToNat, UInt8.reduceOfNat]
  refine aw_loop (fun k : Nat => ⟨[(1, .fn 49 []), (5, .vec 0 1 0 k), (8, .sl 1 (l.map (.int .i64)) f), (9, .int .i64 l.length), (10, .int .i64 k)], [some ⟨9, (xs.take k).map .str, true⟩]⟩) (fun k => k ≤ l.length) (fun k => l.length - k) 0 ?_ (by omega) ?_
  · simp (disch := (first | omega | (simp only [List.length_set, List.length_append, List.length_cons, List.length_nil, List.length_take, List.length_drop, List.length_map, List.length_replicate]; omega))) only [↓pvd, pv0, pv1, pv2, pv3, pv4, pv5, pv6, pv7, pvc0, pvc1, pvc2, buildC, evP, evR, evE, Pv.get, Pv.put, putO, bin2, int2, binB2, un1, cells, boundO, AV.flat, bv, rowOne, pvf, rvs_1, rvs_2, rvL, rvX, liveB, setParts, szOk, notStr, lim, dedup, place, ent, Pv.new, Pv.newVar, Pv.newVec, setCells, AV.ones, AV.one, resX, entry, layL, layC, layA, lay, List.map, List.foldl, List.replicate, List.length_replicate, ↓reduceIte, reduceCtorEq, Nat.reduceEqDiff, Nat.reduceLT, Nat.reduceLeDiff, Nat.reduceAdd, Nat.reduceSub, Nat.reduceMul, Nat.reducePow, Nat.reduceDiv, Nat.reduceMod, Nat.reduceBEq, Nat.reduceBNe, Int.reduceLT, Int.reduceLE, Int.reduceToNat, Int.reduceAdd, Int.reduceSub, Int.reduceMul, Int.reduceNeg, Int.reducePow, Int.reduceEq, Int.reduceNe, Int.reduceDiv, Int.reduceMod, Int.reduceTDiv, Int.reduceTMod, UInt8.reduceToNat, UInt8.reduceOfNat, ids_fn, ren_fn, List.length_map]
    try simp
  rintro k hk
  unfold Tryd.c54b0
  have htl : ((xs.take k).map AV.str).length = k := by simp; omega
  by_cases hx : k < l.length
  · have hgi : (l.map (AV.int .i64))[k]? = some (.int .i64 l[k]!) := map_get hx
    have hrk := hr l[k]! (by rw [getElem!_pos l k hx]; exact List.getElem_mem hx)
    have q1 := Nm.text_runx l[k]! hrk.1 hrk.2
    rw [← hxg k hx] at q1
    have hap : (xs.take k).map AV.str ++ [AV.str xs[k]!] = (xs.take (k + 1)).map AV.str := by rw [take_snoc (by omega)]; simp
    simp (disch := (first | omega | (simp only [List.length_set, List.length_append, List.length_cons, List.length_nil, List.length_take, List.length_drop, List.length_map, List.length_replicate]; omega))) only [↓pvd, pv0, pv1, pv2, pv3, pv4, pv5, pv6, pv7, pvc0, pvc1, pvc2, buildC, evP, evR, evE, Pv.get, Pv.put, putO, bin2, int2, binB2, un1, cells, boundO, AV.flat, bv, rowOne, pvf, rvs_1, rvs_2, rvL, rvX, liveB, setParts, szOk, notStr, lim, dedup, place, ent, Pv.new, Pv.newVar, Pv.newVec, setCells, AV.ones, AV.one, resX, entry, layL, layC, layA, lay, List.map, List.foldl, List.replicate, List.length_replicate, ↓reduceIte, reduceCtorEq, Nat.reduceEqDiff, Nat.reduceLT, Nat.reduceLeDiff, Nat.reduceAdd, Nat.reduceSub, Nat.reduceMul, Nat.reducePow, Nat.reduceDiv, Nat.reduceMod, Nat.reduceBEq, Nat.reduceBNe, Int.reduceLT, Int.reduceLE, Int.reduceToNat, Int.reduceAdd, Int.reduceSub, Int.reduceMul, Int.reduceNeg, Int.reducePow, Int.reduceEq, Int.reduceNe, Int.reduceDiv, Int.reduceMod, Int.reduceTDiv, Int.reduceTMod, UInt8.reduceToNat, UInt8.reduceOfNat, hgi]
    refine awR_callv rfl (gen_nr q1 rfl) (Nat.le_refl _) ?_
    simp (disch := (first | omega | (simp only [List.length_set, List.length_append, List.length_cons, List.length_nil, List.length_take, List.length_drop, List.length_map, List.length_replicate]; omega))) only [↓pvd, pv0, pv1, pv2, pv3, pv4, pv5, pv6, pv7, pvc0, pvc1, pvc2, buildC, evP, evR, evE, Pv.get, Pv.put, putO, bin2, int2, binB2, un1, cells, boundO, AV.flat, bv, rowOne, pvf, rvs_1, rvs_2, rvL, rvX, liveB, setParts, szOk, notStr, lim, dedup, place, ent, Pv.new, Pv.newVar, Pv.newVec, setCells, AV.ones, AV.one, resX, entry, layL, layC, layA, lay, List.map, List.foldl, List.replicate, List.length_replicate, ↓reduceIte, reduceCtorEq, Nat.reduceEqDiff, Nat.reduceLT, Nat.reduceLeDiff, Nat.reduceAdd, Nat.reduceSub, Nat.reduceMul, Nat.reducePow, Nat.reduceDiv, Nat.reduceMod, Nat.reduceBEq, Nat.reduceBNe, Int.reduceLT, Int.reduceLE, Int.reduceToNat, Int.reduceAdd, Int.reduceSub, Int.reduceMul, Int.reduceNeg, Int.reducePow, Int.reduceEq, Int.reduceNe, Int.reduceDiv, Int.reduceMod, Int.reduceTDiv, Int.reduceTMod, UInt8.reduceToNat, UInt8.reduceOfNat, ids_fn, ren_fn, ids_map str_pl, ren_map str_pl, htl, hap]
    refine ⟨k + 1, ?_, hx, by omega⟩
    simp
  · have e : k = l.length := by omega
    have htk : xs.take k = xs := List.take_of_length_le (by omega)
    rw [htk]
    have hkl : k = xs.length := by omega
    generalize Lib.join xs [44] = J at *
    simp (disch := (first | omega | (simp only [List.length_set, List.length_append, List.length_cons, List.length_nil, List.length_take, List.length_drop, List.length_map, List.length_replicate]; omega))) only [↓pvd, pv0, pv1, pv2, pv3, pv4, pv5, pv6, pv7, pvc0, pvc1, pvc2, buildC, evP, evR, evE, Pv.get, Pv.put, putO, bin2, int2, binB2, un1, cells, boundO, AV.flat, bv, rowOne, pvf, rvs_1, rvs_2, rvL, rvX, liveB, setParts, szOk, notStr, lim, dedup, place, ent, Pv.new, Pv.newVar, Pv.newVec, setCells, AV.ones, AV.one, resX, entry, layL, layC, layA, lay, List.map, List.foldl, List.replicate, List.length_replicate, ↓reduceIte, reduceCtorEq, Nat.reduceEqDiff, Nat.reduceLT, Nat.reduceLeDiff, Nat.reduceAdd, Nat.reduceSub, Nat.reduceMul, Nat.reducePow, Nat.reduceDiv, Nat.reduceMod, Nat.reduceBEq, Nat.reduceBNe, Int.reduceLT, Int.reduceLE, Int.reduceToNat, Int.reduceAdd, Int.reduceSub, Int.reduceMul, Int.reduceNeg, Int.reducePow, Int.reduceEq, Int.reduceNe, Int.reduceDiv, Int.reduceMod, Int.reduceTDiv, Int.reduceTMod, UInt8.reduceToNat, UInt8.reduceOfNat, List.length_map, hkl]
    refine awR_callS (ms := []) qj (by simp (disch := (first | omega | (simp only [List.length_set, List.length_append, List.length_cons, List.length_nil, List.length_take, List.length_drop, List.length_map, List.length_replicate]; omega))) only [↓pvd, pv0, pv1, pv2, pv3, pv4, pv5, pv6, pv7, pvc0, pvc1, pvc2, buildC, evP, evR, evE, Pv.get, Pv.put, putO, bin2, int2, binB2, un1, cells, boundO, AV.flat, bv, rowOne, pvf, rvs_1, rvs_2, rvL, rvX, liveB, setParts, szOk, notStr, lim, dedup, place, ent, Pv.new, Pv.newVar, Pv.newVec, setCells, AV.ones, AV.one, resX, entry, layL, layC, layA, lay, List.map, List.foldl, List.replicate, List.length_replicate, ↓reduceIte, reduceCtorEq, Nat.reduceEqDiff, Nat.reduceLT, Nat.reduceLeDiff, Nat.reduceAdd, Nat.reduceSub, Nat.reduceMul, Nat.reducePow, Nat.reduceDiv, Nat.reduceMod, Nat.reduceBEq, Nat.reduceBNe, Int.reduceLT, Int.reduceLE, Int.reduceToNat, Int.reduceAdd, Int.reduceSub, Int.reduceMul, Int.reduceNeg, Int.reducePow, Int.reduceEq, Int.reduceNe, Int.reduceDiv, Int.reduceMod, Int.reduceTDiv, Int.reduceTMod, UInt8.reduceToNat, UInt8.reduceOfNat, mapO_map str_nr, rows_map str_nr]; rfl) (by simp (disch := (first | omega | (simp only [List.length_set, List.length_append, List.length_cons, List.length_nil, List.length_take, List.length_drop, List.length_map, List.length_replicate]; omega))) only [↓pvd, pv0, pv1, pv2, pv3, pv4, pv5, pv6, pv7, pvc0, pvc1, pvc2, buildC, evP, evR, evE, Pv.get, Pv.put, putO, bin2, int2, binB2, un1, cells, boundO, AV.flat, bv, rowOne, pvf, rvs_1, rvs_2, rvL, rvX, liveB, setParts, szOk, notStr, lim, dedup, place, ent, Pv.new, Pv.newVar, Pv.newVec, setCells, AV.ones, AV.one, resX, entry, layL, layC, layA, lay, List.map, List.foldl, List.replicate, List.length_replicate, ↓reduceIte, reduceCtorEq, Nat.reduceEqDiff, Nat.reduceLT, Nat.reduceLeDiff, Nat.reduceAdd, Nat.reduceSub, Nat.reduceMul, Nat.reducePow, Nat.reduceDiv, Nat.reduceMod, Nat.reduceBEq, Nat.reduceBNe, Int.reduceLT, Int.reduceLE, Int.reduceToNat, Int.reduceAdd, Int.reduceSub, Int.reduceMul, Int.reduceNeg, Int.reducePow, Int.reduceEq, Int.reduceNe, Int.reduceDiv, Int.reduceMod, Int.reduceTDiv, Int.reduceTMod, UInt8.reduceToNat, UInt8.reduceOfNat, mapO_map str_nr, rows_map str_nr]) ?_
    simp (disch := (first | omega | (simp only [List.length_set, List.length_append, List.length_cons, List.length_nil, List.length_take, List.length_drop, List.length_map, List.length_replicate]; omega))) only [↓pvd, pv0, pv1, pv2, pv3, pv4, pv5, pv6, pv7, pvc0, pvc1, pvc2, buildC, evP, evR, evE, Pv.get, Pv.put, putO, bin2, int2, binB2, un1, cells, boundO, AV.flat, bv, rowOne, pvf, rvs_1, rvs_2, rvL, rvX, liveB, setParts, szOk, notStr, lim, dedup, place, ent, Pv.new, Pv.newVar, Pv.newVec, setCells, AV.ones, AV.one, resX, entry, layL, layC, layA, lay, List.map, List.foldl, List.replicate, List.length_replicate, ↓reduceIte, reduceCtorEq, Nat.reduceEqDiff, Nat.reduceLT, Nat.reduceLeDiff, Nat.reduceAdd, Nat.reduceSub, Nat.reduceMul, Nat.reducePow, Nat.reduceDiv, Nat.reduceMod, Nat.reduceBEq, Nat.reduceBNe, Int.reduceLT, Int.reduceLE, Int.reduceToNat, Int.reduceAdd, Int.reduceSub, Int.reduceMul, Int.reduceNeg, Int.reducePow, Int.reduceEq, Int.reduceNe, Int.reduceDiv, Int.reduceMod, Int.reduceTDiv, Int.reduceTMod, UInt8.reduceToNat, UInt8.reduceOfNat, still]
    (refine Ends_rq [] ?_; simp (disch := (first | omega | (simp only [List.length_set, List.length_append, List.length_cons, List.length_nil, List.length_take, List.length_drop, List.length_map, List.length_replicate]; omega))) only [↓pvd, pv0, pv1, pv2, pv3, pv4, pv5, pv6, pv7, pvc0, pvc1, pvc2, buildC, evP, evR, evE, Pv.get, Pv.put, putO, bin2, int2, binB2, un1, cells, boundO, AV.flat, bv, rowOne, pvf, rvs_1, rvs_2, rvL, rvX, liveB, setParts, szOk, notStr, lim, dedup, place, ent, Pv.new, Pv.newVar, Pv.newVec, setCells, AV.ones, AV.one, resX, entry, layL, layC, layA, lay, List.map, List.foldl, List.replicate, List.length_replicate, ↓reduceIte, reduceCtorEq, Nat.reduceEqDiff, Nat.reduceLT, Nat.reduceLeDiff, Nat.reduceAdd, Nat.reduceSub, Nat.reduceMul, Nat.reducePow, Nat.reduceDiv, Nat.reduceMod, Nat.reduceBEq, Nat.reduceBNe, Int.reduceLT, Int.reduceLE, Int.reduceToNat, Int.reduceAdd, Int.reduceSub, Int.reduceMul, Int.reduceNeg, Int.reducePow, Int.reduceEq, Int.reduceNe, Int.reduceDiv, Int.reduceMod, Int.reduceTDiv, Int.reduceTMod, UInt8.reduceToNat, UInt8.reduceOfNat]; exact ⟨_, rfl, rfl, rfl⟩)
theorem wil_run (l : List Int) (f : Bool) (hl : l.length ≤ 1000) (hr : ∀ n ∈ l, -9223372036854775808 ≤ n ∧ n < 9223372036854775808) : Run Tryd.prog 30 [.sl 1 (l.map (.int .i64)) f] (.str (Lib.join (l.map Nm.txF) [44])) := by
  have q := wi_run l f hl hr
  refine Tryd.run30 (by simp) ?_
  unfold Tryd.c30
  generalize Lib.join (l.map Nm.txF) [44] = J at *
  simp (disch := (first | omega | (simp only [List.length_set, List.length_append, List.length_cons, List.length_nil, List.length_take, List.length_drop, List.length_map, List.length_replicate] at *; omega))) only [↓pvd, pv0, pv1, pv2, pv3, pv4, pv5, pv6, pv7, pvc0, pvc1, pvc2, buildC, evP, evR, evE, Pv.get, Pv.put, putO, bin2, int2, binB2, un1, cells, boundO, AV.flat, bv, rowOne, pvf, rvs_1, rvs_2, rvL, rvX, liveB, setParts, szOk, notStr, lim, dedup, place, ent, Pv.new, Pv.newVar, Pv.newVec, setCells, AV.ones, AV.one, resX, entry, layL, layC, layA, lay, List.map, List.foldl, List.replicate, List.length_replicate, ↓reduceIte, reduceCtorEq, Nat.reduceEqDiff, Nat.reduceLT, Nat.reduceLeDiff, Nat.reduceAdd, Nat.reduceSub, Nat.reduceMul, Nat.reducePow, Nat.reduceDiv, Nat.reduceMod, Nat.reduceBEq, Nat.reduceBNe, Int.reduceLT, Int.reduceLE, Int.reduceToNat, Int.reduceAdd, Int.reduceSub, Int.reduceMul, Int.reduceNeg, Int.reducePow, Int.reduceEq, Int.reduceNe, Int.reduceDiv, Int.reduceMod, Int.reduceTDiv, Int.reduceTMod, UInt8.reduceToNat, UInt8.reduceOfNat]
  refine awR_callS (ms := []) q (by simp (disch := (first | omega | (simp only [List.length_set, List.length_append, List.length_cons, List.length_nil, List.length_take, List.length_drop, List.length_map, List.length_replicate]; omega))) only [↓pvd, pv0, pv1, pv2, pv3, pv4, pv5, pv6, pv7, pvc0, pvc1, pvc2, buildC, evP, evR, evE, Pv.get, Pv.put, putO, bin2, int2, binB2, un1, cells, boundO, AV.flat, bv, rowOne, pvf, rvs_1, rvs_2, rvL, rvX, liveB, setParts, szOk, notStr, lim, dedup, place, ent, Pv.new, Pv.newVar, Pv.newVec, setCells, AV.ones, AV.one, resX, entry, layL, layC, layA, lay, List.map, List.foldl, List.replicate, List.length_replicate, ↓reduceIte, reduceCtorEq, Nat.reduceEqDiff, Nat.reduceLT, Nat.reduceLeDiff, Nat.reduceAdd, Nat.reduceSub, Nat.reduceMul, Nat.reducePow, Nat.reduceDiv, Nat.reduceMod, Nat.reduceBEq, Nat.reduceBNe, Int.reduceLT, Int.reduceLE, Int.reduceToNat, Int.reduceAdd, Int.reduceSub, Int.reduceMul, Int.reduceNeg, Int.reducePow, Int.reduceEq, Int.reduceNe, Int.reduceDiv, Int.reduceMod, Int.reduceTDiv, Int.reduceTMod, UInt8.reduceToNat, UInt8.reduceOfNat, mapO_map (int_nr .i64), rows_map (int_nr .i64), snp_fn, rws_fn]; rfl) (by simp (disch := (first | omega | (simp only [List.length_set, List.length_append, List.length_cons, List.length_nil, List.length_take, List.length_drop, List.length_map, List.length_replicate]; omega))) only [↓pvd, pv0, pv1, pv2, pv3, pv4, pv5, pv6, pv7, pvc0, pvc1, pvc2, buildC, evP, evR, evE, Pv.get, Pv.put, putO, bin2, int2, binB2, un1, cells, boundO, AV.flat, bv, rowOne, pvf, rvs_1, rvs_2, rvL, rvX, liveB, setParts, szOk, notStr, lim, dedup, place, ent, Pv.new, Pv.newVar, Pv.newVec, setCells, AV.ones, AV.one, resX, entry, layL, layC, layA, lay, List.map, List.foldl, List.replicate, List.length_replicate, ↓reduceIte, reduceCtorEq, Nat.reduceEqDiff, Nat.reduceLT, Nat.reduceLeDiff, Nat.reduceAdd, Nat.reduceSub, Nat.reduceMul, Nat.reducePow, Nat.reduceDiv, Nat.reduceMod, Nat.reduceBEq, Nat.reduceBNe, Int.reduceLT, Int.reduceLE, Int.reduceToNat, Int.reduceAdd, Int.reduceSub, Int.reduceMul, Int.reduceNeg, Int.reducePow, Int.reduceEq, Int.reduceNe, Int.reduceDiv, Int.reduceMod, Int.reduceTDiv, Int.reduceTMod, UInt8.reduceToNat, UInt8.reduceOfNat, mapO_map (int_nr .i64), rows_map (int_nr .i64), snp_fn, rws_fn]) ?_
  simp (disch := (first | omega | (simp only [List.length_set, List.length_append, List.length_cons, List.length_nil, List.length_take, List.length_drop, List.length_map, List.length_replicate]; omega))) only [↓pvd, pv0, pv1, pv2, pv3, pv4, pv5, pv6, pv7, pvc0, pvc1, pvc2, buildC, evP, evR, evE, Pv.get, Pv.put, putO, bin2, int2, binB2, un1, cells, boundO, AV.flat, bv, rowOne, pvf, rvs_1, rvs_2, rvL, rvX, liveB, setParts, szOk, notStr, lim, dedup, place, ent, Pv.new, Pv.newVar, Pv.newVec, setCells, AV.ones, AV.one, resX, entry, layL, layC, layA, lay, List.map, List.foldl, List.replicate, List.length_replicate, ↓reduceIte, reduceCtorEq, Nat.reduceEqDiff, Nat.reduceLT, Nat.reduceLeDiff, Nat.reduceAdd, Nat.reduceSub, Nat.reduceMul, Nat.reducePow, Nat.reduceDiv, Nat.reduceMod, Nat.reduceBEq, Nat.reduceBNe, Int.reduceLT, Int.reduceLE, Int.reduceToNat, Int.reduceAdd, Int.reduceSub, Int.reduceMul, Int.reduceNeg, Int.reducePow, Int.reduceEq, Int.reduceNe, Int.reduceDiv, Int.reduceMod, Int.reduceTDiv, Int.reduceTMod, UInt8.reduceToNat, UInt8.reduceOfNat, still]
  (refine Ends_rq [] ?_; simp (disch := (first | omega | (simp only [List.length_set, List.length_append, List.length_cons, List.length_nil, List.length_take, List.length_drop, List.length_map, List.length_replicate]; omega))) only [↓pvd, pv0, pv1, pv2, pv3, pv4, pv5, pv6, pv7, pvc0, pvc1, pvc2, buildC, evP, evR, evE, Pv.get, Pv.put, putO, bin2, int2, binB2, un1, cells, boundO, AV.flat, bv, rowOne, pvf, rvs_1, rvs_2, rvL, rvX, liveB, setParts, szOk, notStr, lim, dedup, place, ent, Pv.new, Pv.newVar, Pv.newVec, setCells, AV.ones, AV.one, resX, entry, layL, layC, layA, lay, List.map, List.foldl, List.replicate, List.length_replicate, ↓reduceIte, reduceCtorEq, Nat.reduceEqDiff, Nat.reduceLT, Nat.reduceLeDiff, Nat.reduceAdd, Nat.reduceSub, Nat.reduceMul, Nat.reducePow, Nat.reduceDiv, Nat.reduceMod, Nat.reduceBEq, Nat.reduceBNe, Int.reduceLT, Int.reduceLE, Int.reduceToNat, Int.reduceAdd, Int.reduceSub, Int.reduceMul, Int.reduceNeg, Int.reducePow, Int.reduceEq, Int.reduceNe, Int.reduceDiv, Int.reduceMod, Int.reduceTDiv, Int.reduceTMod, UInt8.reduceToNat, UInt8.reduceOfNat]; exact ⟨_, rfl, rfl, rfl⟩)
theorem wu_run (l : List Int) (f : Bool) (hl : l.length ≤ 1000) (hr : ∀ n ∈ l, 0 ≤ n ∧ n ≤ 4294967295) : Run Tryd.prog 56 [.sl 1 (l.map (.int .u32)) f, .fn 14 []] (.str (Lib.join (l.map addrS) [44])) := by
  have hm : ∀ x ∈ l.map addrS, x.length ≤ 20 := fun x hx => by
    obtain ⟨n, hn, rfl⟩ := List.mem_map.1 hx
    have := hr n hn
    have := addrS_len n
    omega
  have hjl := jn4_len _ 20 hm _ (Nat.le_refl _)
  rw [jn4_all, List.length_map] at hjl
  have qj := join44_run (l.map addrS) false (by simp; omega) (by omega)
  refine Tryd.run56 (by simp) ?_
  unfold Tryd.c56
  obtain ⟨xs, hxs⟩ : ∃ xs, l.map addrS = xs := ⟨_, rfl⟩
  have hxl : xs.length = l.length := by rw [← hxs]; simp
  have hxg : ∀ k, k < l.length → xs[k]! = addrS l[k]! := fun k hk => by
    rw [getElem!_pos xs k (by omega), getElem!_pos l k hk]
    subst hxs
    simp
  rw [hxs] at qj hm hjl ⊢
  simp (disch := (first | omega | (simp only [List.length_set, List.length_append, List.length_cons, List.length_nil, List.length_take, List.length_drop, List.length_map, List.length_replicate] at *; omega))) only [↓pvd, pv0, pv1, pv2, pv3, pv4, pv5, pv6, pv7, pvc0, pvc1, pvc2, buildC, evP, evR, evE, Pv.get, Pv.put, putO, bin2, int2, binB2, un1, cells, boundO, AV.flat, bv, rowOne, pvf, rvs_1, rvs_2, rvL, rvX, liveB, setParts, szOk, notStr, lim, dedup, place, ent, Pv.new, Pv.newVar, Pv.newVec, setCells, AV.ones, AV.one, resX, entry, layL, layC, layA, lay, List.map, List.foldl, List.replicate, List.length_replicate, ↓reduceIte, reduceCtorEq, Nat.reduceEqDiff, Nat.reduceLT, Nat.reduceLeDiff, Nat.reduceAdd, Nat.reduceSub, Nat.reduceMul, Nat.reducePow, Nat.reduceDiv, Nat.reduceMod, Nat.reduceBEq, Nat.reduceBNe, Int.reduceLT, Int.reduceLE, Int.reduceToNat, Int.reduceAdd, Int.reduceSub, Int.reduceMul, Int.reduceNeg, Int.reducePow, Int.reduceEq, Int.reduceNe, Int.reduceDiv, Int.reduceMod, Int.reduceTDiv, Int.reduceTMod, UInt8.reduceToNat, UInt8.reduceOfNat]
  refine aw_loop (fun k : Nat => ⟨[(1, .fn 14 []), (5, .vec 0 1 0 k), (8, .sl 1 (l.map (.int .u32)) f), (9, .int .i64 l.length), (10, .int .i64 k)], [some ⟨9, (xs.take k).map .str, true⟩]⟩) (fun k => k ≤ l.length) (fun k => l.length - k) 0 ?_ (by omega) ?_
  · simp (disch := (first | omega | (simp only [List.length_set, List.length_append, List.length_cons, List.length_nil, List.length_take, List.length_drop, List.length_map, List.length_replicate]; omega))) only [↓pvd, pv0, pv1, pv2, pv3, pv4, pv5, pv6, pv7, pvc0, pvc1, pvc2, buildC, evP, evR, evE, Pv.get, Pv.put, putO, bin2, int2, binB2, un1, cells, boundO, AV.flat, bv, rowOne, pvf, rvs_1, rvs_2, rvL, rvX, liveB, setParts, szOk, notStr, lim, dedup, place, ent, Pv.new, Pv.newVar, Pv.newVec, setCells, AV.ones, AV.one, resX, entry, layL, layC, layA, lay, List.map, List.foldl, List.replicate, List.length_replicate, ↓reduceIte, reduceCtorEq, Nat.reduceEqDiff, Nat.reduceLT, Nat.reduceLeDiff, Nat.reduceAdd, Nat.reduceSub, Nat.reduceMul, Nat.reducePow, Nat.reduceDiv, Nat.reduceMod, Nat.reduceBEq, Nat.reduceBNe, Int.reduceLT, Int.reduceLE, Int.reduceToNat, Int.reduceAdd, Int.reduceSub, Int.reduceMul, Int.reduceNeg, Int.reducePow, Int.reduceEq, Int.reduceNe, Int.reduceDiv, Int.reduceMod, Int.reduceTDiv, Int.reduceTMod, UInt8.reduceToNat, UInt8.reduceOfNat, ids_fn, ren_fn, List.length_map]
    try simp
  rintro k hk
  unfold Tryd.c56b0
  have htl : ((xs.take k).map AV.str).length = k := by simp; omega
  by_cases hx : k < l.length
  · have hgi : (l.map (AV.int .u32))[k]? = some (.int .u32 l[k]!) := map_get hx
    have hrk := hr l[k]! (by rw [getElem!_pos l k hx]; exact List.getElem_mem hx)
    have q1 := text_run l[k]! hrk
    rw [← hxg k hx] at q1
    have hap : (xs.take k).map AV.str ++ [AV.str xs[k]!] = (xs.take (k + 1)).map AV.str := by rw [take_snoc (by omega)]; simp
    simp (disch := (first | omega | (simp only [List.length_set, List.length_append, List.length_cons, List.length_nil, List.length_take, List.length_drop, List.length_map, List.length_replicate]; omega))) only [↓pvd, pv0, pv1, pv2, pv3, pv4, pv5, pv6, pv7, pvc0, pvc1, pvc2, buildC, evP, evR, evE, Pv.get, Pv.put, putO, bin2, int2, binB2, un1, cells, boundO, AV.flat, bv, rowOne, pvf, rvs_1, rvs_2, rvL, rvX, liveB, setParts, szOk, notStr, lim, dedup, place, ent, Pv.new, Pv.newVar, Pv.newVec, setCells, AV.ones, AV.one, resX, entry, layL, layC, layA, lay, List.map, List.foldl, List.replicate, List.length_replicate, ↓reduceIte, reduceCtorEq, Nat.reduceEqDiff, Nat.reduceLT, Nat.reduceLeDiff, Nat.reduceAdd, Nat.reduceSub, Nat.reduceMul, Nat.reducePow, Nat.reduceDiv, Nat.reduceMod, Nat.reduceBEq, Nat.reduceBNe, Int.reduceLT, Int.reduceLE, Int.reduceToNat, Int.reduceAdd, Int.reduceSub, Int.reduceMul, Int.reduceNeg, Int.reducePow, Int.reduceEq, Int.reduceNe, Int.reduceDiv, Int.reduceMod, Int.reduceTDiv, Int.reduceTMod, UInt8.reduceToNat, UInt8.reduceOfNat, hgi]
    refine awR_callv rfl (gen_nr q1 rfl) (Nat.le_refl _) ?_
    simp (disch := (first | omega | (simp only [List.length_set, List.length_append, List.length_cons, List.length_nil, List.length_take, List.length_drop, List.length_map, List.length_replicate]; omega))) only [↓pvd, pv0, pv1, pv2, pv3, pv4, pv5, pv6, pv7, pvc0, pvc1, pvc2, buildC, evP, evR, evE, Pv.get, Pv.put, putO, bin2, int2, binB2, un1, cells, boundO, AV.flat, bv, rowOne, pvf, rvs_1, rvs_2, rvL, rvX, liveB, setParts, szOk, notStr, lim, dedup, place, ent, Pv.new, Pv.newVar, Pv.newVec, setCells, AV.ones, AV.one, resX, entry, layL, layC, layA, lay, List.map, List.foldl, List.replicate, List.length_replicate, ↓reduceIte, reduceCtorEq, Nat.reduceEqDiff, Nat.reduceLT, Nat.reduceLeDiff, Nat.reduceAdd, Nat.reduceSub, Nat.reduceMul, Nat.reducePow, Nat.reduceDiv, Nat.reduceMod, Nat.reduceBEq, Nat.reduceBNe, Int.reduceLT, Int.reduceLE, Int.reduceToNat, Int.reduceAdd, Int.reduceSub, Int.reduceMul, Int.reduceNeg, Int.reducePow, Int.reduceEq, Int.reduceNe, Int.reduceDiv, Int.reduceMod, Int.reduceTDiv, Int.reduceTMod, UInt8.reduceToNat, UInt8.reduceOfNat, ids_fn, ren_fn, ids_map str_pl, ren_map str_pl, htl, hap]
    refine ⟨k + 1, ?_, hx, by omega⟩
    simp
  · have e : k = l.length := by omega
    have htk : xs.take k = xs := List.take_of_length_le (by omega)
    rw [htk]
    have hkl : k = xs.length := by omega
    generalize Lib.join xs [44] = J at *
    simp (disch := (first | omega | (simp only [List.length_set, List.length_append, List.length_cons, List.length_nil, List.length_take, List.length_drop, List.length_map, List.length_replicate]; omega))) only [↓pvd, pv0, pv1, pv2, pv3, pv4, pv5, pv6, pv7, pvc0, pvc1, pvc2, buildC, evP, evR, evE, Pv.get, Pv.put, putO, bin2, int2, binB2, un1, cells, boundO, AV.flat, bv, rowOne, pvf, rvs_1, rvs_2, rvL, rvX, liveB, setParts, szOk, notStr, lim, dedup, place, ent, Pv.new, Pv.newVar, Pv.newVec, setCells, AV.ones, AV.one, resX, entry, layL, layC, layA, lay, List.map, List.foldl, List.replicate, List.length_replicate, ↓reduceIte, reduceCtorEq, Nat.reduceEqDiff, Nat.reduceLT, Nat.reduceLeDiff, Nat.reduceAdd, Nat.reduceSub, Nat.reduceMul, Nat.reducePow, Nat.reduceDiv, Nat.reduceMod, Nat.reduceBEq, Nat.reduceBNe, Int.reduceLT, Int.reduceLE, Int.reduceToNat, Int.reduceAdd, Int.reduceSub, Int.reduceMul, Int.reduceNeg, Int.reducePow, Int.reduceEq, Int.reduceNe, Int.reduceDiv, Int.reduceMod, Int.reduceTDiv, Int.reduceTMod, UInt8.reduceToNat, UInt8.reduceOfNat, List.length_map, hkl]
    refine awR_callS (ms := []) qj (by simp (disch := (first | omega | (simp only [List.length_set, List.length_append, List.length_cons, List.length_nil, List.length_take, List.length_drop, List.length_map, List.length_replicate]; omega))) only [↓pvd, pv0, pv1, pv2, pv3, pv4, pv5, pv6, pv7, pvc0, pvc1, pvc2, buildC, evP, evR, evE, Pv.get, Pv.put, putO, bin2, int2, binB2, un1, cells, boundO, AV.flat, bv, rowOne, pvf, rvs_1, rvs_2, rvL, rvX, liveB, setParts, szOk, notStr, lim, dedup, place, ent, Pv.new, Pv.newVar, Pv.newVec, setCells, AV.ones, AV.one, resX, entry, layL, layC, layA, lay, List.map, List.foldl, List.replicate, List.length_replicate, ↓reduceIte, reduceCtorEq, Nat.reduceEqDiff, Nat.reduceLT, Nat.reduceLeDiff, Nat.reduceAdd, Nat.reduceSub, Nat.reduceMul, Nat.reducePow, Nat.reduceDiv, Nat.reduceMod, Nat.reduceBEq, Nat.reduceBNe, Int.reduceLT, Int.reduceLE, Int.reduceToNat, Int.reduceAdd, Int.reduceSub, Int.reduceMul, Int.reduceNeg, Int.reducePow, Int.reduceEq, Int.reduceNe, Int.reduceDiv, Int.reduceMod, Int.reduceTDiv, Int.reduceTMod, UInt8.reduceToNat, UInt8.reduceOfNat, mapO_map str_nr, rows_map str_nr]; rfl) (by simp (disch := (first | omega | (simp only [List.length_set, List.length_append, List.length_cons, List.length_nil, List.length_take, List.length_drop, List.length_map, List.length_replicate]; omega))) only [↓pvd, pv0, pv1, pv2, pv3, pv4, pv5, pv6, pv7, pvc0, pvc1, pvc2, buildC, evP, evR, evE, Pv.get, Pv.put, putO, bin2, int2, binB2, un1, cells, boundO, AV.flat, bv, rowOne, pvf, rvs_1, rvs_2, rvL, rvX, liveB, setParts, szOk, notStr, lim, dedup, place, ent, Pv.new, Pv.newVar, Pv.newVec, setCells, AV.ones, AV.one, resX, entry, layL, layC, layA, lay, List.map, List.foldl, List.replicate, List.length_replicate, ↓reduceIte, reduceCtorEq, Nat.reduceEqDiff, Nat.reduceLT, Nat.reduceLeDiff, Nat.reduceAdd, Nat.reduceSub, Nat.reduceMul, Nat.reducePow, Nat.reduceDiv, Nat.reduceMod, Nat.reduceBEq, Nat.reduceBNe, Int.reduceLT, Int.reduceLE, Int.reduceToNat, Int.reduceAdd, Int.reduceSub, Int.reduceMul, Int.reduceNeg, Int.reducePow, Int.reduceEq, Int.reduceNe, Int.reduceDiv, Int.reduceMod, Int.reduceTDiv, Int.reduceTMod, UInt8.reduceToNat, UInt8.reduceOfNat, mapO_map str_nr, rows_map str_nr]) ?_
    simp (disch := (first | omega | (simp only [List.length_set, List.length_append, List.length_cons, List.length_nil, List.length_take, List.length_drop, List.length_map, List.length_replicate]; omega))) only [↓pvd, pv0, pv1, pv2, pv3, pv4, pv5, pv6, pv7, pvc0, pvc1, pvc2, buildC, evP, evR, evE, Pv.get, Pv.put, putO, bin2, int2, binB2, un1, cells, boundO, AV.flat, bv, rowOne, pvf, rvs_1, rvs_2, rvL, rvX, liveB, setParts, szOk, notStr, lim, dedup, place, ent, Pv.new, Pv.newVar, Pv.newVec, setCells, AV.ones, AV.one, resX, entry, layL, layC, layA, lay, List.map, List.foldl, List.replicate, List.length_replicate, ↓reduceIte, reduceCtorEq, Nat.reduceEqDiff, Nat.reduceLT, Nat.reduceLeDiff, Nat.reduceAdd, Nat.reduceSub, Nat.reduceMul, Nat.reducePow, Nat.reduceDiv, Nat.reduceMod, Nat.reduceBEq, Nat.reduceBNe, Int.reduceLT, Int.reduceLE, Int.reduceToNat, Int.reduceAdd, Int.reduceSub, Int.reduceMul, Int.reduceNeg, Int.reducePow, Int.reduceEq, Int.reduceNe, Int.reduceDiv, Int.reduceMod, Int.reduceTDiv, Int.reduceTMod, UInt8.reduceToNat, UInt8.reduceOfNat, still]
    (refine Ends_rq [] ?_; simp (disch := (first | omega | (simp only [List.length_set, List.length_append, List.length_cons, List.length_nil, List.length_take, List.length_drop, List.length_map, List.length_replicate]; omega))) only [↓pvd, pv0, pv1, pv2, pv3, pv4, pv5, pv6, pv7, pvc0, pvc1, pvc2, buildC, evP, evR, evE, Pv.get, Pv.put, putO, bin2, int2, binB2, un1, cells, boundO, AV.flat, bv, rowOne, pvf, rvs_1, rvs_2, rvL, rvX, liveB, setParts, szOk, notStr, lim, dedup, place, ent, Pv.new, Pv.newVar, Pv.newVec, setCells, AV.ones, AV.one, resX, entry, layL, layC, layA, lay, List.map, List.foldl, List.replicate, List.length_replicate, ↓reduceIte, reduceCtorEq, Nat.reduceEqDiff, Nat.reduceLT, Nat.reduceLeDiff, Nat.reduceAdd, Nat.reduceSub, Nat.reduceMul, Nat.reducePow, Nat.reduceDiv, Nat.reduceMod, Nat.reduceBEq, Nat.reduceBNe, Int.reduceLT, Int.reduceLE, Int.reduceToNat, Int.reduceAdd, Int.reduceSub, Int.reduceMul, Int.reduceNeg, Int.reducePow, Int.reduceEq, Int.reduceNe, Int.reduceDiv, Int.reduceMod, Int.reduceTDiv, Int.reduceTMod, UInt8.reduceToNat, UInt8.reduceOfNat]; exact ⟨_, rfl, rfl, rfl⟩)
theorem wul_run (l : List Int) (f : Bool) (hl : l.length ≤ 1000) (hr : ∀ n ∈ l, 0 ≤ n ∧ n ≤ 4294967295) : Run Tryd.prog 32 [.sl 1 (l.map (.int .u32)) f] (.str (Lib.join (l.map addrS) [44])) := by
  have q := wu_run l f hl hr
  refine Tryd.run32 (by simp) ?_
  unfold Tryd.c32
  generalize Lib.join (l.map addrS) [44] = J at *
  simp (disch := (first | omega | (simp only [List.length_set, List.length_append, List.length_cons, List.length_nil, List.length_take, List.length_drop, List.length_map, List.length_replicate] at *; omega))) only [↓pvd, pv0, pv1, pv2, pv3, pv4, pv5, pv6, pv7, pvc0, pvc1, pvc2, buildC, evP, evR, evE, Pv.get, Pv.put, putO, bin2, int2, binB2, un1, cells, boundO, AV.flat, bv, rowOne, pvf, rvs_1, rvs_2, rvL, rvX, liveB, setParts, szOk, notStr, lim, dedup, place, ent, Pv.new, Pv.newVar, Pv.newVec, setCells, AV.ones, AV.one, resX, entry, layL, layC, layA, lay, List.map, List.foldl, List.replicate, List.length_replicate, ↓reduceIte, reduceCtorEq, Nat.reduceEqDiff, Nat.reduceLT, Nat.reduceLeDiff, Nat.reduceAdd, Nat.reduceSub, Nat.reduceMul, Nat.reducePow, Nat.reduceDiv, Nat.reduceMod, Nat.reduceBEq, Nat.reduceBNe, Int.reduceLT, Int.reduceLE, Int.reduceToNat, Int.reduceAdd, Int.reduceSub, Int.reduceMul, Int.reduceNeg, Int.reducePow, Int.reduceEq, Int.reduceNe, Int.reduceDiv, Int.reduceMod, Int.reduceTDiv, Int.reduceTMod, UInt8.reduceToNat, UInt8.reduceOfNat]
  refine awR_callS (ms := []) q (by simp (disch := (first | omega | (simp only [List.length_set, List.length_append, List.length_cons, List.length_nil, List.length_take, List.length_drop, List.length_map, List.length_replicate]; omega))) only [↓pvd, pv0, pv1, pv2, pv3, pv4, pv5, pv6, pv7, pvc0, pvc1, pvc2, buildC, evP, evR, evE, Pv.get, Pv.put, putO, bin2, int2, binB2, un1, cells, boundO, AV.flat, bv, rowOne, pvf, rvs_1, rvs_2, rvL, rvX, liveB, setParts, szOk, notStr, lim, dedup, place, ent, Pv.new, Pv.newVar, Pv.newVec, setCells, AV.ones, AV.one, resX, entry, layL, layC, layA, lay, List.map, List.foldl, List.replicate, List.length_replicate, ↓reduceIte, reduceCtorEq, Nat.reduceEqDiff, Nat.reduceLT, Nat.reduceLeDiff, Nat.reduceAdd, Nat.reduceSub, Nat.reduceMul, Nat.reducePow, Nat.reduceDiv, Nat.reduceMod, Nat.reduceBEq, Nat.reduceBNe, Int.reduceLT, Int.reduceLE, Int.reduceToNat, Int.reduceAdd, Int.reduceSub, Int.reduceMul, Int.reduceNeg, Int.reducePow, Int.reduceEq, Int.reduceNe, Int.reduceDiv, Int.reduceMod, Int.reduceTDiv, Int.reduceTMod, UInt8.reduceToNat, UInt8.reduceOfNat, mapO_map (int_nr .u32), rows_map (int_nr .u32), snp_fn, rws_fn]; rfl) (by simp (disch := (first | omega | (simp only [List.length_set, List.length_append, List.length_cons, List.length_nil, List.length_take, List.length_drop, List.length_map, List.length_replicate]; omega))) only [↓pvd, pv0, pv1, pv2, pv3, pv4, pv5, pv6, pv7, pvc0, pvc1, pvc2, buildC, evP, evR, evE, Pv.get, Pv.put, putO, bin2, int2, binB2, un1, cells, boundO, AV.flat, bv, rowOne, pvf, rvs_1, rvs_2, rvL, rvX, liveB, setParts, szOk, notStr, lim, dedup, place, ent, Pv.new, Pv.newVar, Pv.newVec, setCells, AV.ones, AV.one, resX, entry, layL, layC, layA, lay, List.map, List.foldl, List.replicate, List.length_replicate, ↓reduceIte, reduceCtorEq, Nat.reduceEqDiff, Nat.reduceLT, Nat.reduceLeDiff, Nat.reduceAdd, Nat.reduceSub, Nat.reduceMul, Nat.reducePow, Nat.reduceDiv, Nat.reduceMod, Nat.reduceBEq, Nat.reduceBNe, Int.reduceLT, Int.reduceLE, Int.reduceToNat, Int.reduceAdd, Int.reduceSub, Int.reduceMul, Int.reduceNeg, Int.reducePow, Int.reduceEq, Int.reduceNe, Int.reduceDiv, Int.reduceMod, Int.reduceTDiv, Int.reduceTMod, UInt8.reduceToNat, UInt8.reduceOfNat, mapO_map (int_nr .u32), rows_map (int_nr .u32), snp_fn, rws_fn]) ?_
  simp (disch := (first | omega | (simp only [List.length_set, List.length_append, List.length_cons, List.length_nil, List.length_take, List.length_drop, List.length_map, List.length_replicate]; omega))) only [↓pvd, pv0, pv1, pv2, pv3, pv4, pv5, pv6, pv7, pvc0, pvc1, pvc2, buildC, evP, evR, evE, Pv.get, Pv.put, putO, bin2, int2, binB2, un1, cells, boundO, AV.flat, bv, rowOne, pvf, rvs_1, rvs_2, rvL, rvX, liveB, setParts, szOk, notStr, lim, dedup, place, ent, Pv.new, Pv.newVar, Pv.newVec, setCells, AV.ones, AV.one, resX, entry, layL, layC, layA, lay, List.map, List.foldl, List.replicate, List.length_replicate, ↓reduceIte, reduceCtorEq, Nat.reduceEqDiff, Nat.reduceLT, Nat.reduceLeDiff, Nat.reduceAdd, Nat.reduceSub, Nat.reduceMul, Nat.reducePow, Nat.reduceDiv, Nat.reduceMod, Nat.reduceBEq, Nat.reduceBNe, Int.reduceLT, Int.reduceLE, Int.reduceToNat, Int.reduceAdd, Int.reduceSub, Int.reduceMul, Int.reduceNeg, Int.reducePow, Int.reduceEq, Int.reduceNe, Int.reduceDiv, Int.reduceMod, Int.reduceTDiv, Int.reduceTMod, UInt8.reduceToNat, UInt8.reduceOfNat, still]
  (refine Ends_rq [] ?_; simp (disch := (first | omega | (simp only [List.length_set, List.length_append, List.length_cons, List.length_nil, List.length_take, List.length_drop, List.length_map, List.length_replicate]; omega))) only [↓pvd, pv0, pv1, pv2, pv3, pv4, pv5, pv6, pv7, pvc0, pvc1, pvc2, buildC, evP, evR, evE, Pv.get, Pv.put, putO, bin2, int2, binB2, un1, cells, boundO, AV.flat, bv, rowOne, pvf, rvs_1, rvs_2, rvL, rvX, liveB, setParts, szOk, notStr, lim, dedup, place, ent, Pv.new, Pv.newVar, Pv.newVec, setCells, AV.ones, AV.one, resX, entry, layL, layC, layA, lay, List.map, List.foldl, List.replicate, List.length_replicate, ↓reduceIte, reduceCtorEq, Nat.reduceEqDiff, Nat.reduceLT, Nat.reduceLeDiff, Nat.reduceAdd, Nat.reduceSub, Nat.reduceMul, Nat.reducePow, Nat.reduceDiv, Nat.reduceMod, Nat.reduceBEq, Nat.reduceBNe, Int.reduceLT, Int.reduceLE, Int.reduceToNat, Int.reduceAdd, Int.reduceSub, Int.reduceMul, Int.reduceNeg, Int.reducePow, Int.reduceEq, Int.reduceNe, Int.reduceDiv, Int.reduceMod, Int.reduceTDiv, Int.reduceTMod, UInt8.reduceToNat, UInt8.reduceOfNat]; exact ⟨_, rfl, rfl, rfl⟩)
end Go.Proofs

set_option linter.unusedSimpArgs false
set_option linter.unusedVariables false
set_option maxHeartbeats 2000000
set_option maxRecDepth 20000
namespace Go.Proofs
open Go.Pv
theorem list_ints {k : IntKind} : ∀ (es : List AV), (∀ x ∈ es, ∃ n : Int, x = .int k n ∧ (Lit.int k n).wf = true) → ∃ l : List Int, es = l.map (.int k) ∧ ∀ n ∈ l, (Lit.int k n).wf = true
  | [], _ => ⟨[], rfl, by simp⟩
  | x :: es, h => by
    obtain ⟨n, rfl, hn⟩ := h x (by simp)
    obtain ⟨l, rfl, hl⟩ := list_ints es fun y hy => h y (by simp [hy])
    exact ⟨n :: l, rfl, fun m hm => by
      rcases List.mem_cons.1 hm with rfl | hm
      · exact hn
      · exact hl m hm⟩
end Go.Proofs

set_option linter.unusedSimpArgs false
set_option linter.unusedVariables false
set_option maxHeartbeats 2000000
set_option maxRecDepth 20000
namespace Go.Proofs
namespace Nm
open Go.Pv
theorem vF_app (a b : List UInt8) : ∀ k, k ≤ a.length → vF (a ++ b) k = vF a k
  | 0, _ => rfl
  | k + 1, h => by
    rw [vF, vF, vF_app a b k (by omega), getElem!_pos (a ++ b) k (by simp; omega), getElem!_pos a k (by omega), List.getElem_append_left (by omega)]
theorem vF_snoc (a : List UInt8) (d : UInt8) : vF (a ++ [d]) (a ++ [d]).length = 10 * vF a a.length + ((d.toNat : Int) - 48) := by
  rw [List.length_append, List.length_singleton, vF, vF_app a [d] a.length (Nat.le_refl _), getElem!_pos (a ++ [d]) a.length (by simp), List.getElem_append_right (Nat.le_refl _)]
  simp
theorem u8i_dig {k : Nat} (h : k < 10) : ((u8i (48 + (k : Int))).toNat : Int) = 48 + k := by
  simp only [u8i]
  rw [UInt8.toNat_ofNat']
  omega
theorem dig_ok (n : Nat) : (digF n).all isD = true ∧ vF (digF n) (digF n).length = n := by
  by_cases h : n < 10
  · rw [digF_lt h]
    have := u8i_dig h
    constructor
    · simp [isD]; omega
    · simp [vF]; omega
  · have ih := dig_ok (n / 10)
    rw [digF_ge (by omega)]
    have := u8i_dig (show n % 10 < 10 by omega)
    constructor
    · rw [List.all_append, ih.1, Bool.true_and, List.all_cons, List.all_nil, Bool.and_true]
      exact decide_eq_true (by omega)
    · rw [vF_snoc, ih.2, this]
      omega
termination_by n
decreasing_by omega
theorem dig_first (n : Nat) : ¬ (digF n)[0]? = some 45 := by
  intro h
  have h1 := (dig_ok n).1
  rw [List.all_eq_true] at h1
  have := h1 45 (List.mem_of_getElem? h)
  simp [isD] at this
/-- A number of at most ten digits is read as it was written. -/
theorem rd_tx (n lo hi : Int) (h : n.natAbs < 10000000000) : rdF (txF n) lo hi = if n < lo then (0, false) else if hi < n then (0, false) else (n, true) := by
  have hl := digF_len n.natAbs 9 (by simpa using h)
  have hp := List.length_pos_iff.2 (digF_ne n.natAbs)
  have ho := dig_ok n.natAbs
  have hf := dig_first n.natAbs
  unfold rdF
  by_cases hn : n < 0
  · have e : txF n = 45 :: digF n.natAbs := by
      unfold txF; rw [if_pos hn, show (-n).toNat = n.natAbs by omega]
    rw [e, if_pos (by simp)]
    unfold rdG
    rw [List.drop_succ_cons, List.drop_zero, if_neg (by omega), if_neg (by rw [ho.1]; simp), if_pos rfl, ho.2, show -(n.natAbs : Int) = n by omega, ← e]
    dsimp only
    rw [if_neg (show ¬ (txF n ≠ txF n) by simp)]
  · have e : txF n = digF n.natAbs := by
      unfold txF; rw [if_neg hn, show n.toNat = n.natAbs by omega]
    rw [e, if_neg hf]
    unfold rdG
    rw [if_neg (by omega), if_neg (by rw [ho.1]; simp), if_neg (show ¬ (false = true) by simp), ho.2, show (n.natAbs : Int) = n by omega, ← e]
    dsimp only
    rw [if_neg (show ¬ (txF n ≠ txF n) by simp)]
end Nm
end Go.Proofs

set_option linter.unusedSimpArgs false
set_option linter.unusedVariables false
set_option maxHeartbeats 2000000
set_option maxRecDepth 20000
namespace Go.Proofs
open Go.Pv
def upS (u : List Int) (x : Int) : List Int := if u = [] ∨ u[u.length - 1]! < x then u ++ [x] else u
def upF (l : List Int) : List Int := l.foldl upS []
theorem upF_s {l : List Int} {k : Nat} (h : k < l.length) : upF (l.take (k + 1)) = upS (upF (l.take k)) l[k]! := by
  unfold upF
  rw [take_snoc h, List.foldl_append]
  rfl
theorem upS_ris {u : List Int} {x : Int} (h : risF u = true) : risF (upS u x) = true := by
  unfold upS
  split
  · rename_i hc
    by_cases hu : u = []
    · rw [hu]; rfl
    · obtain ⟨v, y, rfl⟩ : ∃ v y, u = v ++ [y] := ⟨u.dropLast, u.getLast hu, (List.dropLast_concat_getLast _).symm⟩
      rw [risF_snoc, h, Bool.true_and]
      rcases hc with hc | hc
      · exact absurd hc hu
      · exact decide_eq_true (by simpa using hc)
  · exact h
theorem upF_all (l : List Int) : ∀ k, k ≤ l.length → risF (upF (l.take k)) = true ∧ (upF (l.take k)).length ≤ k ∧ ∀ n ∈ upF (l.take k), n ∈ l
  | 0, _ => by simp [upF, risF]
  | k + 1, h => by
    have ih := upF_all l k (by omega)
    rw [upF_s (by omega)]
    refine ⟨upS_ris ih.1, ?_, ?_⟩
    · unfold upS
      split
      · simp only [List.length_append, List.length_cons, List.length_nil]; omega
      · omega
    · intro n hn
      unfold upS at hn
      split at hn
      · rcases List.mem_append.1 hn with hn | hn
        · exact ih.2.2 n hn
        · rw [List.mem_singleton.1 hn, getElem!_pos l k (by omega)]; exact List.getElem_mem (by omega)
      · exact ih.2.2 n hn
theorem tx44 (n : Int) : ∀ c ∈ Nm.txF n, c ≠ 44 := by
  intro c hc
  have hd : ∀ m, ∀ c ∈ Nm.digF m, c ≠ 44 := fun m c hc => by
    have := List.all_eq_true.1 (Nm.dig_ok m).1 c hc
    intro e
    rw [e] at this
    exact absurd this (by decide)
  unfold Nm.txF at hc
  split at hc
  · rcases List.mem_cons.1 hc with rfl | hc
    · decide
    · exact hd _ c hc
  · exact hd _ c hc
theorem sc_join : ∀ (xs : List (List UInt8)), xs ≠ [] → (∀ x ∈ xs, ∀ c ∈ x, c ≠ 44) → sc (Lib.join xs [44]) = xs
  | [], h, _ => absurd rfl h
  | [x], _, h => by
    rw [Lib.join_cons, show x ++ Lib.joinTail [44] [] = x by simp [Lib.joinTail]]
    exact sc_one x (h x (by simp))
  | x :: y :: r, _, h => by
    have ih := sc_join (y :: r) (by simp) (fun z hz => h z (by simp [hz]))
    rw [Lib.join_cons] at ih ⊢
    rw [show x ++ Lib.joinTail [44] (y :: r) = x ++ 44 :: (y ++ Lib.joinTail [44] r) by simp [Lib.joinTail], sc_cons x _ (h x (by simp)), ih]
theorem back_i (u : List Int) (hne : u ≠ []) (hr : risF u = true) (hl : u.length ≤ 16) (hb : ∀ n ∈ u, -2147483648 ≤ n ∧ n ≤ 2147483647) :
    rlR 3 .i64 (gI (-2147483648) 2147483647) (sc (Lib.join (u.map Nm.txF) [44])) = .tup [.own 1 3 (u.map (.int .i64)), .bool true] := by
  rw [sc_join _ (by simpa using hne) (fun x hx => by obtain ⟨n, _, rfl⟩ := List.mem_map.1 hx; exact tx44 n)]
  have hg : ∀ n ∈ u, gI (-2147483648) 2147483647 (Nm.txF n) = (n, true) := fun n hn => by
    have := hb n hn
    unfold gI
    rw [Nm.rd_tx n _ _ (by omega), if_neg (by omega), if_neg (by omega)]
  have hm : (u.map Nm.txF).map (fun p => (gI (-2147483648) 2147483647 p).1) = u := by
    rw [List.map_map]
    conv => rhs; rw [← List.map_id u]
    exact List.map_congr_left fun n hn => by simp [hg n hn]
  rw [rlR_yes, hm]
  rw [rlF_iff]
  refine ⟨fun p hp => ?_, by simpa using hl, by rw [hm]; exact hr⟩
  obtain ⟨n, hn, rfl⟩ := List.mem_map.1 hp
  rw [hg n hn]
theorem back_u (u : List Int) (hne : u ≠ []) (hr : risF u = true) (hl : u.length ≤ 16) (hb : ∀ n ∈ u, 0 ≤ n ∧ n ≤ 4294967295) :
    rlR 22 .u32 rdB (sc (Lib.join (u.map addrS) [44])) = .tup [.own 1 22 (u.map (.int .u32)), .bool true] := by
  have h44 : ∀ n ∈ u, ∀ c ∈ addrS n, c ≠ 44 := fun n hn c hc => by
    have := hb n hn
    unfold addrS at hc
    simp only [List.mem_append, List.mem_cons, List.not_mem_nil, or_false] at hc
    rcases hc with (((((hc | rfl) | hc) | rfl) | hc) | rfl) | hc
    · exact ((numS_ok _ (by omega)).2.2 c hc).2.2
    · decide
    · exact ((numS_ok _ (by omega)).2.2 c hc).2.2
    · decide
    · exact ((numS_ok _ (by omega)).2.2 c hc).2.2
    · decide
    · exact ((numS_ok _ (by omega)).2.2 c hc).2.2
  rw [sc_join _ (by simpa using hne) (fun x hx => by obtain ⟨n, hn, rfl⟩ := List.mem_map.1 hx; exact h44 n hn)]
  have hg : ∀ n ∈ u, rdB (addrS n) = (n, true) := fun n hn => by
    have := addr_ok n (hb n hn)
    unfold rdB
    rw [if_pos this.1, decide_eq_true this.1, this.2.1]
  have hm : (u.map addrS).map (fun p => (rdB p).1) = u := by
    rw [List.map_map]
    conv => rhs; rw [← List.map_id u]
    exact List.map_congr_left fun n hn => by simp [hg n hn]
  rw [rlR_yes, hm]
  rw [rlF_iff]
  refine ⟨fun p hp => ?_, by simpa using hl, by rw [hm]; exact hr⟩
  obtain ⟨n, hn, rfl⟩ := List.mem_map.1 hp
  rw [hg n hn]
theorem back_0i (a b : Int) : rlR 3 .i64 (gI a b) (sc []) = .tup [.sl 0 [] true, .bool false] := by
  apply rlR_no
  rw [rlF_iff]
  rintro ⟨h, _⟩
  have := h [] (by simp [sc])
  simp [gI, Nm.rdF, Nm.rdG] at this
theorem back_0u : rlR 22 .u32 rdB (sc []) = .tup [.sl 0 [] true, .bool false] := by
  apply rlR_no
  rw [rlF_iff]
  rintro ⟨h, _⟩
  have := h [] (by simp [sc])
  simp [rdB, okA, sp] at this
end Go.Proofs
