/- The proofs of what the functions of this seat do. -/
import Derived.Test.YtppdpcfmkmnfjaaDoorPr2
import Derived.Below
import Derived.Lib.Join
import Derived.Shelf.Strings.OnBuilder
set_option linter.unusedSimpArgs false
set_option linter.unusedVariables false
set_option maxHeartbeats 2000000
set_option maxRecDepth 20000
namespace Go.Proofs
open Go.Pv
theorem ris_next {l : List Int} {k : Nat} (h : k < l.length) : risF (l.take (k + 1)) = (risF (l.take k) && decide (k = 0 ∨ l[k - 1]! < l[k]!)) := by
  cases k with
  | zero =>
    rw [take_snoc h]
    simp [risF]
  | succ k =>
    rw [take_snoc h, take_snoc (by omega : k < l.length), risF_snoc]
    simp
theorem ris_no {l : List Int} {k : Nat} (h : k < l.length) (h0 : ¬ (k = 0 ∨ l[k - 1]! < l[k]!)) : risF l = false := by
  cases hr : risF l with
  | false => rfl
  | true =>
    have e : l = l.take (k + 1) ++ l.drop (k + 1) := (List.take_append_drop _ _).symm
    rw [e] at hr
    have := risF_app _ _ hr
    rw [ris_next h, decide_eq_false h0, Bool.and_false] at this
    cases this
def rsF (l : List Int) (a b : Int) : Bool := (l.all fun n => decide (a ≤ n ∧ n ≤ b)) && risF l && decide (0 < l.length ∧ l.length ≤ 16)
theorem rs_no1 {l : List Int} {a b : Int} {k : Nat} (h : k < l.length) (h0 : ¬ (a ≤ l[k]! ∧ l[k]! ≤ b)) : rsF l a b = false := by
  have : (l.all fun n => decide (a ≤ n ∧ n ≤ b)) = false := by
    rw [List.all_eq_false]
    exact ⟨l[k]!, by rw [getElem!_pos l k h]; exact List.getElem_mem h, by rw [decide_eq_false h0]; simp⟩
  unfold rsF
  rw [this]
  rfl
theorem rs_no2 {l : List Int} {a b : Int} {k : Nat} (h : k < l.length) (h0 : ¬ (k = 0 ∨ l[k - 1]! < l[k]!)) : rsF l a b = false := by
  unfold rsF
  rw [ris_no h h0, Bool.and_false, Bool.false_and]
theorem rs_yes {l : List Int} {a b : Int} (h : ∀ j < l.length, a ≤ l[j]! ∧ l[j]! ≤ b) (h0 : risF l = true) : rsF l a b = decide (0 < l.length ∧ l.length ≤ 16) := by
  have : (l.all fun n => decide (a ≤ n ∧ n ≤ b)) = true := by
    rw [List.all_eq_true]
    intro c hc
    obtain ⟨k, hk, rfl⟩ := List.mem_iff_getElem.1 hc
    have := h k hk
    rw [getElem!_pos l k hk] at this
    exact decide_eq_true this
  unfold rsF
  rw [this, h0]
  simp
theorem ising_run (l : List Int) (f : Bool) (a b : Int) (hl : l.length ≤ 100000) : Run Tryd.prog 85 [.sl 1 (l.map (.int .i64)) f, .int .i64 a, .int .i64 b] (.bool (rsF l a b)) := by
  refine Tryd.run85 (by simp) ?_
  unfold Tryd.c85
  simp (disch := first | omega | (simp only [pvl] at *; omega)) only [↓pvd, pv0, pv1, pv2, pv3, pv4, pv5, pv6, pv7, pvc0, pvc1, pvc2, Pv.put, bin2, int2, binB2, un1, AV.flat, pvf, rvs_1, rvs_2, szOk, notStr, setCells, AV.one, resX, layC, layA, lay, List.map, List.replicate, List.length_replicate, pvq0, pvq1, seval, reduceCtorEq]
  refine aw_loop (fun k : Nat => ⟨[(0, .sl 1 (l.map (.int .i64)) f), (1, .int .i64 a), (2, .int .i64 b), (9, .sl 1 (l.map (.int .i64)) f), (10, .int .i64 l.length), (11, .int .i64 k)], []⟩) (fun k => k ≤ l.length ∧ (∀ j < k, a ≤ l[j]! ∧ l[j]! ≤ b) ∧ risF (l.take k) = true) (fun k => l.length - k) 0 ?_ ⟨by omega, by simp, rfl⟩ ?_
  · simp (disch := first | omega | (simp only [pvl] at *; omega)) only [↓pvd, pv0, pv1, pv2, pv3, pv4, pv5, pv6, pv7, pvc0, pvc1, pvc2, Pv.put, bin2, int2, binB2, un1, AV.flat, pvf, rvs_1, rvs_2, szOk, notStr, setCells, AV.one, resX, layC, layA, lay, List.map, List.replicate, List.length_replicate, pvq0, pvq1, seval, reduceCtorEq]
    try simp
  rintro k ⟨hk, hp, hr⟩
  unfold Tryd.c85b0
  by_cases hx : k < l.length
  · have hgi : (l.map (AV.int .i64))[k]? = some (.int .i64 l[k]!) := map_get hx
    have hn := ris_next hx
    rw [hr, Bool.true_and] at hn
    by_cases h1 : a ≤ l[k]! ∧ l[k]! ≤ b
    · have nx : (k = 0 ∨ l[k - 1]! < l[k]!) → k + 1 ≤ l.length ∧ (∀ j < k + 1, a ≤ l[j]! ∧ l[j]! ≤ b) ∧ risF (l.take (k + 1)) = true := fun h => ⟨hx, fun j hj => by
        by_cases e : j = k
        · rw [e]; exact h1
        · exact hp j (by omega), by rw [hn]; exact decide_eq_true h⟩
      have h2 := h1.1
      have h3 := h1.2
      by_cases h0 : k = 0
      · have := nx (.inl h0)
        subst h0
        repeat' (first | (simp (disch := first | omega | (simp only [pvl]; omega)) only [↓pvd, pv0, pv1, pv2, pv3, pv4, pv5, pv6, pv7, pvc0, pvc1, pvc2, Pv.put, bin2, int2, binB2, un1, AV.flat, pvf, rvs_1, rvs_2, szOk, notStr, setCells, AV.one, resX, layC, layA, lay, List.map, List.replicate, List.length_replicate, pvq0, pvq1, seval, reduceCtorEq, hgi, still]) | with_reducible refine condP_d (fun _ => ?_) (fun _ => ?_) | with_reducible refine guardP_d0 (fun _ => ?_) (fun _ => ?_) | with_reducible refine guardP_d1 (fun _ => ?_) (fun _ => ?_) | with_reducible refine condP_any ?_ ?_ | (refine Ends_rq [] ?_; simp (disch := first | omega | (simp only [pvl]; omega)) only [↓pvd, pv0, pv1, pv2, pv3, pv4, pv5, pv6, pv7, pvc0, pvc1, pvc2, Pv.put, bin2, int2, binB2, un1, AV.flat, pvf, rvs_1, rvs_2, szOk, notStr, setCells, AV.one, resX, layC, layA, lay, List.map, List.replicate, List.length_replicate, pvq0, pvq1, seval, reduceCtorEq]; exact ⟨_, rfl, rfl, rfl⟩))
        exact ⟨0 + 1, rfl, this, by omega⟩
      · have hix : ((k : Int) - 1).toNat = k - 1 := by omega
        have hgj : (l.map (AV.int .i64))[k - 1]? = some (.int .i64 l[k - 1]!) := map_get (by omega)
        have : 0 < k := by omega
        by_cases h4 : l[k - 1]! < l[k]!
        · have := nx (.inr h4)
          repeat' (first | (simp (disch := first | omega | (simp only [pvl]; omega)) only [↓pvd, pv0, pv1, pv2, pv3, pv4, pv5, pv6, pv7, pvc0, pvc1, pvc2, Pv.put, bin2, int2, binB2, un1, AV.flat, pvf, rvs_1, rvs_2, szOk, notStr, setCells, AV.one, resX, layC, layA, lay, List.map, List.replicate, List.length_replicate, pvq0, pvq1, seval, reduceCtorEq, hgi, hix, hgj, still]) | with_reducible refine condP_d (fun _ => ?_) (fun _ => ?_) | with_reducible refine guardP_d0 (fun _ => ?_) (fun _ => ?_) | with_reducible refine guardP_d1 (fun _ => ?_) (fun _ => ?_) | with_reducible refine condP_any ?_ ?_ | (refine Ends_rq [] ?_; simp (disch := first | omega | (simp only [pvl]; omega)) only [↓pvd, pv0, pv1, pv2, pv3, pv4, pv5, pv6, pv7, pvc0, pvc1, pvc2, Pv.put, bin2, int2, binB2, un1, AV.flat, pvf, rvs_1, rvs_2, szOk, notStr, setCells, AV.one, resX, layC, layA, lay, List.map, List.replicate, List.length_replicate, pvq0, pvq1, seval, reduceCtorEq]; exact ⟨_, rfl, rfl, rfl⟩))
          exact ⟨k + 1, rfl, this, by omega⟩
        · rw [rs_no2 hx (fun h => h.elim h0 h4)]
          repeat' (first | (simp (disch := first | omega | (simp only [pvl]; omega)) only [↓pvd, pv0, pv1, pv2, pv3, pv4, pv5, pv6, pv7, pvc0, pvc1, pvc2, Pv.put, bin2, int2, binB2, un1, AV.flat, pvf, rvs_1, rvs_2, szOk, notStr, setCells, AV.one, resX, layC, layA, lay, List.map, List.replicate, List.length_replicate, pvq0, pvq1, seval, reduceCtorEq, hgi, hix, hgj, still]) | with_reducible refine condP_d (fun _ => ?_) (fun _ => ?_) | with_reducible refine guardP_d0 (fun _ => ?_) (fun _ => ?_) | with_reducible refine guardP_d1 (fun _ => ?_) (fun _ => ?_) | with_reducible refine condP_any ?_ ?_ | (refine Ends_rq [] ?_; simp (disch := first | omega | (simp only [pvl]; omega)) only [↓pvd, pv0, pv1, pv2, pv3, pv4, pv5, pv6, pv7, pvc0, pvc1, pvc2, Pv.put, bin2, int2, binB2, un1, AV.flat, pvf, rvs_1, rvs_2, szOk, notStr, setCells, AV.one, resX, layC, layA, lay, List.map, List.replicate, List.length_replicate, pvq0, pvq1, seval, reduceCtorEq]; exact ⟨_, rfl, rfl, rfl⟩))
    · rw [rs_no1 hx h1]
      by_cases h2 : l[k]! < a
      · repeat' (first | (simp (disch := first | omega | (simp only [pvl]; omega)) only [↓pvd, pv0, pv1, pv2, pv3, pv4, pv5, pv6, pv7, pvc0, pvc1, pvc2, Pv.put, bin2, int2, binB2, un1, AV.flat, pvf, rvs_1, rvs_2, szOk, notStr, setCells, AV.one, resX, layC, layA, lay, List.map, List.replicate, List.length_replicate, pvq0, pvq1, seval, reduceCtorEq, hgi, still]) | with_reducible refine condP_d (fun _ => ?_) (fun _ => ?_) | with_reducible refine guardP_d0 (fun _ => ?_) (fun _ => ?_) | with_reducible refine guardP_d1 (fun _ => ?_) (fun _ => ?_) | with_reducible refine condP_any ?_ ?_ | (refine Ends_rq [] ?_; simp (disch := first | omega | (simp only [pvl]; omega)) only [↓pvd, pv0, pv1, pv2, pv3, pv4, pv5, pv6, pv7, pvc0, pvc1, pvc2, Pv.put, bin2, int2, binB2, un1, AV.flat, pvf, rvs_1, rvs_2, szOk, notStr, setCells, AV.one, resX, layC, layA, lay, List.map, List.replicate, List.length_replicate, pvq0, pvq1, seval, reduceCtorEq]; exact ⟨_, rfl, rfl, rfl⟩))
      · have : b < l[k]! := by omega
        repeat' (first | (simp (disch := first | omega | (simp only [pvl]; omega)) only [↓pvd, pv0, pv1, pv2, pv3, pv4, pv5, pv6, pv7, pvc0, pvc1, pvc2, Pv.put, bin2, int2, binB2, un1, AV.flat, pvf, rvs_1, rvs_2, szOk, notStr, setCells, AV.one, resX, layC, layA, lay, List.map, List.replicate, List.length_replicate, pvq0, pvq1, seval, reduceCtorEq, hgi, still]) | with_reducible refine condP_d (fun _ => ?_) (fun _ => ?_) | with_reducible refine guardP_d0 (fun _ => ?_) (fun _ => ?_) | with_reducible refine guardP_d1 (fun _ => ?_) (fun _ => ?_) | with_reducible refine condP_any ?_ ?_ | (refine Ends_rq [] ?_; simp (disch := first | omega | (simp only [pvl]; omega)) only [↓pvd, pv0, pv1, pv2, pv3, pv4, pv5, pv6, pv7, pvc0, pvc1, pvc2, Pv.put, bin2, int2, binB2, un1, AV.flat, pvf, rvs_1, rvs_2, szOk, notStr, setCells, AV.one, resX, layC, layA, lay, List.map, List.replicate, List.length_replicate, pvq0, pvq1, seval, reduceCtorEq]; exact ⟨_, rfl, rfl, rfl⟩))
  · have e : k = l.length := by omega
    subst e
    rw [List.take_length] at hr
    rw [rs_yes hp hr]
    by_cases h1 : 0 < l.length
    · by_cases h2 : l.length ≤ 16
      · rw [decide_eq_true ⟨h1, h2⟩]
        repeat' (first | (simp (disch := first | omega | (simp only [pvl]; omega)) only [↓pvd, pv0, pv1, pv2, pv3, pv4, pv5, pv6, pv7, pvc0, pvc1, pvc2, Pv.put, bin2, int2, binB2, un1, AV.flat, pvf, rvs_1, rvs_2, szOk, notStr, setCells, AV.one, resX, layC, layA, lay, List.map, List.replicate, List.length_replicate, pvq0, pvq1, seval, reduceCtorEq, List.length_map, still]) | with_reducible refine condP_d (fun _ => ?_) (fun _ => ?_) | with_reducible refine guardP_d0 (fun _ => ?_) (fun _ => ?_) | with_reducible refine guardP_d1 (fun _ => ?_) (fun _ => ?_) | with_reducible refine condP_any ?_ ?_ | (refine Ends_rq [] ?_; simp (disch := first | omega | (simp only [pvl]; omega)) only [↓pvd, pv0, pv1, pv2, pv3, pv4, pv5, pv6, pv7, pvc0, pvc1, pvc2, Pv.put, bin2, int2, binB2, un1, AV.flat, pvf, rvs_1, rvs_2, szOk, notStr, setCells, AV.one, resX, layC, layA, lay, List.map, List.replicate, List.length_replicate, pvq0, pvq1, seval, reduceCtorEq]; exact ⟨_, rfl, rfl, rfl⟩))
      · rw [decide_eq_false (fun h => h2 h.2)]
        repeat' (first | (simp (disch := first | omega | (simp only [pvl]; omega)) only [↓pvd, pv0, pv1, pv2, pv3, pv4, pv5, pv6, pv7, pvc0, pvc1, pvc2, Pv.put, bin2, int2, binB2, un1, AV.flat, pvf, rvs_1, rvs_2, szOk, notStr, setCells, AV.one, resX, layC, layA, lay, List.map, List.replicate, List.length_replicate, pvq0, pvq1, seval, reduceCtorEq, List.length_map, still]) | with_reducible refine condP_d (fun _ => ?_) (fun _ => ?_) | with_reducible refine guardP_d0 (fun _ => ?_) (fun _ => ?_) | with_reducible refine guardP_d1 (fun _ => ?_) (fun _ => ?_) | with_reducible refine condP_any ?_ ?_ | (refine Ends_rq [] ?_; simp (disch := first | omega | (simp only [pvl]; omega)) only [↓pvd, pv0, pv1, pv2, pv3, pv4, pv5, pv6, pv7, pvc0, pvc1, pvc2, Pv.put, bin2, int2, binB2, un1, AV.flat, pvf, rvs_1, rvs_2, szOk, notStr, setCells, AV.one, resX, layC, layA, lay, List.map, List.replicate, List.length_replicate, pvq0, pvq1, seval, reduceCtorEq]; exact ⟨_, rfl, rfl, rfl⟩))
    · rw [decide_eq_false (fun h => h1 h.1)]
      repeat' (first | (simp (disch := first | omega | (simp only [pvl]; omega)) only [↓pvd, pv0, pv1, pv2, pv3, pv4, pv5, pv6, pv7, pvc0, pvc1, pvc2, Pv.put, bin2, int2, binB2, un1, AV.flat, pvf, rvs_1, rvs_2, szOk, notStr, setCells, AV.one, resX, layC, layA, lay, List.map, List.replicate, List.length_replicate, pvq0, pvq1, seval, reduceCtorEq, List.length_map, still]) | with_reducible refine condP_d (fun _ => ?_) (fun _ => ?_) | with_reducible refine guardP_d0 (fun _ => ?_) (fun _ => ?_) | with_reducible refine guardP_d1 (fun _ => ?_) (fun _ => ?_) | with_reducible refine condP_any ?_ ?_ | (refine Ends_rq [] ?_; simp (disch := first | omega | (simp only [pvl]; omega)) only [↓pvd, pv0, pv1, pv2, pv3, pv4, pv5, pv6, pv7, pvc0, pvc1, pvc2, Pv.put, bin2, int2, binB2, un1, AV.flat, pvf, rvs_1, rvs_2, szOk, notStr, setCells, AV.one, resX, layC, layA, lay, List.map, List.replicate, List.length_replicate, pvq0, pvq1, seval, reduceCtorEq]; exact ⟨_, rfl, rfl, rfl⟩))
end Go.Proofs

set_option linter.unusedSimpArgs false
set_option linter.unusedVariables false
set_option maxHeartbeats 2000000
set_option maxRecDepth 20000
namespace Go.Proofs
namespace Mc
open Go.Pv
theorem shift_run (i : Int) (h : 0 ≤ i) (h' : i ≤ 5) : Run Tryd.prog 102 [.int .i64 i] (.int .u64 (8 * (5 - i))) := by
  refine Tryd.run102 (by simp) ?_
  unfold Tryd.c102
  simp (disch := first | omega | (simp only [pvl] at *; omega)) only [↓pvd, pv0, pv1, pv2, pv3, pv4, pv5, pv6, pv7, pvc0, pvc1, pvc2, Pv.put, bin2, int2, binB2, un1, AV.flat, pvf, rvs_1, rvs_2, szOk, notStr, setCells, AV.one, resX, layC, layA, lay, List.map, List.replicate, List.length_replicate, pvq0, pvq1, seval, reduceCtorEq]
  (refine Ends_rq [] ?_; simp (disch := first | omega | (simp only [pvl]; omega)) only [↓pvd, pv0, pv1, pv2, pv3, pv4, pv5, pv6, pv7, pvc0, pvc1, pvc2, Pv.put, bin2, int2, binB2, un1, AV.flat, pvf, rvs_1, rvs_2, szOk, notStr, setCells, AV.one, resX, layC, layA, lay, List.map, List.replicate, List.length_replicate, pvq0, pvq1, seval, reduceCtorEq]; exact ⟨_, rfl, rfl, rfl⟩)
/-- A digit's. -/
def dg (c : UInt8) : Int := if 48 ≤ c.toNat ∧ c.toNat ≤ 57 then c.toNat - 48 else if 97 ≤ c.toNat ∧ c.toNat ≤ 102 then c.toNat - 87 else 16
theorem digit_run (c : UInt8) : Run Tryd.prog 76 [.int .u8 c.toNat] (.int .u64 (dg c)) := by
  have hc := c.toNat_lt
  refine Tryd.run76 (by simp) ?_
  unfold Tryd.c76
  repeat' (first | simp (disch := first | omega | (simp only [pvl]; omega)) only [↓pvd, pv0, pv1, pv2, pv3, pv4, pv5, pv6, pv7, pvc0, pvc1, pvc2, Pv.put, bin2, int2, binB2, un1, AV.flat, pvf, rvs_1, rvs_2, szOk, notStr, setCells, AV.one, resX, layC, layA, lay, List.map, List.replicate, List.length_replicate, pvq0, pvq1, seval, reduceCtorEq] | with_reducible refine condP_d (fun _ => ?_) (fun _ => ?_) | with_reducible refine guardP_d0 (fun _ => ?_) (fun _ => ?_) | with_reducible refine guardP_d1 (fun _ => ?_) (fun _ => ?_) | with_reducible refine condP_any ?_ ?_)
  all_goals ((unfold dg; simp (disch := omega) only [if_pos, if_neg]); refine Ends_rq [] ?_; simp (disch := first | omega | (simp only [pvl] at *; omega)) only [↓pvd, pv0, pv1, pv2, pv3, pv4, pv5, pv6, pv7, pvc0, pvc1, pvc2, Pv.put, bin2, int2, binB2, un1, AV.flat, pvf, rvs_1, rvs_2, szOk, notStr, setCells, AV.one, resX, layC, layA, lay, List.map, List.replicate, List.length_replicate, pvq0, pvq1, seval, reduceCtorEq]; exact ⟨_, rfl, by first | rfl | (simp only [AV.int.injEq, true_and]; omega), rfl⟩)
end Mc
end Go.Proofs

set_option linter.unusedSimpArgs false
set_option linter.unusedVariables false
set_option maxHeartbeats 2000000
set_option maxRecDepth 20000
namespace Go.Proofs
namespace Mc
open Go.Pv
theorem nat_and_pow (n j : Nat) : n &&& 2 ^ j = n / 2 ^ j % 2 * 2 ^ j := by
  apply Nat.eq_of_testBit_eq
  intro i
  rw [Nat.testBit_and, Nat.testBit_two_pow, Nat.testBit_mul_two_pow]
  have e : n / 2 ^ j % 2 = n / 2 ^ j % 2 ^ 1 := by simp
  rw [e, Nat.testBit_mod_two_pow, Nat.testBit_div_two_pow]
  by_cases h : j = i
  · subst h; simp
  · by_cases h2 : j ≤ i
    · simp [h]; omega
    · simp [h, h2]
theorem and_40 {m : Int} (h : 0 ≤ m) (h' : m < 18446744073709551616) : and2 .u64 m 1099511627776 = m / 1099511627776 % 2 * 1099511627776 := by
  obtain ⟨n, rfl⟩ := Int.eq_ofNat_of_zero_le h
  unfold and2
  rw [BitVec.toNat_and, ofInt_toNat h (by rw [bits_u64]; omega), ofInt_toNat (by omega) (by rw [bits_u64]; omega)]
  have e : (1099511627776 : Int).toNat = 2 ^ 40 := rfl
  rw [e, Int.toNat_natCast, nat_and_pow, wrap_u64]
  omega
theorem group_run (m : Int) (h : 0 ≤ m) (h' : m < 18446744073709551616) : Run Tryd.prog 78 [.int .u64 m] (.bool (decide (m / 1099511627776 % 2 = 1))) := by
  refine Tryd.run78 (by simp) ?_
  unfold Tryd.c78
  simp (disch := first | omega | (simp only [pvl]; omega)) only [↓pvd, pv0, pv1, pv2, pv3, pv4, pv5, pv6, pv7, pvc0, pvc1, pvc2, Pv.put, bin2, int2, binB2, un1, AV.flat, pvf, rvs_1, rvs_2, szOk, notStr, setCells, AV.one, resX, layC, layA, lay, List.map, List.replicate, List.length_replicate, pvq0, pvq1, seval, reduceCtorEq, and_40]
  refine Ends_rq [] ?_
  simp (disch := first | omega | (simp only [pvl] at *; omega)) only [↓pvd, pv0, pv1, pv2, pv3, pv4, pv5, pv6, pv7, pvc0, pvc1, pvc2, Pv.put, bin2, int2, binB2, un1, AV.flat, pvf, rvs_1, rvs_2, szOk, notStr, setCells, AV.one, resX, layC, layA, lay, List.map, List.replicate, List.length_replicate, pvq0, pvq1, seval, reduceCtorEq]
  exact ⟨_, rfl, by simp only [AV.bool.injEq, decide_eq_decide]; omega, rfl⟩
/-- A host's ip. -/
def ish (m : Int) : Int × Bool := if m / 4294967296 % 65536 = 512 then (m % 4294967296, true) else (0, false)
theorem ishost_run (m : Int) (h : 0 ≤ m) (h' : m < 18446744073709551616) : Run Tryd.prog 77 [.int .u64 m] (.tup [.int .u32 (ish m).1, .bool (ish m).2]) := by
  refine Tryd.run77 (by simp) ?_
  unfold Tryd.c77
  repeat' (first | simp (disch := first | omega | (simp only [pvl]; omega)) only [↓pvd, pv0, pv1, pv2, pv3, pv4, pv5, pv6, pv7, pvc0, pvc1, pvc2, Pv.put, bin2, int2, binB2, un1, AV.flat, pvf, rvs_1, rvs_2, szOk, notStr, setCells, AV.one, resX, layC, layA, lay, List.map, List.replicate, List.length_replicate, pvq0, pvq1, seval, reduceCtorEq] | with_reducible refine condP_d (fun _ => ?_) (fun _ => ?_) | with_reducible refine guardP_d0 (fun _ => ?_) (fun _ => ?_) | with_reducible refine guardP_d1 (fun _ => ?_) (fun _ => ?_) | with_reducible refine condP_any ?_ ?_)
  all_goals ((unfold ish; simp (disch := omega) only [if_pos, if_neg]); refine Ends_rq [] ?_; simp (disch := first | omega | (simp only [pvl] at *; omega)) only [↓pvd, pv0, pv1, pv2, pv3, pv4, pv5, pv6, pv7, pvc0, pvc1, pvc2, Pv.put, bin2, int2, binB2, un1, AV.flat, pvf, rvs_1, rvs_2, szOk, notStr, setCells, AV.one, resX, layC, layA, lay, List.map, List.replicate, List.length_replicate, pvq0, pvq1, seval, reduceCtorEq]; exact ⟨_, rfl, by first | rfl | (simp only [AV.tup.injEq, List.cons.injEq, AV.int.injEq, true_and, and_true]; omega), rfl⟩)
theorem take_snoc {α : Type} [Inhabited α] {l : List α} {k : Nat} (h : k < l.length) : l.take (k + 1) = l.take k ++ [l[k]!] := by
  rw [List.take_succ_eq_append_getElem h]
  simp [h]
end Mc
end Go.Proofs

set_option linter.unusedSimpArgs false
set_option linter.unusedVariables false
set_option maxHeartbeats 2000000
set_option maxRecDepth 20000
namespace Go.Proofs
namespace Mc
open Go.Pv
/-- A digit. -/
def hx (n : Int) : UInt8 := [48, 49, 50, 51, 52, 53, 54, 55, 56, 57, 97, 98, 99, 100, 101, 102][n.toNat]!
theorem hx_get {n : Int} (h : 0 ≤ n) (h' : n < 16) : Option.map bv (([48, 49, 50, 51, 52, 53, 54, 55, 56, 57, 97, 98, 99, 100, 101, 102] : List UInt8)[n.toNat]?) = some (bv (hx n)) := by
  obtain ⟨k, rfl⟩ := Int.eq_ofNat_of_zero_le h
  have : k < 16 := by omega
  unfold hx
  rw [Int.toNat_natCast, List.getElem?_eq_getElem (by simpa using this), List.getElem!_eq_getElem?_getD, List.getElem?_eq_getElem (by simpa using this)]
  rfl
/-- An address's text. -/
def tx (m : Int) : List UInt8 :=
  [hx (m / 1099511627776 % 256 / 16), hx (m / 1099511627776 % 256 % 16), 58, hx (m / 4294967296 % 256 / 16), hx (m / 4294967296 % 256 % 16), 58, hx (m / 16777216 % 256 / 16), hx (m / 16777216 % 256 % 16), 58,
    hx (m / 65536 % 256 / 16), hx (m / 65536 % 256 % 16), 58, hx (m / 256 % 256 / 16), hx (m / 256 % 256 % 16), 58, hx (m % 256 / 16), hx (m % 256 % 16)]
theorem text_run (m : Int) (h : 0 ≤ m) (h' : m < 18446744073709551616) : Run Tryd.prog 87 [.int .u64 m] (.str (tx m)) := by
  refine Tryd.run87 (by simp) ?_
  unfold Tryd.c87
  simp (disch := first | omega | (simp only [pvl] at *; omega)) only [↓pvd, pv0, pv1, pv2, pv3, pv4, pv5, pv6, pv7, pvc0, pvc1, pvc2, Pv.put, bin2, int2, binB2, un1, AV.flat, pvf, rvs_1, rvs_2, szOk, notStr, setCells, AV.one, resX, layC, layA, lay, List.map, List.replicate, List.length_replicate, pvq0, pvq1, seval, reduceCtorEq]
  refine aw_loop (fun k : Nat => ⟨[(0, .int .u64 m), (3, .vec 0 1 0 (3 * k - 1)), (6, .int .i64 k)], [some ⟨5, bys ((tx m).take (3 * k - 1)), true⟩]⟩) (fun k => k ≤ 6) (fun k => 6 - k) 0 ?_ (by omega) ?_
  · simp (disch := first | omega | (simp only [pvl] at *; omega)) only [↓pvd, pv0, pv1, pv2, pv3, pv4, pv5, pv6, pv7, pvc0, pvc1, pvc2, Pv.put, bin2, int2, binB2, un1, AV.flat, pvf, rvs_1, rvs_2, szOk, notStr, setCells, AV.one, resX, layC, layA, lay, List.map, List.replicate, List.length_replicate, pvq0, pvq1, seval, reduceCtorEq]
  intro k hk
  have hk' : k = 0 ∨ k = 1 ∨ k = 2 ∨ k = 3 ∨ k = 4 ∨ k = 5 ∨ k = 6 := by omega
  unfold Tryd.c87b0
  rcases hk' with rfl | rfl | rfl | rfl | rfl | rfl | rfl
  · simp (disch := first | omega | (simp only [pvl]; omega)) only [↓pvd, pv0, pv1, pv2, pv3, pv4, pv5, pv6, pv7, pvc0, pvc1, pvc2, Pv.put, bin2, int2, binB2, un1, AV.flat, pvf, rvs_1, rvs_2, szOk, notStr, setCells, AV.one, resX, layC, layA, lay, List.map, List.replicate, List.length_replicate, pvq0, pvq1, seval, reduceCtorEq, tx]
    refine awR_call (shift_run 0 (by omega) (by omega)) rfl rfl ?_
    simp (disch := first | omega | (simp only [pvl]; omega)) only [↓pvd, pv0, pv1, pv2, pv3, pv4, pv5, pv6, pv7, pvc0, pvc1, pvc2, Pv.put, bin2, int2, binB2, un1, AV.flat, pvf, rvs_1, rvs_2, szOk, notStr, setCells, AV.one, resX, layC, layA, lay, List.map, List.replicate, List.length_replicate, pvq0, pvq1, seval, reduceCtorEq, hx_get]
    refine ⟨1, ?_, by omega, by omega⟩
    rfl
  · simp (disch := first | omega | (simp only [pvl]; omega)) only [↓pvd, pv0, pv1, pv2, pv3, pv4, pv5, pv6, pv7, pvc0, pvc1, pvc2, Pv.put, bin2, int2, binB2, un1, AV.flat, pvf, rvs_1, rvs_2, szOk, notStr, setCells, AV.one, resX, layC, layA, lay, List.map, List.replicate, List.length_replicate, pvq0, pvq1, seval, reduceCtorEq, tx]
    refine awR_call (shift_run 1 (by omega) (by omega)) rfl rfl ?_
    simp (disch := first | omega | (simp only [pvl]; omega)) only [↓pvd, pv0, pv1, pv2, pv3, pv4, pv5, pv6, pv7, pvc0, pvc1, pvc2, Pv.put, bin2, int2, binB2, un1, AV.flat, pvf, rvs_1, rvs_2, szOk, notStr, setCells, AV.one, resX, layC, layA, lay, List.map, List.replicate, List.length_replicate, pvq0, pvq1, seval, reduceCtorEq, hx_get]
    refine ⟨2, ?_, by omega, by omega⟩
    rfl
  · simp (disch := first | omega | (simp only [pvl]; omega)) only [↓pvd, pv0, pv1, pv2, pv3, pv4, pv5, pv6, pv7, pvc0, pvc1, pvc2, Pv.put, bin2, int2, binB2, un1, AV.flat, pvf, rvs_1, rvs_2, szOk, notStr, setCells, AV.one, resX, layC, layA, lay, List.map, List.replicate, List.length_replicate, pvq0, pvq1, seval, reduceCtorEq, tx]
    refine awR_call (shift_run 2 (by omega) (by omega)) rfl rfl ?_
    simp (disch := first | omega | (simp only [pvl]; omega)) only [↓pvd, pv0, pv1, pv2, pv3, pv4, pv5, pv6, pv7, pvc0, pvc1, pvc2, Pv.put, bin2, int2, binB2, un1, AV.flat, pvf, rvs_1, rvs_2, szOk, notStr, setCells, AV.one, resX, layC, layA, lay, List.map, List.replicate, List.length_replicate, pvq0, pvq1, seval, reduceCtorEq, hx_get]
    refine ⟨3, ?_, by omega, by omega⟩
    rfl
  · simp (disch := first | omega | (simp only [pvl]; omega)) only [↓pvd, pv0, pv1, pv2, pv3, pv4, pv5, pv6, pv7, pvc0, pvc1, pvc2, Pv.put, bin2, int2, binB2, un1, AV.flat, pvf, rvs_1, rvs_2, szOk, notStr, setCells, AV.one, resX, layC, layA, lay, List.map, List.replicate, List.length_replicate, pvq0, pvq1, seval, reduceCtorEq, tx]
    refine awR_call (shift_run 3 (by omega) (by omega)) rfl rfl ?_
    simp (disch := first | omega | (simp only [pvl]; omega)) only [↓pvd, pv0, pv1, pv2, pv3, pv4, pv5, pv6, pv7, pvc0, pvc1, pvc2, Pv.put, bin2, int2, binB2, un1, AV.flat, pvf, rvs_1, rvs_2, szOk, notStr, setCells, AV.one, resX, layC, layA, lay, List.map, List.replicate, List.length_replicate, pvq0, pvq1, seval, reduceCtorEq, hx_get]
    refine ⟨4, ?_, by omega, by omega⟩
    rfl
  · simp (disch := first | omega | (simp only [pvl]; omega)) only [↓pvd, pv0, pv1, pv2, pv3, pv4, pv5, pv6, pv7, pvc0, pvc1, pvc2, Pv.put, bin2, int2, binB2, un1, AV.flat, pvf, rvs_1, rvs_2, szOk, notStr, setCells, AV.one, resX, layC, layA, lay, List.map, List.replicate, List.length_replicate, pvq0, pvq1, seval, reduceCtorEq, tx]
    refine awR_call (shift_run 4 (by omega) (by omega)) rfl rfl ?_
    simp (disch := first | omega | (simp only [pvl]; omega)) only [↓pvd, pv0, pv1, pv2, pv3, pv4, pv5, pv6, pv7, pvc0, pvc1, pvc2, Pv.put, bin2, int2, binB2, un1, AV.flat, pvf, rvs_1, rvs_2, szOk, notStr, setCells, AV.one, resX, layC, layA, lay, List.map, List.replicate, List.length_replicate, pvq0, pvq1, seval, reduceCtorEq, hx_get]
    refine ⟨5, ?_, by omega, by omega⟩
    rfl
  · simp (disch := first | omega | (simp only [pvl]; omega)) only [↓pvd, pv0, pv1, pv2, pv3, pv4, pv5, pv6, pv7, pvc0, pvc1, pvc2, Pv.put, bin2, int2, binB2, un1, AV.flat, pvf, rvs_1, rvs_2, szOk, notStr, setCells, AV.one, resX, layC, layA, lay, List.map, List.replicate, List.length_replicate, pvq0, pvq1, seval, reduceCtorEq, tx]
    refine awR_call (shift_run 5 (by omega) (by omega)) rfl rfl ?_
    simp (disch := first | omega | (simp only [pvl]; omega)) only [↓pvd, pv0, pv1, pv2, pv3, pv4, pv5, pv6, pv7, pvc0, pvc1, pvc2, Pv.put, bin2, int2, binB2, un1, AV.flat, pvf, rvs_1, rvs_2, szOk, notStr, setCells, AV.one, resX, layC, layA, lay, List.map, List.replicate, List.length_replicate, pvq0, pvq1, seval, reduceCtorEq, hx_get, Int.ediv_one, Int.sub_self, Int.mul_zero, Int.pow_zero]
    refine ⟨6, ?_, by omega, by omega⟩
    rfl
  · have hl : (tx m).length = 17 := rfl
    have ht : (tx m).take (3 * 6 - 1) = tx m := rfl
    rw [ht]
    generalize tx m = t at *
    simp (disch := first | omega | (simp only [pvl] at *; omega)) only [↓pvd, pv0, pv1, pv2, pv3, pv4, pv5, pv6, pv7, pvc0, pvc1, pvc2, Pv.put, bin2, int2, binB2, un1, AV.flat, pvf, rvs_1, rvs_2, szOk, notStr, setCells, AV.one, resX, layC, layA, lay, List.map, List.replicate, List.length_replicate, pvq0, pvq1, seval, reduceCtorEq]
    (refine Ends_rq [] ?_; simp (disch := first | omega | (simp only [pvl]; omega)) only [↓pvd, pv0, pv1, pv2, pv3, pv4, pv5, pv6, pv7, pvc0, pvc1, pvc2, Pv.put, bin2, int2, binB2, un1, AV.flat, pvf, rvs_1, rvs_2, szOk, notStr, setCells, AV.one, resX, layC, layA, lay, List.map, List.replicate, List.length_replicate, pvq0, pvq1, seval, reduceCtorEq]; exact ⟨_, rfl, rfl, rfl⟩)
end Mc
end Go.Proofs

set_option linter.unusedSimpArgs false
set_option linter.unusedVariables false
set_option maxHeartbeats 2000000
set_option maxRecDepth 20000
namespace Go.Proofs
namespace Mc
open Go.Pv
/-- The number of the first k pairs of digits. -/
def num (s : List UInt8) : Nat → Int
  | 0 => 0
  | k + 1 => num s k * 256 + (dg s[3 * k]! * 16 + dg s[3 * k + 1]!)
/-- They are digits, with colons between. -/
def okR (s : List UInt8) (k : Nat) : Prop := ∀ i, i < k → dg s[3 * i]! ≤ 15 ∧ dg s[3 * i + 1]! ≤ 15 ∧ (i + 1 < 6 → s[3 * i + 2]!.toNat = 58)
theorem dg_b (c : UInt8) : 0 ≤ dg c ∧ dg c ≤ 16 := by
  have := c.toNat_lt
  unfold dg; split
  · omega
  · split <;> omega
theorem num_b (s : List UInt8) (k : Nat) (h : okR s k) : 0 ≤ num s k ∧ num s k < 256 ^ k := by
  induction k with
  | zero => simp [num]
  | succ k ih =>
    have h1 := ih (fun i hi => h i (by omega))
    have h2 := h k (by omega)
    have d1 := dg_b s[3 * k]!
    have d2 := dg_b s[3 * k + 1]!
    rw [num, Int.pow_succ]
    generalize (256 : Int) ^ k = q at *
    omega
theorem num_s (s : List UInt8) (k : Nat) (hk : k < 6) (h : okR s k) : 0 ≤ num s k ∧ num s k < 1099511627776 := by
  have h1 := num_b s k h
  have : (256 : Int) ^ k ≤ 256 ^ 5 := by exact_mod_cast Nat.pow_le_pow_right (by decide) (by omega)
  omega
open Classical in
/-- What a text is read as. -/
noncomputable def rdm (s : List UInt8) : Int × Bool := if s.length = 17 ∧ okR s 6 then (num s 6, true) else (0, false)
theorem str_get {s : List UInt8} {k : Nat} (h : k < s.length) : Option.map bv (s[k]?) = some (.int .u8 (s[k]!).toNat) := by
  rw [List.getElem?_eq_getElem h, List.getElem!_eq_getElem?_getD, List.getElem?_eq_getElem h]; rfl
theorem or_u64_4 {a b : Int} (ha : 0 ≤ a) (ha' : a < 18446744073709551616) (hb : 0 ≤ b) (hb' : b < 16) (hd : a % 16 = 0) : or2 .u64 a b = a + b :=
  or2_un (j := 4) rfl ha ha' hb hb' (by decide) hd
theorem read_run (s : List UInt8) (hm : s.length ≤ maxLen) : Run Tryd.prog 55 [.str s] (.tup [.int .u64 (rdm s).1, .bool (rdm s).2]) := by
  unfold maxLen at hm
  refine Tryd.run55 (by simp) ?_
  unfold Tryd.c55
  simp (disch := first | omega | (simp only [pvl] at *; omega)) only [↓pvd, pv0, pv1, pv2, pv3, pv4, pv5, pv6, pv7, pvc0, pvc1, pvc2, Pv.put, bin2, int2, binB2, un1, AV.flat, pvf, rvs_1, rvs_2, szOk, notStr, setCells, AV.one, resX, layC, layA, lay, List.map, List.replicate, List.length_replicate, pvq0, pvq1, seval, reduceCtorEq]
  refine condP_d (fun hl => ?_) (fun hl => ?_)
  · have e : rdm s = (0, false) := by unfold rdm; rw [if_neg]; rintro ⟨h1, _⟩; omega
    rw [e]
    simp (disch := first | omega | (simp only [pvl] at *; omega)) only [↓pvd, pv0, pv1, pv2, pv3, pv4, pv5, pv6, pv7, pvc0, pvc1, pvc2, Pv.put, bin2, int2, binB2, un1, AV.flat, pvf, rvs_1, rvs_2, szOk, notStr, setCells, AV.one, resX, layC, layA, lay, List.map, List.replicate, List.length_replicate, pvq0, pvq1, seval, reduceCtorEq]
    (refine Ends_rq [] ?_; simp (disch := first | omega | (simp only [pvl]; omega)) only [↓pvd, pv0, pv1, pv2, pv3, pv4, pv5, pv6, pv7, pvc0, pvc1, pvc2, Pv.put, bin2, int2, binB2, un1, AV.flat, pvf, rvs_1, rvs_2, szOk, notStr, setCells, AV.one, resX, layC, layA, lay, List.map, List.replicate, List.length_replicate, pvq0, pvq1, seval, reduceCtorEq]; exact ⟨_, rfl, rfl, rfl⟩)
  have hl' : s.length = 17 := by omega
  simp (disch := first | omega | (simp only [pvl] at *; omega)) only [↓pvd, pv0, pv1, pv2, pv3, pv4, pv5, pv6, pv7, pvc0, pvc1, pvc2, Pv.put, bin2, int2, binB2, un1, AV.flat, pvf, rvs_1, rvs_2, szOk, notStr, setCells, AV.one, resX, layC, layA, lay, List.map, List.replicate, List.length_replicate, pvq0, pvq1, seval, reduceCtorEq]
  refine aw_loop (fun k : Nat => ⟨[(0, .str s), (4, .int .u64 (num s k)), (11, .int .i64 k)], []⟩) (fun k => k ≤ 6 ∧ okR s k) (fun k => 6 - k) 0 ?_ ⟨by omega, fun i hi => by omega⟩ ?_
  · simp (disch := first | omega | (simp only [pvl] at *; omega)) only [↓pvd, pv0, pv1, pv2, pv3, pv4, pv5, pv6, pv7, pvc0, pvc1, pvc2, Pv.put, bin2, int2, binB2, un1, AV.flat, pvf, rvs_1, rvs_2, szOk, notStr, setCells, AV.one, resX, layC, layA, lay, List.map, List.replicate, List.length_replicate, pvq0, pvq1, seval, reduceCtorEq]
    rfl
  intro k ⟨hk, hok⟩
  unfold Tryd.c55b0
  simp (disch := first | omega | (simp only [pvl] at *; omega)) only [↓pvd, pv0, pv1, pv2, pv3, pv4, pv5, pv6, pv7, pvc0, pvc1, pvc2, Pv.put, bin2, int2, binB2, un1, AV.flat, pvf, rvs_1, rvs_2, szOk, notStr, setCells, AV.one, resX, layC, layA, lay, List.map, List.replicate, List.length_replicate, pvq0, pvq1, seval, reduceCtorEq]
  refine condP_d (fun hc => ?_) (fun hc => ?_)
  · have hn := num_s s k (by omega) hok
    have d1 := dg_b s[3 * k]!
    have d2 := dg_b s[3 * k + 1]!
    have g1 := digit_run s[3 * k]!
    have g2 := digit_run s[3 * k + 1]!
    simp (disch := first | omega | (simp only [pvl]; omega)) only [↓pvd, pv0, pv1, pv2, pv3, pv4, pv5, pv6, pv7, pvc0, pvc1, pvc2, Pv.put, bin2, int2, binB2, un1, AV.flat, pvf, rvs_1, rvs_2, szOk, notStr, setCells, AV.one, resX, layC, layA, lay, List.map, List.replicate, List.length_replicate, pvq0, pvq1, seval, reduceCtorEq, str_get]
    refine awR_callD g1 rfl rfl (fun _ => rfl) ?_
    simp (disch := first | omega | (simp only [pvl] at *; omega)) only [↓pvd, pv0, pv1, pv2, pv3, pv4, pv5, pv6, pv7, pvc0, pvc1, pvc2, Pv.put, bin2, int2, binB2, un1, AV.flat, pvf, rvs_1, rvs_2, szOk, notStr, setCells, AV.one, resX, layC, layA, lay, List.map, List.replicate, List.length_replicate, pvq0, pvq1, seval, reduceCtorEq]
    refine awR_callD g2 rfl rfl (fun _ => rfl) ?_
    simp (disch := first | omega | (simp only [pvl] at *; omega)) only [↓pvd, pv0, pv1, pv2, pv3, pv4, pv5, pv6, pv7, pvc0, pvc1, pvc2, Pv.put, bin2, int2, binB2, un1, AV.flat, pvf, rvs_1, rvs_2, szOk, notStr, setCells, AV.one, resX, layC, layA, lay, List.map, List.replicate, List.length_replicate, pvq0, pvq1, seval, reduceCtorEq]
    have hno : ¬ (dg s[3 * k]! ≤ 15 ∧ dg s[3 * k + 1]! ≤ 15 ∧ (k + 1 < 6 → s[3 * k + 2]!.toNat = 58)) → rdm s = (0, false) := by
      intro hx
      unfold rdm; rw [if_neg]; rintro ⟨_, h2⟩; exact hx (h2 k (by omega))
    have hyes : (dg s[3 * k]! ≤ 15 ∧ dg s[3 * k + 1]! ≤ 15 ∧ (k + 1 < 6 → s[3 * k + 2]!.toNat = 58)) → okR s (k + 1) := by
      intro hx i hi
      by_cases h : i < k
      · exact hok i h
      · have : i = k := by omega
        subst this; exact hx
    have hns : num s (k + 1) = num s k * 256 + (dg s[3 * k]! * 16 + dg s[3 * k + 1]!) := rfl
    generalize dg s[3 * k]! = x at *
    generalize dg s[3 * k + 1]! = y at *
    generalize num s k = n at *
    generalize hn' : num s (k + 1) = n' at *
    have tk : (3 * (k : Int) + 2).toNat = 3 * k + 2 := by omega
    repeat' (first | simp (disch := first | omega | (simp only [pvl]; omega)) only [↓pvd, pv0, pv1, pv2, pv3, pv4, pv5, pv6, pv7, pvc0, pvc1, pvc2, Pv.put, bin2, int2, binB2, un1, AV.flat, pvf, rvs_1, rvs_2, szOk, notStr, setCells, AV.one, resX, layC, layA, lay, List.map, List.replicate, List.length_replicate, pvq0, pvq1, seval, reduceCtorEq, str_get, or_u64_4] | with_reducible refine condP_d (fun _ => ?_) (fun _ => ?_) | with_reducible refine guardP_d0 (fun _ => ?_) (fun _ => ?_) | with_reducible refine guardP_d1 (fun _ => ?_) (fun _ => ?_) | with_reducible refine condP_any ?_ ?_)
    all_goals simp only [tk] at *
    all_goals first
      | (rw [hno (by omega)]; (refine Ends_rq [] ?_; simp (disch := first | omega | (simp only [pvl]; omega)) only [↓pvd, pv0, pv1, pv2, pv3, pv4, pv5, pv6, pv7, pvc0, pvc1, pvc2, Pv.put, bin2, int2, binB2, un1, AV.flat, pvf, rvs_1, rvs_2, szOk, notStr, setCells, AV.one, resX, layC, layA, lay, List.map, List.replicate, List.length_replicate, pvq0, pvq1, seval, reduceCtorEq]; exact ⟨_, rfl, rfl, rfl⟩); done)
      | (refine ⟨k + 1, ?_, ⟨by omega, hyes (by omega)⟩, by omega⟩
         rw [hn', hns]
         simp only [St.mk.injEq, List.cons.injEq, Prod.mk.injEq, AV.int.injEq, and_true, true_and]
         omega)
  · have : k = 6 := by omega
    subst this
    have e : rdm s = (num s 6, true) := by unfold rdm; rw [if_pos ⟨hl', hok⟩]
    rw [e]
    simp (disch := first | omega | (simp only [pvl] at *; omega)) only [↓pvd, pv0, pv1, pv2, pv3, pv4, pv5, pv6, pv7, pvc0, pvc1, pvc2, Pv.put, bin2, int2, binB2, un1, AV.flat, pvf, rvs_1, rvs_2, szOk, notStr, setCells, AV.one, resX, layC, layA, lay, List.map, List.replicate, List.length_replicate, pvq0, pvq1, seval, reduceCtorEq]
    (refine Ends_rq [] ?_; simp (disch := first | omega | (simp only [pvl]; omega)) only [↓pvd, pv0, pv1, pv2, pv3, pv4, pv5, pv6, pv7, pvc0, pvc1, pvc2, Pv.put, bin2, int2, binB2, un1, AV.flat, pvf, rvs_1, rvs_2, szOk, notStr, setCells, AV.one, resX, layC, layA, lay, List.map, List.replicate, List.length_replicate, pvq0, pvq1, seval, reduceCtorEq]; exact ⟨_, rfl, rfl, rfl⟩)
/-! The reference's. -/
end Mc
end Go.Proofs

set_option linter.unusedSimpArgs false
set_option linter.unusedVariables false
set_option maxHeartbeats 2000000
set_option maxRecDepth 20000
namespace Go.Proofs
namespace Mc
open Go.Pv
end Mc
end Go.Proofs

set_option linter.unusedSimpArgs false
set_option linter.unusedVariables false
set_option maxHeartbeats 2000000
set_option maxRecDepth 20000
namespace Go.Proofs
namespace Nm
open Go.Pv
end Nm
end Go.Proofs

set_option linter.unusedSimpArgs false
set_option linter.unusedVariables false
set_option maxHeartbeats 2000000
set_option maxRecDepth 20000
namespace Go.Proofs
namespace Nm
open Go.Pv
end Nm
end Go.Proofs

set_option linter.unusedSimpArgs false
set_option linter.unusedVariables false
set_option maxHeartbeats 2000000
set_option maxRecDepth 20000
namespace Go.Proofs
namespace Nm
open Go.Pv
end Nm
end Go.Proofs

set_option linter.unusedSimpArgs false
set_option linter.unusedVariables false
set_option maxHeartbeats 2000000
set_option maxRecDepth 20000
namespace Go.Proofs
namespace Nm
open Go.Pv
end Nm
end Go.Proofs

set_option linter.unusedSimpArgs false
set_option linter.unusedVariables false
set_option maxHeartbeats 2000000
set_option maxRecDepth 20000
namespace Go.Proofs
namespace Nm
open Go.Pv
end Nm
end Go.Proofs

set_option linter.unusedSimpArgs false
set_option linter.unusedVariables false
set_option maxHeartbeats 2000000
set_option maxRecDepth 20000
namespace Go.Proofs
namespace Nm
open Go.Pv
end Nm
end Go.Proofs

set_option linter.unusedSimpArgs false
set_option linter.unusedVariables false
set_option maxHeartbeats 2000000
set_option maxRecDepth 20000
namespace Go.Proofs
namespace Nm
open Go.Pv
end Nm
end Go.Proofs

set_option linter.unusedSimpArgs false
set_option linter.unusedVariables false
set_option maxHeartbeats 2000000
set_option maxRecDepth 20000
namespace Go.Proofs
namespace Nm
open Go.Pv
end Nm
end Go.Proofs

set_option linter.unusedSimpArgs false
set_option linter.unusedVariables false
set_option maxHeartbeats 2000000
set_option maxRecDepth 20000
namespace Go.Proofs
namespace Nm
open Go.Pv
end Nm
end Go.Proofs

/- The library's strings.Join at this seat's program: its contract, laid. (Printed by a program of ours.) -/
namespace Go.Proofs
open Go.Shelf
def Tryd.renT (n : Nat) : Nat :=
  if n = 0 then 0 else if n = 3 then 3 else if n = 4 then 4 else if n = 5 then 5 else if n = 9 then 9 else if n = 20 then 20 else if n = 31 then 38 else if n = 37 then 26 else if n = 70 then 147 else if n = 72 then 149 else if n = 75 then 151 else if n = 76 then 152 else if n = 80 then 58 else if n = 127 then 160 else if n = 164 then 166 else 0
def Tryd.renF (n : Nat) : Nat :=
  if n = 156 then 93 else if n = 165 then 106 else if n = 166 then 107 else if n = 169 then 108 else if n = 240 then 116 else if n = 241 then 117 else if n = 276 then 120 else if n = 277 then 121 else 0
def Tryd.ren : Ren := ⟨Tryd.renF, Tryd.renT, fun n => n⟩
theorem Tryd.lays156 : Lays.n156 Tryd.prog Tryd.ren where
  mixed := Tryd.mixed
  f156 := by kernel_rfl
  f165 := by kernel_rfl
  f166 := by kernel_rfl
  f169 := by kernel_rfl
  f240 := by kernel_rfl
  f241 := by kernel_rfl
  f276 := by kernel_rfl
  f277 := by kernel_rfl
  t0 := Tryd.underlying0
  a0 := Tryd.isAgg0
  z0 := Tryd.sizeOf0
  v0 := Tryd.zeroValue0
  t3 := Tryd.underlying3
  a3 := Tryd.isAgg3
  z3 := Tryd.sizeOf3
  v3 := Tryd.zeroValue3
  t4 := Tryd.underlying4
  a4 := Tryd.isAgg4
  z4 := Tryd.sizeOf4
  v4 := Tryd.zeroValue4
  t9 := Tryd.underlying9
  a9 := Tryd.isAgg9
  z9 := Tryd.sizeOf9
  v9 := Tryd.zeroValue9
  t20 := Tryd.underlying20
  a20 := Tryd.isAgg20
  z20 := Tryd.sizeOf20
  v20 := Tryd.zeroValue20
  t31 := Tryd.underlying38
  a31 := Tryd.isAgg38
  z31 := Tryd.sizeOf38
  v31 := Tryd.zeroValue38
  t37 := Tryd.underlying26
  a37 := Tryd.isAgg26
  z37 := Tryd.sizeOf26
  v37 := Tryd.zeroValue26
  t70 := Tryd.underlying147
  a70 := Tryd.isAgg147
  z70 := Tryd.sizeOf147
  v70 := Tryd.zeroValue147
  t72 := Tryd.underlying149
  a72 := Tryd.isAgg149
  z72 := Tryd.sizeOf149
  v72 := Tryd.zeroValue149
  t75 := Tryd.underlying151
  a75 := Tryd.isAgg151
  z75 := Tryd.sizeOf151
  v75 := Tryd.zeroValue151
  t76 := Tryd.underlying152
  a76 := Tryd.isAgg152
  z76 := Tryd.sizeOf152
  v76 := Tryd.zeroValue152
  t127 := Tryd.underlying160
  a127 := Tryd.isAgg160
  z127 := Tryd.sizeOf160
  v127 := Tryd.zeroValue160
  t164 := Tryd.underlying166
  a164 := Tryd.isAgg166
  z164 := Tryd.sizeOf166
  v164 := Tryd.zeroValue166
theorem Tryd.extra156 : Builder.Extra Tryd.prog Tryd.ren where
  sizeBuilder := by kernel_rfl
  liesBuilder := by kernel_rfl
  t5 := Tryd.underlying5
  a5 := Tryd.isAgg5
  z5 := Tryd.sizeOf5
  v5 := Tryd.zeroValue5
  infoByte := by kernel_rfl
  cellsByte := by kernel_rfl
  sizeByte := by kernel_rfl
  neB5 := by decide
end Go.Proofs

/-
  The machine of plain values: the library's strings.Join, from its contract.
-/
namespace Go.Pv
set_option linter.unusedSectionVars false
variable [Lq]
open Go.RowKit
end Go.Pv

set_option linter.unusedSimpArgs false
set_option linter.unusedVariables false
set_option maxHeartbeats 2000000
set_option maxRecDepth 20000
namespace Go.Proofs
namespace Nm
open Go.Pv
end Nm
end Go.Proofs

set_option linter.unusedSimpArgs false
set_option linter.unusedVariables false
set_option maxHeartbeats 2000000
set_option maxRecDepth 20000
namespace Go.Proofs
namespace Nm
open Go.Pv
end Nm
end Go.Proofs

set_option linter.unusedSimpArgs false
set_option linter.unusedVariables false
set_option maxHeartbeats 2000000
set_option maxRecDepth 20000
namespace Go.Proofs
namespace Nm
open Go.Pv
end Nm
end Go.Proofs

set_option linter.unusedSimpArgs false
set_option linter.unusedVariables false
set_option maxHeartbeats 2000000
set_option maxRecDepth 20000
namespace Go.Proofs
open Go.Pv
theorem ent_nones (H : Hp) (n id : Nat) : ent (H ++ List.replicate n none) id = ent H id := by
  unfold ent
  rcases Nat.lt_or_ge id H.length with h | h
  · rw [List.getElem?_append_left h]
  · rw [List.getElem?_append_right h, List.getElem?_eq_none h, List.getElem?_replicate]
    split <;> rfl
theorem gen_strip {P : Program} {f : FuncId} {xs : List AV} {H H' : Hp} {r : AV} {n : Nat} (h : Gen P f xs H r (H' ++ List.replicate n none)) : Gen P f xs H r H' :=
  ⟨h.1, fun w γ args hq hh hl hs => (h.2 w γ args hq hh hl hs).mono fun e W ⟨v, γ', he, hv, hh', st, ids⟩ =>
    ⟨v, γ', he, hv, ⟨fun id hid => hh'.none id (by rw [ent_nones]; exact hid), fun id e hid => hh'.ok id e (by rw [ent_nones]; exact hid), hh'.inj, hh'.imm, hh'.stl⟩, st, ids⟩⟩
/-- A reader: its words, where it stands, what was wrong first. -/
def rdo (ws : List (List UInt8)) (f : Bool) (k : Nat) (e : Int) : Option Ent := some ⟨57, [.agg [.sl 1 (ws.map .str) f, .int .i64 k, .int .i64 e]], true⟩
def fl (e : Int) (bad : Bool) (c : Int) : Int := if bad = true ∧ e = 0 then c else e
theorem next_gen (ws : List (List UInt8)) (f : Bool) (k : Nat) (e : Int) (A : Option Ent) (T : Hp) (hk : k < ws.length) (hw : ws.length ≤ 1000) :
    Gen Tryd.prog 35 [.eptr 1 0 0] (A :: rdo ws f k e :: T) (.str ws[k]!) (A :: rdo ws f (k + 1) e :: T) := by
  have hgi : (ws.map AV.str)[k]? = some (.str ws[k]!) := map_get hk
  refine gen_strip (n := 12) (Tryd.gen35 (by simp) ?_)
  unfold Tryd.g35 rdo
  simp (disch := first | omega | (simp only [pvl]; omega)) only [↓pvd, pv0, pv1, pv2, pv3, pv4, pv5, pv6, pv7, pvc0, pvc1, pvc2, Pv.put, bin2, int2, binB2, un1, AV.flat, pvf, rvs_1, rvs_2, szOk, notStr, setCells, AV.one, resX, layC, layA, lay, List.map, List.replicate, List.length_replicate, pvq0, pvq1, seval, reduceCtorEq, hgi, List.length_map]
  rw [show ((k : Int) + 1 - 1).toNat = k by omega]
  exact ⟨rfl, by simp⟩
theorem fail_gen (ws : List (List UInt8)) (f : Bool) (k : Nat) (e c : Int) (b : Bool) (A : Option Ent) (T : Hp) :
    Gen Tryd.prog 32 [.eptr 1 0 0, .bool b, .int .i64 c] (A :: rdo ws f k e :: T) (.tup []) (A :: rdo ws f k (fl e b c) :: T) := by
  refine Tryd.gen32 (by simp) ?_
  unfold Tryd.g32 rdo fl
  cases b with
  | false =>
    simp (disch := first | omega | (simp only [pvl] at *; omega)) only [↓pvd, pv0, pv1, pv2, pv3, pv4, pv5, pv6, pv7, pvc0, pvc1, pvc2, Pv.put, bin2, int2, binB2, un1, AV.flat, pvf, rvs_1, rvs_2, szOk, notStr, setCells, AV.one, resX, layC, layA, lay, List.map, List.replicate, List.length_replicate, pvq0, pvq1, seval, reduceCtorEq]
    exact ⟨rfl, rfl⟩
  | true =>
    by_cases he : e = 0
    · subst he
      simp (disch := first | omega | (simp only [pvl] at *; omega)) only [↓pvd, pv0, pv1, pv2, pv3, pv4, pv5, pv6, pv7, pvc0, pvc1, pvc2, Pv.put, bin2, int2, binB2, un1, AV.flat, pvf, rvs_1, rvs_2, szOk, notStr, setCells, AV.one, resX, layC, layA, lay, List.map, List.replicate, List.length_replicate, pvq0, pvq1, seval, reduceCtorEq]
      exact ⟨rfl, rfl⟩
    · simp (disch := first | omega | (simp only [pvl]; omega)) only [↓pvd, pv0, pv1, pv2, pv3, pv4, pv5, pv6, pv7, pvc0, pvc1, pvc2, Pv.put, bin2, int2, binB2, un1, AV.flat, pvf, rvs_1, rvs_2, szOk, notStr, setCells, AV.one, resX, layC, layA, lay, List.map, List.replicate, List.length_replicate, pvq0, pvq1, seval, reduceCtorEq, he]
      exact ⟨rfl, rfl⟩
def nmO (s : List UInt8) : Bool := decide (Nm.nmP s)
theorem name_gen (ws : List (List UInt8)) (f : Bool) (k : Nat) (e : Int) (A : Option Ent) (T : Hp) (hk : k < ws.length) (hw : ws.length ≤ 1000) (hl : ∀ w ∈ ws, w.length ≤ 1000) :
    Gen Tryd.prog 28 [.eptr 1 0 0] (A :: rdo ws f k e :: T) (.str ws[k]!) (A :: rdo ws f (k + 1) (fl e (!nmO ws[k]!) 20) :: T) := by
  have hwl : ws[k]!.length ≤ 1000 := hl _ (by rw [getElem!_pos ws k hk]; exact List.getElem_mem hk)
  have q : Run Tryd.prog 46 [.str ws[k]!] (.bool (nmO ws[k]!)) := Nm.name_run ws[k]! (by omega)
  generalize nmO ws[k]! = b at *
  refine Tryd.gen28 (by simp) ?_
  unfold Tryd.g28
  simp (disch := first | omega | (simp only [pvl] at *; omega)) only [↓pvd, pv0, pv1, pv2, pv3, pv4, pv5, pv6, pv7, pvc0, pvc1, pvc2, Pv.put, bin2, int2, binB2, un1, AV.flat, pvf, rvs_1, rvs_2, szOk, notStr, setCells, AV.one, resX, layC, layA, lay, List.map, List.replicate, List.length_replicate, pvq0, pvq1, seval, reduceCtorEq]
  refine awR_callG (next_gen ws f k e A T hk hw) ?_
  simp (disch := first | omega | (simp only [pvl] at *; omega)) only [↓pvd, pv0, pv1, pv2, pv3, pv4, pv5, pv6, pv7, pvc0, pvc1, pvc2, Pv.put, bin2, int2, binB2, un1, AV.flat, pvf, rvs_1, rvs_2, szOk, notStr, setCells, AV.one, resX, layC, layA, lay, List.map, List.replicate, List.length_replicate, pvq0, pvq1, seval, reduceCtorEq]
  refine awR_call q rfl rfl ?_
  simp (disch := first | omega | (simp only [pvl] at *; omega)) only [↓pvd, pv0, pv1, pv2, pv3, pv4, pv5, pv6, pv7, pvc0, pvc1, pvc2, Pv.put, bin2, int2, binB2, un1, AV.flat, pvf, rvs_1, rvs_2, szOk, notStr, setCells, AV.one, resX, layC, layA, lay, List.map, List.replicate, List.length_replicate, pvq0, pvq1, seval, reduceCtorEq]
  refine awR_callG (fail_gen ws f (k + 1) e 20 (!b) A T) ?_
  simp (disch := first | omega | (simp only [pvl] at *; omega)) only [↓pvd, pv0, pv1, pv2, pv3, pv4, pv5, pv6, pv7, pvc0, pvc1, pvc2, Pv.put, bin2, int2, binB2, un1, AV.flat, pvf, rvs_1, rvs_2, szOk, notStr, setCells, AV.one, resX, layC, layA, lay, List.map, List.replicate, List.length_replicate, pvq0, pvq1, seval, reduceCtorEq]
  exact ⟨rfl, rfl⟩
theorem number_gen (ws : List (List UInt8)) (f : Bool) (k : Nat) (e a b : Int) (A : Option Ent) (T : Hp) (hk : k < ws.length) (hw : ws.length ≤ 1000) (hl : ∀ w ∈ ws, w.length ≤ 1000) :
    Gen Tryd.prog 30 [.eptr 1 0 0, .int .i64 a, .int .i64 b] (A :: rdo ws f k e :: T) (.int .i64 (Nm.rdF ws[k]! a b).1) (A :: rdo ws f (k + 1) (fl e (!(Nm.rdF ws[k]! a b).2) 21) :: T) := by
  have hwl : ws[k]!.length ≤ 1000 := hl _ (by rw [getElem!_pos ws k hk]; exact List.getElem_mem hk)
  have q := Nm.read_run ws[k]! a b (by omega)
  unfold Nm.rdR at q
  generalize (Nm.rdF ws[k]! a b).1 = n at *
  generalize (Nm.rdF ws[k]! a b).2 = ok at *
  refine Tryd.gen30 (by simp) ?_
  unfold Tryd.g30
  simp (disch := first | omega | (simp only [pvl] at *; omega)) only [↓pvd, pv0, pv1, pv2, pv3, pv4, pv5, pv6, pv7, pvc0, pvc1, pvc2, Pv.put, bin2, int2, binB2, un1, AV.flat, pvf, rvs_1, rvs_2, szOk, notStr, setCells, AV.one, resX, layC, layA, lay, List.map, List.replicate, List.length_replicate, pvq0, pvq1, seval, reduceCtorEq]
  refine awR_callG (next_gen ws f k e A T hk hw) ?_
  simp (disch := first | omega | (simp only [pvl] at *; omega)) only [↓pvd, pv0, pv1, pv2, pv3, pv4, pv5, pv6, pv7, pvc0, pvc1, pvc2, Pv.put, bin2, int2, binB2, un1, AV.flat, pvf, rvs_1, rvs_2, szOk, notStr, setCells, AV.one, resX, layC, layA, lay, List.map, List.replicate, List.length_replicate, pvq0, pvq1, seval, reduceCtorEq]
  refine awR_call q rfl rfl ?_
  simp (disch := first | omega | (simp only [pvl] at *; omega)) only [↓pvd, pv0, pv1, pv2, pv3, pv4, pv5, pv6, pv7, pvc0, pvc1, pvc2, Pv.put, bin2, int2, binB2, un1, AV.flat, pvf, rvs_1, rvs_2, szOk, notStr, setCells, AV.one, resX, layC, layA, lay, List.map, List.replicate, List.length_replicate, pvq0, pvq1, seval, reduceCtorEq]
  refine awR_callG (fail_gen ws f (k + 1) e 21 (!ok) A T) ?_
  simp (disch := first | omega | (simp only [pvl] at *; omega)) only [↓pvd, pv0, pv1, pv2, pv3, pv4, pv5, pv6, pv7, pvc0, pvc1, pvc2, Pv.put, bin2, int2, binB2, un1, AV.flat, pvf, rvs_1, rvs_2, szOk, notStr, setCells, AV.one, resX, layC, layA, lay, List.map, List.replicate, List.length_replicate, pvq0, pvq1, seval, reduceCtorEq]
  exact ⟨rfl, rfl⟩
theorem vlan_gen (ws : List (List UInt8)) (f : Bool) (k : Nat) (e : Int) (A : Option Ent) (T : Hp) (hk : k < ws.length) (hw : ws.length ≤ 1000) (hl : ∀ w ∈ ws, w.length ≤ 1000) :
    Gen Tryd.prog 29 [.eptr 1 0 0] (A :: rdo ws f k e :: T) (.int .i64 (Nm.rdF ws[k]! 1 4094).1) (A :: rdo ws f (k + 1) (fl e (!(Nm.rdF ws[k]! 1 4094).2) 21) :: T) := by
  refine Tryd.gen29 (by simp) ?_
  unfold Tryd.g29
  simp (disch := first | omega | (simp only [pvl] at *; omega)) only [↓pvd, pv0, pv1, pv2, pv3, pv4, pv5, pv6, pv7, pvc0, pvc1, pvc2, Pv.put, bin2, int2, binB2, un1, AV.flat, pvf, rvs_1, rvs_2, szOk, notStr, setCells, AV.one, resX, layC, layA, lay, List.map, List.replicate, List.length_replicate, pvq0, pvq1, seval, reduceCtorEq]
  refine awR_callG (number_gen ws f k e 1 4094 A T hk hw hl) ?_
  simp (disch := first | omega | (simp only [pvl] at *; omega)) only [↓pvd, pv0, pv1, pv2, pv3, pv4, pv5, pv6, pv7, pvc0, pvc1, pvc2, Pv.put, bin2, int2, binB2, un1, AV.flat, pvf, rvs_1, rvs_2, szOk, notStr, setCells, AV.one, resX, layC, layA, lay, List.map, List.replicate, List.length_replicate, pvq0, pvq1, seval, reduceCtorEq]
  exact ⟨rfl, rfl⟩
theorem vni_gen (ws : List (List UInt8)) (f : Bool) (k : Nat) (e : Int) (A : Option Ent) (T : Hp) (hk : k < ws.length) (hw : ws.length ≤ 1000) (hl : ∀ w ∈ ws, w.length ≤ 1000) :
    Gen Tryd.prog 36 [.eptr 1 0 0] (A :: rdo ws f k e :: T) (.int .i64 (Nm.rdF ws[k]! 1 16777215).1) (A :: rdo ws f (k + 1) (fl e (!(Nm.rdF ws[k]! 1 16777215).2) 21) :: T) := by
  refine Tryd.gen36 (by simp) ?_
  unfold Tryd.g36
  simp (disch := first | omega | (simp only [pvl] at *; omega)) only [↓pvd, pv0, pv1, pv2, pv3, pv4, pv5, pv6, pv7, pvc0, pvc1, pvc2, Pv.put, bin2, int2, binB2, un1, AV.flat, pvf, rvs_1, rvs_2, szOk, notStr, setCells, AV.one, resX, layC, layA, lay, List.map, List.replicate, List.length_replicate, pvq0, pvq1, seval, reduceCtorEq]
  refine awR_callG (number_gen ws f k e 1 16777215 A T hk hw hl) ?_
  simp (disch := first | omega | (simp only [pvl] at *; omega)) only [↓pvd, pv0, pv1, pv2, pv3, pv4, pv5, pv6, pv7, pvc0, pvc1, pvc2, Pv.put, bin2, int2, binB2, un1, AV.flat, pvf, rvs_1, rvs_2, szOk, notStr, setCells, AV.one, resX, layC, layA, lay, List.map, List.replicate, List.length_replicate, pvq0, pvq1, seval, reduceCtorEq]
  exact ⟨rfl, rfl⟩
/-- May an address be a device's, or a station's? -/
def stn (m : Int) : Bool := decide (m ≤ 281474976710655) && (!(Mc.ish m).2 && !decide (m / 1099511627776 % 2 = 1))
theorem station_run (m : Int) (h : 0 ≤ m) (h' : m < 18446744073709551616) : Run Tryd.prog 56 [.int .u64 m] (.bool (stn m)) := by
  have q1 := Mc.ishost_run m h h'
  have q2 := Mc.group_run m h h'
  refine Tryd.run56 (by simp) ?_
  unfold Tryd.c56 stn
  generalize (Mc.ish m).1 = x at *
  generalize (Mc.ish m).2 = b at *
  generalize decide (m / 1099511627776 % 2 = 1) = g at *
  by_cases hm : m ≤ 281474976710655
  · rw [decide_eq_true hm]
    cases b
    · repeat' (first | (simp (disch := first | omega | (simp only [pvl]; omega)) only [↓pvd, pv0, pv1, pv2, pv3, pv4, pv5, pv6, pv7, pvc0, pvc1, pvc2, Pv.put, bin2, int2, binB2, un1, AV.flat, pvf, rvs_1, rvs_2, szOk, notStr, setCells, AV.one, resX, layC, layA, lay, List.map, List.replicate, List.length_replicate, pvq0, pvq1, seval, reduceCtorEq, still]) | with_reducible refine condP_d (fun _ => ?_) (fun _ => ?_) | with_reducible refine guardP_d0 (fun _ => ?_) (fun _ => ?_) | with_reducible refine guardP_d1 (fun _ => ?_) (fun _ => ?_) | with_reducible refine condP_any ?_ ?_ | refine awR_call q1 rfl rfl ?_ | refine awR_callD q1 rfl rfl (fun _ => rfl) ?_ | refine awR_call q2 rfl rfl ?_ | refine awR_callD q2 rfl rfl (fun _ => rfl) ?_ | (refine Ends_rq [] ?_; simp (disch := first | omega | (simp only [pvl]; omega)) only [↓pvd, pv0, pv1, pv2, pv3, pv4, pv5, pv6, pv7, pvc0, pvc1, pvc2, Pv.put, bin2, int2, binB2, un1, AV.flat, pvf, rvs_1, rvs_2, szOk, notStr, setCells, AV.one, resX, layC, layA, lay, List.map, List.replicate, List.length_replicate, pvq0, pvq1, seval, reduceCtorEq]; exact ⟨_, rfl, rfl, rfl⟩))
    · repeat' (first | (simp (disch := first | omega | (simp only [pvl]; omega)) only [↓pvd, pv0, pv1, pv2, pv3, pv4, pv5, pv6, pv7, pvc0, pvc1, pvc2, Pv.put, bin2, int2, binB2, un1, AV.flat, pvf, rvs_1, rvs_2, szOk, notStr, setCells, AV.one, resX, layC, layA, lay, List.map, List.replicate, List.length_replicate, pvq0, pvq1, seval, reduceCtorEq, still]) | with_reducible refine condP_d (fun _ => ?_) (fun _ => ?_) | with_reducible refine guardP_d0 (fun _ => ?_) (fun _ => ?_) | with_reducible refine guardP_d1 (fun _ => ?_) (fun _ => ?_) | with_reducible refine condP_any ?_ ?_ | refine awR_call q1 rfl rfl ?_ | refine awR_callD q1 rfl rfl (fun _ => rfl) ?_ | refine awR_call q2 rfl rfl ?_ | refine awR_callD q2 rfl rfl (fun _ => rfl) ?_ | (refine Ends_rq [] ?_; simp (disch := first | omega | (simp only [pvl]; omega)) only [↓pvd, pv0, pv1, pv2, pv3, pv4, pv5, pv6, pv7, pvc0, pvc1, pvc2, Pv.put, bin2, int2, binB2, un1, AV.flat, pvf, rvs_1, rvs_2, szOk, notStr, setCells, AV.one, resX, layC, layA, lay, List.map, List.replicate, List.length_replicate, pvq0, pvq1, seval, reduceCtorEq]; exact ⟨_, rfl, rfl, rfl⟩))
  · rw [decide_eq_false hm]
    repeat' (first | (simp (disch := first | omega | (simp only [pvl]; omega)) only [↓pvd, pv0, pv1, pv2, pv3, pv4, pv5, pv6, pv7, pvc0, pvc1, pvc2, Pv.put, bin2, int2, binB2, un1, AV.flat, pvf, rvs_1, rvs_2, szOk, notStr, setCells, AV.one, resX, layC, layA, lay, List.map, List.replicate, List.length_replicate, pvq0, pvq1, seval, reduceCtorEq, still]) | with_reducible refine condP_d (fun _ => ?_) (fun _ => ?_) | with_reducible refine guardP_d0 (fun _ => ?_) (fun _ => ?_) | with_reducible refine guardP_d1 (fun _ => ?_) (fun _ => ?_) | with_reducible refine condP_any ?_ ?_ | refine awR_call q1 rfl rfl ?_ | refine awR_callD q1 rfl rfl (fun _ => rfl) ?_ | refine awR_call q2 rfl rfl ?_ | refine awR_callD q2 rfl rfl (fun _ => rfl) ?_ | (refine Ends_rq [] ?_; simp (disch := first | omega | (simp only [pvl]; omega)) only [↓pvd, pv0, pv1, pv2, pv3, pv4, pv5, pv6, pv7, pvc0, pvc1, pvc2, Pv.put, bin2, int2, binB2, un1, AV.flat, pvf, rvs_1, rvs_2, szOk, notStr, setCells, AV.one, resX, layC, layA, lay, List.map, List.replicate, List.length_replicate, pvq0, pvq1, seval, reduceCtorEq]; exact ⟨_, rfl, rfl, rfl⟩))
theorem rdm_b (s : List UInt8) : 0 ≤ (Mc.rdm s).1 ∧ (Mc.rdm s).1 < 18446744073709551616 := by
  unfold Mc.rdm
  split
  · rename_i h
    have := Mc.num_b s 6 h.2
    simp only
    omega
  · simp
theorem mac_gen (ws : List (List UInt8)) (f : Bool) (k : Nat) (e : Int) (A : Option Ent) (T : Hp) (hk : k < ws.length) (hw : ws.length ≤ 1000) (hl : ∀ w ∈ ws, w.length ≤ 1000) :
    Gen Tryd.prog 31 [.eptr 1 0 0] (A :: rdo ws f k e :: T) (.int .u64 (Mc.rdm ws[k]!).1) (A :: rdo ws f (k + 1) (fl e (!((Mc.rdm ws[k]!).2 && stn (Mc.rdm ws[k]!).1)) 21) :: T) := by
  have hwl : ws[k]!.length ≤ 1000 := hl _ (by rw [getElem!_pos ws k hk]; exact List.getElem_mem hk)
  have q := Mc.read_run ws[k]! (by simp only [maxLen]; omega)
  have hb := rdm_b ws[k]!
  have q2 := station_run (Mc.rdm ws[k]!).1 hb.1 hb.2
  refine Tryd.gen31 (by simp) ?_
  unfold Tryd.g31
  generalize (Mc.rdm ws[k]!).1 = m at *
  generalize (Mc.rdm ws[k]!).2 = ok at *
  generalize stn m = st at *
  simp (disch := first | omega | (simp only [pvl] at *; omega)) only [↓pvd, pv0, pv1, pv2, pv3, pv4, pv5, pv6, pv7, pvc0, pvc1, pvc2, Pv.put, bin2, int2, binB2, un1, AV.flat, pvf, rvs_1, rvs_2, szOk, notStr, setCells, AV.one, resX, layC, layA, lay, List.map, List.replicate, List.length_replicate, pvq0, pvq1, seval, reduceCtorEq]
  refine awR_callG (next_gen ws f k e A T hk hw) ?_
  simp (disch := first | omega | (simp only [pvl] at *; omega)) only [↓pvd, pv0, pv1, pv2, pv3, pv4, pv5, pv6, pv7, pvc0, pvc1, pvc2, Pv.put, bin2, int2, binB2, un1, AV.flat, pvf, rvs_1, rvs_2, szOk, notStr, setCells, AV.one, resX, layC, layA, lay, List.map, List.replicate, List.length_replicate, pvq0, pvq1, seval, reduceCtorEq]
  refine awR_call q rfl rfl ?_
  cases ok with
  | false =>
    simp (disch := first | omega | (simp only [pvl] at *; omega)) only [↓pvd, pv0, pv1, pv2, pv3, pv4, pv5, pv6, pv7, pvc0, pvc1, pvc2, Pv.put, bin2, int2, binB2, un1, AV.flat, pvf, rvs_1, rvs_2, szOk, notStr, setCells, AV.one, resX, layC, layA, lay, List.map, List.replicate, List.length_replicate, pvq0, pvq1, seval, reduceCtorEq]
    refine awR_callG (fail_gen ws f (k + 1) e 21 true A T) ?_
    simp (disch := first | omega | (simp only [pvl] at *; omega)) only [↓pvd, pv0, pv1, pv2, pv3, pv4, pv5, pv6, pv7, pvc0, pvc1, pvc2, Pv.put, bin2, int2, binB2, un1, AV.flat, pvf, rvs_1, rvs_2, szOk, notStr, setCells, AV.one, resX, layC, layA, lay, List.map, List.replicate, List.length_replicate, pvq0, pvq1, seval, reduceCtorEq]
    exact ⟨rfl, rfl⟩
  | true =>
    simp (disch := first | omega | (simp only [pvl] at *; omega)) only [↓pvd, pv0, pv1, pv2, pv3, pv4, pv5, pv6, pv7, pvc0, pvc1, pvc2, Pv.put, bin2, int2, binB2, un1, AV.flat, pvf, rvs_1, rvs_2, szOk, notStr, setCells, AV.one, resX, layC, layA, lay, List.map, List.replicate, List.length_replicate, pvq0, pvq1, seval, reduceCtorEq]
    refine awR_call q2 rfl rfl ?_
    simp (disch := first | omega | (simp only [pvl] at *; omega)) only [↓pvd, pv0, pv1, pv2, pv3, pv4, pv5, pv6, pv7, pvc0, pvc1, pvc2, Pv.put, bin2, int2, binB2, un1, AV.flat, pvf, rvs_1, rvs_2, szOk, notStr, setCells, AV.one, resX, layC, layA, lay, List.map, List.replicate, List.length_replicate, pvq0, pvq1, seval, reduceCtorEq]
    refine awR_callG (fail_gen ws f (k + 1) e 21 (!st) A T) ?_
    simp (disch := first | omega | (simp only [pvl] at *; omega)) only [↓pvd, pv0, pv1, pv2, pv3, pv4, pv5, pv6, pv7, pvc0, pvc1, pvc2, Pv.put, bin2, int2, binB2, un1, AV.flat, pvf, rvs_1, rvs_2, szOk, notStr, setCells, AV.one, resX, layC, layA, lay, List.map, List.replicate, List.length_replicate, pvq0, pvq1, seval, reduceCtorEq]
    exact ⟨rfl, rfl⟩
end Go.Proofs

set_option linter.unusedSimpArgs false
set_option linter.unusedVariables false
set_option maxHeartbeats 2000000
set_option maxRecDepth 20000
namespace Go.Proofs
open Go.Pv
/-- Where a number stands first. -/
def idF (v : Int) : List Int → Nat → Int
  | [], _ => -1
  | x :: r, k => if v = x then k else idF v r (k + 1)
theorem idF_mem (v : Int) : ∀ (l : List Int) (k : Nat), decide (0 ≤ idF v l k) = decide (v ∈ l)
  | [], k => by simp [idF]
  | x :: r, k => by
    rw [idF]
    by_cases h : v = x
    · rw [if_pos h]; simp [h]
    · rw [if_neg h, idF_mem v r (k + 1)]; simp [h]
theorem index_run (l : List Int) (v : Int) (n : Nat) (f : Bool) (hn : l = [] ∨ n = 1) (hl : l.length ≤ 100000) : Run Tryd.prog 98 [.sl n (l.map (.int .i64)) f, .int .i64 v] (.int .i64 (idF v l 0)) := by
  refine Tryd.run98 (by simp) ?_
  unfold Tryd.c98
  simp (disch := first | omega | (simp only [pvl]; omega)) only [↓pvd, pv0, pv1, pv2, pv3, pv4, pv5, pv6, pv7, pvc0, pvc1, pvc2, Pv.put, bin2, int2, binB2, un1, AV.flat, pvf, rvs_1, rvs_2, szOk, notStr, setCells, AV.one, resX, layC, layA, lay, List.map, List.replicate, List.length_replicate, pvq0, pvq1, seval, reduceCtorEq, List.length_map]
  refine aw_loop (fun k : Nat => ⟨[(0, .sl n (l.map (.int .i64)) f), (1, .int .i64 v), (7, .int .i64 l.length), (8, .int .i64 k)], []⟩) (fun k => k ≤ l.length ∧ idF v l 0 = idF v (l.drop k) k) (fun k => l.length - k) 0 ?_ ⟨by omega, by simp⟩ ?_
  · simp (disch := first | omega | (simp only [pvl] at *; omega)) only [↓pvd, pv0, pv1, pv2, pv3, pv4, pv5, pv6, pv7, pvc0, pvc1, pvc2, Pv.put, bin2, int2, binB2, un1, AV.flat, pvf, rvs_1, rvs_2, szOk, notStr, setCells, AV.one, resX, layC, layA, lay, List.map, List.replicate, List.length_replicate, pvq0, pvq1, seval, reduceCtorEq]
    try rfl
  rintro k ⟨hk, hi⟩
  unfold Tryd.c98b0
  by_cases hx : k < l.length
  · obtain rfl : n = 1 := hn.resolve_left (by rintro rfl; simp at hx)
    have hgi : (l.map (AV.int .i64))[k]? = some (.int .i64 l[k]!) := map_get hx
    have hd : l.drop k = l[k]! :: l.drop (k + 1) := by rw [getElem!_pos l k hx]; exact List.drop_eq_getElem_cons hx
    rw [hd, idF] at hi
    by_cases h : v = l[k]!
    · rw [if_pos h] at hi
      rw [hi]
      repeat' (first | (simp (disch := first | omega | (simp only [pvl]; omega)) only [↓pvd, pv0, pv1, pv2, pv3, pv4, pv5, pv6, pv7, pvc0, pvc1, pvc2, Pv.put, bin2, int2, binB2, un1, AV.flat, pvf, rvs_1, rvs_2, szOk, notStr, setCells, AV.one, resX, layC, layA, lay, List.map, List.replicate, List.length_replicate, pvq0, pvq1, seval, reduceCtorEq, hgi, List.length_map, still]) | with_reducible refine condP_d (fun _ => ?_) (fun _ => ?_) | with_reducible refine guardP_d0 (fun _ => ?_) (fun _ => ?_) | with_reducible refine guardP_d1 (fun _ => ?_) (fun _ => ?_) | with_reducible refine condP_any ?_ ?_ | (refine Ends_rq [] ?_; simp (disch := first | omega | (simp only [pvl]; omega)) only [↓pvd, pv0, pv1, pv2, pv3, pv4, pv5, pv6, pv7, pvc0, pvc1, pvc2, Pv.put, bin2, int2, binB2, un1, AV.flat, pvf, rvs_1, rvs_2, szOk, notStr, setCells, AV.one, resX, layC, layA, lay, List.map, List.replicate, List.length_replicate, pvq0, pvq1, seval, reduceCtorEq]; exact ⟨_, rfl, rfl, rfl⟩))
    · rw [if_neg h] at hi
      repeat' (first | (simp (disch := first | omega | (simp only [pvl]; omega)) only [↓pvd, pv0, pv1, pv2, pv3, pv4, pv5, pv6, pv7, pvc0, pvc1, pvc2, Pv.put, bin2, int2, binB2, un1, AV.flat, pvf, rvs_1, rvs_2, szOk, notStr, setCells, AV.one, resX, layC, layA, lay, List.map, List.replicate, List.length_replicate, pvq0, pvq1, seval, reduceCtorEq, hgi, List.length_map, still]) | with_reducible refine condP_d (fun _ => ?_) (fun _ => ?_) | with_reducible refine guardP_d0 (fun _ => ?_) (fun _ => ?_) | with_reducible refine guardP_d1 (fun _ => ?_) (fun _ => ?_) | with_reducible refine condP_any ?_ ?_ | (refine Ends_rq [] ?_; simp (disch := first | omega | (simp only [pvl]; omega)) only [↓pvd, pv0, pv1, pv2, pv3, pv4, pv5, pv6, pv7, pvc0, pvc1, pvc2, Pv.put, bin2, int2, binB2, un1, AV.flat, pvf, rvs_1, rvs_2, szOk, notStr, setCells, AV.one, resX, layC, layA, lay, List.map, List.replicate, List.length_replicate, pvq0, pvq1, seval, reduceCtorEq]; exact ⟨_, rfl, rfl, rfl⟩))
      exact ⟨k + 1, rfl, ⟨hx, hi⟩, by omega⟩
  · have e : k = l.length := by omega
    rw [e, List.drop_length, idF] at hi
    rw [hi]
    repeat' (first | (simp (disch := first | omega | (simp only [pvl]; omega)) only [↓pvd, pv0, pv1, pv2, pv3, pv4, pv5, pv6, pv7, pvc0, pvc1, pvc2, Pv.put, bin2, int2, binB2, un1, AV.flat, pvf, rvs_1, rvs_2, szOk, notStr, setCells, AV.one, resX, layC, layA, lay, List.map, List.replicate, List.length_replicate, pvq0, pvq1, seval, reduceCtorEq, List.length_map, still]) | with_reducible refine condP_d (fun _ => ?_) (fun _ => ?_) | with_reducible refine guardP_d0 (fun _ => ?_) (fun _ => ?_) | with_reducible refine guardP_d1 (fun _ => ?_) (fun _ => ?_) | with_reducible refine condP_any ?_ ?_ | (refine Ends_rq [] ?_; simp (disch := first | omega | (simp only [pvl]; omega)) only [↓pvd, pv0, pv1, pv2, pv3, pv4, pv5, pv6, pv7, pvc0, pvc1, pvc2, Pv.put, bin2, int2, binB2, un1, AV.flat, pvf, rvs_1, rvs_2, szOk, notStr, setCells, AV.one, resX, layC, layA, lay, List.map, List.replicate, List.length_replicate, pvq0, pvq1, seval, reduceCtorEq]; exact ⟨_, rfl, rfl, rfl⟩))
theorem contains_run (l : List Int) (v : Int) (n : Nat) (f : Bool) (hn : l = [] ∨ n = 1) (hl : l.length ≤ 100000) : Run Tryd.prog 79 [.sl n (l.map (.int .i64)) f, .int .i64 v] (.bool (decide (v ∈ l))) := by
  have q := index_run l v n f hn hl
  refine Tryd.run79 (by simp) ?_
  unfold Tryd.c79
  rw [← idF_mem v l 0]
  generalize idF v l 0 = i at *
  generalize l.map (AV.int .i64) = es at *
  simp (disch := first | omega | (simp only [pvl] at *; omega)) only [↓pvd, pv0, pv1, pv2, pv3, pv4, pv5, pv6, pv7, pvc0, pvc1, pvc2, Pv.put, bin2, int2, binB2, un1, AV.flat, pvf, rvs_1, rvs_2, szOk, notStr, setCells, AV.one, resX, layC, layA, lay, List.map, List.replicate, List.length_replicate, pvq0, pvq1, seval, reduceCtorEq]
  refine awR_call q rfl rfl ?_
  simp (disch := first | omega | (simp only [pvl] at *; omega)) only [↓pvd, pv0, pv1, pv2, pv3, pv4, pv5, pv6, pv7, pvc0, pvc1, pvc2, Pv.put, bin2, int2, binB2, un1, AV.flat, pvf, rvs_1, rvs_2, szOk, notStr, setCells, AV.one, resX, layC, layA, lay, List.map, List.replicate, List.length_replicate, pvq0, pvq1, seval, reduceCtorEq]
  (refine Ends_rq [] ?_; simp (disch := first | omega | (simp only [pvl]; omega)) only [↓pvd, pv0, pv1, pv2, pv3, pv4, pv5, pv6, pv7, pvc0, pvc1, pvc2, Pv.put, bin2, int2, binB2, un1, AV.flat, pvf, rvs_1, rvs_2, szOk, notStr, setCells, AV.one, resX, layC, layA, lay, List.map, List.replicate, List.length_replicate, pvq0, pvq1, seval, reduceCtorEq]; exact ⟨_, rfl, rfl, rfl⟩)
/-- A line, but for its lists. -/
structure Ln where
  row : Int
  kind : Int
  dev : List UInt8
  port : List UInt8
  peer : List UInt8
  far : List UInt8
  name : List UInt8
  mac : Int
  addr : Int
  bits : Int
  vlan : Int
  num : Int
  cost : Int
deriving DecidableEq
def lnA (l : Ln) (t im ex ad : AV) : AV := .agg [.int .i64 l.row, .int .i64 l.kind, .str l.dev, .str l.port, .str l.peer, .str l.far, .str l.name, .int .u64 l.mac, .int .u32 l.addr, .int .i64 l.bits, .int .i64 l.vlan, .int .i64 l.num, .int .i64 l.cost, t, im, ex, ad]
def lnZ : Ln := ⟨0, 0, [], [], [], [], [], 0, 0, 0, 0, 0, 0⟩
def nilA : AV := .sl 0 [] true
/-- May a port's VLANs be? -/
def mbF (v : Int) (tg : List Int) : Bool := decide (0 < v ∨ 0 < tg.length) && !decide (v ∈ tg)
theorem members_run (l : Ln) (tg : List Int) (n : Nat) (f : Bool) (im ex ad : List AV) (a b c : Nat) (p q r : Bool) (hn : tg = [] ∨ n = 1) (hl : tg.length ≤ 100000) :
    Run Tryd.prog 57 [lnA l (.sl n (tg.map (.int .i64)) f) (.sl a im p) (.sl b ex q) (.sl c ad r)] (.bool (mbF l.vlan tg)) := by
  have q := contains_run tg l.vlan n f hn hl
  refine Tryd.run57 (by simp) ?_
  unfold Tryd.c57 lnA mbF
  generalize decide (l.vlan ∈ tg) = ct at *
  have htl : (tg.map (AV.int .i64)).length = tg.length := by simp
  generalize tg.map (AV.int .i64) = es at *
  by_cases h1 : 0 < l.vlan
  · rw [decide_eq_true (.inl h1)]
    repeat' (first | (simp (disch := first | omega | (simp only [pvl]; omega)) only [↓pvd, pv0, pv1, pv2, pv3, pv4, pv5, pv6, pv7, pvc0, pvc1, pvc2, Pv.put, bin2, int2, binB2, un1, AV.flat, pvf, rvs_1, rvs_2, szOk, notStr, setCells, AV.one, resX, layC, layA, lay, List.map, List.replicate, List.length_replicate, pvq0, pvq1, seval, reduceCtorEq, htl, still]) | with_reducible refine condP_d (fun _ => ?_) (fun _ => ?_) | with_reducible refine guardP_d0 (fun _ => ?_) (fun _ => ?_) | with_reducible refine guardP_d1 (fun _ => ?_) (fun _ => ?_) | with_reducible refine condP_any ?_ ?_ | refine awR_call q rfl rfl ?_ | refine awR_callD q rfl rfl (fun _ => rfl) ?_ | (refine Ends_rq [] ?_; simp (disch := first | omega | (simp only [pvl]; omega)) only [↓pvd, pv0, pv1, pv2, pv3, pv4, pv5, pv6, pv7, pvc0, pvc1, pvc2, Pv.put, bin2, int2, binB2, un1, AV.flat, pvf, rvs_1, rvs_2, szOk, notStr, setCells, AV.one, resX, layC, layA, lay, List.map, List.replicate, List.length_replicate, pvq0, pvq1, seval, reduceCtorEq]; exact ⟨_, rfl, rfl, rfl⟩))
  · by_cases h2 : 0 < tg.length
    · rw [decide_eq_true (.inr h2)]
      repeat' (first | (simp (disch := first | omega | (simp only [pvl]; omega)) only [↓pvd, pv0, pv1, pv2, pv3, pv4, pv5, pv6, pv7, pvc0, pvc1, pvc2, Pv.put, bin2, int2, binB2, un1, AV.flat, pvf, rvs_1, rvs_2, szOk, notStr, setCells, AV.one, resX, layC, layA, lay, List.map, List.replicate, List.length_replicate, pvq0, pvq1, seval, reduceCtorEq, htl, still]) | with_reducible refine condP_d (fun _ => ?_) (fun _ => ?_) | with_reducible refine guardP_d0 (fun _ => ?_) (fun _ => ?_) | with_reducible refine guardP_d1 (fun _ => ?_) (fun _ => ?_) | with_reducible refine condP_any ?_ ?_ | refine awR_call q rfl rfl ?_ | refine awR_callD q rfl rfl (fun _ => rfl) ?_ | (refine Ends_rq [] ?_; simp (disch := first | omega | (simp only [pvl]; omega)) only [↓pvd, pv0, pv1, pv2, pv3, pv4, pv5, pv6, pv7, pvc0, pvc1, pvc2, Pv.put, bin2, int2, binB2, un1, AV.flat, pvf, rvs_1, rvs_2, szOk, notStr, setCells, AV.one, resX, layC, layA, lay, List.map, List.replicate, List.length_replicate, pvq0, pvq1, seval, reduceCtorEq]; exact ⟨_, rfl, rfl, rfl⟩))
    · rw [decide_eq_false (fun h => h.elim h1 h2)]
      repeat' (first | (simp (disch := first | omega | (simp only [pvl]; omega)) only [↓pvd, pv0, pv1, pv2, pv3, pv4, pv5, pv6, pv7, pvc0, pvc1, pvc2, Pv.put, bin2, int2, binB2, un1, AV.flat, pvf, rvs_1, rvs_2, szOk, notStr, setCells, AV.one, resX, layC, layA, lay, List.map, List.replicate, List.length_replicate, pvq0, pvq1, seval, reduceCtorEq, htl, still]) | with_reducible refine condP_d (fun _ => ?_) (fun _ => ?_) | with_reducible refine guardP_d0 (fun _ => ?_) (fun _ => ?_) | with_reducible refine guardP_d1 (fun _ => ?_) (fun _ => ?_) | with_reducible refine condP_any ?_ ?_ | refine awR_call q rfl rfl ?_ | refine awR_callD q rfl rfl (fun _ => rfl) ?_ | (refine Ends_rq [] ?_; simp (disch := first | omega | (simp only [pvl]; omega)) only [↓pvd, pv0, pv1, pv2, pv3, pv4, pv5, pv6, pv7, pvc0, pvc1, pvc2, Pv.put, bin2, int2, binB2, un1, AV.flat, pvf, rvs_1, rvs_2, szOk, notStr, setCells, AV.one, resX, layC, layA, lay, List.map, List.replicate, List.length_replicate, pvq0, pvq1, seval, reduceCtorEq]; exact ⟨_, rfl, rfl, rfl⟩))
end Go.Proofs

set_option linter.unusedSimpArgs false
set_option linter.unusedVariables false
set_option maxHeartbeats 2000000
set_option maxRecDepth 20000
namespace Go.Proofs
open Go.Pv
def slV (l : List Int) : AV := if l = [] then nilA else .sl 1 (l.map (.int .i64)) false
def lsG (s : List UInt8) (most : Int) : Bool := rlF (gI 1 most) (sc s)
def lsV (s : List UInt8) (most : Int) : List Int := if s = [45] then [] else if lsG s most = true then (sc s).map fun p => (gI 1 most p).1 else []
/-- Is a list wrong? -/
def lsB (s : List UInt8) (most : Int) : Bool := !decide (s = [45]) && !lsG s most
theorem list_gen (ws : List (List UInt8)) (f : Bool) (k : Nat) (e b : Int) (A : Option Ent) (T : Hp) (hk : k < ws.length) (hw : ws.length ≤ 1000) (hl : ∀ w ∈ ws, w.length ≤ 1000) :
    Gen Tryd.prog 38 [.eptr 1 0 0, .int .i64 b] (A :: rdo ws f k e :: T) (slV (lsV ws[k]! b)) (A :: rdo ws f (k + 1) (fl e (lsB ws[k]! b) 21) :: T) := by
  have hwl : ws[k]!.length ≤ 1000 := hl _ (by rw [getElem!_pos ws k hk]; exact List.getElem_mem hk)
  have q := run_frz (rdlist_run ws[k]! 1 b hwl)
  refine Tryd.gen38 (by simp) ?_
  unfold Tryd.g38
  unfold lsV lsB
  generalize hs : ws[k]! = s at *
  have hne := sc_ne s
  by_cases h1 : s = [45]
  · rw [if_pos h1, decide_eq_true h1]
    simp (disch := first | omega | (simp only [pvl] at *; omega)) only [↓pvd, pv0, pv1, pv2, pv3, pv4, pv5, pv6, pv7, pvc0, pvc1, pvc2, Pv.put, bin2, int2, binB2, un1, AV.flat, pvf, rvs_1, rvs_2, szOk, notStr, setCells, AV.one, resX, layC, layA, lay, List.map, List.replicate, List.length_replicate, pvq0, pvq1, seval, reduceCtorEq]
    refine awR_callG (next_gen ws f k e A T hk hw) ?_
    simp (disch := first | omega | (simp only [pvl]; omega)) only [↓pvd, pv0, pv1, pv2, pv3, pv4, pv5, pv6, pv7, pvc0, pvc1, pvc2, Pv.put, bin2, int2, binB2, un1, AV.flat, pvf, rvs_1, rvs_2, szOk, notStr, setCells, AV.one, resX, layC, layA, lay, List.map, List.replicate, List.length_replicate, pvq0, pvq1, seval, reduceCtorEq, hs, h1]
    rw [show fl e false 21 = e by simp [fl]]
    exact ⟨rfl, rfl⟩
  · rw [if_neg h1, decide_eq_false h1]
    by_cases h2 : lsG s b = true
    · have h2' : rlF (gI 1 b) (sc s) = true := h2
      rw [if_pos h2, h2]
      rw [rlR_yes h2'] at q
      generalize hvs : ((sc s).map fun p => (gI 1 b p).1) = vs at *
      have hv : vs ≠ [] := by rw [← hvs]; simpa using hne
      rw [show slV vs = .sl 1 (vs.map (.int .i64)) false by unfold slV; rw [if_neg hv]]
      generalize vs.map (AV.int .i64) = es at *
      simp only [frz, frzA, frzC, List.map_cons, List.map_nil] at q
      simp (disch := first | omega | (simp only [pvl] at *; omega)) only [↓pvd, pv0, pv1, pv2, pv3, pv4, pv5, pv6, pv7, pvc0, pvc1, pvc2, Pv.put, bin2, int2, binB2, un1, AV.flat, pvf, rvs_1, rvs_2, szOk, notStr, setCells, AV.one, resX, layC, layA, lay, List.map, List.replicate, List.length_replicate, pvq0, pvq1, seval, reduceCtorEq]
      refine awR_callG (next_gen ws f k e A T hk hw) ?_
      simp (disch := first | omega | (simp only [pvl]; omega)) only [↓pvd, pv0, pv1, pv2, pv3, pv4, pv5, pv6, pv7, pvc0, pvc1, pvc2, Pv.put, bin2, int2, binB2, un1, AV.flat, pvf, rvs_1, rvs_2, szOk, notStr, setCells, AV.one, resX, layC, layA, lay, List.map, List.replicate, List.length_replicate, pvq0, pvq1, seval, reduceCtorEq, hs, h1]
      refine awR_call q rfl rfl ?_
      simp (disch := first | omega | (simp only [pvl] at *; omega)) only [↓pvd, pv0, pv1, pv2, pv3, pv4, pv5, pv6, pv7, pvc0, pvc1, pvc2, Pv.put, bin2, int2, binB2, un1, AV.flat, pvf, rvs_1, rvs_2, szOk, notStr, setCells, AV.one, resX, layC, layA, lay, List.map, List.replicate, List.length_replicate, pvq0, pvq1, seval, reduceCtorEq]
      refine awR_callG (fail_gen ws f (k + 1) e 21 false A T) ?_
      simp (disch := first | omega | (simp only [pvl] at *; omega)) only [↓pvd, pv0, pv1, pv2, pv3, pv4, pv5, pv6, pv7, pvc0, pvc1, pvc2, Pv.put, bin2, int2, binB2, un1, AV.flat, pvf, rvs_1, rvs_2, szOk, notStr, setCells, AV.one, resX, layC, layA, lay, List.map, List.replicate, List.length_replicate, pvq0, pvq1, seval, reduceCtorEq]
      exact ⟨rfl, rfl⟩
    · have h2' : ¬ rlF (gI 1 b) (sc s) = true := h2
      rw [if_neg h2, show lsG s b = false by simpa using h2]
      rw [rlR_no h2'] at q
      simp only [frz, frzA, frzC, List.map_cons, List.map_nil] at q
      rw [show slV [] = nilA from rfl]
      unfold nilA
      simp (disch := first | omega | (simp only [pvl] at *; omega)) only [↓pvd, pv0, pv1, pv2, pv3, pv4, pv5, pv6, pv7, pvc0, pvc1, pvc2, Pv.put, bin2, int2, binB2, un1, AV.flat, pvf, rvs_1, rvs_2, szOk, notStr, setCells, AV.one, resX, layC, layA, lay, List.map, List.replicate, List.length_replicate, pvq0, pvq1, seval, reduceCtorEq]
      refine awR_callG (next_gen ws f k e A T hk hw) ?_
      simp (disch := first | omega | (simp only [pvl]; omega)) only [↓pvd, pv0, pv1, pv2, pv3, pv4, pv5, pv6, pv7, pvc0, pvc1, pvc2, Pv.put, bin2, int2, binB2, un1, AV.flat, pvf, rvs_1, rvs_2, szOk, notStr, setCells, AV.one, resX, layC, layA, lay, List.map, List.replicate, List.length_replicate, pvq0, pvq1, seval, reduceCtorEq, hs, h1]
      refine awR_call q rfl rfl ?_
      simp (disch := first | omega | (simp only [pvl] at *; omega)) only [↓pvd, pv0, pv1, pv2, pv3, pv4, pv5, pv6, pv7, pvc0, pvc1, pvc2, Pv.put, bin2, int2, binB2, un1, AV.flat, pvf, rvs_1, rvs_2, szOk, notStr, setCells, AV.one, resX, layC, layA, lay, List.map, List.replicate, List.length_replicate, pvq0, pvq1, seval, reduceCtorEq]
      refine awR_callG (fail_gen ws f (k + 1) e 21 true A T) ?_
      simp (disch := first | omega | (simp only [pvl] at *; omega)) only [↓pvd, pv0, pv1, pv2, pv3, pv4, pv5, pv6, pv7, pvc0, pvc1, pvc2, Pv.put, bin2, int2, binB2, un1, AV.flat, pvf, rvs_1, rvs_2, szOk, notStr, setCells, AV.one, resX, layC, layA, lay, List.map, List.replicate, List.length_replicate, pvq0, pvq1, seval, reduceCtorEq]
      exact ⟨rfl, rfl⟩
/-- What a port takes: its VLAN, its list, what was wrong; the words from k on. -/
def pkV (ws : List (List UInt8)) (k : Nat) : Int := if ws[k]! = [97, 99, 99, 101, 115, 115] then (Nm.rdF ws[k + 1]! 1 4094).1 else if ws[k]! = [116, 114, 117, 110, 107] then (if ws[k + 1]! = [45] then 0 else (Nm.rdF ws[k + 1]! 1 4094).1) else 0
def pkT (ws : List (List UInt8)) (k : Nat) : List Int := if ws[k]! = [116, 114, 117, 110, 107] then lsV ws[k + 2]! 4094 else []
def pkE (ws : List (List UInt8)) (k : Nat) (e : Int) : Int :=
  let e1 := if ws[k]! = [97, 99, 99, 101, 115, 115] then fl e (!(Nm.rdF ws[k + 1]! 1 4094).2) 21 else if ws[k]! = [116, 114, 117, 110, 107] then fl (if ws[k + 1]! = [45] then e else fl e (!(Nm.rdF ws[k + 1]! 1 4094).2) 21) (lsB ws[k + 2]! 4094) 21 else e
  fl e1 (!mbF (pkV ws k) (pkT ws k)) 21
def lno (l : Ln) (t im ex ad : AV) : Option Ent := some ⟨35, [lnA l t im ex ad], true⟩
theorem slV_is (l : List Int) : ∃ n f, slV l = .sl n (l.map (.int .i64)) f ∧ (l = [] ∨ n = 1) := by
  unfold slV nilA
  by_cases h : l = []
  · subst h; exact ⟨0, true, rfl, .inl rfl⟩
  · rw [if_neg h]; exact ⟨1, false, rfl, .inr rfl⟩
theorem lsV_len (s : List UInt8) (b : Int) : (lsV s b).length ≤ 16 := by
  unfold lsV
  split
  · simp
  · split
    · rename_i h
      rw [List.length_map]
      exact (rlF_iff.1 h).2.1
    · simp
/-- The end of a port: are its VLANs right? -/
theorem port_end (ws : List (List UInt8)) (f : Bool) (k : Nat) (e : Int) (A : Option Ent) (T : Hp) (l : Ln) (tg : List Int) (hl : tg.length ≤ 16) :
    Run Tryd.prog 57 [lnA l (slV tg) nilA nilA nilA] (.bool (mbF l.vlan tg)) := by
  obtain ⟨n, f, h1, h2⟩ := slV_is tg
  rw [h1]
  exact members_run l tg n f [] [] [] 0 0 0 true true true h2 (by omega)
set_option maxHeartbeats 8000000 in
theorem port_gen (ws : List (List UInt8)) (f : Bool) (k : Nat) (e : Int) (A : Option Ent) (T : Hp) (l : Ln) (hv : l.vlan = 0) (hw : ws.length ≤ 1000) (hl : ∀ w ∈ ws, w.length ≤ 1000)
    (hk : k < ws.length) (hk1 : ws[k]! = [97, 99, 99, 101, 115, 115] → k + 1 < ws.length) (hk2 : ws[k]! = [116, 114, 117, 110, 107] → k + 2 < ws.length) : ∃ k',
    Gen Tryd.prog 33 [.eptr 1 0 0, .eptr 2 0 0] (A :: rdo ws f k e :: lno l nilA nilA nilA nilA :: T) (.tup [])
      (A :: rdo ws f k' (pkE ws k e) :: lno { l with vlan := pkV ws k } (slV (pkT ws k)) nilA nilA nilA :: T) := by
  by_cases ha : ws[k]! = [97, 99, 99, 101, 115, 115]
  · have hv1 : pkV ws k = (Nm.rdF ws[k + 1]! 1 4094).1 := by unfold pkV; rw [if_pos ha]
    have ht : pkT ws k = [] := by unfold pkT; rw [if_neg (by rw [ha]; decide)]
    have he : pkE ws k e = fl (fl e (!(Nm.rdF ws[k + 1]! 1 4094).2) 21) (!mbF (pkV ws k) (pkT ws k)) 21 := by unfold pkE; rw [if_pos ha]
    have q := port_end ws f k e A T { l with vlan := pkV ws k } (pkT ws k) (by rw [ht]; simp)
    refine ⟨k + 2, ?_⟩
    rw [he]
    refine gen_strip (n := 0) (Tryd.gen33 (by simp) ?_)
    unfold Tryd.g33
    have q2 := vlan_gen ws f (k + 1) e A (lno l nilA nilA nilA nilA :: T) (hk1 ha) hw hl
    rw [ht, show slV [] = .sl 0 [] true from if_pos rfl] at q ⊢
    rw [hv1] at q ⊢
    generalize (Nm.rdF ws[k + 1]! 1 4094).1 = v at *
    generalize (Nm.rdF ws[k + 1]! 1 4094).2 = ok at *
    simp only at q
    generalize hm : mbF v [] = m at *
    simp (disch := first | omega | (simp only [pvl] at *; omega)) only [↓pvd, pv0, pv1, pv2, pv3, pv4, pv5, pv6, pv7, pvc0, pvc1, pvc2, Pv.put, bin2, int2, binB2, un1, AV.flat, pvf, rvs_1, rvs_2, szOk, notStr, setCells, AV.one, resX, layC, layA, lay, List.map, List.replicate, List.length_replicate, pvq0, pvq1, seval, reduceCtorEq]
    refine awR_callG (next_gen ws f k e A _ hk hw) ?_
    simp (disch := first | omega | (simp only [pvl]; omega)) only [↓pvd, pv0, pv1, pv2, pv3, pv4, pv5, pv6, pv7, pvc0, pvc1, pvc2, Pv.put, bin2, int2, binB2, un1, AV.flat, pvf, rvs_1, rvs_2, szOk, notStr, setCells, AV.one, resX, layC, layA, lay, List.map, List.replicate, List.length_replicate, pvq0, pvq1, seval, reduceCtorEq, ha]
    refine awR_callG q2 ?_
    simp (disch := first | omega | (simp only [pvl]; omega)) only [↓pvd, pv0, pv1, pv2, pv3, pv4, pv5, pv6, pv7, pvc0, pvc1, pvc2, Pv.put, bin2, int2, binB2, un1, AV.flat, pvf, rvs_1, rvs_2, szOk, notStr, setCells, AV.one, resX, layC, layA, lay, List.map, List.replicate, List.length_replicate, pvq0, pvq1, seval, reduceCtorEq, lno, lnA, nilA]
    refine awR_call q rfl rfl ?_
    simp (disch := first | omega | (simp only [pvl] at *; omega)) only [↓pvd, pv0, pv1, pv2, pv3, pv4, pv5, pv6, pv7, pvc0, pvc1, pvc2, Pv.put, bin2, int2, binB2, un1, AV.flat, pvf, rvs_1, rvs_2, szOk, notStr, setCells, AV.one, resX, layC, layA, lay, List.map, List.replicate, List.length_replicate, pvq0, pvq1, seval, reduceCtorEq]
    refine awR_callG (fail_gen ws f (k + 1 + 1) _ 21 (!m) A _) ?_
    simp (disch := first | omega | (simp only [pvl] at *; omega)) only [↓pvd, pv0, pv1, pv2, pv3, pv4, pv5, pv6, pv7, pvc0, pvc1, pvc2, Pv.put, bin2, int2, binB2, un1, AV.flat, pvf, rvs_1, rvs_2, szOk, notStr, setCells, AV.one, resX, layC, layA, lay, List.map, List.replicate, List.length_replicate, pvq0, pvq1, seval, reduceCtorEq]
    exact ⟨rfl, by simp⟩
  · by_cases hb : ws[k]! = [116, 114, 117, 110, 107]
    · have h2 := hk2 hb
      have ha' : decide (ws[k]! = [97, 99, 99, 101, 115, 115]) = false := decide_eq_false ha
      have hb' : decide (ws[k]! = [116, 114, 117, 110, 107]) = true := decide_eq_true hb
      have ht : pkT ws k = lsV ws[k + 2]! 4094 := by unfold pkT; rw [if_pos hb]
      have htl : (pkT ws k).length ≤ 16 := by rw [ht]; exact lsV_len _ _
      have q := port_end ws f k e A T { l with vlan := pkV ws k } (pkT ws k) htl
      have hg1 : (ws.map AV.str)[k + 1]? = some (.str ws[k + 1]!) := map_get (by omega)
      by_cases hd : ws[k + 1]! = [45]
      · have hv1 : pkV ws k = 0 := by unfold pkV; rw [if_neg ha, if_pos hb, if_pos hd]
        have he : pkE ws k e = fl (fl e (lsB ws[k + 2]! 4094) 21) (!mbF (pkV ws k) (pkT ws k)) 21 := by unfold pkE; rw [if_neg ha, if_pos hb, if_pos hd]
        refine ⟨k + 3, ?_⟩
        rw [he]
        refine gen_strip (n := 11) (Tryd.gen33 (by simp) ?_)
        unfold Tryd.g33
        have q3 := fun (T : Hp) => list_gen ws f (k + 2) e 4094 A T h2 hw hl
        rw [ht] at q ⊢
        rw [hv1] at q ⊢
        generalize lsV ws[k + 2]! 4094 = tg at *
        generalize lsB ws[k + 2]! 4094 = bad at *
        simp only at q
        generalize hm : mbF 0 tg = m at *
        obtain ⟨n, f', hsl, _⟩ := slV_is tg
        rw [hsl] at q q3 ⊢
        generalize tg.map (AV.int .i64) = es at *
        simp (disch := first | omega | (simp only [pvl] at *; omega)) only [↓pvd, pv0, pv1, pv2, pv3, pv4, pv5, pv6, pv7, pvc0, pvc1, pvc2, Pv.put, bin2, int2, binB2, un1, AV.flat, pvf, rvs_1, rvs_2, szOk, notStr, setCells, AV.one, resX, layC, layA, lay, List.map, List.replicate, List.length_replicate, pvq0, pvq1, seval, reduceCtorEq]
        refine awR_callG (next_gen ws f k e A _ hk hw) ?_
        simp (disch := first | omega | (simp only [pvl]; omega)) only [↓pvd, pv0, pv1, pv2, pv3, pv4, pv5, pv6, pv7, pvc0, pvc1, pvc2, Pv.put, bin2, int2, binB2, un1, AV.flat, pvf, rvs_1, rvs_2, szOk, notStr, setCells, AV.one, resX, layC, layA, lay, List.map, List.replicate, List.length_replicate, pvq0, pvq1, seval, reduceCtorEq, ha', hb', rdo, hg1, hd, List.length_map]
        rw [show (((k + 1 : Nat) : Int) + 1) = ((k + 2 : Nat) : Int) by omega]
        refine awR_callG (q3 _) ?_
        simp (disch := first | omega | (simp only [pvl]; omega)) only [↓pvd, pv0, pv1, pv2, pv3, pv4, pv5, pv6, pv7, pvc0, pvc1, pvc2, Pv.put, bin2, int2, binB2, un1, AV.flat, pvf, rvs_1, rvs_2, szOk, notStr, setCells, AV.one, resX, layC, layA, lay, List.map, List.replicate, List.length_replicate, pvq0, pvq1, seval, reduceCtorEq, lno, lnA, nilA]
        refine awR_call q (by simp only [lnA, nilA, hv]; rfl) rfl ?_
        simp (disch := first | omega | (simp only [pvl] at *; omega)) only [↓pvd, pv0, pv1, pv2, pv3, pv4, pv5, pv6, pv7, pvc0, pvc1, pvc2, Pv.put, bin2, int2, binB2, un1, AV.flat, pvf, rvs_1, rvs_2, szOk, notStr, setCells, AV.one, resX, layC, layA, lay, List.map, List.replicate, List.length_replicate, pvq0, pvq1, seval, reduceCtorEq]
        refine awR_callG (fail_gen ws f (k + 2 + 1) _ 21 (!m) A _) ?_
        simp (disch := first | omega | (simp only [pvl] at *; omega)) only [↓pvd, pv0, pv1, pv2, pv3, pv4, pv5, pv6, pv7, pvc0, pvc1, pvc2, Pv.put, bin2, int2, binB2, un1, AV.flat, pvf, rvs_1, rvs_2, szOk, notStr, setCells, AV.one, resX, layC, layA, lay, List.map, List.replicate, List.length_replicate, pvq0, pvq1, seval, reduceCtorEq]
        exact ⟨rfl, by simp [rdo, hv]; omega⟩
      · have hv1 : pkV ws k = (Nm.rdF ws[k + 1]! 1 4094).1 := by unfold pkV; rw [if_neg ha, if_pos hb, if_neg hd]
        have he : pkE ws k e = fl (fl (fl e (!(Nm.rdF ws[k + 1]! 1 4094).2) 21) (lsB ws[k + 2]! 4094) 21) (!mbF (pkV ws k) (pkT ws k)) 21 := by unfold pkE; rw [if_neg ha, if_pos hb, if_neg hd]
        refine ⟨k + 3, ?_⟩
        rw [he]
        refine gen_strip (n := 11) (Tryd.gen33 (by simp) ?_)
        unfold Tryd.g33
        have q2 := fun (T : Hp) => vlan_gen ws f (k + 1) e A T (by omega) hw hl
        have q3 := fun (e : Int) (T : Hp) => list_gen ws f (k + 2) e 4094 A T h2 hw hl
        rw [ht] at q ⊢
        rw [hv1] at q ⊢
        generalize lsV ws[k + 2]! 4094 = tg at *
        generalize lsB ws[k + 2]! 4094 = bad at *
        generalize (Nm.rdF ws[k + 1]! 1 4094).1 = v at *
        generalize (Nm.rdF ws[k + 1]! 1 4094).2 = ok at *
        simp only at q
        generalize hm : mbF v tg = m at *
        obtain ⟨n, f', hsl, _⟩ := slV_is tg
        rw [hsl] at q q3 ⊢
        generalize tg.map (AV.int .i64) = es at *
        simp (disch := first | omega | (simp only [pvl] at *; omega)) only [↓pvd, pv0, pv1, pv2, pv3, pv4, pv5, pv6, pv7, pvc0, pvc1, pvc2, Pv.put, bin2, int2, binB2, un1, AV.flat, pvf, rvs_1, rvs_2, szOk, notStr, setCells, AV.one, resX, layC, layA, lay, List.map, List.replicate, List.length_replicate, pvq0, pvq1, seval, reduceCtorEq]
        refine awR_callG (next_gen ws f k e A _ hk hw) ?_
        simp (disch := first | omega | (simp only [pvl]; omega)) only [↓pvd, pv0, pv1, pv2, pv3, pv4, pv5, pv6, pv7, pvc0, pvc1, pvc2, Pv.put, bin2, int2, binB2, un1, AV.flat, pvf, rvs_1, rvs_2, szOk, notStr, setCells, AV.one, resX, layC, layA, lay, List.map, List.replicate, List.length_replicate, pvq0, pvq1, seval, reduceCtorEq, ha', hb', rdo, hg1, hd, List.length_map]
        refine awR_callG (q2 _) ?_
        simp (disch := first | omega | (simp only [pvl]; omega)) only [↓pvd, pv0, pv1, pv2, pv3, pv4, pv5, pv6, pv7, pvc0, pvc1, pvc2, Pv.put, bin2, int2, binB2, un1, AV.flat, pvf, rvs_1, rvs_2, szOk, notStr, setCells, AV.one, resX, layC, layA, lay, List.map, List.replicate, List.length_replicate, pvq0, pvq1, seval, reduceCtorEq, lno, lnA, nilA]
        refine awR_callG (q3 _ _) ?_
        simp (disch := first | omega | (simp only [pvl] at *; omega)) only [↓pvd, pv0, pv1, pv2, pv3, pv4, pv5, pv6, pv7, pvc0, pvc1, pvc2, Pv.put, bin2, int2, binB2, un1, AV.flat, pvf, rvs_1, rvs_2, szOk, notStr, setCells, AV.one, resX, layC, layA, lay, List.map, List.replicate, List.length_replicate, pvq0, pvq1, seval, reduceCtorEq]
        refine awR_call q rfl rfl ?_
        simp (disch := first | omega | (simp only [pvl] at *; omega)) only [↓pvd, pv0, pv1, pv2, pv3, pv4, pv5, pv6, pv7, pvc0, pvc1, pvc2, Pv.put, bin2, int2, binB2, un1, AV.flat, pvf, rvs_1, rvs_2, szOk, notStr, setCells, AV.one, resX, layC, layA, lay, List.map, List.replicate, List.length_replicate, pvq0, pvq1, seval, reduceCtorEq]
        refine awR_callG (fail_gen ws f (k + 2 + 1) _ 21 (!m) A _) ?_
        simp (disch := first | omega | (simp only [pvl] at *; omega)) only [↓pvd, pv0, pv1, pv2, pv3, pv4, pv5, pv6, pv7, pvc0, pvc1, pvc2, Pv.put, bin2, int2, binB2, un1, AV.flat, pvf, rvs_1, rvs_2, szOk, notStr, setCells, AV.one, resX, layC, layA, lay, List.map, List.replicate, List.length_replicate, pvq0, pvq1, seval, reduceCtorEq]
        exact ⟨rfl, by simp [rdo]; omega⟩
    · have hv1 : pkV ws k = 0 := by unfold pkV; rw [if_neg ha, if_neg hb]
      have ht : pkT ws k = [] := by unfold pkT; rw [if_neg hb]
      have he : pkE ws k e = fl e (!mbF (pkV ws k) (pkT ws k)) 21 := by unfold pkE; rw [if_neg ha, if_neg hb]
      have q := port_end ws f k e A T { l with vlan := pkV ws k } (pkT ws k) (by rw [ht]; simp)
      refine ⟨k + 1, ?_⟩
      rw [he]
      refine gen_strip (n := 0) (Tryd.gen33 (by simp) ?_)
      unfold Tryd.g33
      rw [ht, show slV [] = .sl 0 [] true from if_pos rfl] at q ⊢
      rw [hv1] at q ⊢
      simp only at q
      generalize hm : mbF 0 [] = m at *
      simp (disch := first | omega | (simp only [pvl] at *; omega)) only [↓pvd, pv0, pv1, pv2, pv3, pv4, pv5, pv6, pv7, pvc0, pvc1, pvc2, Pv.put, bin2, int2, binB2, un1, AV.flat, pvf, rvs_1, rvs_2, szOk, notStr, setCells, AV.one, resX, layC, layA, lay, List.map, List.replicate, List.length_replicate, pvq0, pvq1, seval, reduceCtorEq]
      refine awR_callG (next_gen ws f k e A _ hk hw) ?_
      simp (disch := first | omega | (simp only [pvl]; omega)) only [↓pvd, pv0, pv1, pv2, pv3, pv4, pv5, pv6, pv7, pvc0, pvc1, pvc2, Pv.put, bin2, int2, binB2, un1, AV.flat, pvf, rvs_1, rvs_2, szOk, notStr, setCells, AV.one, resX, layC, layA, lay, List.map, List.replicate, List.length_replicate, pvq0, pvq1, seval, reduceCtorEq, ha, hb, lno, lnA, nilA]
      refine awR_call q (by simp only [lnA, nilA, hv]; rfl) rfl ?_
      simp (disch := first | omega | (simp only [pvl] at *; omega)) only [↓pvd, pv0, pv1, pv2, pv3, pv4, pv5, pv6, pv7, pvc0, pvc1, pvc2, Pv.put, bin2, int2, binB2, un1, AV.flat, pvf, rvs_1, rvs_2, szOk, notStr, setCells, AV.one, resX, layC, layA, lay, List.map, List.replicate, List.length_replicate, pvq0, pvq1, seval, reduceCtorEq]
      refine awR_callG (fail_gen ws f (k + 1) _ 21 (!m) A _) ?_
      simp (disch := first | omega | (simp only [pvl] at *; omega)) only [↓pvd, pv0, pv1, pv2, pv3, pv4, pv5, pv6, pv7, pvc0, pvc1, pvc2, Pv.put, bin2, int2, binB2, un1, AV.flat, pvf, rvs_1, rvs_2, szOk, notStr, setCells, AV.one, resX, layC, layA, lay, List.map, List.replicate, List.length_replicate, pvq0, pvq1, seval, reduceCtorEq]
      rw [hv]
      exact ⟨rfl, by simp⟩
end Go.Proofs
