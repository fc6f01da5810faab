/- The proofs of what the functions of this seat do. -/
import Derived.Test.YtppdpcfmkmnfjaaDoorPr2
import Derived.Below
import Derived.Lib.Join
import Derived.Shelf.Strings.OnBuilder
set_option linter.unusedSimpArgs false
set_option linter.unusedVariables false
set_option maxHeartbeats 2000000
set_option maxRecDepth 20000
namespace Go.Proofs
namespace Mc
open Go.Pv
theorem nat_and_pow (n j : Nat) : n &&& 2 ^ j = n / 2 ^ j % 2 * 2 ^ j := by
  apply Nat.eq_of_testBit_eq
  intro i
  rw [Nat.testBit_and, Nat.testBit_two_pow, Nat.testBit_mul_two_pow]
  have e : n / 2 ^ j % 2 = n / 2 ^ j % 2 ^ 1 := by simp
  rw [e, Nat.testBit_mod_two_pow, Nat.testBit_div_two_pow]
  by_cases h : j = i
  · subst h; simp
  · by_cases h2 : j ≤ i
    · simp [h]; omega
    · simp [h, h2]
theorem and_40 {m : Int} (h : 0 ≤ m) (h' : m < 18446744073709551616) : and2 .u64 m 1099511627776 = m / 1099511627776 % 2 * 1099511627776 := by
  obtain ⟨n, rfl⟩ := Int.eq_ofNat_of_zero_le h
  unfold and2
  rw [BitVec.toNat_and, ofInt_toNat h (by rw [bits_u64]; omega), ofInt_toNat (by omega) (by rw [bits_u64]; omega)]
  have e : (1099511627776 : Int).toNat = 2 ^ 40 := rfl
  rw [e, Int.toNat_natCast, nat_and_pow, wrap_u64]
  omega
theorem group_run (m : Int) (h : 0 ≤ m) (h' : m < 18446744073709551616) : Run Tryd.prog 78 [.int .u64 m] (.bool (decide (m / 1099511627776 % 2 = 1))) := by
  refine Tryd.run78 (by simp) ?_
  unfold Tryd.c78
  simp (disch := first | omega | (simp only [pvl]; omega)) only [↓pvd, pv0, pv1, pv2, pv3, pv4, pv5, pv6, pv7, pvc0, pvc1, pvc2, Pv.put, bin2, int2, binB2, un1, AV.flat, pvf, rvs_1, rvs_2, szOk, notStr, setCells, AV.one, resX, layC, layA, lay, List.map, List.replicate, List.length_replicate, pvq0, pvq1, seval, reduceCtorEq, and_40]
  refine Ends_rq [] ?_
  simp (disch := first | omega | (simp only [pvl] at *; omega)) only [↓pvd, pv0, pv1, pv2, pv3, pv4, pv5, pv6, pv7, pvc0, pvc1, pvc2, Pv.put, bin2, int2, binB2, un1, AV.flat, pvf, rvs_1, rvs_2, szOk, notStr, setCells, AV.one, resX, layC, layA, lay, List.map, List.replicate, List.length_replicate, pvq0, pvq1, seval, reduceCtorEq]
  exact ⟨_, rfl, by simp only [AV.bool.injEq, decide_eq_decide]; omega, rfl⟩
/-- A host's ip. -/
def ish (m : Int) : Int × Bool := if m / 4294967296 % 65536 = 512 then (m % 4294967296, true) else (0, false)
theorem ishost_run (m : Int) (h : 0 ≤ m) (h' : m < 18446744073709551616) : Run Tryd.prog 77 [.int .u64 m] (.tup [.int .u32 (ish m).1, .bool (ish m).2]) := by
  refine Tryd.run77 (by simp) ?_
  unfold Tryd.c77
  repeat' (first | simp (disch := first | omega | (simp only [pvl]; omega)) only [↓pvd, pv0, pv1, pv2, pv3, pv4, pv5, pv6, pv7, pvc0, pvc1, pvc2, Pv.put, bin2, int2, binB2, un1, AV.flat, pvf, rvs_1, rvs_2, szOk, notStr, setCells, AV.one, resX, layC, layA, lay, List.map, List.replicate, List.length_replicate, pvq0, pvq1, seval, reduceCtorEq] | with_reducible refine condP_d (fun _ => ?_) (fun _ => ?_) | with_reducible refine guardP_d0 (fun _ => ?_) (fun _ => ?_) | with_reducible refine guardP_d1 (fun _ => ?_) (fun _ => ?_) | with_reducible refine condP_any ?_ ?_)
  all_goals ((unfold ish; simp (disch := omega) only [if_pos, if_neg]); refine Ends_rq [] ?_; simp (disch := first | omega | (simp only [pvl] at *; omega)) only [↓pvd, pv0, pv1, pv2, pv3, pv4, pv5, pv6, pv7, pvc0, pvc1, pvc2, Pv.put, bin2, int2, binB2, un1, AV.flat, pvf, rvs_1, rvs_2, szOk, notStr, setCells, AV.one, resX, layC, layA, lay, List.map, List.replicate, List.length_replicate, pvq0, pvq1, seval, reduceCtorEq]; exact ⟨_, rfl, by first | rfl | (simp only [AV.tup.injEq, List.cons.injEq, AV.int.injEq, true_and, and_true]; omega), rfl⟩)
theorem take_snoc {α : Type} [Inhabited α] {l : List α} {k : Nat} (h : k < l.length) : l.take (k + 1) = l.take k ++ [l[k]!] := by
  rw [List.take_succ_eq_append_getElem h]
  simp [h]
end Mc
end Go.Proofs

set_option linter.unusedSimpArgs false
set_option linter.unusedVariables false
set_option maxHeartbeats 2000000
set_option maxRecDepth 20000
namespace Go.Proofs
namespace Mc
open Go.Pv
/-- A digit. -/
def hx (n : Int) : UInt8 := [48, 49, 50, 51, 52, 53, 54, 55, 56, 57, 97, 98, 99, 100, 101, 102][n.toNat]!
theorem hx_get {n : Int} (h : 0 ≤ n) (h' : n < 16) : Option.map bv (([48, 49, 50, 51, 52, 53, 54, 55, 56, 57, 97, 98, 99, 100, 101, 102] : List UInt8)[n.toNat]?) = some (bv (hx n)) := by
  obtain ⟨k, rfl⟩ := Int.eq_ofNat_of_zero_le h
  have : k < 16 := by omega
  unfold hx
  rw [Int.toNat_natCast, List.getElem?_eq_getElem (by simpa using this), List.getElem!_eq_getElem?_getD, List.getElem?_eq_getElem (by simpa using this)]
  rfl
/-- An address's text. -/
def tx (m : Int) : List UInt8 :=
  [hx (m / 1099511627776 % 256 / 16), hx (m / 1099511627776 % 256 % 16), 58, hx (m / 4294967296 % 256 / 16), hx (m / 4294967296 % 256 % 16), 58, hx (m / 16777216 % 256 / 16), hx (m / 16777216 % 256 % 16), 58,
    hx (m / 65536 % 256 / 16), hx (m / 65536 % 256 % 16), 58, hx (m / 256 % 256 / 16), hx (m / 256 % 256 % 16), 58, hx (m % 256 / 16), hx (m % 256 % 16)]
theorem text_run (m : Int) (h : 0 ≤ m) (h' : m < 18446744073709551616) : Run Tryd.prog 87 [.int .u64 m] (.str (tx m)) := by
  refine Tryd.run87 (by simp) ?_
  unfold Tryd.c87
  simp (disch := first | omega | (simp only [pvl] at *; omega)) only [↓pvd, pv0, pv1, pv2, pv3, pv4, pv5, pv6, pv7, pvc0, pvc1, pvc2, Pv.put, bin2, int2, binB2, un1, AV.flat, pvf, rvs_1, rvs_2, szOk, notStr, setCells, AV.one, resX, layC, layA, lay, List.map, List.replicate, List.length_replicate, pvq0, pvq1, seval, reduceCtorEq]
  refine aw_loop (fun k : Nat => ⟨[(0, .int .u64 m), (3, .vec 0 1 0 (3 * k - 1)), (6, .int .i64 k)], [some ⟨5, bys ((tx m).take (3 * k - 1)), true⟩]⟩) (fun k => k ≤ 6) (fun k => 6 - k) 0 ?_ (by omega) ?_
  · simp (disch := first | omega | (simp only [pvl] at *; omega)) only [↓pvd, pv0, pv1, pv2, pv3, pv4, pv5, pv6, pv7, pvc0, pvc1, pvc2, Pv.put, bin2, int2, binB2, un1, AV.flat, pvf, rvs_1, rvs_2, szOk, notStr, setCells, AV.one, resX, layC, layA, lay, List.map, List.replicate, List.length_replicate, pvq0, pvq1, seval, reduceCtorEq]
  intro k hk
  have hk' : k = 0 ∨ k = 1 ∨ k = 2 ∨ k = 3 ∨ k = 4 ∨ k = 5 ∨ k = 6 := by omega
  unfold Tryd.c87b0
  rcases hk' with rfl | rfl | rfl | rfl | rfl | rfl | rfl
  · simp (disch := first | omega | (simp only [pvl]; omega)) only [↓pvd, pv0, pv1, pv2, pv3, pv4, pv5, pv6, pv7, pvc0, pvc1, pvc2, Pv.put, bin2, int2, binB2, un1, AV.flat, pvf, rvs_1, rvs_2, szOk, notStr, setCells, AV.one, resX, layC, layA, lay, List.map, List.replicate, List.length_replicate, pvq0, pvq1, seval, reduceCtorEq, tx]
    refine awR_call (shift_run 0 (by omega) (by omega)) rfl rfl ?_
    simp (disch := first | omega | (simp only [pvl]; omega)) only [↓pvd, pv0, pv1, pv2, pv3, pv4, pv5, pv6, pv7, pvc0, pvc1, pvc2, Pv.put, bin2, int2, binB2, un1, AV.flat, pvf, rvs_1, rvs_2, szOk, notStr, setCells, AV.one, resX, layC, layA, lay, List.map, List.replicate, List.length_replicate, pvq0, pvq1, seval, reduceCtorEq, hx_get]
    refine ⟨1, ?_, by omega, by omega⟩
    rfl
  · simp (disch := first | omega | (simp only [pvl]; omega)) only [↓pvd, pv0, pv1, pv2, pv3, pv4, pv5, pv6, pv7, pvc0, pvc1, pvc2, Pv.put, bin2, int2, binB2, un1, AV.flat, pvf, rvs_1, rvs_2, szOk, notStr, setCells, AV.one, resX, layC, layA, lay, List.map, List.replicate, List.length_replicate, pvq0, pvq1, seval, reduceCtorEq, tx]
    refine awR_call (shift_run 1 (by omega) (by omega)) rfl rfl ?_
    simp (disch := first | omega | (simp only [pvl]; omega)) only [↓pvd, pv0, pv1, pv2, pv3, pv4, pv5, pv6, pv7, pvc0, pvc1, pvc2, Pv.put, bin2, int2, binB2, un1, AV.flat, pvf, rvs_1, rvs_2, szOk, notStr, setCells, AV.one, resX, layC, layA, lay, List.map, List.replicate, List.length_replicate, pvq0, pvq1, seval, reduceCtorEq, hx_get]
    refine ⟨2, ?_, by omega, by omega⟩
    rfl
  · simp (disch := first | omega | (simp only [pvl]; omega)) only [↓pvd, pv0, pv1, pv2, pv3, pv4, pv5, pv6, pv7, pvc0, pvc1, pvc2, Pv.put, bin2, int2, binB2, un1, AV.flat, pvf, rvs_1, rvs_2, szOk, notStr, setCells, AV.one, resX, layC, layA, lay, List.map, List.replicate, List.length_replicate, pvq0, pvq1, seval, reduceCtorEq, tx]
    refine awR_call (shift_run 2 (by omega) (by omega)) rfl rfl ?_
    simp (disch := first | omega | (simp only [pvl]; omega)) only [↓pvd, pv0, pv1, pv2, pv3, pv4, pv5, pv6, pv7, pvc0, pvc1, pvc2, Pv.put, bin2, int2, binB2, un1, AV.flat, pvf, rvs_1, rvs_2, szOk, notStr, setCells, AV.one, resX, layC, layA, lay, List.map, List.replicate, List.length_replicate, pvq0, pvq1, seval, reduceCtorEq, hx_get]
    refine ⟨3, ?_, by omega, by omega⟩
    rfl
  · simp (disch := first | omega | (simp only [pvl]; omega)) only [↓pvd, pv0, pv1, pv2, pv3, pv4, pv5, pv6, pv7, pvc0, pvc1, pvc2, Pv.put, bin2, int2, binB2, un1, AV.flat, pvf, rvs_1, rvs_2, szOk, notStr, setCells, AV.one, resX, layC, layA, lay, List.map, List.replicate, List.length_replicate, pvq0, pvq1, seval, reduceCtorEq, tx]
    refine awR_call (shift_run 3 (by omega) (by omega)) rfl rfl ?_
    simp (disch := first | omega | (simp only [pvl]; omega)) only [↓pvd, pv0, pv1, pv2, pv3, pv4, pv5, pv6, pv7, pvc0, pvc1, pvc2, Pv.put, bin2, int2, binB2, un1, AV.flat, pvf, rvs_1, rvs_2, szOk, notStr, setCells, AV.one, resX, layC, layA, lay, List.map, List.replicate, List.length_replicate, pvq0, pvq1, seval, reduceCtorEq, hx_get]
    refine ⟨4, ?_, by omega, by omega⟩
    rfl
  · simp (disch := first | omega | (simp only [pvl]; omega)) only [↓pvd, pv0, pv1, pv2, pv3, pv4, pv5, pv6, pv7, pvc0, pvc1, pvc2, Pv.put, bin2, int2, binB2, un1, AV.flat, pvf, rvs_1, rvs_2, szOk, notStr, setCells, AV.one, resX, layC, layA, lay, List.map, List.replicate, List.length_replicate, pvq0, pvq1, seval, reduceCtorEq, tx]
    refine awR_call (shift_run 4 (by omega) (by omega)) rfl rfl ?_
    simp (disch := first | omega | (simp only [pvl]; omega)) only [↓pvd, pv0, pv1, pv2, pv3, pv4, pv5, pv6, pv7, pvc0, pvc1, pvc2, Pv.put, bin2, int2, binB2, un1, AV.flat, pvf, rvs_1, rvs_2, szOk, notStr, setCells, AV.one, resX, layC, layA, lay, List.map, List.replicate, List.length_replicate, pvq0, pvq1, seval, reduceCtorEq, hx_get]
    refine ⟨5, ?_, by omega, by omega⟩
    rfl
  · simp (disch := first | omega | (simp only [pvl]; omega)) only [↓pvd, pv0, pv1, pv2, pv3, pv4, pv5, pv6, pv7, pvc0, pvc1, pvc2, Pv.put, bin2, int2, binB2, un1, AV.flat, pvf, rvs_1, rvs_2, szOk, notStr, setCells, AV.one, resX, layC, layA, lay, List.map, List.replicate, List.length_replicate, pvq0, pvq1, seval, reduceCtorEq, tx]
    refine awR_call (shift_run 5 (by omega) (by omega)) rfl rfl ?_
    simp (disch := first | omega | (simp only [pvl]; omega)) only [↓pvd, pv0, pv1, pv2, pv3, pv4, pv5, pv6, pv7, pvc0, pvc1, pvc2, Pv.put, bin2, int2, binB2, un1, AV.flat, pvf, rvs_1, rvs_2, szOk, notStr, setCells, AV.one, resX, layC, layA, lay, List.map, List.replicate, List.length_replicate, pvq0, pvq1, seval, reduceCtorEq, hx_get, Int.ediv_one, Int.sub_self, Int.mul_zero, Int.pow_zero]
    refine ⟨6, ?_, by omega, by omega⟩
    rfl
  · have hl : (tx m).length = 17 := rfl
    have ht : (tx m).take (3 * 6 - 1) = tx m := rfl
    rw [ht]
    generalize tx m = t at *
    simp (disch := first | omega | (simp only [pvl] at *; omega)) only [↓pvd, pv0, pv1, pv2, pv3, pv4, pv5, pv6, pv7, pvc0, pvc1, pvc2, Pv.put, bin2, int2, binB2, un1, AV.flat, pvf, rvs_1, rvs_2, szOk, notStr, setCells, AV.one, resX, layC, layA, lay, List.map, List.replicate, List.length_replicate, pvq0, pvq1, seval, reduceCtorEq]
    (refine Ends_rq [] ?_; simp (disch := first | omega | (simp only [pvl]; omega)) only [↓pvd, pv0, pv1, pv2, pv3, pv4, pv5, pv6, pv7, pvc0, pvc1, pvc2, Pv.put, bin2, int2, binB2, un1, AV.flat, pvf, rvs_1, rvs_2, szOk, notStr, setCells, AV.one, resX, layC, layA, lay, List.map, List.replicate, List.length_replicate, pvq0, pvq1, seval, reduceCtorEq]; exact ⟨_, rfl, rfl, rfl⟩)
end Mc
end Go.Proofs

set_option linter.unusedSimpArgs false
set_option linter.unusedVariables false
set_option maxHeartbeats 2000000
set_option maxRecDepth 20000
namespace Go.Proofs
namespace Mc
open Go.Pv
/-- The number of the first k pairs of digits. -/
def num (s : List UInt8) : Nat → Int
  | 0 => 0
  | k + 1 => num s k * 256 + (dg s[3 * k]! * 16 + dg s[3 * k + 1]!)
/-- They are digits, with colons between. -/
def okR (s : List UInt8) (k : Nat) : Prop := ∀ i, i < k → dg s[3 * i]! ≤ 15 ∧ dg s[3 * i + 1]! ≤ 15 ∧ (i + 1 < 6 → s[3 * i + 2]!.toNat = 58)
theorem dg_b (c : UInt8) : 0 ≤ dg c ∧ dg c ≤ 16 := by
  have := c.toNat_lt
  unfold dg; split
  · omega
  · split <;> omega
theorem num_b (s : List UInt8) (k : Nat) (h : okR s k) : 0 ≤ num s k ∧ num s k < 256 ^ k := by
  induction k with
  | zero => simp [num]
  | succ k ih =>
    have h1 := ih (fun i hi => h i (by omega))
    have h2 := h k (by omega)
    have d1 := dg_b s[3 * k]!
    have d2 := dg_b s[3 * k + 1]!
    rw [num, Int.pow_succ]
    generalize (256 : Int) ^ k = q at *
    omega
theorem num_s (s : List UInt8) (k : Nat) (hk : k < 6) (h : okR s k) : 0 ≤ num s k ∧ num s k < 1099511627776 := by
  have h1 := num_b s k h
  have : (256 : Int) ^ k ≤ 256 ^ 5 := by exact_mod_cast Nat.pow_le_pow_right (by decide) (by omega)
  omega
open Classical in
/-- What a text is read as. -/
noncomputable def rdm (s : List UInt8) : Int × Bool := if s.length = 17 ∧ okR s 6 then (num s 6, true) else (0, false)
theorem str_get {s : List UInt8} {k : Nat} (h : k < s.length) : Option.map bv (s[k]?) = some (.int .u8 (s[k]!).toNat) := by
  rw [List.getElem?_eq_getElem h, List.getElem!_eq_getElem?_getD, List.getElem?_eq_getElem h]; rfl
theorem or_u64_4 {a b : Int} (ha : 0 ≤ a) (ha' : a < 18446744073709551616) (hb : 0 ≤ b) (hb' : b < 16) (hd : a % 16 = 0) : or2 .u64 a b = a + b :=
  or2_un (j := 4) rfl ha ha' hb hb' (by decide) hd
theorem read_run (s : List UInt8) (hm : s.length ≤ maxLen) : Run Tryd.prog 55 [.str s] (.tup [.int .u64 (rdm s).1, .bool (rdm s).2]) := by
  unfold maxLen at hm
  refine Tryd.run55 (by simp) ?_
  unfold Tryd.c55
  simp (disch := first | omega | (simp only [pvl] at *; omega)) only [↓pvd, pv0, pv1, pv2, pv3, pv4, pv5, pv6, pv7, pvc0, pvc1, pvc2, Pv.put, bin2, int2, binB2, un1, AV.flat, pvf, rvs_1, rvs_2, szOk, notStr, setCells, AV.one, resX, layC, layA, lay, List.map, List.replicate, List.length_replicate, pvq0, pvq1, seval, reduceCtorEq]
  refine condP_d (fun hl => ?_) (fun hl => ?_)
  · have e : rdm s = (0, false) := by unfold rdm; rw [if_neg]; rintro ⟨h1, _⟩; omega
    rw [e]
    simp (disch := first | omega | (simp only [pvl] at *; omega)) only [↓pvd, pv0, pv1, pv2, pv3, pv4, pv5, pv6, pv7, pvc0, pvc1, pvc2, Pv.put, bin2, int2, binB2, un1, AV.flat, pvf, rvs_1, rvs_2, szOk, notStr, setCells, AV.one, resX, layC, layA, lay, List.map, List.replicate, List.length_replicate, pvq0, pvq1, seval, reduceCtorEq]
    (refine Ends_rq [] ?_; simp (disch := first | omega | (simp only [pvl]; omega)) only [↓pvd, pv0, pv1, pv2, pv3, pv4, pv5, pv6, pv7, pvc0, pvc1, pvc2, Pv.put, bin2, int2, binB2, un1, AV.flat, pvf, rvs_1, rvs_2, szOk, notStr, setCells, AV.one, resX, layC, layA, lay, List.map, List.replicate, List.length_replicate, pvq0, pvq1, seval, reduceCtorEq]; exact ⟨_, rfl, rfl, rfl⟩)
  have hl' : s.length = 17 := by omega
  simp (disch := first | omega | (simp only [pvl] at *; omega)) only [↓pvd, pv0, pv1, pv2, pv3, pv4, pv5, pv6, pv7, pvc0, pvc1, pvc2, Pv.put, bin2, int2, binB2, un1, AV.flat, pvf, rvs_1, rvs_2, szOk, notStr, setCells, AV.one, resX, layC, layA, lay, List.map, List.replicate, List.length_replicate, pvq0, pvq1, seval, reduceCtorEq]
  refine aw_loop (fun k : Nat => ⟨[(0, .str s), (4, .int .u64 (num s k)), (11, .int .i64 k)], []⟩) (fun k => k ≤ 6 ∧ okR s k) (fun k => 6 - k) 0 ?_ ⟨by omega, fun i hi => by omega⟩ ?_
  · simp (disch := first | omega | (simp only [pvl] at *; omega)) only [↓pvd, pv0, pv1, pv2, pv3, pv4, pv5, pv6, pv7, pvc0, pvc1, pvc2, Pv.put, bin2, int2, binB2, un1, AV.flat, pvf, rvs_1, rvs_2, szOk, notStr, setCells, AV.one, resX, layC, layA, lay, List.map, List.replicate, List.length_replicate, pvq0, pvq1, seval, reduceCtorEq]
    rfl
  intro k ⟨hk, hok⟩
  unfold Tryd.c55b0
  simp (disch := first | omega | (simp only [pvl] at *; omega)) only [↓pvd, pv0, pv1, pv2, pv3, pv4, pv5, pv6, pv7, pvc0, pvc1, pvc2, Pv.put, bin2, int2, binB2, un1, AV.flat, pvf, rvs_1, rvs_2, szOk, notStr, setCells, AV.one, resX, layC, layA, lay, List.map, List.replicate, List.length_replicate, pvq0, pvq1, seval, reduceCtorEq]
  refine condP_d (fun hc => ?_) (fun hc => ?_)
  · have hn := num_s s k (by omega) hok
    have d1 := dg_b s[3 * k]!
    have d2 := dg_b s[3 * k + 1]!
    have g1 := digit_run s[3 * k]!
    have g2 := digit_run s[3 * k + 1]!
    simp (disch := first | omega | (simp only [pvl]; omega)) only [↓pvd, pv0, pv1, pv2, pv3, pv4, pv5, pv6, pv7, pvc0, pvc1, pvc2, Pv.put, bin2, int2, binB2, un1, AV.flat, pvf, rvs_1, rvs_2, szOk, notStr, setCells, AV.one, resX, layC, layA, lay, List.map, List.replicate, List.length_replicate, pvq0, pvq1, seval, reduceCtorEq, str_get]
    refine awR_callD g1 rfl rfl (fun _ => rfl) ?_
    simp (disch := first | omega | (simp only [pvl] at *; omega)) only [↓pvd, pv0, pv1, pv2, pv3, pv4, pv5, pv6, pv7, pvc0, pvc1, pvc2, Pv.put, bin2, int2, binB2, un1, AV.flat, pvf, rvs_1, rvs_2, szOk, notStr, setCells, AV.one, resX, layC, layA, lay, List.map, List.replicate, List.length_replicate, pvq0, pvq1, seval, reduceCtorEq]
    refine awR_callD g2 rfl rfl (fun _ => rfl) ?_
    simp (disch := first | omega | (simp only [pvl] at *; omega)) only [↓pvd, pv0, pv1, pv2, pv3, pv4, pv5, pv6, pv7, pvc0, pvc1, pvc2, Pv.put, bin2, int2, binB2, un1, AV.flat, pvf, rvs_1, rvs_2, szOk, notStr, setCells, AV.one, resX, layC, layA, lay, List.map, List.replicate, List.length_replicate, pvq0, pvq1, seval, reduceCtorEq]
    have hno : ¬ (dg s[3 * k]! ≤ 15 ∧ dg s[3 * k + 1]! ≤ 15 ∧ (k + 1 < 6 → s[3 * k + 2]!.toNat = 58)) → rdm s = (0, false) := by
      intro hx
      unfold rdm; rw [if_neg]; rintro ⟨_, h2⟩; exact hx (h2 k (by omega))
    have hyes : (dg s[3 * k]! ≤ 15 ∧ dg s[3 * k + 1]! ≤ 15 ∧ (k + 1 < 6 → s[3 * k + 2]!.toNat = 58)) → okR s (k + 1) := by
      intro hx i hi
      by_cases h : i < k
      · exact hok i h
      · have : i = k := by omega
        subst this; exact hx
    have hns : num s (k + 1) = num s k * 256 + (dg s[3 * k]! * 16 + dg s[3 * k + 1]!) := rfl
    generalize dg s[3 * k]! = x at *
    generalize dg s[3 * k + 1]! = y at *
    generalize num s k = n at *
    generalize hn' : num s (k + 1) = n' at *
    have tk : (3 * (k : Int) + 2).toNat = 3 * k + 2 := by omega
    repeat' (first | simp (disch := first | omega | (simp only [pvl]; omega)) only [↓pvd, pv0, pv1, pv2, pv3, pv4, pv5, pv6, pv7, pvc0, pvc1, pvc2, Pv.put, bin2, int2, binB2, un1, AV.flat, pvf, rvs_1, rvs_2, szOk, notStr, setCells, AV.one, resX, layC, layA, lay, List.map, List.replicate, List.length_replicate, pvq0, pvq1, seval, reduceCtorEq, str_get, or_u64_4] | with_reducible refine condP_d (fun _ => ?_) (fun _ => ?_) | with_reducible refine guardP_d0 (fun _ => ?_) (fun _ => ?_) | with_reducible refine guardP_d1 (fun _ => ?_) (fun _ => ?_) | with_reducible refine condP_any ?_ ?_)
    all_goals simp only [tk] at *
    all_goals first
      | (rw [hno (by omega)]; (refine Ends_rq [] ?_; simp (disch := first | omega | (simp only [pvl]; omega)) only [↓pvd, pv0, pv1, pv2, pv3, pv4, pv5, pv6, pv7, pvc0, pvc1, pvc2, Pv.put, bin2, int2, binB2, un1, AV.flat, pvf, rvs_1, rvs_2, szOk, notStr, setCells, AV.one, resX, layC, layA, lay, List.map, List.replicate, List.length_replicate, pvq0, pvq1, seval, reduceCtorEq]; exact ⟨_, rfl, rfl, rfl⟩); done)
      | (refine ⟨k + 1, ?_, ⟨by omega, hyes (by omega)⟩, by omega⟩
         rw [hn', hns]
         simp only [St.mk.injEq, List.cons.injEq, Prod.mk.injEq, AV.int.injEq, and_true, true_and]
         omega)
  · have : k = 6 := by omega
    subst this
    have e : rdm s = (num s 6, true) := by unfold rdm; rw [if_pos ⟨hl', hok⟩]
    rw [e]
    simp (disch := first | omega | (simp only [pvl] at *; omega)) only [↓pvd, pv0, pv1, pv2, pv3, pv4, pv5, pv6, pv7, pvc0, pvc1, pvc2, Pv.put, bin2, int2, binB2, un1, AV.flat, pvf, rvs_1, rvs_2, szOk, notStr, setCells, AV.one, resX, layC, layA, lay, List.map, List.replicate, List.length_replicate, pvq0, pvq1, seval, reduceCtorEq]
    (refine Ends_rq [] ?_; simp (disch := first | omega | (simp only [pvl]; omega)) only [↓pvd, pv0, pv1, pv2, pv3, pv4, pv5, pv6, pv7, pvc0, pvc1, pvc2, Pv.put, bin2, int2, binB2, un1, AV.flat, pvf, rvs_1, rvs_2, szOk, notStr, setCells, AV.one, resX, layC, layA, lay, List.map, List.replicate, List.length_replicate, pvq0, pvq1, seval, reduceCtorEq]; exact ⟨_, rfl, rfl, rfl⟩)
/-! The reference's. -/
end Mc
end Go.Proofs

set_option linter.unusedSimpArgs false
set_option linter.unusedVariables false
set_option maxHeartbeats 2000000
set_option maxRecDepth 20000
namespace Go.Proofs
namespace Mc
open Go.Pv
end Mc
end Go.Proofs

set_option linter.unusedSimpArgs false
set_option linter.unusedVariables false
set_option maxHeartbeats 2000000
set_option maxRecDepth 20000
namespace Go.Proofs
namespace Nm
open Go.Pv
theorem str_pl (l : List UInt8) : (AV.str l).pl = true := rfl
theorem str_nr (l : List UInt8) : (AV.str l).nr1 = true := rfl
theorem rows_run (b : List UInt8) (f : Bool) (hb : b.length ≤ 100000) (h1 : b.length ≤ 20000) :
    Run Tryd.prog 23 [.sl 1 (bys b) f] (if 400 < (spl b).length then .tup [.sl 0 [] true, .int .i64 3] else .tup [.own 1 9 ((spl b).map .str), .int .i64 0]) := by
  have hs := spl_le b
  refine Tryd.run23 (by simp) ?_
  unfold Tryd.c23
  simp (disch := first | omega | (simp only [pvl] at *; omega)) only [↓pvd, pv0, pv1, pv2, pv3, pv4, pv5, pv6, pv7, pvc0, pvc1, pvc2, Pv.put, bin2, int2, binB2, un1, AV.flat, pvf, rvs_1, rvs_2, szOk, notStr, setCells, AV.one, resX, layC, layA, lay, List.map, List.replicate, List.length_replicate, pvq0, pvq1, seval, reduceCtorEq]
  refine aw_loop (fun a : List (List UInt8) × List UInt8 => ⟨[(4, .vec 0 1 0 a.1.length), (5, .str a.2)], [some ⟨9, a.1.map .str, true⟩]⟩) (fun a => a.1 ++ spl a.2 = spl b ∧ a.2.length ≤ b.length) (fun a => a.2.length) ([], b) ?_ ⟨rfl, Nat.le_refl _⟩ ?_
  · simp (disch := first | omega | (simp only [pvl] at *; omega)) only [↓pvd, pv0, pv1, pv2, pv3, pv4, pv5, pv6, pv7, pvc0, pvc1, pvc2, Pv.put, bin2, int2, binB2, un1, AV.flat, pvf, rvs_1, rvs_2, szOk, notStr, setCells, AV.one, resX, layC, layA, lay, List.map, List.replicate, List.length_replicate, pvq0, pvq1, seval, reduceCtorEq]
  rintro ⟨o, r⟩ ⟨ho, hr⟩
  dsimp only at ho hr ⊢
  unfold Tryd.c23b0
  have q := cut_run r 10 (by omega)
  by_cases he : r = []
  · subst he
    simp only [spl, List.append_nil] at ho
    subst ho
    simp (disch := first | omega | (simp only [pvl] at *; omega)) only [↓pvd, pv0, pv1, pv2, pv3, pv4, pv5, pv6, pv7, pvc0, pvc1, pvc2, Pv.put, bin2, int2, binB2, un1, AV.flat, pvf, rvs_1, rvs_2, szOk, notStr, setCells, AV.one, resX, layC, layA, lay, List.map, List.replicate, List.length_replicate, pvq0, pvq1, seval, reduceCtorEq]
    by_cases h4 : 400 < (spl b).length
    · rw [if_pos h4]
      simp (disch := first | omega | (simp only [pvl] at *; omega)) only [↓pvd, pv0, pv1, pv2, pv3, pv4, pv5, pv6, pv7, pvc0, pvc1, pvc2, Pv.put, bin2, int2, binB2, un1, AV.flat, pvf, rvs_1, rvs_2, szOk, notStr, setCells, AV.one, resX, layC, layA, lay, List.map, List.replicate, List.length_replicate, pvq0, pvq1, seval, reduceCtorEq]
      (refine Ends_rq [] ?_; simp (disch := first | omega | (simp only [pvl]; omega)) only [↓pvd, pv0, pv1, pv2, pv3, pv4, pv5, pv6, pv7, pvc0, pvc1, pvc2, Pv.put, bin2, int2, binB2, un1, AV.flat, pvf, rvs_1, rvs_2, szOk, notStr, setCells, AV.one, resX, layC, layA, lay, List.map, List.replicate, List.length_replicate, pvq0, pvq1, seval, reduceCtorEq]; exact ⟨_, rfl, rfl, rfl⟩)
    · rw [if_neg h4]
      simp (disch := first | omega | (simp only [pvl] at *; omega)) only [↓pvd, pv0, pv1, pv2, pv3, pv4, pv5, pv6, pv7, pvc0, pvc1, pvc2, Pv.put, bin2, int2, binB2, un1, AV.flat, pvf, rvs_1, rvs_2, szOk, notStr, setCells, AV.one, resX, layC, layA, lay, List.map, List.replicate, List.length_replicate, pvq0, pvq1, seval, reduceCtorEq]
      (refine Ends_rq [[.own 1 9], [.snap]] ?_; simp (disch := first | omega | (simp only [pvl]; omega)) only [↓pvd, pv0, pv1, pv2, pv3, pv4, pv5, pv6, pv7, pvc0, pvc1, pvc2, Pv.put, bin2, int2, binB2, un1, AV.flat, pvf, rvs_1, rvs_2, szOk, notStr, setCells, AV.one, resX, layC, layA, lay, List.map, List.replicate, List.length_replicate, pvq0, pvq1, seval, reduceCtorEq, ids_map str_pl, ren_map str_pl, mapO_map str_nr, rows_map str_nr]; exact ⟨_, rfl, rfl, rfl⟩)
  · have h2 := spl_cut r he
    have h3 := cut_len r he
    have h5 : o.length + (spl r).length = (spl b).length := by rw [← ho, List.length_append]
    have h6 := congrArg List.length h2
    rw [List.length_cons] at h6
    generalize cutV r 10 = cv at *
    obtain ⟨w, r2, fd⟩ := cv
    dsimp only at h2 h3 h6 q ⊢
    simp (disch := first | omega | (simp only [pvl] at *; omega)) only [↓pvd, pv0, pv1, pv2, pv3, pv4, pv5, pv6, pv7, pvc0, pvc1, pvc2, Pv.put, bin2, int2, binB2, un1, AV.flat, pvf, rvs_1, rvs_2, szOk, notStr, setCells, AV.one, resX, layC, layA, lay, List.map, List.replicate, List.length_replicate, pvq0, pvq1, seval, reduceCtorEq]
    refine awR_call q rfl rfl ?_
    simp (disch := first | omega | (simp only [pvl]; omega)) only [↓pvd, pv0, pv1, pv2, pv3, pv4, pv5, pv6, pv7, pvc0, pvc1, pvc2, Pv.put, bin2, int2, binB2, un1, AV.flat, pvf, rvs_1, rvs_2, szOk, notStr, setCells, AV.one, resX, layC, layA, lay, List.map, List.replicate, List.length_replicate, pvq0, pvq1, seval, reduceCtorEq, ids_map str_pl, ren_map str_pl, List.flatMap_append, List.map_append]
    refine ⟨(o ++ [w], r2), ?_, ⟨?_, ?_⟩, h3⟩
    · simp (disch := first | omega | (simp only [pvl]; omega)) only [↓pvd, pv0, pv1, pv2, pv3, pv4, pv5, pv6, pv7, pvc0, pvc1, pvc2, Pv.put, bin2, int2, binB2, un1, AV.flat, pvf, rvs_1, rvs_2, szOk, notStr, setCells, AV.one, resX, layC, layA, lay, List.map, List.replicate, List.length_replicate, pvq0, pvq1, seval, reduceCtorEq, ids_map str_pl, ren_map str_pl, List.flatMap_append, List.map_append]
      try simp
    · rw [← ho, h2]; simp
    · dsimp only; omega
end Nm
end Go.Proofs

set_option linter.unusedSimpArgs false
set_option linter.unusedVariables false
set_option maxHeartbeats 2000000
set_option maxRecDepth 20000
namespace Go.Proofs
namespace Nm
open Go.Pv
end Nm
end Go.Proofs

set_option linter.unusedSimpArgs false
set_option linter.unusedVariables false
set_option maxHeartbeats 2000000
set_option maxRecDepth 20000
namespace Go.Proofs
namespace Nm
open Go.Pv
theorem rows_big (b : List UInt8) (f : Bool) (hb : b.length ≤ 100000) (h1 : ¬ b.length ≤ 20000) :
    Run Tryd.prog 23 [.sl 1 (bys b) f] (.tup [.sl 0 [] true, .int .i64 3]) := by
  refine Tryd.run23 (by simp) ?_
  unfold Tryd.c23
  simp (disch := first | omega | (simp only [pvl] at *; omega)) only [↓pvd, pv0, pv1, pv2, pv3, pv4, pv5, pv6, pv7, pvc0, pvc1, pvc2, Pv.put, bin2, int2, binB2, un1, AV.flat, pvf, rvs_1, rvs_2, szOk, notStr, setCells, AV.one, resX, layC, layA, lay, List.map, List.replicate, List.length_replicate, pvq0, pvq1, seval, reduceCtorEq]
  (refine Ends_rq [] ?_; simp (disch := first | omega | (simp only [pvl]; omega)) only [↓pvd, pv0, pv1, pv2, pv3, pv4, pv5, pv6, pv7, pvc0, pvc1, pvc2, Pv.put, bin2, int2, binB2, un1, AV.flat, pvf, rvs_1, rvs_2, szOk, notStr, setCells, AV.one, resX, layC, layA, lay, List.map, List.replicate, List.length_replicate, pvq0, pvq1, seval, reduceCtorEq]; exact ⟨_, rfl, rfl, rfl⟩)
end Nm
end Go.Proofs

set_option linter.unusedSimpArgs false
set_option linter.unusedVariables false
set_option maxHeartbeats 2000000
set_option maxRecDepth 20000
namespace Go.Proofs
namespace Nm
open Go.Pv
/-- The heap of the closure: the row, what is out, where a word begins. -/
def stH (w : List UInt8) (fr : Nat) : List (List UInt8) → Hp
  | [] => [some ⟨9, [.str w], true⟩, some ⟨38, [.sl 0 [] true], true⟩, some ⟨3, [.int .i64 fr], true⟩]
  | o :: r => [some ⟨9, [.str w], true⟩, some ⟨38, [.vec 2 1 0 (o :: r).length], true⟩, some ⟨9, (o :: r).map .str, true⟩, some ⟨3, [.int .i64 fr], true⟩]
/-- Where the place of a word's begin lies. -/
def stK : List (List UInt8) → Nat
  | [] => 2
  | _ :: _ => 3
theorem stK_ne {L : List (List UInt8)} (h : L ≠ []) : stK L = 3 := by
  cases L with
  | nil => exact absurd rfl h
  | cons o r => rfl
theorem stK_nil : stK [] = 2 := rfl
theorem str1_no (w : List UInt8) (i fr : Nat) (out : List (List UInt8)) (hw : w.length ≤ 100000) (hi : i ≤ w.length) (h : i ≤ fr) :
    Gen Tryd.prog 72 [.int .i64 i, .eptr (stK out) 0 0, .eptr 1 0 0, .eptr 0 0 0] (stH w fr out) (.tup []) (stH w (i + 1) out) := by
  refine Tryd.gen72 (by simp) ?_
  unfold Tryd.c72
  cases out with
  | nil =>
    unfold stH stK
    simp (disch := first | omega | (simp only [pvl] at *; omega)) only [↓pvd, pv0, pv1, pv2, pv3, pv4, pv5, pv6, pv7, pvc0, pvc1, pvc2, Pv.put, bin2, int2, binB2, un1, AV.flat, pvf, rvs_1, rvs_2, szOk, notStr, setCells, AV.one, resX, layC, layA, lay, List.map, List.replicate, List.length_replicate, pvq0, pvq1, seval, reduceCtorEq]
    exact ⟨rfl, rfl⟩
  | cons o r =>
    unfold stH stK
    simp (disch := first | omega | (simp only [pvl] at *; omega)) only [↓pvd, pv0, pv1, pv2, pv3, pv4, pv5, pv6, pv7, pvc0, pvc1, pvc2, Pv.put, bin2, int2, binB2, un1, AV.flat, pvf, rvs_1, rvs_2, szOk, notStr, setCells, AV.one, resX, layC, layA, lay, List.map, List.replicate, List.length_replicate, pvq0, pvq1, seval, reduceCtorEq]
    exact ⟨rfl, rfl⟩
theorem str1_nil (w : List UInt8) (i fr : Nat) (hw : w.length ≤ 100000) (hi : i ≤ w.length) (h : fr < i) :
    Gen Tryd.prog 72 [.int .i64 i, .eptr 2 0 0, .eptr 1 0 0, .eptr 0 0 0] (stH w fr []) (.tup [])
      ([some ⟨9, [.str w], true⟩, some ⟨38, [.vec 9 1 0 1], true⟩, some ⟨3, [.int .i64 (i + 1)], true⟩, none, none, none, none, none, some ⟨9, [.str ((w.take i).drop fr)], true⟩, some ⟨9, [.str ((w.take i).drop fr)], true⟩, none]) := by
  refine Tryd.gen72 (by simp) ?_
  unfold Tryd.c72
  unfold stH
  simp (disch := first | omega | (simp only [pvl] at *; omega)) only [↓pvd, pv0, pv1, pv2, pv3, pv4, pv5, pv6, pv7, pvc0, pvc1, pvc2, Pv.put, bin2, int2, binB2, un1, AV.flat, pvf, rvs_1, rvs_2, szOk, notStr, setCells, AV.one, resX, layC, layA, lay, List.map, List.replicate, List.length_replicate, pvq0, pvq1, seval, reduceCtorEq]
  exact ⟨rfl, rfl⟩
theorem str1_app (w : List UInt8) (i fr : Nat) (o : List UInt8) (r : List (List UInt8)) (hw : w.length ≤ 100000) (hi : i ≤ w.length) (h : fr < i) (hr : r.length ≤ 100000) :
    Gen Tryd.prog 72 [.int .i64 i, .eptr 3 0 0, .eptr 1 0 0, .eptr 0 0 0] (stH w fr (o :: r)) (.tup [])
      ([some ⟨9, [.str w], true⟩, some ⟨38, [.vec 10 1 0 ((o :: r).length + 1)], true⟩, some ⟨9, [], false⟩, some ⟨3, [.int .i64 (i + 1)], true⟩, none, none, none, none, none, some ⟨9, [.str ((w.take i).drop fr)], true⟩, some ⟨9, (o :: r).map .str ++ [.str ((w.take i).drop fr)], true⟩, none]) := by
  refine Tryd.gen72 (by simp) ?_
  unfold Tryd.c72
  unfold stH
  simp (disch := first | omega | (simp only [pvl] at *; omega)) only [↓pvd, pv0, pv1, pv2, pv3, pv4, pv5, pv6, pv7, pvc0, pvc1, pvc2, Pv.put, bin2, int2, binB2, un1, AV.flat, pvf, rvs_1, rvs_2, szOk, notStr, setCells, AV.one, resX, layC, layA, lay, List.map, List.replicate, List.length_replicate, pvq0, pvq1, seval, reduceCtorEq]
  exact ⟨rfl, rfl⟩
theorem stH_ne (w : List UInt8) (fr : Nat) (L : List (List UInt8)) (h : L ≠ []) : stH w fr L = [some ⟨9, [.str w], true⟩, some ⟨38, [.vec 2 1 0 L.length], true⟩, some ⟨9, L.map .str, true⟩, some ⟨3, [.int .i64 fr], true⟩] := by
  cases L with
  | nil => exact absurd rfl h
  | cons o r => rfl
theorem str1_appL (w : List UInt8) (i fr : Nat) (L : List (List UInt8)) (h0 : L ≠ []) (hw : w.length ≤ 100000) (hi : i ≤ w.length) (h : fr < i) (hr : L.length ≤ 100000) :
    Gen Tryd.prog 72 [.int .i64 i, .eptr 3 0 0, .eptr 1 0 0, .eptr 0 0 0] (stH w fr L) (.tup [])
      ([some ⟨9, [.str w], true⟩, some ⟨38, [.vec 10 1 0 (L.length + 1)], true⟩, some ⟨9, [], false⟩, some ⟨3, [.int .i64 (i + 1)], true⟩, none, none, none, none, none, some ⟨9, [.str ((w.take i).drop fr)], true⟩, some ⟨9, L.map .str ++ [.str ((w.take i).drop fr)], true⟩, none]) := by
  cases L with
  | nil => exact absurd rfl h0
  | cons o r => exact str1_app w i fr o r hw hi h (by simp at hr; omega)
end Nm
end Go.Proofs

set_option linter.unusedSimpArgs false
set_option linter.unusedVariables false
set_option maxHeartbeats 2000000
set_option maxRecDepth 20000
namespace Go.Proofs
namespace Nm
open Go.Pv
/-- A word's end: the words with this one, if it has bytes. -/
def enO (w : List UInt8) (i fr : Nat) (out : List (List UInt8)) : List (List UInt8) := if fr < i then out ++ [(w.take i).drop fr] else out
/-- The words of a row, as the program looks for them. -/
def swF (w : List UInt8) : Nat → Nat → Nat → List (List UInt8) → List (List UInt8)
  | 0, i, fr, out => enO w i fr out
  | n + 1, i, fr, out => if i < w.length then
      if w[i]! = 35 then enO w i fr out
      else if w[i]! = 32 ∨ w[i]! = 9 then swF w n (i + 1) (i + 1) (enO w i fr out)
      else swF w n (i + 1) fr out
    else enO w i fr out
def swV (w : List UInt8) : List (List UInt8) := swF w (w.length + 1) 0 0 []
def strR (l : List (List UInt8)) : AV := if l = [] then .sl 0 [] true else .own 1 9 (l.map .str)
def stS (w : List UInt8) (a : Nat × Nat × List (List UInt8)) : St := ⟨[(1, .eptr 0 0 0), (3, .eptr 1 0 0), (5, .fn 72 [.eptr (stK a.2.2) 0 0, .eptr 1 0 0, .eptr 0 0 0]), (6, .int .i64 a.1)], stH w a.2.1 a.2.2⟩
end Nm
end Go.Proofs

set_option linter.unusedSimpArgs false
set_option linter.unusedVariables false
set_option maxHeartbeats 2000000
set_option maxRecDepth 20000
namespace Go.Proofs
namespace Nm
open Go.Pv
theorem swF_stop (w : List UInt8) (n i fr : Nat) (out : List (List UInt8)) (h : i < w.length → w[i]! = 35) : swF w n i fr out = enO w i fr out := by
  cases n with
  | zero => rfl
  | succ n =>
    unfold swF
    split
    · rw [if_pos (h ‹_›)]
    · rfl
theorem swF_blank (w : List UInt8) (i fr : Nat) (out : List (List UInt8)) (hi : i < w.length) (h : w[i]! ≠ 35) (hb : w[i]! = 32 ∨ w[i]! = 9) : swF w (w.length + 1 - i) i fr out = swF w (w.length + 1 - (i + 1)) (i + 1) (i + 1) (enO w i fr out) := by
  rw [show w.length + 1 - i = (w.length + 1 - (i + 1)) + 1 by omega, swF, if_pos hi, if_neg h, if_pos hb]
theorem swF_other (w : List UInt8) (i fr : Nat) (out : List (List UInt8)) (hi : i < w.length) (h : w[i]! ≠ 35) (hb : ¬(w[i]! = 32 ∨ w[i]! = 9)) : swF w (w.length + 1 - i) i fr out = swF w (w.length + 1 - (i + 1)) (i + 1) fr out := by
  rw [show w.length + 1 - i = (w.length + 1 - (i + 1)) + 1 by omega, swF, if_pos hi, if_neg h, if_neg hb]
theorem stH_nil (w : List UInt8) (fr : Nat) : stH w fr [] = [some ⟨9, [.str w], true⟩, some ⟨38, [.sl 0 [] true], true⟩, some ⟨3, [.int .i64 fr], true⟩] := rfl
theorem u8ne {x : UInt8} {n : Nat} (h : x ≠ n.toUInt8) (hn : n < 256) : ¬((x.toNat : Int) = n) := by
  intro e
  apply h
  apply UInt8.toNat_inj.1
  simp
  omega
theorem stretches_run (w : List UInt8) (hw : w.length ≤ 50000) :
    Run Tryd.prog 50 [.str w] (strR (swV w)) := by
  refine Tryd.run50 (by simp) ?_
  unfold Tryd.c50
  simp (disch := first | omega | (simp only [pvl] at *; omega)) only [↓pvd, pv0, pv1, pv2, pv3, pv4, pv5, pv6, pv7, pvc0, pvc1, pvc2, Pv.put, bin2, int2, binB2, un1, AV.flat, pvf, rvs_1, rvs_2, szOk, notStr, setCells, AV.one, resX, layC, layA, lay, List.map, List.replicate, List.length_replicate, pvq0, pvq1, seval, reduceCtorEq]
  refine aw_loop (stS w) (fun a => swF w (w.length + 1 - a.1) a.1 a.2.1 a.2.2 = swV w ∧ a.1 ≤ w.length ∧ a.2.2.length ≤ a.1) (fun a => w.length - a.1) (0, 0, []) rfl ⟨rfl, by simp, by simp⟩ ?_
  rintro ⟨i, fr, out⟩ ⟨hs, hi, hl⟩
  dsimp only at hs hi hl
  unfold stS Tryd.c50b0
  dsimp only
  by_cases h0 : out = []
  · subst h0
    by_cases hx : i < w.length
    · have hgi : w[i]? = some w[i]! := by rw [getElem!_pos w i hx, List.getElem?_eq_getElem hx]
      by_cases h35 : w[i]! = 35
      · have hq : ((w[i]!.toNat : Nat) : Int) = 35 := by rw [h35]; rfl
        rw [swF_stop w _ i fr [] (fun _ => h35)] at hs
        unfold strR
        rw [← hs]
        by_cases hf : fr < i
        · have q := str1_nil w i fr (by omega) hi hf
          rw [show enO w i fr [] = [(w.take i).drop fr] by unfold enO; rw [if_pos hf]; rfl, if_neg (by simp)]
          simp only [stH_nil, stK_nil] at q ⊢
          simp (disch := first | omega | (simp only [pvl]; omega)) only [↓pvd, pv0, pv1, pv2, pv3, pv4, pv5, pv6, pv7, pvc0, pvc1, pvc2, Pv.put, bin2, int2, binB2, un1, AV.flat, pvf, rvs_1, rvs_2, szOk, notStr, setCells, AV.one, resX, layC, layA, lay, List.map, List.replicate, List.length_replicate, pvq0, pvq1, seval, reduceCtorEq, hgi, bv]
          skip
          refine awR_callv rfl q (by simp) ?_
          simp (disch := first | omega | (simp only [pvl] at *; omega)) only [↓pvd, pv0, pv1, pv2, pv3, pv4, pv5, pv6, pv7, pvc0, pvc1, pvc2, Pv.put, bin2, int2, binB2, un1, AV.flat, pvf, rvs_1, rvs_2, szOk, notStr, setCells, AV.one, resX, layC, layA, lay, List.map, List.replicate, List.length_replicate, pvq0, pvq1, seval, reduceCtorEq]
          (refine Ends_rq [[.own 1 9]] ?_; simp (disch := first | omega | (simp only [pvl]; omega)) only [↓pvd, pv0, pv1, pv2, pv3, pv4, pv5, pv6, pv7, pvc0, pvc1, pvc2, Pv.put, bin2, int2, binB2, un1, AV.flat, pvf, rvs_1, rvs_2, szOk, notStr, setCells, AV.one, resX, layC, layA, lay, List.map, List.replicate, List.length_replicate, pvq0, pvq1, seval, reduceCtorEq]; exact ⟨_, rfl, rfl, rfl⟩)
        · have q := str1_no w i fr [] (by omega) hi (by omega)
          rw [show enO w i fr [] = [] by unfold enO; rw [if_neg hf]]
          rw [if_pos rfl]
          simp only [stH_nil, stK_nil] at q ⊢
          simp (disch := first | omega | (simp only [pvl]; omega)) only [↓pvd, pv0, pv1, pv2, pv3, pv4, pv5, pv6, pv7, pvc0, pvc1, pvc2, Pv.put, bin2, int2, binB2, un1, AV.flat, pvf, rvs_1, rvs_2, szOk, notStr, setCells, AV.one, resX, layC, layA, lay, List.map, List.replicate, List.length_replicate, pvq0, pvq1, seval, reduceCtorEq, hgi, bv]
          skip
          refine awR_callv rfl q (by simp) ?_
          simp (disch := first | omega | (simp only [pvl] at *; omega)) only [↓pvd, pv0, pv1, pv2, pv3, pv4, pv5, pv6, pv7, pvc0, pvc1, pvc2, Pv.put, bin2, int2, binB2, un1, AV.flat, pvf, rvs_1, rvs_2, szOk, notStr, setCells, AV.one, resX, layC, layA, lay, List.map, List.replicate, List.length_replicate, pvq0, pvq1, seval, reduceCtorEq]
          (refine Ends_rq [] ?_; simp (disch := first | omega | (simp only [pvl]; omega)) only [↓pvd, pv0, pv1, pv2, pv3, pv4, pv5, pv6, pv7, pvc0, pvc1, pvc2, Pv.put, bin2, int2, binB2, un1, AV.flat, pvf, rvs_1, rvs_2, szOk, notStr, setCells, AV.one, resX, layC, layA, lay, List.map, List.replicate, List.length_replicate, pvq0, pvq1, seval, reduceCtorEq]; exact ⟨_, rfl, rfl, rfl⟩)
      · have h35' : ¬ ((w[i]!.toNat : Nat) : Int) = 35 := u8ne (n := 35) h35 (by omega)
        by_cases hb : w[i]! = 32 ∨ w[i]! = 9
        · rw [swF_blank w i fr [] hx h35 hb] at hs
          by_cases hf : fr < i
          · have q := str1_nil w i fr (by omega) hi hf
            rw [show enO w i fr [] = [(w.take i).drop fr] by unfold enO; rw [if_pos hf]; rfl] at hs
            simp only [stH_nil, stK_nil] at q ⊢
            have hq : ((w[i]!.toNat : Nat) : Int) = 32 ∨ ((w[i]!.toNat : Nat) : Int) = 9 := by rcases hb with hb | hb <;> rw [hb] <;> simp
            rcases hq with hq | hq
            all_goals
              simp (disch := first | omega | (simp only [pvl]; omega)) only [↓pvd, pv0, pv1, pv2, pv3, pv4, pv5, pv6, pv7, pvc0, pvc1, pvc2, Pv.put, bin2, int2, binB2, un1, AV.flat, pvf, rvs_1, rvs_2, szOk, notStr, setCells, AV.one, resX, layC, layA, lay, List.map, List.replicate, List.length_replicate, pvq0, pvq1, seval, reduceCtorEq, hgi, bv]
              refine awR_callv rfl q (by simp) ?_
              simp (disch := first | omega | (simp only [pvl]; omega)) only [↓pvd, pv0, pv1, pv2, pv3, pv4, pv5, pv6, pv7, pvc0, pvc1, pvc2, Pv.put, bin2, int2, binB2, un1, AV.flat, pvf, rvs_1, rvs_2, szOk, notStr, setCells, AV.one, resX, layC, layA, lay, List.map, List.replicate, List.length_replicate, pvq0, pvq1, seval, reduceCtorEq, ids_map str_pl, ren_map str_pl]
              refine ⟨(i + 1, i + 1, [(w.take i).drop fr]), rfl, ⟨hs, ?_, ?_⟩, ?_⟩ <;> dsimp only
              · omega
              · simp
              · omega
          · have q := str1_no w i fr [] (by omega) hi (by omega)
            rw [show enO w i fr [] = [] by unfold enO; rw [if_neg hf]] at hs
            simp only [stH_nil, stK_nil] at q ⊢
            have hq : ((w[i]!.toNat : Nat) : Int) = 32 ∨ ((w[i]!.toNat : Nat) : Int) = 9 := by rcases hb with hb | hb <;> rw [hb] <;> simp
            rcases hq with hq | hq
            all_goals
              simp (disch := first | omega | (simp only [pvl]; omega)) only [↓pvd, pv0, pv1, pv2, pv3, pv4, pv5, pv6, pv7, pvc0, pvc1, pvc2, Pv.put, bin2, int2, binB2, un1, AV.flat, pvf, rvs_1, rvs_2, szOk, notStr, setCells, AV.one, resX, layC, layA, lay, List.map, List.replicate, List.length_replicate, pvq0, pvq1, seval, reduceCtorEq, hgi, bv]
              refine awR_callv rfl q (by simp) ?_
              simp (disch := first | omega | (simp only [pvl]; omega)) only [↓pvd, pv0, pv1, pv2, pv3, pv4, pv5, pv6, pv7, pvc0, pvc1, pvc2, Pv.put, bin2, int2, binB2, un1, AV.flat, pvf, rvs_1, rvs_2, szOk, notStr, setCells, AV.one, resX, layC, layA, lay, List.map, List.replicate, List.length_replicate, pvq0, pvq1, seval, reduceCtorEq, ids_map str_pl, ren_map str_pl]
              refine ⟨(i + 1, i + 1, []), rfl, ⟨hs, ?_, ?_⟩, ?_⟩ <;> dsimp only
              · omega
              · simp
              · omega
        · rw [swF_other w i fr [] hx h35 hb] at hs
          have h32 : ¬ ((w[i]!.toNat : Nat) : Int) = 32 := u8ne (n := 32) (fun e => hb (.inl e)) (by omega)
          have h9 : ¬ ((w[i]!.toNat : Nat) : Int) = 9 := u8ne (n := 9) (fun e => hb (.inr e)) (by omega)
          simp only [stH_nil, stK_nil]
          simp (disch := first | omega | (simp only [pvl]; omega)) only [↓pvd, pv0, pv1, pv2, pv3, pv4, pv5, pv6, pv7, pvc0, pvc1, pvc2, Pv.put, bin2, int2, binB2, un1, AV.flat, pvf, rvs_1, rvs_2, szOk, notStr, setCells, AV.one, resX, layC, layA, lay, List.map, List.replicate, List.length_replicate, pvq0, pvq1, seval, reduceCtorEq, hgi, bv, ids_map str_pl, ren_map str_pl]
          refine ⟨(i + 1, fr, []), rfl, ⟨hs, ?_, ?_⟩, ?_⟩ <;> dsimp only
          · omega
          · simp
          · omega
    · rw [swF_stop w _ i fr [] (fun h => absurd h hx)] at hs
      unfold strR
      rw [← hs]
      by_cases hf : fr < i
      · have q := str1_nil w i fr (by omega) hi hf
        rw [show enO w i fr [] = [(w.take i).drop fr] by unfold enO; rw [if_pos hf]; rfl, if_neg (by simp)]
        simp only [stH_nil, stK_nil] at q ⊢
        simp (disch := first | omega | (simp only [pvl] at *; omega)) only [↓pvd, pv0, pv1, pv2, pv3, pv4, pv5, pv6, pv7, pvc0, pvc1, pvc2, Pv.put, bin2, int2, binB2, un1, AV.flat, pvf, rvs_1, rvs_2, szOk, notStr, setCells, AV.one, resX, layC, layA, lay, List.map, List.replicate, List.length_replicate, pvq0, pvq1, seval, reduceCtorEq]
        refine awR_callv rfl q (by simp) ?_
        simp (disch := first | omega | (simp only [pvl] at *; omega)) only [↓pvd, pv0, pv1, pv2, pv3, pv4, pv5, pv6, pv7, pvc0, pvc1, pvc2, Pv.put, bin2, int2, binB2, un1, AV.flat, pvf, rvs_1, rvs_2, szOk, notStr, setCells, AV.one, resX, layC, layA, lay, List.map, List.replicate, List.length_replicate, pvq0, pvq1, seval, reduceCtorEq]
        (refine Ends_rq [[.own 1 9]] ?_; simp (disch := first | omega | (simp only [pvl]; omega)) only [↓pvd, pv0, pv1, pv2, pv3, pv4, pv5, pv6, pv7, pvc0, pvc1, pvc2, Pv.put, bin2, int2, binB2, un1, AV.flat, pvf, rvs_1, rvs_2, szOk, notStr, setCells, AV.one, resX, layC, layA, lay, List.map, List.replicate, List.length_replicate, pvq0, pvq1, seval, reduceCtorEq]; exact ⟨_, rfl, rfl, rfl⟩)
      · have q := str1_no w i fr [] (by omega) hi (by omega)
        rw [show enO w i fr [] = [] by unfold enO; rw [if_neg hf]]
        rw [if_pos rfl]
        simp only [stH_nil, stK_nil] at q ⊢
        simp (disch := first | omega | (simp only [pvl] at *; omega)) only [↓pvd, pv0, pv1, pv2, pv3, pv4, pv5, pv6, pv7, pvc0, pvc1, pvc2, Pv.put, bin2, int2, binB2, un1, AV.flat, pvf, rvs_1, rvs_2, szOk, notStr, setCells, AV.one, resX, layC, layA, lay, List.map, List.replicate, List.length_replicate, pvq0, pvq1, seval, reduceCtorEq]
        refine awR_callv rfl q (by simp) ?_
        simp (disch := first | omega | (simp only [pvl] at *; omega)) only [↓pvd, pv0, pv1, pv2, pv3, pv4, pv5, pv6, pv7, pvc0, pvc1, pvc2, Pv.put, bin2, int2, binB2, un1, AV.flat, pvf, rvs_1, rvs_2, szOk, notStr, setCells, AV.one, resX, layC, layA, lay, List.map, List.replicate, List.length_replicate, pvq0, pvq1, seval, reduceCtorEq]
        (refine Ends_rq [] ?_; simp (disch := first | omega | (simp only [pvl]; omega)) only [↓pvd, pv0, pv1, pv2, pv3, pv4, pv5, pv6, pv7, pvc0, pvc1, pvc2, Pv.put, bin2, int2, binB2, un1, AV.flat, pvf, rvs_1, rvs_2, szOk, notStr, setCells, AV.one, resX, layC, layA, lay, List.map, List.replicate, List.length_replicate, pvq0, pvq1, seval, reduceCtorEq]; exact ⟨_, rfl, rfl, rfl⟩)
  · by_cases hx : i < w.length
    · have hgi : w[i]? = some w[i]! := by rw [getElem!_pos w i hx, List.getElem?_eq_getElem hx]
      by_cases h35 : w[i]! = 35
      · have hq : ((w[i]!.toNat : Nat) : Int) = 35 := by rw [h35]; rfl
        rw [swF_stop w _ i fr out (fun _ => h35)] at hs
        unfold strR
        rw [← hs]
        by_cases hf : fr < i
        · have q := str1_appL w i fr out h0 (by omega) hi hf (by omega)
          rw [show enO w i fr out = out ++ [(w.take i).drop fr] by unfold enO; rw [if_pos hf], if_neg (by simp)]
          simp only [stH_ne w fr out h0] at q
          generalize (w.take i).drop fr = z at q ⊢
          simp only [stK_ne h0, stH_ne w fr out h0]
          simp (disch := first | omega | (simp only [pvl]; omega)) only [↓pvd, pv0, pv1, pv2, pv3, pv4, pv5, pv6, pv7, pvc0, pvc1, pvc2, Pv.put, bin2, int2, binB2, un1, AV.flat, pvf, rvs_1, rvs_2, szOk, notStr, setCells, AV.one, resX, layC, layA, lay, List.map, List.replicate, List.length_replicate, pvq0, pvq1, seval, reduceCtorEq, hgi, bv]
          skip
          refine awR_callv rfl q (by simp) ?_
          simp (disch := first | omega | (simp only [pvl]; omega)) only [↓pvd, pv0, pv1, pv2, pv3, pv4, pv5, pv6, pv7, pvc0, pvc1, pvc2, Pv.put, bin2, int2, binB2, un1, AV.flat, pvf, rvs_1, rvs_2, szOk, notStr, setCells, AV.one, resX, layC, layA, lay, List.map, List.replicate, List.length_replicate, pvq0, pvq1, seval, reduceCtorEq, ids_map str_pl, ren_map str_pl, List.flatMap_append, List.map_append]
          rw [show out.length + 1 = (out ++ [z]).length by simp, show out.map AV.str ++ [AV.str z] = (out ++ [z]).map AV.str by simp]
          generalize out ++ [z] = L2
          (refine Ends_rq [[.own 1 9]] ?_; simp (disch := first | omega | (simp only [pvl]; omega)) only [↓pvd, pv0, pv1, pv2, pv3, pv4, pv5, pv6, pv7, pvc0, pvc1, pvc2, Pv.put, bin2, int2, binB2, un1, AV.flat, pvf, rvs_1, rvs_2, szOk, notStr, setCells, AV.one, resX, layC, layA, lay, List.map, List.replicate, List.length_replicate, pvq0, pvq1, seval, reduceCtorEq, ids_map str_pl, ren_map str_pl, mapO_map str_nr, rows_map str_nr]; exact ⟨_, rfl, rfl, rfl⟩)
        · have q := str1_no w i fr out (by omega) hi (by omega)
          rw [show enO w i fr out = out by unfold enO; rw [if_neg hf], if_neg h0]
          simp only [stK_ne h0, stH_ne w fr out h0, stH_ne w (i + 1) out h0] at q
          simp only [stK_ne h0, stH_ne w fr out h0]
          simp (disch := first | omega | (simp only [pvl]; omega)) only [↓pvd, pv0, pv1, pv2, pv3, pv4, pv5, pv6, pv7, pvc0, pvc1, pvc2, Pv.put, bin2, int2, binB2, un1, AV.flat, pvf, rvs_1, rvs_2, szOk, notStr, setCells, AV.one, resX, layC, layA, lay, List.map, List.replicate, List.length_replicate, pvq0, pvq1, seval, reduceCtorEq, hgi, bv]
          skip
          refine awR_callv rfl q (by simp) ?_
          simp (disch := first | omega | (simp only [pvl]; omega)) only [↓pvd, pv0, pv1, pv2, pv3, pv4, pv5, pv6, pv7, pvc0, pvc1, pvc2, Pv.put, bin2, int2, binB2, un1, AV.flat, pvf, rvs_1, rvs_2, szOk, notStr, setCells, AV.one, resX, layC, layA, lay, List.map, List.replicate, List.length_replicate, pvq0, pvq1, seval, reduceCtorEq, ids_map str_pl, ren_map str_pl]
          (refine Ends_rq [[.own 1 9]] ?_; simp (disch := first | omega | (simp only [pvl]; omega)) only [↓pvd, pv0, pv1, pv2, pv3, pv4, pv5, pv6, pv7, pvc0, pvc1, pvc2, Pv.put, bin2, int2, binB2, un1, AV.flat, pvf, rvs_1, rvs_2, szOk, notStr, setCells, AV.one, resX, layC, layA, lay, List.map, List.replicate, List.length_replicate, pvq0, pvq1, seval, reduceCtorEq, ids_map str_pl, ren_map str_pl, mapO_map str_nr, rows_map str_nr]; exact ⟨_, rfl, rfl, rfl⟩)
      · have h35' : ¬ ((w[i]!.toNat : Nat) : Int) = 35 := u8ne (n := 35) h35 (by omega)
        by_cases hb : w[i]! = 32 ∨ w[i]! = 9
        · rw [swF_blank w i fr out hx h35 hb] at hs
          by_cases hf : fr < i
          · have q := str1_appL w i fr out h0 (by omega) hi hf (by omega)
            rw [show enO w i fr out = out ++ [(w.take i).drop fr] by unfold enO; rw [if_pos hf]] at hs
            simp only [stK_ne h0, stH_ne w fr out h0] at q ⊢
            have hq : ((w[i]!.toNat : Nat) : Int) = 32 ∨ ((w[i]!.toNat : Nat) : Int) = 9 := by rcases hb with hb | hb <;> rw [hb] <;> simp
            rcases hq with hq | hq
            all_goals
              simp (disch := first | omega | (simp only [pvl]; omega)) only [↓pvd, pv0, pv1, pv2, pv3, pv4, pv5, pv6, pv7, pvc0, pvc1, pvc2, Pv.put, bin2, int2, binB2, un1, AV.flat, pvf, rvs_1, rvs_2, szOk, notStr, setCells, AV.one, resX, layC, layA, lay, List.map, List.replicate, List.length_replicate, pvq0, pvq1, seval, reduceCtorEq, hgi, bv]
              refine awR_callv rfl q (by simp) ?_
              simp (disch := first | omega | (simp only [pvl]; omega)) only [↓pvd, pv0, pv1, pv2, pv3, pv4, pv5, pv6, pv7, pvc0, pvc1, pvc2, Pv.put, bin2, int2, binB2, un1, AV.flat, pvf, rvs_1, rvs_2, szOk, notStr, setCells, AV.one, resX, layC, layA, lay, List.map, List.replicate, List.length_replicate, pvq0, pvq1, seval, reduceCtorEq, ids_map str_pl, ren_map str_pl, List.flatMap_append, List.map_append]
              refine ⟨(i + 1, i + 1, out ++ [(w.take i).drop fr]), ?_, ⟨hs, ?_, ?_⟩, ?_⟩ <;> dsimp only
              · rw [stH_ne _ _ _ (by simp), stK_ne (by simp)]
                simp
              · omega
              · simp; omega
              · omega
          · have q := str1_no w i fr out (by omega) hi (by omega)
            rw [show enO w i fr out = out by unfold enO; rw [if_neg hf]] at hs
            simp only [stK_ne h0, stH_ne w fr out h0, stH_ne w (i + 1) out h0] at q ⊢
            have hq : ((w[i]!.toNat : Nat) : Int) = 32 ∨ ((w[i]!.toNat : Nat) : Int) = 9 := by rcases hb with hb | hb <;> rw [hb] <;> simp
            rcases hq with hq | hq
            all_goals
              simp (disch := first | omega | (simp only [pvl]; omega)) only [↓pvd, pv0, pv1, pv2, pv3, pv4, pv5, pv6, pv7, pvc0, pvc1, pvc2, Pv.put, bin2, int2, binB2, un1, AV.flat, pvf, rvs_1, rvs_2, szOk, notStr, setCells, AV.one, resX, layC, layA, lay, List.map, List.replicate, List.length_replicate, pvq0, pvq1, seval, reduceCtorEq, hgi, bv]
              refine awR_callv rfl q (by simp) ?_
              simp (disch := first | omega | (simp only [pvl]; omega)) only [↓pvd, pv0, pv1, pv2, pv3, pv4, pv5, pv6, pv7, pvc0, pvc1, pvc2, Pv.put, bin2, int2, binB2, un1, AV.flat, pvf, rvs_1, rvs_2, szOk, notStr, setCells, AV.one, resX, layC, layA, lay, List.map, List.replicate, List.length_replicate, pvq0, pvq1, seval, reduceCtorEq, ids_map str_pl, ren_map str_pl]
              refine ⟨(i + 1, i + 1, out), ?_, ⟨hs, ?_, ?_⟩, ?_⟩ <;> dsimp only
              · rw [stH_ne _ _ _ h0, stK_ne h0]
                rfl
              · omega
              · omega
              · omega
        · rw [swF_other w i fr out hx h35 hb] at hs
          have h32 : ¬ ((w[i]!.toNat : Nat) : Int) = 32 := u8ne (n := 32) (fun e => hb (.inl e)) (by omega)
          have h9 : ¬ ((w[i]!.toNat : Nat) : Int) = 9 := u8ne (n := 9) (fun e => hb (.inr e)) (by omega)
          simp only [stK_ne h0, stH_ne w fr out h0]
          simp (disch := first | omega | (simp only [pvl]; omega)) only [↓pvd, pv0, pv1, pv2, pv3, pv4, pv5, pv6, pv7, pvc0, pvc1, pvc2, Pv.put, bin2, int2, binB2, un1, AV.flat, pvf, rvs_1, rvs_2, szOk, notStr, setCells, AV.one, resX, layC, layA, lay, List.map, List.replicate, List.length_replicate, pvq0, pvq1, seval, reduceCtorEq, hgi, bv, ids_map str_pl, ren_map str_pl]
          refine ⟨(i + 1, fr, out), ?_, ⟨hs, ?_, ?_⟩, ?_⟩ <;> dsimp only
          · rw [stH_ne _ _ _ h0, stK_ne h0]
            rfl
          · omega
          · omega
          · omega
    · rw [swF_stop w _ i fr out (fun h => absurd h hx)] at hs
      unfold strR
      rw [← hs]
      by_cases hf : fr < i
      · have q := str1_appL w i fr out h0 (by omega) hi hf (by omega)
        rw [show enO w i fr out = out ++ [(w.take i).drop fr] by unfold enO; rw [if_pos hf], if_neg (by simp)]
        simp only [stH_ne w fr out h0] at q
        generalize (w.take i).drop fr = z at q ⊢
        simp only [stK_ne h0, stH_ne w fr out h0]
        simp (disch := first | omega | (simp only [pvl] at *; omega)) only [↓pvd, pv0, pv1, pv2, pv3, pv4, pv5, pv6, pv7, pvc0, pvc1, pvc2, Pv.put, bin2, int2, binB2, un1, AV.flat, pvf, rvs_1, rvs_2, szOk, notStr, setCells, AV.one, resX, layC, layA, lay, List.map, List.replicate, List.length_replicate, pvq0, pvq1, seval, reduceCtorEq]
        refine awR_callv rfl q (by simp) ?_
        simp (disch := first | omega | (simp only [pvl]; omega)) only [↓pvd, pv0, pv1, pv2, pv3, pv4, pv5, pv6, pv7, pvc0, pvc1, pvc2, Pv.put, bin2, int2, binB2, un1, AV.flat, pvf, rvs_1, rvs_2, szOk, notStr, setCells, AV.one, resX, layC, layA, lay, List.map, List.replicate, List.length_replicate, pvq0, pvq1, seval, reduceCtorEq, ids_map str_pl, ren_map str_pl, List.flatMap_append, List.map_append]
        rw [show out.length + 1 = (out ++ [z]).length by simp, show out.map AV.str ++ [AV.str z] = (out ++ [z]).map AV.str by simp]
        generalize out ++ [z] = L2
        (refine Ends_rq [[.own 1 9]] ?_; simp (disch := first | omega | (simp only [pvl]; omega)) only [↓pvd, pv0, pv1, pv2, pv3, pv4, pv5, pv6, pv7, pvc0, pvc1, pvc2, Pv.put, bin2, int2, binB2, un1, AV.flat, pvf, rvs_1, rvs_2, szOk, notStr, setCells, AV.one, resX, layC, layA, lay, List.map, List.replicate, List.length_replicate, pvq0, pvq1, seval, reduceCtorEq, ids_map str_pl, ren_map str_pl, mapO_map str_nr, rows_map str_nr]; exact ⟨_, rfl, rfl, rfl⟩)
      · have q := str1_no w i fr out (by omega) hi (by omega)
        rw [show enO w i fr out = out by unfold enO; rw [if_neg hf], if_neg h0]
        simp only [stK_ne h0, stH_ne w fr out h0, stH_ne w (i + 1) out h0] at q
        simp only [stK_ne h0, stH_ne w fr out h0]
        simp (disch := first | omega | (simp only [pvl] at *; omega)) only [↓pvd, pv0, pv1, pv2, pv3, pv4, pv5, pv6, pv7, pvc0, pvc1, pvc2, Pv.put, bin2, int2, binB2, un1, AV.flat, pvf, rvs_1, rvs_2, szOk, notStr, setCells, AV.one, resX, layC, layA, lay, List.map, List.replicate, List.length_replicate, pvq0, pvq1, seval, reduceCtorEq]
        refine awR_callv rfl q (by simp) ?_
        simp (disch := first | omega | (simp only [pvl]; omega)) only [↓pvd, pv0, pv1, pv2, pv3, pv4, pv5, pv6, pv7, pvc0, pvc1, pvc2, Pv.put, bin2, int2, binB2, un1, AV.flat, pvf, rvs_1, rvs_2, szOk, notStr, setCells, AV.one, resX, layC, layA, lay, List.map, List.replicate, List.length_replicate, pvq0, pvq1, seval, reduceCtorEq, ids_map str_pl, ren_map str_pl]
        (refine Ends_rq [[.own 1 9]] ?_; simp (disch := first | omega | (simp only [pvl]; omega)) only [↓pvd, pv0, pv1, pv2, pv3, pv4, pv5, pv6, pv7, pvc0, pvc1, pvc2, Pv.put, bin2, int2, binB2, un1, AV.flat, pvf, rvs_1, rvs_2, szOk, notStr, setCells, AV.one, resX, layC, layA, lay, List.map, List.replicate, List.length_replicate, pvq0, pvq1, seval, reduceCtorEq, ids_map str_pl, ren_map str_pl, mapO_map str_nr, rows_map str_nr]; exact ⟨_, rfl, rfl, rfl⟩)
end Nm
end Go.Proofs

set_option linter.unusedSimpArgs false
set_option linter.unusedVariables false
set_option maxHeartbeats 2000000
set_option maxRecDepth 20000
namespace Go.Proofs
namespace Nm
open Go.Pv
/-- A byte of a word. -/
def okB (c : UInt8) : Bool := decide (32 < (c.toNat : Int) ∧ (c.toNat : Int) ≤ 126 ∧ ¬ (c.toNat : Int) = 35)
/-- A word. -/
def okW (w : List UInt8) : Bool := w.all okB && decide (w ≠ [] ∧ w.length ≤ 40)
theorem all_no {w : List UInt8} {i : Nat} (hi : i < w.length) (h : okB w[i]! = false) : w.all okB = false := by
  rw [List.all_eq_false]
  exact ⟨w[i]!, by rw [getElem!_pos w i hi]; exact List.getElem_mem hi, by rw [h]; simp⟩
theorem all_yes {w : List UInt8} (h : ∀ k, k < w.length → okB w[k]! = true) : w.all okB = true := by
  rw [List.all_eq_true]
  intro c hc
  obtain ⟨k, hk, rfl⟩ := List.mem_iff_getElem.1 hc
  have := h k hk
  rwa [getElem!_pos w k hk] at this
theorem lword_run (w : List UInt8) (hw : w.length ≤ 100000) : Run Tryd.prog 51 [.str w] (.bool (okW w)) := by
  refine Tryd.run51 (by simp) ?_
  unfold Tryd.c51
  simp (disch := first | omega | (simp only [pvl] at *; omega)) only [↓pvd, pv0, pv1, pv2, pv3, pv4, pv5, pv6, pv7, pvc0, pvc1, pvc2, Pv.put, bin2, int2, binB2, un1, AV.flat, pvf, rvs_1, rvs_2, szOk, notStr, setCells, AV.one, resX, layC, layA, lay, List.map, List.replicate, List.length_replicate, pvq0, pvq1, seval, reduceCtorEq]
  refine aw_loop (fun k : Nat => ⟨[(0, .str w), (5, .int .i64 w.length), (6, .int .i64 k)], []⟩) (fun k => k ≤ w.length ∧ ∀ j < k, okB w[j]! = true) (fun k => w.length - k) 0 rfl ⟨by omega, by simp⟩ ?_
  rintro k ⟨hk, hp⟩
  unfold Tryd.c51b0
  by_cases hx : k < w.length
  · have hgi : w[k]? = some w[k]! := by rw [getElem!_pos w k hx, List.getElem?_eq_getElem hx]
    by_cases ho : okB w[k]! = true
    · have h2 := of_decide_eq_true ho
      repeat' (first | (simp (disch := first | omega | (simp only [pvl]; omega)) only [↓pvd, pv0, pv1, pv2, pv3, pv4, pv5, pv6, pv7, pvc0, pvc1, pvc2, Pv.put, bin2, int2, binB2, un1, AV.flat, pvf, rvs_1, rvs_2, szOk, notStr, setCells, AV.one, resX, layC, layA, lay, List.map, List.replicate, List.length_replicate, pvq0, pvq1, seval, reduceCtorEq, hgi, bv, still]) | with_reducible refine condP_d (fun _ => ?_) (fun _ => ?_) | with_reducible refine guardP_d0 (fun _ => ?_) (fun _ => ?_) | with_reducible refine guardP_d1 (fun _ => ?_) (fun _ => ?_) | with_reducible refine condP_any ?_ ?_ | (refine Ends_rq [] ?_; simp (disch := first | omega | (simp only [pvl]; omega)) only [↓pvd, pv0, pv1, pv2, pv3, pv4, pv5, pv6, pv7, pvc0, pvc1, pvc2, Pv.put, bin2, int2, binB2, un1, AV.flat, pvf, rvs_1, rvs_2, szOk, notStr, setCells, AV.one, resX, layC, layA, lay, List.map, List.replicate, List.length_replicate, pvq0, pvq1, seval, reduceCtorEq]; exact ⟨_, rfl, rfl, rfl⟩))
      refine ⟨k + 1, rfl, ⟨by omega, fun j hj => ?_⟩, by omega⟩
      by_cases hjk : j = k
      · rw [hjk]; exact ho
      · exact hp j (by omega)
    · have h1 : okB w[k]! = false := by simpa using ho
      have h2 := of_decide_eq_false h1
      have h3 : okW w = false := by unfold okW; rw [all_no hx h1]; rfl
      rw [h3]
      repeat' (first | (simp (disch := first | omega | (simp only [pvl]; omega)) only [↓pvd, pv0, pv1, pv2, pv3, pv4, pv5, pv6, pv7, pvc0, pvc1, pvc2, Pv.put, bin2, int2, binB2, un1, AV.flat, pvf, rvs_1, rvs_2, szOk, notStr, setCells, AV.one, resX, layC, layA, lay, List.map, List.replicate, List.length_replicate, pvq0, pvq1, seval, reduceCtorEq, hgi, bv, still]) | with_reducible refine condP_d (fun _ => ?_) (fun _ => ?_) | with_reducible refine guardP_d0 (fun _ => ?_) (fun _ => ?_) | with_reducible refine guardP_d1 (fun _ => ?_) (fun _ => ?_) | with_reducible refine condP_any ?_ ?_ | (refine Ends_rq [] ?_; simp (disch := first | omega | (simp only [pvl]; omega)) only [↓pvd, pv0, pv1, pv2, pv3, pv4, pv5, pv6, pv7, pvc0, pvc1, pvc2, Pv.put, bin2, int2, binB2, un1, AV.flat, pvf, rvs_1, rvs_2, szOk, notStr, setCells, AV.one, resX, layC, layA, lay, List.map, List.replicate, List.length_replicate, pvq0, pvq1, seval, reduceCtorEq]; exact ⟨_, rfl, rfl, rfl⟩))
  · have h3 : w.all okB = true := all_yes fun k' hk' => hp k' (by omega)
    have h4 : okW w = decide (w ≠ [] ∧ w.length ≤ 40) := by unfold okW; rw [h3]; rfl
    rw [h4]
    by_cases he : w = []
    · subst he
      simp (disch := first | omega | (simp only [pvl] at *; omega)) only [↓pvd, pv0, pv1, pv2, pv3, pv4, pv5, pv6, pv7, pvc0, pvc1, pvc2, Pv.put, bin2, int2, binB2, un1, AV.flat, pvf, rvs_1, rvs_2, szOk, notStr, setCells, AV.one, resX, layC, layA, lay, List.map, List.replicate, List.length_replicate, pvq0, pvq1, seval, reduceCtorEq]
      (refine Ends_rq [] ?_; simp (disch := first | omega | (simp only [pvl]; omega)) only [↓pvd, pv0, pv1, pv2, pv3, pv4, pv5, pv6, pv7, pvc0, pvc1, pvc2, Pv.put, bin2, int2, binB2, un1, AV.flat, pvf, rvs_1, rvs_2, szOk, notStr, setCells, AV.one, resX, layC, layA, lay, List.map, List.replicate, List.length_replicate, pvq0, pvq1, seval, reduceCtorEq]; exact ⟨_, rfl, rfl, rfl⟩)
    · have : 0 < w.length := List.length_pos_iff.2 he
      repeat' (first | (simp (disch := first | omega | (simp only [pvl]; omega)) only [↓pvd, pv0, pv1, pv2, pv3, pv4, pv5, pv6, pv7, pvc0, pvc1, pvc2, Pv.put, bin2, int2, binB2, un1, AV.flat, pvf, rvs_1, rvs_2, szOk, notStr, setCells, AV.one, resX, layC, layA, lay, List.map, List.replicate, List.length_replicate, pvq0, pvq1, seval, reduceCtorEq, still]) | with_reducible refine condP_d (fun _ => ?_) (fun _ => ?_) | with_reducible refine guardP_d0 (fun _ => ?_) (fun _ => ?_) | with_reducible refine guardP_d1 (fun _ => ?_) (fun _ => ?_) | with_reducible refine condP_any ?_ ?_ | (refine Ends_rq [] ?_; simp (disch := first | omega | (simp only [pvl]; omega)) only [↓pvd, pv0, pv1, pv2, pv3, pv4, pv5, pv6, pv7, pvc0, pvc1, pvc2, Pv.put, bin2, int2, binB2, un1, AV.flat, pvf, rvs_1, rvs_2, szOk, notStr, setCells, AV.one, resX, layC, layA, lay, List.map, List.replicate, List.length_replicate, pvq0, pvq1, seval, reduceCtorEq]; exact ⟨_, rfl, rfl, rfl⟩))
      rw [show decide (¬w = [] ∧ w.length ≤ 40) = decide ((w.length : Int) ≤ 40) by simp [he]; omega]
      (refine Ends_rq [] ?_; simp (disch := first | omega | (simp only [pvl]; omega)) only [↓pvd, pv0, pv1, pv2, pv3, pv4, pv5, pv6, pv7, pvc0, pvc1, pvc2, Pv.put, bin2, int2, binB2, un1, AV.flat, pvf, rvs_1, rvs_2, szOk, notStr, setCells, AV.one, resX, layC, layA, lay, List.map, List.replicate, List.length_replicate, pvq0, pvq1, seval, reduceCtorEq]; exact ⟨_, rfl, rfl, rfl⟩)
/-- The words, or 20 of a row that has one that is none. -/
def wordsR (w : List UInt8) : AV := if (swV w).all okW then .tup [strR (swV w), .int .i64 0] else .tup [.sl 0 [] true, .int .i64 20]
theorem enO_len (w : List UInt8) (i fr : Nat) (out : List (List UInt8)) (n : Nat) (hw : w.length ≤ n) (h : ∀ x ∈ out, x.length ≤ n) : ∀ x ∈ enO w i fr out, x.length ≤ n := by
  unfold enO
  split
  · intro x hx
    simp at hx
    rcases hx with hx | rfl
    · exact h x hx
    · simp; omega
  · exact h
theorem swF_len (w : List UInt8) (n : Nat) (hw : w.length ≤ n) : ∀ (m i fr : Nat) (out : List (List UInt8)), (∀ x ∈ out, x.length ≤ n) → ∀ x ∈ swF w m i fr out, x.length ≤ n := by
  intro m
  induction m with
  | zero => intro i fr out h; exact enO_len w i fr out n hw h
  | succ m ih =>
    intro i fr out h
    unfold swF
    split
    · split
      · exact enO_len w i fr out n hw h
      · split
        · exact ih _ _ _ (enO_len w i fr out n hw h)
        · exact ih _ _ _ h
    · exact enO_len w i fr out n hw h
theorem swF_num (w : List UInt8) : ∀ (m i fr : Nat) (out : List (List UInt8)), (swF w m i fr out).length ≤ out.length + m + 1 := by
  have e : ∀ i fr out, (enO w i fr out).length ≤ out.length + 1 := by
    intro i fr out; unfold enO; split <;> simp
  intro m
  induction m with
  | zero => intro i fr out; exact e i fr out
  | succ m ih =>
    intro i fr out
    have e1 := e i fr out
    unfold swF
    split
    · split
      · omega
      · split
        · have := ih (i + 1) (i + 1) (enO w i fr out); omega
        · have := ih (i + 1) fr out; omega
    · omega
theorem words_run (w : List UInt8) (hw : w.length ≤ 40000) : Run Tryd.prog 24 [.str w] (wordsR w) := by
  have q := stretches_run w (by omega)
  have hl := swF_len w w.length (Nat.le_refl _) (w.length + 1) 0 0 [] (by simp)
  have hn := swF_num w (w.length + 1) 0 0 []
  change ∀ x ∈ swV w, _ at hl
  change (swV w).length ≤ _ at hn
  refine Tryd.run24 (by simp) ?_
  unfold Tryd.c24 wordsR
  generalize swV w = L at *
  by_cases h0 : L = []
  · subst h0
    rw [strR, if_pos rfl] at *
    simp (disch := first | omega | (simp only [pvl] at *; omega)) only [↓pvd, pv0, pv1, pv2, pv3, pv4, pv5, pv6, pv7, pvc0, pvc1, pvc2, Pv.put, bin2, int2, binB2, un1, AV.flat, pvf, rvs_1, rvs_2, szOk, notStr, setCells, AV.one, resX, layC, layA, lay, List.map, List.replicate, List.length_replicate, pvq0, pvq1, seval, reduceCtorEq]
    refine awR_call q rfl rfl ?_
    simp (disch := first | omega | (simp only [pvl] at *; omega)) only [↓pvd, pv0, pv1, pv2, pv3, pv4, pv5, pv6, pv7, pvc0, pvc1, pvc2, Pv.put, bin2, int2, binB2, un1, AV.flat, pvf, rvs_1, rvs_2, szOk, notStr, setCells, AV.one, resX, layC, layA, lay, List.map, List.replicate, List.length_replicate, pvq0, pvq1, seval, reduceCtorEq]
    refine aw_loop (fun k : Nat => ⟨[(4, .sl 0 [] true), (9, .sl 0 [] true), (10, .int .i64 0), (11, .int .i64 k)], []⟩) (fun k => k = 0) (fun k => k) 0 rfl rfl ?_
    rintro k rfl
    unfold Tryd.c24b0
    simp (disch := first | omega | (simp only [pvl] at *; omega)) only [↓pvd, pv0, pv1, pv2, pv3, pv4, pv5, pv6, pv7, pvc0, pvc1, pvc2, Pv.put, bin2, int2, binB2, un1, AV.flat, pvf, rvs_1, rvs_2, szOk, notStr, setCells, AV.one, resX, layC, layA, lay, List.map, List.replicate, List.length_replicate, pvq0, pvq1, seval, reduceCtorEq]
    (refine Ends_rq [] ?_; simp (disch := first | omega | (simp only [pvl]; omega)) only [↓pvd, pv0, pv1, pv2, pv3, pv4, pv5, pv6, pv7, pvc0, pvc1, pvc2, Pv.put, bin2, int2, binB2, un1, AV.flat, pvf, rvs_1, rvs_2, szOk, notStr, setCells, AV.one, resX, layC, layA, lay, List.map, List.replicate, List.length_replicate, pvq0, pvq1, seval, reduceCtorEq]; exact ⟨_, rfl, rfl, rfl⟩)
  · rw [strR, if_neg h0] at *
    simp (disch := first | omega | (simp only [pvl] at *; omega)) only [↓pvd, pv0, pv1, pv2, pv3, pv4, pv5, pv6, pv7, pvc0, pvc1, pvc2, Pv.put, bin2, int2, binB2, un1, AV.flat, pvf, rvs_1, rvs_2, szOk, notStr, setCells, AV.one, resX, layC, layA, lay, List.map, List.replicate, List.length_replicate, pvq0, pvq1, seval, reduceCtorEq]
    refine awR_call q rfl rfl ?_
    simp (disch := first | omega | (simp only [pvl] at *; omega)) only [↓pvd, pv0, pv1, pv2, pv3, pv4, pv5, pv6, pv7, pvc0, pvc1, pvc2, Pv.put, bin2, int2, binB2, un1, AV.flat, pvf, rvs_1, rvs_2, szOk, notStr, setCells, AV.one, resX, layC, layA, lay, List.map, List.replicate, List.length_replicate, pvq0, pvq1, seval, reduceCtorEq]
    refine aw_loop (fun k : Nat => ⟨[(4, .vec 0 1 0 L.length), (9, .vec 0 1 0 L.length), (10, .int .i64 L.length), (11, .int .i64 k)], [some ⟨9, L.map .str, true⟩]⟩) (fun k => k ≤ L.length ∧ ∀ j < k, okW L[j]! = true) (fun k => L.length - k) 0 ?_ ⟨by omega, by simp⟩ ?_
    · simp (disch := first | omega | (simp only [pvl]; omega)) only [↓pvd, pv0, pv1, pv2, pv3, pv4, pv5, pv6, pv7, pvc0, pvc1, pvc2, Pv.put, bin2, int2, binB2, un1, AV.flat, pvf, rvs_1, rvs_2, szOk, notStr, setCells, AV.one, resX, layC, layA, lay, List.map, List.replicate, List.length_replicate, pvq0, pvq1, seval, reduceCtorEq, ids_map str_pl, ren_map str_pl]
    rintro k ⟨hk, hp⟩
    unfold Tryd.c24b0
    simp only [List.length_nil] at hn
    by_cases hx : k < L.length
    · have q2 := lword_run L[k]! (by have := hl _ (get_mem hx); omega)
      by_cases ho : okW L[k]! = true
      · rw [ho] at q2
        simp (disch := first | omega | (simp only [pvl] at *; omega)) only [↓pvd, pv0, pv1, pv2, pv3, pv4, pv5, pv6, pv7, pvc0, pvc1, pvc2, Pv.put, bin2, int2, binB2, un1, AV.flat, pvf, rvs_1, rvs_2, szOk, notStr, setCells, AV.one, resX, layC, layA, lay, List.map, List.replicate, List.length_replicate, pvq0, pvq1, seval, reduceCtorEq]
        refine awR_call q2 rfl rfl ?_
        simp (disch := first | omega | (simp only [pvl]; omega)) only [↓pvd, pv0, pv1, pv2, pv3, pv4, pv5, pv6, pv7, pvc0, pvc1, pvc2, Pv.put, bin2, int2, binB2, un1, AV.flat, pvf, rvs_1, rvs_2, szOk, notStr, setCells, AV.one, resX, layC, layA, lay, List.map, List.replicate, List.length_replicate, pvq0, pvq1, seval, reduceCtorEq, ids_map str_pl, ren_map str_pl]
        refine ⟨k + 1, rfl, ⟨by omega, fun j hj => ?_⟩, by omega⟩
        by_cases hjk : j = k
        · rw [hjk]; exact ho
        · exact hp j (by omega)
      · have h1 : okW L[k]! = false := by simpa using ho
        have h2 : ¬ (L.all okW = true) := by
          rw [Bool.not_eq_true, List.all_eq_false]
          exact ⟨L[k]!, get_mem hx, by rw [h1]; simp⟩
        rw [if_neg h2]
        rw [h1] at q2
        simp (disch := first | omega | (simp only [pvl] at *; omega)) only [↓pvd, pv0, pv1, pv2, pv3, pv4, pv5, pv6, pv7, pvc0, pvc1, pvc2, Pv.put, bin2, int2, binB2, un1, AV.flat, pvf, rvs_1, rvs_2, szOk, notStr, setCells, AV.one, resX, layC, layA, lay, List.map, List.replicate, List.length_replicate, pvq0, pvq1, seval, reduceCtorEq]
        refine awR_call q2 rfl rfl ?_
        simp (disch := first | omega | (simp only [pvl]; omega)) only [↓pvd, pv0, pv1, pv2, pv3, pv4, pv5, pv6, pv7, pvc0, pvc1, pvc2, Pv.put, bin2, int2, binB2, un1, AV.flat, pvf, rvs_1, rvs_2, szOk, notStr, setCells, AV.one, resX, layC, layA, lay, List.map, List.replicate, List.length_replicate, pvq0, pvq1, seval, reduceCtorEq, ids_map str_pl, ren_map str_pl]
        (refine Ends_rq [] ?_; simp (disch := first | omega | (simp only [pvl]; omega)) only [↓pvd, pv0, pv1, pv2, pv3, pv4, pv5, pv6, pv7, pvc0, pvc1, pvc2, Pv.put, bin2, int2, binB2, un1, AV.flat, pvf, rvs_1, rvs_2, szOk, notStr, setCells, AV.one, resX, layC, layA, lay, List.map, List.replicate, List.length_replicate, pvq0, pvq1, seval, reduceCtorEq]; exact ⟨_, rfl, rfl, rfl⟩)
    · have h3 : L.all okW = true := by
        rw [List.all_eq_true]
        intro c hc
        obtain ⟨j, hj, rfl⟩ := List.mem_iff_getElem.1 hc
        have := hp j (by omega)
        rwa [getElem!_pos L j hj] at this
      rw [if_pos h3]
      simp (disch := first | omega | (simp only [pvl] at *; omega)) only [↓pvd, pv0, pv1, pv2, pv3, pv4, pv5, pv6, pv7, pvc0, pvc1, pvc2, Pv.put, bin2, int2, binB2, un1, AV.flat, pvf, rvs_1, rvs_2, szOk, notStr, setCells, AV.one, resX, layC, layA, lay, List.map, List.replicate, List.length_replicate, pvq0, pvq1, seval, reduceCtorEq]
      (refine Ends_rq [[.own 1 9], [.snap]] ?_; simp (disch := first | omega | (simp only [pvl]; omega)) only [↓pvd, pv0, pv1, pv2, pv3, pv4, pv5, pv6, pv7, pvc0, pvc1, pvc2, Pv.put, bin2, int2, binB2, un1, AV.flat, pvf, rvs_1, rvs_2, szOk, notStr, setCells, AV.one, resX, layC, layA, lay, List.map, List.replicate, List.length_replicate, pvq0, pvq1, seval, reduceCtorEq, ids_map str_pl, ren_map str_pl, mapO_map str_nr, rows_map str_nr]; exact ⟨_, rfl, rfl, rfl⟩)
end Nm
end Go.Proofs

set_option linter.unusedSimpArgs false
set_option linter.unusedVariables false
set_option maxHeartbeats 2000000
set_option maxRecDepth 20000
namespace Go.Proofs
namespace Nm
open Go.Pv
end Nm
end Go.Proofs

set_option linter.unusedSimpArgs false
set_option linter.unusedVariables false
set_option maxHeartbeats 2000000
set_option maxRecDepth 20000
namespace Go.Proofs
namespace Nm
open Go.Pv
end Nm
end Go.Proofs

/- The library's strings.Join at this seat's program: its contract, laid. (Printed by a program of ours.) -/
namespace Go.Proofs
open Go.Shelf
def Tryd.renT (n : Nat) : Nat :=
  if n = 0 then 0 else if n = 3 then 3 else if n = 4 then 4 else if n = 5 then 5 else if n = 9 then 9 else if n = 20 then 20 else if n = 31 then 38 else if n = 37 then 26 else if n = 70 then 147 else if n = 72 then 149 else if n = 75 then 151 else if n = 76 then 152 else if n = 80 then 58 else if n = 127 then 160 else if n = 164 then 166 else 0
def Tryd.renF (n : Nat) : Nat :=
  if n = 156 then 93 else if n = 165 then 106 else if n = 166 then 107 else if n = 169 then 108 else if n = 240 then 116 else if n = 241 then 117 else if n = 276 then 120 else if n = 277 then 121 else 0
def Tryd.ren : Ren := ⟨Tryd.renF, Tryd.renT, fun n => n⟩
theorem Tryd.lays156 : Lays.n156 Tryd.prog Tryd.ren where
  mixed := Tryd.mixed
  f156 := by kernel_rfl
  f165 := by kernel_rfl
  f166 := by kernel_rfl
  f169 := by kernel_rfl
  f240 := by kernel_rfl
  f241 := by kernel_rfl
  f276 := by kernel_rfl
  f277 := by kernel_rfl
  t0 := Tryd.underlying0
  a0 := Tryd.isAgg0
  z0 := Tryd.sizeOf0
  v0 := Tryd.zeroValue0
  t3 := Tryd.underlying3
  a3 := Tryd.isAgg3
  z3 := Tryd.sizeOf3
  v3 := Tryd.zeroValue3
  t4 := Tryd.underlying4
  a4 := Tryd.isAgg4
  z4 := Tryd.sizeOf4
  v4 := Tryd.zeroValue4
  t9 := Tryd.underlying9
  a9 := Tryd.isAgg9
  z9 := Tryd.sizeOf9
  v9 := Tryd.zeroValue9
  t20 := Tryd.underlying20
  a20 := Tryd.isAgg20
  z20 := Tryd.sizeOf20
  v20 := Tryd.zeroValue20
  t31 := Tryd.underlying38
  a31 := Tryd.isAgg38
  z31 := Tryd.sizeOf38
  v31 := Tryd.zeroValue38
  t37 := Tryd.underlying26
  a37 := Tryd.isAgg26
  z37 := Tryd.sizeOf26
  v37 := Tryd.zeroValue26
  t70 := Tryd.underlying147
  a70 := Tryd.isAgg147
  z70 := Tryd.sizeOf147
  v70 := Tryd.zeroValue147
  t72 := Tryd.underlying149
  a72 := Tryd.isAgg149
  z72 := Tryd.sizeOf149
  v72 := Tryd.zeroValue149
  t75 := Tryd.underlying151
  a75 := Tryd.isAgg151
  z75 := Tryd.sizeOf151
  v75 := Tryd.zeroValue151
  t76 := Tryd.underlying152
  a76 := Tryd.isAgg152
  z76 := Tryd.sizeOf152
  v76 := Tryd.zeroValue152
  t127 := Tryd.underlying160
  a127 := Tryd.isAgg160
  z127 := Tryd.sizeOf160
  v127 := Tryd.zeroValue160
  t164 := Tryd.underlying166
  a164 := Tryd.isAgg166
  z164 := Tryd.sizeOf166
  v164 := Tryd.zeroValue166
theorem Tryd.extra156 : Builder.Extra Tryd.prog Tryd.ren where
  sizeBuilder := by kernel_rfl
  liesBuilder := by kernel_rfl
  t5 := Tryd.underlying5
  a5 := Tryd.isAgg5
  z5 := Tryd.sizeOf5
  v5 := Tryd.zeroValue5
  infoByte := by kernel_rfl
  cellsByte := by kernel_rfl
  sizeByte := by kernel_rfl
  neB5 := by decide
end Go.Proofs

/-
  The machine of plain values: the library's strings.Join, from its contract.
-/
namespace Go.Pv
set_option linter.unusedSectionVars false
variable [Lq]
open Go.RowKit
end Go.Pv

set_option linter.unusedSimpArgs false
set_option linter.unusedVariables false
set_option maxHeartbeats 2000000
set_option maxRecDepth 20000
namespace Go.Proofs
namespace Nm
open Go.Pv
end Nm
end Go.Proofs

set_option linter.unusedSimpArgs false
set_option linter.unusedVariables false
set_option maxHeartbeats 2000000
set_option maxRecDepth 20000
namespace Go.Proofs
namespace Nm
open Go.Pv
theorem enO_sub (w : List UInt8) (i fr : Nat) (out : List (List UInt8)) (hi : i ≤ w.length) : enO w i fr out = if (w.take i).drop fr = [] then out else out ++ [(w.take i).drop fr] := by
  have hl : ((w.take i).drop fr).length = i - fr := by simp; omega
  unfold enO
  by_cases h : fr < i
  · rw [if_pos h, if_neg (fun e => by rw [e] at hl; simp at hl; omega)]
  · rw [if_neg h, if_pos (List.eq_nil_of_length_eq_zero (by omega))]
theorem take_drop_snoc (w : List UInt8) (i fr : Nat) (hi : i < w.length) (h : fr ≤ i) : (w.take (i + 1)).drop fr = (w.take i).drop fr ++ [w[i]!] := by
  rw [take_snoc hi, List.drop_append_of_le_length (by simp; omega)]
end Nm
end Go.Proofs

set_option linter.unusedSimpArgs false
set_option linter.unusedVariables false
set_option maxHeartbeats 2000000
set_option maxRecDepth 20000
namespace Go.Proofs
namespace Nm
open Go.Pv
/-- A word's end. -/
def finF (cur : List UInt8) (out : List (List UInt8)) : List (List UInt8) := if cur = [] then out else out ++ [cur]
/-- The words of what is left of a row. -/
def wsF : List UInt8 → List (List UInt8) → List UInt8 → List (List UInt8)
  | cur, out, [] => finF cur out
  | cur, out, c :: t => if c = 35 then finF cur out else if c = 32 ∨ c = 9 then wsF [] (finF cur out) t else wsF (cur ++ [c]) out t
theorem swF_ws (w : List UInt8) : ∀ (n i fr : Nat) (out : List (List UInt8)), w.length - i = n → fr ≤ i → i ≤ w.length → swF w (w.length + 1 - i) i fr out = wsF ((w.take i).drop fr) out (w.drop i) := by
  intro n
  induction n with
  | zero =>
    intro i fr out hn hf hi
    rw [swF_stop w _ i fr out (fun h => by omega), enO_sub w i fr out hi, List.drop_eq_nil_of_le (show w.length ≤ i by omega)]
    rfl
  | succ n ih =>
    intro i fr out hn hf hi
    have hx : i < w.length := by omega
    have hd : w.drop i = w[i]! :: w.drop (i + 1) := by rw [getElem!_pos w i hx, ← List.drop_eq_getElem_cons hx]
    rw [hd, wsF]
    by_cases h35 : w[i]! = 35
    · rw [if_pos h35, swF_stop w _ i fr out (fun _ => h35), enO_sub w i fr out hi]
      rfl
    · rw [if_neg h35]
      by_cases hb : w[i]! = 32 ∨ w[i]! = 9
      · rw [if_pos hb, swF_blank w i fr out hx h35 hb, ih (i + 1) (i + 1) _ (by omega) (Nat.le_refl _) (by omega), enO_sub w i fr out hi]
        rw [show (w.take (i + 1)).drop (i + 1) = [] by simp]
        rfl
      · rw [if_neg hb, swF_other w i fr out hx h35 hb, ih (i + 1) fr out (by omega) (by omega) (by omega), take_drop_snoc w i fr hx hf]
theorem swV_ws (w : List UInt8) : swV w = wsF [] [] w := by
  have := swF_ws w w.length 0 0 [] (by omega) (Nat.le_refl _) (Nat.zero_le _)
  simpa [swV] using this
end Nm
end Go.Proofs

set_option linter.unusedSimpArgs false
set_option linter.unusedVariables false
set_option maxHeartbeats 2000000
set_option maxRecDepth 20000
namespace Go.Proofs
open Go.Pv
theorem ent_nones (H : Hp) (n id : Nat) : ent (H ++ List.replicate n none) id = ent H id := by
  unfold ent
  rcases Nat.lt_or_ge id H.length with h | h
  · rw [List.getElem?_append_left h]
  · rw [List.getElem?_append_right h, List.getElem?_eq_none h, List.getElem?_replicate]
    split <;> rfl
theorem gen_strip {P : Program} {f : FuncId} {xs : List AV} {H H' : Hp} {r : AV} {n : Nat} (h : Gen P f xs H r (H' ++ List.replicate n none)) : Gen P f xs H r H' :=
  ⟨h.1, fun w γ args hq hh hl hs => (h.2 w γ args hq hh hl hs).mono fun e W ⟨v, γ', he, hv, hh', st, ids⟩ =>
    ⟨v, γ', he, hv, ⟨fun id hid => hh'.none id (by rw [ent_nones]; exact hid), fun id e hid => hh'.ok id e (by rw [ent_nones]; exact hid), hh'.inj, hh'.imm, hh'.stl⟩, st, ids⟩⟩
/-- A reader: its words, where it stands, what was wrong first. -/
def rdo (ws : List (List UInt8)) (f : Bool) (k : Nat) (e : Int) : Option Ent := some ⟨57, [.agg [.sl 1 (ws.map .str) f, .int .i64 k, .int .i64 e]], true⟩
def fl (e : Int) (bad : Bool) (c : Int) : Int := if bad = true ∧ e = 0 then c else e
theorem next_gen (ws : List (List UInt8)) (f : Bool) (k : Nat) (e : Int) (A : Option Ent) (T : Hp) (hk : k < ws.length) (hw : ws.length ≤ 1000) :
    Gen Tryd.prog 35 [.eptr 1 0 0] (A :: rdo ws f k e :: T) (.str ws[k]!) (A :: rdo ws f (k + 1) e :: T) := by
  have hgi : (ws.map AV.str)[k]? = some (.str ws[k]!) := map_get hk
  refine gen_strip (n := 12) (Tryd.gen35 (by simp) ?_)
  unfold Tryd.g35 rdo
  simp (disch := first | omega | (simp only [pvl]; omega)) only [↓pvd, pv0, pv1, pv2, pv3, pv4, pv5, pv6, pv7, pvc0, pvc1, pvc2, Pv.put, bin2, int2, binB2, un1, AV.flat, pvf, rvs_1, rvs_2, szOk, notStr, setCells, AV.one, resX, layC, layA, lay, List.map, List.replicate, List.length_replicate, pvq0, pvq1, seval, reduceCtorEq, hgi, List.length_map]
  rw [show ((k : Int) + 1 - 1).toNat = k by omega]
  exact ⟨rfl, by simp⟩
theorem fail_gen (ws : List (List UInt8)) (f : Bool) (k : Nat) (e c : Int) (b : Bool) (A : Option Ent) (T : Hp) :
    Gen Tryd.prog 32 [.eptr 1 0 0, .bool b, .int .i64 c] (A :: rdo ws f k e :: T) (.tup []) (A :: rdo ws f k (fl e b c) :: T) := by
  refine Tryd.gen32 (by simp) ?_
  unfold Tryd.g32 rdo fl
  cases b with
  | false =>
    simp (disch := first | omega | (simp only [pvl] at *; omega)) only [↓pvd, pv0, pv1, pv2, pv3, pv4, pv5, pv6, pv7, pvc0, pvc1, pvc2, Pv.put, bin2, int2, binB2, un1, AV.flat, pvf, rvs_1, rvs_2, szOk, notStr, setCells, AV.one, resX, layC, layA, lay, List.map, List.replicate, List.length_replicate, pvq0, pvq1, seval, reduceCtorEq]
    exact ⟨rfl, rfl⟩
  | true =>
    by_cases he : e = 0
    · subst he
      simp (disch := first | omega | (simp only [pvl] at *; omega)) only [↓pvd, pv0, pv1, pv2, pv3, pv4, pv5, pv6, pv7, pvc0, pvc1, pvc2, Pv.put, bin2, int2, binB2, un1, AV.flat, pvf, rvs_1, rvs_2, szOk, notStr, setCells, AV.one, resX, layC, layA, lay, List.map, List.replicate, List.length_replicate, pvq0, pvq1, seval, reduceCtorEq]
      exact ⟨rfl, rfl⟩
    · simp (disch := first | omega | (simp only [pvl]; omega)) only [↓pvd, pv0, pv1, pv2, pv3, pv4, pv5, pv6, pv7, pvc0, pvc1, pvc2, Pv.put, bin2, int2, binB2, un1, AV.flat, pvf, rvs_1, rvs_2, szOk, notStr, setCells, AV.one, resX, layC, layA, lay, List.map, List.replicate, List.length_replicate, pvq0, pvq1, seval, reduceCtorEq, he]
      exact ⟨rfl, rfl⟩
def nmO (s : List UInt8) : Bool := decide (Nm.nmP s)
theorem name_gen (ws : List (List UInt8)) (f : Bool) (k : Nat) (e : Int) (A : Option Ent) (T : Hp) (hk : k < ws.length) (hw : ws.length ≤ 1000) (hl : ∀ w ∈ ws, w.length ≤ 1000) :
    Gen Tryd.prog 28 [.eptr 1 0 0] (A :: rdo ws f k e :: T) (.str ws[k]!) (A :: rdo ws f (k + 1) (fl e (!nmO ws[k]!) 20) :: T) := by
  have hwl : ws[k]!.length ≤ 1000 := hl _ (by rw [getElem!_pos ws k hk]; exact List.getElem_mem hk)
  have q : Run Tryd.prog 46 [.str ws[k]!] (.bool (nmO ws[k]!)) := Nm.name_run ws[k]! (by omega)
  generalize nmO ws[k]! = b at *
  refine Tryd.gen28 (by simp) ?_
  unfold Tryd.g28
  simp (disch := first | omega | (simp only [pvl] at *; omega)) only [↓pvd, pv0, pv1, pv2, pv3, pv4, pv5, pv6, pv7, pvc0, pvc1, pvc2, Pv.put, bin2, int2, binB2, un1, AV.flat, pvf, rvs_1, rvs_2, szOk, notStr, setCells, AV.one, resX, layC, layA, lay, List.map, List.replicate, List.length_replicate, pvq0, pvq1, seval, reduceCtorEq]
  refine awR_callG (next_gen ws f k e A T hk hw) ?_
  simp (disch := first | omega | (simp only [pvl] at *; omega)) only [↓pvd, pv0, pv1, pv2, pv3, pv4, pv5, pv6, pv7, pvc0, pvc1, pvc2, Pv.put, bin2, int2, binB2, un1, AV.flat, pvf, rvs_1, rvs_2, szOk, notStr, setCells, AV.one, resX, layC, layA, lay, List.map, List.replicate, List.length_replicate, pvq0, pvq1, seval, reduceCtorEq]
  refine awR_call q rfl rfl ?_
  simp (disch := first | omega | (simp only [pvl] at *; omega)) only [↓pvd, pv0, pv1, pv2, pv3, pv4, pv5, pv6, pv7, pvc0, pvc1, pvc2, Pv.put, bin2, int2, binB2, un1, AV.flat, pvf, rvs_1, rvs_2, szOk, notStr, setCells, AV.one, resX, layC, layA, lay, List.map, List.replicate, List.length_replicate, pvq0, pvq1, seval, reduceCtorEq]
  refine awR_callG (fail_gen ws f (k + 1) e 20 (!b) A T) ?_
  simp (disch := first | omega | (simp only [pvl] at *; omega)) only [↓pvd, pv0, pv1, pv2, pv3, pv4, pv5, pv6, pv7, pvc0, pvc1, pvc2, Pv.put, bin2, int2, binB2, un1, AV.flat, pvf, rvs_1, rvs_2, szOk, notStr, setCells, AV.one, resX, layC, layA, lay, List.map, List.replicate, List.length_replicate, pvq0, pvq1, seval, reduceCtorEq]
  exact ⟨rfl, rfl⟩
theorem number_gen (ws : List (List UInt8)) (f : Bool) (k : Nat) (e a b : Int) (A : Option Ent) (T : Hp) (hk : k < ws.length) (hw : ws.length ≤ 1000) (hl : ∀ w ∈ ws, w.length ≤ 1000) :
    Gen Tryd.prog 30 [.eptr 1 0 0, .int .i64 a, .int .i64 b] (A :: rdo ws f k e :: T) (.int .i64 (Nm.rdF ws[k]! a b).1) (A :: rdo ws f (k + 1) (fl e (!(Nm.rdF ws[k]! a b).2) 21) :: T) := by
  have hwl : ws[k]!.length ≤ 1000 := hl _ (by rw [getElem!_pos ws k hk]; exact List.getElem_mem hk)
  have q := Nm.read_run ws[k]! a b (by omega)
  unfold Nm.rdR at q
  generalize (Nm.rdF ws[k]! a b).1 = n at *
  generalize (Nm.rdF ws[k]! a b).2 = ok at *
  refine Tryd.gen30 (by simp) ?_
  unfold Tryd.g30
  simp (disch := first | omega | (simp only [pvl] at *; omega)) only [↓pvd, pv0, pv1, pv2, pv3, pv4, pv5, pv6, pv7, pvc0, pvc1, pvc2, Pv.put, bin2, int2, binB2, un1, AV.flat, pvf, rvs_1, rvs_2, szOk, notStr, setCells, AV.one, resX, layC, layA, lay, List.map, List.replicate, List.length_replicate, pvq0, pvq1, seval, reduceCtorEq]
  refine awR_callG (next_gen ws f k e A T hk hw) ?_
  simp (disch := first | omega | (simp only [pvl] at *; omega)) only [↓pvd, pv0, pv1, pv2, pv3, pv4, pv5, pv6, pv7, pvc0, pvc1, pvc2, Pv.put, bin2, int2, binB2, un1, AV.flat, pvf, rvs_1, rvs_2, szOk, notStr, setCells, AV.one, resX, layC, layA, lay, List.map, List.replicate, List.length_replicate, pvq0, pvq1, seval, reduceCtorEq]
  refine awR_call q rfl rfl ?_
  simp (disch := first | omega | (simp only [pvl] at *; omega)) only [↓pvd, pv0, pv1, pv2, pv3, pv4, pv5, pv6, pv7, pvc0, pvc1, pvc2, Pv.put, bin2, int2, binB2, un1, AV.flat, pvf, rvs_1, rvs_2, szOk, notStr, setCells, AV.one, resX, layC, layA, lay, List.map, List.replicate, List.length_replicate, pvq0, pvq1, seval, reduceCtorEq]
  refine awR_callG (fail_gen ws f (k + 1) e 21 (!ok) A T) ?_
  simp (disch := first | omega | (simp only [pvl] at *; omega)) only [↓pvd, pv0, pv1, pv2, pv3, pv4, pv5, pv6, pv7, pvc0, pvc1, pvc2, Pv.put, bin2, int2, binB2, un1, AV.flat, pvf, rvs_1, rvs_2, szOk, notStr, setCells, AV.one, resX, layC, layA, lay, List.map, List.replicate, List.length_replicate, pvq0, pvq1, seval, reduceCtorEq]
  exact ⟨rfl, rfl⟩
theorem vlan_gen (ws : List (List UInt8)) (f : Bool) (k : Nat) (e : Int) (A : Option Ent) (T : Hp) (hk : k < ws.length) (hw : ws.length ≤ 1000) (hl : ∀ w ∈ ws, w.length ≤ 1000) :
    Gen Tryd.prog 29 [.eptr 1 0 0] (A :: rdo ws f k e :: T) (.int .i64 (Nm.rdF ws[k]! 1 4094).1) (A :: rdo ws f (k + 1) (fl e (!(Nm.rdF ws[k]! 1 4094).2) 21) :: T) := by
  refine Tryd.gen29 (by simp) ?_
  unfold Tryd.g29
  simp (disch := first | omega | (simp only [pvl] at *; omega)) only [↓pvd, pv0, pv1, pv2, pv3, pv4, pv5, pv6, pv7, pvc0, pvc1, pvc2, Pv.put, bin2, int2, binB2, un1, AV.flat, pvf, rvs_1, rvs_2, szOk, notStr, setCells, AV.one, resX, layC, layA, lay, List.map, List.replicate, List.length_replicate, pvq0, pvq1, seval, reduceCtorEq]
  refine awR_callG (number_gen ws f k e 1 4094 A T hk hw hl) ?_
  simp (disch := first | omega | (simp only [pvl] at *; omega)) only [↓pvd, pv0, pv1, pv2, pv3, pv4, pv5, pv6, pv7, pvc0, pvc1, pvc2, Pv.put, bin2, int2, binB2, un1, AV.flat, pvf, rvs_1, rvs_2, szOk, notStr, setCells, AV.one, resX, layC, layA, lay, List.map, List.replicate, List.length_replicate, pvq0, pvq1, seval, reduceCtorEq]
  exact ⟨rfl, rfl⟩
theorem vni_gen (ws : List (List UInt8)) (f : Bool) (k : Nat) (e : Int) (A : Option Ent) (T : Hp) (hk : k < ws.length) (hw : ws.length ≤ 1000) (hl : ∀ w ∈ ws, w.length ≤ 1000) :
    Gen Tryd.prog 36 [.eptr 1 0 0] (A :: rdo ws f k e :: T) (.int .i64 (Nm.rdF ws[k]! 1 16777215).1) (A :: rdo ws f (k + 1) (fl e (!(Nm.rdF ws[k]! 1 16777215).2) 21) :: T) := by
  refine Tryd.gen36 (by simp) ?_
  unfold Tryd.g36
  simp (disch := first | omega | (simp only [pvl] at *; omega)) only [↓pvd, pv0, pv1, pv2, pv3, pv4, pv5, pv6, pv7, pvc0, pvc1, pvc2, Pv.put, bin2, int2, binB2, un1, AV.flat, pvf, rvs_1, rvs_2, szOk, notStr, setCells, AV.one, resX, layC, layA, lay, List.map, List.replicate, List.length_replicate, pvq0, pvq1, seval, reduceCtorEq]
  refine awR_callG (number_gen ws f k e 1 16777215 A T hk hw hl) ?_
  simp (disch := first | omega | (simp only [pvl] at *; omega)) only [↓pvd, pv0, pv1, pv2, pv3, pv4, pv5, pv6, pv7, pvc0, pvc1, pvc2, Pv.put, bin2, int2, binB2, un1, AV.flat, pvf, rvs_1, rvs_2, szOk, notStr, setCells, AV.one, resX, layC, layA, lay, List.map, List.replicate, List.length_replicate, pvq0, pvq1, seval, reduceCtorEq]
  exact ⟨rfl, rfl⟩
/-- May an address be a device's, or a station's? -/
def stn (m : Int) : Bool := decide (m ≤ 281474976710655) && (!(Mc.ish m).2 && !decide (m / 1099511627776 % 2 = 1))
theorem station_run (m : Int) (h : 0 ≤ m) (h' : m < 18446744073709551616) : Run Tryd.prog 56 [.int .u64 m] (.bool (stn m)) := by
  have q1 := Mc.ishost_run m h h'
  have q2 := Mc.group_run m h h'
  refine Tryd.run56 (by simp) ?_
  unfold Tryd.c56 stn
  generalize (Mc.ish m).1 = x at *
  generalize (Mc.ish m).2 = b at *
  generalize decide (m / 1099511627776 % 2 = 1) = g at *
  by_cases hm : m ≤ 281474976710655
  · rw [decide_eq_true hm]
    cases b
    · repeat' (first | (simp (disch := first | omega | (simp only [pvl]; omega)) only [↓pvd, pv0, pv1, pv2, pv3, pv4, pv5, pv6, pv7, pvc0, pvc1, pvc2, Pv.put, bin2, int2, binB2, un1, AV.flat, pvf, rvs_1, rvs_2, szOk, notStr, setCells, AV.one, resX, layC, layA, lay, List.map, List.replicate, List.length_replicate, pvq0, pvq1, seval, reduceCtorEq, still]) | with_reducible refine condP_d (fun _ => ?_) (fun _ => ?_) | with_reducible refine guardP_d0 (fun _ => ?_) (fun _ => ?_) | with_reducible refine guardP_d1 (fun _ => ?_) (fun _ => ?_) | with_reducible refine condP_any ?_ ?_ | refine awR_call q1 rfl rfl ?_ | refine awR_callD q1 rfl rfl (fun _ => rfl) ?_ | refine awR_call q2 rfl rfl ?_ | refine awR_callD q2 rfl rfl (fun _ => rfl) ?_ | (refine Ends_rq [] ?_; simp (disch := first | omega | (simp only [pvl]; omega)) only [↓pvd, pv0, pv1, pv2, pv3, pv4, pv5, pv6, pv7, pvc0, pvc1, pvc2, Pv.put, bin2, int2, binB2, un1, AV.flat, pvf, rvs_1, rvs_2, szOk, notStr, setCells, AV.one, resX, layC, layA, lay, List.map, List.replicate, List.length_replicate, pvq0, pvq1, seval, reduceCtorEq]; exact ⟨_, rfl, rfl, rfl⟩))
    · repeat' (first | (simp (disch := first | omega | (simp only [pvl]; omega)) only [↓pvd, pv0, pv1, pv2, pv3, pv4, pv5, pv6, pv7, pvc0, pvc1, pvc2, Pv.put, bin2, int2, binB2, un1, AV.flat, pvf, rvs_1, rvs_2, szOk, notStr, setCells, AV.one, resX, layC, layA, lay, List.map, List.replicate, List.length_replicate, pvq0, pvq1, seval, reduceCtorEq, still]) | with_reducible refine condP_d (fun _ => ?_) (fun _ => ?_) | with_reducible refine guardP_d0 (fun _ => ?_) (fun _ => ?_) | with_reducible refine guardP_d1 (fun _ => ?_) (fun _ => ?_) | with_reducible refine condP_any ?_ ?_ | refine awR_call q1 rfl rfl ?_ | refine awR_callD q1 rfl rfl (fun _ => rfl) ?_ | refine awR_call q2 rfl rfl ?_ | refine awR_callD q2 rfl rfl (fun _ => rfl) ?_ | (refine Ends_rq [] ?_; simp (disch := first | omega | (simp only [pvl]; omega)) only [↓pvd, pv0, pv1, pv2, pv3, pv4, pv5, pv6, pv7, pvc0, pvc1, pvc2, Pv.put, bin2, int2, binB2, un1, AV.flat, pvf, rvs_1, rvs_2, szOk, notStr, setCells, AV.one, resX, layC, layA, lay, List.map, List.replicate, List.length_replicate, pvq0, pvq1, seval, reduceCtorEq]; exact ⟨_, rfl, rfl, rfl⟩))
  · rw [decide_eq_false hm]
    repeat' (first | (simp (disch := first | omega | (simp only [pvl]; omega)) only [↓pvd, pv0, pv1, pv2, pv3, pv4, pv5, pv6, pv7, pvc0, pvc1, pvc2, Pv.put, bin2, int2, binB2, un1, AV.flat, pvf, rvs_1, rvs_2, szOk, notStr, setCells, AV.one, resX, layC, layA, lay, List.map, List.replicate, List.length_replicate, pvq0, pvq1, seval, reduceCtorEq, still]) | with_reducible refine condP_d (fun _ => ?_) (fun _ => ?_) | with_reducible refine guardP_d0 (fun _ => ?_) (fun _ => ?_) | with_reducible refine guardP_d1 (fun _ => ?_) (fun _ => ?_) | with_reducible refine condP_any ?_ ?_ | refine awR_call q1 rfl rfl ?_ | refine awR_callD q1 rfl rfl (fun _ => rfl) ?_ | refine awR_call q2 rfl rfl ?_ | refine awR_callD q2 rfl rfl (fun _ => rfl) ?_ | (refine Ends_rq [] ?_; simp (disch := first | omega | (simp only [pvl]; omega)) only [↓pvd, pv0, pv1, pv2, pv3, pv4, pv5, pv6, pv7, pvc0, pvc1, pvc2, Pv.put, bin2, int2, binB2, un1, AV.flat, pvf, rvs_1, rvs_2, szOk, notStr, setCells, AV.one, resX, layC, layA, lay, List.map, List.replicate, List.length_replicate, pvq0, pvq1, seval, reduceCtorEq]; exact ⟨_, rfl, rfl, rfl⟩))
theorem rdm_b (s : List UInt8) : 0 ≤ (Mc.rdm s).1 ∧ (Mc.rdm s).1 < 18446744073709551616 := by
  unfold Mc.rdm
  split
  · rename_i h
    have := Mc.num_b s 6 h.2
    simp only
    omega
  · simp
theorem mac_gen (ws : List (List UInt8)) (f : Bool) (k : Nat) (e : Int) (A : Option Ent) (T : Hp) (hk : k < ws.length) (hw : ws.length ≤ 1000) (hl : ∀ w ∈ ws, w.length ≤ 1000) :
    Gen Tryd.prog 31 [.eptr 1 0 0] (A :: rdo ws f k e :: T) (.int .u64 (Mc.rdm ws[k]!).1) (A :: rdo ws f (k + 1) (fl e (!((Mc.rdm ws[k]!).2 && stn (Mc.rdm ws[k]!).1)) 21) :: T) := by
  have hwl : ws[k]!.length ≤ 1000 := hl _ (by rw [getElem!_pos ws k hk]; exact List.getElem_mem hk)
  have q := Mc.read_run ws[k]! (by simp only [maxLen]; omega)
  have hb := rdm_b ws[k]!
  have q2 := station_run (Mc.rdm ws[k]!).1 hb.1 hb.2
  refine Tryd.gen31 (by simp) ?_
  unfold Tryd.g31
  generalize (Mc.rdm ws[k]!).1 = m at *
  generalize (Mc.rdm ws[k]!).2 = ok at *
  generalize stn m = st at *
  simp (disch := first | omega | (simp only [pvl] at *; omega)) only [↓pvd, pv0, pv1, pv2, pv3, pv4, pv5, pv6, pv7, pvc0, pvc1, pvc2, Pv.put, bin2, int2, binB2, un1, AV.flat, pvf, rvs_1, rvs_2, szOk, notStr, setCells, AV.one, resX, layC, layA, lay, List.map, List.replicate, List.length_replicate, pvq0, pvq1, seval, reduceCtorEq]
  refine awR_callG (next_gen ws f k e A T hk hw) ?_
  simp (disch := first | omega | (simp only [pvl] at *; omega)) only [↓pvd, pv0, pv1, pv2, pv3, pv4, pv5, pv6, pv7, pvc0, pvc1, pvc2, Pv.put, bin2, int2, binB2, un1, AV.flat, pvf, rvs_1, rvs_2, szOk, notStr, setCells, AV.one, resX, layC, layA, lay, List.map, List.replicate, List.length_replicate, pvq0, pvq1, seval, reduceCtorEq]
  refine awR_call q rfl rfl ?_
  cases ok with
  | false =>
    simp (disch := first | omega | (simp only [pvl] at *; omega)) only [↓pvd, pv0, pv1, pv2, pv3, pv4, pv5, pv6, pv7, pvc0, pvc1, pvc2, Pv.put, bin2, int2, binB2, un1, AV.flat, pvf, rvs_1, rvs_2, szOk, notStr, setCells, AV.one, resX, layC, layA, lay, List.map, List.replicate, List.length_replicate, pvq0, pvq1, seval, reduceCtorEq]
    refine awR_callG (fail_gen ws f (k + 1) e 21 true A T) ?_
    simp (disch := first | omega | (simp only [pvl] at *; omega)) only [↓pvd, pv0, pv1, pv2, pv3, pv4, pv5, pv6, pv7, pvc0, pvc1, pvc2, Pv.put, bin2, int2, binB2, un1, AV.flat, pvf, rvs_1, rvs_2, szOk, notStr, setCells, AV.one, resX, layC, layA, lay, List.map, List.replicate, List.length_replicate, pvq0, pvq1, seval, reduceCtorEq]
    exact ⟨rfl, rfl⟩
  | true =>
    simp (disch := first | omega | (simp only [pvl] at *; omega)) only [↓pvd, pv0, pv1, pv2, pv3, pv4, pv5, pv6, pv7, pvc0, pvc1, pvc2, Pv.put, bin2, int2, binB2, un1, AV.flat, pvf, rvs_1, rvs_2, szOk, notStr, setCells, AV.one, resX, layC, layA, lay, List.map, List.replicate, List.length_replicate, pvq0, pvq1, seval, reduceCtorEq]
    refine awR_call q2 rfl rfl ?_
    simp (disch := first | omega | (simp only [pvl] at *; omega)) only [↓pvd, pv0, pv1, pv2, pv3, pv4, pv5, pv6, pv7, pvc0, pvc1, pvc2, Pv.put, bin2, int2, binB2, un1, AV.flat, pvf, rvs_1, rvs_2, szOk, notStr, setCells, AV.one, resX, layC, layA, lay, List.map, List.replicate, List.length_replicate, pvq0, pvq1, seval, reduceCtorEq]
    refine awR_callG (fail_gen ws f (k + 1) e 21 (!st) A T) ?_
    simp (disch := first | omega | (simp only [pvl] at *; omega)) only [↓pvd, pv0, pv1, pv2, pv3, pv4, pv5, pv6, pv7, pvc0, pvc1, pvc2, Pv.put, bin2, int2, binB2, un1, AV.flat, pvf, rvs_1, rvs_2, szOk, notStr, setCells, AV.one, resX, layC, layA, lay, List.map, List.replicate, List.length_replicate, pvq0, pvq1, seval, reduceCtorEq]
    exact ⟨rfl, rfl⟩
end Go.Proofs

set_option linter.unusedSimpArgs false
set_option linter.unusedVariables false
set_option maxHeartbeats 2000000
set_option maxRecDepth 20000
namespace Go.Proofs
open Go.Pv
/-- Where a number stands first. -/
def idF (v : Int) : List Int → Nat → Int
  | [], _ => -1
  | x :: r, k => if v = x then k else idF v r (k + 1)
theorem idF_mem (v : Int) : ∀ (l : List Int) (k : Nat), decide (0 ≤ idF v l k) = decide (v ∈ l)
  | [], k => by simp [idF]
  | x :: r, k => by
    rw [idF]
    by_cases h : v = x
    · rw [if_pos h]; simp [h]
    · rw [if_neg h, idF_mem v r (k + 1)]; simp [h]
theorem index_run (l : List Int) (v : Int) (n : Nat) (f : Bool) (hn : l = [] ∨ n = 1) (hl : l.length ≤ 100000) : Run Tryd.prog 98 [.sl n (l.map (.int .i64)) f, .int .i64 v] (.int .i64 (idF v l 0)) := by
  refine Tryd.run98 (by simp) ?_
  unfold Tryd.c98
  simp (disch := first | omega | (simp only [pvl]; omega)) only [↓pvd, pv0, pv1, pv2, pv3, pv4, pv5, pv6, pv7, pvc0, pvc1, pvc2, Pv.put, bin2, int2, binB2, un1, AV.flat, pvf, rvs_1, rvs_2, szOk, notStr, setCells, AV.one, resX, layC, layA, lay, List.map, List.replicate, List.length_replicate, pvq0, pvq1, seval, reduceCtorEq, List.length_map]
  refine aw_loop (fun k : Nat => ⟨[(0, .sl n (l.map (.int .i64)) f), (1, .int .i64 v), (7, .int .i64 l.length), (8, .int .i64 k)], []⟩) (fun k => k ≤ l.length ∧ idF v l 0 = idF v (l.drop k) k) (fun k => l.length - k) 0 ?_ ⟨by omega, by simp⟩ ?_
  · simp (disch := first | omega | (simp only [pvl] at *; omega)) only [↓pvd, pv0, pv1, pv2, pv3, pv4, pv5, pv6, pv7, pvc0, pvc1, pvc2, Pv.put, bin2, int2, binB2, un1, AV.flat, pvf, rvs_1, rvs_2, szOk, notStr, setCells, AV.one, resX, layC, layA, lay, List.map, List.replicate, List.length_replicate, pvq0, pvq1, seval, reduceCtorEq]
    try rfl
  rintro k ⟨hk, hi⟩
  unfold Tryd.c98b0
  by_cases hx : k < l.length
  · obtain rfl : n = 1 := hn.resolve_left (by rintro rfl; simp at hx)
    have hgi : (l.map (AV.int .i64))[k]? = some (.int .i64 l[k]!) := map_get hx
    have hd : l.drop k = l[k]! :: l.drop (k + 1) := by rw [getElem!_pos l k hx]; exact List.drop_eq_getElem_cons hx
    rw [hd, idF] at hi
    by_cases h : v = l[k]!
    · rw [if_pos h] at hi
      rw [hi]
      repeat' (first | (simp (disch := first | omega | (simp only [pvl]; omega)) only [↓pvd, pv0, pv1, pv2, pv3, pv4, pv5, pv6, pv7, pvc0, pvc1, pvc2, Pv.put, bin2, int2, binB2, un1, AV.flat, pvf, rvs_1, rvs_2, szOk, notStr, setCells, AV.one, resX, layC, layA, lay, List.map, List.replicate, List.length_replicate, pvq0, pvq1, seval, reduceCtorEq, hgi, List.length_map, still]) | with_reducible refine condP_d (fun _ => ?_) (fun _ => ?_) | with_reducible refine guardP_d0 (fun _ => ?_) (fun _ => ?_) | with_reducible refine guardP_d1 (fun _ => ?_) (fun _ => ?_) | with_reducible refine condP_any ?_ ?_ | (refine Ends_rq [] ?_; simp (disch := first | omega | (simp only [pvl]; omega)) only [↓pvd, pv0, pv1, pv2, pv3, pv4, pv5, pv6, pv7, pvc0, pvc1, pvc2, Pv.put, bin2, int2, binB2, un1, AV.flat, pvf, rvs_1, rvs_2, szOk, notStr, setCells, AV.one, resX, layC, layA, lay, List.map, List.replicate, List.length_replicate, pvq0, pvq1, seval, reduceCtorEq]; exact ⟨_, rfl, rfl, rfl⟩))
    · rw [if_neg h] at hi
      repeat' (first | (simp (disch := first | omega | (simp only [pvl]; omega)) only [↓pvd, pv0, pv1, pv2, pv3, pv4, pv5, pv6, pv7, pvc0, pvc1, pvc2, Pv.put, bin2, int2, binB2, un1, AV.flat, pvf, rvs_1, rvs_2, szOk, notStr, setCells, AV.one, resX, layC, layA, lay, List.map, List.replicate, List.length_replicate, pvq0, pvq1, seval, reduceCtorEq, hgi, List.length_map, still]) | with_reducible refine condP_d (fun _ => ?_) (fun _ => ?_) | with_reducible refine guardP_d0 (fun _ => ?_) (fun _ => ?_) | with_reducible refine guardP_d1 (fun _ => ?_) (fun _ => ?_) | with_reducible refine condP_any ?_ ?_ | (refine Ends_rq [] ?_; simp (disch := first | omega | (simp only [pvl]; omega)) only [↓pvd, pv0, pv1, pv2, pv3, pv4, pv5, pv6, pv7, pvc0, pvc1, pvc2, Pv.put, bin2, int2, binB2, un1, AV.flat, pvf, rvs_1, rvs_2, szOk, notStr, setCells, AV.one, resX, layC, layA, lay, List.map, List.replicate, List.length_replicate, pvq0, pvq1, seval, reduceCtorEq]; exact ⟨_, rfl, rfl, rfl⟩))
      exact ⟨k + 1, rfl, ⟨hx, hi⟩, by omega⟩
  · have e : k = l.length := by omega
    rw [e, List.drop_length, idF] at hi
    rw [hi]
    repeat' (first | (simp (disch := first | omega | (simp only [pvl]; omega)) only [↓pvd, pv0, pv1, pv2, pv3, pv4, pv5, pv6, pv7, pvc0, pvc1, pvc2, Pv.put, bin2, int2, binB2, un1, AV.flat, pvf, rvs_1, rvs_2, szOk, notStr, setCells, AV.one, resX, layC, layA, lay, List.map, List.replicate, List.length_replicate, pvq0, pvq1, seval, reduceCtorEq, List.length_map, still]) | with_reducible refine condP_d (fun _ => ?_) (fun _ => ?_) | with_reducible refine guardP_d0 (fun _ => ?_) (fun _ => ?_) | with_reducible refine guardP_d1 (fun _ => ?_) (fun _ => ?_) | with_reducible refine condP_any ?_ ?_ | (refine Ends_rq [] ?_; simp (disch := first | omega | (simp only [pvl]; omega)) only [↓pvd, pv0, pv1, pv2, pv3, pv4, pv5, pv6, pv7, pvc0, pvc1, pvc2, Pv.put, bin2, int2, binB2, un1, AV.flat, pvf, rvs_1, rvs_2, szOk, notStr, setCells, AV.one, resX, layC, layA, lay, List.map, List.replicate, List.length_replicate, pvq0, pvq1, seval, reduceCtorEq]; exact ⟨_, rfl, rfl, rfl⟩))
theorem contains_run (l : List Int) (v : Int) (n : Nat) (f : Bool) (hn : l = [] ∨ n = 1) (hl : l.length ≤ 100000) : Run Tryd.prog 79 [.sl n (l.map (.int .i64)) f, .int .i64 v] (.bool (decide (v ∈ l))) := by
  have q := index_run l v n f hn hl
  refine Tryd.run79 (by simp) ?_
  unfold Tryd.c79
  rw [← idF_mem v l 0]
  generalize idF v l 0 = i at *
  generalize l.map (AV.int .i64) = es at *
  simp (disch := first | omega | (simp only [pvl] at *; omega)) only [↓pvd, pv0, pv1, pv2, pv3, pv4, pv5, pv6, pv7, pvc0, pvc1, pvc2, Pv.put, bin2, int2, binB2, un1, AV.flat, pvf, rvs_1, rvs_2, szOk, notStr, setCells, AV.one, resX, layC, layA, lay, List.map, List.replicate, List.length_replicate, pvq0, pvq1, seval, reduceCtorEq]
  refine awR_call q rfl rfl ?_
  simp (disch := first | omega | (simp only [pvl] at *; omega)) only [↓pvd, pv0, pv1, pv2, pv3, pv4, pv5, pv6, pv7, pvc0, pvc1, pvc2, Pv.put, bin2, int2, binB2, un1, AV.flat, pvf, rvs_1, rvs_2, szOk, notStr, setCells, AV.one, resX, layC, layA, lay, List.map, List.replicate, List.length_replicate, pvq0, pvq1, seval, reduceCtorEq]
  (refine Ends_rq [] ?_; simp (disch := first | omega | (simp only [pvl]; omega)) only [↓pvd, pv0, pv1, pv2, pv3, pv4, pv5, pv6, pv7, pvc0, pvc1, pvc2, Pv.put, bin2, int2, binB2, un1, AV.flat, pvf, rvs_1, rvs_2, szOk, notStr, setCells, AV.one, resX, layC, layA, lay, List.map, List.replicate, List.length_replicate, pvq0, pvq1, seval, reduceCtorEq]; exact ⟨_, rfl, rfl, rfl⟩)
/-- A line, but for its lists. -/
structure Ln where
  row : Int
  kind : Int
  dev : List UInt8
  port : List UInt8
  peer : List UInt8
  far : List UInt8
  name : List UInt8
  mac : Int
  addr : Int
  bits : Int
  vlan : Int
  num : Int
  cost : Int
deriving DecidableEq
def lnA (l : Ln) (t im ex ad : AV) : AV := .agg [.int .i64 l.row, .int .i64 l.kind, .str l.dev, .str l.port, .str l.peer, .str l.far, .str l.name, .int .u64 l.mac, .int .u32 l.addr, .int .i64 l.bits, .int .i64 l.vlan, .int .i64 l.num, .int .i64 l.cost, t, im, ex, ad]
def lnZ : Ln := ⟨0, 0, [], [], [], [], [], 0, 0, 0, 0, 0, 0⟩
def nilA : AV := .sl 0 [] true
/-- May a port's VLANs be? -/
def mbF (v : Int) (tg : List Int) : Bool := decide (0 < v ∨ 0 < tg.length) && !decide (v ∈ tg)
theorem members_run (l : Ln) (tg : List Int) (n : Nat) (f : Bool) (im ex ad : List AV) (a b c : Nat) (p q r : Bool) (hn : tg = [] ∨ n = 1) (hl : tg.length ≤ 100000) :
    Run Tryd.prog 57 [lnA l (.sl n (tg.map (.int .i64)) f) (.sl a im p) (.sl b ex q) (.sl c ad r)] (.bool (mbF l.vlan tg)) := by
  have q := contains_run tg l.vlan n f hn hl
  refine Tryd.run57 (by simp) ?_
  unfold Tryd.c57 lnA mbF
  generalize decide (l.vlan ∈ tg) = ct at *
  have htl : (tg.map (AV.int .i64)).length = tg.length := by simp
  generalize tg.map (AV.int .i64) = es at *
  by_cases h1 : 0 < l.vlan
  · rw [decide_eq_true (.inl h1)]
    repeat' (first | (simp (disch := first | omega | (simp only [pvl]; omega)) only [↓pvd, pv0, pv1, pv2, pv3, pv4, pv5, pv6, pv7, pvc0, pvc1, pvc2, Pv.put, bin2, int2, binB2, un1, AV.flat, pvf, rvs_1, rvs_2, szOk, notStr, setCells, AV.one, resX, layC, layA, lay, List.map, List.replicate, List.length_replicate, pvq0, pvq1, seval, reduceCtorEq, htl, still]) | with_reducible refine condP_d (fun _ => ?_) (fun _ => ?_) | with_reducible refine guardP_d0 (fun _ => ?_) (fun _ => ?_) | with_reducible refine guardP_d1 (fun _ => ?_) (fun _ => ?_) | with_reducible refine condP_any ?_ ?_ | refine awR_call q rfl rfl ?_ | refine awR_callD q rfl rfl (fun _ => rfl) ?_ | (refine Ends_rq [] ?_; simp (disch := first | omega | (simp only [pvl]; omega)) only [↓pvd, pv0, pv1, pv2, pv3, pv4, pv5, pv6, pv7, pvc0, pvc1, pvc2, Pv.put, bin2, int2, binB2, un1, AV.flat, pvf, rvs_1, rvs_2, szOk, notStr, setCells, AV.one, resX, layC, layA, lay, List.map, List.replicate, List.length_replicate, pvq0, pvq1, seval, reduceCtorEq]; exact ⟨_, rfl, rfl, rfl⟩))
  · by_cases h2 : 0 < tg.length
    · rw [decide_eq_true (.inr h2)]
      repeat' (first | (simp (disch := first | omega | (simp only [pvl]; omega)) only [↓pvd, pv0, pv1, pv2, pv3, pv4, pv5, pv6, pv7, pvc0, pvc1, pvc2, Pv.put, bin2, int2, binB2, un1, AV.flat, pvf, rvs_1, rvs_2, szOk, notStr, setCells, AV.one, resX, layC, layA, lay, List.map, List.replicate, List.length_replicate, pvq0, pvq1, seval, reduceCtorEq, htl, still]) | with_reducible refine condP_d (fun _ => ?_) (fun _ => ?_) | with_reducible refine guardP_d0 (fun _ => ?_) (fun _ => ?_) | with_reducible refine guardP_d1 (fun _ => ?_) (fun _ => ?_) | with_reducible refine condP_any ?_ ?_ | refine awR_call q rfl rfl ?_ | refine awR_callD q rfl rfl (fun _ => rfl) ?_ | (refine Ends_rq [] ?_; simp (disch := first | omega | (simp only [pvl]; omega)) only [↓pvd, pv0, pv1, pv2, pv3, pv4, pv5, pv6, pv7, pvc0, pvc1, pvc2, Pv.put, bin2, int2, binB2, un1, AV.flat, pvf, rvs_1, rvs_2, szOk, notStr, setCells, AV.one, resX, layC, layA, lay, List.map, List.replicate, List.length_replicate, pvq0, pvq1, seval, reduceCtorEq]; exact ⟨_, rfl, rfl, rfl⟩))
    · rw [decide_eq_false (fun h => h.elim h1 h2)]
      repeat' (first | (simp (disch := first | omega | (simp only [pvl]; omega)) only [↓pvd, pv0, pv1, pv2, pv3, pv4, pv5, pv6, pv7, pvc0, pvc1, pvc2, Pv.put, bin2, int2, binB2, un1, AV.flat, pvf, rvs_1, rvs_2, szOk, notStr, setCells, AV.one, resX, layC, layA, lay, List.map, List.replicate, List.length_replicate, pvq0, pvq1, seval, reduceCtorEq, htl, still]) | with_reducible refine condP_d (fun _ => ?_) (fun _ => ?_) | with_reducible refine guardP_d0 (fun _ => ?_) (fun _ => ?_) | with_reducible refine guardP_d1 (fun _ => ?_) (fun _ => ?_) | with_reducible refine condP_any ?_ ?_ | refine awR_call q rfl rfl ?_ | refine awR_callD q rfl rfl (fun _ => rfl) ?_ | (refine Ends_rq [] ?_; simp (disch := first | omega | (simp only [pvl]; omega)) only [↓pvd, pv0, pv1, pv2, pv3, pv4, pv5, pv6, pv7, pvc0, pvc1, pvc2, Pv.put, bin2, int2, binB2, un1, AV.flat, pvf, rvs_1, rvs_2, szOk, notStr, setCells, AV.one, resX, layC, layA, lay, List.map, List.replicate, List.length_replicate, pvq0, pvq1, seval, reduceCtorEq]; exact ⟨_, rfl, rfl, rfl⟩))
end Go.Proofs
