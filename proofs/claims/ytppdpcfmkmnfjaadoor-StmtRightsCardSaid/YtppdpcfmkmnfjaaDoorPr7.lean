/- The proofs of what the functions of this seat do. -/
import Derived.Test.YtppdpcfmkmnfjaaDoorPr6
import Derived.Stop.LaidErr
set_option linter.unusedSimpArgs false
set_option linter.unusedVariables false
set_option maxHeartbeats 2000000
set_option maxRecDepth 20000
namespace Go.Proofs
open Go.Pv
def wsA : List (List UInt8) := [[112, 111, 114, 116], [115, 119, 49], [112, 49], [52], [97, 99, 99, 101, 115, 115], [49, 48]]
def wsB : List (List UInt8) := [[112, 111, 114, 116], [115, 119, 49], [112, 49], [52], [116, 114, 117, 110, 107], [49, 48], [49, 48, 44, 50, 48]]
theorem fieldsA : Lib.fields [112, 111, 114, 116, 32, 115, 119, 49, 32, 112, 49, 32, 52, 32, 97, 99, 99, 101, 115, 115, 32, 49, 48] = wsA := by decide
theorem fieldsB : Lib.fields [112, 111, 114, 116, 32, 115, 119, 49, 32, 112, 49, 32, 52, 32, 116, 114, 117, 110, 107, 32, 49, 48, 32, 49, 48, 44, 50, 48] = wsB := by decide
theorem dig4 : Nm.digF 4 = [52] := by rw [Nm.digF_lt (by omega)]; decide
theorem tx4 : Nm.txF 4 = [52] := by unfold Nm.txF; rw [if_neg (by omega)]; exact dig4
theorem rd4 : Nm.rdF [52] 1 65535 = (4, true) := by
  unfold Nm.rdF Nm.rdG
  rw [if_neg (by decide), if_neg (by decide), if_neg (by decide)]
  rw [show (if false = true then -Nm.vF [52] [(52 : UInt8)].length else Nm.vF [52] [(52 : UInt8)].length) = 4 by decide]
  dsimp only
  rw [if_neg (by decide), if_neg (by decide), if_neg (by rw [tx4]; simp)]
theorem lsB_eg : lsV [49, 48, 44, 50, 48] 4094 = [10, 20] ∧ lsB [49, 48, 44, 50, 48] 4094 = false := by
  have h1 : sc [49, 48, 44, 50, 48] = [[49, 48], [50, 48]] := by decide
  have h2 : lsG [49, 48, 44, 50, 48] 4094 = true := by
    unfold lsG rlF gI
    rw [h1]
    simp only [List.all_cons, List.all_nil, List.map_cons, List.map_nil, Nm.rd10, Nm.rd20]
    decide
  constructor
  · unfold lsV
    rw [if_neg (by decide), if_pos h2, h1]
    simp only [List.map_cons, List.map_nil, gI, Nm.rd10, Nm.rd20]
  · unfold lsB
    rw [h2]
    decide
theorem rdA0 : rdE wsA = 0 := by
  unfold rdE okN
  rw [show kdF wsA[0]! = 2 by decide, show mnF 2 wsA = true by decide]
  rw [show (decide (wsA ≠ []) && true) = true by decide, if_pos rfl]
  show er2 wsA = 0
  have h1 : eK wsA[4]! (eU wsA[3]! 1 65535 (eN wsA[2]! (eN wsA[1]! 0))) = 0 := by
    rw [eK_z, eU_z, eN_z, eN_z]
    refine ⟨⟨⟨⟨rfl, by decide⟩, by decide⟩, ?_⟩, .inl rfl⟩
    rw [show wsA[3]! = [52] from rfl, rd4]
  have h2 : pkV wsA 4 = 10 := by
    unfold pkV
    rw [if_pos (by decide), show wsA[4 + 1]! = [49, 48] from rfl, Nm.rd10]
  have h3 : pkT wsA 4 = [] := by
    unfold pkT
    rw [if_neg (by decide)]
  unfold er2
  rw [h1]
  unfold pkE
  rw [h2, h3, if_pos (by decide), show wsA[4 + 1]! = [49, 48] from rfl, Nm.rd10]
  decide
theorem rdA1 : rdL wsA 7 = ⟨⟨7, 2, [115, 119, 49], [112, 49], [], [], [], 0, 0, 0, 10, 0, 4⟩, [], [], [], []⟩ := by
  have h2 : pkV wsA 4 = 10 := by
    unfold pkV
    rw [if_pos (by decide), show wsA[4 + 1]! = [49, 48] from rfl, Nm.rd10]
  have h3 : pkT wsA 4 = [] := by
    unfold pkT
    rw [if_neg (by decide)]
  unfold rdL
  rw [show kdF wsA[0]! = 2 by decide]
  show li2 wsA 7 = _
  unfold li2 nu
  rw [h2, h3, show wsA[3]! = [52] from rfl, rd4]
  rfl
theorem rdB0 : rdE wsB = 21 := by
  unfold rdE okN
  rw [show kdF wsB[0]! = 2 by decide, show mnF 2 wsB = true by decide]
  rw [show (decide (wsB ≠ []) && true) = true by decide, if_pos rfl]
  show er2 wsB = 21
  have h1 : eK wsB[4]! (eU wsB[3]! 1 65535 (eN wsB[2]! (eN wsB[1]! 0))) = 0 := by
    rw [eK_z, eU_z, eN_z, eN_z]
    refine ⟨⟨⟨⟨rfl, by decide⟩, by decide⟩, ?_⟩, .inr rfl⟩
    rw [show wsB[3]! = [52] from rfl, rd4]
  have h2 : pkV wsB 4 = 10 := by
    unfold pkV
    rw [if_neg (by decide), if_pos (by decide), if_neg (by decide), show wsB[4 + 1]! = [49, 48] from rfl, Nm.rd10]
  have h3 : pkT wsB 4 = [10, 20] := by
    unfold pkT
    rw [if_pos (by decide), show wsB[4 + 2]! = [49, 48, 44, 50, 48] from rfl, lsB_eg.1]
  unfold er2
  rw [h1]
  unfold pkE
  rw [h2, h3, if_neg (by decide), if_pos (by decide), if_neg (by decide), show wsB[4 + 1]! = [49, 48] from rfl, Nm.rd10, show wsB[4 + 2]! = [49, 48, 44, 50, 48] from rfl, lsB_eg.2]
  decide
theorem works11 : Run Tryd.prog 13 [] (.bool true) := by
  have q1 := fields_run [112, 111, 114, 116, 32, 115, 119, 49, 32, 112, 49, 32, 52, 32, 97, 99, 99, 101, 115, 115, 32, 49, 48] (by decide) (by decide) (by rw [fieldsA]; decide)
  have q2 := fields_run [112, 111, 114, 116, 32, 115, 119, 49, 32, 112, 49, 32, 52, 32, 116, 114, 117, 110, 107, 32, 49, 48, 32, 49, 48, 44, 50, 48] (by decide) (by decide) (by rw [fieldsB]; decide)
  rw [fieldsA] at q1
  rw [fieldsB] at q2
  have q3 := run_lift (sread_run wsA false 7 (by decide) (by decide))
  have q4 := run_lift (sread_run wsB false 7 (by decide) (by decide))
  rw [rdA0, rdA1, rdT_z] at q3
  rw [rdB0, rdT_e (by decide)] at q4
  have q5 := right_runS (isLn_V ⟨⟨7, 2, [115, 119, 49], [112, 49], [], [], [], 0, 0, 0, 10, 0, 4⟩, [], [], [], []⟩) (by
    have := rd_B (r := 7) rdA0
    rwa [rdA1] at this)
  have hr : rtO ⟨⟨7, 2, [115, 119, 49], [112, 49], [], [], [], 0, 0, 0, 10, 0, 4⟩, [], [], [], []⟩ = true := by
    have := rd_right (r := 7) rdA0 7
    rw [rdA1] at this
    exact this
  rw [hr] at q5
  have q6 := run_lift q5
  clear q5 hr
  rw [show lnV ⟨⟨7, 2, [115, 119, 49], [112, 49], [], [], [], 0, 0, 0, 10, 0, 4⟩, [], [], [], []⟩ = lnA ⟨7, 2, [115, 119, 49], [112, 49], [], [], [], 0, 0, 0, 10, 0, 4⟩ (.sl 0 [] true) (.sl 0 [] true) (.sl 0 [] true) (.sl 0 [] true) from rfl] at q3 q6
  generalize wsA.map AV.str = rA at *
  generalize wsB.map AV.str = rB at *
  refine Tryd.irun13 (by simp) ⟨?_⟩
  unfold Tryd.c13
  unfold lnA at q3 q4 q6
  unfold lnZ at q4
  simp (disch := first | omega | (simp only [pvl]; omega)) only [↓pvd, pv0, pv1, pv2, pv3, pv4, pv5, pv6, pv7, pvc0, pvc1, pvc2, Pv.put, bin2, int2, binB2, un1, AV.flat, pvf, rvs_1, rvs_2, szOk, notStr, setCells, AV.one, resX, layC, layA, lay, List.map, List.replicate, List.length_replicate, pvq0, pvq1, seval, reduceCtorEq, true_and]
  refine awR_call q1 rfl rfl ?_
  simp (disch := first | omega | (simp only [pvl]; omega)) only [↓pvd, pv0, pv1, pv2, pv3, pv4, pv5, pv6, pv7, pvc0, pvc1, pvc2, Pv.put, bin2, int2, binB2, un1, AV.flat, pvf, rvs_1, rvs_2, szOk, notStr, setCells, AV.one, resX, layC, layA, lay, List.map, List.replicate, List.length_replicate, pvq0, pvq1, seval, reduceCtorEq, true_and]
  refine awR_call q3 rfl rfl ?_
  simp (disch := first | omega | (simp only [pvl]; omega)) only [↓pvd, pv0, pv1, pv2, pv3, pv4, pv5, pv6, pv7, pvc0, pvc1, pvc2, Pv.put, bin2, int2, binB2, un1, AV.flat, pvf, rvs_1, rvs_2, szOk, notStr, setCells, AV.one, resX, layC, layA, lay, List.map, List.replicate, List.length_replicate, pvq0, pvq1, seval, reduceCtorEq, true_and]
  refine awR_call q2 rfl rfl ?_
  simp (disch := first | omega | (simp only [pvl]; omega)) only [↓pvd, pv0, pv1, pv2, pv3, pv4, pv5, pv6, pv7, pvc0, pvc1, pvc2, Pv.put, bin2, int2, binB2, un1, AV.flat, pvf, rvs_1, rvs_2, szOk, notStr, setCells, AV.one, resX, layC, layA, lay, List.map, List.replicate, List.length_replicate, pvq0, pvq1, seval, reduceCtorEq, true_and]
  refine awR_call q4 rfl rfl ?_
  simp (disch := first | omega | (simp only [pvl]; omega)) only [↓pvd, pv0, pv1, pv2, pv3, pv4, pv5, pv6, pv7, pvc0, pvc1, pvc2, Pv.put, bin2, int2, binB2, un1, AV.flat, pvf, rvs_1, rvs_2, szOk, notStr, setCells, AV.one, resX, layC, layA, lay, List.map, List.replicate, List.length_replicate, pvq0, pvq1, seval, reduceCtorEq, true_and]
  refine awR_call q6 rfl rfl ?_
  simp (disch := first | omega | (simp only [pvl]; omega)) only [↓pvd, pv0, pv1, pv2, pv3, pv4, pv5, pv6, pv7, pvc0, pvc1, pvc2, Pv.put, bin2, int2, binB2, un1, AV.flat, pvf, rvs_1, rvs_2, szOk, notStr, setCells, AV.one, resX, layC, layA, lay, List.map, List.replicate, List.length_replicate, pvq0, pvq1, seval, reduceCtorEq, true_and]
  (refine Ends_rq [] ?_; simp (disch := first | omega | (simp only [pvl]; omega)) only [↓pvd, pv0, pv1, pv2, pv3, pv4, pv5, pv6, pv7, pvc0, pvc1, pvc2, Pv.put, bin2, int2, binB2, un1, AV.flat, pvf, rvs_1, rvs_2, szOk, notStr, setCells, AV.one, resX, layC, layA, lay, List.map, List.replicate, List.length_replicate, pvq0, pvq1, seval, reduceCtorEq]; exact ⟨_, rfl, rfl, rfl⟩)
end Go.Proofs

set_option linter.unusedSimpArgs false
set_option linter.unusedVariables false
set_option maxHeartbeats 2000000
set_option maxRecDepth 20000
namespace Go.Proofs
open Go.Pv
theorem lnfZ_B : lnB lnfZ := by
  refine ⟨?_, ?_, ?_⟩
  · simp only [lnfZ, lnZ, List.length_nil]; omega
  · simp only [lnfZ, lnZ]; omega
  · intro a ha; cases ha
theorem lnB_S {x : LnF} (h : lnB x) : lnS x := by
  have := h.1
  exact ⟨by omega, by omega, by omega, by omega⟩
set_option maxHeartbeats 16000000 in
theorem stmtRights_run (ws : List (List UInt8)) (row other : Int) (hl : ws.length ≤ maxLen) : Run Tryd.prog 6 [.sl 1 (ws.map .str) false, .int .i64 row, .int .i64 other] (.bool true) := by
  have q0 := works11
  have q1 := run_lift (great11_run ws false (by simp only [maxLen] at hl; omega))
  refine Tryd.irun6 (by simp) ?_
  unfold Tryd.c6
  by_cases hg : grW ws = true
  · rw [hg] at q1
    generalize ws.map AV.str = rw0 at *
    simp (disch := first | omega | (simp only [pvl]; omega)) only [↓pvd, pv0, pv1, pv2, pv3, pv4, pv5, pv6, pv7, pvc0, pvc1, pvc2, Pv.put, bin2, int2, binB2, un1, AV.flat, pvf, rvs_1, rvs_2, szOk, notStr, setCells, AV.one, resX, layC, layA, lay, List.map, List.replicate, List.length_replicate, pvq0, pvq1, seval, reduceCtorEq, true_and]
    refine awR_call q0 rfl rfl ?_
    simp (disch := first | omega | (simp only [pvl]; omega)) only [↓pvd, pv0, pv1, pv2, pv3, pv4, pv5, pv6, pv7, pvc0, pvc1, pvc2, Pv.put, bin2, int2, binB2, un1, AV.flat, pvf, rvs_1, rvs_2, szOk, notStr, setCells, AV.one, resX, layC, layA, lay, List.map, List.replicate, List.length_replicate, pvq0, pvq1, seval, reduceCtorEq, true_and]
    refine awR_call q1 rfl rfl ?_
    simp (disch := first | omega | (simp only [pvl]; omega)) only [↓pvd, pv0, pv1, pv2, pv3, pv4, pv5, pv6, pv7, pvc0, pvc1, pvc2, Pv.put, bin2, int2, binB2, un1, AV.flat, pvf, rvs_1, rvs_2, szOk, notStr, setCells, AV.one, resX, layC, layA, lay, List.map, List.replicate, List.length_replicate, pvq0, pvq1, seval, reduceCtorEq, true_and]
    (refine Ends_rq [] ?_; simp (disch := first | omega | (simp only [pvl]; omega)) only [↓pvd, pv0, pv1, pv2, pv3, pv4, pv5, pv6, pv7, pvc0, pvc1, pvc2, Pv.put, bin2, int2, binB2, un1, AV.flat, pvf, rvs_1, rvs_2, szOk, notStr, setCells, AV.one, resX, layC, layA, lay, List.map, List.replicate, List.length_replicate, pvq0, pvq1, seval, reduceCtorEq]; exact ⟨_, rfl, rfl, rfl⟩)
  have hg' : grW ws = false := by simpa using hg
  rw [hg'] at q1
  have hw : ws.length ≤ 20 ∧ ∀ w ∈ ws, w.length ≤ 300 := by
    unfold grW at hg'
    simp only [Bool.or_eq_false_iff, decide_eq_false_iff_not, List.any_eq_false, decide_eq_true_eq] at hg'
    exact ⟨by omega, fun w hw => by have := hg'.2 w hw; omega⟩
  have q2 := run_lift (sread_run ws false row (by omega) (fun w h => by have := hw.2 w h; omega))
  by_cases he : rdE ws = 0
  · rw [he, rdT_z] at q2
    have hB := rd_B (r := row) he
    have hr := rd_right (r := row) he
    have hrow := rd_row (r := row) he
    have hk := rd_kind (r := row) he
    obtain ⟨n1, f1, n2, f2, n3, f3, n4, f4, hv, c1, c2, c3, c4⟩ := isLn_V (rdL ws row)
    have qc := run_lift (copy_run (isLn_V (rdL ws row)) hB)
    have qr := run_lift (right_runS (isLn_V (rdL ws row)) hB)
    generalize rdL ws row = x at *
    have r0 : rtO x = true := hr x.l.row
    rw [r0] at qr
    have qm := run_lift (right_runS (isLn_cp { x with l := { x.l with row := other } }) ⟨hB.1, hB.2.1, hB.2.2⟩)
    rw [hr other] at qm
    have qf := run_lift (right_runS (isLn_cp { x with l := { x.l with vlan := 4095 } }) ⟨hB.1, hB.2.1, hB.2.2⟩)
    rw [no_vlan _ rfl] at qf
    have qn := run_lift (right_runS (isLn_cp { x with l := { x.l with num := 16777216 } }) ⟨hB.1, hB.2.1, hB.2.2⟩)
    rw [no_num _ rfl] at qn
    have qk := run_lift (right_runS (isLn_cp { x with l := { x.l with kind := x.l.kind + 9 } }) ⟨hB.1, hB.2.1, hB.2.2⟩)
    rw [no_kind _ (show 9 < x.l.kind + 9 by omega)] at qk
    have qs := run_lift (ssame_run (isLn_V x) (isLn_cp { x with l := { x.l with row := other } }) (lnB_S hB) (lnB_S ⟨hB.1, hB.2.1, hB.2.2⟩))
    have hd : decide (x = { x with l := { x.l with row := other } }) = decide (x.l.row = other) := by
      by_cases h : x.l.row = other
      · rw [decide_eq_true h, decide_eq_true]
        subst h; rfl
      · rw [decide_eq_false h, decide_eq_false]
        intro e
        exact h (congrArg (fun y => y.l.row) e)
    rw [hd] at qs
    unfold cpA at qc qm qf qn qk qs
    rw [hv] at q2 qc qr qs
    clear hv hd r0 hr c1 c2 c3 c4 hB
    obtain ⟨⟨r, k, a1, a2, a3, a4, a5, b1, b2, b3, b4, b5, b6⟩, t, im, ex, ad⟩ := x
    simp only at q2 qc qr qm qf qn qk qs hrow hk
    subst hrow
    generalize t.map (AV.int .i64) = s1 at *
    generalize im.map (AV.int .i64) = s2 at *
    generalize ex.map (AV.int .i64) = s3 at *
    generalize ad.map (AV.int .u32) = s4 at *
    generalize ws.map AV.str = rw0 at *
    generalize hd : decide (r = other) = d at *
    unfold lnA at q2 qc qr qm qf qn qk qs
    simp (disch := first | omega | (simp only [pvl]; omega)) only [↓pvd, pv0, pv1, pv2, pv3, pv4, pv5, pv6, pv7, pvc0, pvc1, pvc2, Pv.put, bin2, int2, binB2, un1, AV.flat, pvf, rvs_1, rvs_2, szOk, notStr, setCells, AV.one, resX, layC, layA, lay, List.map, List.replicate, List.length_replicate, pvq0, pvq1, seval, reduceCtorEq, true_and]
    refine awR_call q0 rfl rfl ?_
    simp (disch := first | omega | (simp only [pvl]; omega)) only [↓pvd, pv0, pv1, pv2, pv3, pv4, pv5, pv6, pv7, pvc0, pvc1, pvc2, Pv.put, bin2, int2, binB2, un1, AV.flat, pvf, rvs_1, rvs_2, szOk, notStr, setCells, AV.one, resX, layC, layA, lay, List.map, List.replicate, List.length_replicate, pvq0, pvq1, seval, reduceCtorEq, true_and]
    refine awR_call q1 rfl rfl ?_
    simp (disch := first | omega | (simp only [pvl]; omega)) only [↓pvd, pv0, pv1, pv2, pv3, pv4, pv5, pv6, pv7, pvc0, pvc1, pvc2, Pv.put, bin2, int2, binB2, un1, AV.flat, pvf, rvs_1, rvs_2, szOk, notStr, setCells, AV.one, resX, layC, layA, lay, List.map, List.replicate, List.length_replicate, pvq0, pvq1, seval, reduceCtorEq, true_and]
    refine awR_call q2 rfl rfl ?_
    simp (disch := first | omega | (simp only [pvl]; omega)) only [↓pvd, pv0, pv1, pv2, pv3, pv4, pv5, pv6, pv7, pvc0, pvc1, pvc2, Pv.put, bin2, int2, binB2, un1, AV.flat, pvf, rvs_1, rvs_2, szOk, notStr, setCells, AV.one, resX, layC, layA, lay, List.map, List.replicate, List.length_replicate, pvq0, pvq1, seval, reduceCtorEq, true_and]
    refine awR_call qc rfl rfl ?_
    simp (disch := first | omega | (simp only [pvl]; omega)) only [↓pvd, pv0, pv1, pv2, pv3, pv4, pv5, pv6, pv7, pvc0, pvc1, pvc2, Pv.put, bin2, int2, binB2, un1, AV.flat, pvf, rvs_1, rvs_2, szOk, notStr, setCells, AV.one, resX, layC, layA, lay, List.map, List.replicate, List.length_replicate, pvq0, pvq1, seval, reduceCtorEq, true_and]
    refine awR_call qc rfl rfl ?_
    simp (disch := first | omega | (simp only [pvl]; omega)) only [↓pvd, pv0, pv1, pv2, pv3, pv4, pv5, pv6, pv7, pvc0, pvc1, pvc2, Pv.put, bin2, int2, binB2, un1, AV.flat, pvf, rvs_1, rvs_2, szOk, notStr, setCells, AV.one, resX, layC, layA, lay, List.map, List.replicate, List.length_replicate, pvq0, pvq1, seval, reduceCtorEq, true_and]
    refine awR_call qc rfl rfl ?_
    simp (disch := first | omega | (simp only [pvl]; omega)) only [↓pvd, pv0, pv1, pv2, pv3, pv4, pv5, pv6, pv7, pvc0, pvc1, pvc2, Pv.put, bin2, int2, binB2, un1, AV.flat, pvf, rvs_1, rvs_2, szOk, notStr, setCells, AV.one, resX, layC, layA, lay, List.map, List.replicate, List.length_replicate, pvq0, pvq1, seval, reduceCtorEq, true_and]
    refine awR_call qc rfl rfl ?_
    simp (disch := first | omega | (simp only [pvl]; omega)) only [↓pvd, pv0, pv1, pv2, pv3, pv4, pv5, pv6, pv7, pvc0, pvc1, pvc2, Pv.put, bin2, int2, binB2, un1, AV.flat, pvf, rvs_1, rvs_2, szOk, notStr, setCells, AV.one, resX, layC, layA, lay, List.map, List.replicate, List.length_replicate, pvq0, pvq1, seval, reduceCtorEq, true_and]
    refine awR_call qr rfl rfl ?_
    simp (disch := first | omega | (simp only [pvl]; omega)) only [↓pvd, pv0, pv1, pv2, pv3, pv4, pv5, pv6, pv7, pvc0, pvc1, pvc2, Pv.put, bin2, int2, binB2, un1, AV.flat, pvf, rvs_1, rvs_2, szOk, notStr, setCells, AV.one, resX, layC, layA, lay, List.map, List.replicate, List.length_replicate, pvq0, pvq1, seval, reduceCtorEq, true_and]
    refine awR_call qm rfl rfl ?_
    simp (disch := first | omega | (simp only [pvl]; omega)) only [↓pvd, pv0, pv1, pv2, pv3, pv4, pv5, pv6, pv7, pvc0, pvc1, pvc2, Pv.put, bin2, int2, binB2, un1, AV.flat, pvf, rvs_1, rvs_2, szOk, notStr, setCells, AV.one, resX, layC, layA, lay, List.map, List.replicate, List.length_replicate, pvq0, pvq1, seval, reduceCtorEq, true_and]
    refine awR_call qs rfl rfl ?_
    simp (disch := first | omega | (simp only [pvl]; omega)) only [↓pvd, pv0, pv1, pv2, pv3, pv4, pv5, pv6, pv7, pvc0, pvc1, pvc2, Pv.put, bin2, int2, binB2, un1, AV.flat, pvf, rvs_1, rvs_2, szOk, notStr, setCells, AV.one, resX, layC, layA, lay, List.map, List.replicate, List.length_replicate, pvq0, pvq1, seval, reduceCtorEq, true_and, hd]
    refine awR_call qf rfl rfl ?_
    simp (disch := first | omega | (simp only [pvl]; omega)) only [↓pvd, pv0, pv1, pv2, pv3, pv4, pv5, pv6, pv7, pvc0, pvc1, pvc2, Pv.put, bin2, int2, binB2, un1, AV.flat, pvf, rvs_1, rvs_2, szOk, notStr, setCells, AV.one, resX, layC, layA, lay, List.map, List.replicate, List.length_replicate, pvq0, pvq1, seval, reduceCtorEq, true_and]
    refine awR_call qn rfl rfl ?_
    simp (disch := first | omega | (simp only [pvl]; omega)) only [↓pvd, pv0, pv1, pv2, pv3, pv4, pv5, pv6, pv7, pvc0, pvc1, pvc2, Pv.put, bin2, int2, binB2, un1, AV.flat, pvf, rvs_1, rvs_2, szOk, notStr, setCells, AV.one, resX, layC, layA, lay, List.map, List.replicate, List.length_replicate, pvq0, pvq1, seval, reduceCtorEq, true_and]
    refine awR_call qk rfl rfl ?_
    simp (disch := first | omega | (simp only [pvl]; omega)) only [↓pvd, pv0, pv1, pv2, pv3, pv4, pv5, pv6, pv7, pvc0, pvc1, pvc2, Pv.put, bin2, int2, binB2, un1, AV.flat, pvf, rvs_1, rvs_2, szOk, notStr, setCells, AV.one, resX, layC, layA, lay, List.map, List.replicate, List.length_replicate, pvq0, pvq1, seval, reduceCtorEq, true_and]
    (refine Ends_rq [] ?_; simp (disch := first | omega | (simp only [pvl]; omega)) only [↓pvd, pv0, pv1, pv2, pv3, pv4, pv5, pv6, pv7, pvc0, pvc1, pvc2, Pv.put, bin2, int2, binB2, un1, AV.flat, pvf, rvs_1, rvs_2, szOk, notStr, setCells, AV.one, resX, layC, layA, lay, List.map, List.replicate, List.length_replicate, pvq0, pvq1, seval, reduceCtorEq]; exact ⟨_, rfl, rfl, rfl⟩)
  · rw [rdT_e he] at q2
    have q3 := run_lift (ssame_run (isLn_V lnfZ) (isLn_V lnfZ) (lnB_S lnfZ_B) (lnB_S lnfZ_B))
    rw [decide_eq_true rfl, show lnV lnfZ = lnA lnZ (.sl 0 [] true) (.sl 0 [] true) (.sl 0 [] true) (.sl 0 [] true) from rfl] at q3
    unfold lnA lnZ at q2 q3
    generalize rdE ws = e at *
    generalize ws.map AV.str = rw0 at *
    simp (disch := first | omega | (simp only [pvl]; omega)) only [↓pvd, pv0, pv1, pv2, pv3, pv4, pv5, pv6, pv7, pvc0, pvc1, pvc2, Pv.put, bin2, int2, binB2, un1, AV.flat, pvf, rvs_1, rvs_2, szOk, notStr, setCells, AV.one, resX, layC, layA, lay, List.map, List.replicate, List.length_replicate, pvq0, pvq1, seval, reduceCtorEq, true_and]
    refine awR_call q0 rfl rfl ?_
    simp (disch := first | omega | (simp only [pvl]; omega)) only [↓pvd, pv0, pv1, pv2, pv3, pv4, pv5, pv6, pv7, pvc0, pvc1, pvc2, Pv.put, bin2, int2, binB2, un1, AV.flat, pvf, rvs_1, rvs_2, szOk, notStr, setCells, AV.one, resX, layC, layA, lay, List.map, List.replicate, List.length_replicate, pvq0, pvq1, seval, reduceCtorEq, true_and]
    refine awR_call q1 rfl rfl ?_
    simp (disch := first | omega | (simp only [pvl]; omega)) only [↓pvd, pv0, pv1, pv2, pv3, pv4, pv5, pv6, pv7, pvc0, pvc1, pvc2, Pv.put, bin2, int2, binB2, un1, AV.flat, pvf, rvs_1, rvs_2, szOk, notStr, setCells, AV.one, resX, layC, layA, lay, List.map, List.replicate, List.length_replicate, pvq0, pvq1, seval, reduceCtorEq, true_and]
    refine awR_call q2 rfl rfl ?_
    simp (disch := first | omega | (simp only [pvl]; omega)) only [↓pvd, pv0, pv1, pv2, pv3, pv4, pv5, pv6, pv7, pvc0, pvc1, pvc2, Pv.put, bin2, int2, binB2, un1, AV.flat, pvf, rvs_1, rvs_2, szOk, notStr, setCells, AV.one, resX, layC, layA, lay, List.map, List.replicate, List.length_replicate, pvq0, pvq1, seval, reduceCtorEq, true_and, he]
    refine awR_call q3 rfl rfl ?_
    simp (disch := first | omega | (simp only [pvl]; omega)) only [↓pvd, pv0, pv1, pv2, pv3, pv4, pv5, pv6, pv7, pvc0, pvc1, pvc2, Pv.put, bin2, int2, binB2, un1, AV.flat, pvf, rvs_1, rvs_2, szOk, notStr, setCells, AV.one, resX, layC, layA, lay, List.map, List.replicate, List.length_replicate, pvq0, pvq1, seval, reduceCtorEq, true_and]
    (refine Ends_rq [] ?_; simp (disch := first | omega | (simp only [pvl]; omega)) only [↓pvd, pv0, pv1, pv2, pv3, pv4, pv5, pv6, pv7, pvc0, pvc1, pvc2, Pv.put, bin2, int2, binB2, un1, AV.flat, pvf, rvs_1, rvs_2, szOk, notStr, setCells, AV.one, resX, layC, layA, lay, List.map, List.replicate, List.length_replicate, pvq0, pvq1, seval, reduceCtorEq]; exact ⟨_, rfl, rfl, rfl⟩)
theorem dat_strs11 {y : AV} (h : DatV Tryd.prog 6 38 y) : ∃ l : List (List UInt8), y = .sl 1 (l.map .str) false ∧ l.length ≤ maxLen ∧ ∀ r ∈ l, r.length ≤ maxLen := by
  obtain ⟨es, rfl, hl, hd⟩ := dat_slice Tryd.underlying38 h
  obtain ⟨l, rfl, hr⟩ := map_ofP (p := fun s : List UInt8 => s.length ≤ maxLen) (fun x hx => dat_str Tryd.underlying9 (hd x hx))
  rw [show Tryd.prog.cellsOf 9 = 1 by kernel_rfl]
  exact ⟨l, rfl, by simpa using hl, hr⟩
theorem stmtRights_all : ∀ xs, DatL Tryd.prog 6 Tryd.f6.params.toList xs → Run Tryd.prog 6 xs (.bool true) := by
  intro xs h
  rw [show Tryd.f6.params.toList = [38, 3, 3] from rfl] at h
  obtain ⟨y1, y2, y3, rfl, h1, h2, h3⟩ := datL3 h
  obtain ⟨ws, rfl, hl, _⟩ := dat_strs11 h1
  obtain ⟨a, rfl, ha⟩ := dat_int Tryd.underlying3 h2
  obtain ⟨b, rfl, hb⟩ := dat_int Tryd.underlying3 h3
  exact stmtRights_run ws a b hl
theorem space_q {W : World} (h : Lib.TabIs Tryd.prog W "strings.asciiSpace" .u8 Lib.asciiSpaceTab) {I : Nat → Prop} (hI : ∀ b, b < W.heap.size → I b) : Lq.q W I := by
  have hcell : ∀ c, c < 256 → W.cell? ⟨0, c, none⟩ = some (.int .u8 (if Lib.isSp (UInt8.ofNat c) then 1 else 0)) := fun c hc => by
    rw [h.cell (by kernel_rfl) c (by rw [Lib.asciiSpaceTab_length]; exact hc), Lib.asciiSpaceTab_at c hc]
  refine ⟨hI 0 ?_, hcell⟩
  have := hcell 0 (by omega)
  rcases Nat.lt_or_ge 0 W.heap.size with h' | h'
  · exact h'
  · simp [World.cell?, Array.getElem?_eq_none h'] at this
theorem tab_q {a b c : String × DataW Unit} {W : World} (h : laidMet Tryd.prog [a, b, ("strings.asciiSpace", Lib.tabData .u8 Lib.asciiSpaceTab), c] W) {I : Nat → Prop} (hI : ∀ b, b < W.heap.size → I b) : Lq.q W I :=
  space_q (Lib.tabIs_of_head (g := 0) (by kernel_rfl) (by kernel_rfl) Tryd.underlying86 Tryd.underlying5 (by kernel_rfl) (by kernel_rfl) h.tail.tail) hI
end Go.Proofs
