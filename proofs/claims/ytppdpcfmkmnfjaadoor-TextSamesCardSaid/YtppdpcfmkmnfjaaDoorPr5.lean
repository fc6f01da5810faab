/- The proofs of what the functions of this seat do. -/
import Derived.Test.YtppdpcfmkmnfjaaDoorPr4
set_option linter.unusedSimpArgs false
set_option linter.unusedVariables false
set_option maxHeartbeats 2000000
set_option maxRecDepth 20000
namespace Go.Proofs
open Go.Pv
set_option maxHeartbeats 16000000 in
theorem read2 (ws : List (List UInt8)) (f : Bool) (r : Int) (hk : kdF ws[0]! = 2) (hm : mnF 2 ws = true) (hl : ∀ w ∈ ws, w.length ≤ 1000) : Run Tryd.prog 15 [.sl 1 (ws.map .str) f, .int .i64 r] (rdT (er2 ws) (li2 ws r)) := by
  have hn : 6 ≤ ws.length ∧ ws.length ≤ 7 ∧ (ws[4]! = [97, 99, 99, 101, 115, 115] → 4 + 1 < ws.length) ∧ (ws[4]! = [116, 114, 117, 110, 107] → 4 + 2 < ws.length) := by
    unfold mnF mnP at hm
    simp only [Int.reduceEq, if_false, if_true, Bool.and_eq_true, Bool.or_eq_true, decide_eq_true_eq] at hm
    refine ⟨hm.1, ?_, ?_, ?_⟩
    · rcases hm.2 with h | h | h <;> omega
    · intro h; omega
    · intro h
      rcases hm.2 with h' | h' | h'
      · rw [h] at h'; exact absurd h'.1 (by decide)
      · omega
      · exact absurd h h'.1.2
  obtain ⟨hn1, hn2, hn3, hn4⟩ := hn
  have hlm : (ws.map AV.str).length = ws.length := by simp
  have hg0 : (ws.map AV.str)[0]? = some (.str ws[0]!) := map_get (by omega)
  have hg4 : (ws.map AV.str)[4]? = some (.str ws[4]!) := map_get (by omega)
  have qk := kind_run ws[0]!
  rw [hk] at qk
  have qm := many_run ws f 2 (by simp) (by omega)
  rw [hm] at qm
  obtain ⟨e1, he1⟩ : ∃ e, eN ws[1]! 0 = e := ⟨_, rfl⟩
  have g1 : ∀ (A : Option Ent) (T : Hp), Gen Tryd.prog 28 [.eptr 1 0 0] (A :: rdo ws f 1 0 :: T) (.str ws[1]!) (A :: rdo ws f 2 e1 :: T) := fun A T => by
    rw [← he1]
    exact name_gen ws f 1 0 A T (by omega) (by omega) hl
  obtain ⟨e2, he2⟩ : ∃ e, eN ws[2]! e1 = e := ⟨_, rfl⟩
  have g2 : ∀ (A : Option Ent) (T : Hp), Gen Tryd.prog 28 [.eptr 1 0 0] (A :: rdo ws f 2 e1 :: T) (.str ws[2]!) (A :: rdo ws f 3 e2 :: T) := fun A T => by
    rw [← he2]
    exact name_gen ws f 2 e1 A T (by omega) (by omega) hl
  obtain ⟨e3, he3⟩ : ∃ e, eU ws[3]! 1 65535 e2 = e := ⟨_, rfl⟩
  have g3 : ∀ (A : Option Ent) (T : Hp), Gen Tryd.prog 30 [.eptr 1 0 0, .int .i64 1, .int .i64 65535] (A :: rdo ws f 3 e2 :: T) (.int .i64 (nu ws[3]! 1 65535)) (A :: rdo ws f 4 e3 :: T) := fun A T => by
    rw [← he3]
    exact number_gen ws f 3 e2 1 65535 A T (by omega) (by omega) hl
  obtain ⟨e4, he4⟩ : ∃ e, eK ws[4]! e3 = e := ⟨_, rfl⟩
  have g4 : ∀ b, b = decide (¬ ws[4]! = [97, 99, 99, 101, 115, 115] ∧ ¬ ws[4]! = [116, 114, 117, 110, 107]) → ∀ (A : Option Ent) (T : Hp), Gen Tryd.prog 32 [.eptr 1 0 0, .bool b, .int .i64 20] (A :: rdo ws f 4 e3 :: T) (.tup []) (A :: rdo ws f 4 e4 :: T) := by
    rintro b rfl A T
    rw [← he4]
    exact fail_gen ws f 4 e3 20 _ A T
  obtain ⟨l0, hl0⟩ : ∃ l : Ln, (⟨r, 2, ws[1]!, ws[2]!, [], [], [], 0, 0, 0, 0, 0, nu ws[3]! 1 65535⟩ : Ln) = l := ⟨_, rfl⟩
  obtain ⟨k', g5⟩ := port_gen ws f 4 e4 (some ⟨35, [lnA lnZ (.sl 0 [] true) (.sl 0 [] true) (.sl 0 [] true) (.sl 0 [] true)], true⟩) [] l0 (by rw [← hl0]) (by omega) hl (by omega) hn3 hn4
  have hl1 : ({ l0 with vlan := pkV ws 4 } : Ln) = ⟨r, 2, ws[1]!, ws[2]!, [], [], [], 0, 0, 0, pkV ws 4, 0, nu ws[3]! 1 65535⟩ := by rw [← hl0]
  obtain ⟨n1, f1, hs1, _⟩ := slV_is (pkT ws 4)
  have hx : lnV (li2 ws r) = lnA ⟨r, 2, ws[1]!, ws[2]!, [], [], [], 0, 0, 0, pkV ws 4, 0, nu ws[3]! 1 65535⟩ (.sl n1 ((pkT ws 4).map (.int .i64)) f1) (.sl 0 [] true) (.sl 0 [] true) (.sl 0 [] true) := by
    rw [← hs1]; rfl
  have her : er2 ws = pkE ws 4 e4 := by
    rw [← he4, ← he3, ← he2, ← he1]
    rfl
  rw [her]
  clear her he4 he3 he2 he1
  rw [hl1, hs1] at g5
  rw [← hl0] at g5
  generalize pkE ws 4 e4 = e5 at *
  generalize (pkT ws 4).map (AV.int .i64) = es at *
  generalize li2 ws r = x at *
  refine Tryd.run15 (by simp) ?_
  unfold Tryd.c15
  simp (disch := first | omega | (simp only [pvl]; omega)) only [↓pvd, pv0, pv1, pv2, pv3, pv4, pv5, pv6, pv7, pvc0, pvc1, pvc2, Pv.put, bin2, int2, binB2, un1, AV.flat, pvf, rvs_1, rvs_2, szOk, notStr, setCells, AV.one, resX, layC, layA, lay, List.map, List.replicate, List.length_replicate, pvq0, pvq1, seval, reduceCtorEq, hlm, hg0]
  refine awR_call qk rfl rfl ?_
  simp (disch := first | omega | (simp only [pvl] at *; omega)) only [↓pvd, pv0, pv1, pv2, pv3, pv4, pv5, pv6, pv7, pvc0, pvc1, pvc2, Pv.put, bin2, int2, binB2, un1, AV.flat, pvf, rvs_1, rvs_2, szOk, notStr, setCells, AV.one, resX, layC, layA, lay, List.map, List.replicate, List.length_replicate, pvq0, pvq1, seval, reduceCtorEq]
  refine awR_call qm rfl rfl ?_
  simp (disch := first | omega | (simp only [pvl]; omega)) only [↓pvd, pv0, pv1, pv2, pv3, pv4, pv5, pv6, pv7, pvc0, pvc1, pvc2, Pv.put, bin2, int2, binB2, un1, AV.flat, pvf, rvs_1, rvs_2, szOk, notStr, setCells, AV.one, resX, layC, layA, lay, List.map, List.replicate, List.length_replicate, pvq0, pvq1, seval, reduceCtorEq, hlm, hg0]
  refine awR_call qk rfl rfl ?_
  simp (disch := first | omega | (simp only [pvl] at *; omega)) only [↓pvd, pv0, pv1, pv2, pv3, pv4, pv5, pv6, pv7, pvc0, pvc1, pvc2, Pv.put, bin2, int2, binB2, un1, AV.flat, pvf, rvs_1, rvs_2, szOk, notStr, setCells, AV.one, resX, layC, layA, lay, List.map, List.replicate, List.length_replicate, pvq0, pvq1, seval, reduceCtorEq]
  refine awR_callv rfl (g1 _ _) (by simp) ?_
  simp (disch := first | omega | (simp only [pvl]; omega)) only [↓pvd, pv0, pv1, pv2, pv3, pv4, pv5, pv6, pv7, pvc0, pvc1, pvc2, Pv.put, bin2, int2, binB2, un1, AV.flat, pvf, rvs_1, rvs_2, szOk, notStr, setCells, AV.one, resX, layC, layA, lay, List.map, List.replicate, List.length_replicate, pvq0, pvq1, seval, reduceCtorEq, lnA]
  refine awR_callv rfl (g2 _ _) (by simp) ?_
  simp (disch := first | omega | (simp only [pvl] at *; omega)) only [↓pvd, pv0, pv1, pv2, pv3, pv4, pv5, pv6, pv7, pvc0, pvc1, pvc2, Pv.put, bin2, int2, binB2, un1, AV.flat, pvf, rvs_1, rvs_2, szOk, notStr, setCells, AV.one, resX, layC, layA, lay, List.map, List.replicate, List.length_replicate, pvq0, pvq1, seval, reduceCtorEq]
  refine awR_callG (g3 _ _) ?_
  by_cases ha : ws[4]! = [97, 99, 99, 101, 115, 115]
  case' pos =>
    have da := decide_eq_true ha
    simp (disch := first | omega | (simp only [pvl]; omega)) only [↓pvd, pv0, pv1, pv2, pv3, pv4, pv5, pv6, pv7, pvc0, pvc1, pvc2, Pv.put, bin2, int2, binB2, un1, AV.flat, pvf, rvs_1, rvs_2, szOk, notStr, setCells, AV.one, resX, layC, layA, lay, List.map, List.replicate, List.length_replicate, pvq0, pvq1, seval, reduceCtorEq, hlm, hg4, da]
    refine awR_callG (g4 _ (decide_eq_false (fun h => h.1 ha)).symm _ _) ?_
  case' neg =>
    have da := decide_eq_false ha
    by_cases hb : ws[4]! = [116, 114, 117, 110, 107]
    case' pos =>
      have db := decide_eq_true hb
      simp (disch := first | omega | (simp only [pvl]; omega)) only [↓pvd, pv0, pv1, pv2, pv3, pv4, pv5, pv6, pv7, pvc0, pvc1, pvc2, Pv.put, bin2, int2, binB2, un1, AV.flat, pvf, rvs_1, rvs_2, szOk, notStr, setCells, AV.one, resX, layC, layA, lay, List.map, List.replicate, List.length_replicate, pvq0, pvq1, seval, reduceCtorEq, hlm, hg4, da, db]
      refine awR_callG (g4 _ (decide_eq_false (fun h => h.2 hb)).symm _ _) ?_
    case' neg =>
      have db := decide_eq_false hb
      simp (disch := first | omega | (simp only [pvl]; omega)) only [↓pvd, pv0, pv1, pv2, pv3, pv4, pv5, pv6, pv7, pvc0, pvc1, pvc2, Pv.put, bin2, int2, binB2, un1, AV.flat, pvf, rvs_1, rvs_2, szOk, notStr, setCells, AV.one, resX, layC, layA, lay, List.map, List.replicate, List.length_replicate, pvq0, pvq1, seval, reduceCtorEq, hlm, hg4, da, db]
      refine awR_callG (g4 _ (decide_eq_true ⟨ha, hb⟩).symm _ _) ?_
  all_goals
    simp (disch := first | omega | (simp only [pvl] at *; omega)) only [↓pvd, pv0, pv1, pv2, pv3, pv4, pv5, pv6, pv7, pvc0, pvc1, pvc2, Pv.put, bin2, int2, binB2, un1, AV.flat, pvf, rvs_1, rvs_2, szOk, notStr, setCells, AV.one, resX, layC, layA, lay, List.map, List.replicate, List.length_replicate, pvq0, pvq1, seval, reduceCtorEq]
    refine awR_callG g5 ?_
    simp (disch := first | omega | (simp only [pvl]; omega)) only [↓pvd, pv0, pv1, pv2, pv3, pv4, pv5, pv6, pv7, pvc0, pvc1, pvc2, Pv.put, bin2, int2, binB2, un1, AV.flat, pvf, rvs_1, rvs_2, szOk, notStr, setCells, AV.one, resX, layC, layA, lay, List.map, List.replicate, List.length_replicate, pvq0, pvq1, seval, reduceCtorEq, lno, lnA, nilA]
    by_cases he : e5 = 0
    case' pos => (rw [he, rdT_z, hx]; unfold lnA)
    case' neg => (rw [rdT_e he]; unfold lnA lnZ)
    all_goals simp (disch := first | omega | (simp only [pvl]; omega)) only [↓pvd, pv0, pv1, pv2, pv3, pv4, pv5, pv6, pv7, pvc0, pvc1, pvc2, Pv.put, bin2, int2, binB2, un1, AV.flat, pvf, rvs_1, rvs_2, szOk, notStr, setCells, AV.one, resX, layC, layA, lay, List.map, List.replicate, List.length_replicate, pvq0, pvq1, seval, reduceCtorEq, rdo, lno, lnA, lnZ, nilA, he]
    all_goals (refine EndsX_rq [] ?_; simp (disch := first | omega | (simp only [pvl]; omega)) only [↓pvd, pv0, pv1, pv2, pv3, pv4, pv5, pv6, pv7, pvc0, pvc1, pvc2, Pv.put, bin2, int2, binB2, un1, AV.flat, pvf, rvs_1, rvs_2, szOk, notStr, setCells, AV.one, resX, layC, layA, lay, List.map, List.replicate, List.length_replicate, pvq0, pvq1, seval, reduceCtorEq]; exact ⟨_, rfl, rfl, rfl⟩)
noncomputable def erF (k : Int) (ws : List (List UInt8)) : Int :=
  if k = 1 then er1 ws else if k = 2 then er2 ws else if k = 3 then er3 ws else if k = 4 then er4 ws else if k = 5 then er5 ws else if k = 6 then er6 ws else if k = 7 then er7 ws else if k = 8 then er8 ws else er9 ws
noncomputable def liF (k : Int) (ws : List (List UInt8)) (r : Int) : LnF :=
  if k = 1 then li1 ws r else if k = 2 then li2 ws r else if k = 3 then li3 ws r else if k = 4 then li4 ws r else if k = 5 then li5 ws r else if k = 6 then li6 ws r else if k = 7 then li7 ws r else if k = 8 then li8 ws r else li9 ws r
/-- May any words be a line, by how many they are? -/
def okN (ws : List (List UInt8)) : Bool := decide (ws ≠ []) && mnF (kdF ws[0]!) ws
/-- Which line any words are; what is wrong with them, or 0. -/
noncomputable def rdE (ws : List (List UInt8)) : Int := if okN ws = true then erF (kdF ws[0]!) ws else 22
noncomputable def rdL (ws : List (List UInt8)) (r : Int) : LnF := liF (kdF ws[0]!) ws r
theorem read0 (ws : List (List UInt8)) (f : Bool) (r : Int) (h : okN ws = false) (hw : ws.length ≤ 100000) : Run Tryd.prog 15 [.sl 1 (ws.map .str) f, .int .i64 r] (rdT 22 (rdL ws r)) := by
  rw [rdT_e (by decide)]
  have hlm : (ws.map AV.str).length = ws.length := by simp
  by_cases h0 : ws = []
  · subst h0
    refine Tryd.run15 (by simp) ?_
    unfold Tryd.c15
    simp (disch := first | omega | (simp only [pvl] at *; omega)) only [↓pvd, pv0, pv1, pv2, pv3, pv4, pv5, pv6, pv7, pvc0, pvc1, pvc2, Pv.put, bin2, int2, binB2, un1, AV.flat, pvf, rvs_1, rvs_2, szOk, notStr, setCells, AV.one, resX, layC, layA, lay, List.map, List.replicate, List.length_replicate, pvq0, pvq1, seval, reduceCtorEq]
    unfold lnA lnZ
    (refine EndsX_rq [] ?_; simp (disch := first | omega | (simp only [pvl]; omega)) only [↓pvd, pv0, pv1, pv2, pv3, pv4, pv5, pv6, pv7, pvc0, pvc1, pvc2, Pv.put, bin2, int2, binB2, un1, AV.flat, pvf, rvs_1, rvs_2, szOk, notStr, setCells, AV.one, resX, layC, layA, lay, List.map, List.replicate, List.length_replicate, pvq0, pvq1, seval, reduceCtorEq]; exact ⟨_, rfl, rfl, rfl⟩)
  · have hg0 : (ws.map AV.str)[0]? = some (.str ws[0]!) := map_get (List.length_pos_iff.2 h0)
    have h1 : mnF (kdF ws[0]!) ws = false := by simpa [okN, h0] using h
    have qk := kind_run ws[0]!
    have qm := many_run ws f (kdF ws[0]!) (kdF_b _) (by omega)
    rw [h1] at qm
    have hp := List.length_pos_iff.2 h0
    generalize kdF ws[0]! = k at *
    refine Tryd.run15 (by simp) ?_
    unfold Tryd.c15
    simp (disch := first | omega | (simp only [pvl]; omega)) only [↓pvd, pv0, pv1, pv2, pv3, pv4, pv5, pv6, pv7, pvc0, pvc1, pvc2, Pv.put, bin2, int2, binB2, un1, AV.flat, pvf, rvs_1, rvs_2, szOk, notStr, setCells, AV.one, resX, layC, layA, lay, List.map, List.replicate, List.length_replicate, pvq0, pvq1, seval, reduceCtorEq, hlm, hg0]
    refine awR_call qk rfl rfl ?_
    simp (disch := first | omega | (simp only [pvl] at *; omega)) only [↓pvd, pv0, pv1, pv2, pv3, pv4, pv5, pv6, pv7, pvc0, pvc1, pvc2, Pv.put, bin2, int2, binB2, un1, AV.flat, pvf, rvs_1, rvs_2, szOk, notStr, setCells, AV.one, resX, layC, layA, lay, List.map, List.replicate, List.length_replicate, pvq0, pvq1, seval, reduceCtorEq]
    refine awR_call qm rfl rfl ?_
    simp (disch := first | omega | (simp only [pvl] at *; omega)) only [↓pvd, pv0, pv1, pv2, pv3, pv4, pv5, pv6, pv7, pvc0, pvc1, pvc2, Pv.put, bin2, int2, binB2, un1, AV.flat, pvf, rvs_1, rvs_2, szOk, notStr, setCells, AV.one, resX, layC, layA, lay, List.map, List.replicate, List.length_replicate, pvq0, pvq1, seval, reduceCtorEq]
    unfold lnA lnZ
    (refine EndsX_rq [] ?_; simp (disch := first | omega | (simp only [pvl]; omega)) only [↓pvd, pv0, pv1, pv2, pv3, pv4, pv5, pv6, pv7, pvc0, pvc1, pvc2, Pv.put, bin2, int2, binB2, un1, AV.flat, pvf, rvs_1, rvs_2, szOk, notStr, setCells, AV.one, resX, layC, layA, lay, List.map, List.replicate, List.length_replicate, pvq0, pvq1, seval, reduceCtorEq]; exact ⟨_, rfl, rfl, rfl⟩)
theorem sread_run (ws : List (List UInt8)) (f : Bool) (r : Int) (hw : ws.length ≤ 100000) (hl : ∀ w ∈ ws, w.length ≤ 1000) : Run Tryd.prog 15 [.sl 1 (ws.map .str) f, .int .i64 r] (rdT (rdE ws) (rdL ws r)) := by
  unfold rdE
  by_cases h : okN ws = true
  · rw [if_pos h]
    have h1 : mnF (kdF ws[0]!) ws = true := by
      unfold okN at h
      simp only [Bool.and_eq_true] at h
      exact h.2
    unfold rdL erF liF
    rcases kdF_b ws[0]! with e | e | e | e | e | e | e | e | e | e
    · rw [e] at h1; simp [mnF] at h1
    all_goals rw [e] at h1
    all_goals simp only [e, Int.reduceEq, if_true, if_false]
    · exact read1 ws f r e h1 hl
    · exact read2 ws f r e h1 hl
    · exact read3 ws f r e h1 hl
    · exact read4 ws f r e h1 hl
    · exact read5 ws f r e h1 hl
    · exact read6 ws f r e h1 hl
    · exact read7 ws f r e h1 hl
    · exact read8 ws f r e h1 hl
    · exact read9 ws f r e h1 hl
  · rw [if_neg h]
    exact read0 ws f r (by simpa using h) hw
end Go.Proofs

set_option linter.unusedSimpArgs false
set_option linter.unusedVariables false
set_option maxHeartbeats 2000000
set_option maxRecDepth 20000
namespace Go.Proofs
open Go.Pv
theorem equali_run (l m : List Int) (n n' : Nat) (f f' : Bool) (hn : l = [] ∨ n = 1) (hn' : m = [] ∨ n' = 1) (hl : (l.length : Int) < 9223372036854775807) (hm : (m.length : Int) < 9223372036854775807) :
    Run Tryd.prog 41 [.sl n (l.map (.int .i64)) f, .sl n' (m.map (.int .i64)) f'] (.bool (decide (l = m))) := by
  refine Tryd.run41 (by simp) ?_
  unfold Tryd.c41
  by_cases h : l.length = m.length
  case neg =>
    rw [decide_eq_false (fun e => h (by rw [e]))]
    simp (disch := first | omega | (simp only [pvl]; omega)) only [↓pvd, pv0, pv1, pv2, pv3, pv4, pv5, pv6, pv7, pvc0, pvc1, pvc2, Pv.put, bin2, int2, binB2, un1, AV.flat, pvf, rvs_1, rvs_2, szOk, notStr, setCells, AV.one, resX, layC, layA, lay, List.map, List.replicate, List.length_replicate, pvq0, pvq1, seval, reduceCtorEq, List.length_map]
    (refine Ends_rq [] ?_; simp (disch := first | omega | (simp only [pvl]; omega)) only [↓pvd, pv0, pv1, pv2, pv3, pv4, pv5, pv6, pv7, pvc0, pvc1, pvc2, Pv.put, bin2, int2, binB2, un1, AV.flat, pvf, rvs_1, rvs_2, szOk, notStr, setCells, AV.one, resX, layC, layA, lay, List.map, List.replicate, List.length_replicate, pvq0, pvq1, seval, reduceCtorEq]; exact ⟨_, rfl, rfl, rfl⟩)
  simp (disch := first | omega | (simp only [pvl]; omega)) only [↓pvd, pv0, pv1, pv2, pv3, pv4, pv5, pv6, pv7, pvc0, pvc1, pvc2, Pv.put, bin2, int2, binB2, un1, AV.flat, pvf, rvs_1, rvs_2, szOk, notStr, setCells, AV.one, resX, layC, layA, lay, List.map, List.replicate, List.length_replicate, pvq0, pvq1, seval, reduceCtorEq, List.length_map]
  refine aw_loop (fun k : Nat => ⟨[(0, .sl n (l.map (.int .i64)) f), (1, .sl n' (m.map (.int .i64)) f'), (12, .int .i64 l.length), (13, .int .i64 k)], []⟩) (fun k => k ≤ l.length ∧ l.take k = m.take k) (fun k => l.length - k) 0 ?_ ⟨by omega, by simp⟩ ?_
  · simp (disch := first | omega | (simp only [pvl] at *; omega)) only [↓pvd, pv0, pv1, pv2, pv3, pv4, pv5, pv6, pv7, pvc0, pvc1, pvc2, Pv.put, bin2, int2, binB2, un1, AV.flat, pvf, rvs_1, rvs_2, szOk, notStr, setCells, AV.one, resX, layC, layA, lay, List.map, List.replicate, List.length_replicate, pvq0, pvq1, seval, reduceCtorEq]
    try rfl
  rintro k ⟨hk, hi⟩
  unfold Tryd.c41b0
  by_cases hx : k < l.length
  · obtain rfl : n = 1 := hn.resolve_left (by rintro rfl; simp at hx)
    obtain rfl : n' = 1 := hn'.resolve_left (by rintro rfl; rw [List.length_nil] at h; omega)
    have hg1 : (l.map (AV.int .i64))[k]? = some (.int .i64 l[k]!) := map_get hx
    have hg2 : (m.map (AV.int .i64))[k]? = some (.int .i64 m[k]!) := map_get (by omega)
    by_cases e : l[k]! = m[k]!
    · simp (disch := first | omega | (simp only [pvl]; omega)) only [↓pvd, pv0, pv1, pv2, pv3, pv4, pv5, pv6, pv7, pvc0, pvc1, pvc2, Pv.put, bin2, int2, binB2, un1, AV.flat, pvf, rvs_1, rvs_2, szOk, notStr, setCells, AV.one, resX, layC, layA, lay, List.map, List.replicate, List.length_replicate, pvq0, pvq1, seval, reduceCtorEq, hg1, hg2, List.length_map, e]
      exact ⟨k + 1, rfl, ⟨hx, take_next hi hx (by omega) e⟩, by omega⟩
    · rw [decide_eq_false (take_ne hx (by omega) e)]
      simp (disch := first | omega | (simp only [pvl]; omega)) only [↓pvd, pv0, pv1, pv2, pv3, pv4, pv5, pv6, pv7, pvc0, pvc1, pvc2, Pv.put, bin2, int2, binB2, un1, AV.flat, pvf, rvs_1, rvs_2, szOk, notStr, setCells, AV.one, resX, layC, layA, lay, List.map, List.replicate, List.length_replicate, pvq0, pvq1, seval, reduceCtorEq, hg1, hg2, List.length_map, e]
      (refine Ends_rq [] ?_; simp (disch := first | omega | (simp only [pvl]; omega)) only [↓pvd, pv0, pv1, pv2, pv3, pv4, pv5, pv6, pv7, pvc0, pvc1, pvc2, Pv.put, bin2, int2, binB2, un1, AV.flat, pvf, rvs_1, rvs_2, szOk, notStr, setCells, AV.one, resX, layC, layA, lay, List.map, List.replicate, List.length_replicate, pvq0, pvq1, seval, reduceCtorEq]; exact ⟨_, rfl, rfl, rfl⟩)
  · rw [decide_eq_true (take_full hi (by omega) (by omega))]
    simp (disch := first | omega | (simp only [pvl]; omega)) only [↓pvd, pv0, pv1, pv2, pv3, pv4, pv5, pv6, pv7, pvc0, pvc1, pvc2, Pv.put, bin2, int2, binB2, un1, AV.flat, pvf, rvs_1, rvs_2, szOk, notStr, setCells, AV.one, resX, layC, layA, lay, List.map, List.replicate, List.length_replicate, pvq0, pvq1, seval, reduceCtorEq, List.length_map]
    (refine Ends_rq [] ?_; simp (disch := first | omega | (simp only [pvl]; omega)) only [↓pvd, pv0, pv1, pv2, pv3, pv4, pv5, pv6, pv7, pvc0, pvc1, pvc2, Pv.put, bin2, int2, binB2, un1, AV.flat, pvf, rvs_1, rvs_2, szOk, notStr, setCells, AV.one, resX, layC, layA, lay, List.map, List.replicate, List.length_replicate, pvq0, pvq1, seval, reduceCtorEq]; exact ⟨_, rfl, rfl, rfl⟩)
theorem equalu_run (l m : List Int) (n n' : Nat) (f f' : Bool) (hn : l = [] ∨ n = 1) (hn' : m = [] ∨ n' = 1) (hl : (l.length : Int) < 9223372036854775807) (hm : (m.length : Int) < 9223372036854775807) :
    Run Tryd.prog 42 [.sl n (l.map (.int .u32)) f, .sl n' (m.map (.int .u32)) f'] (.bool (decide (l = m))) := by
  refine Tryd.run42 (by simp) ?_
  unfold Tryd.c42
  by_cases h : l.length = m.length
  case neg =>
    rw [decide_eq_false (fun e => h (by rw [e]))]
    simp (disch := first | omega | (simp only [pvl]; omega)) only [↓pvd, pv0, pv1, pv2, pv3, pv4, pv5, pv6, pv7, pvc0, pvc1, pvc2, Pv.put, bin2, int2, binB2, un1, AV.flat, pvf, rvs_1, rvs_2, szOk, notStr, setCells, AV.one, resX, layC, layA, lay, List.map, List.replicate, List.length_replicate, pvq0, pvq1, seval, reduceCtorEq, List.length_map]
    (refine Ends_rq [] ?_; simp (disch := first | omega | (simp only [pvl]; omega)) only [↓pvd, pv0, pv1, pv2, pv3, pv4, pv5, pv6, pv7, pvc0, pvc1, pvc2, Pv.put, bin2, int2, binB2, un1, AV.flat, pvf, rvs_1, rvs_2, szOk, notStr, setCells, AV.one, resX, layC, layA, lay, List.map, List.replicate, List.length_replicate, pvq0, pvq1, seval, reduceCtorEq]; exact ⟨_, rfl, rfl, rfl⟩)
  simp (disch := first | omega | (simp only [pvl]; omega)) only [↓pvd, pv0, pv1, pv2, pv3, pv4, pv5, pv6, pv7, pvc0, pvc1, pvc2, Pv.put, bin2, int2, binB2, un1, AV.flat, pvf, rvs_1, rvs_2, szOk, notStr, setCells, AV.one, resX, layC, layA, lay, List.map, List.replicate, List.length_replicate, pvq0, pvq1, seval, reduceCtorEq, List.length_map]
  refine aw_loop (fun k : Nat => ⟨[(0, .sl n (l.map (.int .u32)) f), (1, .sl n' (m.map (.int .u32)) f'), (12, .int .i64 l.length), (13, .int .i64 k)], []⟩) (fun k => k ≤ l.length ∧ l.take k = m.take k) (fun k => l.length - k) 0 ?_ ⟨by omega, by simp⟩ ?_
  · simp (disch := first | omega | (simp only [pvl] at *; omega)) only [↓pvd, pv0, pv1, pv2, pv3, pv4, pv5, pv6, pv7, pvc0, pvc1, pvc2, Pv.put, bin2, int2, binB2, un1, AV.flat, pvf, rvs_1, rvs_2, szOk, notStr, setCells, AV.one, resX, layC, layA, lay, List.map, List.replicate, List.length_replicate, pvq0, pvq1, seval, reduceCtorEq]
    try rfl
  rintro k ⟨hk, hi⟩
  unfold Tryd.c42b0
  by_cases hx : k < l.length
  · obtain rfl : n = 1 := hn.resolve_left (by rintro rfl; simp at hx)
    obtain rfl : n' = 1 := hn'.resolve_left (by rintro rfl; rw [List.length_nil] at h; omega)
    have hg1 : (l.map (AV.int .u32))[k]? = some (.int .u32 l[k]!) := map_get hx
    have hg2 : (m.map (AV.int .u32))[k]? = some (.int .u32 m[k]!) := map_get (by omega)
    by_cases e : l[k]! = m[k]!
    · simp (disch := first | omega | (simp only [pvl]; omega)) only [↓pvd, pv0, pv1, pv2, pv3, pv4, pv5, pv6, pv7, pvc0, pvc1, pvc2, Pv.put, bin2, int2, binB2, un1, AV.flat, pvf, rvs_1, rvs_2, szOk, notStr, setCells, AV.one, resX, layC, layA, lay, List.map, List.replicate, List.length_replicate, pvq0, pvq1, seval, reduceCtorEq, hg1, hg2, List.length_map, e]
      exact ⟨k + 1, rfl, ⟨hx, take_next hi hx (by omega) e⟩, by omega⟩
    · rw [decide_eq_false (take_ne hx (by omega) e)]
      simp (disch := first | omega | (simp only [pvl]; omega)) only [↓pvd, pv0, pv1, pv2, pv3, pv4, pv5, pv6, pv7, pvc0, pvc1, pvc2, Pv.put, bin2, int2, binB2, un1, AV.flat, pvf, rvs_1, rvs_2, szOk, notStr, setCells, AV.one, resX, layC, layA, lay, List.map, List.replicate, List.length_replicate, pvq0, pvq1, seval, reduceCtorEq, hg1, hg2, List.length_map, e]
      (refine Ends_rq [] ?_; simp (disch := first | omega | (simp only [pvl]; omega)) only [↓pvd, pv0, pv1, pv2, pv3, pv4, pv5, pv6, pv7, pvc0, pvc1, pvc2, Pv.put, bin2, int2, binB2, un1, AV.flat, pvf, rvs_1, rvs_2, szOk, notStr, setCells, AV.one, resX, layC, layA, lay, List.map, List.replicate, List.length_replicate, pvq0, pvq1, seval, reduceCtorEq]; exact ⟨_, rfl, rfl, rfl⟩)
  · rw [decide_eq_true (take_full hi (by omega) (by omega))]
    simp (disch := first | omega | (simp only [pvl]; omega)) only [↓pvd, pv0, pv1, pv2, pv3, pv4, pv5, pv6, pv7, pvc0, pvc1, pvc2, Pv.put, bin2, int2, binB2, un1, AV.flat, pvf, rvs_1, rvs_2, szOk, notStr, setCells, AV.one, resX, layC, layA, lay, List.map, List.replicate, List.length_replicate, pvq0, pvq1, seval, reduceCtorEq, List.length_map]
    (refine Ends_rq [] ?_; simp (disch := first | omega | (simp only [pvl]; omega)) only [↓pvd, pv0, pv1, pv2, pv3, pv4, pv5, pv6, pv7, pvc0, pvc1, pvc2, Pv.put, bin2, int2, binB2, un1, AV.flat, pvf, rvs_1, rvs_2, szOk, notStr, setCells, AV.one, resX, layC, layA, lay, List.map, List.replicate, List.length_replicate, pvq0, pvq1, seval, reduceCtorEq]; exact ⟨_, rfl, rfl, rfl⟩)
/-- A value is a line. -/
def isLn (v : AV) (x : LnF) : Prop := ∃ n1 f1 n2 f2 n3 f3 n4 f4, v = lnA x.l (.sl n1 (x.t.map (.int .i64)) f1) (.sl n2 (x.im.map (.int .i64)) f2) (.sl n3 (x.ex.map (.int .i64)) f3) (.sl n4 (x.ad.map (.int .u32)) f4) ∧
  (x.t = [] ∨ n1 = 1) ∧ (x.im = [] ∨ n2 = 1) ∧ (x.ex = [] ∨ n3 = 1) ∧ (x.ad = [] ∨ n4 = 1)
theorem isLn_V (x : LnF) : isLn (lnV x) x := by
  obtain ⟨n1, f1, h1, k1⟩ := slV_is x.t
  obtain ⟨n2, f2, h2, k2⟩ := slV_is x.im
  obtain ⟨n3, f3, h3, k3⟩ := slV_is x.ex
  obtain ⟨n4, f4, h4, k4⟩ := sl32_is x.ad
  exact ⟨n1, f1, n2, f2, n3, f3, n4, f4, by unfold lnV; rw [h1, h2, h3, h4], k1, k2, k3, k4⟩
/-- Its lists are no longer than can be. -/
def lnS (x : LnF) : Prop := (x.t.length : Int) < 9223372036854775807 ∧ (x.im.length : Int) < 9223372036854775807 ∧ (x.ex.length : Int) < 9223372036854775807 ∧ (x.ad.length : Int) < 9223372036854775807
set_option maxHeartbeats 16000000 in
theorem ssame_run {v v' : AV} {x y : LnF} (hv : isLn v x) (hv' : isLn v' y) (hx : lnS x) (hy : lnS y) : Run Tryd.prog 16 [v, v'] (.bool (decide (x = y))) := by
  obtain ⟨n1, f1, n2, f2, n3, f3, n4, f4, rfl, c1, c2, c3, c4⟩ := hv
  obtain ⟨m1, g1, m2, g2, m3, g3, m4, g4, rfl, d1, d2, d3, d4⟩ := hv'
  have q1 := equali_run x.t y.t n1 m1 f1 g1 c1 d1 hx.1 hy.1
  have q2 := equali_run x.im y.im n2 m2 f2 g2 c2 d2 hx.2.1 hy.2.1
  have q3 := equali_run x.ex y.ex n3 m3 f3 g3 c3 d3 hx.2.2.1 hy.2.2.1
  have q4 := equalu_run x.ad y.ad n4 m4 f4 g4 c4 d4 hx.2.2.2 hy.2.2.2
  obtain ⟨⟨r, k, a1, a2, a3, a4, a5, b1, b2, b3, b4, b5, b6⟩, t, im, ex, ad⟩ := x
  obtain ⟨⟨r', k', a1', a2', a3', a4', a5', b1', b2', b3', b4', b5', b6'⟩, t', im', ex', ad'⟩ := y
  simp only at q1 q2 q3 q4
  simp only [LnF.mk.injEq, Ln.mk.injEq]
  clear c1 c2 c3 c4 d1 d2 d3 d4 hx hy
  obtain ⟨B, hB⟩ : ∃ B, decide ((r = r' ∧ k = k' ∧ a1 = a1' ∧ a2 = a2' ∧ a3 = a3' ∧ a4 = a4' ∧ a5 = a5' ∧ b1 = b1' ∧ b2 = b2' ∧ b3 = b3' ∧ b4 = b4' ∧ b5 = b5' ∧ b6 = b6') ∧ t = t' ∧ im = im' ∧ ex = ex' ∧ ad = ad') = B := ⟨_, rfl⟩
  rw [show decide _ = B from hB]
  refine Tryd.run16 (by simp) ?_
  unfold Tryd.c16 lnA
  generalize t.map (AV.int .i64) = s1 at *
  generalize im.map (AV.int .i64) = s2 at *
  generalize ex.map (AV.int .i64) = s3 at *
  generalize ad.map (AV.int .u32) = s4 at *
  generalize t'.map (AV.int .i64) = s1' at *
  generalize im'.map (AV.int .i64) = s2' at *
  generalize ex'.map (AV.int .i64) = s3' at *
  generalize ad'.map (AV.int .u32) = s4' at *
  simp (disch := first | omega | (simp only [pvl]; omega)) only [↓pvd, pv0, pv1, pv2, pv3, pv4, pv5, pv6, pv7, pvc0, pvc1, pvc2, Pv.put, bin2, int2, binB2, un1, AV.flat, pvf, rvs_1, rvs_2, szOk, notStr, setCells, AV.one, resX, layC, layA, lay, List.map, List.replicate, List.length_replicate, pvq0, pvq1, seval, reduceCtorEq, true_and]
  by_cases e0 : r = r'
  case neg =>
    obtain rfl : B = false := by rw [← hB]; exact decide_eq_false (fun h => e0 h.1.1)
    have z : decide (r = r') = false := decide_eq_false e0
    simp (disch := first | omega | (simp only [pvl]; omega)) only [↓pvd, pv0, pv1, pv2, pv3, pv4, pv5, pv6, pv7, pvc0, pvc1, pvc2, Pv.put, bin2, int2, binB2, un1, AV.flat, pvf, rvs_1, rvs_2, szOk, notStr, setCells, AV.one, resX, layC, layA, lay, List.map, List.replicate, List.length_replicate, pvq0, pvq1, seval, reduceCtorEq, z]
    (refine Ends_rq [] ?_; simp (disch := first | omega | (simp only [pvl]; omega)) only [↓pvd, pv0, pv1, pv2, pv3, pv4, pv5, pv6, pv7, pvc0, pvc1, pvc2, Pv.put, bin2, int2, binB2, un1, AV.flat, pvf, rvs_1, rvs_2, szOk, notStr, setCells, AV.one, resX, layC, layA, lay, List.map, List.replicate, List.length_replicate, pvq0, pvq1, seval, reduceCtorEq]; exact ⟨_, rfl, rfl, rfl⟩)
  subst e0
  simp (disch := first | omega | (simp only [pvl]; omega)) only [↓pvd, pv0, pv1, pv2, pv3, pv4, pv5, pv6, pv7, pvc0, pvc1, pvc2, Pv.put, bin2, int2, binB2, un1, AV.flat, pvf, rvs_1, rvs_2, szOk, notStr, setCells, AV.one, resX, layC, layA, lay, List.map, List.replicate, List.length_replicate, pvq0, pvq1, seval, reduceCtorEq, true_and]
  by_cases e1 : k = k'
  case neg =>
    obtain rfl : B = false := by rw [← hB]; exact decide_eq_false (fun h => e1 h.1.2.1)
    have z : decide (k = k') = false := decide_eq_false e1
    simp (disch := first | omega | (simp only [pvl]; omega)) only [↓pvd, pv0, pv1, pv2, pv3, pv4, pv5, pv6, pv7, pvc0, pvc1, pvc2, Pv.put, bin2, int2, binB2, un1, AV.flat, pvf, rvs_1, rvs_2, szOk, notStr, setCells, AV.one, resX, layC, layA, lay, List.map, List.replicate, List.length_replicate, pvq0, pvq1, seval, reduceCtorEq, z]
    (refine Ends_rq [] ?_; simp (disch := first | omega | (simp only [pvl]; omega)) only [↓pvd, pv0, pv1, pv2, pv3, pv4, pv5, pv6, pv7, pvc0, pvc1, pvc2, Pv.put, bin2, int2, binB2, un1, AV.flat, pvf, rvs_1, rvs_2, szOk, notStr, setCells, AV.one, resX, layC, layA, lay, List.map, List.replicate, List.length_replicate, pvq0, pvq1, seval, reduceCtorEq]; exact ⟨_, rfl, rfl, rfl⟩)
  subst e1
  simp (disch := first | omega | (simp only [pvl]; omega)) only [↓pvd, pv0, pv1, pv2, pv3, pv4, pv5, pv6, pv7, pvc0, pvc1, pvc2, Pv.put, bin2, int2, binB2, un1, AV.flat, pvf, rvs_1, rvs_2, szOk, notStr, setCells, AV.one, resX, layC, layA, lay, List.map, List.replicate, List.length_replicate, pvq0, pvq1, seval, reduceCtorEq, true_and]
  by_cases e2 : a1 = a1'
  case neg =>
    obtain rfl : B = false := by rw [← hB]; exact decide_eq_false (fun h => e2 h.1.2.2.1)
    have z : decide (a1 = a1') = false := decide_eq_false e2
    simp (disch := first | omega | (simp only [pvl]; omega)) only [↓pvd, pv0, pv1, pv2, pv3, pv4, pv5, pv6, pv7, pvc0, pvc1, pvc2, Pv.put, bin2, int2, binB2, un1, AV.flat, pvf, rvs_1, rvs_2, szOk, notStr, setCells, AV.one, resX, layC, layA, lay, List.map, List.replicate, List.length_replicate, pvq0, pvq1, seval, reduceCtorEq, z]
    (refine Ends_rq [] ?_; simp (disch := first | omega | (simp only [pvl]; omega)) only [↓pvd, pv0, pv1, pv2, pv3, pv4, pv5, pv6, pv7, pvc0, pvc1, pvc2, Pv.put, bin2, int2, binB2, un1, AV.flat, pvf, rvs_1, rvs_2, szOk, notStr, setCells, AV.one, resX, layC, layA, lay, List.map, List.replicate, List.length_replicate, pvq0, pvq1, seval, reduceCtorEq]; exact ⟨_, rfl, rfl, rfl⟩)
  subst e2
  simp (disch := first | omega | (simp only [pvl]; omega)) only [↓pvd, pv0, pv1, pv2, pv3, pv4, pv5, pv6, pv7, pvc0, pvc1, pvc2, Pv.put, bin2, int2, binB2, un1, AV.flat, pvf, rvs_1, rvs_2, szOk, notStr, setCells, AV.one, resX, layC, layA, lay, List.map, List.replicate, List.length_replicate, pvq0, pvq1, seval, reduceCtorEq, true_and]
  by_cases e3 : a2 = a2'
  case neg =>
    obtain rfl : B = false := by rw [← hB]; exact decide_eq_false (fun h => e3 h.1.2.2.2.1)
    have z : decide (a2 = a2') = false := decide_eq_false e3
    simp (disch := first | omega | (simp only [pvl]; omega)) only [↓pvd, pv0, pv1, pv2, pv3, pv4, pv5, pv6, pv7, pvc0, pvc1, pvc2, Pv.put, bin2, int2, binB2, un1, AV.flat, pvf, rvs_1, rvs_2, szOk, notStr, setCells, AV.one, resX, layC, layA, lay, List.map, List.replicate, List.length_replicate, pvq0, pvq1, seval, reduceCtorEq, z]
    (refine Ends_rq [] ?_; simp (disch := first | omega | (simp only [pvl]; omega)) only [↓pvd, pv0, pv1, pv2, pv3, pv4, pv5, pv6, pv7, pvc0, pvc1, pvc2, Pv.put, bin2, int2, binB2, un1, AV.flat, pvf, rvs_1, rvs_2, szOk, notStr, setCells, AV.one, resX, layC, layA, lay, List.map, List.replicate, List.length_replicate, pvq0, pvq1, seval, reduceCtorEq]; exact ⟨_, rfl, rfl, rfl⟩)
  subst e3
  simp (disch := first | omega | (simp only [pvl]; omega)) only [↓pvd, pv0, pv1, pv2, pv3, pv4, pv5, pv6, pv7, pvc0, pvc1, pvc2, Pv.put, bin2, int2, binB2, un1, AV.flat, pvf, rvs_1, rvs_2, szOk, notStr, setCells, AV.one, resX, layC, layA, lay, List.map, List.replicate, List.length_replicate, pvq0, pvq1, seval, reduceCtorEq, true_and]
  by_cases e4 : a3 = a3'
  case neg =>
    obtain rfl : B = false := by rw [← hB]; exact decide_eq_false (fun h => e4 h.1.2.2.2.2.1)
    have z : decide (a3 = a3') = false := decide_eq_false e4
    simp (disch := first | omega | (simp only [pvl]; omega)) only [↓pvd, pv0, pv1, pv2, pv3, pv4, pv5, pv6, pv7, pvc0, pvc1, pvc2, Pv.put, bin2, int2, binB2, un1, AV.flat, pvf, rvs_1, rvs_2, szOk, notStr, setCells, AV.one, resX, layC, layA, lay, List.map, List.replicate, List.length_replicate, pvq0, pvq1, seval, reduceCtorEq, z]
    (refine Ends_rq [] ?_; simp (disch := first | omega | (simp only [pvl]; omega)) only [↓pvd, pv0, pv1, pv2, pv3, pv4, pv5, pv6, pv7, pvc0, pvc1, pvc2, Pv.put, bin2, int2, binB2, un1, AV.flat, pvf, rvs_1, rvs_2, szOk, notStr, setCells, AV.one, resX, layC, layA, lay, List.map, List.replicate, List.length_replicate, pvq0, pvq1, seval, reduceCtorEq]; exact ⟨_, rfl, rfl, rfl⟩)
  subst e4
  simp (disch := first | omega | (simp only [pvl]; omega)) only [↓pvd, pv0, pv1, pv2, pv3, pv4, pv5, pv6, pv7, pvc0, pvc1, pvc2, Pv.put, bin2, int2, binB2, un1, AV.flat, pvf, rvs_1, rvs_2, szOk, notStr, setCells, AV.one, resX, layC, layA, lay, List.map, List.replicate, List.length_replicate, pvq0, pvq1, seval, reduceCtorEq, true_and]
  by_cases e5 : a4 = a4'
  case neg =>
    obtain rfl : B = false := by rw [← hB]; exact decide_eq_false (fun h => e5 h.1.2.2.2.2.2.1)
    have z : decide (a4 = a4') = false := decide_eq_false e5
    simp (disch := first | omega | (simp only [pvl]; omega)) only [↓pvd, pv0, pv1, pv2, pv3, pv4, pv5, pv6, pv7, pvc0, pvc1, pvc2, Pv.put, bin2, int2, binB2, un1, AV.flat, pvf, rvs_1, rvs_2, szOk, notStr, setCells, AV.one, resX, layC, layA, lay, List.map, List.replicate, List.length_replicate, pvq0, pvq1, seval, reduceCtorEq, z]
    (refine Ends_rq [] ?_; simp (disch := first | omega | (simp only [pvl]; omega)) only [↓pvd, pv0, pv1, pv2, pv3, pv4, pv5, pv6, pv7, pvc0, pvc1, pvc2, Pv.put, bin2, int2, binB2, un1, AV.flat, pvf, rvs_1, rvs_2, szOk, notStr, setCells, AV.one, resX, layC, layA, lay, List.map, List.replicate, List.length_replicate, pvq0, pvq1, seval, reduceCtorEq]; exact ⟨_, rfl, rfl, rfl⟩)
  subst e5
  simp (disch := first | omega | (simp only [pvl]; omega)) only [↓pvd, pv0, pv1, pv2, pv3, pv4, pv5, pv6, pv7, pvc0, pvc1, pvc2, Pv.put, bin2, int2, binB2, un1, AV.flat, pvf, rvs_1, rvs_2, szOk, notStr, setCells, AV.one, resX, layC, layA, lay, List.map, List.replicate, List.length_replicate, pvq0, pvq1, seval, reduceCtorEq, true_and]
  by_cases e6 : a5 = a5'
  case neg =>
    obtain rfl : B = false := by rw [← hB]; exact decide_eq_false (fun h => e6 h.1.2.2.2.2.2.2.1)
    have z : decide (a5 = a5') = false := decide_eq_false e6
    simp (disch := first | omega | (simp only [pvl]; omega)) only [↓pvd, pv0, pv1, pv2, pv3, pv4, pv5, pv6, pv7, pvc0, pvc1, pvc2, Pv.put, bin2, int2, binB2, un1, AV.flat, pvf, rvs_1, rvs_2, szOk, notStr, setCells, AV.one, resX, layC, layA, lay, List.map, List.replicate, List.length_replicate, pvq0, pvq1, seval, reduceCtorEq, z]
    (refine Ends_rq [] ?_; simp (disch := first | omega | (simp only [pvl]; omega)) only [↓pvd, pv0, pv1, pv2, pv3, pv4, pv5, pv6, pv7, pvc0, pvc1, pvc2, Pv.put, bin2, int2, binB2, un1, AV.flat, pvf, rvs_1, rvs_2, szOk, notStr, setCells, AV.one, resX, layC, layA, lay, List.map, List.replicate, List.length_replicate, pvq0, pvq1, seval, reduceCtorEq]; exact ⟨_, rfl, rfl, rfl⟩)
  subst e6
  simp (disch := first | omega | (simp only [pvl]; omega)) only [↓pvd, pv0, pv1, pv2, pv3, pv4, pv5, pv6, pv7, pvc0, pvc1, pvc2, Pv.put, bin2, int2, binB2, un1, AV.flat, pvf, rvs_1, rvs_2, szOk, notStr, setCells, AV.one, resX, layC, layA, lay, List.map, List.replicate, List.length_replicate, pvq0, pvq1, seval, reduceCtorEq, true_and]
  by_cases e7 : b1 = b1'
  case neg =>
    obtain rfl : B = false := by rw [← hB]; exact decide_eq_false (fun h => e7 h.1.2.2.2.2.2.2.2.1)
    have z : decide (b1 = b1') = false := decide_eq_false e7
    simp (disch := first | omega | (simp only [pvl]; omega)) only [↓pvd, pv0, pv1, pv2, pv3, pv4, pv5, pv6, pv7, pvc0, pvc1, pvc2, Pv.put, bin2, int2, binB2, un1, AV.flat, pvf, rvs_1, rvs_2, szOk, notStr, setCells, AV.one, resX, layC, layA, lay, List.map, List.replicate, List.length_replicate, pvq0, pvq1, seval, reduceCtorEq, z]
    (refine Ends_rq [] ?_; simp (disch := first | omega | (simp only [pvl]; omega)) only [↓pvd, pv0, pv1, pv2, pv3, pv4, pv5, pv6, pv7, pvc0, pvc1, pvc2, Pv.put, bin2, int2, binB2, un1, AV.flat, pvf, rvs_1, rvs_2, szOk, notStr, setCells, AV.one, resX, layC, layA, lay, List.map, List.replicate, List.length_replicate, pvq0, pvq1, seval, reduceCtorEq]; exact ⟨_, rfl, rfl, rfl⟩)
  subst e7
  simp (disch := first | omega | (simp only [pvl]; omega)) only [↓pvd, pv0, pv1, pv2, pv3, pv4, pv5, pv6, pv7, pvc0, pvc1, pvc2, Pv.put, bin2, int2, binB2, un1, AV.flat, pvf, rvs_1, rvs_2, szOk, notStr, setCells, AV.one, resX, layC, layA, lay, List.map, List.replicate, List.length_replicate, pvq0, pvq1, seval, reduceCtorEq, true_and]
  by_cases e8 : b2 = b2'
  case neg =>
    obtain rfl : B = false := by rw [← hB]; exact decide_eq_false (fun h => e8 h.1.2.2.2.2.2.2.2.2.1)
    have z : decide (b2 = b2') = false := decide_eq_false e8
    simp (disch := first | omega | (simp only [pvl]; omega)) only [↓pvd, pv0, pv1, pv2, pv3, pv4, pv5, pv6, pv7, pvc0, pvc1, pvc2, Pv.put, bin2, int2, binB2, un1, AV.flat, pvf, rvs_1, rvs_2, szOk, notStr, setCells, AV.one, resX, layC, layA, lay, List.map, List.replicate, List.length_replicate, pvq0, pvq1, seval, reduceCtorEq, z]
    (refine Ends_rq [] ?_; simp (disch := first | omega | (simp only [pvl]; omega)) only [↓pvd, pv0, pv1, pv2, pv3, pv4, pv5, pv6, pv7, pvc0, pvc1, pvc2, Pv.put, bin2, int2, binB2, un1, AV.flat, pvf, rvs_1, rvs_2, szOk, notStr, setCells, AV.one, resX, layC, layA, lay, List.map, List.replicate, List.length_replicate, pvq0, pvq1, seval, reduceCtorEq]; exact ⟨_, rfl, rfl, rfl⟩)
  subst e8
  simp (disch := first | omega | (simp only [pvl]; omega)) only [↓pvd, pv0, pv1, pv2, pv3, pv4, pv5, pv6, pv7, pvc0, pvc1, pvc2, Pv.put, bin2, int2, binB2, un1, AV.flat, pvf, rvs_1, rvs_2, szOk, notStr, setCells, AV.one, resX, layC, layA, lay, List.map, List.replicate, List.length_replicate, pvq0, pvq1, seval, reduceCtorEq, true_and]
  by_cases e9 : b3 = b3'
  case neg =>
    obtain rfl : B = false := by rw [← hB]; exact decide_eq_false (fun h => e9 h.1.2.2.2.2.2.2.2.2.2.1)
    have z : decide (b3 = b3') = false := decide_eq_false e9
    simp (disch := first | omega | (simp only [pvl]; omega)) only [↓pvd, pv0, pv1, pv2, pv3, pv4, pv5, pv6, pv7, pvc0, pvc1, pvc2, Pv.put, bin2, int2, binB2, un1, AV.flat, pvf, rvs_1, rvs_2, szOk, notStr, setCells, AV.one, resX, layC, layA, lay, List.map, List.replicate, List.length_replicate, pvq0, pvq1, seval, reduceCtorEq, z]
    (refine Ends_rq [] ?_; simp (disch := first | omega | (simp only [pvl]; omega)) only [↓pvd, pv0, pv1, pv2, pv3, pv4, pv5, pv6, pv7, pvc0, pvc1, pvc2, Pv.put, bin2, int2, binB2, un1, AV.flat, pvf, rvs_1, rvs_2, szOk, notStr, setCells, AV.one, resX, layC, layA, lay, List.map, List.replicate, List.length_replicate, pvq0, pvq1, seval, reduceCtorEq]; exact ⟨_, rfl, rfl, rfl⟩)
  subst e9
  simp (disch := first | omega | (simp only [pvl]; omega)) only [↓pvd, pv0, pv1, pv2, pv3, pv4, pv5, pv6, pv7, pvc0, pvc1, pvc2, Pv.put, bin2, int2, binB2, un1, AV.flat, pvf, rvs_1, rvs_2, szOk, notStr, setCells, AV.one, resX, layC, layA, lay, List.map, List.replicate, List.length_replicate, pvq0, pvq1, seval, reduceCtorEq, true_and]
  by_cases e10 : b4 = b4'
  case neg =>
    obtain rfl : B = false := by rw [← hB]; exact decide_eq_false (fun h => e10 h.1.2.2.2.2.2.2.2.2.2.2.1)
    have z : decide (b4 = b4') = false := decide_eq_false e10
    simp (disch := first | omega | (simp only [pvl]; omega)) only [↓pvd, pv0, pv1, pv2, pv3, pv4, pv5, pv6, pv7, pvc0, pvc1, pvc2, Pv.put, bin2, int2, binB2, un1, AV.flat, pvf, rvs_1, rvs_2, szOk, notStr, setCells, AV.one, resX, layC, layA, lay, List.map, List.replicate, List.length_replicate, pvq0, pvq1, seval, reduceCtorEq, z]
    (refine Ends_rq [] ?_; simp (disch := first | omega | (simp only [pvl]; omega)) only [↓pvd, pv0, pv1, pv2, pv3, pv4, pv5, pv6, pv7, pvc0, pvc1, pvc2, Pv.put, bin2, int2, binB2, un1, AV.flat, pvf, rvs_1, rvs_2, szOk, notStr, setCells, AV.one, resX, layC, layA, lay, List.map, List.replicate, List.length_replicate, pvq0, pvq1, seval, reduceCtorEq]; exact ⟨_, rfl, rfl, rfl⟩)
  subst e10
  simp (disch := first | omega | (simp only [pvl]; omega)) only [↓pvd, pv0, pv1, pv2, pv3, pv4, pv5, pv6, pv7, pvc0, pvc1, pvc2, Pv.put, bin2, int2, binB2, un1, AV.flat, pvf, rvs_1, rvs_2, szOk, notStr, setCells, AV.one, resX, layC, layA, lay, List.map, List.replicate, List.length_replicate, pvq0, pvq1, seval, reduceCtorEq, true_and]
  by_cases e11 : b5 = b5'
  case neg =>
    obtain rfl : B = false := by rw [← hB]; exact decide_eq_false (fun h => e11 h.1.2.2.2.2.2.2.2.2.2.2.2.1)
    have z : decide (b5 = b5') = false := decide_eq_false e11
    simp (disch := first | omega | (simp only [pvl]; omega)) only [↓pvd, pv0, pv1, pv2, pv3, pv4, pv5, pv6, pv7, pvc0, pvc1, pvc2, Pv.put, bin2, int2, binB2, un1, AV.flat, pvf, rvs_1, rvs_2, szOk, notStr, setCells, AV.one, resX, layC, layA, lay, List.map, List.replicate, List.length_replicate, pvq0, pvq1, seval, reduceCtorEq, z]
    (refine Ends_rq [] ?_; simp (disch := first | omega | (simp only [pvl]; omega)) only [↓pvd, pv0, pv1, pv2, pv3, pv4, pv5, pv6, pv7, pvc0, pvc1, pvc2, Pv.put, bin2, int2, binB2, un1, AV.flat, pvf, rvs_1, rvs_2, szOk, notStr, setCells, AV.one, resX, layC, layA, lay, List.map, List.replicate, List.length_replicate, pvq0, pvq1, seval, reduceCtorEq]; exact ⟨_, rfl, rfl, rfl⟩)
  subst e11
  simp (disch := first | omega | (simp only [pvl]; omega)) only [↓pvd, pv0, pv1, pv2, pv3, pv4, pv5, pv6, pv7, pvc0, pvc1, pvc2, Pv.put, bin2, int2, binB2, un1, AV.flat, pvf, rvs_1, rvs_2, szOk, notStr, setCells, AV.one, resX, layC, layA, lay, List.map, List.replicate, List.length_replicate, pvq0, pvq1, seval, reduceCtorEq, true_and]
  by_cases e12 : b6 = b6'
  case neg =>
    obtain rfl : B = false := by rw [← hB]; exact decide_eq_false (fun h => e12 h.1.2.2.2.2.2.2.2.2.2.2.2.2)
    have z : decide (b6 = b6') = false := decide_eq_false e12
    simp (disch := first | omega | (simp only [pvl]; omega)) only [↓pvd, pv0, pv1, pv2, pv3, pv4, pv5, pv6, pv7, pvc0, pvc1, pvc2, Pv.put, bin2, int2, binB2, un1, AV.flat, pvf, rvs_1, rvs_2, szOk, notStr, setCells, AV.one, resX, layC, layA, lay, List.map, List.replicate, List.length_replicate, pvq0, pvq1, seval, reduceCtorEq, z]
    (refine Ends_rq [] ?_; simp (disch := first | omega | (simp only [pvl]; omega)) only [↓pvd, pv0, pv1, pv2, pv3, pv4, pv5, pv6, pv7, pvc0, pvc1, pvc2, Pv.put, bin2, int2, binB2, un1, AV.flat, pvf, rvs_1, rvs_2, szOk, notStr, setCells, AV.one, resX, layC, layA, lay, List.map, List.replicate, List.length_replicate, pvq0, pvq1, seval, reduceCtorEq]; exact ⟨_, rfl, rfl, rfl⟩)
  subst e12
  simp (disch := first | omega | (simp only [pvl]; omega)) only [↓pvd, pv0, pv1, pv2, pv3, pv4, pv5, pv6, pv7, pvc0, pvc1, pvc2, Pv.put, bin2, int2, binB2, un1, AV.flat, pvf, rvs_1, rvs_2, szOk, notStr, setCells, AV.one, resX, layC, layA, lay, List.map, List.replicate, List.length_replicate, pvq0, pvq1, seval, reduceCtorEq, true_and]
  refine awR_call q1 rfl rfl ?_
  by_cases e13 : t = t'
  case neg =>
    obtain rfl : B = false := by rw [← hB]; exact decide_eq_false (fun h => e13 h.2.1)
    have z : decide (t = t') = false := decide_eq_false e13
    simp (disch := first | omega | (simp only [pvl]; omega)) only [↓pvd, pv0, pv1, pv2, pv3, pv4, pv5, pv6, pv7, pvc0, pvc1, pvc2, Pv.put, bin2, int2, binB2, un1, AV.flat, pvf, rvs_1, rvs_2, szOk, notStr, setCells, AV.one, resX, layC, layA, lay, List.map, List.replicate, List.length_replicate, pvq0, pvq1, seval, reduceCtorEq, z]
    (refine Ends_rq [] ?_; simp (disch := first | omega | (simp only [pvl]; omega)) only [↓pvd, pv0, pv1, pv2, pv3, pv4, pv5, pv6, pv7, pvc0, pvc1, pvc2, Pv.put, bin2, int2, binB2, un1, AV.flat, pvf, rvs_1, rvs_2, szOk, notStr, setCells, AV.one, resX, layC, layA, lay, List.map, List.replicate, List.length_replicate, pvq0, pvq1, seval, reduceCtorEq]; exact ⟨_, rfl, rfl, rfl⟩)
  have z13 : decide (t = t') = true := decide_eq_true e13
  simp (disch := first | omega | (simp only [pvl]; omega)) only [↓pvd, pv0, pv1, pv2, pv3, pv4, pv5, pv6, pv7, pvc0, pvc1, pvc2, Pv.put, bin2, int2, binB2, un1, AV.flat, pvf, rvs_1, rvs_2, szOk, notStr, setCells, AV.one, resX, layC, layA, lay, List.map, List.replicate, List.length_replicate, pvq0, pvq1, seval, reduceCtorEq, z13]
  refine awR_call q2 rfl rfl ?_
  by_cases e14 : im = im'
  case neg =>
    obtain rfl : B = false := by rw [← hB]; exact decide_eq_false (fun h => e14 h.2.2.1)
    have z : decide (im = im') = false := decide_eq_false e14
    simp (disch := first | omega | (simp only [pvl]; omega)) only [↓pvd, pv0, pv1, pv2, pv3, pv4, pv5, pv6, pv7, pvc0, pvc1, pvc2, Pv.put, bin2, int2, binB2, un1, AV.flat, pvf, rvs_1, rvs_2, szOk, notStr, setCells, AV.one, resX, layC, layA, lay, List.map, List.replicate, List.length_replicate, pvq0, pvq1, seval, reduceCtorEq, z]
    (refine Ends_rq [] ?_; simp (disch := first | omega | (simp only [pvl]; omega)) only [↓pvd, pv0, pv1, pv2, pv3, pv4, pv5, pv6, pv7, pvc0, pvc1, pvc2, Pv.put, bin2, int2, binB2, un1, AV.flat, pvf, rvs_1, rvs_2, szOk, notStr, setCells, AV.one, resX, layC, layA, lay, List.map, List.replicate, List.length_replicate, pvq0, pvq1, seval, reduceCtorEq]; exact ⟨_, rfl, rfl, rfl⟩)
  have z14 : decide (im = im') = true := decide_eq_true e14
  simp (disch := first | omega | (simp only [pvl]; omega)) only [↓pvd, pv0, pv1, pv2, pv3, pv4, pv5, pv6, pv7, pvc0, pvc1, pvc2, Pv.put, bin2, int2, binB2, un1, AV.flat, pvf, rvs_1, rvs_2, szOk, notStr, setCells, AV.one, resX, layC, layA, lay, List.map, List.replicate, List.length_replicate, pvq0, pvq1, seval, reduceCtorEq, z14]
  refine awR_call q3 rfl rfl ?_
  by_cases e15 : ex = ex'
  case neg =>
    obtain rfl : B = false := by rw [← hB]; exact decide_eq_false (fun h => e15 h.2.2.2.1)
    have z : decide (ex = ex') = false := decide_eq_false e15
    simp (disch := first | omega | (simp only [pvl]; omega)) only [↓pvd, pv0, pv1, pv2, pv3, pv4, pv5, pv6, pv7, pvc0, pvc1, pvc2, Pv.put, bin2, int2, binB2, un1, AV.flat, pvf, rvs_1, rvs_2, szOk, notStr, setCells, AV.one, resX, layC, layA, lay, List.map, List.replicate, List.length_replicate, pvq0, pvq1, seval, reduceCtorEq, z]
    (refine Ends_rq [] ?_; simp (disch := first | omega | (simp only [pvl]; omega)) only [↓pvd, pv0, pv1, pv2, pv3, pv4, pv5, pv6, pv7, pvc0, pvc1, pvc2, Pv.put, bin2, int2, binB2, un1, AV.flat, pvf, rvs_1, rvs_2, szOk, notStr, setCells, AV.one, resX, layC, layA, lay, List.map, List.replicate, List.length_replicate, pvq0, pvq1, seval, reduceCtorEq]; exact ⟨_, rfl, rfl, rfl⟩)
  have z15 : decide (ex = ex') = true := decide_eq_true e15
  simp (disch := first | omega | (simp only [pvl]; omega)) only [↓pvd, pv0, pv1, pv2, pv3, pv4, pv5, pv6, pv7, pvc0, pvc1, pvc2, Pv.put, bin2, int2, binB2, un1, AV.flat, pvf, rvs_1, rvs_2, szOk, notStr, setCells, AV.one, resX, layC, layA, lay, List.map, List.replicate, List.length_replicate, pvq0, pvq1, seval, reduceCtorEq, z15]
  refine awR_call q4 rfl rfl ?_
  by_cases e16 : ad = ad'
  case neg =>
    obtain rfl : B = false := by rw [← hB]; exact decide_eq_false (fun h => e16 h.2.2.2.2)
    have z : decide (ad = ad') = false := decide_eq_false e16
    simp (disch := first | omega | (simp only [pvl]; omega)) only [↓pvd, pv0, pv1, pv2, pv3, pv4, pv5, pv6, pv7, pvc0, pvc1, pvc2, Pv.put, bin2, int2, binB2, un1, AV.flat, pvf, rvs_1, rvs_2, szOk, notStr, setCells, AV.one, resX, layC, layA, lay, List.map, List.replicate, List.length_replicate, pvq0, pvq1, seval, reduceCtorEq, z]
    (refine Ends_rq [] ?_; simp (disch := first | omega | (simp only [pvl]; omega)) only [↓pvd, pv0, pv1, pv2, pv3, pv4, pv5, pv6, pv7, pvc0, pvc1, pvc2, Pv.put, bin2, int2, binB2, un1, AV.flat, pvf, rvs_1, rvs_2, szOk, notStr, setCells, AV.one, resX, layC, layA, lay, List.map, List.replicate, List.length_replicate, pvq0, pvq1, seval, reduceCtorEq]; exact ⟨_, rfl, rfl, rfl⟩)
  have z16 : decide (ad = ad') = true := decide_eq_true e16
  simp (disch := first | omega | (simp only [pvl]; omega)) only [↓pvd, pv0, pv1, pv2, pv3, pv4, pv5, pv6, pv7, pvc0, pvc1, pvc2, Pv.put, bin2, int2, binB2, un1, AV.flat, pvf, rvs_1, rvs_2, szOk, notStr, setCells, AV.one, resX, layC, layA, lay, List.map, List.replicate, List.length_replicate, pvq0, pvq1, seval, reduceCtorEq, z16]
  obtain rfl : B = true := by rw [← hB]; exact decide_eq_true ⟨⟨rfl, rfl, rfl, rfl, rfl, rfl, rfl, rfl, rfl, rfl, rfl, rfl, rfl⟩, e13, e14, e15, e16⟩
  (refine Ends_rq [] ?_; simp (disch := first | omega | (simp only [pvl]; omega)) only [↓pvd, pv0, pv1, pv2, pv3, pv4, pv5, pv6, pv7, pvc0, pvc1, pvc2, Pv.put, bin2, int2, binB2, un1, AV.flat, pvf, rvs_1, rvs_2, szOk, notStr, setCells, AV.one, resX, layC, layA, lay, List.map, List.replicate, List.length_replicate, pvq0, pvq1, seval, reduceCtorEq]; exact ⟨_, rfl, rfl, rfl⟩)
end Go.Proofs

set_option linter.unusedSimpArgs false
set_option linter.unusedVariables false
set_option maxHeartbeats 2000000
set_option maxRecDepth 20000
namespace Go.Proofs
open Go.Pv
end Go.Proofs

set_option linter.unusedSimpArgs false
set_option linter.unusedVariables false
set_option maxHeartbeats 2000000
set_option maxRecDepth 20000
namespace Go.Proofs
open Go.Pv
theorem fl_z {e c : Int} {b : Bool} (hc : c ≠ 0) : fl e b c = 0 ↔ e = 0 ∧ b = false := by
  unfold fl
  split
  · rename_i h
    exact ⟨fun h' => absurd h' hc, fun h' => by rw [h.1] at h'; cases h'.2⟩
  · rename_i h
    refine ⟨fun h' => ⟨h', ?_⟩, fun h' => h'.1⟩
    cases b with
    | false => rfl
    | true => exact absurd ⟨rfl, h'⟩ h
theorem eN_z {w : List UInt8} {e : Int} : eN w e = 0 ↔ e = 0 ∧ nmO w = true := by unfold eN; rw [fl_z (by decide)]; simp
theorem eA_z {w : List UInt8} {e : Int} : eA w e = 0 ↔ e = 0 ∧ ((rdB w).2 = true ∧ (rdB w).1 ≠ 0) := by unfold eA; rw [fl_z (by decide)]; simp
end Go.Proofs

set_option linter.unusedSimpArgs false
set_option linter.unusedVariables false
set_option maxHeartbeats 2000000
set_option maxRecDepth 20000
namespace Go.Proofs
open Go.Pv
open Nm (spl swV okW okB strR words_run wordsR rows_big rows_run swF_len swF_num swF)
theorem EndsD_rq {P : Program} {c : AC} {g m t : Nat} {X : St → Option AV} {r : AV} {fr : Fr} {hp : Hp} (ms : List (List Pv.Mode)) (caps : List AV) (H2 : Hp) (h1 : get fr t = .fn g caps) (h2 : caps.length ≤ m)
    (h3 : aw P c (EndsG [] (.tup []) H2) ⟨caps.zipIdx.map fun p => (p.2, p.1), hp⟩) (h4 : ∃ p, (X ⟨fr, H2⟩).bind (hand H2 ms) = some p ∧ p.1 = r ∧ liveB p.2.1 p.2.2 = true) : EndsD P c g m t X r .ret ⟨fr, hp⟩ := by
  obtain ⟨⟨y, H1, l⟩, h5, rfl, h6⟩ := h4
  obtain ⟨x, hx, hy⟩ := Option.bind_eq_some_iff.1 h5
  exact ⟨caps, H2, h1, h2, h3, x, hx, ms, H1, l, hy, h6⟩
theorem spl_mem : ∀ (s : List UInt8), ∀ r ∈ spl s, r.length ≤ s.length
  | [], r, hr => by simp [spl] at hr
  | c :: s, r, hr => by
    have ih := spl_mem s
    simp only [spl] at hr
    split at hr
    · rcases List.mem_cons.1 hr with rfl | hr
      · simp
      · have := ih r hr; simp; omega
    · cases hs : spl s with
      | nil => rw [hs] at hr; simp at hr; subst hr; simp
      | cons h t =>
        rw [hs] at hr ih
        rcases List.mem_cons.1 hr with rfl | hr
        · have := ih h (by simp); simp; omega
        · have := ih r (by simp [hr]); simp; omega
/-- What a row does to the lines before it. -/
noncomputable def stepX (i : Nat) (r : List UInt8) (acc : List LnF) : Int ⊕ List LnF :=
  if (swV r).all okW = true then
    if swV r = [] then .inr acc
    else if rdE (swV r) = 0 then .inr (acc ++ [rdL (swV r) ((i : Int) + 1)]) else .inl (rdE (swV r))
  else .inl 20
noncomputable def rdX (rows : List (List UInt8)) : Nat → (Int × Int) ⊕ List LnF
  | 0 => .inr []
  | k + 1 => match rdX rows k with
    | .inl x => .inl x
    | .inr acc => match stepX k rows[k]! acc with
      | .inl e => .inl ((k : Int) + 1, e)
      | .inr acc' => .inr acc'
theorem rdX_s (rows : List (List UInt8)) (k : Nat) (acc : List LnF) (h : rdX rows k = .inr acc) : rdX rows (k + 1) = match stepX k rows[k]! acc with
      | .inl e => .inl ((k : Int) + 1, e)
      | .inr acc' => .inr acc' := by
  simp only [rdX, h]
theorem rdX_stay (rows : List (List UInt8)) (k : Nat) (x : Int × Int) (h : rdX rows k = .inl x) : ∀ n, k ≤ n → rdX rows n = .inl x := by
  intro n hn
  induction n with
  | zero => rw [show k = 0 by omega] at h; exact h
  | succ n ih =>
    by_cases e : k = n + 1
    · rw [← e]; exact h
    · have := ih (by omega)
      simp only [rdX, this]
theorem rdX_err (rows : List (List UInt8)) (k : Nat) (acc : List LnF) (e : Int) (h : rdX rows k = .inr acc) (hk : k < rows.length) (hs : stepX k rows[k]! acc = .inl e) : rdX rows rows.length = .inl ((k : Int) + 1, e) := by
  refine rdX_stay rows (k + 1) _ ?_ _ hk
  rw [rdX_s rows k acc h, hs]
noncomputable def readX (b : List UInt8) : (Int × Int) ⊕ List LnF := if 20000 < b.length ∨ 400 < (spl b).length then .inl (0, 3) else rdX (spl b) (spl b).length
def readXA : (Int × Int) ⊕ List LnF → AV
  | .inl (r, e) => .tup [.sl 0 [] true, .int .i64 r, .int .i64 e]
  | .inr l => .tup [.own 17 35 (l.map lnV), .int .i64 0, .int .i64 0]
theorem strR_frz (l : List (List UInt8)) : frz (.tup [strR l, .int .i64 0]) = if l = [] then .tup [.sl 0 [] true, .int .i64 0] else .tup [.sl 1 (l.map .str) false, .int .i64 0] := by
  unfold strR
  by_cases h : l = []
  · rw [if_pos h, if_pos h]; rfl
  · rw [if_neg h, if_neg h]; rfl
theorem words_frz (w : List UInt8) (hw : w.length ≤ 40000) : Run Tryd.prog 24 [.str w] (if (swV w).all okW = true then (if swV w = [] then .tup [.sl 0 [] true, .int .i64 0] else .tup [.sl 1 ((swV w).map .str) false, .int .i64 0]) else .tup [.sl 0 [] true, .int .i64 20]) := by
  have q := run_frz (words_run w hw)
  unfold wordsR at q
  by_cases h : (swV w).all okW = true
  · rw [if_pos h] at q ⊢
    rwa [strR_frz] at q
  · rw [if_neg h] at q ⊢
    exact q
theorem slV_pl (l : List Int) : (slV l).pl0 = true := by unfold slV nilA; split <;> rfl
theorem sl32_pl (l : List Int) : (sl32 l).pl0 = true := by unfold sl32 nilA; split <;> rfl
theorem slV_nr (l : List Int) : (slV l).nr0 = true := by unfold slV nilA; split <;> rfl
theorem sl32_nr (l : List Int) : (sl32 l).nr0 = true := by unfold sl32 nilA; split <;> rfl
theorem ln_pl (x : LnF) : (lnV x).pl = true := by
  unfold lnV lnA AV.pl
  simp only [List.all_cons, List.all_nil, slV_pl, sl32_pl, Bool.and_true]
  rfl
theorem ln_nr (x : LnF) : (lnV x).nr1 = true := by
  unfold lnV lnA AV.nr1
  simp only [List.all_cons, List.all_nil, slV_nr, sl32_nr, Bool.and_true]
  rfl
def tH (ls : List LnF) : Hp := if ls = [] then [some ⟨22, [.sl 0 [] true], true⟩, some ⟨27, [.int .i64 0], true⟩] else [some ⟨22, [.vec 1 17 0 ls.length], true⟩, some ⟨35, ls.map lnV, true⟩, some ⟨27, [.int .i64 0], true⟩]
def tK (ls : List LnF) : Nat := if ls = [] then 1 else 2
theorem tH_n : tH [] = [some ⟨22, [.sl 0 [] true], true⟩, some ⟨27, [.int .i64 0], true⟩] := if_pos rfl
theorem tK_n : tK [] = 1 := if_pos rfl
theorem tH_c {ls : List LnF} (h : ls ≠ []) : tH ls = [some ⟨22, [.vec 1 17 0 ls.length], true⟩, some ⟨35, ls.map lnV, true⟩, some ⟨27, [.int .i64 0], true⟩] := if_neg h
theorem tK_c {ls : List LnF} (h : ls ≠ []) : tK ls = 2 := if_neg h
set_option maxHeartbeats 16000000 in
theorem xread_run (b : List UInt8) (f : Bool) (hb : b.length ≤ 100000) : Run Tryd.prog 12 [.sl 1 (bys b) f] (readXA (readX b)) := by
  refine Tryd.run12 (by simp) ?_
  unfold Tryd.c12a
  simp (disch := first | omega | (simp only [pvl]; omega)) only [↓pvd, pv0, pv1, pv2, pv3, pv4, pv5, pv6, pv7, pvc0, pvc1, pvc2, Pv.put, bin2, int2, binB2, un1, AV.flat, pvf, rvs_1, rvs_2, szOk, notStr, setCells, AV.one, resX, layC, layA, lay, List.map, List.replicate, List.length_replicate, pvq0, pvq1, seval, reduceCtorEq, true_and]
  unfold Tryd.c12b
  simp (disch := first | omega | (simp only [pvl]; omega)) only [↓pvd, pv0, pv1, pv2, pv3, pv4, pv5, pv6, pv7, pvc0, pvc1, pvc2, Pv.put, bin2, int2, binB2, un1, AV.flat, pvf, rvs_1, rvs_2, szOk, notStr, setCells, AV.one, resX, layC, layA, lay, List.map, List.replicate, List.length_replicate, pvq0, pvq1, seval, reduceCtorEq, true_and]
  refine ⟨⟨_, rfl⟩, ?_⟩
  unfold Tryd.c12 readX
  have early : ∀ e : Int, e ≠ 0 → ∀ K, K = readXA (.inl (0, e)) → Run Tryd.prog 23 [.sl 1 (bys b) f] (.tup [.sl 0 [] true, .int .i64 e]) → True := fun _ _ _ _ _ => trivial
  by_cases h20 : b.length ≤ 20000
  case neg =>
    have q := run_frz (rows_big b f hb h20)
    simp only [frz, frzA, frzC, List.map] at q
    rw [if_pos (.inl (by omega))]
    unfold readXA
    simp (disch := first | omega | (simp only [pvl]; omega)) only [↓pvd, pv0, pv1, pv2, pv3, pv4, pv5, pv6, pv7, pvc0, pvc1, pvc2, Pv.put, bin2, int2, binB2, un1, AV.flat, pvf, rvs_1, rvs_2, szOk, notStr, setCells, AV.one, resX, layC, layA, lay, List.map, List.replicate, List.length_replicate, pvq0, pvq1, seval, reduceCtorEq, true_and]
    refine awR_call q rfl rfl ?_
    simp (disch := first | omega | (simp only [pvl]; omega)) only [↓pvd, pv0, pv1, pv2, pv3, pv4, pv5, pv6, pv7, pvc0, pvc1, pvc2, Pv.put, bin2, int2, binB2, un1, AV.flat, pvf, rvs_1, rvs_2, szOk, notStr, setCells, AV.one, resX, layC, layA, lay, List.map, List.replicate, List.length_replicate, pvq0, pvq1, seval, reduceCtorEq, true_and]
    refine EndsD_rq [] _ [some ⟨22, [.sl 0 [] true], true⟩, some ⟨27, [.int .i64 3], true⟩] rfl (by simp) ?_ ?_
    · unfold Tryd.c22
      simp (disch := first | omega | (simp only [pvl]; omega)) only [↓pvd, pv0, pv1, pv2, pv3, pv4, pv5, pv6, pv7, pvc0, pvc1, pvc2, Pv.put, bin2, int2, binB2, un1, AV.flat, pvf, rvs_1, rvs_2, szOk, notStr, setCells, AV.one, resX, layC, layA, lay, List.map, List.replicate, List.length_replicate, pvq0, pvq1, seval, reduceCtorEq, true_and]
      exact ⟨rfl, rfl⟩
    · simp (disch := first | omega | (simp only [pvl]; omega)) only [↓pvd, pv0, pv1, pv2, pv3, pv4, pv5, pv6, pv7, pvc0, pvc1, pvc2, Pv.put, bin2, int2, binB2, un1, AV.flat, pvf, rvs_1, rvs_2, szOk, notStr, setCells, AV.one, resX, layC, layA, lay, List.map, List.replicate, List.length_replicate, pvq0, pvq1, seval, reduceCtorEq, true_and]
      exact ⟨_, rfl, rfl, rfl⟩
  have q := run_frz (rows_run b f hb h20)
  by_cases h4 : 400 < (spl b).length
  · rw [if_pos h4] at q
    simp only [frz, frzA, frzC, List.map] at q
    rw [if_pos (.inr h4)]
    unfold readXA
    simp (disch := first | omega | (simp only [pvl]; omega)) only [↓pvd, pv0, pv1, pv2, pv3, pv4, pv5, pv6, pv7, pvc0, pvc1, pvc2, Pv.put, bin2, int2, binB2, un1, AV.flat, pvf, rvs_1, rvs_2, szOk, notStr, setCells, AV.one, resX, layC, layA, lay, List.map, List.replicate, List.length_replicate, pvq0, pvq1, seval, reduceCtorEq, true_and]
    refine awR_call q rfl rfl ?_
    simp (disch := first | omega | (simp only [pvl]; omega)) only [↓pvd, pv0, pv1, pv2, pv3, pv4, pv5, pv6, pv7, pvc0, pvc1, pvc2, Pv.put, bin2, int2, binB2, un1, AV.flat, pvf, rvs_1, rvs_2, szOk, notStr, setCells, AV.one, resX, layC, layA, lay, List.map, List.replicate, List.length_replicate, pvq0, pvq1, seval, reduceCtorEq, true_and]
    refine EndsD_rq [] _ [some ⟨22, [.sl 0 [] true], true⟩, some ⟨27, [.int .i64 3], true⟩] rfl (by simp) ?_ ?_
    · unfold Tryd.c22
      simp (disch := first | omega | (simp only [pvl]; omega)) only [↓pvd, pv0, pv1, pv2, pv3, pv4, pv5, pv6, pv7, pvc0, pvc1, pvc2, Pv.put, bin2, int2, binB2, un1, AV.flat, pvf, rvs_1, rvs_2, szOk, notStr, setCells, AV.one, resX, layC, layA, lay, List.map, List.replicate, List.length_replicate, pvq0, pvq1, seval, reduceCtorEq, true_and]
      exact ⟨rfl, rfl⟩
    · simp (disch := first | omega | (simp only [pvl]; omega)) only [↓pvd, pv0, pv1, pv2, pv3, pv4, pv5, pv6, pv7, pvc0, pvc1, pvc2, Pv.put, bin2, int2, binB2, un1, AV.flat, pvf, rvs_1, rvs_2, szOk, notStr, setCells, AV.one, resX, layC, layA, lay, List.map, List.replicate, List.length_replicate, pvq0, pvq1, seval, reduceCtorEq, true_and]
      exact ⟨_, rfl, rfl, rfl⟩
  rw [if_neg h4] at q
  simp only [frz, frzA, frzC, List.map] at q
  rw [if_neg (by omega)]
  have hsm := spl_mem b
  generalize spl b = rows at *
  simp (disch := first | omega | (simp only [pvl]; omega)) only [↓pvd, pv0, pv1, pv2, pv3, pv4, pv5, pv6, pv7, pvc0, pvc1, pvc2, Pv.put, bin2, int2, binB2, un1, AV.flat, pvf, rvs_1, rvs_2, szOk, notStr, setCells, AV.one, resX, layC, layA, lay, List.map, List.replicate, List.length_replicate, pvq0, pvq1, seval, reduceCtorEq, true_and]
  refine awR_call q rfl rfl ?_
  simp (disch := first | omega | (simp only [pvl]; omega)) only [↓pvd, pv0, pv1, pv2, pv3, pv4, pv5, pv6, pv7, pvc0, pvc1, pvc2, Pv.put, bin2, int2, binB2, un1, AV.flat, pvf, rvs_1, rvs_2, szOk, notStr, setCells, AV.one, resX, layC, layA, lay, List.map, List.replicate, List.length_replicate, pvq0, pvq1, seval, reduceCtorEq, true_and]
  refine aw_loop (fun a : Nat × List LnF => ⟨[(2, .eptr 0 0 0), (4, .eptr (tK a.2) 0 0), (11, .fn 22 [.eptr (tK a.2) 0 0, .eptr 0 0 0]), (20, .sl 1 (rows.map .str) false), (21, .int .i64 rows.length), (22, .int .i64 a.1)], tH a.2⟩) (fun a => a.1 ≤ rows.length ∧ a.2.length ≤ a.1 ∧ rdX rows a.1 = .inr a.2) (fun a => rows.length - a.1) (0, []) ?_ ⟨by simp, by simp, rfl⟩ ?_
  · simp (disch := first | omega | (simp only [pvl]; omega)) only [↓pvd, pv0, pv1, pv2, pv3, pv4, pv5, pv6, pv7, pvc0, pvc1, pvc2, Pv.put, bin2, int2, binB2, un1, AV.flat, pvf, rvs_1, rvs_2, szOk, notStr, setCells, AV.one, resX, layC, layA, lay, List.map, List.replicate, List.length_replicate, pvq0, pvq1, seval, reduceCtorEq, true_and, List.length_map]
    rfl
  rintro ⟨k, acc⟩ ⟨hk, hal, hrd⟩
  dsimp only at hk hal hrd ⊢
  unfold Tryd.c12b0
  by_cases hx : k < rows.length
  · have hgi : (rows.map AV.str)[k]? = some (.str rows[k]!) := map_get hx
    have hrl := hsm _ (get_mem hx)
    have herr := rdX_err rows k acc
    have hnx := rdX_s rows k acc hrd
    have q1 := words_frz rows[k]! (by omega)
    have hwl := swF_len rows[k]! rows[k]!.length (Nat.le_refl _) (rows[k]!.length + 1) 0 0 [] (by simp)
    change ∀ x ∈ swV rows[k]!, _ at hwl
    have hwn := swF_num rows[k]! (rows[k]!.length + 1) 0 0 []
    change (swV rows[k]!).length ≤ _ at hwn
    simp only [List.length_nil] at hwn
    unfold stepX at herr hnx
    by_cases ho : (swV rows[k]!).all okW = true
    · rw [if_pos ho] at q1
      simp only [if_pos ho] at herr hnx
      by_cases hn : swV rows[k]! = []
      · rw [if_pos hn] at q1
        simp only [if_pos hn] at hnx
        by_cases hac : acc = []
        · subst hac
          rw [tH_n, tK_n]
          simp (disch := first | omega | (simp only [pvl]; omega)) only [↓pvd, pv0, pv1, pv2, pv3, pv4, pv5, pv6, pv7, pvc0, pvc1, pvc2, Pv.put, bin2, int2, binB2, un1, AV.flat, pvf, rvs_1, rvs_2, szOk, notStr, setCells, AV.one, resX, layC, layA, lay, List.map, List.replicate, List.length_replicate, pvq0, pvq1, seval, reduceCtorEq, hgi]
          refine awR_call q1 rfl rfl ?_
          simp (disch := first | omega | (simp only [pvl]; omega)) only [↓pvd, pv0, pv1, pv2, pv3, pv4, pv5, pv6, pv7, pvc0, pvc1, pvc2, Pv.put, bin2, int2, binB2, un1, AV.flat, pvf, rvs_1, rvs_2, szOk, notStr, setCells, AV.one, resX, layC, layA, lay, List.map, List.replicate, List.length_replicate, pvq0, pvq1, seval, reduceCtorEq, true_and]
          refine ⟨(k + 1, []), ?_, ⟨by dsimp only; omega, by simp, hnx⟩, by dsimp only; omega⟩
          dsimp only
          rw [tH_n, tK_n]
          rfl
        · rw [tH_c hac, tK_c hac]
          simp (disch := first | omega | (simp only [pvl]; omega)) only [↓pvd, pv0, pv1, pv2, pv3, pv4, pv5, pv6, pv7, pvc0, pvc1, pvc2, Pv.put, bin2, int2, binB2, un1, AV.flat, pvf, rvs_1, rvs_2, szOk, notStr, setCells, AV.one, resX, layC, layA, lay, List.map, List.replicate, List.length_replicate, pvq0, pvq1, seval, reduceCtorEq, hgi]
          refine awR_call q1 rfl rfl ?_
          simp (disch := first | omega | (simp only [pvl]; omega)) only [↓pvd, pv0, pv1, pv2, pv3, pv4, pv5, pv6, pv7, pvc0, pvc1, pvc2, Pv.put, bin2, int2, binB2, un1, AV.flat, pvf, rvs_1, rvs_2, szOk, notStr, setCells, AV.one, resX, layC, layA, lay, List.map, List.replicate, List.length_replicate, pvq0, pvq1, seval, reduceCtorEq, ids_map ln_pl, ren_map ln_pl]
          refine ⟨(k + 1, acc), ?_, ⟨by dsimp only; omega, by dsimp only; omega, hnx⟩, by dsimp only; omega⟩
          dsimp only
          rw [tH_c hac, tK_c hac]
          rfl
      · rw [if_neg hn] at q1
        simp only [if_neg hn] at herr hnx
        have hnl := List.length_pos_iff.2 hn
        have q2 := sread_run (swV rows[k]!) false ((k : Int) + 1) (by omega) (fun w hw => by
          have := List.all_eq_true.1 ho w hw
          unfold okW at this
          simp only [Bool.and_eq_true, decide_eq_true_eq] at this
          omega)
        have hwl1 : ((swV rows[k]!).map AV.str).length = (swV rows[k]!).length := by simp
        generalize swV rows[k]! = ws at *
        by_cases he : rdE ws = 0
        · simp only [if_pos he] at hnx
          rw [he, rdT_z] at q2
          obtain ⟨n1, f1, n2, f2, n3, f3, n4, f4, hv, -⟩ := isLn_V (rdL ws ((k : Int) + 1))
          rw [hv] at q2
          generalize rdL ws ((k : Int) + 1) = x at *
          have hm : acc.map lnV ++ [lnV x] = (acc ++ [x]).map lnV := by simp
          rw [hv] at hm
          have hm0 : [lnV x] = [x].map lnV := rfl
          rw [hv] at hm0
          have hml : acc.length + 1 = (acc ++ [x]).length := by simp
          obtain ⟨⟨xr, xk, a1, a2, a3, a4, a5, b1, b2, b3, b4, b5, b6⟩, xt, xi, xe, xa⟩ := x
          simp only at q2 hm hm0
          generalize xt.map (AV.int .i64) = s1 at *
          generalize xi.map (AV.int .i64) = s2 at *
          generalize xe.map (AV.int .i64) = s3 at *
          generalize xa.map (AV.int .u32) = s4 at *
          generalize (⟨⟨xr, xk, a1, a2, a3, a4, a5, b1, b2, b3, b4, b5, b6⟩, xt, xi, xe, xa⟩ : LnF) = x at *
          unfold lnA at q2 hm hm0
          generalize ws.map AV.str = row at *
          by_cases hac : acc = []
          · subst hac
            rw [tH_n, tK_n]
            simp (disch := first | omega | (simp only [pvl]; omega)) only [↓pvd, pv0, pv1, pv2, pv3, pv4, pv5, pv6, pv7, pvc0, pvc1, pvc2, Pv.put, bin2, int2, binB2, un1, AV.flat, pvf, rvs_1, rvs_2, szOk, notStr, setCells, AV.one, resX, layC, layA, lay, List.map, List.replicate, List.length_replicate, pvq0, pvq1, seval, reduceCtorEq, hgi]
            refine awR_call q1 rfl rfl ?_
            simp (disch := first | omega | (simp only [pvl]; omega)) only [↓pvd, pv0, pv1, pv2, pv3, pv4, pv5, pv6, pv7, pvc0, pvc1, pvc2, Pv.put, bin2, int2, binB2, un1, AV.flat, pvf, rvs_1, rvs_2, szOk, notStr, setCells, AV.one, resX, layC, layA, lay, List.map, List.replicate, List.length_replicate, pvq0, pvq1, seval, reduceCtorEq, hwl1]
            refine awR_call q2 rfl rfl ?_
            simp (disch := first | omega | (simp only [pvl]; omega)) only [↓pvd, pv0, pv1, pv2, pv3, pv4, pv5, pv6, pv7, pvc0, pvc1, pvc2, Pv.put, bin2, int2, binB2, un1, AV.flat, pvf, rvs_1, rvs_2, szOk, notStr, setCells, AV.one, resX, layC, layA, lay, List.map, List.replicate, List.length_replicate, pvq0, pvq1, seval, reduceCtorEq, true_and]
            refine ⟨(k + 1, [x]), ?_, ⟨by dsimp only; omega, by simp, hnx⟩, by dsimp only; omega⟩
            dsimp only
            rw [tH_c (by simp), tK_c (by simp), ← hm0]
            rfl
          · have hln : (acc.map lnV).length = acc.length := by simp
            rw [tH_c hac, tK_c hac]
            simp (disch := first | omega | (simp only [pvl]; omega)) only [↓pvd, pv0, pv1, pv2, pv3, pv4, pv5, pv6, pv7, pvc0, pvc1, pvc2, Pv.put, bin2, int2, binB2, un1, AV.flat, pvf, rvs_1, rvs_2, szOk, notStr, setCells, AV.one, resX, layC, layA, lay, List.map, List.replicate, List.length_replicate, pvq0, pvq1, seval, reduceCtorEq, hgi]
            refine awR_call q1 rfl rfl ?_
            simp (disch := first | omega | (simp only [pvl]; omega)) only [↓pvd, pv0, pv1, pv2, pv3, pv4, pv5, pv6, pv7, pvc0, pvc1, pvc2, Pv.put, bin2, int2, binB2, un1, AV.flat, pvf, rvs_1, rvs_2, szOk, notStr, setCells, AV.one, resX, layC, layA, lay, List.map, List.replicate, List.length_replicate, pvq0, pvq1, seval, reduceCtorEq, hwl1]
            refine awR_call q2 rfl rfl ?_
            simp (disch := first | omega | (simp only [pvl]; omega)) only [↓pvd, pv0, pv1, pv2, pv3, pv4, pv5, pv6, pv7, pvc0, pvc1, pvc2, Pv.put, bin2, int2, binB2, un1, AV.flat, pvf, rvs_1, rvs_2, szOk, notStr, setCells, AV.one, resX, layC, layA, lay, List.map, List.replicate, List.length_replicate, pvq0, pvq1, seval, reduceCtorEq, ids_map ln_pl, ren_map ln_pl, hm, hln]
            refine ⟨(k + 1, acc ++ [x]), ?_, ⟨by dsimp only; omega, by simp; omega, hnx⟩, by dsimp only; omega⟩
            dsimp only
            rw [tH_c (by simp), tK_c (by simp), hml]
            rfl
        · simp only [if_neg he] at herr
          rw [herr _ hrd hx rfl]
          unfold readXA
          rw [rdT_e he] at q2
          unfold lnA lnZ at q2
          generalize rdE ws = e at *
          generalize ws.map AV.str = row at *
          by_cases hac : acc = []
          · subst hac
            rw [tH_n, tK_n]
            simp (disch := first | omega | (simp only [pvl]; omega)) only [↓pvd, pv0, pv1, pv2, pv3, pv4, pv5, pv6, pv7, pvc0, pvc1, pvc2, Pv.put, bin2, int2, binB2, un1, AV.flat, pvf, rvs_1, rvs_2, szOk, notStr, setCells, AV.one, resX, layC, layA, lay, List.map, List.replicate, List.length_replicate, pvq0, pvq1, seval, reduceCtorEq, hgi]
            refine awR_call q1 rfl rfl ?_
            simp (disch := first | omega | (simp only [pvl]; omega)) only [↓pvd, pv0, pv1, pv2, pv3, pv4, pv5, pv6, pv7, pvc0, pvc1, pvc2, Pv.put, bin2, int2, binB2, un1, AV.flat, pvf, rvs_1, rvs_2, szOk, notStr, setCells, AV.one, resX, layC, layA, lay, List.map, List.replicate, List.length_replicate, pvq0, pvq1, seval, reduceCtorEq, hwl1]
            refine awR_call q2 rfl rfl ?_
            simp (disch := first | omega | (simp only [pvl]; omega)) only [↓pvd, pv0, pv1, pv2, pv3, pv4, pv5, pv6, pv7, pvc0, pvc1, pvc2, Pv.put, bin2, int2, binB2, un1, AV.flat, pvf, rvs_1, rvs_2, szOk, notStr, setCells, AV.one, resX, layC, layA, lay, List.map, List.replicate, List.length_replicate, pvq0, pvq1, seval, reduceCtorEq, he]
            refine EndsD_rq [] _ [some ⟨22, [.sl 0 [] true], true⟩, some ⟨27, [.int .i64 e], true⟩, some ⟨35, [.agg [.int .i64 0, .int .i64 0, .str [], .str [], .str [], .str [], .str [], .int .u64 0, .int .u32 0, .int .i64 0, .int .i64 0, .int .i64 0, .int .i64 0, .sl 0 [] true, .sl 0 [] true, .sl 0 [] true, .sl 0 [] true]], true⟩] rfl (by simp) ?_ ?_
            · unfold Tryd.c22
              simp (disch := first | omega | (simp only [pvl]; omega)) only [↓pvd, pv0, pv1, pv2, pv3, pv4, pv5, pv6, pv7, pvc0, pvc1, pvc2, Pv.put, bin2, int2, binB2, un1, AV.flat, pvf, rvs_1, rvs_2, szOk, notStr, setCells, AV.one, resX, layC, layA, lay, List.map, List.replicate, List.length_replicate, pvq0, pvq1, seval, reduceCtorEq, he]
              exact ⟨rfl, rfl⟩
            · simp (disch := first | omega | (simp only [pvl]; omega)) only [↓pvd, pv0, pv1, pv2, pv3, pv4, pv5, pv6, pv7, pvc0, pvc1, pvc2, Pv.put, bin2, int2, binB2, un1, AV.flat, pvf, rvs_1, rvs_2, szOk, notStr, setCells, AV.one, resX, layC, layA, lay, List.map, List.replicate, List.length_replicate, pvq0, pvq1, seval, reduceCtorEq, true_and]
              exact ⟨_, rfl, rfl, rfl⟩
          · rw [tH_c hac, tK_c hac]
            simp (disch := first | omega | (simp only [pvl]; omega)) only [↓pvd, pv0, pv1, pv2, pv3, pv4, pv5, pv6, pv7, pvc0, pvc1, pvc2, Pv.put, bin2, int2, binB2, un1, AV.flat, pvf, rvs_1, rvs_2, szOk, notStr, setCells, AV.one, resX, layC, layA, lay, List.map, List.replicate, List.length_replicate, pvq0, pvq1, seval, reduceCtorEq, hgi]
            refine awR_call q1 rfl rfl ?_
            simp (disch := first | omega | (simp only [pvl]; omega)) only [↓pvd, pv0, pv1, pv2, pv3, pv4, pv5, pv6, pv7, pvc0, pvc1, pvc2, Pv.put, bin2, int2, binB2, un1, AV.flat, pvf, rvs_1, rvs_2, szOk, notStr, setCells, AV.one, resX, layC, layA, lay, List.map, List.replicate, List.length_replicate, pvq0, pvq1, seval, reduceCtorEq, hwl1]
            refine awR_call q2 rfl rfl ?_
            simp (disch := first | omega | (simp only [pvl]; omega)) only [↓pvd, pv0, pv1, pv2, pv3, pv4, pv5, pv6, pv7, pvc0, pvc1, pvc2, Pv.put, bin2, int2, binB2, un1, AV.flat, pvf, rvs_1, rvs_2, szOk, notStr, setCells, AV.one, resX, layC, layA, lay, List.map, List.replicate, List.length_replicate, pvq0, pvq1, seval, reduceCtorEq, he]
            refine EndsD_rq [] _ [some ⟨22, [.sl 0 [] true], true⟩, some ⟨35, acc.map lnV, true⟩, some ⟨27, [.int .i64 e], true⟩, some ⟨35, [.agg [.int .i64 0, .int .i64 0, .str [], .str [], .str [], .str [], .str [], .int .u64 0, .int .u32 0, .int .i64 0, .int .i64 0, .int .i64 0, .int .i64 0, .sl 0 [] true, .sl 0 [] true, .sl 0 [] true, .sl 0 [] true]], true⟩] rfl (by simp) ?_ ?_
            · unfold Tryd.c22
              simp (disch := first | omega | (simp only [pvl]; omega)) only [↓pvd, pv0, pv1, pv2, pv3, pv4, pv5, pv6, pv7, pvc0, pvc1, pvc2, Pv.put, bin2, int2, binB2, un1, AV.flat, pvf, rvs_1, rvs_2, szOk, notStr, setCells, AV.one, resX, layC, layA, lay, List.map, List.replicate, List.length_replicate, pvq0, pvq1, seval, reduceCtorEq, he]
              exact ⟨rfl, rfl⟩
            · simp (disch := first | omega | (simp only [pvl]; omega)) only [↓pvd, pv0, pv1, pv2, pv3, pv4, pv5, pv6, pv7, pvc0, pvc1, pvc2, Pv.put, bin2, int2, binB2, un1, AV.flat, pvf, rvs_1, rvs_2, szOk, notStr, setCells, AV.one, resX, layC, layA, lay, List.map, List.replicate, List.length_replicate, pvq0, pvq1, seval, reduceCtorEq, true_and]
              exact ⟨_, rfl, rfl, rfl⟩
    · rw [if_neg ho] at q1
      simp only [if_neg ho] at herr
      rw [herr 20 hrd hx rfl]
      unfold readXA
      by_cases hac : acc = []
      · subst hac
        rw [tH_n, tK_n]
        simp (disch := first | omega | (simp only [pvl]; omega)) only [↓pvd, pv0, pv1, pv2, pv3, pv4, pv5, pv6, pv7, pvc0, pvc1, pvc2, Pv.put, bin2, int2, binB2, un1, AV.flat, pvf, rvs_1, rvs_2, szOk, notStr, setCells, AV.one, resX, layC, layA, lay, List.map, List.replicate, List.length_replicate, pvq0, pvq1, seval, reduceCtorEq, hgi]
        refine awR_call q1 rfl rfl ?_
        simp (disch := first | omega | (simp only [pvl]; omega)) only [↓pvd, pv0, pv1, pv2, pv3, pv4, pv5, pv6, pv7, pvc0, pvc1, pvc2, Pv.put, bin2, int2, binB2, un1, AV.flat, pvf, rvs_1, rvs_2, szOk, notStr, setCells, AV.one, resX, layC, layA, lay, List.map, List.replicate, List.length_replicate, pvq0, pvq1, seval, reduceCtorEq, true_and]
        refine EndsD_rq [] _ [some ⟨22, [.sl 0 [] true], true⟩, some ⟨27, [.int .i64 20], true⟩] rfl (by simp) ?_ ?_
        · unfold Tryd.c22
          simp (disch := first | omega | (simp only [pvl]; omega)) only [↓pvd, pv0, pv1, pv2, pv3, pv4, pv5, pv6, pv7, pvc0, pvc1, pvc2, Pv.put, bin2, int2, binB2, un1, AV.flat, pvf, rvs_1, rvs_2, szOk, notStr, setCells, AV.one, resX, layC, layA, lay, List.map, List.replicate, List.length_replicate, pvq0, pvq1, seval, reduceCtorEq, true_and]
          exact ⟨rfl, rfl⟩
        · simp (disch := first | omega | (simp only [pvl]; omega)) only [↓pvd, pv0, pv1, pv2, pv3, pv4, pv5, pv6, pv7, pvc0, pvc1, pvc2, Pv.put, bin2, int2, binB2, un1, AV.flat, pvf, rvs_1, rvs_2, szOk, notStr, setCells, AV.one, resX, layC, layA, lay, List.map, List.replicate, List.length_replicate, pvq0, pvq1, seval, reduceCtorEq, true_and]
          exact ⟨_, rfl, rfl, rfl⟩
      · rw [tH_c hac, tK_c hac]
        simp (disch := first | omega | (simp only [pvl]; omega)) only [↓pvd, pv0, pv1, pv2, pv3, pv4, pv5, pv6, pv7, pvc0, pvc1, pvc2, Pv.put, bin2, int2, binB2, un1, AV.flat, pvf, rvs_1, rvs_2, szOk, notStr, setCells, AV.one, resX, layC, layA, lay, List.map, List.replicate, List.length_replicate, pvq0, pvq1, seval, reduceCtorEq, hgi]
        refine awR_call q1 rfl rfl ?_
        simp (disch := first | omega | (simp only [pvl]; omega)) only [↓pvd, pv0, pv1, pv2, pv3, pv4, pv5, pv6, pv7, pvc0, pvc1, pvc2, Pv.put, bin2, int2, binB2, un1, AV.flat, pvf, rvs_1, rvs_2, szOk, notStr, setCells, AV.one, resX, layC, layA, lay, List.map, List.replicate, List.length_replicate, pvq0, pvq1, seval, reduceCtorEq, true_and]
        refine EndsD_rq [] _ [some ⟨22, [.sl 0 [] true], true⟩, some ⟨35, acc.map lnV, true⟩, some ⟨27, [.int .i64 20], true⟩] rfl (by simp) ?_ ?_
        · unfold Tryd.c22
          simp (disch := first | omega | (simp only [pvl]; omega)) only [↓pvd, pv0, pv1, pv2, pv3, pv4, pv5, pv6, pv7, pvc0, pvc1, pvc2, Pv.put, bin2, int2, binB2, un1, AV.flat, pvf, rvs_1, rvs_2, szOk, notStr, setCells, AV.one, resX, layC, layA, lay, List.map, List.replicate, List.length_replicate, pvq0, pvq1, seval, reduceCtorEq, true_and]
          exact ⟨rfl, rfl⟩
        · simp (disch := first | omega | (simp only [pvl]; omega)) only [↓pvd, pv0, pv1, pv2, pv3, pv4, pv5, pv6, pv7, pvc0, pvc1, pvc2, Pv.put, bin2, int2, binB2, un1, AV.flat, pvf, rvs_1, rvs_2, szOk, notStr, setCells, AV.one, resX, layC, layA, lay, List.map, List.replicate, List.length_replicate, pvq0, pvq1, seval, reduceCtorEq, true_and]
          exact ⟨_, rfl, rfl, rfl⟩
  · obtain rfl : k = rows.length := by omega
    rw [hrd]
    unfold readXA
    by_cases hac : acc = []
    · subst hac
      rw [tH_n, tK_n]
      simp (disch := first | omega | (simp only [pvl]; omega)) only [↓pvd, pv0, pv1, pv2, pv3, pv4, pv5, pv6, pv7, pvc0, pvc1, pvc2, Pv.put, bin2, int2, binB2, un1, AV.flat, pvf, rvs_1, rvs_2, szOk, notStr, setCells, AV.one, resX, layC, layA, lay, List.map, List.replicate, List.length_replicate, pvq0, pvq1, seval, reduceCtorEq, true_and]
      refine EndsD_rq [[.own 17 35], [.snap], [.snap]] _ [some ⟨22, [.sl 0 [] true], true⟩, some ⟨27, [.int .i64 0], true⟩] rfl (by simp) ?_ ?_
      · unfold Tryd.c22
        simp (disch := first | omega | (simp only [pvl]; omega)) only [↓pvd, pv0, pv1, pv2, pv3, pv4, pv5, pv6, pv7, pvc0, pvc1, pvc2, Pv.put, bin2, int2, binB2, un1, AV.flat, pvf, rvs_1, rvs_2, szOk, notStr, setCells, AV.one, resX, layC, layA, lay, List.map, List.replicate, List.length_replicate, pvq0, pvq1, seval, reduceCtorEq, true_and]
        exact ⟨rfl, rfl⟩
      · simp (disch := first | omega | (simp only [pvl]; omega)) only [↓pvd, pv0, pv1, pv2, pv3, pv4, pv5, pv6, pv7, pvc0, pvc1, pvc2, Pv.put, bin2, int2, binB2, un1, AV.flat, pvf, rvs_1, rvs_2, szOk, notStr, setCells, AV.one, resX, layC, layA, lay, List.map, List.replicate, List.length_replicate, pvq0, pvq1, seval, reduceCtorEq, true_and]
        exact ⟨_, rfl, rfl, rfl⟩
    · rw [tH_c hac, tK_c hac]
      simp (disch := first | omega | (simp only [pvl]; omega)) only [↓pvd, pv0, pv1, pv2, pv3, pv4, pv5, pv6, pv7, pvc0, pvc1, pvc2, Pv.put, bin2, int2, binB2, un1, AV.flat, pvf, rvs_1, rvs_2, szOk, notStr, setCells, AV.one, resX, layC, layA, lay, List.map, List.replicate, List.length_replicate, pvq0, pvq1, seval, reduceCtorEq, true_and]
      refine EndsD_rq [[.own 17 35], [.snap], [.snap]] _ [some ⟨22, [.vec 1 17 0 acc.length], true⟩, some ⟨35, acc.map lnV, true⟩, some ⟨27, [.int .i64 0], true⟩] rfl (by simp) ?_ ?_
      · unfold Tryd.c22
        simp (disch := first | omega | (simp only [pvl]; omega)) only [↓pvd, pv0, pv1, pv2, pv3, pv4, pv5, pv6, pv7, pvc0, pvc1, pvc2, Pv.put, bin2, int2, binB2, un1, AV.flat, pvf, rvs_1, rvs_2, szOk, notStr, setCells, AV.one, resX, layC, layA, lay, List.map, List.replicate, List.length_replicate, pvq0, pvq1, seval, reduceCtorEq, true_and]
        exact ⟨rfl, rfl⟩
      · simp (disch := first | omega | (simp only [pvl]; omega)) only [↓pvd, pv0, pv1, pv2, pv3, pv4, pv5, pv6, pv7, pvc0, pvc1, pvc2, Pv.put, bin2, int2, binB2, un1, AV.flat, pvf, rvs_1, rvs_2, szOk, notStr, setCells, AV.one, resX, layC, layA, lay, List.map, List.replicate, List.length_replicate, pvq0, pvq1, seval, reduceCtorEq, true_and, mapO_map ln_nr, rows_map ln_nr, List.length_map]
        exact ⟨_, rfl, rfl, rfl⟩
end Go.Proofs

set_option linter.unusedSimpArgs false
set_option linter.unusedVariables false
set_option maxHeartbeats 2000000
set_option maxRecDepth 20000
namespace Go.Proofs
open Go.Pv
open Nm (spl swV okW okB swF enO)
/-- These values are these lines. -/
def areLn (vs : List AV) (ls : List LnF) : Prop := vs.length = ls.length ∧ ∀ (i : Nat) (v : AV) (x : LnF), vs[i]? = some v → ls[i]? = some x → isLn v x
instance : Inhabited LnF := ⟨lnfZ⟩
theorem areLn_at {vs : List AV} {ls : List LnF} (h : areLn vs ls) {k : Nat} (hk : k < ls.length) : ∃ v, vs[k]? = some v ∧ isLn v ls[k]! := by
  refine ⟨vs[k]'(by rw [h.1]; exact hk), List.getElem?_eq_getElem _, ?_⟩
  exact h.2 k _ _ (List.getElem?_eq_getElem (by rw [h.1]; exact hk)) (by rw [List.getElem?_eq_getElem hk, getElem!_pos ls k hk])
/-- A line, but for its row. -/
def nr (x : LnF) : LnF := { x with l := { x.l with row := 0 } }
def withRow (x : LnF) (r : Int) : LnF := { x with l := { x.l with row := r } }
theorem withRow_nr (x y : LnF) : withRow x y.l.row = y ↔ nr x = nr y := by
  obtain ⟨⟨r, k, a1, a2, a3, a4, a5, b1, b2, b3, b4, b5, b6⟩, t, im, ex, ad⟩ := x
  obtain ⟨⟨r', k', a1', a2', a3', a4', a5', b1', b2', b3', b4', b5', b6'⟩, t', im', ex', ad'⟩ := y
  simp [withRow, nr]
theorem map_next {α β : Type} [Inhabited α] [Inhabited β] {f : α → β} {l m : List α} {k : Nat} (h : (l.take k).map f = (m.take k).map f) (hl : k < l.length) (hm : k < m.length) (e : f l[k]! = f m[k]!) : (l.take (k + 1)).map f = (m.take (k + 1)).map f := by
  rw [take_snoc hl, take_snoc hm, List.map_append, List.map_append, h, List.map_singleton, List.map_singleton, e]
theorem map_ne {α β : Type} [Inhabited α] {f : α → β} {l m : List α} {k : Nat} (hl : k < l.length) (hm : k < m.length) (e : f l[k]! ≠ f m[k]!) : l.map f ≠ m.map f := fun h => e (by
  have := congrArg (fun x => x[k]?) h
  simp only [List.getElem?_map, List.getElem?_eq_getElem hl, List.getElem?_eq_getElem hm, Option.map_some, Option.some.injEq] at this
  rw [getElem!_pos l k hl, getElem!_pos m k hm]
  exact this)
theorem map_full {α β : Type} {f : α → β} {l m : List α} {k : Nat} (h : (l.take k).map f = (m.take k).map f) (hl : l.length ≤ k) (hm : m.length ≤ k) : l.map f = m.map f := by
  rwa [List.take_of_length_le hl, List.take_of_length_le hm] at h
set_option maxHeartbeats 8000000 in
theorem tsame_run {vs ws : List AV} {a b : List LnF} (n n' : Nat) (f f' : Bool) (hn : a = [] ∨ n = 17) (hn' : b = [] ∨ n' = 17) (hv : areLn vs a) (hw : areLn ws b) (ha : ∀ x ∈ a, lnS x) (hb : ∀ x ∈ b, lnS x) (hla : (a.length : Int) < 9223372036854775807) (hlb : (b.length : Int) < 9223372036854775807) :
    Run Tryd.prog 10 [.sl n vs f, .sl n' ws f'] (.bool (decide (a.map nr = b.map nr))) := by
  refine Tryd.run10 (by simp) ?_
  unfold Tryd.c10
  have hvl := hv.1
  have hwl := hw.1
  by_cases h : a.length = b.length
  case neg =>
    rw [decide_eq_false (fun e => h (by have := congrArg List.length e; simpa using this))]
    have : ¬ (vs.length : Int) = ws.length := by omega
    simp (disch := first | omega | (simp only [pvl]; omega)) only [↓pvd, pv0, pv1, pv2, pv3, pv4, pv5, pv6, pv7, pvc0, pvc1, pvc2, Pv.put, bin2, int2, binB2, un1, AV.flat, pvf, rvs_1, rvs_2, szOk, notStr, setCells, AV.one, resX, layC, layA, lay, List.map, List.replicate, List.length_replicate, pvq0, pvq1, seval, reduceCtorEq, this]
    (refine Ends_rq [] ?_; simp (disch := first | omega | (simp only [pvl]; omega)) only [↓pvd, pv0, pv1, pv2, pv3, pv4, pv5, pv6, pv7, pvc0, pvc1, pvc2, Pv.put, bin2, int2, binB2, un1, AV.flat, pvf, rvs_1, rvs_2, szOk, notStr, setCells, AV.one, resX, layC, layA, lay, List.map, List.replicate, List.length_replicate, pvq0, pvq1, seval, reduceCtorEq]; exact ⟨_, rfl, rfl, rfl⟩)
  have h' : (vs.length : Int) = ws.length := by omega
  simp (disch := first | omega | (simp only [pvl]; omega)) only [↓pvd, pv0, pv1, pv2, pv3, pv4, pv5, pv6, pv7, pvc0, pvc1, pvc2, Pv.put, bin2, int2, binB2, un1, AV.flat, pvf, rvs_1, rvs_2, szOk, notStr, setCells, AV.one, resX, layC, layA, lay, List.map, List.replicate, List.length_replicate, pvq0, pvq1, seval, reduceCtorEq, h', hwl, hvl]
  refine aw_loop (fun k : Nat => ⟨[(1, .sl n' ws f'), (12, .sl n vs f), (13, .int .i64 b.length), (14, .int .i64 k)], []⟩) (fun k => k ≤ a.length ∧ (a.take k).map nr = (b.take k).map nr) (fun k => a.length - k) 0 ?_ ⟨by omega, by simp⟩ ?_
  · simp (disch := first | omega | (simp only [pvl]; omega)) only [↓pvd, pv0, pv1, pv2, pv3, pv4, pv5, pv6, pv7, pvc0, pvc1, pvc2, Pv.put, bin2, int2, binB2, un1, AV.flat, pvf, rvs_1, rvs_2, szOk, notStr, setCells, AV.one, resX, layC, layA, lay, List.map, List.replicate, List.length_replicate, pvq0, pvq1, seval, reduceCtorEq, h', hwl, hvl]
    try rw [h]
  rintro k ⟨hk, hi⟩
  unfold Tryd.c10b0
  by_cases hx : k < a.length
  · obtain rfl : n = 17 := hn.resolve_left (by rintro rfl; simp at hx)
    obtain rfl : n' = 17 := hn'.resolve_left (by rintro rfl; simp at h; rw [h] at hx; simp at hx)
    obtain ⟨v, hg1, i1⟩ := areLn_at hv hx
    obtain ⟨w, hg2, i2⟩ := areLn_at hw (show k < b.length by omega)
    have hx2 : k < b.length := by omega
    have hxa := ha a[k]! (get_mem hx)
    have hxb := hb b[k]! (get_mem hx2)
    have hne := map_ne (f := nr) hx hx2
    have hnx := map_next (f := nr) hi hx hx2
    rw [← withRow_nr] at hnx
    rw [ne_eq, ← withRow_nr] at hne
    generalize a[k]! = x at *
    generalize b[k]! = y at *
    obtain ⟨n1, f1, n2, f2, n3, f3, n4, f4, rfl, c1, c2, c3, c4⟩ := i1
    obtain ⟨m1, g1, m2, g2, m3, g3, m4, g4, rfl, d1, d2, d3, d4⟩ := i2
    have q := ssame_run (x := withRow x y.l.row) (y := y) ⟨n1, f1, n2, f2, n3, f3, n4, f4, rfl, c1, c2, c3, c4⟩ ⟨m1, g1, m2, g2, m3, g3, m4, g4, rfl, d1, d2, d3, d4⟩ hxa hxb
    clear c1 c2 c3 c4 d1 d2 d3 d4 hxa hxb
    generalize hE : decide (withRow x y.l.row = y) = E at *
    unfold withRow at q
    simp only at q
    obtain ⟨⟨r, kd, a1, a2, a3, a4, a5, b1, b2, b3, b4, b5, b6⟩, t, im, ex, ad⟩ := x
    obtain ⟨⟨r', kd', a1', a2', a3', a4', a5', b1', b2', b3', b4', b5', b6'⟩, t', im', ex', ad'⟩ := y
    simp only at q hg1 hg2
    generalize t.map (AV.int .i64) = s1 at *
    generalize im.map (AV.int .i64) = s2 at *
    generalize ex.map (AV.int .i64) = s3 at *
    generalize ad.map (AV.int .u32) = s4 at *
    generalize t'.map (AV.int .i64) = s1' at *
    generalize im'.map (AV.int .i64) = s2' at *
    generalize ex'.map (AV.int .i64) = s3' at *
    generalize ad'.map (AV.int .u32) = s4' at *
    unfold lnA at q hg1 hg2
    simp (disch := first | omega | (simp only [pvl]; omega)) only [↓pvd, pv0, pv1, pv2, pv3, pv4, pv5, pv6, pv7, pvc0, pvc1, pvc2, Pv.put, bin2, int2, binB2, un1, AV.flat, pvf, rvs_1, rvs_2, szOk, notStr, setCells, AV.one, resX, layC, layA, lay, List.map, List.replicate, List.length_replicate, pvq0, pvq1, seval, reduceCtorEq, hg1, hg2, hwl, hvl]
    refine awR_callD q rfl rfl (fun _ => rfl) ?_
    cases E with
    | false =>
      rw [decide_eq_false (hne (by simpa using hE))]
      simp (disch := first | omega | (simp only [pvl]; omega)) only [↓pvd, pv0, pv1, pv2, pv3, pv4, pv5, pv6, pv7, pvc0, pvc1, pvc2, Pv.put, bin2, int2, binB2, un1, AV.flat, pvf, rvs_1, rvs_2, szOk, notStr, setCells, AV.one, resX, layC, layA, lay, List.map, List.replicate, List.length_replicate, pvq0, pvq1, seval, reduceCtorEq, true_and]
      (refine Ends_rq [] ?_; simp (disch := first | omega | (simp only [pvl]; omega)) only [↓pvd, pv0, pv1, pv2, pv3, pv4, pv5, pv6, pv7, pvc0, pvc1, pvc2, Pv.put, bin2, int2, binB2, un1, AV.flat, pvf, rvs_1, rvs_2, szOk, notStr, setCells, AV.one, resX, layC, layA, lay, List.map, List.replicate, List.length_replicate, pvq0, pvq1, seval, reduceCtorEq]; exact ⟨_, rfl, rfl, rfl⟩)
    | true =>
      simp (disch := first | omega | (simp only [pvl]; omega)) only [↓pvd, pv0, pv1, pv2, pv3, pv4, pv5, pv6, pv7, pvc0, pvc1, pvc2, Pv.put, bin2, int2, binB2, un1, AV.flat, pvf, rvs_1, rvs_2, szOk, notStr, setCells, AV.one, resX, layC, layA, lay, List.map, List.replicate, List.length_replicate, pvq0, pvq1, seval, reduceCtorEq, true_and]
      exact ⟨k + 1, rfl, ⟨hx, hnx (by simpa using hE)⟩, by omega⟩
  · rw [decide_eq_true (map_full hi (by omega) (by omega))]
    have hkb : ¬ (k : Int) < b.length := by omega
    simp (disch := first | omega | (simp only [pvl]; omega)) only [↓pvd, pv0, pv1, pv2, pv3, pv4, pv5, pv6, pv7, pvc0, pvc1, pvc2, Pv.put, bin2, int2, binB2, un1, AV.flat, pvf, rvs_1, rvs_2, szOk, notStr, setCells, AV.one, resX, layC, layA, lay, List.map, List.replicate, List.length_replicate, pvq0, pvq1, seval, reduceCtorEq, hkb]
    (refine Ends_rq [] ?_; simp (disch := first | omega | (simp only [pvl]; omega)) only [↓pvd, pv0, pv1, pv2, pv3, pv4, pv5, pv6, pv7, pvc0, pvc1, pvc2, Pv.put, bin2, int2, binB2, un1, AV.flat, pvf, rvs_1, rvs_2, szOk, notStr, setCells, AV.one, resX, layC, layA, lay, List.map, List.replicate, List.length_replicate, pvq0, pvq1, seval, reduceCtorEq]; exact ⟨_, rfl, rfl, rfl⟩)
theorem rdZ1 : readX [10, 118, 116, 101, 112, 32, 97, 32, 49, 48, 46, 48, 46, 48, 46, 49] = .inr [⟨⟨2, 5, [97], [], [], [], [], 0, 167772161, 0, 0, 0, 0⟩, [], [], [], []⟩] := by
  have e1 : spl [10, 118, 116, 101, 112, 32, 97, 32, 49, 48, 46, 48, 46, 48, 46, 49] = [[], [118, 116, 101, 112, 32, 97, 32, 49, 48, 46, 48, 46, 48, 46, 49]] := by decide
  have e2 : swV [118, 116, 101, 112, 32, 97, 32, 49, 48, 46, 48, 46, 48, 46, 49] = [[118, 116, 101, 112], [97], [49, 48, 46, 48, 46, 48, 46, 49]] := by decide
  have e3 : rdB [49, 48, 46, 48, 46, 48, 46, 49] = (167772161, true) := by decide
  have e4 : rdE [[118, 116, 101, 112], [97], [49, 48, 46, 48, 46, 48, 46, 49]] = 0 := by
    unfold rdE okN
    rw [show kdF ([[118, 116, 101, 112], [97], [49, 48, 46, 48, 46, 48, 46, 49]] : List (List UInt8))[0]! = 5 by decide, show mnF 5 [[118, 116, 101, 112], [97], [49, 48, 46, 48, 46, 48, 46, 49]] = true by decide]
    rw [if_pos (by decide)]
    rw [show erF 5 [[118, 116, 101, 112], [97], [49, 48, 46, 48, 46, 48, 46, 49]] = er5 [[118, 116, 101, 112], [97], [49, 48, 46, 48, 46, 48, 46, 49]] by unfold erF; simp only [Int.reduceEq, if_true, if_false]]
    unfold er5
    rw [eA_z, eN_z]
    refine ⟨⟨rfl, by decide⟩, ?_⟩
    show (rdB [49, 48, 46, 48, 46, 48, 46, 49]).2 = true ∧ (rdB [49, 48, 46, 48, 46, 48, 46, 49]).1 ≠ 0
    rw [e3]
    exact ⟨rfl, by decide⟩
  have e5 : rdL [[118, 116, 101, 112], [97], [49, 48, 46, 48, 46, 48, 46, 49]] 2 = ⟨⟨2, 5, [97], [], [], [], [], 0, 167772161, 0, 0, 0, 0⟩, [], [], [], []⟩ := by
    unfold rdL
    rw [show kdF ([[118, 116, 101, 112], [97], [49, 48, 46, 48, 46, 48, 46, 49]] : List (List UInt8))[0]! = 5 by decide]
    rw [show liF 5 [[118, 116, 101, 112], [97], [49, 48, 46, 48, 46, 48, 46, 49]] 2 = li5 [[118, 116, 101, 112], [97], [49, 48, 46, 48, 46, 48, 46, 49]] 2 by unfold liF; simp only [Int.reduceEq, if_true, if_false]]
    unfold li5
    show (⟨⟨2, 5, [97], [], [], [], [], 0, (rdB [49, 48, 46, 48, 46, 48, 46, 49]).1, 0, 0, 0, 0⟩, [], [], [], []⟩ : LnF) = _
    rw [e3]
  unfold readX
  rw [if_neg (by decide), e1]
  show rdX _ 2 = _
  have s1 : stepX 0 [] [] = .inr [] := by
    unfold stepX
    rw [show swV [] = [] from by decide]
    simp
  have s2 : stepX 1 [118, 116, 101, 112, 32, 97, 32, 49, 48, 46, 48, 46, 48, 46, 49] [] = .inr [⟨⟨2, 5, [97], [], [], [], [], 0, 167772161, 0, 0, 0, 0⟩, [], [], [], []⟩] := by
    unfold stepX
    rw [e2, if_pos (by decide), if_neg (by decide), if_pos e4]
    rw [show (((1 : Nat) : Int) + 1) = 2 from rfl, e5]
    rfl
  have h0 := rdX_s [[], [118, 116, 101, 112, 32, 97, 32, 49, 48, 46, 48, 46, 48, 46, 49]] 0 [] rfl
  rw [show ([[], [118, 116, 101, 112, 32, 97, 32, 49, 48, 46, 48, 46, 48, 46, 49]] : List (List UInt8))[0]! = [] from rfl, s1] at h0
  have h1 := rdX_s [[], [118, 116, 101, 112, 32, 97, 32, 49, 48, 46, 48, 46, 48, 46, 49]] 1 [] h0
  rw [show ([[], [118, 116, 101, 112, 32, 97, 32, 49, 48, 46, 48, 46, 48, 46, 49]] : List (List UInt8))[1]! = [118, 116, 101, 112, 32, 97, 32, 49, 48, 46, 48, 46, 48, 46, 49] from rfl, s2] at h1
  exact h1
theorem rdZ2 : readX [10, 118, 116, 101, 112, 32, 97] = .inl (2, 22) := by
  have e1 : spl [10, 118, 116, 101, 112, 32, 97] = [[], [118, 116, 101, 112, 32, 97]] := by decide
  have e2 : swV [118, 116, 101, 112, 32, 97] = [[118, 116, 101, 112], [97]] := by decide
  have e4 : rdE [[118, 116, 101, 112], [97]] = 22 := by
    unfold rdE okN
    rw [show kdF ([[118, 116, 101, 112], [97]] : List (List UInt8))[0]! = 5 by decide, show mnF 5 [[118, 116, 101, 112], [97]] = false by decide]
    rw [if_neg (by decide)]
  unfold readX
  rw [if_neg (by decide), e1]
  show rdX _ 2 = _
  have s1 : stepX 0 [] [] = .inr [] := by
    unfold stepX
    rw [show swV [] = [] from by decide]
    simp
  have s2 : stepX 1 [118, 116, 101, 112, 32, 97] [] = .inl 22 := by
    unfold stepX
    rw [e2, if_pos (by decide), if_neg (by decide), e4, if_neg (by decide)]
  have h0 := rdX_s [[], [118, 116, 101, 112, 32, 97]] 0 [] rfl
  rw [show ([[], [118, 116, 101, 112, 32, 97]] : List (List UInt8))[0]! = [] from rfl, s1] at h0
  have h1 := rdX_s [[], [118, 116, 101, 112, 32, 97]] 1 [] h0
  rw [show ([[], [118, 116, 101, 112, 32, 97]] : List (List UInt8))[1]! = [118, 116, 101, 112, 32, 97] from rfl, s2] at h1
  exact h1
theorem works12 : Run Tryd.prog 9 [] (.bool true) := by
  have q1 := run_frz (xread_run [10, 118, 116, 101, 112, 32, 97, 32, 49, 48, 46, 48, 46, 48, 46, 49] false (by decide))
  have q2 := run_frz (xread_run [10, 118, 116, 101, 112, 32, 97] false (by decide))
  rw [rdZ1] at q1
  rw [rdZ2] at q2
  simp only [readXA, frz, frzA, frzC, List.map, bys] at q1 q2
  rw [show lnV ⟨⟨2, 5, [97], [], [], [], [], 0, 167772161, 0, 0, 0, 0⟩, [], [], [], []⟩ = lnA ⟨2, 5, [97], [], [], [], [], 0, 167772161, 0, 0, 0, 0⟩ (.sl 0 [] true) (.sl 0 [] true) (.sl 0 [] true) (.sl 0 [] true) from rfl] at q1
  simp only [lnA] at q1
  refine Tryd.run9 (by simp) ⟨?_⟩
  unfold Tryd.c9
  repeat' (first | (simp (disch := first | omega | (simp only [pvl]; omega)) only [↓pvd, pv0, pv1, pv2, pv3, pv4, pv5, pv6, pv7, pvc0, pvc1, pvc2, Pv.put, bin2, int2, binB2, un1, AV.flat, pvf, rvs_1, rvs_2, szOk, notStr, setCells, AV.one, resX, layC, layA, lay, List.map, List.replicate, List.length_replicate, pvq0, pvq1, seval, reduceCtorEq, still]) | with_reducible refine condP_d (fun _ => ?_) (fun _ => ?_) | with_reducible refine guardP_d0 (fun _ => ?_) (fun _ => ?_) | with_reducible refine guardP_d1 (fun _ => ?_) (fun _ => ?_) | with_reducible refine condP_any ?_ ?_ | refine awR_callS (ms := []) q1 (by simp (disch := first | omega | (simp only [pvl]; omega)) only [↓pvd, pv0, pv1, pv2, pv3, pv4, pv5, pv6, pv7, pvc0, pvc1, pvc2, Pv.put, bin2, int2, binB2, un1, AV.flat, pvf, rvs_1, rvs_2, szOk, notStr, setCells, AV.one, resX, layC, layA, lay, List.map, List.replicate, List.length_replicate, pvq0, pvq1, seval, reduceCtorEq, still]; rfl) (by simp (disch := first | omega | (simp only [pvl]; omega)) only [↓pvd, pv0, pv1, pv2, pv3, pv4, pv5, pv6, pv7, pvc0, pvc1, pvc2, Pv.put, bin2, int2, binB2, un1, AV.flat, pvf, rvs_1, rvs_2, szOk, notStr, setCells, AV.one, resX, layC, layA, lay, List.map, List.replicate, List.length_replicate, pvq0, pvq1, seval, reduceCtorEq, still]) ?_ | refine awR_callS (ms := []) q2 (by simp (disch := first | omega | (simp only [pvl]; omega)) only [↓pvd, pv0, pv1, pv2, pv3, pv4, pv5, pv6, pv7, pvc0, pvc1, pvc2, Pv.put, bin2, int2, binB2, un1, AV.flat, pvf, rvs_1, rvs_2, szOk, notStr, setCells, AV.one, resX, layC, layA, lay, List.map, List.replicate, List.length_replicate, pvq0, pvq1, seval, reduceCtorEq, still]; rfl) (by simp (disch := first | omega | (simp only [pvl]; omega)) only [↓pvd, pv0, pv1, pv2, pv3, pv4, pv5, pv6, pv7, pvc0, pvc1, pvc2, Pv.put, bin2, int2, binB2, un1, AV.flat, pvf, rvs_1, rvs_2, szOk, notStr, setCells, AV.one, resX, layC, layA, lay, List.map, List.replicate, List.length_replicate, pvq0, pvq1, seval, reduceCtorEq, still]) ?_ | (refine Ends_rq [] ?_; simp (disch := first | omega | (simp only [pvl]; omega)) only [↓pvd, pv0, pv1, pv2, pv3, pv4, pv5, pv6, pv7, pvc0, pvc1, pvc2, Pv.put, bin2, int2, binB2, un1, AV.flat, pvf, rvs_1, rvs_2, szOk, notStr, setCells, AV.one, resX, layC, layA, lay, List.map, List.replicate, List.length_replicate, pvq0, pvq1, seval, reduceCtorEq]; exact ⟨_, rfl, rfl, rfl⟩))
end Go.Proofs
