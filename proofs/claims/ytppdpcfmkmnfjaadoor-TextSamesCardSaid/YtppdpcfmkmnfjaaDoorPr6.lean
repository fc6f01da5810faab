/- The proofs of what the functions of this seat do. -/
import Derived.Test.YtppdpcfmkmnfjaaDoorPr5
set_option linter.unusedSimpArgs false
set_option linter.unusedVariables false
set_option maxHeartbeats 2000000
set_option maxRecDepth 20000
namespace Go.Proofs
open Go.Pv
theorem requali_run (l m : List Int) (n n' : Nat) (f f' : Bool) (hn : l = [] ∨ n = 1) (hn' : m = [] ∨ n' = 1) (hl : (l.length : Int) < 9223372036854775807) (hm : (m.length : Int) < 9223372036854775807) :
    Run Tryd.prog 69 [.sl n (l.map (.int .i64)) f, .sl n' (m.map (.int .i64)) f'] (.bool (decide (l = m))) := by
  refine Tryd.run69 (by simp) ?_
  unfold Tryd.c69
  by_cases h : l.length = m.length
  case neg =>
    rw [decide_eq_false (fun e => h (by rw [e]))]
    simp (disch := first | omega | (simp only [pvl]; omega)) only [↓pvd, pv0, pv1, pv2, pv3, pv4, pv5, pv6, pv7, pvc0, pvc1, pvc2, Pv.put, bin2, int2, binB2, un1, AV.flat, pvf, rvs_1, rvs_2, szOk, notStr, setCells, AV.one, resX, layC, layA, lay, List.map, List.replicate, List.length_replicate, pvq0, pvq1, seval, reduceCtorEq, List.length_map]
    (refine Ends_rq [] ?_; simp (disch := first | omega | (simp only [pvl]; omega)) only [↓pvd, pv0, pv1, pv2, pv3, pv4, pv5, pv6, pv7, pvc0, pvc1, pvc2, Pv.put, bin2, int2, binB2, un1, AV.flat, pvf, rvs_1, rvs_2, szOk, notStr, setCells, AV.one, resX, layC, layA, lay, List.map, List.replicate, List.length_replicate, pvq0, pvq1, seval, reduceCtorEq]; exact ⟨_, rfl, rfl, rfl⟩)
  simp (disch := first | omega | (simp only [pvl]; omega)) only [↓pvd, pv0, pv1, pv2, pv3, pv4, pv5, pv6, pv7, pvc0, pvc1, pvc2, Pv.put, bin2, int2, binB2, un1, AV.flat, pvf, rvs_1, rvs_2, szOk, notStr, setCells, AV.one, resX, layC, layA, lay, List.map, List.replicate, List.length_replicate, pvq0, pvq1, seval, reduceCtorEq, List.length_map]
  refine aw_loop (fun k : Nat => ⟨[(0, .sl n (l.map (.int .i64)) f), (1, .sl n' (m.map (.int .i64)) f'), (5, .int .i64 k)], []⟩) (fun k => k ≤ l.length ∧ l.take k = m.take k) (fun k => l.length - k) 0 ?_ ⟨by omega, by simp⟩ ?_
  · simp (disch := first | omega | (simp only [pvl]; omega)) only [↓pvd, pv0, pv1, pv2, pv3, pv4, pv5, pv6, pv7, pvc0, pvc1, pvc2, Pv.put, bin2, int2, binB2, un1, AV.flat, pvf, rvs_1, rvs_2, szOk, notStr, setCells, AV.one, resX, layC, layA, lay, List.map, List.replicate, List.length_replicate, pvq0, pvq1, seval, reduceCtorEq, List.length_map]
    try rfl
  rintro k ⟨hk, hi⟩
  unfold Tryd.c69b0
  by_cases hx : k < l.length
  · obtain rfl : n = 1 := hn.resolve_left (by rintro rfl; simp at hx)
    obtain rfl : n' = 1 := hn'.resolve_left (by rintro rfl; rw [List.length_nil] at h; omega)
    have hg1 : (l.map (AV.int .i64))[k]? = some (.int .i64 l[k]!) := map_get hx
    have hg2 : (m.map (AV.int .i64))[k]? = some (.int .i64 m[k]!) := map_get (by omega)
    by_cases e : l[k]! = m[k]!
    · simp (disch := first | omega | (simp only [pvl]; omega)) only [↓pvd, pv0, pv1, pv2, pv3, pv4, pv5, pv6, pv7, pvc0, pvc1, pvc2, Pv.put, bin2, int2, binB2, un1, AV.flat, pvf, rvs_1, rvs_2, szOk, notStr, setCells, AV.one, resX, layC, layA, lay, List.map, List.replicate, List.length_replicate, pvq0, pvq1, seval, reduceCtorEq, hg1, hg2, List.length_map, e]
      exact ⟨k + 1, rfl, ⟨hx, take_next hi hx (by omega) e⟩, by omega⟩
    · rw [decide_eq_false (take_ne hx (by omega) e)]
      simp (disch := first | omega | (simp only [pvl]; omega)) only [↓pvd, pv0, pv1, pv2, pv3, pv4, pv5, pv6, pv7, pvc0, pvc1, pvc2, Pv.put, bin2, int2, binB2, un1, AV.flat, pvf, rvs_1, rvs_2, szOk, notStr, setCells, AV.one, resX, layC, layA, lay, List.map, List.replicate, List.length_replicate, pvq0, pvq1, seval, reduceCtorEq, hg1, hg2, List.length_map, e]
      (refine Ends_rq [] ?_; simp (disch := first | omega | (simp only [pvl]; omega)) only [↓pvd, pv0, pv1, pv2, pv3, pv4, pv5, pv6, pv7, pvc0, pvc1, pvc2, Pv.put, bin2, int2, binB2, un1, AV.flat, pvf, rvs_1, rvs_2, szOk, notStr, setCells, AV.one, resX, layC, layA, lay, List.map, List.replicate, List.length_replicate, pvq0, pvq1, seval, reduceCtorEq]; exact ⟨_, rfl, rfl, rfl⟩)
  · rw [decide_eq_true (take_full hi (by omega) (by omega))]
    simp (disch := first | omega | (simp only [pvl]; omega)) only [↓pvd, pv0, pv1, pv2, pv3, pv4, pv5, pv6, pv7, pvc0, pvc1, pvc2, Pv.put, bin2, int2, binB2, un1, AV.flat, pvf, rvs_1, rvs_2, szOk, notStr, setCells, AV.one, resX, layC, layA, lay, List.map, List.replicate, List.length_replicate, pvq0, pvq1, seval, reduceCtorEq, List.length_map]
    (refine Ends_rq [] ?_; simp (disch := first | omega | (simp only [pvl]; omega)) only [↓pvd, pv0, pv1, pv2, pv3, pv4, pv5, pv6, pv7, pvc0, pvc1, pvc2, Pv.put, bin2, int2, binB2, un1, AV.flat, pvf, rvs_1, rvs_2, szOk, notStr, setCells, AV.one, resX, layC, layA, lay, List.map, List.replicate, List.length_replicate, pvq0, pvq1, seval, reduceCtorEq]; exact ⟨_, rfl, rfl, rfl⟩)
theorem requalu_run (l m : List Int) (n n' : Nat) (f f' : Bool) (hn : l = [] ∨ n = 1) (hn' : m = [] ∨ n' = 1) (hl : (l.length : Int) < 9223372036854775807) (hm : (m.length : Int) < 9223372036854775807) :
    Run Tryd.prog 70 [.sl n (l.map (.int .u32)) f, .sl n' (m.map (.int .u32)) f'] (.bool (decide (l = m))) := by
  refine Tryd.run70 (by simp) ?_
  unfold Tryd.c70
  by_cases h : l.length = m.length
  case neg =>
    rw [decide_eq_false (fun e => h (by rw [e]))]
    simp (disch := first | omega | (simp only [pvl]; omega)) only [↓pvd, pv0, pv1, pv2, pv3, pv4, pv5, pv6, pv7, pvc0, pvc1, pvc2, Pv.put, bin2, int2, binB2, un1, AV.flat, pvf, rvs_1, rvs_2, szOk, notStr, setCells, AV.one, resX, layC, layA, lay, List.map, List.replicate, List.length_replicate, pvq0, pvq1, seval, reduceCtorEq, List.length_map]
    (refine Ends_rq [] ?_; simp (disch := first | omega | (simp only [pvl]; omega)) only [↓pvd, pv0, pv1, pv2, pv3, pv4, pv5, pv6, pv7, pvc0, pvc1, pvc2, Pv.put, bin2, int2, binB2, un1, AV.flat, pvf, rvs_1, rvs_2, szOk, notStr, setCells, AV.one, resX, layC, layA, lay, List.map, List.replicate, List.length_replicate, pvq0, pvq1, seval, reduceCtorEq]; exact ⟨_, rfl, rfl, rfl⟩)
  simp (disch := first | omega | (simp only [pvl]; omega)) only [↓pvd, pv0, pv1, pv2, pv3, pv4, pv5, pv6, pv7, pvc0, pvc1, pvc2, Pv.put, bin2, int2, binB2, un1, AV.flat, pvf, rvs_1, rvs_2, szOk, notStr, setCells, AV.one, resX, layC, layA, lay, List.map, List.replicate, List.length_replicate, pvq0, pvq1, seval, reduceCtorEq, List.length_map]
  refine aw_loop (fun k : Nat => ⟨[(0, .sl n (l.map (.int .u32)) f), (1, .sl n' (m.map (.int .u32)) f'), (5, .int .i64 k)], []⟩) (fun k => k ≤ l.length ∧ l.take k = m.take k) (fun k => l.length - k) 0 ?_ ⟨by omega, by simp⟩ ?_
  · simp (disch := first | omega | (simp only [pvl]; omega)) only [↓pvd, pv0, pv1, pv2, pv3, pv4, pv5, pv6, pv7, pvc0, pvc1, pvc2, Pv.put, bin2, int2, binB2, un1, AV.flat, pvf, rvs_1, rvs_2, szOk, notStr, setCells, AV.one, resX, layC, layA, lay, List.map, List.replicate, List.length_replicate, pvq0, pvq1, seval, reduceCtorEq, List.length_map]
    try rfl
  rintro k ⟨hk, hi⟩
  unfold Tryd.c70b0
  by_cases hx : k < l.length
  · obtain rfl : n = 1 := hn.resolve_left (by rintro rfl; simp at hx)
    obtain rfl : n' = 1 := hn'.resolve_left (by rintro rfl; rw [List.length_nil] at h; omega)
    have hg1 : (l.map (AV.int .u32))[k]? = some (.int .u32 l[k]!) := map_get hx
    have hg2 : (m.map (AV.int .u32))[k]? = some (.int .u32 m[k]!) := map_get (by omega)
    by_cases e : l[k]! = m[k]!
    · simp (disch := first | omega | (simp only [pvl]; omega)) only [↓pvd, pv0, pv1, pv2, pv3, pv4, pv5, pv6, pv7, pvc0, pvc1, pvc2, Pv.put, bin2, int2, binB2, un1, AV.flat, pvf, rvs_1, rvs_2, szOk, notStr, setCells, AV.one, resX, layC, layA, lay, List.map, List.replicate, List.length_replicate, pvq0, pvq1, seval, reduceCtorEq, hg1, hg2, List.length_map, e]
      exact ⟨k + 1, rfl, ⟨hx, take_next hi hx (by omega) e⟩, by omega⟩
    · rw [decide_eq_false (take_ne hx (by omega) e)]
      simp (disch := first | omega | (simp only [pvl]; omega)) only [↓pvd, pv0, pv1, pv2, pv3, pv4, pv5, pv6, pv7, pvc0, pvc1, pvc2, Pv.put, bin2, int2, binB2, un1, AV.flat, pvf, rvs_1, rvs_2, szOk, notStr, setCells, AV.one, resX, layC, layA, lay, List.map, List.replicate, List.length_replicate, pvq0, pvq1, seval, reduceCtorEq, hg1, hg2, List.length_map, e]
      (refine Ends_rq [] ?_; simp (disch := first | omega | (simp only [pvl]; omega)) only [↓pvd, pv0, pv1, pv2, pv3, pv4, pv5, pv6, pv7, pvc0, pvc1, pvc2, Pv.put, bin2, int2, binB2, un1, AV.flat, pvf, rvs_1, rvs_2, szOk, notStr, setCells, AV.one, resX, layC, layA, lay, List.map, List.replicate, List.length_replicate, pvq0, pvq1, seval, reduceCtorEq]; exact ⟨_, rfl, rfl, rfl⟩)
  · rw [decide_eq_true (take_full hi (by omega) (by omega))]
    simp (disch := first | omega | (simp only [pvl]; omega)) only [↓pvd, pv0, pv1, pv2, pv3, pv4, pv5, pv6, pv7, pvc0, pvc1, pvc2, Pv.put, bin2, int2, binB2, un1, AV.flat, pvf, rvs_1, rvs_2, szOk, notStr, setCells, AV.one, resX, layC, layA, lay, List.map, List.replicate, List.length_replicate, pvq0, pvq1, seval, reduceCtorEq, List.length_map]
    (refine Ends_rq [] ?_; simp (disch := first | omega | (simp only [pvl]; omega)) only [↓pvd, pv0, pv1, pv2, pv3, pv4, pv5, pv6, pv7, pvc0, pvc1, pvc2, Pv.put, bin2, int2, binB2, un1, AV.flat, pvf, rvs_1, rvs_2, szOk, notStr, setCells, AV.one, resX, layC, layA, lay, List.map, List.replicate, List.length_replicate, pvq0, pvq1, seval, reduceCtorEq]; exact ⟨_, rfl, rfl, rfl⟩)
set_option maxHeartbeats 16000000 in
theorem rsame_run {v v' : AV} {x y : LnF} (hv : isLn v x) (hv' : isLn v' y) (hx : lnS x) (hy : lnS y) : Run Tryd.prog 48 [v, v'] (.bool (decide (x = y))) := by
  obtain ⟨n1, f1, n2, f2, n3, f3, n4, f4, rfl, c1, c2, c3, c4⟩ := hv
  obtain ⟨m1, g1, m2, g2, m3, g3, m4, g4, rfl, d1, d2, d3, d4⟩ := hv'
  have q1 := requali_run x.t y.t n1 m1 f1 g1 c1 d1 hx.1 hy.1
  have q2 := requali_run x.im y.im n2 m2 f2 g2 c2 d2 hx.2.1 hy.2.1
  have q3 := requali_run x.ex y.ex n3 m3 f3 g3 c3 d3 hx.2.2.1 hy.2.2.1
  have q4 := requalu_run x.ad y.ad n4 m4 f4 g4 c4 d4 hx.2.2.2 hy.2.2.2
  obtain ⟨⟨r, k, a1, a2, a3, a4, a5, b1, b2, b3, b4, b5, b6⟩, t, im, ex, ad⟩ := x
  obtain ⟨⟨r', k', a1', a2', a3', a4', a5', b1', b2', b3', b4', b5', b6'⟩, t', im', ex', ad'⟩ := y
  simp only at q1 q2 q3 q4
  simp only [LnF.mk.injEq, Ln.mk.injEq]
  clear c1 c2 c3 c4 d1 d2 d3 d4 hx hy
  obtain ⟨B, hB⟩ : ∃ B, decide ((r = r' ∧ k = k' ∧ a1 = a1' ∧ a2 = a2' ∧ a3 = a3' ∧ a4 = a4' ∧ a5 = a5' ∧ b1 = b1' ∧ b2 = b2' ∧ b3 = b3' ∧ b4 = b4' ∧ b5 = b5' ∧ b6 = b6') ∧ t = t' ∧ im = im' ∧ ex = ex' ∧ ad = ad') = B := ⟨_, rfl⟩
  rw [show decide _ = B from hB]
  refine Tryd.run48 (by simp) ?_
  unfold Tryd.c48 lnA
  generalize t.map (AV.int .i64) = s1 at *
  generalize im.map (AV.int .i64) = s2 at *
  generalize ex.map (AV.int .i64) = s3 at *
  generalize ad.map (AV.int .u32) = s4 at *
  generalize t'.map (AV.int .i64) = s1' at *
  generalize im'.map (AV.int .i64) = s2' at *
  generalize ex'.map (AV.int .i64) = s3' at *
  generalize ad'.map (AV.int .u32) = s4' at *
  simp (disch := first | omega | (simp only [pvl]; omega)) only [↓pvd, pv0, pv1, pv2, pv3, pv4, pv5, pv6, pv7, pvc0, pvc1, pvc2, Pv.put, bin2, int2, binB2, un1, AV.flat, pvf, rvs_1, rvs_2, szOk, notStr, setCells, AV.one, resX, layC, layA, lay, List.map, List.replicate, List.length_replicate, pvq0, pvq1, seval, reduceCtorEq, true_and]
  by_cases e0 : r = r'
  case neg =>
    obtain rfl : B = false := by rw [← hB]; exact decide_eq_false (fun h => e0 h.1.1)
    have z : decide (r = r') = false := decide_eq_false e0
    simp (disch := first | omega | (simp only [pvl]; omega)) only [↓pvd, pv0, pv1, pv2, pv3, pv4, pv5, pv6, pv7, pvc0, pvc1, pvc2, Pv.put, bin2, int2, binB2, un1, AV.flat, pvf, rvs_1, rvs_2, szOk, notStr, setCells, AV.one, resX, layC, layA, lay, List.map, List.replicate, List.length_replicate, pvq0, pvq1, seval, reduceCtorEq, z]
    (refine Ends_rq [] ?_; simp (disch := first | omega | (simp only [pvl]; omega)) only [↓pvd, pv0, pv1, pv2, pv3, pv4, pv5, pv6, pv7, pvc0, pvc1, pvc2, Pv.put, bin2, int2, binB2, un1, AV.flat, pvf, rvs_1, rvs_2, szOk, notStr, setCells, AV.one, resX, layC, layA, lay, List.map, List.replicate, List.length_replicate, pvq0, pvq1, seval, reduceCtorEq]; exact ⟨_, rfl, rfl, rfl⟩)
  subst e0
  simp (disch := first | omega | (simp only [pvl]; omega)) only [↓pvd, pv0, pv1, pv2, pv3, pv4, pv5, pv6, pv7, pvc0, pvc1, pvc2, Pv.put, bin2, int2, binB2, un1, AV.flat, pvf, rvs_1, rvs_2, szOk, notStr, setCells, AV.one, resX, layC, layA, lay, List.map, List.replicate, List.length_replicate, pvq0, pvq1, seval, reduceCtorEq, true_and]
  by_cases e1 : k = k'
  case neg =>
    obtain rfl : B = false := by rw [← hB]; exact decide_eq_false (fun h => e1 h.1.2.1)
    have z : decide (k = k') = false := decide_eq_false e1
    simp (disch := first | omega | (simp only [pvl]; omega)) only [↓pvd, pv0, pv1, pv2, pv3, pv4, pv5, pv6, pv7, pvc0, pvc1, pvc2, Pv.put, bin2, int2, binB2, un1, AV.flat, pvf, rvs_1, rvs_2, szOk, notStr, setCells, AV.one, resX, layC, layA, lay, List.map, List.replicate, List.length_replicate, pvq0, pvq1, seval, reduceCtorEq, z]
    (refine Ends_rq [] ?_; simp (disch := first | omega | (simp only [pvl]; omega)) only [↓pvd, pv0, pv1, pv2, pv3, pv4, pv5, pv6, pv7, pvc0, pvc1, pvc2, Pv.put, bin2, int2, binB2, un1, AV.flat, pvf, rvs_1, rvs_2, szOk, notStr, setCells, AV.one, resX, layC, layA, lay, List.map, List.replicate, List.length_replicate, pvq0, pvq1, seval, reduceCtorEq]; exact ⟨_, rfl, rfl, rfl⟩)
  subst e1
  simp (disch := first | omega | (simp only [pvl]; omega)) only [↓pvd, pv0, pv1, pv2, pv3, pv4, pv5, pv6, pv7, pvc0, pvc1, pvc2, Pv.put, bin2, int2, binB2, un1, AV.flat, pvf, rvs_1, rvs_2, szOk, notStr, setCells, AV.one, resX, layC, layA, lay, List.map, List.replicate, List.length_replicate, pvq0, pvq1, seval, reduceCtorEq, true_and]
  by_cases e2 : a1 = a1'
  case neg =>
    obtain rfl : B = false := by rw [← hB]; exact decide_eq_false (fun h => e2 h.1.2.2.1)
    have z : decide (a1 = a1') = false := decide_eq_false e2
    simp (disch := first | omega | (simp only [pvl]; omega)) only [↓pvd, pv0, pv1, pv2, pv3, pv4, pv5, pv6, pv7, pvc0, pvc1, pvc2, Pv.put, bin2, int2, binB2, un1, AV.flat, pvf, rvs_1, rvs_2, szOk, notStr, setCells, AV.one, resX, layC, layA, lay, List.map, List.replicate, List.length_replicate, pvq0, pvq1, seval, reduceCtorEq, z]
    (refine Ends_rq [] ?_; simp (disch := first | omega | (simp only [pvl]; omega)) only [↓pvd, pv0, pv1, pv2, pv3, pv4, pv5, pv6, pv7, pvc0, pvc1, pvc2, Pv.put, bin2, int2, binB2, un1, AV.flat, pvf, rvs_1, rvs_2, szOk, notStr, setCells, AV.one, resX, layC, layA, lay, List.map, List.replicate, List.length_replicate, pvq0, pvq1, seval, reduceCtorEq]; exact ⟨_, rfl, rfl, rfl⟩)
  subst e2
  simp (disch := first | omega | (simp only [pvl]; omega)) only [↓pvd, pv0, pv1, pv2, pv3, pv4, pv5, pv6, pv7, pvc0, pvc1, pvc2, Pv.put, bin2, int2, binB2, un1, AV.flat, pvf, rvs_1, rvs_2, szOk, notStr, setCells, AV.one, resX, layC, layA, lay, List.map, List.replicate, List.length_replicate, pvq0, pvq1, seval, reduceCtorEq, true_and]
  by_cases e3 : a2 = a2'
  case neg =>
    obtain rfl : B = false := by rw [← hB]; exact decide_eq_false (fun h => e3 h.1.2.2.2.1)
    have z : decide (a2 = a2') = false := decide_eq_false e3
    simp (disch := first | omega | (simp only [pvl]; omega)) only [↓pvd, pv0, pv1, pv2, pv3, pv4, pv5, pv6, pv7, pvc0, pvc1, pvc2, Pv.put, bin2, int2, binB2, un1, AV.flat, pvf, rvs_1, rvs_2, szOk, notStr, setCells, AV.one, resX, layC, layA, lay, List.map, List.replicate, List.length_replicate, pvq0, pvq1, seval, reduceCtorEq, z]
    (refine Ends_rq [] ?_; simp (disch := first | omega | (simp only [pvl]; omega)) only [↓pvd, pv0, pv1, pv2, pv3, pv4, pv5, pv6, pv7, pvc0, pvc1, pvc2, Pv.put, bin2, int2, binB2, un1, AV.flat, pvf, rvs_1, rvs_2, szOk, notStr, setCells, AV.one, resX, layC, layA, lay, List.map, List.replicate, List.length_replicate, pvq0, pvq1, seval, reduceCtorEq]; exact ⟨_, rfl, rfl, rfl⟩)
  subst e3
  simp (disch := first | omega | (simp only [pvl]; omega)) only [↓pvd, pv0, pv1, pv2, pv3, pv4, pv5, pv6, pv7, pvc0, pvc1, pvc2, Pv.put, bin2, int2, binB2, un1, AV.flat, pvf, rvs_1, rvs_2, szOk, notStr, setCells, AV.one, resX, layC, layA, lay, List.map, List.replicate, List.length_replicate, pvq0, pvq1, seval, reduceCtorEq, true_and]
  by_cases e4 : a3 = a3'
  case neg =>
    obtain rfl : B = false := by rw [← hB]; exact decide_eq_false (fun h => e4 h.1.2.2.2.2.1)
    have z : decide (a3 = a3') = false := decide_eq_false e4
    simp (disch := first | omega | (simp only [pvl]; omega)) only [↓pvd, pv0, pv1, pv2, pv3, pv4, pv5, pv6, pv7, pvc0, pvc1, pvc2, Pv.put, bin2, int2, binB2, un1, AV.flat, pvf, rvs_1, rvs_2, szOk, notStr, setCells, AV.one, resX, layC, layA, lay, List.map, List.replicate, List.length_replicate, pvq0, pvq1, seval, reduceCtorEq, z]
    (refine Ends_rq [] ?_; simp (disch := first | omega | (simp only [pvl]; omega)) only [↓pvd, pv0, pv1, pv2, pv3, pv4, pv5, pv6, pv7, pvc0, pvc1, pvc2, Pv.put, bin2, int2, binB2, un1, AV.flat, pvf, rvs_1, rvs_2, szOk, notStr, setCells, AV.one, resX, layC, layA, lay, List.map, List.replicate, List.length_replicate, pvq0, pvq1, seval, reduceCtorEq]; exact ⟨_, rfl, rfl, rfl⟩)
  subst e4
  simp (disch := first | omega | (simp only [pvl]; omega)) only [↓pvd, pv0, pv1, pv2, pv3, pv4, pv5, pv6, pv7, pvc0, pvc1, pvc2, Pv.put, bin2, int2, binB2, un1, AV.flat, pvf, rvs_1, rvs_2, szOk, notStr, setCells, AV.one, resX, layC, layA, lay, List.map, List.replicate, List.length_replicate, pvq0, pvq1, seval, reduceCtorEq, true_and]
  by_cases e5 : a4 = a4'
  case neg =>
    obtain rfl : B = false := by rw [← hB]; exact decide_eq_false (fun h => e5 h.1.2.2.2.2.2.1)
    have z : decide (a4 = a4') = false := decide_eq_false e5
    simp (disch := first | omega | (simp only [pvl]; omega)) only [↓pvd, pv0, pv1, pv2, pv3, pv4, pv5, pv6, pv7, pvc0, pvc1, pvc2, Pv.put, bin2, int2, binB2, un1, AV.flat, pvf, rvs_1, rvs_2, szOk, notStr, setCells, AV.one, resX, layC, layA, lay, List.map, List.replicate, List.length_replicate, pvq0, pvq1, seval, reduceCtorEq, z]
    (refine Ends_rq [] ?_; simp (disch := first | omega | (simp only [pvl]; omega)) only [↓pvd, pv0, pv1, pv2, pv3, pv4, pv5, pv6, pv7, pvc0, pvc1, pvc2, Pv.put, bin2, int2, binB2, un1, AV.flat, pvf, rvs_1, rvs_2, szOk, notStr, setCells, AV.one, resX, layC, layA, lay, List.map, List.replicate, List.length_replicate, pvq0, pvq1, seval, reduceCtorEq]; exact ⟨_, rfl, rfl, rfl⟩)
  subst e5
  simp (disch := first | omega | (simp only [pvl]; omega)) only [↓pvd, pv0, pv1, pv2, pv3, pv4, pv5, pv6, pv7, pvc0, pvc1, pvc2, Pv.put, bin2, int2, binB2, un1, AV.flat, pvf, rvs_1, rvs_2, szOk, notStr, setCells, AV.one, resX, layC, layA, lay, List.map, List.replicate, List.length_replicate, pvq0, pvq1, seval, reduceCtorEq, true_and]
  by_cases e6 : a5 = a5'
  case neg =>
    obtain rfl : B = false := by rw [← hB]; exact decide_eq_false (fun h => e6 h.1.2.2.2.2.2.2.1)
    have z : decide (a5 = a5') = false := decide_eq_false e6
    simp (disch := first | omega | (simp only [pvl]; omega)) only [↓pvd, pv0, pv1, pv2, pv3, pv4, pv5, pv6, pv7, pvc0, pvc1, pvc2, Pv.put, bin2, int2, binB2, un1, AV.flat, pvf, rvs_1, rvs_2, szOk, notStr, setCells, AV.one, resX, layC, layA, lay, List.map, List.replicate, List.length_replicate, pvq0, pvq1, seval, reduceCtorEq, z]
    (refine Ends_rq [] ?_; simp (disch := first | omega | (simp only [pvl]; omega)) only [↓pvd, pv0, pv1, pv2, pv3, pv4, pv5, pv6, pv7, pvc0, pvc1, pvc2, Pv.put, bin2, int2, binB2, un1, AV.flat, pvf, rvs_1, rvs_2, szOk, notStr, setCells, AV.one, resX, layC, layA, lay, List.map, List.replicate, List.length_replicate, pvq0, pvq1, seval, reduceCtorEq]; exact ⟨_, rfl, rfl, rfl⟩)
  subst e6
  simp (disch := first | omega | (simp only [pvl]; omega)) only [↓pvd, pv0, pv1, pv2, pv3, pv4, pv5, pv6, pv7, pvc0, pvc1, pvc2, Pv.put, bin2, int2, binB2, un1, AV.flat, pvf, rvs_1, rvs_2, szOk, notStr, setCells, AV.one, resX, layC, layA, lay, List.map, List.replicate, List.length_replicate, pvq0, pvq1, seval, reduceCtorEq, true_and]
  by_cases e7 : b1 = b1'
  case neg =>
    obtain rfl : B = false := by rw [← hB]; exact decide_eq_false (fun h => e7 h.1.2.2.2.2.2.2.2.1)
    have z : decide (b1 = b1') = false := decide_eq_false e7
    simp (disch := first | omega | (simp only [pvl]; omega)) only [↓pvd, pv0, pv1, pv2, pv3, pv4, pv5, pv6, pv7, pvc0, pvc1, pvc2, Pv.put, bin2, int2, binB2, un1, AV.flat, pvf, rvs_1, rvs_2, szOk, notStr, setCells, AV.one, resX, layC, layA, lay, List.map, List.replicate, List.length_replicate, pvq0, pvq1, seval, reduceCtorEq, z]
    (refine Ends_rq [] ?_; simp (disch := first | omega | (simp only [pvl]; omega)) only [↓pvd, pv0, pv1, pv2, pv3, pv4, pv5, pv6, pv7, pvc0, pvc1, pvc2, Pv.put, bin2, int2, binB2, un1, AV.flat, pvf, rvs_1, rvs_2, szOk, notStr, setCells, AV.one, resX, layC, layA, lay, List.map, List.replicate, List.length_replicate, pvq0, pvq1, seval, reduceCtorEq]; exact ⟨_, rfl, rfl, rfl⟩)
  subst e7
  simp (disch := first | omega | (simp only [pvl]; omega)) only [↓pvd, pv0, pv1, pv2, pv3, pv4, pv5, pv6, pv7, pvc0, pvc1, pvc2, Pv.put, bin2, int2, binB2, un1, AV.flat, pvf, rvs_1, rvs_2, szOk, notStr, setCells, AV.one, resX, layC, layA, lay, List.map, List.replicate, List.length_replicate, pvq0, pvq1, seval, reduceCtorEq, true_and]
  by_cases e8 : b2 = b2'
  case neg =>
    obtain rfl : B = false := by rw [← hB]; exact decide_eq_false (fun h => e8 h.1.2.2.2.2.2.2.2.2.1)
    have z : decide (b2 = b2') = false := decide_eq_false e8
    simp (disch := first | omega | (simp only [pvl]; omega)) only [↓pvd, pv0, pv1, pv2, pv3, pv4, pv5, pv6, pv7, pvc0, pvc1, pvc2, Pv.put, bin2, int2, binB2, un1, AV.flat, pvf, rvs_1, rvs_2, szOk, notStr, setCells, AV.one, resX, layC, layA, lay, List.map, List.replicate, List.length_replicate, pvq0, pvq1, seval, reduceCtorEq, z]
    (refine Ends_rq [] ?_; simp (disch := first | omega | (simp only [pvl]; omega)) only [↓pvd, pv0, pv1, pv2, pv3, pv4, pv5, pv6, pv7, pvc0, pvc1, pvc2, Pv.put, bin2, int2, binB2, un1, AV.flat, pvf, rvs_1, rvs_2, szOk, notStr, setCells, AV.one, resX, layC, layA, lay, List.map, List.replicate, List.length_replicate, pvq0, pvq1, seval, reduceCtorEq]; exact ⟨_, rfl, rfl, rfl⟩)
  subst e8
  simp (disch := first | omega | (simp only [pvl]; omega)) only [↓pvd, pv0, pv1, pv2, pv3, pv4, pv5, pv6, pv7, pvc0, pvc1, pvc2, Pv.put, bin2, int2, binB2, un1, AV.flat, pvf, rvs_1, rvs_2, szOk, notStr, setCells, AV.one, resX, layC, layA, lay, List.map, List.replicate, List.length_replicate, pvq0, pvq1, seval, reduceCtorEq, true_and]
  by_cases e9 : b3 = b3'
  case neg =>
    obtain rfl : B = false := by rw [← hB]; exact decide_eq_false (fun h => e9 h.1.2.2.2.2.2.2.2.2.2.1)
    have z : decide (b3 = b3') = false := decide_eq_false e9
    simp (disch := first | omega | (simp only [pvl]; omega)) only [↓pvd, pv0, pv1, pv2, pv3, pv4, pv5, pv6, pv7, pvc0, pvc1, pvc2, Pv.put, bin2, int2, binB2, un1, AV.flat, pvf, rvs_1, rvs_2, szOk, notStr, setCells, AV.one, resX, layC, layA, lay, List.map, List.replicate, List.length_replicate, pvq0, pvq1, seval, reduceCtorEq, z]
    (refine Ends_rq [] ?_; simp (disch := first | omega | (simp only [pvl]; omega)) only [↓pvd, pv0, pv1, pv2, pv3, pv4, pv5, pv6, pv7, pvc0, pvc1, pvc2, Pv.put, bin2, int2, binB2, un1, AV.flat, pvf, rvs_1, rvs_2, szOk, notStr, setCells, AV.one, resX, layC, layA, lay, List.map, List.replicate, List.length_replicate, pvq0, pvq1, seval, reduceCtorEq]; exact ⟨_, rfl, rfl, rfl⟩)
  subst e9
  simp (disch := first | omega | (simp only [pvl]; omega)) only [↓pvd, pv0, pv1, pv2, pv3, pv4, pv5, pv6, pv7, pvc0, pvc1, pvc2, Pv.put, bin2, int2, binB2, un1, AV.flat, pvf, rvs_1, rvs_2, szOk, notStr, setCells, AV.one, resX, layC, layA, lay, List.map, List.replicate, List.length_replicate, pvq0, pvq1, seval, reduceCtorEq, true_and]
  by_cases e10 : b4 = b4'
  case neg =>
    obtain rfl : B = false := by rw [← hB]; exact decide_eq_false (fun h => e10 h.1.2.2.2.2.2.2.2.2.2.2.1)
    have z : decide (b4 = b4') = false := decide_eq_false e10
    simp (disch := first | omega | (simp only [pvl]; omega)) only [↓pvd, pv0, pv1, pv2, pv3, pv4, pv5, pv6, pv7, pvc0, pvc1, pvc2, Pv.put, bin2, int2, binB2, un1, AV.flat, pvf, rvs_1, rvs_2, szOk, notStr, setCells, AV.one, resX, layC, layA, lay, List.map, List.replicate, List.length_replicate, pvq0, pvq1, seval, reduceCtorEq, z]
    (refine Ends_rq [] ?_; simp (disch := first | omega | (simp only [pvl]; omega)) only [↓pvd, pv0, pv1, pv2, pv3, pv4, pv5, pv6, pv7, pvc0, pvc1, pvc2, Pv.put, bin2, int2, binB2, un1, AV.flat, pvf, rvs_1, rvs_2, szOk, notStr, setCells, AV.one, resX, layC, layA, lay, List.map, List.replicate, List.length_replicate, pvq0, pvq1, seval, reduceCtorEq]; exact ⟨_, rfl, rfl, rfl⟩)
  subst e10
  simp (disch := first | omega | (simp only [pvl]; omega)) only [↓pvd, pv0, pv1, pv2, pv3, pv4, pv5, pv6, pv7, pvc0, pvc1, pvc2, Pv.put, bin2, int2, binB2, un1, AV.flat, pvf, rvs_1, rvs_2, szOk, notStr, setCells, AV.one, resX, layC, layA, lay, List.map, List.replicate, List.length_replicate, pvq0, pvq1, seval, reduceCtorEq, true_and]
  by_cases e11 : b5 = b5'
  case neg =>
    obtain rfl : B = false := by rw [← hB]; exact decide_eq_false (fun h => e11 h.1.2.2.2.2.2.2.2.2.2.2.2.1)
    have z : decide (b5 = b5') = false := decide_eq_false e11
    simp (disch := first | omega | (simp only [pvl]; omega)) only [↓pvd, pv0, pv1, pv2, pv3, pv4, pv5, pv6, pv7, pvc0, pvc1, pvc2, Pv.put, bin2, int2, binB2, un1, AV.flat, pvf, rvs_1, rvs_2, szOk, notStr, setCells, AV.one, resX, layC, layA, lay, List.map, List.replicate, List.length_replicate, pvq0, pvq1, seval, reduceCtorEq, z]
    (refine Ends_rq [] ?_; simp (disch := first | omega | (simp only [pvl]; omega)) only [↓pvd, pv0, pv1, pv2, pv3, pv4, pv5, pv6, pv7, pvc0, pvc1, pvc2, Pv.put, bin2, int2, binB2, un1, AV.flat, pvf, rvs_1, rvs_2, szOk, notStr, setCells, AV.one, resX, layC, layA, lay, List.map, List.replicate, List.length_replicate, pvq0, pvq1, seval, reduceCtorEq]; exact ⟨_, rfl, rfl, rfl⟩)
  subst e11
  simp (disch := first | omega | (simp only [pvl]; omega)) only [↓pvd, pv0, pv1, pv2, pv3, pv4, pv5, pv6, pv7, pvc0, pvc1, pvc2, Pv.put, bin2, int2, binB2, un1, AV.flat, pvf, rvs_1, rvs_2, szOk, notStr, setCells, AV.one, resX, layC, layA, lay, List.map, List.replicate, List.length_replicate, pvq0, pvq1, seval, reduceCtorEq, true_and]
  by_cases e12 : b6 = b6'
  case neg =>
    obtain rfl : B = false := by rw [← hB]; exact decide_eq_false (fun h => e12 h.1.2.2.2.2.2.2.2.2.2.2.2.2)
    have z : decide (b6 = b6') = false := decide_eq_false e12
    simp (disch := first | omega | (simp only [pvl]; omega)) only [↓pvd, pv0, pv1, pv2, pv3, pv4, pv5, pv6, pv7, pvc0, pvc1, pvc2, Pv.put, bin2, int2, binB2, un1, AV.flat, pvf, rvs_1, rvs_2, szOk, notStr, setCells, AV.one, resX, layC, layA, lay, List.map, List.replicate, List.length_replicate, pvq0, pvq1, seval, reduceCtorEq, z]
    (refine Ends_rq [] ?_; simp (disch := first | omega | (simp only [pvl]; omega)) only [↓pvd, pv0, pv1, pv2, pv3, pv4, pv5, pv6, pv7, pvc0, pvc1, pvc2, Pv.put, bin2, int2, binB2, un1, AV.flat, pvf, rvs_1, rvs_2, szOk, notStr, setCells, AV.one, resX, layC, layA, lay, List.map, List.replicate, List.length_replicate, pvq0, pvq1, seval, reduceCtorEq]; exact ⟨_, rfl, rfl, rfl⟩)
  subst e12
  simp (disch := first | omega | (simp only [pvl]; omega)) only [↓pvd, pv0, pv1, pv2, pv3, pv4, pv5, pv6, pv7, pvc0, pvc1, pvc2, Pv.put, bin2, int2, binB2, un1, AV.flat, pvf, rvs_1, rvs_2, szOk, notStr, setCells, AV.one, resX, layC, layA, lay, List.map, List.replicate, List.length_replicate, pvq0, pvq1, seval, reduceCtorEq, true_and]
  refine awR_call q1 rfl rfl ?_
  by_cases e13 : t = t'
  case neg =>
    obtain rfl : B = false := by rw [← hB]; exact decide_eq_false (fun h => e13 h.2.1)
    have z : decide (t = t') = false := decide_eq_false e13
    simp (disch := first | omega | (simp only [pvl]; omega)) only [↓pvd, pv0, pv1, pv2, pv3, pv4, pv5, pv6, pv7, pvc0, pvc1, pvc2, Pv.put, bin2, int2, binB2, un1, AV.flat, pvf, rvs_1, rvs_2, szOk, notStr, setCells, AV.one, resX, layC, layA, lay, List.map, List.replicate, List.length_replicate, pvq0, pvq1, seval, reduceCtorEq, z]
    (refine Ends_rq [] ?_; simp (disch := first | omega | (simp only [pvl]; omega)) only [↓pvd, pv0, pv1, pv2, pv3, pv4, pv5, pv6, pv7, pvc0, pvc1, pvc2, Pv.put, bin2, int2, binB2, un1, AV.flat, pvf, rvs_1, rvs_2, szOk, notStr, setCells, AV.one, resX, layC, layA, lay, List.map, List.replicate, List.length_replicate, pvq0, pvq1, seval, reduceCtorEq]; exact ⟨_, rfl, rfl, rfl⟩)
  have z13 : decide (t = t') = true := decide_eq_true e13
  simp (disch := first | omega | (simp only [pvl]; omega)) only [↓pvd, pv0, pv1, pv2, pv3, pv4, pv5, pv6, pv7, pvc0, pvc1, pvc2, Pv.put, bin2, int2, binB2, un1, AV.flat, pvf, rvs_1, rvs_2, szOk, notStr, setCells, AV.one, resX, layC, layA, lay, List.map, List.replicate, List.length_replicate, pvq0, pvq1, seval, reduceCtorEq, z13]
  refine awR_call q2 rfl rfl ?_
  by_cases e14 : im = im'
  case neg =>
    obtain rfl : B = false := by rw [← hB]; exact decide_eq_false (fun h => e14 h.2.2.1)
    have z : decide (im = im') = false := decide_eq_false e14
    simp (disch := first | omega | (simp only [pvl]; omega)) only [↓pvd, pv0, pv1, pv2, pv3, pv4, pv5, pv6, pv7, pvc0, pvc1, pvc2, Pv.put, bin2, int2, binB2, un1, AV.flat, pvf, rvs_1, rvs_2, szOk, notStr, setCells, AV.one, resX, layC, layA, lay, List.map, List.replicate, List.length_replicate, pvq0, pvq1, seval, reduceCtorEq, z]
    (refine Ends_rq [] ?_; simp (disch := first | omega | (simp only [pvl]; omega)) only [↓pvd, pv0, pv1, pv2, pv3, pv4, pv5, pv6, pv7, pvc0, pvc1, pvc2, Pv.put, bin2, int2, binB2, un1, AV.flat, pvf, rvs_1, rvs_2, szOk, notStr, setCells, AV.one, resX, layC, layA, lay, List.map, List.replicate, List.length_replicate, pvq0, pvq1, seval, reduceCtorEq]; exact ⟨_, rfl, rfl, rfl⟩)
  have z14 : decide (im = im') = true := decide_eq_true e14
  simp (disch := first | omega | (simp only [pvl]; omega)) only [↓pvd, pv0, pv1, pv2, pv3, pv4, pv5, pv6, pv7, pvc0, pvc1, pvc2, Pv.put, bin2, int2, binB2, un1, AV.flat, pvf, rvs_1, rvs_2, szOk, notStr, setCells, AV.one, resX, layC, layA, lay, List.map, List.replicate, List.length_replicate, pvq0, pvq1, seval, reduceCtorEq, z14]
  refine awR_call q3 rfl rfl ?_
  by_cases e15 : ex = ex'
  case neg =>
    obtain rfl : B = false := by rw [← hB]; exact decide_eq_false (fun h => e15 h.2.2.2.1)
    have z : decide (ex = ex') = false := decide_eq_false e15
    simp (disch := first | omega | (simp only [pvl]; omega)) only [↓pvd, pv0, pv1, pv2, pv3, pv4, pv5, pv6, pv7, pvc0, pvc1, pvc2, Pv.put, bin2, int2, binB2, un1, AV.flat, pvf, rvs_1, rvs_2, szOk, notStr, setCells, AV.one, resX, layC, layA, lay, List.map, List.replicate, List.length_replicate, pvq0, pvq1, seval, reduceCtorEq, z]
    (refine Ends_rq [] ?_; simp (disch := first | omega | (simp only [pvl]; omega)) only [↓pvd, pv0, pv1, pv2, pv3, pv4, pv5, pv6, pv7, pvc0, pvc1, pvc2, Pv.put, bin2, int2, binB2, un1, AV.flat, pvf, rvs_1, rvs_2, szOk, notStr, setCells, AV.one, resX, layC, layA, lay, List.map, List.replicate, List.length_replicate, pvq0, pvq1, seval, reduceCtorEq]; exact ⟨_, rfl, rfl, rfl⟩)
  have z15 : decide (ex = ex') = true := decide_eq_true e15
  simp (disch := first | omega | (simp only [pvl]; omega)) only [↓pvd, pv0, pv1, pv2, pv3, pv4, pv5, pv6, pv7, pvc0, pvc1, pvc2, Pv.put, bin2, int2, binB2, un1, AV.flat, pvf, rvs_1, rvs_2, szOk, notStr, setCells, AV.one, resX, layC, layA, lay, List.map, List.replicate, List.length_replicate, pvq0, pvq1, seval, reduceCtorEq, z15]
  refine awR_call q4 rfl rfl ?_
  by_cases e16 : ad = ad'
  case neg =>
    obtain rfl : B = false := by rw [← hB]; exact decide_eq_false (fun h => e16 h.2.2.2.2)
    have z : decide (ad = ad') = false := decide_eq_false e16
    simp (disch := first | omega | (simp only [pvl]; omega)) only [↓pvd, pv0, pv1, pv2, pv3, pv4, pv5, pv6, pv7, pvc0, pvc1, pvc2, Pv.put, bin2, int2, binB2, un1, AV.flat, pvf, rvs_1, rvs_2, szOk, notStr, setCells, AV.one, resX, layC, layA, lay, List.map, List.replicate, List.length_replicate, pvq0, pvq1, seval, reduceCtorEq, z]
    (refine Ends_rq [] ?_; simp (disch := first | omega | (simp only [pvl]; omega)) only [↓pvd, pv0, pv1, pv2, pv3, pv4, pv5, pv6, pv7, pvc0, pvc1, pvc2, Pv.put, bin2, int2, binB2, un1, AV.flat, pvf, rvs_1, rvs_2, szOk, notStr, setCells, AV.one, resX, layC, layA, lay, List.map, List.replicate, List.length_replicate, pvq0, pvq1, seval, reduceCtorEq]; exact ⟨_, rfl, rfl, rfl⟩)
  have z16 : decide (ad = ad') = true := decide_eq_true e16
  simp (disch := first | omega | (simp only [pvl]; omega)) only [↓pvd, pv0, pv1, pv2, pv3, pv4, pv5, pv6, pv7, pvc0, pvc1, pvc2, Pv.put, bin2, int2, binB2, un1, AV.flat, pvf, rvs_1, rvs_2, szOk, notStr, setCells, AV.one, resX, layC, layA, lay, List.map, List.replicate, List.length_replicate, pvq0, pvq1, seval, reduceCtorEq, z16]
  obtain rfl : B = true := by rw [← hB]; exact decide_eq_true ⟨⟨rfl, rfl, rfl, rfl, rfl, rfl, rfl, rfl, rfl, rfl, rfl, rfl, rfl⟩, e13, e14, e15, e16⟩
  (refine Ends_rq [] ?_; simp (disch := first | omega | (simp only [pvl]; omega)) only [↓pvd, pv0, pv1, pv2, pv3, pv4, pv5, pv6, pv7, pvc0, pvc1, pvc2, Pv.put, bin2, int2, binB2, un1, AV.flat, pvf, rvs_1, rvs_2, szOk, notStr, setCells, AV.one, resX, layC, layA, lay, List.map, List.replicate, List.length_replicate, pvq0, pvq1, seval, reduceCtorEq]; exact ⟨_, rfl, rfl, rfl⟩)
end Go.Proofs

set_option linter.unusedSimpArgs false
set_option linter.unusedVariables false
set_option maxHeartbeats 2000000
set_option maxRecDepth 20000
namespace Go.Proofs
open Go.Pv
set_option maxHeartbeats 8000000 in
theorem exact_run {vs ws : List AV} {a b : List LnF} (n n' : Nat) (f f' : Bool) (hn : a = [] ∨ n = 17) (hn' : b = [] ∨ n' = 17) (hv : areLn vs a) (hw : areLn ws b) (ha : ∀ x ∈ a, lnS x) (hb : ∀ x ∈ b, lnS x) (hla : (a.length : Int) < 9223372036854775807) (hlb : (b.length : Int) < 9223372036854775807) :
    Run Tryd.prog 21 [.sl n vs f, .sl n' ws f'] (.bool (decide (a = b))) := by
  refine Tryd.run21 (by simp) ?_
  unfold Tryd.c21
  have hvl := hv.1
  have hwl := hw.1
  by_cases h : a.length = b.length
  case neg =>
    rw [decide_eq_false (fun e => h (by rw [e]))]
    have : ¬ (vs.length : Int) = ws.length := by omega
    simp (disch := first | omega | (simp only [pvl]; omega)) only [↓pvd, pv0, pv1, pv2, pv3, pv4, pv5, pv6, pv7, pvc0, pvc1, pvc2, Pv.put, bin2, int2, binB2, un1, AV.flat, pvf, rvs_1, rvs_2, szOk, notStr, setCells, AV.one, resX, layC, layA, lay, List.map, List.replicate, List.length_replicate, pvq0, pvq1, seval, reduceCtorEq, this]
    (refine Ends_rq [] ?_; simp (disch := first | omega | (simp only [pvl]; omega)) only [↓pvd, pv0, pv1, pv2, pv3, pv4, pv5, pv6, pv7, pvc0, pvc1, pvc2, Pv.put, bin2, int2, binB2, un1, AV.flat, pvf, rvs_1, rvs_2, szOk, notStr, setCells, AV.one, resX, layC, layA, lay, List.map, List.replicate, List.length_replicate, pvq0, pvq1, seval, reduceCtorEq]; exact ⟨_, rfl, rfl, rfl⟩)
  have h' : (vs.length : Int) = ws.length := by omega
  simp (disch := first | omega | (simp only [pvl]; omega)) only [↓pvd, pv0, pv1, pv2, pv3, pv4, pv5, pv6, pv7, pvc0, pvc1, pvc2, Pv.put, bin2, int2, binB2, un1, AV.flat, pvf, rvs_1, rvs_2, szOk, notStr, setCells, AV.one, resX, layC, layA, lay, List.map, List.replicate, List.length_replicate, pvq0, pvq1, seval, reduceCtorEq, h', hwl, hvl]
  refine aw_loop (fun k : Nat => ⟨[(0, .sl n vs f), (1, .sl n' ws f'), (5, .int .i64 k)], []⟩) (fun k => k ≤ a.length ∧ a.take k = b.take k) (fun k => a.length - k) 0 ?_ ⟨by omega, by simp⟩ ?_
  · simp (disch := first | omega | (simp only [pvl]; omega)) only [↓pvd, pv0, pv1, pv2, pv3, pv4, pv5, pv6, pv7, pvc0, pvc1, pvc2, Pv.put, bin2, int2, binB2, un1, AV.flat, pvf, rvs_1, rvs_2, szOk, notStr, setCells, AV.one, resX, layC, layA, lay, List.map, List.replicate, List.length_replicate, pvq0, pvq1, seval, reduceCtorEq, h', hwl, hvl]
    try rfl
  rintro k ⟨hk, hi⟩
  unfold Tryd.c21b0
  by_cases hx : k < a.length
  · obtain rfl : n = 17 := hn.resolve_left (by rintro rfl; simp at hx)
    obtain rfl : n' = 17 := hn'.resolve_left (by rintro rfl; simp at h; rw [h] at hx; simp at hx)
    obtain ⟨v, hg1, i1⟩ := areLn_at hv hx
    obtain ⟨w, hg2, i2⟩ := areLn_at hw (show k < b.length by omega)
    have hx2 : k < b.length := by omega
    have hxa := ha a[k]! (get_mem hx)
    have hxb := hb b[k]! (get_mem hx2)
    have hne := fun e => take_ne (l := a) (m := b) hx hx2 e
    have hnx := fun e => take_next (l := a) (m := b) hi hx hx2 e
    generalize a[k]! = x at *
    generalize b[k]! = y at *
    obtain ⟨n1, f1, n2, f2, n3, f3, n4, f4, rfl, c1, c2, c3, c4⟩ := i1
    obtain ⟨m1, g1, m2, g2, m3, g3, m4, g4, rfl, d1, d2, d3, d4⟩ := i2
    have q := rsame_run (x := x) (y := y) ⟨n1, f1, n2, f2, n3, f3, n4, f4, rfl, c1, c2, c3, c4⟩ ⟨m1, g1, m2, g2, m3, g3, m4, g4, rfl, d1, d2, d3, d4⟩ hxa hxb
    clear c1 c2 c3 c4 d1 d2 d3 d4 hxa hxb
    generalize hE : decide (x = y) = E at *
    obtain ⟨⟨r, kd, a1, a2, a3, a4, a5, b1, b2, b3, b4, b5, b6⟩, t, im, ex, ad⟩ := x
    obtain ⟨⟨r', kd', a1', a2', a3', a4', a5', b1', b2', b3', b4', b5', b6'⟩, t', im', ex', ad'⟩ := y
    simp only at q hg1 hg2
    generalize t.map (AV.int .i64) = s1 at *
    generalize im.map (AV.int .i64) = s2 at *
    generalize ex.map (AV.int .i64) = s3 at *
    generalize ad.map (AV.int .u32) = s4 at *
    generalize t'.map (AV.int .i64) = s1' at *
    generalize im'.map (AV.int .i64) = s2' at *
    generalize ex'.map (AV.int .i64) = s3' at *
    generalize ad'.map (AV.int .u32) = s4' at *
    unfold lnA at q hg1 hg2
    simp (disch := first | omega | (simp only [pvl]; omega)) only [↓pvd, pv0, pv1, pv2, pv3, pv4, pv5, pv6, pv7, pvc0, pvc1, pvc2, Pv.put, bin2, int2, binB2, un1, AV.flat, pvf, rvs_1, rvs_2, szOk, notStr, setCells, AV.one, resX, layC, layA, lay, List.map, List.replicate, List.length_replicate, pvq0, pvq1, seval, reduceCtorEq, hg1, hg2, hwl, hvl]
    refine awR_callD q rfl rfl (fun _ => rfl) ?_
    cases E with
    | false =>
      rw [decide_eq_false (hne (by simpa using hE))]
      simp (disch := first | omega | (simp only [pvl]; omega)) only [↓pvd, pv0, pv1, pv2, pv3, pv4, pv5, pv6, pv7, pvc0, pvc1, pvc2, Pv.put, bin2, int2, binB2, un1, AV.flat, pvf, rvs_1, rvs_2, szOk, notStr, setCells, AV.one, resX, layC, layA, lay, List.map, List.replicate, List.length_replicate, pvq0, pvq1, seval, reduceCtorEq, true_and]
      (refine Ends_rq [] ?_; simp (disch := first | omega | (simp only [pvl]; omega)) only [↓pvd, pv0, pv1, pv2, pv3, pv4, pv5, pv6, pv7, pvc0, pvc1, pvc2, Pv.put, bin2, int2, binB2, un1, AV.flat, pvf, rvs_1, rvs_2, szOk, notStr, setCells, AV.one, resX, layC, layA, lay, List.map, List.replicate, List.length_replicate, pvq0, pvq1, seval, reduceCtorEq]; exact ⟨_, rfl, rfl, rfl⟩)
    | true =>
      simp (disch := first | omega | (simp only [pvl]; omega)) only [↓pvd, pv0, pv1, pv2, pv3, pv4, pv5, pv6, pv7, pvc0, pvc1, pvc2, Pv.put, bin2, int2, binB2, un1, AV.flat, pvf, rvs_1, rvs_2, szOk, notStr, setCells, AV.one, resX, layC, layA, lay, List.map, List.replicate, List.length_replicate, pvq0, pvq1, seval, reduceCtorEq, true_and]
      exact ⟨k + 1, rfl, ⟨hx, hnx (by simpa using hE)⟩, by omega⟩
  · rw [decide_eq_true (take_full hi (by omega) (by omega))]
    have hkb : ¬ (k : Int) < a.length := by omega
    simp (disch := first | omega | (simp only [pvl]; omega)) only [↓pvd, pv0, pv1, pv2, pv3, pv4, pv5, pv6, pv7, pvc0, pvc1, pvc2, Pv.put, bin2, int2, binB2, un1, AV.flat, pvf, rvs_1, rvs_2, szOk, notStr, setCells, AV.one, resX, layC, layA, lay, List.map, List.replicate, List.length_replicate, pvq0, pvq1, seval, reduceCtorEq, hkb, hvl]
    (refine Ends_rq [] ?_; simp (disch := first | omega | (simp only [pvl]; omega)) only [↓pvd, pv0, pv1, pv2, pv3, pv4, pv5, pv6, pv7, pvc0, pvc1, pvc2, Pv.put, bin2, int2, binB2, un1, AV.flat, pvf, rvs_1, rvs_2, szOk, notStr, setCells, AV.one, resX, layC, layA, lay, List.map, List.replicate, List.length_replicate, pvq0, pvq1, seval, reduceCtorEq]; exact ⟨_, rfl, rfl, rfl⟩)
/-- A line's value, with another row. -/
def rowV (v : AV) (r : Int) : AV := match v with
  | .agg (_ :: cs) => .agg (.int .i64 r :: cs)
  | v => v
def rowL (vs : List AV) (a b : List LnF) : List AV := (vs.zip b).map fun p => rowV p.1 p.2.l.row
def rowX (a b : List LnF) : List LnF := (a.zip b).map fun p => withRow p.1 p.2.l.row
theorem isLn_row {v : AV} {x : LnF} (h : isLn v x) (r : Int) : isLn (rowV v r) (withRow x r) := by
  obtain ⟨n1, f1, n2, f2, n3, f3, n4, f4, rfl, c1, c2, c3, c4⟩ := h
  exact ⟨n1, f1, n2, f2, n3, f3, n4, f4, rfl, c1, c2, c3, c4⟩
theorem areLn_row {vs : List AV} {a b : List LnF} (h : areLn vs a) : areLn (rowL vs a b) (rowX a b) := by
  refine ⟨by simp [rowL, rowX, h.1], fun i v x hv hx => ?_⟩
  unfold rowL at hv
  unfold rowX at hx
  rw [List.getElem?_map] at hv hx
  obtain ⟨p, hp, rfl⟩ := Option.map_eq_some_iff.1 hv
  obtain ⟨p', hp', rfl⟩ := Option.map_eq_some_iff.1 hx
  rw [List.getElem?_zip_eq_some] at hp hp'
  have e : p.2 = p'.2 := Option.some.inj (hp.2.symm.trans hp'.2)
  rw [e]
  exact isLn_row (h.2 i _ _ hp.1 hp'.1) _
theorem rowX_nr (a b : List LnF) (h : a.length = b.length) : rowX a b = b ↔ a.map nr = b.map nr := by
  induction a generalizing b with
  | nil =>
    cases b with
    | nil => simp [rowX]
    | cons y b => simp at h
  | cons x a ih =>
    cases b with
    | nil => simp at h
    | cons y b =>
      have := ih b (by simpa using h)
      unfold rowX at this ⊢
      simp only [List.zip_cons_cons, List.map_cons, List.cons.injEq]
      rw [this, withRow_nr]
theorem rowL_take {vs : List AV} {a b : List LnF} {k : Nat} {v : AV} (hv : vs[k]? = some v) (hb : k < b.length) : (rowL vs a b).take (k + 1) = (rowL vs a b).take k ++ [rowV v b[k]!.l.row] := by
  have hvl : k < vs.length := by
    rcases Nat.lt_or_ge k vs.length with h | h
    · exact h
    · rw [List.getElem?_eq_none h] at hv; cases hv
  have hl : k < (rowL vs a b).length := by simp [rowL]; omega
  rw [List.take_add_one, List.getElem?_eq_getElem hl]
  simp only [rowL, List.getElem_map, List.getElem_zip, Option.toList_some]
  rw [List.getElem?_eq_getElem hvl] at hv
  cases hv
  rw [getElem!_pos b k hb]
theorem rowL_pl {vs : List AV} {a b : List LnF} (h : areLn vs a) : (rowL vs a b).all AV.pl = true := by
  rw [List.all_eq_true]
  intro v hv
  obtain ⟨i, hi, rfl⟩ := List.mem_iff_getElem.1 hv
  have hr := areLn_row (b := b) h
  obtain ⟨w, hw, i1⟩ := areLn_at hr (k := i) (by rw [← hr.1]; exact hi)
  rw [List.getElem?_eq_getElem hi] at hw
  cases hw
  obtain ⟨n1, f1, n2, f2, n3, f3, n4, f4, e, -⟩ := i1
  rw [e]
  rfl
theorem take_all {l : List AV} (k : Nat) (h : l.all AV.pl = true) : (l.take k).all AV.pl = true := by
  rw [List.all_eq_true] at h ⊢
  exact fun x hx => h x (List.mem_of_mem_take hx)
theorem rowL_nr1 {vs : List AV} {a b : List LnF} (h : areLn vs a) : ∀ v ∈ rowL vs a b, v.nr1 = true := by
  intro v hv
  obtain ⟨i, hi, rfl⟩ := List.mem_iff_getElem.1 hv
  have hr := areLn_row (b := b) h
  obtain ⟨w, hw, i1⟩ := areLn_at hr (k := i) (by rw [← hr.1]; exact hi)
  rw [List.getElem?_eq_getElem hi] at hw
  cases hw
  obtain ⟨n1, f1, n2, f2, n3, f3, n4, f4, e, -⟩ := i1
  rw [e]
  rfl
set_option maxHeartbeats 8000000 in
theorem rtsame_run {vs ws : List AV} {a b : List LnF} (n n' : Nat) (f f' : Bool) (hn : a = [] ∨ n = 17) (hn' : b = [] ∨ n' = 17) (hv : areLn vs a) (hw : areLn ws b) (ha : ∀ x ∈ a, lnS x) (hb : ∀ x ∈ b, lnS x) (hla : a.length ≤ 1000) (hlb : b.length ≤ 1000) :
    Run Tryd.prog 11 [.sl n vs f, .sl n' ws f'] (.bool (decide (a.map nr = b.map nr))) := by
  refine Tryd.run11 (by simp) ?_
  unfold Tryd.c11
  have hvl := hv.1
  have hwl := hw.1
  have hpl := rowL_pl (b := b) hv
  have hzl : (rowL vs a b).length = min vs.length b.length := by simp [rowL]
  simp (disch := first | omega | (simp only [pvl]; omega)) only [↓pvd, pv0, pv1, pv2, pv3, pv4, pv5, pv6, pv7, pvc0, pvc1, pvc2, Pv.put, bin2, int2, binB2, un1, AV.flat, pvf, rvs_1, rvs_2, szOk, notStr, setCells, AV.one, resX, layC, layA, lay, List.map, List.replicate, List.length_replicate, pvq0, pvq1, seval, reduceCtorEq, hvl, hwl]
  refine aw_loop (fun k : Nat => ⟨[(0, .sl n vs f), (1, .sl n' ws f'), (5, .vec 0 17 0 k), (6, .int .i64 k)], [some ⟨35, (rowL vs a b).take k, true⟩]⟩) (fun k => k ≤ a.length ∧ k ≤ b.length) (fun k => a.length - k) 0 ?_ ⟨by omega, by omega⟩ ?_
  · simp (disch := first | omega | (simp only [pvl]; omega)) only [↓pvd, pv0, pv1, pv2, pv3, pv4, pv5, pv6, pv7, pvc0, pvc1, pvc2, Pv.put, bin2, int2, binB2, un1, AV.flat, pvf, rvs_1, rvs_2, szOk, notStr, setCells, AV.one, resX, layC, layA, lay, List.map, List.replicate, List.length_replicate, pvq0, pvq1, seval, reduceCtorEq, hvl, hwl]
  rintro k ⟨hk, hk2⟩
  unfold Tryd.c11b0
  have htl : ((rowL vs a b).take k).length = k := by rw [List.length_take, hzl]; omega
  by_cases hx : k < a.length ∧ k < b.length
  · obtain ⟨hx1, hx2⟩ := hx
    obtain rfl : n = 17 := hn.resolve_left (by rintro rfl; simp at hx1)
    obtain rfl : n' = 17 := hn'.resolve_left (by rintro rfl; simp at hx2)
    obtain ⟨v, hg1, i1⟩ := areLn_at hv hx1
    obtain ⟨w, hg2, i2⟩ := areLn_at hw hx2
    have hnx := rowL_take (a := a) hg1 hx2
    have hpk := take_all (k + 1) hpl
    generalize a[k]! = x at *
    generalize b[k]! = y at *
    obtain ⟨n1, f1, n2, f2, n3, f3, n4, f4, rfl, -⟩ := i1
    obtain ⟨m1, g1, m2, g2, m3, g3, m4, g4, rfl, -⟩ := i2
    unfold lnA rowV at hnx
    unfold lnA at hg1 hg2
    obtain ⟨⟨r, kd, a1, a2, a3, a4, a5, b1, b2, b3, b4, b5, b6⟩, t, im, ex, ad⟩ := x
    obtain ⟨⟨r', kd', a1', a2', a3', a4', a5', b1', b2', b3', b4', b5', b6'⟩, t', im', ex', ad'⟩ := y
    simp only at hnx hg1 hg2
    generalize t.map (AV.int .i64) = s1 at *
    generalize im.map (AV.int .i64) = s2 at *
    generalize ex.map (AV.int .i64) = s3 at *
    generalize ad.map (AV.int .u32) = s4 at *
    generalize t'.map (AV.int .i64) = s1' at *
    generalize im'.map (AV.int .i64) = s2' at *
    generalize ex'.map (AV.int .i64) = s3' at *
    generalize ad'.map (AV.int .u32) = s4' at *
    have hnx' := hnx.symm
    obtain ⟨R, hR⟩ : ∃ R, (rowL vs a b).take (k + 1) = R := ⟨_, rfl⟩
    rw [hR] at hnx' hpk
    generalize (rowL vs a b).take k = R0 at *
    simp (disch := first | omega | (simp only [pvl]; omega)) only [↓pvd, pv0, pv1, pv2, pv3, pv4, pv5, pv6, pv7, pvc0, pvc1, pvc2, Pv.put, bin2, int2, binB2, un1, AV.flat, pvf, rvs_1, rvs_2, szOk, notStr, setCells, AV.one, resX, layC, layA, lay, List.map, List.replicate, List.length_replicate, pvq0, pvq1, seval, reduceCtorEq, hg1, hg2, hwl, hvl, htl, hnx', ids_all hpk, ren_all hpk]
    exact ⟨k + 1, by rw [hR]; rfl, ⟨by omega, by omega⟩, by omega⟩
  · by_cases h : a.length = b.length
    case neg =>
      rw [decide_eq_false (fun e => h (by have := congrArg List.length e; simpa using this))]
      have hne : ¬ (a.length : Int) = b.length := by omega
      by_cases hk3 : k < a.length
      · have hk4 : ¬ (k : Int) < b.length := by omega
        simp (disch := first | omega | (simp only [pvl]; omega)) only [↓pvd, pv0, pv1, pv2, pv3, pv4, pv5, pv6, pv7, pvc0, pvc1, pvc2, Pv.put, bin2, int2, binB2, un1, AV.flat, pvf, rvs_1, rvs_2, szOk, notStr, setCells, AV.one, resX, layC, layA, lay, List.map, List.replicate, List.length_replicate, pvq0, pvq1, seval, reduceCtorEq, hwl, hvl, hne, hk4]
        (refine Ends_rq [] ?_; simp (disch := first | omega | (simp only [pvl]; omega)) only [↓pvd, pv0, pv1, pv2, pv3, pv4, pv5, pv6, pv7, pvc0, pvc1, pvc2, Pv.put, bin2, int2, binB2, un1, AV.flat, pvf, rvs_1, rvs_2, szOk, notStr, setCells, AV.one, resX, layC, layA, lay, List.map, List.replicate, List.length_replicate, pvq0, pvq1, seval, reduceCtorEq]; exact ⟨_, rfl, rfl, rfl⟩)
      · simp (disch := first | omega | (simp only [pvl]; omega)) only [↓pvd, pv0, pv1, pv2, pv3, pv4, pv5, pv6, pv7, pvc0, pvc1, pvc2, Pv.put, bin2, int2, binB2, un1, AV.flat, pvf, rvs_1, rvs_2, szOk, notStr, setCells, AV.one, resX, layC, layA, lay, List.map, List.replicate, List.length_replicate, pvq0, pvq1, seval, reduceCtorEq, hwl, hvl, hne]
        (refine Ends_rq [] ?_; simp (disch := first | omega | (simp only [pvl]; omega)) only [↓pvd, pv0, pv1, pv2, pv3, pv4, pv5, pv6, pv7, pvc0, pvc1, pvc2, Pv.put, bin2, int2, binB2, un1, AV.flat, pvf, rvs_1, rvs_2, szOk, notStr, setCells, AV.one, resX, layC, layA, lay, List.map, List.replicate, List.length_replicate, pvq0, pvq1, seval, reduceCtorEq]; exact ⟨_, rfl, rfl, rfl⟩)
    obtain rfl : k = a.length := by omega
    have htk : (rowL vs a b).take a.length = rowL vs a b := List.take_of_length_le (by rw [hzl]; omega)
    have hrl : (rowL vs a b).length = a.length := by rw [hzl]; omega
    have hml : (rowX a b).length = a.length := by simp [rowX]; omega
    have hxs : ∀ x ∈ rowX a b, lnS x := fun x hx => by
      unfold rowX at hx
      obtain ⟨p, hp, rfl⟩ := List.mem_map.1 hx
      exact ha p.1 (List.of_mem_zip hp).1
    have q := exact_run (vs := rowL vs a b) (ws := ws) 17 n' false f' (.inr rfl) hn' (areLn_row hv) hw hxs hb (by omega) (by omega)
    rw [show decide (rowX a b = b) = decide (a.map nr = b.map nr) by
      by_cases e : rowX a b = b
      · rw [decide_eq_true e, decide_eq_true ((rowX_nr a b h).1 e)]
      · rw [decide_eq_false e, decide_eq_false (fun e' => e ((rowX_nr a b h).2 e'))]] at q
    have hmo : ∀ hp, mapO (snap hp 5) (rowL vs a b) = some (rowL vs a b) := fun hp => mapO_id fun x hx => snap_nr1 (rowL_nr1 hv x hx)
    have hro : ∀ hp, (rowL vs a b).flatMap (rows hp 5) = [] := fun hp => by
      rw [List.flatMap_eq_nil_iff]
      exact fun x hx => rows_nr1 (rowL_nr1 hv x hx)
    have hE : (a.length : Int) = b.length := by omega
    rw [htk]
    generalize rowL vs a b = R at *
    simp (disch := first | omega | (simp only [pvl]; omega)) only [↓pvd, pv0, pv1, pv2, pv3, pv4, pv5, pv6, pv7, pvc0, pvc1, pvc2, Pv.put, bin2, int2, binB2, un1, AV.flat, pvf, rvs_1, rvs_2, szOk, notStr, setCells, AV.one, resX, layC, layA, lay, List.map, List.replicate, List.length_replicate, pvq0, pvq1, seval, reduceCtorEq, hwl, hvl, hE, h]
    refine awR_callR (ms := []) q (by simp (disch := first | omega | (simp only [pvl]; omega)) only [↓pvd, pv0, pv1, pv2, pv3, pv4, pv5, pv6, pv7, pvc0, pvc1, pvc2, Pv.put, bin2, int2, binB2, un1, AV.flat, pvf, rvs_1, rvs_2, szOk, notStr, setCells, AV.one, resX, layC, layA, lay, List.map, List.replicate, List.length_replicate, pvq0, pvq1, seval, reduceCtorEq, hmo, hro, hrl, h]; rfl) (by simp (disch := first | omega | (simp only [pvl]; omega)) only [↓pvd, pv0, pv1, pv2, pv3, pv4, pv5, pv6, pv7, pvc0, pvc1, pvc2, Pv.put, bin2, int2, binB2, un1, AV.flat, pvf, rvs_1, rvs_2, szOk, notStr, setCells, AV.one, resX, layC, layA, lay, List.map, List.replicate, List.length_replicate, pvq0, pvq1, seval, reduceCtorEq, hmo, hro, hrl, h]) rfl ?_
    simp (disch := first | omega | (simp only [pvl]; omega)) only [↓pvd, pv0, pv1, pv2, pv3, pv4, pv5, pv6, pv7, pvc0, pvc1, pvc2, Pv.put, bin2, int2, binB2, un1, AV.flat, pvf, rvs_1, rvs_2, szOk, notStr, setCells, AV.one, resX, layC, layA, lay, List.map, List.replicate, List.length_replicate, pvq0, pvq1, seval, reduceCtorEq, true_and]
    (refine Ends_rq [] ?_; simp (disch := first | omega | (simp only [pvl]; omega)) only [↓pvd, pv0, pv1, pv2, pv3, pv4, pv5, pv6, pv7, pvc0, pvc1, pvc2, Pv.put, bin2, int2, binB2, un1, AV.flat, pvf, rvs_1, rvs_2, szOk, notStr, setCells, AV.one, resX, layC, layA, lay, List.map, List.replicate, List.length_replicate, pvq0, pvq1, seval, reduceCtorEq]; exact ⟨_, rfl, rfl, rfl⟩)
end Go.Proofs

set_option linter.unusedSimpArgs false
set_option linter.unusedVariables false
set_option maxHeartbeats 2000000
set_option maxRecDepth 20000
namespace Go.Proofs
open Go.Pv
open Nm (spl swV okW okB swF enO wsF finF swV_ws)
/-- What rows are, that stand behind i others. -/
noncomputable def rdR : Nat → List (List UInt8) → (Int × Int) ⊕ List LnF
  | _, [] => .inr []
  | i, r :: rs => if (swV r).all okW = true then
      if swV r = [] then rdR (i + 1) rs
      else if rdE (swV r) = 0 then match rdR (i + 1) rs with
        | .inl x => .inl x
        | .inr l => .inr (rdL (swV r) ((i : Int) + 1) :: l)
      else .inl ((i : Int) + 1, rdE (swV r))
    else .inl ((i : Int) + 1, 20)
end Go.Proofs

set_option linter.unusedSimpArgs false
set_option linter.unusedVariables false
set_option maxHeartbeats 2000000
set_option maxRecDepth 20000
namespace Go.Proofs
open Go.Pv
theorem list_ints' {k : IntKind} : ∀ (es : List AV), (∀ x ∈ es, ∃ n : Int, x = .int k n ∧ (Lit.int k n).wf = true) → ∃ l : List Int, es = l.map (.int k) ∧ ∀ n ∈ l, (Lit.int k n).wf = true
  | [], _ => ⟨[], rfl, by simp⟩
  | x :: es, h => by
    obtain ⟨n, rfl, hn⟩ := h x (by simp)
    obtain ⟨l, rfl, hl⟩ := list_ints' es fun y hy => h y (by simp [hy])
    exact ⟨n :: l, rfl, fun m hm => by
      rcases List.mem_cons.1 hm with rfl | hm
      · exact hn
      · exact hl m hm⟩
theorem dat1_ints {d : Nat} {xs : List AV} (h : Dat Tryd.prog (d + 2) 32 xs) : ∃ l : List Int, xs = [.sl 1 (l.map (.int .i64)) false] ∧ l.length ≤ maxLen := by
  obtain ⟨es, rfl, hl, hd⟩ := dat1_slice Tryd.underlying32 h
  obtain ⟨l, rfl, _⟩ := list_ints' es (fun x hx => dat_int Tryd.underlying3 (hd x hx))
  rw [show Tryd.prog.cellsOf 3 = 1 by kernel_rfl]
  exact ⟨l, rfl, by simpa using hl⟩
theorem dat1_u32s {d : Nat} {xs : List AV} (h : Dat Tryd.prog (d + 2) 33 xs) : ∃ l : List Int, xs = [.sl 1 (l.map (.int .u32)) false] ∧ l.length ≤ maxLen := by
  obtain ⟨es, rfl, hl, hd⟩ := dat1_slice Tryd.underlying33 h
  obtain ⟨l, rfl, _⟩ := list_ints' es (fun x hx => dat_int Tryd.underlying31 (hd x hx))
  rw [show Tryd.prog.cellsOf 31 = 1 by kernel_rfl]
  exact ⟨l, rfl, by simpa using hl⟩
/-- A line's texts and lists are no longer than can be. -/
def lnM (x : LnF) : Prop := x.l.dev.length ≤ maxLen ∧ x.l.port.length ≤ maxLen ∧ x.l.peer.length ≤ maxLen ∧ x.l.far.length ≤ maxLen ∧ x.l.name.length ≤ maxLen ∧ x.t.length ≤ maxLen ∧ x.im.length ≤ maxLen ∧ x.ex.length ≤ maxLen ∧ x.ad.length ≤ maxLen
set_option maxHeartbeats 4000000 in
theorem dat_line {y : AV} (h : DatV Tryd.prog 5 35 y) : ∃ x : LnF, isLn y x ∧ lnM x := by
  obtain ⟨cs, rfl, hl, hf⟩ := dat_struct Tryd.underlying35 h
  rw [show Tryd.prog.cellsOf 35 = 17 by kernel_rfl] at hl
  have c3 : Tryd.prog.cellsOf 3 = 1 := by kernel_rfl
  have c9 : Tryd.prog.cellsOf 9 = 1 := by kernel_rfl
  have c30 : Tryd.prog.cellsOf 30 = 1 := by kernel_rfl
  have c31 : Tryd.prog.cellsOf 31 = 1 := by kernel_rfl
  have c32 : Tryd.prog.cellsOf 32 = 1 := by kernel_rfl
  have c33 : Tryd.prog.cellsOf 33 = 1 := by kernel_rfl
  match cs, hl with
  | [x0, x1, x2, x3, x4, x5, x6, x7, x8, x9, x10, x11, x12, x13, x14, x15, x16], _ =>
    simp only [List.mem_cons, List.not_mem_nil, or_false, forall_eq_or_imp, forall_eq] at hf
    obtain ⟨g0, g1, g2, g3, g4, g5, g6, g7, g8, g9, g10, g11, g12, g13, g14, g15, g16⟩ := hf
    rw [c3] at g0
    obtain ⟨m0, e0, w0⟩ := dat1_int Tryd.underlying3 g0
    rw [c3] at g1
    obtain ⟨m1, e1, w1⟩ := dat1_int Tryd.underlying3 g1
    rw [c9] at g2
    obtain ⟨m2, e2, w2⟩ := dat1_str Tryd.underlying9 g2
    rw [c9] at g3
    obtain ⟨m3, e3, w3⟩ := dat1_str Tryd.underlying9 g3
    rw [c9] at g4
    obtain ⟨m4, e4, w4⟩ := dat1_str Tryd.underlying9 g4
    rw [c9] at g5
    obtain ⟨m5, e5, w5⟩ := dat1_str Tryd.underlying9 g5
    rw [c9] at g6
    obtain ⟨m6, e6, w6⟩ := dat1_str Tryd.underlying9 g6
    rw [c30] at g7
    obtain ⟨m7, e7, w7⟩ := dat1_int Tryd.underlying30 g7
    rw [c31] at g8
    obtain ⟨m8, e8, w8⟩ := dat1_int Tryd.underlying31 g8
    rw [c3] at g9
    obtain ⟨m9, e9, w9⟩ := dat1_int Tryd.underlying3 g9
    rw [c3] at g10
    obtain ⟨m10, e10, w10⟩ := dat1_int Tryd.underlying3 g10
    rw [c3] at g11
    obtain ⟨m11, e11, w11⟩ := dat1_int Tryd.underlying3 g11
    rw [c3] at g12
    obtain ⟨m12, e12, w12⟩ := dat1_int Tryd.underlying3 g12
    rw [c32] at g13
    obtain ⟨m13, e13, w13⟩ := dat1_ints g13
    rw [c32] at g14
    obtain ⟨m14, e14, w14⟩ := dat1_ints g14
    rw [c32] at g15
    obtain ⟨m15, e15, w15⟩ := dat1_ints g15
    rw [c33] at g16
    obtain ⟨m16, e16, w16⟩ := dat1_u32s g16
    simp at e0 e1 e2 e3 e4 e5 e6 e7 e8 e9 e10 e11 e12 e13 e14 e15 e16
    subst e0 e1 e2 e3 e4 e5 e6 e7 e8 e9 e10 e11 e12 e13 e14 e15 e16
    exact ⟨⟨⟨m0, m1, m2, m3, m4, m5, m6, m7, m8, m9, m10, m11, m12⟩, m13, m14, m15, m16⟩, ⟨1, false, 1, false, 1, false, 1, false, rfl, .inr rfl, .inr rfl, .inr rfl, .inr rfl⟩, w2, w3, w4, w5, w6, w13, w14, w15, w16⟩
theorem list_lines : ∀ (es : List AV), (∀ x ∈ es, DatV Tryd.prog 5 35 x) → ∃ a : List LnF, areLn es a ∧ ∀ x ∈ a, lnM x
  | [], _ => ⟨[], ⟨rfl, fun i v x hv => by simp at hv⟩, by simp⟩
  | v :: es, h => by
    obtain ⟨x, hx, hm⟩ := dat_line (h v (by simp))
    obtain ⟨a, ha, hms⟩ := list_lines es fun y hy => h y (by simp [hy])
    refine ⟨x :: a, ⟨by simp [ha.1], fun i w y hw hy => ?_⟩, fun y hy => ?_⟩
    · cases i with
      | zero => simp at hw hy; subst hw hy; exact hx
      | succ i => exact ha.2 i w y (by simpa using hw) (by simpa using hy)
    · rcases List.mem_cons.1 hy with rfl | hy
      · exact hm
      · exact hms y hy
/-- How long a line's texts and lists are. -/
def lens9 (x : LnF) : List Int := [x.l.dev.length, x.l.port.length, x.l.peer.length, x.l.far.length, x.l.name.length, x.t.length, x.im.length, x.ex.length, x.ad.length]
def lnG (x : LnF) : Bool := (lens9 x).any fun k => decide (300 < k)
def sumG (a : List LnF) : Int := (a.map fun x => (lens9 x).sum).sum
def grX (a : List LnF) : Bool := decide (400 < a.length) || (a.any lnG || decide (10000 < sumG a))
theorem sumG_snoc {a : List LnF} {k : Nat} (h : k < a.length) : sumG (a.take (k + 1)) = sumG (a.take k) + (lens9 a[k]!).sum := by
  rw [take_snoc h]
  simp [sumG]
theorem lens_b (x : LnF) : ∀ k ∈ lens9 x, 0 ≤ k := by
  intro k hk
  simp only [lens9, List.mem_cons, List.not_mem_nil, or_false] at hk
  rcases hk with rfl | rfl | rfl | rfl | rfl | rfl | rfl | rfl | rfl <;> omega
set_option maxHeartbeats 16000000 in
theorem great12_run {vs : List AV} {a : List LnF} (f : Bool) (hv : areLn vs a) (hM : ∀ x ∈ a, lnM x) (hl : (a.length : Int) ≤ 9223372036854775807) : Run Tryd.prog 8 [.sl 17 vs f] (.bool (grX a)) := by
  refine Tryd.run8 (by simp) ?_
  unfold Tryd.c8 grX
  have hvl := hv.1
  by_cases h4 : 400 < a.length
  · rw [decide_eq_true h4, Bool.true_or]
    simp (disch := first | omega | (simp only [pvl]; omega)) only [↓pvd, pv0, pv1, pv2, pv3, pv4, pv5, pv6, pv7, pvc0, pvc1, pvc2, Pv.put, bin2, int2, binB2, un1, AV.flat, pvf, rvs_1, rvs_2, szOk, notStr, setCells, AV.one, resX, layC, layA, lay, List.map, List.replicate, List.length_replicate, pvq0, pvq1, seval, reduceCtorEq, hvl, h4]
    (refine Ends_rq [] ?_; simp (disch := first | omega | (simp only [pvl]; omega)) only [↓pvd, pv0, pv1, pv2, pv3, pv4, pv5, pv6, pv7, pvc0, pvc1, pvc2, Pv.put, bin2, int2, binB2, un1, AV.flat, pvf, rvs_1, rvs_2, szOk, notStr, setCells, AV.one, resX, layC, layA, lay, List.map, List.replicate, List.length_replicate, pvq0, pvq1, seval, reduceCtorEq]; exact ⟨_, rfl, rfl, rfl⟩)
  rw [decide_eq_false h4, Bool.false_or]
  simp (disch := first | omega | (simp only [pvl]; omega)) only [↓pvd, pv0, pv1, pv2, pv3, pv4, pv5, pv6, pv7, pvc0, pvc1, pvc2, Pv.put, bin2, int2, binB2, un1, AV.flat, pvf, rvs_1, rvs_2, szOk, notStr, setCells, AV.one, resX, layC, layA, lay, List.map, List.replicate, List.length_replicate, pvq0, pvq1, seval, reduceCtorEq, hvl, h4]
  refine aw_loop (fun k : Nat => ⟨[(0, .sl 17 vs f), (3, .int .i64 (sumG (a.take k))), (4, .int .i64 k)], []⟩) (fun k => k ≤ a.length ∧ (∀ x ∈ a.take k, lnG x = false) ∧ 0 ≤ sumG (a.take k) ∧ sumG (a.take k) ≤ 2700 * k) (fun k => a.length - k) 0 ?_ ⟨by omega, by simp, by simp [sumG], by simp [sumG]⟩ ?_
  · simp (disch := first | omega | (simp only [pvl]; omega)) only [↓pvd, pv0, pv1, pv2, pv3, pv4, pv5, pv6, pv7, pvc0, pvc1, pvc2, Pv.put, bin2, int2, binB2, un1, AV.flat, pvf, rvs_1, rvs_2, szOk, notStr, setCells, AV.one, resX, layC, layA, lay, List.map, List.replicate, List.length_replicate, pvq0, pvq1, seval, reduceCtorEq, hvl]
    rfl
  rintro k ⟨hk, hp, hs0, hs1⟩
  unfold Tryd.c8b1
  by_cases hx : k < a.length
  · obtain ⟨v, hg1, i1⟩ := areLn_at hv hx
    have hsn := sumG_snoc hx
    have hMx := hM a[k]! (get_mem hx)
    have hnx : lnG a[k]! = false → ∀ x ∈ a.take (k + 1), lnG x = false := fun h x hx' => by
      rw [take_snoc hx] at hx'
      rcases List.mem_append.1 hx' with h' | h'
      · exact hp x h'
      · rw [List.mem_singleton.1 h']; exact h
    have hbad : lnG a[k]! = true → (a.any lnG || decide (10000 < sumG a)) = true := fun h => by
      rw [show a.any lnG = true from List.any_eq_true.2 ⟨a[k]!, get_mem hx, h⟩]
      rfl
    generalize a[k]! = x at *
    generalize hNg : sumG (a.take k) = N at *
    obtain ⟨n1, f1, n2, f2, n3, f3, n4, f4, rfl, -⟩ := i1
    unfold lnA at hg1
    have hL : lens9 x = [(x.l.dev.length : Int), x.l.port.length, x.l.peer.length, x.l.far.length, x.l.name.length, x.t.length, x.im.length, x.ex.length, x.ad.length] := rfl
    have hlb := lens_b x
    have hgx : lnG x = (lens9 x).any fun k => decide (300 < k) := rfl
    have ht : (x.t.map (AV.int .i64)).length = x.t.length := by simp
    have hi : (x.im.map (AV.int .i64)).length = x.im.length := by simp
    have he : (x.ex.map (AV.int .i64)).length = x.ex.length := by simp
    have hd : (x.ad.map (AV.int .u32)).length = x.ad.length := by simp
    obtain ⟨d1, d2, d3, d4, d5, d6, d7, d8, d9⟩ := hMx
    simp only [maxLen] at d1 d2 d3 d4 d5 d6 d7 d8 d9
    generalize x.t.map (AV.int .i64) = s1 at *
    generalize x.im.map (AV.int .i64) = s2 at *
    generalize x.ex.map (AV.int .i64) = s3 at *
    generalize x.ad.map (AV.int .u32) = s4 at *
    simp (disch := first | omega | (simp only [pvl]; omega)) only [↓pvd, pv0, pv1, pv2, pv3, pv4, pv5, pv6, pv7, pvc0, pvc1, pvc2, Pv.put, bin2, int2, binB2, un1, AV.flat, pvf, rvs_1, rvs_2, szOk, notStr, setCells, AV.one, resX, layC, layA, lay, List.map, List.replicate, List.length_replicate, pvq0, pvq1, seval, reduceCtorEq, hg1, hvl, ht, hi, he, hd]
    have hrw : [AV.int .i64 (x.l.dev.length : Int), .int .i64 x.l.port.length, .int .i64 x.l.peer.length, .int .i64 x.l.far.length, .int .i64 x.l.name.length, .int .i64 x.t.length, .int .i64 x.im.length, .int .i64 x.ex.length, .int .i64 x.ad.length] = (lens9 x).map (.int .i64) := rfl
    have hL9 : (lens9 x).length = 9 := rfl
    generalize lens9 x = L at *
    refine aw_loop (fun j : Nat => ⟨[(0, .sl 17 vs f), (3, .int .i64 (N + (L.take j).sum)), (4, .int .i64 k), (70, .vec 0 1 0 9), (71, .int .i64 9), (72, .int .i64 j)], [some ⟨3, L.map (.int .i64), true⟩]⟩) (fun j => j ≤ 9 ∧ (∀ m ∈ L.take j, m ≤ 300) ∧ 0 ≤ (L.take j).sum ∧ (L.take j).sum ≤ 300 * j) (fun j => 9 - j) 0 ?_ ⟨by omega, by simp, by simp, by simp⟩ ?_
    · simp (disch := first | omega | (simp only [pvl]; omega)) only [↓pvd, pv0, pv1, pv2, pv3, pv4, pv5, pv6, pv7, pvc0, pvc1, pvc2, Pv.put, bin2, int2, binB2, un1, AV.flat, pvf, rvs_1, rvs_2, szOk, notStr, setCells, AV.one, resX, layC, layA, lay, List.map, List.replicate, List.length_replicate, pvq0, pvq1, seval, reduceCtorEq, hrw, ids_map (int_pl .i64), ren_map (int_pl .i64)]
      try simp
    rintro j ⟨hj, hjp, hj0, hj1⟩
    unfold Tryd.c8b0
    by_cases hjx : j < 9
    · have hgj : (L.map (AV.int .i64))[j]? = some (.int .i64 L[j]!) := map_get (by omega)
      have hsj : (L.take (j + 1)).sum = (L.take j).sum + L[j]! := by rw [take_snoc (by omega)]; simp
      have hL0 := hlb L[j]! (get_mem (by omega))
      have hjn : L[j]! ≤ 300 → ∀ m ∈ L.take (j + 1), m ≤ 300 := fun h m hm => by
        rw [take_snoc (by omega)] at hm
        rcases List.mem_append.1 hm with h' | h'
        · exact hjp m h'
        · rw [List.mem_singleton.1 h']; exact h
      by_cases h3 : L[j]! ≤ 300
      · generalize (L.take j).sum = S at *
        generalize L[j]! = c at *
        simp (disch := first | omega | (simp only [pvl]; omega)) only [↓pvd, pv0, pv1, pv2, pv3, pv4, pv5, pv6, pv7, pvc0, pvc1, pvc2, Pv.put, bin2, int2, binB2, un1, AV.flat, pvf, rvs_1, rvs_2, szOk, notStr, setCells, AV.one, resX, layC, layA, lay, List.map, List.replicate, List.length_replicate, pvq0, pvq1, seval, reduceCtorEq, hgj, ids_map (int_pl .i64), ren_map (int_pl .i64), List.length_map]
        exact ⟨j + 1, by rw [hsj]; simp; omega, ⟨by omega, hjn h3, by omega, by omega⟩, by omega⟩
      · have hb : lnG x = true := by
          rw [hgx]
          exact List.any_eq_true.2 ⟨L[j]!, get_mem (by omega), decide_eq_true (by omega)⟩
        rw [hbad hb]
        generalize (L.take j).sum = S at *
        generalize L[j]! = c at *
        simp (disch := first | omega | (simp only [pvl]; omega)) only [↓pvd, pv0, pv1, pv2, pv3, pv4, pv5, pv6, pv7, pvc0, pvc1, pvc2, Pv.put, bin2, int2, binB2, un1, AV.flat, pvf, rvs_1, rvs_2, szOk, notStr, setCells, AV.one, resX, layC, layA, lay, List.map, List.replicate, List.length_replicate, pvq0, pvq1, seval, reduceCtorEq, hgj, List.length_map]
        (refine Ends_rq [] ?_; simp (disch := first | omega | (simp only [pvl]; omega)) only [↓pvd, pv0, pv1, pv2, pv3, pv4, pv5, pv6, pv7, pvc0, pvc1, pvc2, Pv.put, bin2, int2, binB2, un1, AV.flat, pvf, rvs_1, rvs_2, szOk, notStr, setCells, AV.one, resX, layC, layA, lay, List.map, List.replicate, List.length_replicate, pvq0, pvq1, seval, reduceCtorEq]; exact ⟨_, rfl, rfl, rfl⟩)
    · obtain rfl : j = 9 := by omega
      have hLt : L.take 9 = L := List.take_of_length_le (by omega)
      rw [hLt] at hjp hj0 hj1 ⊢
      have hok : lnG x = false := by
        rw [hgx, List.any_eq_false]
        intro m hm
        have := hjp m hm
        simpa using this
      generalize L.sum = S at *
      simp (disch := first | omega | (simp only [pvl]; omega)) only [↓pvd, pv0, pv1, pv2, pv3, pv4, pv5, pv6, pv7, pvc0, pvc1, pvc2, Pv.put, bin2, int2, binB2, un1, AV.flat, pvf, rvs_1, rvs_2, szOk, notStr, setCells, AV.one, resX, layC, layA, lay, List.map, List.replicate, List.length_replicate, pvq0, pvq1, seval, reduceCtorEq, true_and]
      exact ⟨k + 1, by rw [hsn]; rfl, ⟨by omega, hnx hok, by omega, by omega⟩, by omega⟩
  · have hta : a.take k = a := List.take_of_length_le (by omega)
    rw [hta] at hp ⊢
    rw [show a.any lnG = false from by
      rw [List.any_eq_false]
      intro x hx
      rw [hp x hx]
      decide]
    rw [Bool.false_or]
    simp (disch := first | omega | (simp only [pvl]; omega)) only [↓pvd, pv0, pv1, pv2, pv3, pv4, pv5, pv6, pv7, pvc0, pvc1, pvc2, Pv.put, bin2, int2, binB2, un1, AV.flat, pvf, rvs_1, rvs_2, szOk, notStr, setCells, AV.one, resX, layC, layA, lay, List.map, List.replicate, List.length_replicate, pvq0, pvq1, seval, reduceCtorEq, hvl]
    (refine Ends_rq [] ?_; simp (disch := first | omega | (simp only [pvl]; omega)) only [↓pvd, pv0, pv1, pv2, pv3, pv4, pv5, pv6, pv7, pvc0, pvc1, pvc2, Pv.put, bin2, int2, binB2, un1, AV.flat, pvf, rvs_1, rvs_2, szOk, notStr, setCells, AV.one, resX, layC, layA, lay, List.map, List.replicate, List.length_replicate, pvq0, pvq1, seval, reduceCtorEq]; exact ⟨_, rfl, rfl, rfl⟩)
set_option maxHeartbeats 8000000 in
theorem textSames_run {vs ws : List AV} {a b : List LnF} (hv : areLn vs a) (hw : areLn ws b) (ha : ∀ x ∈ a, lnM x) (hb : ∀ x ∈ b, lnM x) (hla : a.length ≤ maxLen) (hlb : b.length ≤ maxLen) :
    Run Tryd.prog 3 [.sl 17 vs false, .sl 17 ws false] (.bool true) := by
  have q0 := works12
  have hla2 : (a.length : Int) ≤ 9223372036854775807 := by simp only [maxLen] at hla; omega
  have hlb2 : (b.length : Int) ≤ 9223372036854775807 := by simp only [maxLen] at hlb; omega
  have q1 := great12_run false hv ha hla2
  have q2 := great12_run false hw hb hlb2
  refine Tryd.run3 (by simp) ?_
  unfold Tryd.c3
  by_cases hg1 : grX a = true
  · rw [hg1] at q1
    simp (disch := first | omega | (simp only [pvl]; omega)) only [↓pvd, pv0, pv1, pv2, pv3, pv4, pv5, pv6, pv7, pvc0, pvc1, pvc2, Pv.put, bin2, int2, binB2, un1, AV.flat, pvf, rvs_1, rvs_2, szOk, notStr, setCells, AV.one, resX, layC, layA, lay, List.map, List.replicate, List.length_replicate, pvq0, pvq1, seval, reduceCtorEq, true_and]
    refine awR_call q1 rfl rfl ?_
    simp (disch := first | omega | (simp only [pvl]; omega)) only [↓pvd, pv0, pv1, pv2, pv3, pv4, pv5, pv6, pv7, pvc0, pvc1, pvc2, Pv.put, bin2, int2, binB2, un1, AV.flat, pvf, rvs_1, rvs_2, szOk, notStr, setCells, AV.one, resX, layC, layA, lay, List.map, List.replicate, List.length_replicate, pvq0, pvq1, seval, reduceCtorEq, true_and]
    refine awR_call q0 rfl rfl ?_
    simp (disch := first | omega | (simp only [pvl]; omega)) only [↓pvd, pv0, pv1, pv2, pv3, pv4, pv5, pv6, pv7, pvc0, pvc1, pvc2, Pv.put, bin2, int2, binB2, un1, AV.flat, pvf, rvs_1, rvs_2, szOk, notStr, setCells, AV.one, resX, layC, layA, lay, List.map, List.replicate, List.length_replicate, pvq0, pvq1, seval, reduceCtorEq, true_and]
    (refine Ends_rq [] ?_; simp (disch := first | omega | (simp only [pvl]; omega)) only [↓pvd, pv0, pv1, pv2, pv3, pv4, pv5, pv6, pv7, pvc0, pvc1, pvc2, Pv.put, bin2, int2, binB2, un1, AV.flat, pvf, rvs_1, rvs_2, szOk, notStr, setCells, AV.one, resX, layC, layA, lay, List.map, List.replicate, List.length_replicate, pvq0, pvq1, seval, reduceCtorEq]; exact ⟨_, rfl, rfl, rfl⟩)
  have hg1' : grX a = false := by simpa using hg1
  rw [hg1'] at q1
  by_cases hg2 : grX b = true
  · rw [hg2] at q2
    simp (disch := first | omega | (simp only [pvl]; omega)) only [↓pvd, pv0, pv1, pv2, pv3, pv4, pv5, pv6, pv7, pvc0, pvc1, pvc2, Pv.put, bin2, int2, binB2, un1, AV.flat, pvf, rvs_1, rvs_2, szOk, notStr, setCells, AV.one, resX, layC, layA, lay, List.map, List.replicate, List.length_replicate, pvq0, pvq1, seval, reduceCtorEq, true_and]
    refine awR_call q1 rfl rfl ?_
    simp (disch := first | omega | (simp only [pvl]; omega)) only [↓pvd, pv0, pv1, pv2, pv3, pv4, pv5, pv6, pv7, pvc0, pvc1, pvc2, Pv.put, bin2, int2, binB2, un1, AV.flat, pvf, rvs_1, rvs_2, szOk, notStr, setCells, AV.one, resX, layC, layA, lay, List.map, List.replicate, List.length_replicate, pvq0, pvq1, seval, reduceCtorEq, true_and]
    refine awR_call q2 rfl rfl ?_
    simp (disch := first | omega | (simp only [pvl]; omega)) only [↓pvd, pv0, pv1, pv2, pv3, pv4, pv5, pv6, pv7, pvc0, pvc1, pvc2, Pv.put, bin2, int2, binB2, un1, AV.flat, pvf, rvs_1, rvs_2, szOk, notStr, setCells, AV.one, resX, layC, layA, lay, List.map, List.replicate, List.length_replicate, pvq0, pvq1, seval, reduceCtorEq, true_and]
    refine awR_call q0 rfl rfl ?_
    simp (disch := first | omega | (simp only [pvl]; omega)) only [↓pvd, pv0, pv1, pv2, pv3, pv4, pv5, pv6, pv7, pvc0, pvc1, pvc2, Pv.put, bin2, int2, binB2, un1, AV.flat, pvf, rvs_1, rvs_2, szOk, notStr, setCells, AV.one, resX, layC, layA, lay, List.map, List.replicate, List.length_replicate, pvq0, pvq1, seval, reduceCtorEq, true_and]
    (refine Ends_rq [] ?_; simp (disch := first | omega | (simp only [pvl]; omega)) only [↓pvd, pv0, pv1, pv2, pv3, pv4, pv5, pv6, pv7, pvc0, pvc1, pvc2, Pv.put, bin2, int2, binB2, un1, AV.flat, pvf, rvs_1, rvs_2, szOk, notStr, setCells, AV.one, resX, layC, layA, lay, List.map, List.replicate, List.length_replicate, pvq0, pvq1, seval, reduceCtorEq]; exact ⟨_, rfl, rfl, rfl⟩)
  have hg2' : grX b = false := by simpa using hg2
  rw [hg2'] at q2
  have h4 : ∀ c : List LnF, grX c = false → c.length ≤ 400 ∧ ∀ x ∈ c, lnS x := fun c h => by
    unfold grX at h
    simp only [Bool.or_eq_false_iff, decide_eq_false_iff_not] at h
    refine ⟨by omega, fun x hx => ?_⟩
    have h5 := List.any_eq_false.1 h.2.1 x hx
    unfold lnG at h5
    simp only [Bool.not_eq_true, List.any_eq_false, decide_eq_true_eq] at h5
    have g1 := h5 x.t.length (by simp [lens9])
    have g2 := h5 x.im.length (by simp [lens9])
    have g3 := h5 x.ex.length (by simp [lens9])
    have g4 := h5 x.ad.length (by simp [lens9])
    exact ⟨by omega, by omega, by omega, by omega⟩
  obtain ⟨ka, sa⟩ := h4 a hg1'
  obtain ⟨kb, sb⟩ := h4 b hg2'
  have q3 := tsame_run 17 17 false false (.inr rfl) (.inr rfl) hv hw sa sb (by omega) (by omega)
  have q4 := rtsame_run 17 17 false false (.inr rfl) (.inr rfl) hv hw sa sb (by omega) (by omega)
  have q5 := tsame_run 17 17 false false (.inr rfl) (.inr rfl) hv hv sa sa (by omega) (by omega)
  rw [decide_eq_true rfl] at q5
  generalize decide (a.map nr = b.map nr) = E at *
  simp (disch := first | omega | (simp only [pvl]; omega)) only [↓pvd, pv0, pv1, pv2, pv3, pv4, pv5, pv6, pv7, pvc0, pvc1, pvc2, Pv.put, bin2, int2, binB2, un1, AV.flat, pvf, rvs_1, rvs_2, szOk, notStr, setCells, AV.one, resX, layC, layA, lay, List.map, List.replicate, List.length_replicate, pvq0, pvq1, seval, reduceCtorEq, true_and]
  refine awR_call q1 rfl rfl ?_
  simp (disch := first | omega | (simp only [pvl]; omega)) only [↓pvd, pv0, pv1, pv2, pv3, pv4, pv5, pv6, pv7, pvc0, pvc1, pvc2, Pv.put, bin2, int2, binB2, un1, AV.flat, pvf, rvs_1, rvs_2, szOk, notStr, setCells, AV.one, resX, layC, layA, lay, List.map, List.replicate, List.length_replicate, pvq0, pvq1, seval, reduceCtorEq, true_and]
  refine awR_call q2 rfl rfl ?_
  simp (disch := first | omega | (simp only [pvl]; omega)) only [↓pvd, pv0, pv1, pv2, pv3, pv4, pv5, pv6, pv7, pvc0, pvc1, pvc2, Pv.put, bin2, int2, binB2, un1, AV.flat, pvf, rvs_1, rvs_2, szOk, notStr, setCells, AV.one, resX, layC, layA, lay, List.map, List.replicate, List.length_replicate, pvq0, pvq1, seval, reduceCtorEq, true_and]
  refine awR_call q3 rfl rfl ?_
  simp (disch := first | omega | (simp only [pvl]; omega)) only [↓pvd, pv0, pv1, pv2, pv3, pv4, pv5, pv6, pv7, pvc0, pvc1, pvc2, Pv.put, bin2, int2, binB2, un1, AV.flat, pvf, rvs_1, rvs_2, szOk, notStr, setCells, AV.one, resX, layC, layA, lay, List.map, List.replicate, List.length_replicate, pvq0, pvq1, seval, reduceCtorEq, true_and]
  refine awR_call q4 rfl rfl ?_
  simp (disch := first | omega | (simp only [pvl]; omega)) only [↓pvd, pv0, pv1, pv2, pv3, pv4, pv5, pv6, pv7, pvc0, pvc1, pvc2, Pv.put, bin2, int2, binB2, un1, AV.flat, pvf, rvs_1, rvs_2, szOk, notStr, setCells, AV.one, resX, layC, layA, lay, List.map, List.replicate, List.length_replicate, pvq0, pvq1, seval, reduceCtorEq, true_and]
  refine awR_call q5 rfl rfl ?_
  simp (disch := first | omega | (simp only [pvl]; omega)) only [↓pvd, pv0, pv1, pv2, pv3, pv4, pv5, pv6, pv7, pvc0, pvc1, pvc2, Pv.put, bin2, int2, binB2, un1, AV.flat, pvf, rvs_1, rvs_2, szOk, notStr, setCells, AV.one, resX, layC, layA, lay, List.map, List.replicate, List.length_replicate, pvq0, pvq1, seval, reduceCtorEq, true_and]
  refine awR_call q0 rfl rfl ?_
  simp (disch := first | omega | (simp only [pvl]; omega)) only [↓pvd, pv0, pv1, pv2, pv3, pv4, pv5, pv6, pv7, pvc0, pvc1, pvc2, Pv.put, bin2, int2, binB2, un1, AV.flat, pvf, rvs_1, rvs_2, szOk, notStr, setCells, AV.one, resX, layC, layA, lay, List.map, List.replicate, List.length_replicate, pvq0, pvq1, seval, reduceCtorEq, true_and]
  (refine Ends_rq [] ?_; simp (disch := first | omega | (simp only [pvl]; omega)) only [↓pvd, pv0, pv1, pv2, pv3, pv4, pv5, pv6, pv7, pvc0, pvc1, pvc2, Pv.put, bin2, int2, binB2, un1, AV.flat, pvf, rvs_1, rvs_2, szOk, notStr, setCells, AV.one, resX, layC, layA, lay, List.map, List.replicate, List.length_replicate, pvq0, pvq1, seval, reduceCtorEq]; exact ⟨_, rfl, rfl, rfl⟩)
theorem textSames_all : ∀ xs, DatL Tryd.prog 6 Tryd.f3.params.toList xs → Run Tryd.prog 3 xs (.bool true) := by
  intro xs h
  rw [show Tryd.f3.params.toList = [22, 22] from rfl] at h
  obtain ⟨y1, y2, rfl, h1, h2⟩ := datL2 h
  obtain ⟨e1, rfl, hl1, hd1⟩ := dat_slice Tryd.underlying22 h1
  obtain ⟨e2, rfl, hl2, hd2⟩ := dat_slice Tryd.underlying22 h2
  obtain ⟨a, ha, hma⟩ := list_lines e1 hd1
  obtain ⟨b, hb, hmb⟩ := list_lines e2 hd2
  rw [show Tryd.prog.cellsOf 35 = 17 by kernel_rfl]
  exact textSames_run ha hb hma hmb (by rw [← ha.1]; exact hl1) (by rw [← hb.1]; exact hl2)
end Go.Proofs
