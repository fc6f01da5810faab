/- The proofs of what the functions of this seat do. -/
import Derived.Test.YtppdpcfmkmnfjaaGreatDoorPr10
import Derived.Lib.Space
import Derived.Shelf.Strings.Fields
import Derived.Stop.LaidErr
set_option linter.unusedSimpArgs false
set_option linter.unusedVariables false
set_option maxHeartbeats 2000000
set_option maxRecDepth 20000
namespace Go.Proofs
open Go.Pv
open Nm (spl swV okW okB strR words_run wordsR rows_big rows_run swF_len swF_num swF)
end Go.Proofs
namespace Go.Proofs
open Go.Pv
open Nm (spl swV okW okB swF enO)
instance : Inhabited LnF:=⟨lnfZ⟩
end Go.Proofs
namespace Go.Proofs
open Go.Pv
theorem requali_run (l m : List Int) (n n' : Nat) (f f' : Bool) (hn : l = [] ∨ n = 1) (hn' : m = [] ∨ n' = 1) (hl : (l.length : Int) < 9223372036854775807) (hm : (m.length : Int) < 9223372036854775807) :
  Run Tryz.prog 49 [.sl n (l.map (.int .i64)) f, .sl n' (m.map (.int .i64)) f'] (.bool (decide (l = m))):=by
 refine Tryz.run49 (by simp) ?_
 unfold Tryz.c49
 by_cases h : l.length = m.length
 case neg =>
  rw [decide_eq_false (fun e=>h (by rw [e]))]
  simp (disch:=first|omega|(simp only[pvl];omega)) only [↓pvd,pva,pvr,bin2,binB2,un1,setCells,List.map,seval,reduceCtorEq,List.length_map]
  (refine Ends_rq [] ?_; simp (disch:=first|omega|(simp only[pvl];omega)) only [↓pvd,pva,pvr,bin2,binB2,un1,setCells,List.map,seval,reduceCtorEq]; exact ⟨_,rfl,rfl,rfl⟩)
 simp (disch:=first|omega|(simp only[pvl];omega)) only [↓pvd,pva,pvr,bin2,binB2,un1,setCells,List.map,seval,reduceCtorEq,List.length_map]
 refine aw_loop (fun k : Nat=>⟨[(0, .sl n (l.map (.int .i64)) f), (1, .sl n' (m.map (.int .i64)) f'), (5, .int .i64 k)], []⟩) (fun k=>k ≤ l.length ∧ l.take k = m.take k) (fun k=>l.length - k) 0 ?_ ⟨by omega, by simp⟩ ?_
 ·simp (disch:=first|omega|(simp only[pvl];omega)) only [↓pvd,pva,pvr,bin2,binB2,un1,setCells,List.map,seval,reduceCtorEq,List.length_map]
  try rfl
 rintro k ⟨hk, hi⟩
 unfold Tryz.c49b0
 by_cases hx : k < l.length
 ·obtain rfl : n = 1:=hn.resolve_left (by rintro rfl; simp at hx)
  obtain rfl : n' = 1:=hn'.resolve_left (by rintro rfl; rw [List.length_nil] at h; omega)
  have hg1 : (l.map (AV.int .i64))[k]? = some (.int .i64 l[k]!):=map_get hx
  have hg2 : (m.map (AV.int .i64))[k]? = some (.int .i64 m[k]!):=map_get (by omega)
  by_cases e : l[k]! = m[k]!
  ·simp (disch:=first|omega|(simp only[pvl];omega)) only [↓pvd,pva,pvr,bin2,binB2,un1,setCells,List.map,seval,reduceCtorEq,hg1,hg2,List.length_map,e]
   exact ⟨k + 1, rfl, ⟨hx, take_next hi hx (by omega) e⟩, by omega⟩
  ·rw [decide_eq_false (take_ne hx (by omega) e)]
   simp (disch:=first|omega|(simp only[pvl];omega)) only [↓pvd,pva,pvr,bin2,binB2,un1,setCells,List.map,seval,reduceCtorEq,hg1,hg2,List.length_map,e]
   (refine Ends_rq [] ?_; simp (disch:=first|omega|(simp only[pvl];omega)) only [↓pvd,pva,pvr,bin2,binB2,un1,setCells,List.map,seval,reduceCtorEq]; exact ⟨_,rfl,rfl,rfl⟩)
 ·rw [decide_eq_true (take_full hi (by omega) (by omega))]
  simp (disch:=first|omega|(simp only[pvl];omega)) only [↓pvd,pva,pvr,bin2,binB2,un1,setCells,List.map,seval,reduceCtorEq,List.length_map]
  (refine Ends_rq [] ?_; simp (disch:=first|omega|(simp only[pvl];omega)) only [↓pvd,pva,pvr,bin2,binB2,un1,setCells,List.map,seval,reduceCtorEq]; exact ⟨_,rfl,rfl,rfl⟩)
theorem requalu_run (l m : List Int) (n n' : Nat) (f f' : Bool) (hn : l = [] ∨ n = 1) (hn' : m = [] ∨ n' = 1) (hl : (l.length : Int) < 9223372036854775807) (hm : (m.length : Int) < 9223372036854775807) :
  Run Tryz.prog 50 [.sl n (l.map (.int .u32)) f, .sl n' (m.map (.int .u32)) f'] (.bool (decide (l = m))):=by
 refine Tryz.run50 (by simp) ?_
 unfold Tryz.c50
 by_cases h : l.length = m.length
 case neg =>
  rw [decide_eq_false (fun e=>h (by rw [e]))]
  simp (disch:=first|omega|(simp only[pvl];omega)) only [↓pvd,pva,pvr,bin2,binB2,un1,setCells,List.map,seval,reduceCtorEq,List.length_map]
  (refine Ends_rq [] ?_; simp (disch:=first|omega|(simp only[pvl];omega)) only [↓pvd,pva,pvr,bin2,binB2,un1,setCells,List.map,seval,reduceCtorEq]; exact ⟨_,rfl,rfl,rfl⟩)
 simp (disch:=first|omega|(simp only[pvl];omega)) only [↓pvd,pva,pvr,bin2,binB2,un1,setCells,List.map,seval,reduceCtorEq,List.length_map]
 refine aw_loop (fun k : Nat=>⟨[(0, .sl n (l.map (.int .u32)) f), (1, .sl n' (m.map (.int .u32)) f'), (5, .int .i64 k)], []⟩) (fun k=>k ≤ l.length ∧ l.take k = m.take k) (fun k=>l.length - k) 0 ?_ ⟨by omega, by simp⟩ ?_
 ·simp (disch:=first|omega|(simp only[pvl];omega)) only [↓pvd,pva,pvr,bin2,binB2,un1,setCells,List.map,seval,reduceCtorEq,List.length_map]
  try rfl
 rintro k ⟨hk, hi⟩
 unfold Tryz.c50b0
 by_cases hx : k < l.length
 ·obtain rfl : n = 1:=hn.resolve_left (by rintro rfl; simp at hx)
  obtain rfl : n' = 1:=hn'.resolve_left (by rintro rfl; rw [List.length_nil] at h; omega)
  have hg1 : (l.map (AV.int .u32))[k]? = some (.int .u32 l[k]!):=map_get hx
  have hg2 : (m.map (AV.int .u32))[k]? = some (.int .u32 m[k]!):=map_get (by omega)
  by_cases e : l[k]! = m[k]!
  ·simp (disch:=first|omega|(simp only[pvl];omega)) only [↓pvd,pva,pvr,bin2,binB2,un1,setCells,List.map,seval,reduceCtorEq,hg1,hg2,List.length_map,e]
   exact ⟨k + 1, rfl, ⟨hx, take_next hi hx (by omega) e⟩, by omega⟩
  ·rw [decide_eq_false (take_ne hx (by omega) e)]
   simp (disch:=first|omega|(simp only[pvl];omega)) only [↓pvd,pva,pvr,bin2,binB2,un1,setCells,List.map,seval,reduceCtorEq,hg1,hg2,List.length_map,e]
   (refine Ends_rq [] ?_; simp (disch:=first|omega|(simp only[pvl];omega)) only [↓pvd,pva,pvr,bin2,binB2,un1,setCells,List.map,seval,reduceCtorEq]; exact ⟨_,rfl,rfl,rfl⟩)
 ·rw [decide_eq_true (take_full hi (by omega) (by omega))]
  simp (disch:=first|omega|(simp only[pvl];omega)) only [↓pvd,pva,pvr,bin2,binB2,un1,setCells,List.map,seval,reduceCtorEq,List.length_map]
  (refine Ends_rq [] ?_; simp (disch:=first|omega|(simp only[pvl];omega)) only [↓pvd,pva,pvr,bin2,binB2,un1,setCells,List.map,seval,reduceCtorEq]; exact ⟨_,rfl,rfl,rfl⟩)
set_option maxHeartbeats 16000000 in
theorem rsame_run {v v' : AV} {x y : LnF} (hv : isLn v x) (hv' : isLn v' y) (hx : lnS x) (hy : lnS y) : Run Tryz.prog 15 [v, v'] (.bool (decide (x = y))):=by
 obtain ⟨n1, f1, n2, f2, n3, f3, n4, f4, rfl, c1, c2, c3, c4⟩:=hv
 obtain ⟨m1, g1, m2, g2, m3, g3, m4, g4, rfl, d1, d2, d3, d4⟩:=hv'
 have q1:=requali_run x.t y.t n1 m1 f1 g1 c1 d1 hx.1 hy.1
 have q2:=requali_run x.im y.im n2 m2 f2 g2 c2 d2 hx.2.1 hy.2.1
 have q3:=requali_run x.ex y.ex n3 m3 f3 g3 c3 d3 hx.2.2.1 hy.2.2.1
 have q4:=requalu_run x.ad y.ad n4 m4 f4 g4 c4 d4 hx.2.2.2 hy.2.2.2
 obtain ⟨⟨r, k, a1, a2, a3, a4, a5, b1, b2, b3, b4, b5, b6⟩, t, im, ex, ad⟩:=x
 obtain ⟨⟨r', k', a1', a2', a3', a4', a5', b1', b2', b3', b4', b5', b6'⟩, t', im', ex', ad'⟩:=y
 simp only at q1 q2 q3 q4
 simp only [LnF.mk.injEq,Ln.mk.injEq]
 clear c1 c2 c3 c4 d1 d2 d3 d4 hx hy
 obtain ⟨B, hB⟩ : ∃ B, decide ((r = r' ∧ k = k' ∧ a1 = a1' ∧ a2 = a2' ∧ a3 = a3' ∧ a4 = a4' ∧ a5 = a5' ∧ b1 = b1' ∧ b2 = b2' ∧ b3 = b3' ∧ b4 = b4' ∧ b5 = b5' ∧ b6 = b6') ∧ t = t' ∧ im = im' ∧ ex = ex' ∧ ad = ad') = B:=⟨_, rfl⟩
 rw [show decide _ = B from hB]
 refine Tryz.run15 (by simp) ?_
 unfold Tryz.c15 lnA
 generalize t.map (AV.int .i64) = s1 at *
 generalize im.map (AV.int .i64) = s2 at *
 generalize ex.map (AV.int .i64) = s3 at *
 generalize ad.map (AV.int .u32) = s4 at *
 generalize t'.map (AV.int .i64) = s1' at *
 generalize im'.map (AV.int .i64) = s2' at *
 generalize ex'.map (AV.int .i64) = s3' at *
 generalize ad'.map (AV.int .u32) = s4' at *
 simp (disch:=first|omega|(simp only[pvl];omega)) only [↓pvd,pva,pvr,bin2,binB2,un1,setCells,List.map,seval,reduceCtorEq,true_and]
 by_cases e0 : r = r'
 case neg =>
  obtain rfl : B = false:=by rw [← hB]; exact decide_eq_false (fun h=>e0 h.1.1)
  have z : decide (r = r') = false:=decide_eq_false e0
  simp (disch:=first|omega|(simp only[pvl];omega)) only [↓pvd,pva,pvr,bin2,binB2,un1,setCells,List.map,seval,reduceCtorEq,z]
  (refine Ends_rq [] ?_; simp (disch:=first|omega|(simp only[pvl];omega)) only [↓pvd,pva,pvr,bin2,binB2,un1,setCells,List.map,seval,reduceCtorEq]; exact ⟨_,rfl,rfl,rfl⟩)
 subst e0
 simp (disch:=first|omega|(simp only[pvl];omega)) only [↓pvd,pva,pvr,bin2,binB2,un1,setCells,List.map,seval,reduceCtorEq,true_and]
 by_cases e1 : k = k'
 case neg =>
  obtain rfl : B = false:=by rw [← hB]; exact decide_eq_false (fun h=>e1 h.1.2.1)
  have z : decide (k = k') = false:=decide_eq_false e1
  simp (disch:=first|omega|(simp only[pvl];omega)) only [↓pvd,pva,pvr,bin2,binB2,un1,setCells,List.map,seval,reduceCtorEq,z]
  (refine Ends_rq [] ?_; simp (disch:=first|omega|(simp only[pvl];omega)) only [↓pvd,pva,pvr,bin2,binB2,un1,setCells,List.map,seval,reduceCtorEq]; exact ⟨_,rfl,rfl,rfl⟩)
 subst e1
 simp (disch:=first|omega|(simp only[pvl];omega)) only [↓pvd,pva,pvr,bin2,binB2,un1,setCells,List.map,seval,reduceCtorEq,true_and]
 by_cases e2 : a1 = a1'
 case neg =>
  obtain rfl : B = false:=by rw [← hB]; exact decide_eq_false (fun h=>e2 h.1.2.2.1)
  have z : decide (a1 = a1') = false:=decide_eq_false e2
  simp (disch:=first|omega|(simp only[pvl];omega)) only [↓pvd,pva,pvr,bin2,binB2,un1,setCells,List.map,seval,reduceCtorEq,z]
  (refine Ends_rq [] ?_; simp (disch:=first|omega|(simp only[pvl];omega)) only [↓pvd,pva,pvr,bin2,binB2,un1,setCells,List.map,seval,reduceCtorEq]; exact ⟨_,rfl,rfl,rfl⟩)
 subst e2
 simp (disch:=first|omega|(simp only[pvl];omega)) only [↓pvd,pva,pvr,bin2,binB2,un1,setCells,List.map,seval,reduceCtorEq,true_and]
 by_cases e3 : a2 = a2'
 case neg =>
  obtain rfl : B = false:=by rw [← hB]; exact decide_eq_false (fun h=>e3 h.1.2.2.2.1)
  have z : decide (a2 = a2') = false:=decide_eq_false e3
  simp (disch:=first|omega|(simp only[pvl];omega)) only [↓pvd,pva,pvr,bin2,binB2,un1,setCells,List.map,seval,reduceCtorEq,z]
  (refine Ends_rq [] ?_; simp (disch:=first|omega|(simp only[pvl];omega)) only [↓pvd,pva,pvr,bin2,binB2,un1,setCells,List.map,seval,reduceCtorEq]; exact ⟨_,rfl,rfl,rfl⟩)
 subst e3
 simp (disch:=first|omega|(simp only[pvl];omega)) only [↓pvd,pva,pvr,bin2,binB2,un1,setCells,List.map,seval,reduceCtorEq,true_and]
 by_cases e4 : a3 = a3'
 case neg =>
  obtain rfl : B = false:=by rw [← hB]; exact decide_eq_false (fun h=>e4 h.1.2.2.2.2.1)
  have z : decide (a3 = a3') = false:=decide_eq_false e4
  simp (disch:=first|omega|(simp only[pvl];omega)) only [↓pvd,pva,pvr,bin2,binB2,un1,setCells,List.map,seval,reduceCtorEq,z]
  (refine Ends_rq [] ?_; simp (disch:=first|omega|(simp only[pvl];omega)) only [↓pvd,pva,pvr,bin2,binB2,un1,setCells,List.map,seval,reduceCtorEq]; exact ⟨_,rfl,rfl,rfl⟩)
 subst e4
 simp (disch:=first|omega|(simp only[pvl];omega)) only [↓pvd,pva,pvr,bin2,binB2,un1,setCells,List.map,seval,reduceCtorEq,true_and]
 by_cases e5 : a4 = a4'
 case neg =>
  obtain rfl : B = false:=by rw [← hB]; exact decide_eq_false (fun h=>e5 h.1.2.2.2.2.2.1)
  have z : decide (a4 = a4') = false:=decide_eq_false e5
  simp (disch:=first|omega|(simp only[pvl];omega)) only [↓pvd,pva,pvr,bin2,binB2,un1,setCells,List.map,seval,reduceCtorEq,z]
  (refine Ends_rq [] ?_; simp (disch:=first|omega|(simp only[pvl];omega)) only [↓pvd,pva,pvr,bin2,binB2,un1,setCells,List.map,seval,reduceCtorEq]; exact ⟨_,rfl,rfl,rfl⟩)
 subst e5
 simp (disch:=first|omega|(simp only[pvl];omega)) only [↓pvd,pva,pvr,bin2,binB2,un1,setCells,List.map,seval,reduceCtorEq,true_and]
 by_cases e6 : a5 = a5'
 case neg =>
  obtain rfl : B = false:=by rw [← hB]; exact decide_eq_false (fun h=>e6 h.1.2.2.2.2.2.2.1)
  have z : decide (a5 = a5') = false:=decide_eq_false e6
  simp (disch:=first|omega|(simp only[pvl];omega)) only [↓pvd,pva,pvr,bin2,binB2,un1,setCells,List.map,seval,reduceCtorEq,z]
  (refine Ends_rq [] ?_; simp (disch:=first|omega|(simp only[pvl];omega)) only [↓pvd,pva,pvr,bin2,binB2,un1,setCells,List.map,seval,reduceCtorEq]; exact ⟨_,rfl,rfl,rfl⟩)
 subst e6
 simp (disch:=first|omega|(simp only[pvl];omega)) only [↓pvd,pva,pvr,bin2,binB2,un1,setCells,List.map,seval,reduceCtorEq,true_and]
 by_cases e7 : b1 = b1'
 case neg =>
  obtain rfl : B = false:=by rw [← hB]; exact decide_eq_false (fun h=>e7 h.1.2.2.2.2.2.2.2.1)
  have z : decide (b1 = b1') = false:=decide_eq_false e7
  simp (disch:=first|omega|(simp only[pvl];omega)) only [↓pvd,pva,pvr,bin2,binB2,un1,setCells,List.map,seval,reduceCtorEq,z]
  (refine Ends_rq [] ?_; simp (disch:=first|omega|(simp only[pvl];omega)) only [↓pvd,pva,pvr,bin2,binB2,un1,setCells,List.map,seval,reduceCtorEq]; exact ⟨_,rfl,rfl,rfl⟩)
 subst e7
 simp (disch:=first|omega|(simp only[pvl];omega)) only [↓pvd,pva,pvr,bin2,binB2,un1,setCells,List.map,seval,reduceCtorEq,true_and]
 by_cases e8 : b2 = b2'
 case neg =>
  obtain rfl : B = false:=by rw [← hB]; exact decide_eq_false (fun h=>e8 h.1.2.2.2.2.2.2.2.2.1)
  have z : decide (b2 = b2') = false:=decide_eq_false e8
  simp (disch:=first|omega|(simp only[pvl];omega)) only [↓pvd,pva,pvr,bin2,binB2,un1,setCells,List.map,seval,reduceCtorEq,z]
  (refine Ends_rq [] ?_; simp (disch:=first|omega|(simp only[pvl];omega)) only [↓pvd,pva,pvr,bin2,binB2,un1,setCells,List.map,seval,reduceCtorEq]; exact ⟨_,rfl,rfl,rfl⟩)
 subst e8
 simp (disch:=first|omega|(simp only[pvl];omega)) only [↓pvd,pva,pvr,bin2,binB2,un1,setCells,List.map,seval,reduceCtorEq,true_and]
 by_cases e9 : b3 = b3'
 case neg =>
  obtain rfl : B = false:=by rw [← hB]; exact decide_eq_false (fun h=>e9 h.1.2.2.2.2.2.2.2.2.2.1)
  have z : decide (b3 = b3') = false:=decide_eq_false e9
  simp (disch:=first|omega|(simp only[pvl];omega)) only [↓pvd,pva,pvr,bin2,binB2,un1,setCells,List.map,seval,reduceCtorEq,z]
  (refine Ends_rq [] ?_; simp (disch:=first|omega|(simp only[pvl];omega)) only [↓pvd,pva,pvr,bin2,binB2,un1,setCells,List.map,seval,reduceCtorEq]; exact ⟨_,rfl,rfl,rfl⟩)
 subst e9
 simp (disch:=first|omega|(simp only[pvl];omega)) only [↓pvd,pva,pvr,bin2,binB2,un1,setCells,List.map,seval,reduceCtorEq,true_and]
 by_cases e10 : b4 = b4'
 case neg =>
  obtain rfl : B = false:=by rw [← hB]; exact decide_eq_false (fun h=>e10 h.1.2.2.2.2.2.2.2.2.2.2.1)
  have z : decide (b4 = b4') = false:=decide_eq_false e10
  simp (disch:=first|omega|(simp only[pvl];omega)) only [↓pvd,pva,pvr,bin2,binB2,un1,setCells,List.map,seval,reduceCtorEq,z]
  (refine Ends_rq [] ?_; simp (disch:=first|omega|(simp only[pvl];omega)) only [↓pvd,pva,pvr,bin2,binB2,un1,setCells,List.map,seval,reduceCtorEq]; exact ⟨_,rfl,rfl,rfl⟩)
 subst e10
 simp (disch:=first|omega|(simp only[pvl];omega)) only [↓pvd,pva,pvr,bin2,binB2,un1,setCells,List.map,seval,reduceCtorEq,true_and]
 by_cases e11 : b5 = b5'
 case neg =>
  obtain rfl : B = false:=by rw [← hB]; exact decide_eq_false (fun h=>e11 h.1.2.2.2.2.2.2.2.2.2.2.2.1)
  have z : decide (b5 = b5') = false:=decide_eq_false e11
  simp (disch:=first|omega|(simp only[pvl];omega)) only [↓pvd,pva,pvr,bin2,binB2,un1,setCells,List.map,seval,reduceCtorEq,z]
  (refine Ends_rq [] ?_; simp (disch:=first|omega|(simp only[pvl];omega)) only [↓pvd,pva,pvr,bin2,binB2,un1,setCells,List.map,seval,reduceCtorEq]; exact ⟨_,rfl,rfl,rfl⟩)
 subst e11
 simp (disch:=first|omega|(simp only[pvl];omega)) only [↓pvd,pva,pvr,bin2,binB2,un1,setCells,List.map,seval,reduceCtorEq,true_and]
 by_cases e12 : b6 = b6'
 case neg =>
  obtain rfl : B = false:=by rw [← hB]; exact decide_eq_false (fun h=>e12 h.1.2.2.2.2.2.2.2.2.2.2.2.2)
  have z : decide (b6 = b6') = false:=decide_eq_false e12
  simp (disch:=first|omega|(simp only[pvl];omega)) only [↓pvd,pva,pvr,bin2,binB2,un1,setCells,List.map,seval,reduceCtorEq,z]
  (refine Ends_rq [] ?_; simp (disch:=first|omega|(simp only[pvl];omega)) only [↓pvd,pva,pvr,bin2,binB2,un1,setCells,List.map,seval,reduceCtorEq]; exact ⟨_,rfl,rfl,rfl⟩)
 subst e12
 simp (disch:=first|omega|(simp only[pvl];omega)) only [↓pvd,pva,pvr,bin2,binB2,un1,setCells,List.map,seval,reduceCtorEq,true_and]
 refine awR_call q1 rfl rfl ?_
 by_cases e13 : t = t'
 case neg =>
  obtain rfl : B = false:=by rw [← hB]; exact decide_eq_false (fun h=>e13 h.2.1)
  have z : decide (t = t') = false:=decide_eq_false e13
  simp (disch:=first|omega|(simp only[pvl];omega)) only [↓pvd,pva,pvr,bin2,binB2,un1,setCells,List.map,seval,reduceCtorEq,z]
  (refine Ends_rq [] ?_; simp (disch:=first|omega|(simp only[pvl];omega)) only [↓pvd,pva,pvr,bin2,binB2,un1,setCells,List.map,seval,reduceCtorEq]; exact ⟨_,rfl,rfl,rfl⟩)
 have z13 : decide (t = t') = true:=decide_eq_true e13
 simp (disch:=first|omega|(simp only[pvl];omega)) only [↓pvd,pva,pvr,bin2,binB2,un1,setCells,List.map,seval,reduceCtorEq,z13]
 refine awR_call q2 rfl rfl ?_
 by_cases e14 : im = im'
 case neg =>
  obtain rfl : B = false:=by rw [← hB]; exact decide_eq_false (fun h=>e14 h.2.2.1)
  have z : decide (im = im') = false:=decide_eq_false e14
  simp (disch:=first|omega|(simp only[pvl];omega)) only [↓pvd,pva,pvr,bin2,binB2,un1,setCells,List.map,seval,reduceCtorEq,z]
  (refine Ends_rq [] ?_; simp (disch:=first|omega|(simp only[pvl];omega)) only [↓pvd,pva,pvr,bin2,binB2,un1,setCells,List.map,seval,reduceCtorEq]; exact ⟨_,rfl,rfl,rfl⟩)
 have z14 : decide (im = im') = true:=decide_eq_true e14
 simp (disch:=first|omega|(simp only[pvl];omega)) only [↓pvd,pva,pvr,bin2,binB2,un1,setCells,List.map,seval,reduceCtorEq,z14]
 refine awR_call q3 rfl rfl ?_
 by_cases e15 : ex = ex'
 case neg =>
  obtain rfl : B = false:=by rw [← hB]; exact decide_eq_false (fun h=>e15 h.2.2.2.1)
  have z : decide (ex = ex') = false:=decide_eq_false e15
  simp (disch:=first|omega|(simp only[pvl];omega)) only [↓pvd,pva,pvr,bin2,binB2,un1,setCells,List.map,seval,reduceCtorEq,z]
  (refine Ends_rq [] ?_; simp (disch:=first|omega|(simp only[pvl];omega)) only [↓pvd,pva,pvr,bin2,binB2,un1,setCells,List.map,seval,reduceCtorEq]; exact ⟨_,rfl,rfl,rfl⟩)
 have z15 : decide (ex = ex') = true:=decide_eq_true e15
 simp (disch:=first|omega|(simp only[pvl];omega)) only [↓pvd,pva,pvr,bin2,binB2,un1,setCells,List.map,seval,reduceCtorEq,z15]
 refine awR_call q4 rfl rfl ?_
 by_cases e16 : ad = ad'
 case neg =>
  obtain rfl : B = false:=by rw [← hB]; exact decide_eq_false (fun h=>e16 h.2.2.2.2)
  have z : decide (ad = ad') = false:=decide_eq_false e16
  simp (disch:=first|omega|(simp only[pvl];omega)) only [↓pvd,pva,pvr,bin2,binB2,un1,setCells,List.map,seval,reduceCtorEq,z]
  (refine Ends_rq [] ?_; simp (disch:=first|omega|(simp only[pvl];omega)) only [↓pvd,pva,pvr,bin2,binB2,un1,setCells,List.map,seval,reduceCtorEq]; exact ⟨_,rfl,rfl,rfl⟩)
 have z16 : decide (ad = ad') = true:=decide_eq_true e16
 simp (disch:=first|omega|(simp only[pvl];omega)) only [↓pvd,pva,pvr,bin2,binB2,un1,setCells,List.map,seval,reduceCtorEq,z16]
 obtain rfl : B = true:=by rw [← hB]; exact decide_eq_true ⟨⟨rfl, rfl, rfl, rfl, rfl, rfl, rfl, rfl, rfl, rfl, rfl, rfl, rfl⟩, e13, e14, e15, e16⟩
 (refine Ends_rq [] ?_; simp (disch:=first|omega|(simp only[pvl];omega)) only [↓pvd,pva,pvr,bin2,binB2,un1,setCells,List.map,seval,reduceCtorEq]; exact ⟨_,rfl,rfl,rfl⟩)
end Go.Proofs
/-
 What the library's table of blanks holds, all along; what runs whatever it holds, runs.
-/
namespace Go.Pv
instance spLq : Lq where
 q w I:=I 0 ∧ ∀ c, c < 256 → w.cell? ⟨0, c, none⟩ = some (.int .u8 (if Lib.isSp (UInt8.ofNat c) then 1 else 0))
 st h hi hI hk:=⟨hI _ h.1, fun k hk'=>by
  have e:=hk 0 h.1 (hi 0 h.1)
  have:=h.2 k hk'
  simp only [World.cell?] at this ⊢
  rw [e]; exact this⟩
theorem run_lift [Lq] {P : Program} {f : FuncId} {xs : List AV} {r : AV} (h : @Run lqNone P f xs r) : Run P f xs r:=⟨h.1, fun w I os args _ h1 h2=>h.2 w I os args trivial h1 h2⟩
end Go.Pv
/- The library's strings.Fields at this seat's program: its contract, laid. (Printed by a program of ours.) -/
namespace Go.Proofs
open Go.Shelf Go.Pv Go.RowKit
def Tryz.renTF (n : Nat) : Nat :=
 if n = 0 then 0 else if n = 3 then 3 else if n = 4 then 4 else if n = 5 then 5 else if n = 9 then 9 else if n = 21 then 21 else if n = 31 then 32 else if n = 40 then 100 else if n = 46 then 112 else if n = 49 then 155 else if n = 51 then 35 else if n = 119 then 98 else if n = 141 then 132 else if n = 152 then 128 else if n = 154 then 130 else if n = 193 then 151 else if n = 194 then 152 else if n = 196 then 154 else if n = 198 then 157 else if n = 201 then 160 else if n = 226 then 177 else if n = 227 then 178 else 0
def Tryz.renFF (n : Nat) : Nat :=
 if n = 157 then 28 else if n = 199 then 61 else if n = 229 then 60 else if n = 261 then 93 else if n = 311 then 122 else if n = 312 then 123 else 0
def Tryz.renGF (n : Nat) : Nat:=if n = 0 then 0 else if n = 6 then 1 else 0
def Tryz.renF' : Ren:=⟨Tryz.renFF, Tryz.renTF, Tryz.renGF⟩
theorem Tryz.lays157 : Lays.n157 Tryz.prog Tryz.renF' where
 mixed:=Tryz.mixed
 f157:=by kernel_rfl
 f199:=by kernel_rfl
 f229:=by kernel_rfl
 f261:=by kernel_rfl
 f311:=by kernel_rfl
 f312:=by kernel_rfl
 t0:=Tryz.underlying0
 a0:=Tryz.isAgg0
 z0:=Tryz.sizeOf0
 v0:=Tryz.zeroValue0
 t3:=Tryz.underlying3
 a3:=Tryz.isAgg3
 z3:=Tryz.sizeOf3
 v3:=Tryz.zeroValue3
 t4:=Tryz.underlying4
 a4:=Tryz.isAgg4
 z4:=Tryz.sizeOf4
 v4:=Tryz.zeroValue4
 t5:=Tryz.underlying5
 a5:=Tryz.isAgg5
 z5:=Tryz.sizeOf5
 v5:=Tryz.zeroValue5
 t9:=Tryz.underlying9
 a9:=Tryz.isAgg9
 z9:=Tryz.sizeOf9
 v9:=Tryz.zeroValue9
 t21:=Tryz.underlying21
 a21:=Tryz.isAgg21
 z21:=Tryz.sizeOf21
 v21:=Tryz.zeroValue21
 t31:=Tryz.underlying32
 a31:=Tryz.isAgg32
 z31:=Tryz.sizeOf32
 v31:=Tryz.zeroValue32
 t40:=Tryz.underlying100
 a40:=Tryz.isAgg100
 z40:=Tryz.sizeOf100
 v40:=Tryz.zeroValue100
 t46:=Tryz.underlying112
 a46:=Tryz.isAgg112
 z46:=Tryz.sizeOf112
 v46:=Tryz.zeroValue112
 t49:=Tryz.underlying155
 a49:=Tryz.isAgg155
 z49:=Tryz.sizeOf155
 v49:=Tryz.zeroValue155
 t51:=Tryz.underlying35
 a51:=Tryz.isAgg35
 z51:=Tryz.sizeOf35
 v51:=Tryz.zeroValue35
 t119:=Tryz.underlying98
 a119:=Tryz.isAgg98
 z119:=Tryz.sizeOf98
 t141:=Tryz.underlying132
 a141:=Tryz.isAgg132
 z141:=Tryz.sizeOf132
 v141:=Tryz.zeroValue132
 t152:=Tryz.underlying128
 a152:=Tryz.isAgg128
 z152:=Tryz.sizeOf128
 v152:=Tryz.zeroValue128
 t154:=Tryz.underlying130
 a154:=Tryz.isAgg130
 z154:=Tryz.sizeOf130
 v154:=Tryz.zeroValue130
 t193:=Tryz.underlying151
 a193:=Tryz.isAgg151
 z193:=Tryz.sizeOf151
 v193:=Tryz.zeroValue151
 t194:=Tryz.underlying152
 a194:=Tryz.isAgg152
 z194:=Tryz.sizeOf152
 v194:=Tryz.zeroValue152
 t196:=Tryz.underlying154
 a196:=Tryz.isAgg154
 z196:=Tryz.sizeOf154
 v196:=Tryz.zeroValue154
 t198:=Tryz.underlying157
 a198:=Tryz.isAgg157
 z198:=Tryz.sizeOf157
 v198:=Tryz.zeroValue157
 t201:=Tryz.underlying160
 a201:=Tryz.isAgg160
 z201:=Tryz.sizeOf160
 v201:=Tryz.zeroValue160
 t226:=Tryz.underlying177
 a226:=Tryz.isAgg177
 z226:=Tryz.sizeOf177
 v226:=Tryz.zeroValue177
 t227:=Tryz.underlying178
 a227:=Tryz.isAgg178
 z227:=Tryz.sizeOf178
 v227:=Tryz.zeroValue178
 g0:=by kernel_rfl
 g6:=by kernel_rfl
theorem fields_run (s : List UInt8) (hs : s.length < 4294967281) (ha : s.all (fun b=>decide (b.toNat < 128)) = true) (hne : Lib.fields s ≠ []) :
  Run Tryz.prog 28 [.str s] (.sl 1 ((Lib.fields s).map .str) false):=by
 refine ⟨can_of Tryz.func28 rfl rfl, ?_⟩
 intro w I os args hq hos ho
 obtain ⟨args⟩:=args
 generalize hxs : [AV.str s] = ys at ho
 cases ho with
 | nil=>cases hxs
 | cons h1 ho =>
  cases hxs
  cases ho with
  | nil =>
   unfold OwnC at h1
   obtain ⟨rfl, h1⟩:=h1
   cases h1
   refine (Any.strings_Fields_core Tryz.lays157 (by kernel_rfl) ⟨s.toArray⟩ w hs (fun j b hj=>?_) hq.2).mono ?_
   ·have:=List.all_eq_true.1 ha b (List.mem_of_getElem? hj)
    simpa using this
   rintro e W ⟨rfl, rfl⟩
   have hl : (⟨s.toArray⟩ : ByteArray).data.toList = s:=rfl
   rw [hl]
   generalize hF : Lib.fields s = F at *
   have hp : 0 < F.length:=List.length_pos_iff.2 hne
   have hall : ∀ b, b < w.heap.size → (w.alloc (.cells (F.map fun l=>Value.string ⟨l.toArray⟩).toArray 9)).heap[b]? = w.heap[b]?:=fun b hb=>Below.heap_alloc _ _ b hb
   have hsz : (w.alloc (.cells (F.map fun l=>Value.string ⟨l.toArray⟩).toArray 9)).heap.size = w.heap.size + 1:=by simp
   have hB : Below w.heap.size w (w.alloc (.cells (F.map fun l=>Value.string ⟨l.toArray⟩).toArray 9)):=(Below.refl _ w).alloc (Nat.le_refl _) _
   refine ⟨_, fun b=>I b ∨ b = w.heap.size, [], rfl, ⟨rfl, ?_⟩, ⟨fun b h=>⟨?_, blks_nil b⟩, fun b h=>absurd h (blks_nil b), .nil⟩, ⟨hB.os, hB.tape, hB.output, hB.size, fun b h _=>hB.block b h, fun b h=>absurd h (blks_nil b), fun b h=>.inl h, fun b h=>?_⟩⟩
   ·have hc:=Sim.sl (w:=w.alloc (.cells (F.map fun l=>Value.string ⟨l.toArray⟩).toArray 9)) (γ:=bareG fun b=>I b ∨ b = w.heap.size) 1 (F.map .str) false w.heap.size 0 F.length (fun i _=>.string ⟨(F[i]!).toArray⟩) (by simpa using hp) (by simp) (fun h=>by cases h) (by rw [hsz]; omega) (.inr rfl) (fun x hx=>by
     obtain ⟨y, _, rfl⟩:=List.mem_map.1 hx; rfl) ?_ ?_
    ·rw [List.length_map] at hc; exact hc
    ·intro i x j y hx hy
     rw [List.getElem?_map] at hx
     cases hFi : F[i]? with
     | none=>rw [hFi] at hx; cases hx
     | some z =>
      rw [hFi] at hx; cases hx
      have hj : j = 0:=by
       cases j with
       | zero=>rfl
       | succ j=>simp [AV.flat] at hy
      subst hj
      have hz : F[i]! = z:=by rw [List.getElem!_eq_getElem?_getD, hFi]; rfl
      refine ⟨?_, rfl⟩
      rw [hz]
      rw [show 0 + i * 1 + 0 = i by omega, World.cell?_alloc_at _ _ _ _ rfl]
      simp [hFi]
    ·intro i x j y hx hy
     rw [List.getElem?_map] at hx
     cases hFi : F[i]? with
     | none=>rw [hFi] at hx; cases hx
     | some z =>
      rw [hFi] at hx; cases hx
      have hj : j = 0:=by
       cases j with
       | zero=>rfl
       | succ j=>simp [AV.flat] at hy
      subst hj
      have hz : F[i]! = z:=by rw [List.getElem!_eq_getElem?_getD, hFi]; rfl
      have hy' : y = .str z:=by simpa [AV.flat] using hy.symm
      rw [hy', hz]
      exact .str z
   ·show b < (w.alloc (.cells (F.map fun l=>Value.string ⟨l.toArray⟩).toArray 9)).heap.size
    rcases h with h | rfl
    ·rw [hsz]; exact Nat.lt_succ_of_lt (hos.imm b h).1
    ·rw [hsz]; omega
   ·rcases h with h | rfl
    ·exact .inl h
    ·exact .inr (.inr (Nat.le_refl _))
end Go.Proofs
/- Rules of a few functions, where the library's table of blanks is as laid. (Printed by a program of ours.) -/
namespace Go.Proofs
open Go.Pv
theorem Tryz.irun12 {xs : List AV} {r : AV} (hl : xs.length ≤ 45) (h : Hold (aw Tryz.prog Tryz.c12 (Pv.Ends [0] r) (entry xs))) : Run Tryz.prog 12 xs r :=
 run_ofH (fun _ _=>drawOk Tryz.mixed) Tryz.func12 rfl rfl rfl (by kernel_rfl) (by kernel_rfl) hl h
theorem Tryz.irun4 {xs : List AV} {r : AV} (hl : xs.length ≤ 35) (h : aw Tryz.prog Tryz.c4 (Pv.Ends [4] r) (entry xs)) : Run Tryz.prog 4 xs r :=
 run_of (fun _ _=>drawOk Tryz.mixed) Tryz.func4 rfl rfl rfl (by kernel_rfl) (by kernel_rfl) hl h
end Go.Proofs
namespace Go.Proofs
open Go.Pv
def wsA : List (List UInt8):=[[112, 111, 114, 116], [115, 119, 49], [112, 49], [52], [97, 99, 99, 101, 115, 115], [49, 48]]
def wsB : List (List UInt8):=[[112, 111, 114, 116], [115, 119, 49], [112, 49], [52], [116, 114, 117, 110, 107], [49, 48], [49, 48, 44, 50, 48]]
theorem fieldsA : Lib.fields [112, 111, 114, 116, 32, 115, 119, 49, 32, 112, 49, 32, 52, 32, 97, 99, 99, 101, 115, 115, 32, 49, 48] = wsA:=by decide
theorem fieldsB : Lib.fields [112, 111, 114, 116, 32, 115, 119, 49, 32, 112, 49, 32, 52, 32, 116, 114, 117, 110, 107, 32, 49, 48, 32, 49, 48, 44, 50, 48] = wsB:=by decide
theorem dig4 : Nm.digF 4 = [52]:=by rw [Nm.digF_lt (by omega)]; decide
theorem tx4 : Nm.txF 4 = [52]:=by unfold Nm.txF; rw [if_neg (by omega)]; exact dig4
theorem rd4 : Nm.rdF [52] 1 65535 = (4, true):=by
 unfold Nm.rdF Nm.rdG
 rw [if_neg (by decide), if_neg (by decide), if_neg (by decide)]
 rw [show (if false = true then -Nm.vF [52] [(52 : UInt8)].length else Nm.vF [52] [(52 : UInt8)].length) = 4 by decide]
 dsimp only
 rw [if_neg (by decide), if_neg (by decide), if_neg (by rw [tx4]; simp)]
theorem lsB_eg : lsV [49, 48, 44, 50, 48] 4094 = [10, 20] ∧ lsB [49, 48, 44, 50, 48] 4094 = false:=by
 have h1 : sc [49, 48, 44, 50, 48] = [[49, 48], [50, 48]]:=by decide
 have h2 : lsG [49, 48, 44, 50, 48] 4094 = true:=by
  unfold lsG rlF gI
  rw [h1]
  simp only [List.all_cons,List.all_nil,List.map_cons,List.map_nil,Nm.rd10,Nm.rd20]
  decide
 constructor
 ·unfold lsV
  rw [if_neg (by decide), if_pos h2, h1]
  simp only [List.map_cons,List.map_nil,gI,Nm.rd10,Nm.rd20]
 ·unfold lsB
  rw [h2]
  decide
theorem rdA0 : rdE wsA = 0:=by
 unfold rdE okN
 rw [show kdF wsA[0]! = 2 by decide, show mnF 2 wsA = true by decide]
 rw [show (decide (wsA ≠ []) && true) = true by decide, if_pos rfl]
 show er2 wsA = 0
 have h1 : eK wsA[4]! (eU wsA[3]! 1 65535 (eN wsA[2]! (eN wsA[1]! 0))) = 0:=by
  rw [eK_z, eU_z, eN_z, eN_z]
  refine ⟨⟨⟨⟨rfl, by decide⟩, by decide⟩, ?_⟩, .inl rfl⟩
  rw [show wsA[3]! = [52] from rfl, rd4]
 have h2 : pkV wsA 4 = 10:=by
  unfold pkV
  rw [if_pos (by decide), show wsA[4 + 1]! = [49, 48] from rfl, Nm.rd10]
 have h3 : pkT wsA 4 = []:=by
  unfold pkT
  rw [if_neg (by decide)]
 unfold er2
 rw [h1]
 unfold pkE
 rw [h2, h3, if_pos (by decide), show wsA[4 + 1]! = [49, 48] from rfl, Nm.rd10]
 decide
theorem rdA1 : rdL wsA 7 = ⟨⟨7, 2, [115, 119, 49], [112, 49], [], [], [], 0, 0, 0, 10, 0, 4⟩, [], [], [], []⟩:=by
 have h2 : pkV wsA 4 = 10:=by
  unfold pkV
  rw [if_pos (by decide), show wsA[4 + 1]! = [49, 48] from rfl, Nm.rd10]
 have h3 : pkT wsA 4 = []:=by
  unfold pkT
  rw [if_neg (by decide)]
 unfold rdL
 rw [show kdF wsA[0]! = 2 by decide]
 show li2 wsA 7 = _
 unfold li2 nu
 rw [h2, h3, show wsA[3]! = [52] from rfl, rd4]
 rfl
theorem rdB0 : rdE wsB = 21:=by
 unfold rdE okN
 rw [show kdF wsB[0]! = 2 by decide, show mnF 2 wsB = true by decide]
 rw [show (decide (wsB ≠ []) && true) = true by decide, if_pos rfl]
 show er2 wsB = 21
 have h1 : eK wsB[4]! (eU wsB[3]! 1 65535 (eN wsB[2]! (eN wsB[1]! 0))) = 0:=by
  rw [eK_z, eU_z, eN_z, eN_z]
  refine ⟨⟨⟨⟨rfl, by decide⟩, by decide⟩, ?_⟩, .inr rfl⟩
  rw [show wsB[3]! = [52] from rfl, rd4]
 have h2 : pkV wsB 4 = 10:=by
  unfold pkV
  rw [if_neg (by decide), if_pos (by decide), if_neg (by decide), show wsB[4 + 1]! = [49, 48] from rfl, Nm.rd10]
 have h3 : pkT wsB 4 = [10, 20]:=by
  unfold pkT
  rw [if_pos (by decide), show wsB[4 + 2]! = [49, 48, 44, 50, 48] from rfl, lsB_eg.1]
 unfold er2
 rw [h1]
 unfold pkE
 rw [h2, h3, if_neg (by decide), if_pos (by decide), if_neg (by decide), show wsB[4 + 1]! = [49, 48] from rfl, Nm.rd10, show wsB[4 + 2]! = [49, 48, 44, 50, 48] from rfl, lsB_eg.2]
 decide
theorem works11 : Run Tryz.prog 12 [] (.bool true):=by
 have q1:=fields_run [112, 111, 114, 116, 32, 115, 119, 49, 32, 112, 49, 32, 52, 32, 97, 99, 99, 101, 115, 115, 32, 49, 48] (by decide) (by decide) (by rw [fieldsA]; decide)
 have q2:=fields_run [112, 111, 114, 116, 32, 115, 119, 49, 32, 112, 49, 32, 52, 32, 116, 114, 117, 110, 107, 32, 49, 48, 32, 49, 48, 44, 50, 48] (by decide) (by decide) (by rw [fieldsB]; decide)
 rw [fieldsA] at q1
 rw [fieldsB] at q2
 have q3:=run_lift (sread_run wsA false 7 (by decide) (by decide))
 have q4:=run_lift (sread_run wsB false 7 (by decide) (by decide))
 rw [rdA0, rdA1, rdT_z] at q3
 rw [rdB0, rdT_e (by decide)] at q4
 have q5:=right_runS (isLn_V ⟨⟨7, 2, [115, 119, 49], [112, 49], [], [], [], 0, 0, 0, 10, 0, 4⟩, [], [], [], []⟩) (by
  have:=rd_B (r:=7) rdA0
  rwa [rdA1] at this)
 have hr : rtO ⟨⟨7, 2, [115, 119, 49], [112, 49], [], [], [], 0, 0, 0, 10, 0, 4⟩, [], [], [], []⟩ = true:=by
  have:=rd_right (r:=7) rdA0 7
  rw [rdA1] at this
  exact this
 rw [hr] at q5
 have q6:=run_lift q5
 clear q5 hr
 rw [show lnV ⟨⟨7, 2, [115, 119, 49], [112, 49], [], [], [], 0, 0, 0, 10, 0, 4⟩, [], [], [], []⟩ = lnA ⟨7, 2, [115, 119, 49], [112, 49], [], [], [], 0, 0, 0, 10, 0, 4⟩ (.sl 0 [] true) (.sl 0 [] true) (.sl 0 [] true) (.sl 0 [] true) from rfl] at q3 q6
 generalize wsA.map AV.str = rA at *
 generalize wsB.map AV.str = rB at *
 refine Tryz.irun12 (by simp) ⟨?_⟩
 unfold Tryz.c12
 unfold lnA at q3 q4 q6
 unfold lnZ at q4
 simp (disch:=first|omega|(simp only[pvl];omega)) only [↓pvd,pva,pvr,bin2,binB2,un1,setCells,List.map,seval,reduceCtorEq,true_and]
 refine awR_call q1 rfl rfl ?_
 simp (disch:=first|omega|(simp only[pvl];omega)) only [↓pvd,pva,pvr,bin2,binB2,un1,setCells,List.map,seval,reduceCtorEq,true_and]
 refine awR_call q3 rfl rfl ?_
 simp (disch:=first|omega|(simp only[pvl];omega)) only [↓pvd,pva,pvr,bin2,binB2,un1,setCells,List.map,seval,reduceCtorEq,true_and]
 refine awR_call q2 rfl rfl ?_
 simp (disch:=first|omega|(simp only[pvl];omega)) only [↓pvd,pva,pvr,bin2,binB2,un1,setCells,List.map,seval,reduceCtorEq,true_and]
 refine awR_call q4 rfl rfl ?_
 simp (disch:=first|omega|(simp only[pvl];omega)) only [↓pvd,pva,pvr,bin2,binB2,un1,setCells,List.map,seval,reduceCtorEq,true_and]
 refine awR_call q6 rfl rfl ?_
 simp (disch:=first|omega|(simp only[pvl];omega)) only [↓pvd,pva,pvr,bin2,binB2,un1,setCells,List.map,seval,reduceCtorEq,true_and]
 (refine Ends_rq [] ?_; simp (disch:=first|omega|(simp only[pvl];omega)) only [↓pvd,pva,pvr,bin2,binB2,un1,setCells,List.map,seval,reduceCtorEq]; exact ⟨_,rfl,rfl,rfl⟩)
end Go.Proofs
namespace Go.Proofs
open Go.Pv
theorem lnfZ_B : lnB lnfZ:=by
 refine ⟨?_, ?_, ?_⟩
 ·simp only [lnfZ,lnZ,List.length_nil]; omega
 ·simp only [lnfZ,lnZ]; omega
 ·intro a ha; cases ha
theorem lnB_S {x : LnF} (h : lnB x) : lnS x:=by
 have:=h.1
 exact ⟨by omega, by omega, by omega, by omega⟩
theorem dat_strs11 {y : AV} (h : DatV Tryz.prog 6 32 y) : ∃ l : List (List UInt8), y = .sl 1 (l.map .str) false ∧ l.length ≤ maxLen ∧ ∀ r ∈ l, r.length ≤ maxLen:=by
 obtain ⟨es, rfl, hl, hd⟩:=dat_slice Tryz.underlying32 h
 obtain ⟨l, rfl, hr⟩:=map_ofP (p:=fun s : List UInt8=>s.length ≤ maxLen) (fun x hx=>dat_str Tryz.underlying9 (hd x hx))
 rw [show Tryz.prog.cellsOf 9 = 1 by kernel_rfl]
 exact ⟨l, rfl, by simpa using hl, hr⟩
theorem space_q {W : World} (h : Lib.TabIs Tryz.prog W "strings.asciiSpace" .u8 Lib.asciiSpaceTab) {I : Nat → Prop} (hI : ∀ b, b < W.heap.size → I b) : Lq.q W I:=by
 have hcell : ∀ c, c < 256 → W.cell? ⟨0, c, none⟩ = some (.int .u8 (if Lib.isSp (UInt8.ofNat c) then 1 else 0)):=fun c hc=>by
  rw [h.cell (by kernel_rfl) c (by rw [Lib.asciiSpaceTab_length]; exact hc), Lib.asciiSpaceTab_at c hc]
 refine ⟨hI 0 ?_, hcell⟩
 have:=hcell 0 (by omega)
 rcases Nat.lt_or_ge 0 W.heap.size with h' | h'
 ·exact h'
 ·simp [World.cell?, Array.getElem?_eq_none h'] at this
theorem tab_q {a b c : String × DataW Unit} {W : World} (h : laidMet Tryz.prog [a, b, ("strings.asciiSpace", Lib.tabData .u8 Lib.asciiSpaceTab), c] W) {I : Nat → Prop} (hI : ∀ b, b < W.heap.size → I b) : Lq.q W I :=
 space_q (Lib.tabIs_of_head (g:=0) (by kernel_rfl) (by kernel_rfl) Tryz.underlying98 Tryz.underlying5 (by kernel_rfl) (by kernel_rfl) h.tail.tail) hI
end Go.Proofs
namespace Go.Proofs
open Go.Pv
set_option maxHeartbeats 16000000 in
theorem stmtReads_run (ws : List (List UInt8)) (row : Int) (hl : ws.length ≤ maxLen) : Run Tryz.prog 4 [.sl 1 (ws.map .str) false, .int .i64 row] (.bool true):=by
 have q0:=works11
 have q1:=run_lift (great11_run ws false (by simp only [maxLen] at hl; omega))
 refine Tryz.irun4 (by simp) ?_
 unfold Tryz.c4
 by_cases hg : grW ws = true
 ·rw [hg] at q1
  generalize ws.map AV.str = rw0 at *
  simp (disch:=first|omega|(simp only[pvl];omega)) only [↓pvd,pva,pvr,bin2,binB2,un1,setCells,List.map,seval,reduceCtorEq,true_and]
  refine awR_call q1 rfl rfl ?_
  simp (disch:=first|omega|(simp only[pvl];omega)) only [↓pvd,pva,pvr,bin2,binB2,un1,setCells,List.map,seval,reduceCtorEq,true_and]
  refine awR_call q0 rfl rfl ?_
  simp (disch:=first|omega|(simp only[pvl];omega)) only [↓pvd,pva,pvr,bin2,binB2,un1,setCells,List.map,seval,reduceCtorEq,true_and]
  (refine Ends_rq [] ?_; simp (disch:=first|omega|(simp only[pvl];omega)) only [↓pvd,pva,pvr,bin2,binB2,un1,setCells,List.map,seval,reduceCtorEq]; exact ⟨_,rfl,rfl,rfl⟩)
 have hg' : grW ws = false:=by simpa using hg
 rw [hg'] at q1
 have hw : ws.length ≤ 20 ∧ ∀ w ∈ ws, w.length ≤ 300:=by
  unfold grW at hg'
  simp only [Bool.or_eq_false_iff,decide_eq_false_iff_not,List.any_eq_false,decide_eq_true_eq] at hg'
  exact ⟨by omega, fun w hw=>by have:=hg'.2 w hw; omega⟩
 have q2:=run_lift (sread_run ws false row (by omega) (fun w h=>by have:=hw.2 w h; omega))
 have q3:=run_lift (rsread_run ws false row (by omega) (fun w h=>by have:=hw.2 w h; omega))
 by_cases he : rdE ws = 0
 ·rw [he, rdT_z] at q2 q3
  have hB:=rd_B (r:=row) he
  obtain ⟨n1, f1, n2, f2, n3, f3, n4, f4, hv, c1, c2, c3, c4⟩:=isLn_V (rdL ws row)
  have qs:=run_lift (rsame_run (isLn_V (rdL ws row)) (isLn_V (rdL ws row)) (lnB_S hB) (lnB_S hB))
  rw [decide_eq_true rfl] at qs
  rw [hv] at q2 q3 qs
  clear hv c1 c2 c3 c4 hB
  generalize rdL ws row = x at *
  obtain ⟨⟨r, k, a1, a2, a3, a4, a5, b1, b2, b3, b4, b5, b6⟩, t, im, ex, ad⟩:=x
  simp only at q2 q3 qs
  generalize t.map (AV.int .i64) = s1 at *
  generalize im.map (AV.int .i64) = s2 at *
  generalize ex.map (AV.int .i64) = s3 at *
  generalize ad.map (AV.int .u32) = s4 at *
  generalize ws.map AV.str = rw0 at *
  unfold lnA at q2 q3 qs
  simp (disch:=first|omega|(simp only[pvl];omega)) only [↓pvd,pva,pvr,bin2,binB2,un1,setCells,List.map,seval,reduceCtorEq,true_and]
  refine awR_call q1 rfl rfl ?_
  simp (disch:=first|omega|(simp only[pvl];omega)) only [↓pvd,pva,pvr,bin2,binB2,un1,setCells,List.map,seval,reduceCtorEq,true_and]
  refine awR_call q2 rfl rfl ?_
  simp (disch:=first|omega|(simp only[pvl];omega)) only [↓pvd,pva,pvr,bin2,binB2,un1,setCells,List.map,seval,reduceCtorEq,true_and]
  refine awR_call q3 rfl rfl ?_
  simp (disch:=first|omega|(simp only[pvl];omega)) only [↓pvd,pva,pvr,bin2,binB2,un1,setCells,List.map,seval,reduceCtorEq,true_and]
  refine awR_call qs rfl rfl ?_
  simp (disch:=first|omega|(simp only[pvl];omega)) only [↓pvd,pva,pvr,bin2,binB2,un1,setCells,List.map,seval,reduceCtorEq,true_and]
  refine awR_call q0 rfl rfl ?_
  simp (disch:=first|omega|(simp only[pvl];omega)) only [↓pvd,pva,pvr,bin2,binB2,un1,setCells,List.map,seval,reduceCtorEq,true_and]
  (refine Ends_rq [] ?_; simp (disch:=first|omega|(simp only[pvl];omega)) only [↓pvd,pva,pvr,bin2,binB2,un1,setCells,List.map,seval,reduceCtorEq]; exact ⟨_,rfl,rfl,rfl⟩)
 ·rw [rdT_e he] at q2 q3
  have qs:=run_lift (rsame_run (isLn_V lnfZ) (isLn_V lnfZ) (lnB_S lnfZ_B) (lnB_S lnfZ_B))
  rw [decide_eq_true rfl, show lnV lnfZ = lnA lnZ (.sl 0 [] true) (.sl 0 [] true) (.sl 0 [] true) (.sl 0 [] true) from rfl] at qs
  unfold lnA lnZ at q2 q3 qs
  generalize rdE ws = e at *
  generalize ws.map AV.str = rw0 at *
  simp (disch:=first|omega|(simp only[pvl];omega)) only [↓pvd,pva,pvr,bin2,binB2,un1,setCells,List.map,seval,reduceCtorEq,true_and]
  refine awR_call q1 rfl rfl ?_
  simp (disch:=first|omega|(simp only[pvl];omega)) only [↓pvd,pva,pvr,bin2,binB2,un1,setCells,List.map,seval,reduceCtorEq,true_and]
  refine awR_call q2 rfl rfl ?_
  simp (disch:=first|omega|(simp only[pvl];omega)) only [↓pvd,pva,pvr,bin2,binB2,un1,setCells,List.map,seval,reduceCtorEq,true_and]
  refine awR_call q3 rfl rfl ?_
  simp (disch:=first|omega|(simp only[pvl];omega)) only [↓pvd,pva,pvr,bin2,binB2,un1,setCells,List.map,seval,reduceCtorEq,true_and]
  refine awR_call qs rfl rfl ?_
  simp (disch:=first|omega|(simp only[pvl];omega)) only [↓pvd,pva,pvr,bin2,binB2,un1,setCells,List.map,seval,reduceCtorEq,true_and]
  refine awR_call q0 rfl rfl ?_
  simp (disch:=first|omega|(simp only[pvl];omega)) only [↓pvd,pva,pvr,bin2,binB2,un1,setCells,List.map,seval,reduceCtorEq,true_and]
  (refine Ends_rq [] ?_; simp (disch:=first|omega|(simp only[pvl];omega)) only [↓pvd,pva,pvr,bin2,binB2,un1,setCells,List.map,seval,reduceCtorEq]; exact ⟨_,rfl,rfl,rfl⟩)
theorem stmtReads_all : ∀ xs, DatL Tryz.prog 6 Tryz.f4.params.toList xs → Run Tryz.prog 4 xs (.bool true):=by
 intro xs h
 rw [show Tryz.f4.params.toList = [32, 3] from rfl] at h
 obtain ⟨y1, y2, rfl, h1, h2⟩:=datL2 h
 obtain ⟨ws, rfl, hl, _⟩:=dat_strs11 h1
 obtain ⟨a, rfl, ha⟩:=dat_int Tryz.underlying3 h2
 exact stmtReads_run ws a hl
end Go.Proofs
