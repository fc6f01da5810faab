/- The proofs of what the functions of this seat do. -/
import Derived.Test.YtppdpcfmkmnfjaaGreatDoorPr2
set_option linter.unusedSimpArgs false
set_option linter.unusedVariables false
set_option maxHeartbeats 2000000
set_option maxRecDepth 20000
namespace Go.Proofs
open Go.Pv
def risF : List Int → Bool
 | a :: b :: r=>decide (a < b) && risF (b :: r)
 | _=>true
theorem risF_snoc : ∀ (l : List Int) (y x : Int), risF (l ++ [y] ++ [x]) = (risF (l ++ [y]) && decide (y < x))
 | [], y, x=>by simp [risF]
 | [a], y, x=>by simp [risF]
 | a :: b :: r, y, x=>by
  have ih:=risF_snoc (b :: r) y x
  simp only [List.cons_append] at ih ⊢
  rw [risF, risF, ih, Bool.and_assoc]
theorem risF_app : ∀ (l m : List Int), risF (l ++ m) = true → risF l = true
 | [], _, _=>rfl
 | [_], _, _=>rfl
 | a :: b :: r, m, h=>by
  simp only [List.cons_append,risF,Bool.and_eq_true] at h ⊢
  exact ⟨h.1, risF_app (b :: r) m h.2⟩
def rlF (g : List UInt8 → Int × Bool) (ps : List (List UInt8)) : Bool:=ps.all (fun p=>(g p).2) && decide (ps.length ≤ 16) && risF (ps.map fun p=>(g p).1)
def rlR (ty : TypeId) (k : IntKind) (g : List UInt8 → Int × Bool) (ps : List (List UInt8)) : AV :=
 if rlF g ps then .tup [.own 1 ty ((ps.map fun p=>(g p).1).map (.int k)), .bool true] else .tup [.sl 0 [] true, .bool false]
theorem rlR_yes {ty : TypeId} {k : IntKind} {g : List UInt8 → Int × Bool} {ps : List (List UInt8)} (h : rlF g ps = true) : rlR ty k g ps = .tup [.own 1 ty ((ps.map fun p=>(g p).1).map (.int k)), .bool true]:=if_pos h
theorem rlR_no {ty : TypeId} {k : IntKind} {g : List UInt8 → Int × Bool} {ps : List (List UInt8)} (h : ¬ rlF g ps = true) : rlR ty k g ps = .tup [.sl 0 [] true, .bool false]:=if_neg h
theorem rlF_iff {g : List UInt8 → Int × Bool} {ps : List (List UInt8)} : rlF g ps = true ↔ (∀ p ∈ ps, (g p).2 = true) ∧ ps.length ≤ 16 ∧ risF (ps.map fun p=>(g p).1) = true:=by
 unfold rlF
 simp only [Bool.and_eq_true,List.all_eq_true,decide_eq_true_eq]
 exact ⟨fun h=>⟨h.1.1, h.1.2, h.2⟩, fun h=>⟨⟨h.1, h.2.1⟩, h.2.2⟩⟩
theorem cut_sc (s : List UInt8) : sc s = (if (cutF 44 s).2.2 = true then (cutF 44 s).1 :: sc (cutF 44 s).2.1 else [(cutF 44 s).1]) ∧ (cutF 44 s).1.length ≤ s.length ∧ (cutF 44 s).2.1.length ≤ s.length ∧ ((cutF 44 s).2.2 = true → (cutF 44 s).2.1.length < s.length):=by
 have h:=sc_index s
 have hb:=ix_b s 44
 unfold cutF
 by_cases hx : 0 ≤ Lib.indexByte s 44
 ·rw [if_pos hx] at h ⊢
  exact ⟨h, by simp; omega, by simp, fun _=>by simp; omega⟩
 ·rw [if_neg hx] at h ⊢
  exact ⟨h, by simp, by simp, fun h=>by simp at h⟩
theorem int_nr (k : IntKind) (n : Int) : (AV.int k n).nr1 = true:=rfl
theorem int_pl (k : IntKind) (n : Int) : (AV.int k n).pl = true:=rfl
def rdB (s : List UInt8) : Int × Bool:=(if okA s then accF (sp s) else 0, decide (okA s))
theorem rdB_eq (s : List UInt8) : rdA (sp s) = .tup [.int .u32 (rdB s).1, .bool (rdB s).2]:=by
 unfold rdB
 by_cases h : okA s
 ·rw [rdA_pos h, if_pos h, decide_eq_true h]
 ·rw [rdA_neg h, if_neg h, decide_eq_false h]
def rdiS (g : List UInt8 → Int × Bool) (least most : Int) (x : List (List UInt8) × List UInt8 × Bool) : St:=⟨[(0, .str x.2.1), (1, .fn 105 [.rptr (.int .i64 least) 0, .rptr (.int .i64 most) 0]), (6, .vec 0 1 0 x.1.length), (7, .bool x.2.2)], [some ⟨3, (x.1.map fun p=>(g p).1).map (.int .i64), true⟩]⟩
def rdiI (g : List UInt8 → Int × Bool) (s : List UInt8) (x : List (List UInt8) × List UInt8 × Bool) : Prop :=
 x.1.length ≤ 16 ∧ (∀ p ∈ x.1, (g p).2 = true) ∧ risF (x.1.map fun p=>(g p).1) = true ∧ x.2.1.length ≤ s.length ∧ sc s = x.1 ++ (if x.2.2 = true then sc x.2.1 else [])
theorem rdi_run (s : List UInt8) (least most : Int) (hs : s.length ≤ 1000) (g : List UInt8 → Int × Bool) (hg : g = (fun p=>Nm.rdF p least most))
  (q : ∀ p : List UInt8, p.length ≤ 1000 → Run Tryz.prog 105 [.str p, .rptr (.int .i64 least) 0, .rptr (.int .i64 most) 0] (.tup [.int .i64 (g p).1, .bool (g p).2])) :
  Run Tryz.prog 104 [.str s, .fn 105 [.rptr (.int .i64 least) 0, .rptr (.int .i64 most) 0]] (rlR 3 .i64 g (sc s)):=by
 refine Tryz.run104 (by simp) ?_
 unfold Tryz.c104
 simp (disch:=first|omega|(simp only[pvl] at *;omega)) only [↓pvd,pva,pvr,bin2,binB2,un1,setCells,List.map,seval,reduceCtorEq]
 refine aw_loop (rdiS g least most) (rdiI g s) (fun x=>(if x.2.2 = true then 1 else 0) + x.2.1.length + (if x.2.2 = true then 1 else 0)) ([], s, true) ?_ ⟨by simp, by simp, rfl, Nat.le_refl _, by simp⟩ ?_
 ·simp (disch:=first|omega|(simp only[pvl];omega)) only [↓pvd,pva,pvr,bin2,binB2,un1,setCells,List.map,seval,reduceCtorEq,ids_fn,ren_fn,ids_rptr,rdiS]
 rintro ⟨pre, r, m⟩ ⟨h1, h2, h3, h4, h5⟩
 simp only at h1 h2 h3 h4 h5
 unfold rdiS Tryz.c104b0
 simp only
 cases m with
 | false =>
  rw [if_neg (by simp), List.append_nil] at h5
  have hy : rlF g (sc s) = true:=by rw [h5]; exact rlF_iff.2 ⟨h2, h1, h3⟩
  rw [rlR_yes hy, h5]
  generalize hvs : (pre.map fun p=>(g p).1) = vs at *
  have hvl : pre.length = vs.length:=by rw [← hvs]; simp
  rw [hvl]
  simp (disch:=first|omega|(simp only[pvl] at *;omega)) only [↓pvd,pva,pvr,bin2,binB2,un1,setCells,List.map,seval,reduceCtorEq]
  (refine Ends_rq [[.own 1 3], [.snap]] ?_; simp (disch:=first|omega|(simp only[pvl];omega)) only [↓pvd,pva,pvr,bin2,binB2,un1,setCells,List.map,seval,reduceCtorEq,ids_map (int_pl .i64),ren_map (int_pl .i64),mapO_map (int_nr .i64),rows_map (int_nr .i64)]; exact ⟨_,rfl,rfl,rfl⟩)
 | true =>
  rw [if_pos rfl] at h5
  obtain ⟨hc1, hc2, hc3, hc4⟩:=cut_sc r
  have qc:=cut_run r 44 (by omega)
  unfold cutR at qc
  generalize (cutF 44 r).1 = a at *
  generalize (cutF 44 r).2.1 = r' at *
  generalize (cutF 44 r).2.2 = m' at *
  have q1:=q a (by omega)
  have ha : ∃ t, sc s = pre ++ a :: t ∧ (m' = true → t = sc r') ∧ (m' = false → t = []):=by
   rw [h5, hc1]
   cases m' with
   | true=>exact ⟨sc r', by simp, fun _=>rfl, fun h=>by cases h⟩
   | false=>exact ⟨[], by simp, fun h=>by simp at h, fun _=>rfl⟩
  obtain ⟨t, ht, ht1, ht2⟩:=ha
  have nok : ¬ ((g a).2 = true ∧ pre.length ≤ 15 ∧ risF ((pre ++ [a]).map fun p=>(g p).1) = true) → ¬ rlF g (sc s) = true:=fun h h'=>by
   rw [ht] at h'
   obtain ⟨k1, k2, k3⟩:=rlF_iff.1 h'
   refine h ⟨k1 a (by simp), by simp at k2; omega, ?_⟩
   have e : pre ++ a :: t = (pre ++ [a]) ++ t:=by simp
   rw [e, List.map_append] at k3
   exact risF_app _ _ k3
  generalize hga : g a = ga at *
  obtain ⟨v, ok⟩:=ga
  simp only at q1 nok
  cases ok with
  | false =>
   rw [rlR_no (nok (fun h=>by cases h.1))]
   simp (disch:=first|omega|(simp only[pvl] at *;omega)) only [↓pvd,pva,pvr,bin2,binB2,un1,setCells,List.map,seval,reduceCtorEq]
   refine awR_call qc rfl rfl ?_
   simp (disch:=first|omega|(simp only[pvl] at *;omega)) only [↓pvd,pva,pvr,bin2,binB2,un1,setCells,List.map,seval,reduceCtorEq]
   refine awR_callv rfl (gen_nr q1 rfl) (Nat.le_refl _) ?_
   simp (disch:=first|omega|(simp only[pvl];omega)) only [↓pvd,pva,pvr,bin2,binB2,un1,setCells,List.map,seval,reduceCtorEq,ids_fn,ren_fn,ids_rptr]
   (refine Ends_rq [] ?_; simp (disch:=first|omega|(simp only[pvl];omega)) only [↓pvd,pva,pvr,bin2,binB2,un1,setCells,List.map,seval,reduceCtorEq]; exact ⟨_,rfl,rfl,rfl⟩)
  | true =>
   by_cases hl : pre.length = 16
   ·rw [rlR_no (nok (fun h=>by omega))]
    simp (disch:=first|omega|(simp only[pvl] at *;omega)) only [↓pvd,pva,pvr,bin2,binB2,un1,setCells,List.map,seval,reduceCtorEq]
    refine awR_call qc rfl rfl ?_
    simp (disch:=first|omega|(simp only[pvl] at *;omega)) only [↓pvd,pva,pvr,bin2,binB2,un1,setCells,List.map,seval,reduceCtorEq]
    refine awR_callv rfl (gen_nr q1 rfl) (Nat.le_refl _) ?_
    have hvl : ((pre.map fun p=>(g p).1).map (AV.int .i64)).length = 16:=by simp [hl]
    simp (disch:=first|omega|(simp only[pvl];omega)) only [↓pvd,pva,pvr,bin2,binB2,un1,setCells,List.map,seval,reduceCtorEq,ids_fn,ren_fn,ids_rptr,hl,hvl]
    (refine Ends_rq [] ?_; simp (disch:=first|omega|(simp only[pvl];omega)) only [↓pvd,pva,pvr,bin2,binB2,un1,setCells,List.map,seval,reduceCtorEq]; exact ⟨_,rfl,rfl,rfl⟩)
   ·have hgo : (pre ≠ [] → ∃ y, ((pre.map fun p=>(g p).1).map (AV.int .i64))[pre.length - 1]? = some (.int .i64 y) ∧ risF ((pre ++ [a]).map fun p=>(g p).1) = decide (y < v)):=fun hne=>by
     obtain ⟨qs, p, rfl⟩ : ∃ qs p, pre = qs ++ [p]:=⟨pre.dropLast, pre.getLast hne, (List.dropLast_concat_getLast _).symm⟩
     refine ⟨(g p).1, by simp, ?_⟩
     simp only [List.map_append,List.map_cons,List.map_nil] at h3 ⊢
     rw [risF_snoc, h3, hga, Bool.true_and]
    have fin : risF ((pre ++ [a]).map fun p=>(g p).1) = true → rdiI g s (pre ++ [a], r', m'):=fun hr=>by
     refine ⟨by simp; omega, fun p hp=>?_, hr, by show r'.length ≤ _; omega, ?_⟩
     ·rcases List.mem_append.1 hp with hp | hp
      ·exact h2 p hp
      ·rw [List.mem_singleton.1 hp, hga]
     ·rw [ht]
      cases m' with
      | true=>rw [if_pos rfl, ht1 rfl]; simp
      | false=>rw [if_neg (by simp), ht2 rfl]; simp
    have hms : (if (pre ++ [a], r', m').2.2 = true then 1 else 0) + (pre ++ [a], r', m').2.1.length + (if (pre ++ [a], r', m').2.2 = true then 1 else 0) < 1 + r.length + 1:=by
     cases m' with
     | true=>have:=hc4 rfl; simp; omega
     | false=>simp; omega
    have hvm : ((pre.map fun p=>(g p).1).map (AV.int .i64)) ++ [AV.int .i64 v] = (((pre ++ [a]).map fun p=>(g p).1).map (AV.int .i64)):=by simp [hga]
    have hpl1 : ((pre.map fun p=>(g p).1).map (AV.int .i64)).all AV.pl = true:=pl_map (int_pl .i64)
    have hpl2 : (((pre ++ [a]).map fun p=>(g p).1).map (AV.int .i64)).all AV.pl = true:=pl_map (int_pl .i64)
    have hvl : ((pre.map fun p=>(g p).1).map (AV.int .i64)).length = pre.length:=by simp
    have hvl2 : (((pre ++ [a]).map fun p=>(g p).1).map (AV.int .i64)).length = pre.length + 1:=by simp
    by_cases hp0 : pre = []
    ·have hr : risF ((pre ++ [a]).map fun p=>(g p).1) = true:=by rw [hp0]; rfl
     have f1:=fin hr
     subst hp0
     simp (disch:=first|omega|(simp only[pvl] at *;omega)) only [↓pvd,pva,pvr,bin2,binB2,un1,setCells,List.map,seval,reduceCtorEq]
     refine awR_call qc rfl rfl ?_
     simp (disch:=first|omega|(simp only[pvl] at *;omega)) only [↓pvd,pva,pvr,bin2,binB2,un1,setCells,List.map,seval,reduceCtorEq]
     refine awR_callv rfl (gen_nr q1 rfl) (Nat.le_refl _) ?_
     simp (disch:=first|omega|(simp only[pvl];omega)) only [↓pvd,pva,pvr,bin2,binB2,un1,setCells,List.map,seval,reduceCtorEq,ids_fn,ren_fn,ids_rptr]
     refine ⟨([] ++ [a], r', m'), ?_, f1, hms⟩
     simp [rdiS, hga]
    ·obtain ⟨y, hy1, hy2⟩:=hgo hp0
     have hp1 : 0 < pre.length:=List.length_pos_iff.2 hp0
     have hix : ((pre.length : Int) - 1).toNat = pre.length - 1:=by omega
     generalize hrow : ((pre.map fun p=>(g p).1).map (AV.int .i64)) = row at *
     generalize hrow2 : (((pre ++ [a]).map fun p=>(g p).1).map (AV.int .i64)) = row2 at *
     by_cases hyv : y < v
     ·have f1:=fin (by rw [hy2]; exact decide_eq_true hyv)
      simp (disch:=first|omega|(simp only[pvl] at *;omega)) only [↓pvd,pva,pvr,bin2,binB2,un1,setCells,List.map,seval,reduceCtorEq]
      refine awR_call qc rfl rfl ?_
      simp (disch:=first|omega|(simp only[pvl] at *;omega)) only [↓pvd,pva,pvr,bin2,binB2,un1,setCells,List.map,seval,reduceCtorEq]
      refine awR_callv rfl (gen_nr q1 rfl) (Nat.le_refl _) ?_
      simp (disch:=first|omega|(simp only[pvl];omega)) only [↓pvd,pva,pvr,bin2,binB2,un1,setCells,List.map,seval,reduceCtorEq,ids_fn,ren_fn,ids_rptr,hix,hy1,hvl,ids_all hpl1,ids_all hpl2,ren_all hpl1,ren_all hpl2,hvm]
      refine ⟨(pre ++ [a], r', m'), ?_, f1, hms⟩
      simp [rdiS, hrow2, hvl, hvl2, ← hrow2, hga]
     ·rw [rlR_no (nok (fun h=>by rw [hy2] at h; exact hyv (of_decide_eq_true h.2.2)))]
      simp (disch:=first|omega|(simp only[pvl] at *;omega)) only [↓pvd,pva,pvr,bin2,binB2,un1,setCells,List.map,seval,reduceCtorEq]
      refine awR_call qc rfl rfl ?_
      simp (disch:=first|omega|(simp only[pvl] at *;omega)) only [↓pvd,pva,pvr,bin2,binB2,un1,setCells,List.map,seval,reduceCtorEq]
      refine awR_callv rfl (gen_nr q1 rfl) (Nat.le_refl _) ?_
      simp (disch:=first|omega|(simp only[pvl];omega)) only [↓pvd,pva,pvr,bin2,binB2,un1,setCells,List.map,seval,reduceCtorEq,ids_fn,ren_fn,ids_rptr,hix,hy1,hvl,ids_all hpl1,ids_all hpl2,ren_all hpl1,ren_all hpl2,hvm]
      (refine Ends_rq [] ?_; simp (disch:=first|omega|(simp only[pvl];omega)) only [↓pvd,pva,pvr,bin2,binB2,un1,setCells,List.map,seval,reduceCtorEq]; exact ⟨_,rfl,rfl,rfl⟩)
def rduS (g : List UInt8 → Int × Bool)  (x : List (List UInt8) × List UInt8 × Bool) : St:=⟨[(0, .str x.2.1), (1, .fn 38 []), (6, .vec 0 1 0 x.1.length), (7, .bool x.2.2)], [some ⟨35, (x.1.map fun p=>(g p).1).map (.int .u32), true⟩]⟩
def rduI (g : List UInt8 → Int × Bool) (s : List UInt8) (x : List (List UInt8) × List UInt8 × Bool) : Prop :=
 x.1.length ≤ 16 ∧ (∀ p ∈ x.1, (g p).2 = true) ∧ risF (x.1.map fun p=>(g p).1) = true ∧ x.2.1.length ≤ s.length ∧ sc s = x.1 ++ (if x.2.2 = true then sc x.2.1 else [])
theorem rdu_run (s : List UInt8)  (hs : s.length ≤ 1000) (g : List UInt8 → Int × Bool) (hg : g = rdB)
  (q : ∀ p : List UInt8, p.length ≤ 1000 → Run Tryz.prog 38 [.str p] (.tup [.int .u32 (g p).1, .bool (g p).2])) :
  Run Tryz.prog 70 [.str s, .fn 38 []] (rlR 35 .u32 g (sc s)):=by
 refine Tryz.run70 (by simp) ?_
 unfold Tryz.c70
 simp (disch:=first|omega|(simp only[pvl] at *;omega)) only [↓pvd,pva,pvr,bin2,binB2,un1,setCells,List.map,seval,reduceCtorEq]
 refine aw_loop (rduS g ) (rduI g s) (fun x=>(if x.2.2 = true then 1 else 0) + x.2.1.length + (if x.2.2 = true then 1 else 0)) ([], s, true) ?_ ⟨by simp, by simp, rfl, Nat.le_refl _, by simp⟩ ?_
 ·simp (disch:=first|omega|(simp only[pvl];omega)) only [↓pvd,pva,pvr,bin2,binB2,un1,setCells,List.map,seval,reduceCtorEq,ids_fn,ren_fn,ids_rptr,rduS]
 rintro ⟨pre, r, m⟩ ⟨h1, h2, h3, h4, h5⟩
 simp only at h1 h2 h3 h4 h5
 unfold rduS Tryz.c70b0
 simp only
 cases m with
 | false =>
  rw [if_neg (by simp), List.append_nil] at h5
  have hy : rlF g (sc s) = true:=by rw [h5]; exact rlF_iff.2 ⟨h2, h1, h3⟩
  rw [rlR_yes hy, h5]
  generalize hvs : (pre.map fun p=>(g p).1) = vs at *
  have hvl : pre.length = vs.length:=by rw [← hvs]; simp
  rw [hvl]
  simp (disch:=first|omega|(simp only[pvl] at *;omega)) only [↓pvd,pva,pvr,bin2,binB2,un1,setCells,List.map,seval,reduceCtorEq]
  (refine Ends_rq [[.own 1 35], [.snap]] ?_; simp (disch:=first|omega|(simp only[pvl];omega)) only [↓pvd,pva,pvr,bin2,binB2,un1,setCells,List.map,seval,reduceCtorEq,ids_map (int_pl .u32),ren_map (int_pl .u32),mapO_map (int_nr .u32),rows_map (int_nr .u32)]; exact ⟨_,rfl,rfl,rfl⟩)
 | true =>
  rw [if_pos rfl] at h5
  obtain ⟨hc1, hc2, hc3, hc4⟩:=cut_sc r
  have qc:=cut_run r 44 (by omega)
  unfold cutR at qc
  generalize (cutF 44 r).1 = a at *
  generalize (cutF 44 r).2.1 = r' at *
  generalize (cutF 44 r).2.2 = m' at *
  have q1:=q a (by omega)
  have ha : ∃ t, sc s = pre ++ a :: t ∧ (m' = true → t = sc r') ∧ (m' = false → t = []):=by
   rw [h5, hc1]
   cases m' with
   | true=>exact ⟨sc r', by simp, fun _=>rfl, fun h=>by cases h⟩
   | false=>exact ⟨[], by simp, fun h=>by simp at h, fun _=>rfl⟩
  obtain ⟨t, ht, ht1, ht2⟩:=ha
  have nok : ¬ ((g a).2 = true ∧ pre.length ≤ 15 ∧ risF ((pre ++ [a]).map fun p=>(g p).1) = true) → ¬ rlF g (sc s) = true:=fun h h'=>by
   rw [ht] at h'
   obtain ⟨k1, k2, k3⟩:=rlF_iff.1 h'
   refine h ⟨k1 a (by simp), by simp at k2; omega, ?_⟩
   have e : pre ++ a :: t = (pre ++ [a]) ++ t:=by simp
   rw [e, List.map_append] at k3
   exact risF_app _ _ k3
  generalize hga : g a = ga at *
  obtain ⟨v, ok⟩:=ga
  simp only at q1 nok
  cases ok with
  | false =>
   rw [rlR_no (nok (fun h=>by cases h.1))]
   simp (disch:=first|omega|(simp only[pvl] at *;omega)) only [↓pvd,pva,pvr,bin2,binB2,un1,setCells,List.map,seval,reduceCtorEq]
   refine awR_call qc rfl rfl ?_
   simp (disch:=first|omega|(simp only[pvl] at *;omega)) only [↓pvd,pva,pvr,bin2,binB2,un1,setCells,List.map,seval,reduceCtorEq]
   refine awR_callv rfl (gen_nr q1 rfl) (Nat.le_refl _) ?_
   simp (disch:=first|omega|(simp only[pvl];omega)) only [↓pvd,pva,pvr,bin2,binB2,un1,setCells,List.map,seval,reduceCtorEq,ids_fn,ren_fn,ids_rptr]
   (refine Ends_rq [] ?_; simp (disch:=first|omega|(simp only[pvl];omega)) only [↓pvd,pva,pvr,bin2,binB2,un1,setCells,List.map,seval,reduceCtorEq]; exact ⟨_,rfl,rfl,rfl⟩)
  | true =>
   by_cases hl : pre.length = 16
   ·rw [rlR_no (nok (fun h=>by omega))]
    simp (disch:=first|omega|(simp only[pvl] at *;omega)) only [↓pvd,pva,pvr,bin2,binB2,un1,setCells,List.map,seval,reduceCtorEq]
    refine awR_call qc rfl rfl ?_
    simp (disch:=first|omega|(simp only[pvl] at *;omega)) only [↓pvd,pva,pvr,bin2,binB2,un1,setCells,List.map,seval,reduceCtorEq]
    refine awR_callv rfl (gen_nr q1 rfl) (Nat.le_refl _) ?_
    have hvl : ((pre.map fun p=>(g p).1).map (AV.int .u32)).length = 16:=by simp [hl]
    simp (disch:=first|omega|(simp only[pvl];omega)) only [↓pvd,pva,pvr,bin2,binB2,un1,setCells,List.map,seval,reduceCtorEq,ids_fn,ren_fn,ids_rptr,hl,hvl]
    (refine Ends_rq [] ?_; simp (disch:=first|omega|(simp only[pvl];omega)) only [↓pvd,pva,pvr,bin2,binB2,un1,setCells,List.map,seval,reduceCtorEq]; exact ⟨_,rfl,rfl,rfl⟩)
   ·have hgo : (pre ≠ [] → ∃ y, ((pre.map fun p=>(g p).1).map (AV.int .u32))[pre.length - 1]? = some (.int .u32 y) ∧ risF ((pre ++ [a]).map fun p=>(g p).1) = decide (y < v)):=fun hne=>by
     obtain ⟨qs, p, rfl⟩ : ∃ qs p, pre = qs ++ [p]:=⟨pre.dropLast, pre.getLast hne, (List.dropLast_concat_getLast _).symm⟩
     refine ⟨(g p).1, by simp, ?_⟩
     simp only [List.map_append,List.map_cons,List.map_nil] at h3 ⊢
     rw [risF_snoc, h3, hga, Bool.true_and]
    have fin : risF ((pre ++ [a]).map fun p=>(g p).1) = true → rduI g s (pre ++ [a], r', m'):=fun hr=>by
     refine ⟨by simp; omega, fun p hp=>?_, hr, by show r'.length ≤ _; omega, ?_⟩
     ·rcases List.mem_append.1 hp with hp | hp
      ·exact h2 p hp
      ·rw [List.mem_singleton.1 hp, hga]
     ·rw [ht]
      cases m' with
      | true=>rw [if_pos rfl, ht1 rfl]; simp
      | false=>rw [if_neg (by simp), ht2 rfl]; simp
    have hms : (if (pre ++ [a], r', m').2.2 = true then 1 else 0) + (pre ++ [a], r', m').2.1.length + (if (pre ++ [a], r', m').2.2 = true then 1 else 0) < 1 + r.length + 1:=by
     cases m' with
     | true=>have:=hc4 rfl; simp; omega
     | false=>simp; omega
    have hvm : ((pre.map fun p=>(g p).1).map (AV.int .u32)) ++ [AV.int .u32 v] = (((pre ++ [a]).map fun p=>(g p).1).map (AV.int .u32)):=by simp [hga]
    have hpl1 : ((pre.map fun p=>(g p).1).map (AV.int .u32)).all AV.pl = true:=pl_map (int_pl .u32)
    have hpl2 : (((pre ++ [a]).map fun p=>(g p).1).map (AV.int .u32)).all AV.pl = true:=pl_map (int_pl .u32)
    have hvl : ((pre.map fun p=>(g p).1).map (AV.int .u32)).length = pre.length:=by simp
    have hvl2 : (((pre ++ [a]).map fun p=>(g p).1).map (AV.int .u32)).length = pre.length + 1:=by simp
    by_cases hp0 : pre = []
    ·have hr : risF ((pre ++ [a]).map fun p=>(g p).1) = true:=by rw [hp0]; rfl
     have f1:=fin hr
     subst hp0
     simp (disch:=first|omega|(simp only[pvl] at *;omega)) only [↓pvd,pva,pvr,bin2,binB2,un1,setCells,List.map,seval,reduceCtorEq]
     refine awR_call qc rfl rfl ?_
     simp (disch:=first|omega|(simp only[pvl] at *;omega)) only [↓pvd,pva,pvr,bin2,binB2,un1,setCells,List.map,seval,reduceCtorEq]
     refine awR_callv rfl (gen_nr q1 rfl) (Nat.le_refl _) ?_
     simp (disch:=first|omega|(simp only[pvl];omega)) only [↓pvd,pva,pvr,bin2,binB2,un1,setCells,List.map,seval,reduceCtorEq,ids_fn,ren_fn,ids_rptr]
     refine ⟨([] ++ [a], r', m'), ?_, f1, hms⟩
     simp [rduS, hga]
    ·obtain ⟨y, hy1, hy2⟩:=hgo hp0
     have hp1 : 0 < pre.length:=List.length_pos_iff.2 hp0
     have hix : ((pre.length : Int) - 1).toNat = pre.length - 1:=by omega
     generalize hrow : ((pre.map fun p=>(g p).1).map (AV.int .u32)) = row at *
     generalize hrow2 : (((pre ++ [a]).map fun p=>(g p).1).map (AV.int .u32)) = row2 at *
     by_cases hyv : y < v
     ·have f1:=fin (by rw [hy2]; exact decide_eq_true hyv)
      simp (disch:=first|omega|(simp only[pvl] at *;omega)) only [↓pvd,pva,pvr,bin2,binB2,un1,setCells,List.map,seval,reduceCtorEq]
      refine awR_call qc rfl rfl ?_
      simp (disch:=first|omega|(simp only[pvl] at *;omega)) only [↓pvd,pva,pvr,bin2,binB2,un1,setCells,List.map,seval,reduceCtorEq]
      refine awR_callv rfl (gen_nr q1 rfl) (Nat.le_refl _) ?_
      simp (disch:=first|omega|(simp only[pvl];omega)) only [↓pvd,pva,pvr,bin2,binB2,un1,setCells,List.map,seval,reduceCtorEq,ids_fn,ren_fn,ids_rptr,hix,hy1,hvl,ids_all hpl1,ids_all hpl2,ren_all hpl1,ren_all hpl2,hvm]
      refine ⟨(pre ++ [a], r', m'), ?_, f1, hms⟩
      simp [rduS, hrow2, hvl, hvl2, ← hrow2, hga]
     ·rw [rlR_no (nok (fun h=>by rw [hy2] at h; exact hyv (of_decide_eq_true h.2.2)))]
      simp (disch:=first|omega|(simp only[pvl] at *;omega)) only [↓pvd,pva,pvr,bin2,binB2,un1,setCells,List.map,seval,reduceCtorEq]
      refine awR_call qc rfl rfl ?_
      simp (disch:=first|omega|(simp only[pvl] at *;omega)) only [↓pvd,pva,pvr,bin2,binB2,un1,setCells,List.map,seval,reduceCtorEq]
      refine awR_callv rfl (gen_nr q1 rfl) (Nat.le_refl _) ?_
      simp (disch:=first|omega|(simp only[pvl];omega)) only [↓pvd,pva,pvr,bin2,binB2,un1,setCells,List.map,seval,reduceCtorEq,ids_fn,ren_fn,ids_rptr,hix,hy1,hvl,ids_all hpl1,ids_all hpl2,ren_all hpl1,ren_all hpl2,hvm]
      (refine Ends_rq [] ?_; simp (disch:=first|omega|(simp only[pvl];omega)) only [↓pvd,pva,pvr,bin2,binB2,un1,setCells,List.map,seval,reduceCtorEq]; exact ⟨_,rfl,rfl,rfl⟩)
end Go.Proofs
namespace Go.Proofs
open Go.Pv
def gI (least most : Int) (p : List UInt8) : Int × Bool:=Nm.rdF p least most
set_option maxHeartbeats 4000000 in
theorem rdlist_run (s : List UInt8) (least most : Int) (hs : s.length ≤ 1000) : Run Tryz.prog 71 [.str s, .int .i64 least, .int .i64 most] (rlR 3 .i64 (gI least most) (sc s)):=by
 have q:=rdi_run s least most hs (gI least most) rfl (fun p hp=>by have:=Nm.rl1_run p least most (by omega); unfold Nm.rdR at this; exact this)
 refine Tryz.run71 (by simp) ?_
 unfold Tryz.c71
 by_cases h : rlF (gI least most) (sc s) = true
 ·rw [rlR_yes h] at q ⊢
  generalize ((sc s).map fun p=>(gI least most p).1) = vs at *
  simp (disch:=first|omega|(simp only[pvl] at *;omega)) only [↓pvd,pva,pvr,bin2,binB2,un1,setCells,List.map,seval,reduceCtorEq]
  refine awR_callR (ms:=[]) q (by simp (disch:=first|omega|(simp only[pvl];omega)) only [↓pvd,pva,pvr,bin2,binB2,un1,setCells,List.map,seval,reduceCtorEq,snp_fn,snp_eptr,rws_fn,rws_eptr,Option.toList_some]; rfl) (by simp (disch:=first|omega|(simp only[pvl];omega)) only [↓pvd,pva,pvr,bin2,binB2,un1,setCells,List.map,seval,reduceCtorEq,snp_fn,snp_eptr,rws_fn,rws_eptr,Option.toList_some]) (by first | rfl | simp [AV.pT, AV.pA, AV.pC, AV.p1, AV.p0]) ?_
  simp (disch:=first|omega|(simp only[pvl] at *;omega)) only [↓pvd,pva,pvr,bin2,binB2,un1,setCells,List.map,seval,reduceCtorEq]
  (refine Ends_rq [[.own 1 3], [.snap]] ?_; simp (disch:=first|omega|(simp only[pvl];omega)) only [↓pvd,pva,pvr,bin2,binB2,un1,setCells,List.map,seval,reduceCtorEq,ids_map (int_pl .i64),ren_map (int_pl .i64),mapO_map (int_nr .i64),rows_map (int_nr .i64)]; exact ⟨_,rfl,rfl,rfl⟩)
 ·rw [rlR_no h] at q ⊢
  simp (disch:=first|omega|(simp only[pvl] at *;omega)) only [↓pvd,pva,pvr,bin2,binB2,un1,setCells,List.map,seval,reduceCtorEq]
  refine awR_callR (ms:=[]) q (by simp (disch:=first|omega|(simp only[pvl];omega)) only [↓pvd,pva,pvr,bin2,binB2,un1,setCells,List.map,seval,reduceCtorEq,snp_fn,snp_eptr,rws_fn,rws_eptr,Option.toList_some]; rfl) (by simp (disch:=first|omega|(simp only[pvl];omega)) only [↓pvd,pva,pvr,bin2,binB2,un1,setCells,List.map,seval,reduceCtorEq,snp_fn,snp_eptr,rws_fn,rws_eptr,Option.toList_some]) (by first | rfl | simp [AV.pT, AV.pA, AV.pC, AV.p1, AV.p0]) ?_
  simp (disch:=first|omega|(simp only[pvl] at *;omega)) only [↓pvd,pva,pvr,bin2,binB2,un1,setCells,List.map,seval,reduceCtorEq]
  (refine Ends_rq [] ?_; simp (disch:=first|omega|(simp only[pvl];omega)) only [↓pvd,pva,pvr,bin2,binB2,un1,setCells,List.map,seval,reduceCtorEq]; exact ⟨_,rfl,rfl,rfl⟩)
theorem rdaddrs_run (s : List UInt8) (hs : s.length ≤ 1000) : Run Tryz.prog 41 [.str s] (rlR 35 .u32 rdB (sc s)):=by
 have q:=rdu_run s hs rdB rfl (fun p hp=>by have:=read_run p (by omega); rw [rdB_eq] at this; exact this)
 refine Tryz.run41 (by simp) ?_
 unfold Tryz.c41
 by_cases h : rlF rdB (sc s) = true
 ·rw [rlR_yes h] at q ⊢
  generalize ((sc s).map fun p=>(rdB p).1) = vs at *
  simp (disch:=first|omega|(simp only[pvl] at *;omega)) only [↓pvd,pva,pvr,bin2,binB2,un1,setCells,List.map,seval,reduceCtorEq]
  refine awR_callR (ms:=[]) q (by simp (disch:=first|omega|(simp only[pvl];omega)) only [↓pvd,pva,pvr,bin2,binB2,un1,setCells,List.map,seval,reduceCtorEq,snp_fn,snp_eptr,rws_fn,rws_eptr,Option.toList_some]; rfl) (by simp (disch:=first|omega|(simp only[pvl];omega)) only [↓pvd,pva,pvr,bin2,binB2,un1,setCells,List.map,seval,reduceCtorEq,snp_fn,snp_eptr,rws_fn,rws_eptr,Option.toList_some]) (by first | rfl | simp [AV.pT, AV.pA, AV.pC, AV.p1, AV.p0]) ?_
  simp (disch:=first|omega|(simp only[pvl] at *;omega)) only [↓pvd,pva,pvr,bin2,binB2,un1,setCells,List.map,seval,reduceCtorEq]
  (refine Ends_rq [[.own 1 35], [.snap]] ?_; simp (disch:=first|omega|(simp only[pvl];omega)) only [↓pvd,pva,pvr,bin2,binB2,un1,setCells,List.map,seval,reduceCtorEq,ids_map (int_pl .u32),ren_map (int_pl .u32),mapO_map (int_nr .u32),rows_map (int_nr .u32)]; exact ⟨_,rfl,rfl,rfl⟩)
 ·rw [rlR_no h] at q ⊢
  simp (disch:=first|omega|(simp only[pvl] at *;omega)) only [↓pvd,pva,pvr,bin2,binB2,un1,setCells,List.map,seval,reduceCtorEq]
  refine awR_callR (ms:=[]) q (by simp (disch:=first|omega|(simp only[pvl];omega)) only [↓pvd,pva,pvr,bin2,binB2,un1,setCells,List.map,seval,reduceCtorEq,snp_fn,snp_eptr,rws_fn,rws_eptr,Option.toList_some]; rfl) (by simp (disch:=first|omega|(simp only[pvl];omega)) only [↓pvd,pva,pvr,bin2,binB2,un1,setCells,List.map,seval,reduceCtorEq,snp_fn,snp_eptr,rws_fn,rws_eptr,Option.toList_some]) (by first | rfl | simp [AV.pT, AV.pA, AV.pC, AV.p1, AV.p0]) ?_
  simp (disch:=first|omega|(simp only[pvl] at *;omega)) only [↓pvd,pva,pvr,bin2,binB2,un1,setCells,List.map,seval,reduceCtorEq]
  (refine Ends_rq [] ?_; simp (disch:=first|omega|(simp only[pvl];omega)) only [↓pvd,pva,pvr,bin2,binB2,un1,setCells,List.map,seval,reduceCtorEq]; exact ⟨_,rfl,rfl,rfl⟩)
end Go.Proofs
namespace Go.Proofs
open Go.Pv
theorem ris_next {l : List Int} {k : Nat} (h : k < l.length) : risF (l.take (k + 1)) = (risF (l.take k) && decide (k = 0 ∨ l[k - 1]! < l[k]!)):=by
 cases k with
 | zero =>
  rw [take_snoc h]
  simp [risF]
 | succ k =>
  rw [take_snoc h, take_snoc (by omega : k < l.length), risF_snoc]
  simp
theorem ris_no {l : List Int} {k : Nat} (h : k < l.length) (h0 : ¬ (k = 0 ∨ l[k - 1]! < l[k]!)) : risF l = false:=by
 cases hr : risF l with
 | false=>rfl
 | true =>
  have e : l = l.take (k + 1) ++ l.drop (k + 1):=(List.take_append_drop _ _).symm
  rw [e] at hr
  have:=risF_app _ _ hr
  rw [ris_next h, decide_eq_false h0, Bool.and_false] at this
  cases this
def rsF (l : List Int) (a b : Int) : Bool:=(l.all fun n=>decide (a ≤ n ∧ n ≤ b)) && risF l && decide (0 < l.length ∧ l.length ≤ 16)
theorem rs_no1 {l : List Int} {a b : Int} {k : Nat} (h : k < l.length) (h0 : ¬ (a ≤ l[k]! ∧ l[k]! ≤ b)) : rsF l a b = false:=by
 have : (l.all fun n=>decide (a ≤ n ∧ n ≤ b)) = false:=by
  rw [List.all_eq_false]
  exact ⟨l[k]!, by rw [getElem!_pos l k h]; exact List.getElem_mem h, by rw [decide_eq_false h0]; simp⟩
 unfold rsF
 rw [this]
 rfl
theorem rs_no2 {l : List Int} {a b : Int} {k : Nat} (h : k < l.length) (h0 : ¬ (k = 0 ∨ l[k - 1]! < l[k]!)) : rsF l a b = false:=by
 unfold rsF
 rw [ris_no h h0, Bool.and_false, Bool.false_and]
theorem rs_yes {l : List Int} {a b : Int} (h : ∀ j < l.length, a ≤ l[j]! ∧ l[j]! ≤ b) (h0 : risF l = true) : rsF l a b = decide (0 < l.length ∧ l.length ≤ 16):=by
 have : (l.all fun n=>decide (a ≤ n ∧ n ≤ b)) = true:=by
  rw [List.all_eq_true]
  intro c hc
  obtain ⟨k, hk, rfl⟩:=List.mem_iff_getElem.1 hc
  have:=h k hk
  rw [getElem!_pos l k hk] at this
  exact decide_eq_true this
 unfold rsF
 rw [this, h0]
 simp
theorem ising_run (l : List Int) (f : Bool) (a b : Int) (hl : l.length ≤ 100000) : Run Tryz.prog 124 [.sl 1 (l.map (.int .i64)) f, .int .i64 a, .int .i64 b] (.bool (rsF l a b)):=by
 refine Tryz.run124 (by simp) ?_
 unfold Tryz.c124
 simp (disch:=first|omega|(simp only[pvl] at *;omega)) only [↓pvd,pva,pvr,bin2,binB2,un1,setCells,List.map,seval,reduceCtorEq]
 refine aw_loop (fun k : Nat=>⟨[(0, .sl 1 (l.map (.int .i64)) f), (1, .int .i64 a), (2, .int .i64 b), (9, .sl 1 (l.map (.int .i64)) f), (10, .int .i64 l.length), (11, .int .i64 k)], []⟩) (fun k=>k ≤ l.length ∧ (∀ j < k, a ≤ l[j]! ∧ l[j]! ≤ b) ∧ risF (l.take k) = true) (fun k=>l.length - k) 0 ?_ ⟨by omega, by simp, rfl⟩ ?_
 ·simp (disch:=first|omega|(simp only[pvl] at *;omega)) only [↓pvd,pva,pvr,bin2,binB2,un1,setCells,List.map,seval,reduceCtorEq]
  try simp
 rintro k ⟨hk, hp, hr⟩
 unfold Tryz.c124b0
 by_cases hx : k < l.length
 ·have hgi : (l.map (AV.int .i64))[k]? = some (.int .i64 l[k]!):=map_get hx
  have hn:=ris_next hx
  rw [hr, Bool.true_and] at hn
  by_cases h1 : a ≤ l[k]! ∧ l[k]! ≤ b
  ·have nx : (k = 0 ∨ l[k - 1]! < l[k]!) → k + 1 ≤ l.length ∧ (∀ j < k + 1, a ≤ l[j]! ∧ l[j]! ≤ b) ∧ risF (l.take (k + 1)) = true:=fun h=>⟨hx, fun j hj=>by
    by_cases e : j = k
    ·rw [e]; exact h1
    ·exact hp j (by omega), by rw [hn]; exact decide_eq_true h⟩
   have h2:=h1.1
   have h3:=h1.2
   by_cases h0 : k = 0
   ·have:=nx (.inl h0)
    subst h0
    repeat' (first | (simp (disch:=first|omega|(simp only[pvl];omega)) only [↓pvd,pva,pvr,bin2,binB2,un1,setCells,List.map,seval,reduceCtorEq,hgi,still]) | (with_reducible first|refine condP_d (fun _=>?_) (fun _=>?_)|refine guardP_d0 (fun _=>?_) (fun _=>?_)|refine guardP_d1 (fun _=>?_) (fun _=>?_)|refine condP_any ?_ ?_) | (refine Ends_rq [] ?_; simp (disch:=first|omega|(simp only[pvl];omega)) only [↓pvd,pva,pvr,bin2,binB2,un1,setCells,List.map,seval,reduceCtorEq]; exact ⟨_,rfl,rfl,rfl⟩))
    exact ⟨0 + 1, rfl, this, by omega⟩
   ·have hix : ((k : Int) - 1).toNat = k - 1:=by omega
    have hgj : (l.map (AV.int .i64))[k - 1]? = some (.int .i64 l[k - 1]!):=map_get (by omega)
    have : 0 < k:=by omega
    by_cases h4 : l[k - 1]! < l[k]!
    ·have:=nx (.inr h4)
     repeat' (first | (simp (disch:=first|omega|(simp only[pvl];omega)) only [↓pvd,pva,pvr,bin2,binB2,un1,setCells,List.map,seval,reduceCtorEq,hgi,hix,hgj,still]) | (with_reducible first|refine condP_d (fun _=>?_) (fun _=>?_)|refine guardP_d0 (fun _=>?_) (fun _=>?_)|refine guardP_d1 (fun _=>?_) (fun _=>?_)|refine condP_any ?_ ?_) | (refine Ends_rq [] ?_; simp (disch:=first|omega|(simp only[pvl];omega)) only [↓pvd,pva,pvr,bin2,binB2,un1,setCells,List.map,seval,reduceCtorEq]; exact ⟨_,rfl,rfl,rfl⟩))
     exact ⟨k + 1, rfl, this, by omega⟩
    ·rw [rs_no2 hx (fun h=>h.elim h0 h4)]
     repeat' (first | (simp (disch:=first|omega|(simp only[pvl];omega)) only [↓pvd,pva,pvr,bin2,binB2,un1,setCells,List.map,seval,reduceCtorEq,hgi,hix,hgj,still]) | (with_reducible first|refine condP_d (fun _=>?_) (fun _=>?_)|refine guardP_d0 (fun _=>?_) (fun _=>?_)|refine guardP_d1 (fun _=>?_) (fun _=>?_)|refine condP_any ?_ ?_) | (refine Ends_rq [] ?_; simp (disch:=first|omega|(simp only[pvl];omega)) only [↓pvd,pva,pvr,bin2,binB2,un1,setCells,List.map,seval,reduceCtorEq]; exact ⟨_,rfl,rfl,rfl⟩))
  ·rw [rs_no1 hx h1]
   by_cases h2 : l[k]! < a
   ·repeat' (first | (simp (disch:=first|omega|(simp only[pvl];omega)) only [↓pvd,pva,pvr,bin2,binB2,un1,setCells,List.map,seval,reduceCtorEq,hgi,still]) | (with_reducible first|refine condP_d (fun _=>?_) (fun _=>?_)|refine guardP_d0 (fun _=>?_) (fun _=>?_)|refine guardP_d1 (fun _=>?_) (fun _=>?_)|refine condP_any ?_ ?_) | (refine Ends_rq [] ?_; simp (disch:=first|omega|(simp only[pvl];omega)) only [↓pvd,pva,pvr,bin2,binB2,un1,setCells,List.map,seval,reduceCtorEq]; exact ⟨_,rfl,rfl,rfl⟩))
   ·have : b < l[k]!:=by omega
    repeat' (first | (simp (disch:=first|omega|(simp only[pvl];omega)) only [↓pvd,pva,pvr,bin2,binB2,un1,setCells,List.map,seval,reduceCtorEq,hgi,still]) | (with_reducible first|refine condP_d (fun _=>?_) (fun _=>?_)|refine guardP_d0 (fun _=>?_) (fun _=>?_)|refine guardP_d1 (fun _=>?_) (fun _=>?_)|refine condP_any ?_ ?_) | (refine Ends_rq [] ?_; simp (disch:=first|omega|(simp only[pvl];omega)) only [↓pvd,pva,pvr,bin2,binB2,un1,setCells,List.map,seval,reduceCtorEq]; exact ⟨_,rfl,rfl,rfl⟩))
 ·have e : k = l.length:=by omega
  subst e
  rw [List.take_length] at hr
  rw [rs_yes hp hr]
  by_cases h1 : 0 < l.length
  ·by_cases h2 : l.length ≤ 16
   ·rw [decide_eq_true ⟨h1, h2⟩]
    repeat' (first | (simp (disch:=first|omega|(simp only[pvl];omega)) only [↓pvd,pva,pvr,bin2,binB2,un1,setCells,List.map,seval,reduceCtorEq,List.length_map,still]) | (with_reducible first|refine condP_d (fun _=>?_) (fun _=>?_)|refine guardP_d0 (fun _=>?_) (fun _=>?_)|refine guardP_d1 (fun _=>?_) (fun _=>?_)|refine condP_any ?_ ?_) | (refine Ends_rq [] ?_; simp (disch:=first|omega|(simp only[pvl];omega)) only [↓pvd,pva,pvr,bin2,binB2,un1,setCells,List.map,seval,reduceCtorEq]; exact ⟨_,rfl,rfl,rfl⟩))
   ·rw [decide_eq_false (fun h=>h2 h.2)]
    repeat' (first | (simp (disch:=first|omega|(simp only[pvl];omega)) only [↓pvd,pva,pvr,bin2,binB2,un1,setCells,List.map,seval,reduceCtorEq,List.length_map,still]) | (with_reducible first|refine condP_d (fun _=>?_) (fun _=>?_)|refine guardP_d0 (fun _=>?_) (fun _=>?_)|refine guardP_d1 (fun _=>?_) (fun _=>?_)|refine condP_any ?_ ?_) | (refine Ends_rq [] ?_; simp (disch:=first|omega|(simp only[pvl];omega)) only [↓pvd,pva,pvr,bin2,binB2,un1,setCells,List.map,seval,reduceCtorEq]; exact ⟨_,rfl,rfl,rfl⟩))
  ·rw [decide_eq_false (fun h=>h1 h.1)]
   repeat' (first | (simp (disch:=first|omega|(simp only[pvl];omega)) only [↓pvd,pva,pvr,bin2,binB2,un1,setCells,List.map,seval,reduceCtorEq,List.length_map,still]) | (with_reducible first|refine condP_d (fun _=>?_) (fun _=>?_)|refine guardP_d0 (fun _=>?_) (fun _=>?_)|refine guardP_d1 (fun _=>?_) (fun _=>?_)|refine condP_any ?_ ?_) | (refine Ends_rq [] ?_; simp (disch:=first|omega|(simp only[pvl];omega)) only [↓pvd,pva,pvr,bin2,binB2,un1,setCells,List.map,seval,reduceCtorEq]; exact ⟨_,rfl,rfl,rfl⟩))
end Go.Proofs
namespace Go.Proofs
namespace Mc
open Go.Pv
theorem shift_run (i : Int) (h : 0 ≤ i) (h' : i ≤ 5) : Run Tryz.prog 153 [.int .i64 i] (.int .u64 (8 * (5 - i))):=by
 refine Tryz.run153 (by simp) ?_
 unfold Tryz.c153
 simp (disch:=first|omega|(simp only[pvl] at *;omega)) only [↓pvd,pva,pvr,bin2,binB2,un1,setCells,List.map,seval,reduceCtorEq]
 (refine Ends_rq [] ?_; simp (disch:=first|omega|(simp only[pvl];omega)) only [↓pvd,pva,pvr,bin2,binB2,un1,setCells,List.map,seval,reduceCtorEq]; exact ⟨_,rfl,rfl,rfl⟩)
def dg (c : UInt8) : Int:=if 48 ≤ c.toNat ∧ c.toNat ≤ 57 then c.toNat - 48 else if 97 ≤ c.toNat ∧ c.toNat ≤ 102 then c.toNat - 87 else 16
theorem digit_run (c : UInt8) : Run Tryz.prog 99 [.int .u8 c.toNat] (.int .u64 (dg c)):=by
 have hc:=c.toNat_lt
 refine Tryz.run99 (by simp) ?_
 unfold Tryz.c99
 repeat' (first | simp (disch:=first|omega|(simp only[pvl];omega)) only [↓pvd,pva,pvr,bin2,binB2,un1,setCells,List.map,seval,reduceCtorEq] | (with_reducible first|refine condP_d (fun _=>?_) (fun _=>?_)|refine guardP_d0 (fun _=>?_) (fun _=>?_)|refine guardP_d1 (fun _=>?_) (fun _=>?_)|refine condP_any ?_ ?_))
 all_goals ((unfold dg; simp (disch:=omega) only [if_pos,if_neg]); refine Ends_rq [] ?_; simp (disch:=first|omega|(simp only[pvl] at *;omega)) only [↓pvd,pva,pvr,bin2,binB2,un1,setCells,List.map,seval,reduceCtorEq]; exact ⟨_, rfl, by first | rfl | (simp only [AV.int.injEq,true_and]; omega), rfl⟩)
end Mc
end Go.Proofs
namespace Go.Proofs
namespace Mc
open Go.Pv
theorem nat_and_pow (n j : Nat) : n &&& 2 ^ j = n / 2 ^ j % 2 * 2 ^ j:=by
 apply Nat.eq_of_testBit_eq
 intro i
 rw [Nat.testBit_and, Nat.testBit_two_pow, Nat.testBit_mul_two_pow]
 have e : n / 2 ^ j % 2 = n / 2 ^ j % 2 ^ 1:=by simp
 rw [e, Nat.testBit_mod_two_pow, Nat.testBit_div_two_pow]
 by_cases h : j = i
 ·subst h; simp
 ·by_cases h2 : j ≤ i
  ·simp [h]; omega
  ·simp [h, h2]
theorem and_40 {m : Int} (h : 0 ≤ m) (h' : m < 18446744073709551616) : and2 .u64 m 1099511627776 = m / 1099511627776 % 2 * 1099511627776:=by
 obtain ⟨n, rfl⟩:=Int.eq_ofNat_of_zero_le h
 unfold and2
 rw [BitVec.toNat_and, ofInt_toNat h (by rw [bits_u64]; omega), ofInt_toNat (by omega) (by rw [bits_u64]; omega)]
 have e : (1099511627776 : Int).toNat = 2 ^ 40:=rfl
 rw [e, Int.toNat_natCast, nat_and_pow, wrap_u64]
 omega
theorem group_run (m : Int) (h : 0 ≤ m) (h' : m < 18446744073709551616) : Run Tryz.prog 101 [.int .u64 m] (.bool (decide (m / 1099511627776 % 2 = 1))):=by
 refine Tryz.run101 (by simp) ?_
 unfold Tryz.c101
 simp (disch:=first|omega|(simp only[pvl];omega)) only [↓pvd,pva,pvr,bin2,binB2,un1,setCells,List.map,seval,reduceCtorEq,and_40]
 refine Ends_rq [] ?_
 simp (disch:=first|omega|(simp only[pvl] at *;omega)) only [↓pvd,pva,pvr,bin2,binB2,un1,setCells,List.map,seval,reduceCtorEq]
 exact ⟨_, rfl, by simp only [AV.bool.injEq,decide_eq_decide]; omega, rfl⟩
def ish (m : Int) : Int × Bool:=if m / 4294967296 % 65536 = 512 then (m % 4294967296, true) else (0, false)
theorem ishost_run (m : Int) (h : 0 ≤ m) (h' : m < 18446744073709551616) : Run Tryz.prog 100 [.int .u64 m] (.tup [.int .u32 (ish m).1, .bool (ish m).2]):=by
 refine Tryz.run100 (by simp) ?_
 unfold Tryz.c100
 repeat' (first | simp (disch:=first|omega|(simp only[pvl];omega)) only [↓pvd,pva,pvr,bin2,binB2,un1,setCells,List.map,seval,reduceCtorEq] | (with_reducible first|refine condP_d (fun _=>?_) (fun _=>?_)|refine guardP_d0 (fun _=>?_) (fun _=>?_)|refine guardP_d1 (fun _=>?_) (fun _=>?_)|refine condP_any ?_ ?_))
 all_goals ((unfold ish; simp (disch:=omega) only [if_pos,if_neg]); refine Ends_rq [] ?_; simp (disch:=first|omega|(simp only[pvl] at *;omega)) only [↓pvd,pva,pvr,bin2,binB2,un1,setCells,List.map,seval,reduceCtorEq]; exact ⟨_, rfl, by first | rfl | (simp only [AV.tup.injEq,List.cons.injEq,AV.int.injEq,true_and,and_true]; omega), rfl⟩)
theorem take_snoc {α : Type} [Inhabited α] {l : List α} {k : Nat} (h : k < l.length) : l.take (k + 1) = l.take k ++ [l[k]!]:=by
 rw [List.take_succ_eq_append_getElem h]
 simp [h]
end Mc
end Go.Proofs
namespace Go.Proofs
namespace Mc
open Go.Pv
def hx (n : Int) : UInt8:=[48, 49, 50, 51, 52, 53, 54, 55, 56, 57, 97, 98, 99, 100, 101, 102][n.toNat]!
theorem hx_get {n : Int} (h : 0 ≤ n) (h' : n < 16) : Option.map bv (([48, 49, 50, 51, 52, 53, 54, 55, 56, 57, 97, 98, 99, 100, 101, 102] : List UInt8)[n.toNat]?) = some (bv (hx n)):=by
 obtain ⟨k, rfl⟩:=Int.eq_ofNat_of_zero_le h
 have : k < 16:=by omega
 unfold hx
 rw [Int.toNat_natCast, List.getElem?_eq_getElem (by simpa using this), List.getElem!_eq_getElem?_getD, List.getElem?_eq_getElem (by simpa using this)]
 rfl
def tx (m : Int) : List UInt8 :=
 [hx (m / 1099511627776 % 256 / 16), hx (m / 1099511627776 % 256 % 16), 58, hx (m / 4294967296 % 256 / 16), hx (m / 4294967296 % 256 % 16), 58, hx (m / 16777216 % 256 / 16), hx (m / 16777216 % 256 % 16), 58,
  hx (m / 65536 % 256 / 16), hx (m / 65536 % 256 % 16), 58, hx (m / 256 % 256 / 16), hx (m / 256 % 256 % 16), 58, hx (m % 256 / 16), hx (m % 256 % 16)]
theorem text_run (m : Int) (h : 0 ≤ m) (h' : m < 18446744073709551616) : Run Tryz.prog 138 [.int .u64 m] (.str (tx m)):=by
 refine Tryz.run138 (by simp) ?_
 unfold Tryz.c138
 simp (disch:=first|omega|(simp only[pvl] at *;omega)) only [↓pvd,pva,pvr,bin2,binB2,un1,setCells,List.map,seval,reduceCtorEq]
 refine aw_loop (fun k : Nat=>⟨[(0, .int .u64 m), (3, .vec 0 1 0 (3 * k - 1)), (6, .int .i64 k)], [some ⟨5, bys ((tx m).take (3 * k - 1)), true⟩]⟩) (fun k=>k ≤ 6) (fun k=>6 - k) 0 ?_ (by omega) ?_
 ·simp (disch:=first|omega|(simp only[pvl] at *;omega)) only [↓pvd,pva,pvr,bin2,binB2,un1,setCells,List.map,seval,reduceCtorEq]
 intro k hk
 have hk' : k = 0 ∨ k = 1 ∨ k = 2 ∨ k = 3 ∨ k = 4 ∨ k = 5 ∨ k = 6:=by omega
 unfold Tryz.c138b0
 rcases hk' with rfl | rfl | rfl | rfl | rfl | rfl | rfl
 ·simp (disch:=first|omega|(simp only[pvl];omega)) only [↓pvd,pva,pvr,bin2,binB2,un1,setCells,List.map,seval,reduceCtorEq,tx]
  refine awR_call (shift_run 0 (by omega) (by omega)) rfl rfl ?_
  simp (disch:=first|omega|(simp only[pvl];omega)) only [↓pvd,pva,pvr,bin2,binB2,un1,setCells,List.map,seval,reduceCtorEq,hx_get]
  refine ⟨1, ?_, by omega, by omega⟩
  rfl
 ·simp (disch:=first|omega|(simp only[pvl];omega)) only [↓pvd,pva,pvr,bin2,binB2,un1,setCells,List.map,seval,reduceCtorEq,tx]
  refine awR_call (shift_run 1 (by omega) (by omega)) rfl rfl ?_
  simp (disch:=first|omega|(simp only[pvl];omega)) only [↓pvd,pva,pvr,bin2,binB2,un1,setCells,List.map,seval,reduceCtorEq,hx_get]
  refine ⟨2, ?_, by omega, by omega⟩
  rfl
 ·simp (disch:=first|omega|(simp only[pvl];omega)) only [↓pvd,pva,pvr,bin2,binB2,un1,setCells,List.map,seval,reduceCtorEq,tx]
  refine awR_call (shift_run 2 (by omega) (by omega)) rfl rfl ?_
  simp (disch:=first|omega|(simp only[pvl];omega)) only [↓pvd,pva,pvr,bin2,binB2,un1,setCells,List.map,seval,reduceCtorEq,hx_get]
  refine ⟨3, ?_, by omega, by omega⟩
  rfl
 ·simp (disch:=first|omega|(simp only[pvl];omega)) only [↓pvd,pva,pvr,bin2,binB2,un1,setCells,List.map,seval,reduceCtorEq,tx]
  refine awR_call (shift_run 3 (by omega) (by omega)) rfl rfl ?_
  simp (disch:=first|omega|(simp only[pvl];omega)) only [↓pvd,pva,pvr,bin2,binB2,un1,setCells,List.map,seval,reduceCtorEq,hx_get]
  refine ⟨4, ?_, by omega, by omega⟩
  rfl
 ·simp (disch:=first|omega|(simp only[pvl];omega)) only [↓pvd,pva,pvr,bin2,binB2,un1,setCells,List.map,seval,reduceCtorEq,tx]
  refine awR_call (shift_run 4 (by omega) (by omega)) rfl rfl ?_
  simp (disch:=first|omega|(simp only[pvl];omega)) only [↓pvd,pva,pvr,bin2,binB2,un1,setCells,List.map,seval,reduceCtorEq,hx_get]
  refine ⟨5, ?_, by omega, by omega⟩
  rfl
 ·simp (disch:=first|omega|(simp only[pvl];omega)) only [↓pvd,pva,pvr,bin2,binB2,un1,setCells,List.map,seval,reduceCtorEq,tx]
  refine awR_call (shift_run 5 (by omega) (by omega)) rfl rfl ?_
  simp (disch:=first|omega|(simp only[pvl];omega)) only [↓pvd,pva,pvr,bin2,binB2,un1,setCells,List.map,seval,reduceCtorEq,hx_get,Int.ediv_one,Int.sub_self,Int.mul_zero,Int.pow_zero]
  refine ⟨6, ?_, by omega, by omega⟩
  rfl
 ·have hl : (tx m).length = 17:=rfl
  have ht : (tx m).take (3 * 6 - 1) = tx m:=rfl
  rw [ht]
  generalize tx m = t at *
  simp (disch:=first|omega|(simp only[pvl] at *;omega)) only [↓pvd,pva,pvr,bin2,binB2,un1,setCells,List.map,seval,reduceCtorEq]
  (refine Ends_rq [] ?_; simp (disch:=first|omega|(simp only[pvl];omega)) only [↓pvd,pva,pvr,bin2,binB2,un1,setCells,List.map,seval,reduceCtorEq]; exact ⟨_,rfl,rfl,rfl⟩)
end Mc
end Go.Proofs
namespace Go.Proofs
namespace Mc
open Go.Pv
def num (s : List UInt8) : Nat → Int
 | 0=>0
 | k + 1=>num s k * 256 + (dg s[3 * k]! * 16 + dg s[3 * k + 1]!)
def okR (s : List UInt8) (k : Nat) : Prop:=∀ i, i < k → dg s[3 * i]! ≤ 15 ∧ dg s[3 * i + 1]! ≤ 15 ∧ (i + 1 < 6 → s[3 * i + 2]!.toNat = 58)
theorem dg_b (c : UInt8) : 0 ≤ dg c ∧ dg c ≤ 16:=by
 have:=c.toNat_lt
 unfold dg; split
 ·omega
 ·split <;> omega
theorem num_b (s : List UInt8) (k : Nat) (h : okR s k) : 0 ≤ num s k ∧ num s k < 256 ^ k:=by
 induction k with
 | zero=>simp [num]
 | succ k ih =>
  have h1:=ih (fun i hi=>h i (by omega))
  have h2:=h k (by omega)
  have d1:=dg_b s[3 * k]!
  have d2:=dg_b s[3 * k + 1]!
  rw [num, Int.pow_succ]
  generalize (256 : Int) ^ k = q at *
  omega
theorem num_s (s : List UInt8) (k : Nat) (hk : k < 6) (h : okR s k) : 0 ≤ num s k ∧ num s k < 1099511627776:=by
 have h1:=num_b s k h
 have : (256 : Int) ^ k ≤ 256 ^ 5:=by exact_mod_cast Nat.pow_le_pow_right (by decide) (by omega)
 omega
open Classical in
noncomputable def rdm (s : List UInt8) : Int × Bool:=if s.length = 17 ∧ okR s 6 then (num s 6, true) else (0, false)
theorem str_get {s : List UInt8} {k : Nat} (h : k < s.length) : Option.map bv (s[k]?) = some (.int .u8 (s[k]!).toNat):=by
 rw [List.getElem?_eq_getElem h, List.getElem!_eq_getElem?_getD, List.getElem?_eq_getElem h]; rfl
theorem or_u64_4 {a b : Int} (ha : 0 ≤ a) (ha' : a < 18446744073709551616) (hb : 0 ≤ b) (hb' : b < 16) (hd : a % 16 = 0) : or2 .u64 a b = a + b :=
 or2_un (j:=4) rfl ha ha' hb hb' (by decide) hd
theorem read_run (s : List UInt8) (hm : s.length ≤ maxLen) : Run Tryz.prog 65 [.str s] (.tup [.int .u64 (rdm s).1, .bool (rdm s).2]):=by
 unfold maxLen at hm
 refine Tryz.run65 (by simp) ?_
 unfold Tryz.c65
 simp (disch:=first|omega|(simp only[pvl] at *;omega)) only [↓pvd,pva,pvr,bin2,binB2,un1,setCells,List.map,seval,reduceCtorEq]
 refine condP_d (fun hl=>?_) (fun hl=>?_)
 ·have e : rdm s = (0, false):=by unfold rdm; rw [if_neg]; rintro ⟨h1, _⟩; omega
  rw [e]
  simp (disch:=first|omega|(simp only[pvl] at *;omega)) only [↓pvd,pva,pvr,bin2,binB2,un1,setCells,List.map,seval,reduceCtorEq]
  (refine Ends_rq [] ?_; simp (disch:=first|omega|(simp only[pvl];omega)) only [↓pvd,pva,pvr,bin2,binB2,un1,setCells,List.map,seval,reduceCtorEq]; exact ⟨_,rfl,rfl,rfl⟩)
 have hl' : s.length = 17:=by omega
 simp (disch:=first|omega|(simp only[pvl] at *;omega)) only [↓pvd,pva,pvr,bin2,binB2,un1,setCells,List.map,seval,reduceCtorEq]
 refine aw_loop (fun k : Nat=>⟨[(0, .str s), (4, .int .u64 (num s k)), (11, .int .i64 k)], []⟩) (fun k=>k ≤ 6 ∧ okR s k) (fun k=>6 - k) 0 ?_ ⟨by omega, fun i hi=>by omega⟩ ?_
 ·simp (disch:=first|omega|(simp only[pvl] at *;omega)) only [↓pvd,pva,pvr,bin2,binB2,un1,setCells,List.map,seval,reduceCtorEq]
  rfl
 intro k ⟨hk, hok⟩
 unfold Tryz.c65b0
 simp (disch:=first|omega|(simp only[pvl] at *;omega)) only [↓pvd,pva,pvr,bin2,binB2,un1,setCells,List.map,seval,reduceCtorEq]
 refine condP_d (fun hc=>?_) (fun hc=>?_)
 ·have hn:=num_s s k (by omega) hok
  have d1:=dg_b s[3 * k]!
  have d2:=dg_b s[3 * k + 1]!
  have g1:=digit_run s[3 * k]!
  have g2:=digit_run s[3 * k + 1]!
  simp (disch:=first|omega|(simp only[pvl];omega)) only [↓pvd,pva,pvr,bin2,binB2,un1,setCells,List.map,seval,reduceCtorEq,str_get]
  refine awR_callD g1 rfl rfl (fun _=>rfl) ?_
  simp (disch:=first|omega|(simp only[pvl] at *;omega)) only [↓pvd,pva,pvr,bin2,binB2,un1,setCells,List.map,seval,reduceCtorEq]
  refine awR_callD g2 rfl rfl (fun _=>rfl) ?_
  simp (disch:=first|omega|(simp only[pvl] at *;omega)) only [↓pvd,pva,pvr,bin2,binB2,un1,setCells,List.map,seval,reduceCtorEq]
  have hno : ¬ (dg s[3 * k]! ≤ 15 ∧ dg s[3 * k + 1]! ≤ 15 ∧ (k + 1 < 6 → s[3 * k + 2]!.toNat = 58)) → rdm s = (0, false):=by
   intro hx
   unfold rdm; rw [if_neg]; rintro ⟨_, h2⟩; exact hx (h2 k (by omega))
  have hyes : (dg s[3 * k]! ≤ 15 ∧ dg s[3 * k + 1]! ≤ 15 ∧ (k + 1 < 6 → s[3 * k + 2]!.toNat = 58)) → okR s (k + 1):=by
   intro hx i hi
   by_cases h : i < k
   ·exact hok i h
   ·have : i = k:=by omega
    subst this; exact hx
  have hns : num s (k + 1) = num s k * 256 + (dg s[3 * k]! * 16 + dg s[3 * k + 1]!):=rfl
  generalize dg s[3 * k]! = x at *
  generalize dg s[3 * k + 1]! = y at *
  generalize num s k = n at *
  generalize hn' : num s (k + 1) = n' at *
  have tk : (3 * (k : Int) + 2).toNat = 3 * k + 2:=by omega
  repeat' (first | simp (disch:=first|omega|(simp only[pvl];omega)) only [↓pvd,pva,pvr,bin2,binB2,un1,setCells,List.map,seval,reduceCtorEq,str_get,or_u64_4] | (with_reducible first|refine condP_d (fun _=>?_) (fun _=>?_)|refine guardP_d0 (fun _=>?_) (fun _=>?_)|refine guardP_d1 (fun _=>?_) (fun _=>?_)|refine condP_any ?_ ?_))
  all_goals simp only [tk] at *
  all_goals first
   | (rw [hno (by omega)]; (refine Ends_rq [] ?_; simp (disch:=first|omega|(simp only[pvl];omega)) only [↓pvd,pva,pvr,bin2,binB2,un1,setCells,List.map,seval,reduceCtorEq]; exact ⟨_,rfl,rfl,rfl⟩); done)
   | (refine ⟨k + 1, ?_, ⟨by omega, hyes (by omega)⟩, by omega⟩
      rw [hn', hns]
      simp only [St.mk.injEq,List.cons.injEq,Prod.mk.injEq,AV.int.injEq,and_true,true_and]
      omega)
 ·have : k = 6:=by omega
  subst this
  have e : rdm s = (num s 6, true):=by unfold rdm; rw [if_pos ⟨hl', hok⟩]
  rw [e]
  simp (disch:=first|omega|(simp only[pvl] at *;omega)) only [↓pvd,pva,pvr,bin2,binB2,un1,setCells,List.map,seval,reduceCtorEq]
  (refine Ends_rq [] ?_; simp (disch:=first|omega|(simp only[pvl];omega)) only [↓pvd,pva,pvr,bin2,binB2,un1,setCells,List.map,seval,reduceCtorEq]; exact ⟨_,rfl,rfl,rfl⟩)
/-! The reference's. -/
def de (c : UInt8) : Int:=if dg c ≤ 15 then dg c else 0
def rn (s : List UInt8) : Nat → Int
 | 0=>0
 | k + 1=>if k % 3 ≠ 2 then rn s k * 16 + de s[k]! else rn s k
theorem hx_de (c : UInt8) : hx (de c) = c ↔ dg c ≤ 15:=by
 have h : ∀ x : Fin 256, hx (de (UInt8.ofNat x)) = UInt8.ofNat x ↔ dg (UInt8.ofNat x) ≤ 15:=by decide +kernel
 have:=h ⟨c.toNat, c.toNat_lt⟩
 simpa using this
theorem de_b (c : UInt8) : 0 ≤ de c ∧ de c ≤ 15:=by
 have:=dg_b c
 unfold de; split <;> omega
theorem list17 {s : List UInt8} (h : s.length = 17) : ∃ c0 c1 c2 c3 c4 c5 c6 c7 c8 c9 c10 c11 c12 c13 c14 c15 c16, s = [c0, c1, c2, c3, c4, c5, c6, c7, c8, c9, c10, c11, c12, c13, c14, c15, c16]:=by
 rcases s with _ | ⟨c0, _ | ⟨c1, _ | ⟨c2, _ | ⟨c3, _ | ⟨c4, _ | ⟨c5, _ | ⟨c6, _ | ⟨c7, _ | ⟨c8, _ | ⟨c9, _ | ⟨c10, _ | ⟨c11, _ | ⟨c12, _ | ⟨c13, _ | ⟨c14, _ | ⟨c15, _ | ⟨c16, _ | ⟨c17, s⟩⟩⟩⟩⟩⟩⟩⟩⟩⟩⟩⟩⟩⟩⟩⟩⟩⟩
 all_goals first
  | exact ⟨_, _, _, _, _, _, _, _, _, _, _, _, _, _, _, _, _, rfl⟩
  | (simp at h; done)
theorem rn_tx (s : List UInt8) (h : s.length = 17) : tx (rn s 17) = s ↔ okR s 6:=by
 obtain ⟨c0, c1, c2, c3, c4, c5, c6, c7, c8, c9, c10, c11, c12, c13, c14, c15, c16, rfl⟩:=list17 h
 have e : rn [c0, c1, c2, c3, c4, c5, c6, c7, c8, c9, c10, c11, c12, c13, c14, c15, c16] 17 =
  ((((((((((de c0 * 16 + de c1) * 16 + de c3) * 16 + de c4) * 16 + de c6) * 16 + de c7) * 16 + de c9) * 16 + de c10) * 16 + de c12) * 16 + de c13) * 16 + de c15) * 16 + de c16:=by
  simp [rn]
 rw [e]
 have b0:=de_b c0
 have b1:=de_b c1
 have b3:=de_b c3
 have b4:=de_b c4
 have b6:=de_b c6
 have b7:=de_b c7
 have b9:=de_b c9
 have b10:=de_b c10
 have b12:=de_b c12
 have b13:=de_b c13
 have b15:=de_b c15
 have b16:=de_b c16
 have x0:=hx_de c0
 have x1:=hx_de c1
 have x3:=hx_de c3
 have x4:=hx_de c4
 have x6:=hx_de c6
 have x7:=hx_de c7
 have x9:=hx_de c9
 have x10:=hx_de c10
 have x12:=hx_de c12
 have x13:=hx_de c13
 have x15:=hx_de c15
 have x16:=hx_de c16
 have ho : okR [c0, c1, c2, c3, c4, c5, c6, c7, c8, c9, c10, c11, c12, c13, c14, c15, c16] 6 ↔ ((dg c0 ≤ 15 ∧ dg c1 ≤ 15 ∧ c2.toNat = 58) ∧ (dg c3 ≤ 15 ∧ dg c4 ≤ 15 ∧ c5.toNat = 58) ∧ (dg c6 ≤ 15 ∧ dg c7 ≤ 15 ∧ c8.toNat = 58) ∧ (dg c9 ≤ 15 ∧ dg c10 ≤ 15 ∧ c11.toNat = 58) ∧ (dg c12 ≤ 15 ∧ dg c13 ≤ 15 ∧ c14.toNat = 58) ∧ (dg c15 ≤ 15 ∧ dg c16 ≤ 15)):=by
  constructor
  ·intro k
   have k0:=k 0 (by omega)
   have k1:=k 1 (by omega)
   have k2:=k 2 (by omega)
   have k3:=k 3 (by omega)
   have k4:=k 4 (by omega)
   have k5:=k 5 (by omega)
   simp at k0 k1 k2 k3 k4 k5
   exact ⟨k0, k1, k2, k3, k4, k5⟩
  ·rintro ⟨k0, k1, k2, k3, k4, k5⟩ i hi
   have hi' : i = 0 ∨ i = 1 ∨ i = 2 ∨ i = 3 ∨ i = 4 ∨ i = 5:=by omega
   rcases hi' with rfl | rfl | rfl | rfl | rfl | rfl
   ·simpa using k0
   ·simpa using k1
   ·simpa using k2
   ·simpa using k3
   ·simpa using k4
   ·simpa using k5
 rw [ho, ← x0, ← x1, ← x3, ← x4, ← x6, ← x7, ← x9, ← x10, ← x12, ← x13, ← x15, ← x16]
 clear ho x0 x1 x3 x4 x6 x7 x9 x10 x12 x13 x15 x16 e h
 generalize de c0 = d0 at *
 generalize de c1 = d1 at *
 generalize de c3 = d3 at *
 generalize de c4 = d4 at *
 generalize de c6 = d6 at *
 generalize de c7 = d7 at *
 generalize de c9 = d9 at *
 generalize de c10 = d10 at *
 generalize de c12 = d12 at *
 generalize de c13 = d13 at *
 generalize de c15 = d15 at *
 generalize de c16 = d16 at *
 generalize hn : ((((((((((d0 * 16 + d1) * 16 + d3) * 16 + d4) * 16 + d6) * 16 + d7) * 16 + d9) * 16 + d10) * 16 + d12) * 16 + d13) * 16 + d15) * 16 + d16 = n
 have q5 : n / 256 = (((((((((d0 * 16 + d1) * 16 + d3) * 16 + d4) * 16 + d6) * 16 + d7) * 16 + d9) * 16 + d10) * 16 + d12) * 16 + d13):=by omega
 have q4 : n / 65536 = (((((((d0 * 16 + d1) * 16 + d3) * 16 + d4) * 16 + d6) * 16 + d7) * 16 + d9) * 16 + d10):=by omega
 have q3 : n / 16777216 = (((((d0 * 16 + d1) * 16 + d3) * 16 + d4) * 16 + d6) * 16 + d7):=by omega
 have q2 : n / 4294967296 = (((d0 * 16 + d1) * 16 + d3) * 16 + d4):=by omega
 have q1 : n / 1099511627776 = d0 * 16 + d1:=by omega
 have e0 : n / 1099511627776 % 256 / 16 = d0:=by omega
 have e1 : n / 1099511627776 % 256 % 16 = d1:=by omega
 have e3 : n / 4294967296 % 256 / 16 = d3:=by omega
 have e4 : n / 4294967296 % 256 % 16 = d4:=by omega
 have e6 : n / 16777216 % 256 / 16 = d6:=by omega
 have e7 : n / 16777216 % 256 % 16 = d7:=by omega
 have e9 : n / 65536 % 256 / 16 = d9:=by omega
 have e10 : n / 65536 % 256 % 16 = d10:=by omega
 have e12 : n / 256 % 256 / 16 = d12:=by omega
 have e13 : n / 256 % 256 % 16 = d13:=by omega
 have e15 : n % 256 / 16 = d15:=by omega
 have e16 : n % 256 % 16 = d16:=by omega
 have k (c : UInt8) : (58 = c) = (c.toNat = 58):=by
  rw [← UInt8.toNat_inj]; apply propext; constructor <;> intro h <;> exact h.symm
 unfold tx
 simp only [e0,e1,e3,e4,e6,e7,e9,e10,e12,e13,e15,e16,List.cons.injEq,k,and_true,and_assoc]
theorem rn_num (s : List UInt8) (h : s.length = 17) (ho : okR s 6) : rn s 17 = num s 6:=by
 have k0:=ho 0 (by omega)
 have k1:=ho 1 (by omega)
 have k2:=ho 2 (by omega)
 have k3:=ho 3 (by omega)
 have k4:=ho 4 (by omega)
 have k5:=ho 5 (by omega)
 simp [rn, num, de] at *
 simp only [if_pos,k0,k1,k2,k3,k4,k5]
 omega
end Mc
end Go.Proofs
namespace Go.Proofs
namespace Mc
open Go.Pv
theorem rdm_ref (s : List UInt8) (h : s.length = 17) : rdm s = if tx (rn s 17) = s then (rn s 17, true) else (0, false):=by
 unfold rdm
 by_cases ho : okR s 6
 ·rw [if_pos ⟨h, ho⟩, if_pos ((rn_tx s h).2 ho), rn_num s h ho]
 ·rw [if_neg (fun x=>ho x.2), if_neg (fun x=>ho ((rn_tx s h).1 x))]
end Mc
end Go.Proofs
namespace Go.Proofs
namespace Nm
open Go.Pv
theorem str_pl (l : List UInt8) : (AV.str l).pl = true:=rfl
theorem str_nr (l : List UInt8) : (AV.str l).nr1 = true:=rfl
theorem rows_run (b : List UInt8) (f : Bool) (hb : b.length ≤ 100000) (h1 : b.length ≤ 20000) :
  Run Tryz.prog 24 [.sl 1 (bys b) f] (if 400 < (spl b).length then .tup [.sl 0 [] true, .int .i64 3] else .tup [.own 1 9 ((spl b).map .str), .int .i64 0]):=by
 have hs:=spl_le b
 refine Tryz.run24 (by simp) ?_
 unfold Tryz.c24
 simp (disch:=first|omega|(simp only[pvl] at *;omega)) only [↓pvd,pva,pvr,bin2,binB2,un1,setCells,List.map,seval,reduceCtorEq]
 refine aw_loop (fun a : List (List UInt8) × List UInt8=>⟨[(4, .vec 0 1 0 a.1.length), (5, .str a.2)], [some ⟨9, a.1.map .str, true⟩]⟩) (fun a=>a.1 ++ spl a.2 = spl b ∧ a.2.length ≤ b.length) (fun a=>a.2.length) ([], b) ?_ ⟨rfl, Nat.le_refl _⟩ ?_
 ·simp (disch:=first|omega|(simp only[pvl] at *;omega)) only [↓pvd,pva,pvr,bin2,binB2,un1,setCells,List.map,seval,reduceCtorEq]
 rintro ⟨o, r⟩ ⟨ho, hr⟩
 dsimp only at ho hr ⊢
 unfold Tryz.c24b0
 have q:=cut_run r 10 (by omega)
 by_cases he : r = []
 ·subst he
  simp only [spl,List.append_nil] at ho
  subst ho
  simp (disch:=first|omega|(simp only[pvl] at *;omega)) only [↓pvd,pva,pvr,bin2,binB2,un1,setCells,List.map,seval,reduceCtorEq]
  by_cases h4 : 400 < (spl b).length
  ·rw [if_pos h4]
   simp (disch:=first|omega|(simp only[pvl] at *;omega)) only [↓pvd,pva,pvr,bin2,binB2,un1,setCells,List.map,seval,reduceCtorEq]
   (refine Ends_rq [] ?_; simp (disch:=first|omega|(simp only[pvl];omega)) only [↓pvd,pva,pvr,bin2,binB2,un1,setCells,List.map,seval,reduceCtorEq]; exact ⟨_,rfl,rfl,rfl⟩)
  ·rw [if_neg h4]
   simp (disch:=first|omega|(simp only[pvl] at *;omega)) only [↓pvd,pva,pvr,bin2,binB2,un1,setCells,List.map,seval,reduceCtorEq]
   (refine Ends_rq [[.own 1 9], [.snap]] ?_; simp (disch:=first|omega|(simp only[pvl];omega)) only [↓pvd,pva,pvr,bin2,binB2,un1,setCells,List.map,seval,reduceCtorEq,ids_map str_pl,ren_map str_pl,mapO_map str_nr,rows_map str_nr]; exact ⟨_,rfl,rfl,rfl⟩)
 ·have h2:=spl_cut r he
  have h3:=cut_len r he
  have h5 : o.length + (spl r).length = (spl b).length:=by rw [← ho, List.length_append]
  have h6:=congrArg List.length h2
  rw [List.length_cons] at h6
  generalize cutV r 10 = cv at *
  obtain ⟨w, r2, fd⟩:=cv
  dsimp only at h2 h3 h6 q ⊢
  simp (disch:=first|omega|(simp only[pvl] at *;omega)) only [↓pvd,pva,pvr,bin2,binB2,un1,setCells,List.map,seval,reduceCtorEq]
  refine awR_call q rfl rfl ?_
  simp (disch:=first|omega|(simp only[pvl];omega)) only [↓pvd,pva,pvr,bin2,binB2,un1,setCells,List.map,seval,reduceCtorEq,ids_map str_pl,ren_map str_pl,List.flatMap_append,List.map_append]
  refine ⟨(o ++ [w], r2), ?_, ⟨?_, ?_⟩, h3⟩
  ·simp (disch:=first|omega|(simp only[pvl];omega)) only [↓pvd,pva,pvr,bin2,binB2,un1,setCells,List.map,seval,reduceCtorEq,ids_map str_pl,ren_map str_pl,List.flatMap_append,List.map_append]
   try simp
  ·rw [← ho, h2]; simp
  ·dsimp only; omega
end Nm
end Go.Proofs
namespace Go.Proofs
namespace Nm
open Go.Pv
theorem rrows_run (b : List UInt8) (f : Bool) (hb : b.length ≤ 100000) (h1 : b.length ≤ 20000) :
  Run Tryz.prog 26 [.sl 1 (bys b) f] (if 400 < (spl b).length then .tup [.sl 0 [] true, .int .i64 3] else .tup [.own 1 9 ((spl b).map .str), .int .i64 0]):=by
 have hs:=spl_le b
 refine Tryz.run26 (by simp) ?_
 unfold Tryz.c26
 simp (disch:=first|omega|(simp only[pvl] at *;omega)) only [↓pvd,pva,pvr,bin2,binB2,un1,setCells,List.map,seval,reduceCtorEq]
 refine aw_loop (fun a : List (List UInt8) × Nat × Nat=>⟨[(0, .sl 1 (bys b) f), (4, .vec 0 1 0 a.1.length), (5, .int .i64 a.2.1), (6, .int .i64 a.2.2)], [some ⟨9, a.1.map .str, true⟩]⟩) (fun a=>a.1 ++ spl (b.drop a.2.1) = spl b ∧ a.2.1 ≤ a.2.2 ∧ a.2.2 ≤ b.length ∧ ∀ k, a.2.1 ≤ k → k < a.2.2 → b[k]! ≠ 10) (fun a=>b.length - a.2.2) ([], 0, 0) ?_ ⟨rfl, by simp, by simp, by simp⟩ ?_
 ·simp (disch:=first|omega|(simp only[pvl] at *;omega)) only [↓pvd,pva,pvr,bin2,binB2,un1,setCells,List.map,seval,reduceCtorEq]
 rintro ⟨o, j, i⟩ ⟨ho, hj, hi, hn⟩
 dsimp only at ho hj hi hn ⊢
 unfold Tryz.c26b0
 have h5 : o.length + (spl (b.drop j)).length = (spl b).length:=by rw [← ho, List.length_append]
 simp (disch:=first|omega|(simp only[pvl] at *;omega)) only [↓pvd,pva,pvr,bin2,binB2,un1,setCells,List.map,seval,reduceCtorEq]
 refine condP_d (fun hc=>?_) (fun hc=>?_)
 ·have hib : i < b.length:=by omega
  simp (disch:=first|omega|(simp only[pvl] at *;omega)) only [↓pvd,pva,pvr,bin2,binB2,un1,setCells,List.map,seval,reduceCtorEq]
  by_cases hd : b[i]! = 10
  ·have e : b.drop j = (b.drop j).take (i - j) ++ 10 :: b.drop (i + 1):=by
    rw [← hd, getElem!_pos b i hib, ← List.drop_eq_getElem_cons hib]
    have:=List.take_append_drop (i - j) (b.drop j)
    rw [List.drop_drop, show j + (i - j) = i by omega] at this
    exact this.symm
   have h2:=spl_hit ((b.drop j).take (i - j)) (b.drop (i + 1)) (fun c hc e=>by
    subst e
    obtain ⟨k, hk, e⟩:=List.mem_iff_getElem.1 hc
    simp at hk e
    exact hn (j + k) (by omega) (by omega) (by rw [getElem!_pos b (j + k) (by omega), e]))
   rw [← e] at h2
   have h6:=congrArg List.length h2
   rw [List.length_cons] at h6
   rw [hd]
   simp (disch:=first|omega|(simp only[pvl];omega)) only [↓pvd,pva,pvr,bin2,binB2,un1,setCells,List.map,seval,reduceCtorEq,ids_map str_pl,ren_map str_pl,List.flatMap_append,List.map_append]
   refine ⟨(o ++ [(b.drop j).take (i - j)], i + 1, i + 1), ?_, ⟨?_, ?_, ?_, ?_⟩, ?_⟩ <;> dsimp only
   ·simp [List.drop_take]
   ·rw [← ho, h2]; simp
   ·omega
   ·omega
   ·omega
   ·omega
  ·refine condP_d (fun hc=>absurd (UInt8.toNat_inj.1 (by have : (10 : UInt8).toNat = 10:=rfl; omega)) hd) (fun hc=>?_)
   simp (disch:=first|omega|(simp only[pvl];omega)) only [↓pvd,pva,pvr,bin2,binB2,un1,setCells,List.map,seval,reduceCtorEq,ids_map str_pl,ren_map str_pl]
   refine ⟨(o, j, i + 1), ?_, ⟨ho, ?_, ?_, ?_⟩, ?_⟩ <;> dsimp only
   ·rfl
   ·omega
   ·omega
   ·intro k h1 h2
    by_cases hk : k = i
    ·subst hk; exact hd
    ·exact hn k h1 (by omega)
   ·omega
 ·have hib : i = b.length:=by omega
  simp (disch:=first|omega|(simp only[pvl] at *;omega)) only [↓pvd,pva,pvr,bin2,binB2,un1,setCells,List.map,seval,reduceCtorEq]
  by_cases hj2 : j < b.length
  ·have h2:=spl_miss (b.drop j) (fun c hc e=>by
    subst e
    obtain ⟨k, hk, e⟩:=List.mem_iff_getElem.1 hc
    simp at hk e
    exact hn (j + k) (by omega) (by omega) (by rw [getElem!_pos b (j + k) (by omega), e])) (by intro h; have:=congrArg List.length h; simp at this; omega)
   rw [h2] at ho
   rw [← ho]
   refine condP_d (fun hc=>?_) (fun hc=>by omega)
   by_cases h4 : 400 < (o ++ [b.drop j]).length
   ·rw [if_pos h4]
    simp only [List.length_append,List.length_cons,List.length_nil] at h4
    simp (disch:=first|omega|(simp only[pvl];omega)) only [↓pvd,pva,pvr,bin2,binB2,un1,setCells,List.map,seval,reduceCtorEq,ids_map str_pl,ren_map str_pl,List.flatMap_append,List.map_append]
    (refine Ends_rq [] ?_; simp (disch:=first|omega|(simp only[pvl];omega)) only [↓pvd,pva,pvr,bin2,binB2,un1,setCells,List.map,seval,reduceCtorEq]; exact ⟨_,rfl,rfl,rfl⟩)
   ·rw [if_neg h4]
    simp only [List.length_append,List.length_cons,List.length_nil] at h4
    simp (disch:=first|omega|(simp only[pvl];omega)) only [↓pvd,pva,pvr,bin2,binB2,un1,setCells,List.map,seval,reduceCtorEq,ids_map str_pl,ren_map str_pl,List.flatMap_append,List.map_append]
    rw [show o.length + 1 = (o ++ [b.drop j]).length by simp, show o.map AV.str ++ [AV.str (b.drop j)] = (o ++ [b.drop j]).map AV.str by simp]
    generalize o ++ [b.drop j] = L at *
    (refine Ends_rq [[.own 1 9], [.snap]] ?_; simp (disch:=first|omega|(simp only[pvl];omega)) only [↓pvd,pva,pvr,bin2,binB2,un1,setCells,List.map,seval,reduceCtorEq,ids_map str_pl,ren_map str_pl,mapO_map str_nr,rows_map str_nr]; exact ⟨_,rfl,rfl,rfl⟩)
  ·have hj3 : b.drop j = []:=List.drop_eq_nil_of_le (by omega)
   rw [hj3, spl, List.append_nil] at ho
   subst ho
   refine condP_d (fun hc=>by omega) (fun hc=>?_)
   by_cases h4 : 400 < (spl b).length
   ·rw [if_pos h4]
    simp (disch:=first|omega|(simp only[pvl] at *;omega)) only [↓pvd,pva,pvr,bin2,binB2,un1,setCells,List.map,seval,reduceCtorEq]
    (refine Ends_rq [] ?_; simp (disch:=first|omega|(simp only[pvl];omega)) only [↓pvd,pva,pvr,bin2,binB2,un1,setCells,List.map,seval,reduceCtorEq]; exact ⟨_,rfl,rfl,rfl⟩)
   ·rw [if_neg h4]
    simp (disch:=first|omega|(simp only[pvl] at *;omega)) only [↓pvd,pva,pvr,bin2,binB2,un1,setCells,List.map,seval,reduceCtorEq]
    (refine Ends_rq [[.own 1 9], [.snap]] ?_; simp (disch:=first|omega|(simp only[pvl];omega)) only [↓pvd,pva,pvr,bin2,binB2,un1,setCells,List.map,seval,reduceCtorEq,ids_map str_pl,ren_map str_pl,mapO_map str_nr,rows_map str_nr]; exact ⟨_,rfl,rfl,rfl⟩)
end Nm
end Go.Proofs
namespace Go.Proofs
namespace Nm
open Go.Pv
theorem rows_big (b : List UInt8) (f : Bool) (hb : b.length ≤ 100000) (h1 : ¬ b.length ≤ 20000) :
  Run Tryz.prog 24 [.sl 1 (bys b) f] (.tup [.sl 0 [] true, .int .i64 3]):=by
 refine Tryz.run24 (by simp) ?_
 unfold Tryz.c24
 simp (disch:=first|omega|(simp only[pvl] at *;omega)) only [↓pvd,pva,pvr,bin2,binB2,un1,setCells,List.map,seval,reduceCtorEq]
 (refine Ends_rq [] ?_; simp (disch:=first|omega|(simp only[pvl];omega)) only [↓pvd,pva,pvr,bin2,binB2,un1,setCells,List.map,seval,reduceCtorEq]; exact ⟨_,rfl,rfl,rfl⟩)
theorem rrows_big (b : List UInt8) (f : Bool) (hb : b.length ≤ 100000) (h1 : ¬ b.length ≤ 20000) :
  Run Tryz.prog 26 [.sl 1 (bys b) f] (.tup [.sl 0 [] true, .int .i64 3]):=by
 refine Tryz.run26 (by simp) ?_
 unfold Tryz.c26
 simp (disch:=first|omega|(simp only[pvl] at *;omega)) only [↓pvd,pva,pvr,bin2,binB2,un1,setCells,List.map,seval,reduceCtorEq]
 (refine Ends_rq [] ?_; simp (disch:=first|omega|(simp only[pvl];omega)) only [↓pvd,pva,pvr,bin2,binB2,un1,setCells,List.map,seval,reduceCtorEq]; exact ⟨_,rfl,rfl,rfl⟩)
end Nm
end Go.Proofs
namespace Go.Proofs
namespace Nm
open Go.Pv
def stH (w : List UInt8) (fr : Nat) : List (List UInt8) → Hp
 | []=>[some ⟨9, [.str w], true⟩, some ⟨32, [.sl 0 [] true], true⟩, some ⟨3, [.int .i64 fr], true⟩]
 | o :: r=>[some ⟨9, [.str w], true⟩, some ⟨32, [.vec 2 1 0 (o :: r).length], true⟩, some ⟨9, (o :: r).map .str, true⟩, some ⟨3, [.int .i64 fr], true⟩]
def stK : List (List UInt8) → Nat
 | []=>2
 | _ :: _=>3
theorem stK_ne {L : List (List UInt8)} (h : L ≠ []) : stK L = 3:=by
 cases L with
 | nil=>exact absurd rfl h
 | cons o r=>rfl
theorem stK_nil : stK [] = 2:=rfl
theorem str1_no (w : List UInt8) (i fr : Nat) (out : List (List UInt8)) (hw : w.length ≤ 100000) (hi : i ≤ w.length) (h : i ≤ fr) :
  Gen Tryz.prog 92 [.int .i64 i, .eptr (stK out) 0 0, .eptr 1 0 0, .eptr 0 0 0] (stH w fr out) (.tup []) (stH w (i + 1) out):=by
 refine Tryz.gen92 (by simp) ?_
 unfold Tryz.c92
 cases out with
 | nil =>
  unfold stH stK
  simp (disch:=first|omega|(simp only[pvl] at *;omega)) only [↓pvd,pva,pvr,bin2,binB2,un1,setCells,List.map,seval,reduceCtorEq]
  exact ⟨rfl, rfl⟩
 | cons o r =>
  unfold stH stK
  simp (disch:=first|omega|(simp only[pvl] at *;omega)) only [↓pvd,pva,pvr,bin2,binB2,un1,setCells,List.map,seval,reduceCtorEq]
  exact ⟨rfl, rfl⟩
theorem str1_nil (w : List UInt8) (i fr : Nat) (hw : w.length ≤ 100000) (hi : i ≤ w.length) (h : fr < i) :
  Gen Tryz.prog 92 [.int .i64 i, .eptr 2 0 0, .eptr 1 0 0, .eptr 0 0 0] (stH w fr []) (.tup [])
   ([some ⟨9, [.str w], true⟩, some ⟨32, [.vec 9 1 0 1], true⟩, some ⟨3, [.int .i64 (i + 1)], true⟩, none, none, none, none, none, some ⟨9, [.str ((w.take i).drop fr)], true⟩, some ⟨9, [.str ((w.take i).drop fr)], true⟩, none]):=by
 refine Tryz.gen92 (by simp) ?_
 unfold Tryz.c92
 unfold stH
 simp (disch:=first|omega|(simp only[pvl] at *;omega)) only [↓pvd,pva,pvr,bin2,binB2,un1,setCells,List.map,seval,reduceCtorEq]
 exact ⟨rfl, rfl⟩
theorem str1_app (w : List UInt8) (i fr : Nat) (o : List UInt8) (r : List (List UInt8)) (hw : w.length ≤ 100000) (hi : i ≤ w.length) (h : fr < i) (hr : r.length ≤ 100000) :
  Gen Tryz.prog 92 [.int .i64 i, .eptr 3 0 0, .eptr 1 0 0, .eptr 0 0 0] (stH w fr (o :: r)) (.tup [])
   ([some ⟨9, [.str w], true⟩, some ⟨32, [.vec 10 1 0 ((o :: r).length + 1)], true⟩, some ⟨9, [], false⟩, some ⟨3, [.int .i64 (i + 1)], true⟩, none, none, none, none, none, some ⟨9, [.str ((w.take i).drop fr)], true⟩, some ⟨9, (o :: r).map .str ++ [.str ((w.take i).drop fr)], true⟩, none]):=by
 refine Tryz.gen92 (by simp) ?_
 unfold Tryz.c92
 unfold stH
 simp (disch:=first|omega|(simp only[pvl] at *;omega)) only [↓pvd,pva,pvr,bin2,binB2,un1,setCells,List.map,seval,reduceCtorEq]
 exact ⟨rfl, rfl⟩
theorem stH_ne (w : List UInt8) (fr : Nat) (L : List (List UInt8)) (h : L ≠ []) : stH w fr L = [some ⟨9, [.str w], true⟩, some ⟨32, [.vec 2 1 0 L.length], true⟩, some ⟨9, L.map .str, true⟩, some ⟨3, [.int .i64 fr], true⟩]:=by
 cases L with
 | nil=>exact absurd rfl h
 | cons o r=>rfl
theorem str1_appL (w : List UInt8) (i fr : Nat) (L : List (List UInt8)) (h0 : L ≠ []) (hw : w.length ≤ 100000) (hi : i ≤ w.length) (h : fr < i) (hr : L.length ≤ 100000) :
  Gen Tryz.prog 92 [.int .i64 i, .eptr 3 0 0, .eptr 1 0 0, .eptr 0 0 0] (stH w fr L) (.tup [])
   ([some ⟨9, [.str w], true⟩, some ⟨32, [.vec 10 1 0 (L.length + 1)], true⟩, some ⟨9, [], false⟩, some ⟨3, [.int .i64 (i + 1)], true⟩, none, none, none, none, none, some ⟨9, [.str ((w.take i).drop fr)], true⟩, some ⟨9, L.map .str ++ [.str ((w.take i).drop fr)], true⟩, none]):=by
 cases L with
 | nil=>exact absurd rfl h0
 | cons o r=>exact str1_app w i fr o r hw hi h (by simp at hr; omega)
end Nm
end Go.Proofs
namespace Go.Proofs
namespace Nm
open Go.Pv
def enO (w : List UInt8) (i fr : Nat) (out : List (List UInt8)) : List (List UInt8):=if fr < i then out ++ [(w.take i).drop fr] else out
def swF (w : List UInt8) : Nat → Nat → Nat → List (List UInt8) → List (List UInt8)
 | 0, i, fr, out=>enO w i fr out
 | n + 1, i, fr, out=>if i < w.length then
   if w[i]! = 35 then enO w i fr out
   else if w[i]! = 32 ∨ w[i]! = 9 then swF w n (i + 1) (i + 1) (enO w i fr out)
   else swF w n (i + 1) fr out
  else enO w i fr out
def swV (w : List UInt8) : List (List UInt8):=swF w (w.length + 1) 0 0 []
def strR (l : List (List UInt8)) : AV:=if l = [] then .sl 0 [] true else .own 1 9 (l.map .str)
def stS (w : List UInt8) (a : Nat × Nat × List (List UInt8)) : St:=⟨[(1, .eptr 0 0 0), (3, .eptr 1 0 0), (5, .fn 92 [.eptr (stK a.2.2) 0 0, .eptr 1 0 0, .eptr 0 0 0]), (6, .int .i64 a.1)], stH w a.2.1 a.2.2⟩
end Nm
end Go.Proofs
