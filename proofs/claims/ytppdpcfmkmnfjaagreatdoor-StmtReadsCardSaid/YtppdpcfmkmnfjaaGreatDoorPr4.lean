/- The proofs of what the functions of this seat do. -/
import Derived.Test.YtppdpcfmkmnfjaaGreatDoorPr3
set_option linter.unusedSimpArgs false
set_option linter.unusedVariables false
set_option maxHeartbeats 2000000
set_option maxRecDepth 20000
namespace Go.Proofs
open Go.Pv
def risF : List Int → Bool
 | a :: b :: r=>decide (a < b) && risF (b :: r)
 | _=>true
theorem risF_snoc : ∀ (l : List Int) (y x : Int), risF (l ++ [y] ++ [x]) = (risF (l ++ [y]) && decide (y < x))
 | [], y, x=>by simp [risF]
 | [a], y, x=>by simp [risF]
 | a :: b :: r, y, x=>by
  have ih:=risF_snoc (b :: r) y x
  simp only [List.cons_append] at ih ⊢
  rw [risF, risF, ih, Bool.and_assoc]
theorem risF_app : ∀ (l m : List Int), risF (l ++ m) = true → risF l = true
 | [], _, _=>rfl
 | [_], _, _=>rfl
 | a :: b :: r, m, h=>by
  simp only [List.cons_append,risF,Bool.and_eq_true] at h ⊢
  exact ⟨h.1, risF_app (b :: r) m h.2⟩
def rlF (g : List UInt8 → Int × Bool) (ps : List (List UInt8)) : Bool:=ps.all (fun p=>(g p).2) && decide (ps.length ≤ 16) && risF (ps.map fun p=>(g p).1)
def rlR (ty : TypeId) (k : IntKind) (g : List UInt8 → Int × Bool) (ps : List (List UInt8)) : AV :=
 if rlF g ps then .tup [.own 1 ty ((ps.map fun p=>(g p).1).map (.int k)), .bool true] else .tup [.sl 0 [] true, .bool false]
theorem rlR_yes {ty : TypeId} {k : IntKind} {g : List UInt8 → Int × Bool} {ps : List (List UInt8)} (h : rlF g ps = true) : rlR ty k g ps = .tup [.own 1 ty ((ps.map fun p=>(g p).1).map (.int k)), .bool true]:=if_pos h
theorem rlR_no {ty : TypeId} {k : IntKind} {g : List UInt8 → Int × Bool} {ps : List (List UInt8)} (h : ¬ rlF g ps = true) : rlR ty k g ps = .tup [.sl 0 [] true, .bool false]:=if_neg h
theorem rlF_iff {g : List UInt8 → Int × Bool} {ps : List (List UInt8)} : rlF g ps = true ↔ (∀ p ∈ ps, (g p).2 = true) ∧ ps.length ≤ 16 ∧ risF (ps.map fun p=>(g p).1) = true:=by
 unfold rlF
 simp only [Bool.and_eq_true,List.all_eq_true,decide_eq_true_eq]
 exact ⟨fun h=>⟨h.1.1, h.1.2, h.2⟩, fun h=>⟨⟨h.1, h.2.1⟩, h.2.2⟩⟩
theorem cut_sc (s : List UInt8) : sc s = (if (cutF 44 s).2.2 = true then (cutF 44 s).1 :: sc (cutF 44 s).2.1 else [(cutF 44 s).1]) ∧ (cutF 44 s).1.length ≤ s.length ∧ (cutF 44 s).2.1.length ≤ s.length ∧ ((cutF 44 s).2.2 = true → (cutF 44 s).2.1.length < s.length):=by
 have h:=sc_index s
 have hb:=ix_b s 44
 unfold cutF
 by_cases hx : 0 ≤ Lib.indexByte s 44
 ·rw [if_pos hx] at h ⊢
  exact ⟨h, by simp; omega, by simp, fun _=>by simp; omega⟩
 ·rw [if_neg hx] at h ⊢
  exact ⟨h, by simp, by simp, fun h=>by simp at h⟩
theorem int_nr (k : IntKind) (n : Int) : (AV.int k n).nr1 = true:=rfl
theorem int_pl (k : IntKind) (n : Int) : (AV.int k n).pl = true:=rfl
def rdB (s : List UInt8) : Int × Bool:=(if okA s then accF (sp s) else 0, decide (okA s))
theorem rdB_eq (s : List UInt8) : rdA (sp s) = .tup [.int .u32 (rdB s).1, .bool (rdB s).2]:=by
 unfold rdB
 by_cases h : okA s
 ·rw [rdA_pos h, if_pos h, decide_eq_true h]
 ·rw [rdA_neg h, if_neg h, decide_eq_false h]
def rdiS (g : List UInt8 → Int × Bool) (least most : Int) (x : List (List UInt8) × List UInt8 × Bool) : St:=⟨[(0, .str x.2.1), (1, .fn 105 [.rptr (.int .i64 least) 0, .rptr (.int .i64 most) 0]), (6, .vec 0 1 0 x.1.length), (7, .bool x.2.2)], [some ⟨3, (x.1.map fun p=>(g p).1).map (.int .i64), true⟩]⟩
def rdiI (g : List UInt8 → Int × Bool) (s : List UInt8) (x : List (List UInt8) × List UInt8 × Bool) : Prop :=
 x.1.length ≤ 16 ∧ (∀ p ∈ x.1, (g p).2 = true) ∧ risF (x.1.map fun p=>(g p).1) = true ∧ x.2.1.length ≤ s.length ∧ sc s = x.1 ++ (if x.2.2 = true then sc x.2.1 else [])
theorem rdi_run (s : List UInt8) (least most : Int) (hs : s.length ≤ 1000) (g : List UInt8 → Int × Bool) (hg : g = (fun p=>Nm.rdF p least most))
  (q : ∀ p : List UInt8, p.length ≤ 1000 → Run Tryz.prog 105 [.str p, .rptr (.int .i64 least) 0, .rptr (.int .i64 most) 0] (.tup [.int .i64 (g p).1, .bool (g p).2])) :
  Run Tryz.prog 104 [.str s, .fn 105 [.rptr (.int .i64 least) 0, .rptr (.int .i64 most) 0]] (rlR 3 .i64 g (sc s)):=by
 refine Tryz.run104 (by simp) ?_
 unfold Tryz.c104
 simp (disch:=first|omega|(simp only[pvl] at *;omega)) only [↓pvd,pva,pvr,bin2,binB2,un1,setCells,List.map,seval,reduceCtorEq]
 refine aw_loop (rdiS g least most) (rdiI g s) (fun x=>(if x.2.2 = true then 1 else 0) + x.2.1.length + (if x.2.2 = true then 1 else 0)) ([], s, true) ?_ ⟨by simp, by simp, rfl, Nat.le_refl _, by simp⟩ ?_
 ·simp (disch:=first|omega|(simp only[pvl];omega)) only [↓pvd,pva,pvr,bin2,binB2,un1,setCells,List.map,seval,reduceCtorEq,ids_fn,ren_fn,ids_rptr,rdiS]
 rintro ⟨pre, r, m⟩ ⟨h1, h2, h3, h4, h5⟩
 simp only at h1 h2 h3 h4 h5
 unfold rdiS Tryz.c104b0
 simp only
 cases m with
 | false =>
  rw [if_neg (by simp), List.append_nil] at h5
  have hy : rlF g (sc s) = true:=by rw [h5]; exact rlF_iff.2 ⟨h2, h1, h3⟩
  rw [rlR_yes hy, h5]
  generalize hvs : (pre.map fun p=>(g p).1) = vs at *
  have hvl : pre.length = vs.length:=by rw [← hvs]; simp
  rw [hvl]
  simp (disch:=first|omega|(simp only[pvl] at *;omega)) only [↓pvd,pva,pvr,bin2,binB2,un1,setCells,List.map,seval,reduceCtorEq]
  (refine Ends_rq [[.own 1 3], [.snap]] ?_; simp (disch:=first|omega|(simp only[pvl];omega)) only [↓pvd,pva,pvr,bin2,binB2,un1,setCells,List.map,seval,reduceCtorEq,ids_map (int_pl .i64),ren_map (int_pl .i64),mapO_map (int_nr .i64),rows_map (int_nr .i64)]; exact ⟨_,rfl,rfl,rfl⟩)
 | true =>
  rw [if_pos rfl] at h5
  obtain ⟨hc1, hc2, hc3, hc4⟩:=cut_sc r
  have qc:=cut_run r 44 (by omega)
  unfold cutR at qc
  generalize (cutF 44 r).1 = a at *
  generalize (cutF 44 r).2.1 = r' at *
  generalize (cutF 44 r).2.2 = m' at *
  have q1:=q a (by omega)
  have ha : ∃ t, sc s = pre ++ a :: t ∧ (m' = true → t = sc r') ∧ (m' = false → t = []):=by
   rw [h5, hc1]
   cases m' with
   | true=>exact ⟨sc r', by simp, fun _=>rfl, fun h=>by cases h⟩
   | false=>exact ⟨[], by simp, fun h=>by simp at h, fun _=>rfl⟩
  obtain ⟨t, ht, ht1, ht2⟩:=ha
  have nok : ¬ ((g a).2 = true ∧ pre.length ≤ 15 ∧ risF ((pre ++ [a]).map fun p=>(g p).1) = true) → ¬ rlF g (sc s) = true:=fun h h'=>by
   rw [ht] at h'
   obtain ⟨k1, k2, k3⟩:=rlF_iff.1 h'
   refine h ⟨k1 a (by simp), by simp at k2; omega, ?_⟩
   have e : pre ++ a :: t = (pre ++ [a]) ++ t:=by simp
   rw [e, List.map_append] at k3
   exact risF_app _ _ k3
  generalize hga : g a = ga at *
  obtain ⟨v, ok⟩:=ga
  simp only at q1 nok
  cases ok with
  | false =>
   rw [rlR_no (nok (fun h=>by cases h.1))]
   simp (disch:=first|omega|(simp only[pvl] at *;omega)) only [↓pvd,pva,pvr,bin2,binB2,un1,setCells,List.map,seval,reduceCtorEq]
   refine awR_call qc rfl rfl ?_
   simp (disch:=first|omega|(simp only[pvl] at *;omega)) only [↓pvd,pva,pvr,bin2,binB2,un1,setCells,List.map,seval,reduceCtorEq]
   refine awR_callv rfl (gen_nr q1 rfl) (Nat.le_refl _) ?_
   simp (disch:=first|omega|(simp only[pvl];omega)) only [↓pvd,pva,pvr,bin2,binB2,un1,setCells,List.map,seval,reduceCtorEq,ids_fn,ren_fn,ids_rptr]
   (refine Ends_rq [] ?_; simp (disch:=first|omega|(simp only[pvl];omega)) only [↓pvd,pva,pvr,bin2,binB2,un1,setCells,List.map,seval,reduceCtorEq]; exact ⟨_,rfl,rfl,rfl⟩)
  | true =>
   by_cases hl : pre.length = 16
   ·rw [rlR_no (nok (fun h=>by omega))]
    simp (disch:=first|omega|(simp only[pvl] at *;omega)) only [↓pvd,pva,pvr,bin2,binB2,un1,setCells,List.map,seval,reduceCtorEq]
    refine awR_call qc rfl rfl ?_
    simp (disch:=first|omega|(simp only[pvl] at *;omega)) only [↓pvd,pva,pvr,bin2,binB2,un1,setCells,List.map,seval,reduceCtorEq]
    refine awR_callv rfl (gen_nr q1 rfl) (Nat.le_refl _) ?_
    have hvl : ((pre.map fun p=>(g p).1).map (AV.int .i64)).length = 16:=by simp [hl]
    simp (disch:=first|omega|(simp only[pvl];omega)) only [↓pvd,pva,pvr,bin2,binB2,un1,setCells,List.map,seval,reduceCtorEq,ids_fn,ren_fn,ids_rptr,hl,hvl]
    (refine Ends_rq [] ?_; simp (disch:=first|omega|(simp only[pvl];omega)) only [↓pvd,pva,pvr,bin2,binB2,un1,setCells,List.map,seval,reduceCtorEq]; exact ⟨_,rfl,rfl,rfl⟩)
   ·have hgo : (pre ≠ [] → ∃ y, ((pre.map fun p=>(g p).1).map (AV.int .i64))[pre.length - 1]? = some (.int .i64 y) ∧ risF ((pre ++ [a]).map fun p=>(g p).1) = decide (y < v)):=fun hne=>by
     obtain ⟨qs, p, rfl⟩ : ∃ qs p, pre = qs ++ [p]:=⟨pre.dropLast, pre.getLast hne, (List.dropLast_concat_getLast _).symm⟩
     refine ⟨(g p).1, by simp, ?_⟩
     simp only [List.map_append,List.map_cons,List.map_nil] at h3 ⊢
     rw [risF_snoc, h3, hga, Bool.true_and]
    have fin : risF ((pre ++ [a]).map fun p=>(g p).1) = true → rdiI g s (pre ++ [a], r', m'):=fun hr=>by
     refine ⟨by simp; omega, fun p hp=>?_, hr, by show r'.length ≤ _; omega, ?_⟩
     ·rcases List.mem_append.1 hp with hp | hp
      ·exact h2 p hp
      ·rw [List.mem_singleton.1 hp, hga]
     ·rw [ht]
      cases m' with
      | true=>rw [if_pos rfl, ht1 rfl]; simp
      | false=>rw [if_neg (by simp), ht2 rfl]; simp
    have hms : (if (pre ++ [a], r', m').2.2 = true then 1 else 0) + (pre ++ [a], r', m').2.1.length + (if (pre ++ [a], r', m').2.2 = true then 1 else 0) < 1 + r.length + 1:=by
     cases m' with
     | true=>have:=hc4 rfl; simp; omega
     | false=>simp; omega
    have hvm : ((pre.map fun p=>(g p).1).map (AV.int .i64)) ++ [AV.int .i64 v] = (((pre ++ [a]).map fun p=>(g p).1).map (AV.int .i64)):=by simp [hga]
    have hpl1 : ((pre.map fun p=>(g p).1).map (AV.int .i64)).all AV.pl = true:=pl_map (int_pl .i64)
    have hpl2 : (((pre ++ [a]).map fun p=>(g p).1).map (AV.int .i64)).all AV.pl = true:=pl_map (int_pl .i64)
    have hvl : ((pre.map fun p=>(g p).1).map (AV.int .i64)).length = pre.length:=by simp
    have hvl2 : (((pre ++ [a]).map fun p=>(g p).1).map (AV.int .i64)).length = pre.length + 1:=by simp
    by_cases hp0 : pre = []
    ·have hr : risF ((pre ++ [a]).map fun p=>(g p).1) = true:=by rw [hp0]; rfl
     have f1:=fin hr
     subst hp0
     simp (disch:=first|omega|(simp only[pvl] at *;omega)) only [↓pvd,pva,pvr,bin2,binB2,un1,setCells,List.map,seval,reduceCtorEq]
     refine awR_call qc rfl rfl ?_
     simp (disch:=first|omega|(simp only[pvl] at *;omega)) only [↓pvd,pva,pvr,bin2,binB2,un1,setCells,List.map,seval,reduceCtorEq]
     refine awR_callv rfl (gen_nr q1 rfl) (Nat.le_refl _) ?_
     simp (disch:=first|omega|(simp only[pvl];omega)) only [↓pvd,pva,pvr,bin2,binB2,un1,setCells,List.map,seval,reduceCtorEq,ids_fn,ren_fn,ids_rptr]
     refine ⟨([] ++ [a], r', m'), ?_, f1, hms⟩
     simp [rdiS, hga]
    ·obtain ⟨y, hy1, hy2⟩:=hgo hp0
     have hp1 : 0 < pre.length:=List.length_pos_iff.2 hp0
     have hix : ((pre.length : Int) - 1).toNat = pre.length - 1:=by omega
     generalize hrow : ((pre.map fun p=>(g p).1).map (AV.int .i64)) = row at *
     generalize hrow2 : (((pre ++ [a]).map fun p=>(g p).1).map (AV.int .i64)) = row2 at *
     by_cases hyv : y < v
     ·have f1:=fin (by rw [hy2]; exact decide_eq_true hyv)
      simp (disch:=first|omega|(simp only[pvl] at *;omega)) only [↓pvd,pva,pvr,bin2,binB2,un1,setCells,List.map,seval,reduceCtorEq]
      refine awR_call qc rfl rfl ?_
      simp (disch:=first|omega|(simp only[pvl] at *;omega)) only [↓pvd,pva,pvr,bin2,binB2,un1,setCells,List.map,seval,reduceCtorEq]
      refine awR_callv rfl (gen_nr q1 rfl) (Nat.le_refl _) ?_
      simp (disch:=first|omega|(simp only[pvl];omega)) only [↓pvd,pva,pvr,bin2,binB2,un1,setCells,List.map,seval,reduceCtorEq,ids_fn,ren_fn,ids_rptr,hix,hy1,hvl,ids_all hpl1,ids_all hpl2,ren_all hpl1,ren_all hpl2,hvm]
      refine ⟨(pre ++ [a], r', m'), ?_, f1, hms⟩
      simp [rdiS, hrow2, hvl, hvl2, ← hrow2, hga]
     ·rw [rlR_no (nok (fun h=>by rw [hy2] at h; exact hyv (of_decide_eq_true h.2.2)))]
      simp (disch:=first|omega|(simp only[pvl] at *;omega)) only [↓pvd,pva,pvr,bin2,binB2,un1,setCells,List.map,seval,reduceCtorEq]
      refine awR_call qc rfl rfl ?_
      simp (disch:=first|omega|(simp only[pvl] at *;omega)) only [↓pvd,pva,pvr,bin2,binB2,un1,setCells,List.map,seval,reduceCtorEq]
      refine awR_callv rfl (gen_nr q1 rfl) (Nat.le_refl _) ?_
      simp (disch:=first|omega|(simp only[pvl];omega)) only [↓pvd,pva,pvr,bin2,binB2,un1,setCells,List.map,seval,reduceCtorEq,ids_fn,ren_fn,ids_rptr,hix,hy1,hvl,ids_all hpl1,ids_all hpl2,ren_all hpl1,ren_all hpl2,hvm]
      (refine Ends_rq [] ?_; simp (disch:=first|omega|(simp only[pvl];omega)) only [↓pvd,pva,pvr,bin2,binB2,un1,setCells,List.map,seval,reduceCtorEq]; exact ⟨_,rfl,rfl,rfl⟩)
def rduS (g : List UInt8 → Int × Bool)  (x : List (List UInt8) × List UInt8 × Bool) : St:=⟨[(0, .str x.2.1), (1, .fn 38 []), (6, .vec 0 1 0 x.1.length), (7, .bool x.2.2)], [some ⟨35, (x.1.map fun p=>(g p).1).map (.int .u32), true⟩]⟩
def rduI (g : List UInt8 → Int × Bool) (s : List UInt8) (x : List (List UInt8) × List UInt8 × Bool) : Prop :=
 x.1.length ≤ 16 ∧ (∀ p ∈ x.1, (g p).2 = true) ∧ risF (x.1.map fun p=>(g p).1) = true ∧ x.2.1.length ≤ s.length ∧ sc s = x.1 ++ (if x.2.2 = true then sc x.2.1 else [])
theorem rdu_run (s : List UInt8)  (hs : s.length ≤ 1000) (g : List UInt8 → Int × Bool) (hg : g = rdB)
  (q : ∀ p : List UInt8, p.length ≤ 1000 → Run Tryz.prog 38 [.str p] (.tup [.int .u32 (g p).1, .bool (g p).2])) :
  Run Tryz.prog 70 [.str s, .fn 38 []] (rlR 35 .u32 g (sc s)):=by
 refine Tryz.run70 (by simp) ?_
 unfold Tryz.c70
 simp (disch:=first|omega|(simp only[pvl] at *;omega)) only [↓pvd,pva,pvr,bin2,binB2,un1,setCells,List.map,seval,reduceCtorEq]
 refine aw_loop (rduS g ) (rduI g s) (fun x=>(if x.2.2 = true then 1 else 0) + x.2.1.length + (if x.2.2 = true then 1 else 0)) ([], s, true) ?_ ⟨by simp, by simp, rfl, Nat.le_refl _, by simp⟩ ?_
 ·simp (disch:=first|omega|(simp only[pvl];omega)) only [↓pvd,pva,pvr,bin2,binB2,un1,setCells,List.map,seval,reduceCtorEq,ids_fn,ren_fn,ids_rptr,rduS]
 rintro ⟨pre, r, m⟩ ⟨h1, h2, h3, h4, h5⟩
 simp only at h1 h2 h3 h4 h5
 unfold rduS Tryz.c70b0
 simp only
 cases m with
 | false =>
  rw [if_neg (by simp), List.append_nil] at h5
  have hy : rlF g (sc s) = true:=by rw [h5]; exact rlF_iff.2 ⟨h2, h1, h3⟩
  rw [rlR_yes hy, h5]
  generalize hvs : (pre.map fun p=>(g p).1) = vs at *
  have hvl : pre.length = vs.length:=by rw [← hvs]; simp
  rw [hvl]
  simp (disch:=first|omega|(simp only[pvl] at *;omega)) only [↓pvd,pva,pvr,bin2,binB2,un1,setCells,List.map,seval,reduceCtorEq]
  (refine Ends_rq [[.own 1 35], [.snap]] ?_; simp (disch:=first|omega|(simp only[pvl];omega)) only [↓pvd,pva,pvr,bin2,binB2,un1,setCells,List.map,seval,reduceCtorEq,ids_map (int_pl .u32),ren_map (int_pl .u32),mapO_map (int_nr .u32),rows_map (int_nr .u32)]; exact ⟨_,rfl,rfl,rfl⟩)
 | true =>
  rw [if_pos rfl] at h5
  obtain ⟨hc1, hc2, hc3, hc4⟩:=cut_sc r
  have qc:=cut_run r 44 (by omega)
  unfold cutR at qc
  generalize (cutF 44 r).1 = a at *
  generalize (cutF 44 r).2.1 = r' at *
  generalize (cutF 44 r).2.2 = m' at *
  have q1:=q a (by omega)
  have ha : ∃ t, sc s = pre ++ a :: t ∧ (m' = true → t = sc r') ∧ (m' = false → t = []):=by
   rw [h5, hc1]
   cases m' with
   | true=>exact ⟨sc r', by simp, fun _=>rfl, fun h=>by cases h⟩
   | false=>exact ⟨[], by simp, fun h=>by simp at h, fun _=>rfl⟩
  obtain ⟨t, ht, ht1, ht2⟩:=ha
  have nok : ¬ ((g a).2 = true ∧ pre.length ≤ 15 ∧ risF ((pre ++ [a]).map fun p=>(g p).1) = true) → ¬ rlF g (sc s) = true:=fun h h'=>by
   rw [ht] at h'
   obtain ⟨k1, k2, k3⟩:=rlF_iff.1 h'
   refine h ⟨k1 a (by simp), by simp at k2; omega, ?_⟩
   have e : pre ++ a :: t = (pre ++ [a]) ++ t:=by simp
   rw [e, List.map_append] at k3
   exact risF_app _ _ k3
  generalize hga : g a = ga at *
  obtain ⟨v, ok⟩:=ga
  simp only at q1 nok
  cases ok with
  | false =>
   rw [rlR_no (nok (fun h=>by cases h.1))]
   simp (disch:=first|omega|(simp only[pvl] at *;omega)) only [↓pvd,pva,pvr,bin2,binB2,un1,setCells,List.map,seval,reduceCtorEq]
   refine awR_call qc rfl rfl ?_
   simp (disch:=first|omega|(simp only[pvl] at *;omega)) only [↓pvd,pva,pvr,bin2,binB2,un1,setCells,List.map,seval,reduceCtorEq]
   refine awR_callv rfl (gen_nr q1 rfl) (Nat.le_refl _) ?_
   simp (disch:=first|omega|(simp only[pvl];omega)) only [↓pvd,pva,pvr,bin2,binB2,un1,setCells,List.map,seval,reduceCtorEq,ids_fn,ren_fn,ids_rptr]
   (refine Ends_rq [] ?_; simp (disch:=first|omega|(simp only[pvl];omega)) only [↓pvd,pva,pvr,bin2,binB2,un1,setCells,List.map,seval,reduceCtorEq]; exact ⟨_,rfl,rfl,rfl⟩)
  | true =>
   by_cases hl : pre.length = 16
   ·rw [rlR_no (nok (fun h=>by omega))]
    simp (disch:=first|omega|(simp only[pvl] at *;omega)) only [↓pvd,pva,pvr,bin2,binB2,un1,setCells,List.map,seval,reduceCtorEq]
    refine awR_call qc rfl rfl ?_
    simp (disch:=first|omega|(simp only[pvl] at *;omega)) only [↓pvd,pva,pvr,bin2,binB2,un1,setCells,List.map,seval,reduceCtorEq]
    refine awR_callv rfl (gen_nr q1 rfl) (Nat.le_refl _) ?_
    have hvl : ((pre.map fun p=>(g p).1).map (AV.int .u32)).length = 16:=by simp [hl]
    simp (disch:=first|omega|(simp only[pvl];omega)) only [↓pvd,pva,pvr,bin2,binB2,un1,setCells,List.map,seval,reduceCtorEq,ids_fn,ren_fn,ids_rptr,hl,hvl]
    (refine Ends_rq [] ?_; simp (disch:=first|omega|(simp only[pvl];omega)) only [↓pvd,pva,pvr,bin2,binB2,un1,setCells,List.map,seval,reduceCtorEq]; exact ⟨_,rfl,rfl,rfl⟩)
   ·have hgo : (pre ≠ [] → ∃ y, ((pre.map fun p=>(g p).1).map (AV.int .u32))[pre.length - 1]? = some (.int .u32 y) ∧ risF ((pre ++ [a]).map fun p=>(g p).1) = decide (y < v)):=fun hne=>by
     obtain ⟨qs, p, rfl⟩ : ∃ qs p, pre = qs ++ [p]:=⟨pre.dropLast, pre.getLast hne, (List.dropLast_concat_getLast _).symm⟩
     refine ⟨(g p).1, by simp, ?_⟩
     simp only [List.map_append,List.map_cons,List.map_nil] at h3 ⊢
     rw [risF_snoc, h3, hga, Bool.true_and]
    have fin : risF ((pre ++ [a]).map fun p=>(g p).1) = true → rduI g s (pre ++ [a], r', m'):=fun hr=>by
     refine ⟨by simp; omega, fun p hp=>?_, hr, by show r'.length ≤ _; omega, ?_⟩
     ·rcases List.mem_append.1 hp with hp | hp
      ·exact h2 p hp
      ·rw [List.mem_singleton.1 hp, hga]
     ·rw [ht]
      cases m' with
      | true=>rw [if_pos rfl, ht1 rfl]; simp
      | false=>rw [if_neg (by simp), ht2 rfl]; simp
    have hms : (if (pre ++ [a], r', m').2.2 = true then 1 else 0) + (pre ++ [a], r', m').2.1.length + (if (pre ++ [a], r', m').2.2 = true then 1 else 0) < 1 + r.length + 1:=by
     cases m' with
     | true=>have:=hc4 rfl; simp; omega
     | false=>simp; omega
    have hvm : ((pre.map fun p=>(g p).1).map (AV.int .u32)) ++ [AV.int .u32 v] = (((pre ++ [a]).map fun p=>(g p).1).map (AV.int .u32)):=by simp [hga]
    have hpl1 : ((pre.map fun p=>(g p).1).map (AV.int .u32)).all AV.pl = true:=pl_map (int_pl .u32)
    have hpl2 : (((pre ++ [a]).map fun p=>(g p).1).map (AV.int .u32)).all AV.pl = true:=pl_map (int_pl .u32)
    have hvl : ((pre.map fun p=>(g p).1).map (AV.int .u32)).length = pre.length:=by simp
    have hvl2 : (((pre ++ [a]).map fun p=>(g p).1).map (AV.int .u32)).length = pre.length + 1:=by simp
    by_cases hp0 : pre = []
    ·have hr : risF ((pre ++ [a]).map fun p=>(g p).1) = true:=by rw [hp0]; rfl
     have f1:=fin hr
     subst hp0
     simp (disch:=first|omega|(simp only[pvl] at *;omega)) only [↓pvd,pva,pvr,bin2,binB2,un1,setCells,List.map,seval,reduceCtorEq]
     refine awR_call qc rfl rfl ?_
     simp (disch:=first|omega|(simp only[pvl] at *;omega)) only [↓pvd,pva,pvr,bin2,binB2,un1,setCells,List.map,seval,reduceCtorEq]
     refine awR_callv rfl (gen_nr q1 rfl) (Nat.le_refl _) ?_
     simp (disch:=first|omega|(simp only[pvl];omega)) only [↓pvd,pva,pvr,bin2,binB2,un1,setCells,List.map,seval,reduceCtorEq,ids_fn,ren_fn,ids_rptr]
     refine ⟨([] ++ [a], r', m'), ?_, f1, hms⟩
     simp [rduS, hga]
    ·obtain ⟨y, hy1, hy2⟩:=hgo hp0
     have hp1 : 0 < pre.length:=List.length_pos_iff.2 hp0
     have hix : ((pre.length : Int) - 1).toNat = pre.length - 1:=by omega
     generalize hrow : ((pre.map fun p=>(g p).1).map (AV.int .u32)) = row at *
     generalize hrow2 : (((pre ++ [a]).map fun p=>(g p).1).map (AV.int .u32)) = row2 at *
     by_cases hyv : y < v
     ·have f1:=fin (by rw [hy2]; exact decide_eq_true hyv)
      simp (disch:=first|omega|(simp only[pvl] at *;omega)) only [↓pvd,pva,pvr,bin2,binB2,un1,setCells,List.map,seval,reduceCtorEq]
      refine awR_call qc rfl rfl ?_
      simp (disch:=first|omega|(simp only[pvl] at *;omega)) only [↓pvd,pva,pvr,bin2,binB2,un1,setCells,List.map,seval,reduceCtorEq]
      refine awR_callv rfl (gen_nr q1 rfl) (Nat.le_refl _) ?_
      simp (disch:=first|omega|(simp only[pvl];omega)) only [↓pvd,pva,pvr,bin2,binB2,un1,setCells,List.map,seval,reduceCtorEq,ids_fn,ren_fn,ids_rptr,hix,hy1,hvl,ids_all hpl1,ids_all hpl2,ren_all hpl1,ren_all hpl2,hvm]
      refine ⟨(pre ++ [a], r', m'), ?_, f1, hms⟩
      simp [rduS, hrow2, hvl, hvl2, ← hrow2, hga]
     ·rw [rlR_no (nok (fun h=>by rw [hy2] at h; exact hyv (of_decide_eq_true h.2.2)))]
      simp (disch:=first|omega|(simp only[pvl] at *;omega)) only [↓pvd,pva,pvr,bin2,binB2,un1,setCells,List.map,seval,reduceCtorEq]
      refine awR_call qc rfl rfl ?_
      simp (disch:=first|omega|(simp only[pvl] at *;omega)) only [↓pvd,pva,pvr,bin2,binB2,un1,setCells,List.map,seval,reduceCtorEq]
      refine awR_callv rfl (gen_nr q1 rfl) (Nat.le_refl _) ?_
      simp (disch:=first|omega|(simp only[pvl];omega)) only [↓pvd,pva,pvr,bin2,binB2,un1,setCells,List.map,seval,reduceCtorEq,ids_fn,ren_fn,ids_rptr,hix,hy1,hvl,ids_all hpl1,ids_all hpl2,ren_all hpl1,ren_all hpl2,hvm]
      (refine Ends_rq [] ?_; simp (disch:=first|omega|(simp only[pvl];omega)) only [↓pvd,pva,pvr,bin2,binB2,un1,setCells,List.map,seval,reduceCtorEq]; exact ⟨_,rfl,rfl,rfl⟩)
end Go.Proofs
namespace Go.Proofs
open Go.Pv
def gI (least most : Int) (p : List UInt8) : Int × Bool:=Nm.rdF p least most
set_option maxHeartbeats 4000000 in
theorem rdlist_run (s : List UInt8) (least most : Int) (hs : s.length ≤ 1000) : Run Tryz.prog 71 [.str s, .int .i64 least, .int .i64 most] (rlR 3 .i64 (gI least most) (sc s)):=by
 have q:=rdi_run s least most hs (gI least most) rfl (fun p hp=>by have:=Nm.rl1_run p least most (by omega); unfold Nm.rdR at this; exact this)
 refine Tryz.run71 (by simp) ?_
 unfold Tryz.c71
 by_cases h : rlF (gI least most) (sc s) = true
 ·rw [rlR_yes h] at q ⊢
  generalize ((sc s).map fun p=>(gI least most p).1) = vs at *
  simp (disch:=first|omega|(simp only[pvl] at *;omega)) only [↓pvd,pva,pvr,bin2,binB2,un1,setCells,List.map,seval,reduceCtorEq]
  refine awR_callR (ms:=[]) q (by simp (disch:=first|omega|(simp only[pvl];omega)) only [↓pvd,pva,pvr,bin2,binB2,un1,setCells,List.map,seval,reduceCtorEq,snp_fn,snp_eptr,rws_fn,rws_eptr,Option.toList_some]; rfl) (by simp (disch:=first|omega|(simp only[pvl];omega)) only [↓pvd,pva,pvr,bin2,binB2,un1,setCells,List.map,seval,reduceCtorEq,snp_fn,snp_eptr,rws_fn,rws_eptr,Option.toList_some]) (by first | rfl | simp [AV.pT, AV.pA, AV.pC, AV.p1, AV.p0]) ?_
  simp (disch:=first|omega|(simp only[pvl] at *;omega)) only [↓pvd,pva,pvr,bin2,binB2,un1,setCells,List.map,seval,reduceCtorEq]
  (refine Ends_rq [[.own 1 3], [.snap]] ?_; simp (disch:=first|omega|(simp only[pvl];omega)) only [↓pvd,pva,pvr,bin2,binB2,un1,setCells,List.map,seval,reduceCtorEq,ids_map (int_pl .i64),ren_map (int_pl .i64),mapO_map (int_nr .i64),rows_map (int_nr .i64)]; exact ⟨_,rfl,rfl,rfl⟩)
 ·rw [rlR_no h] at q ⊢
  simp (disch:=first|omega|(simp only[pvl] at *;omega)) only [↓pvd,pva,pvr,bin2,binB2,un1,setCells,List.map,seval,reduceCtorEq]
  refine awR_callR (ms:=[]) q (by simp (disch:=first|omega|(simp only[pvl];omega)) only [↓pvd,pva,pvr,bin2,binB2,un1,setCells,List.map,seval,reduceCtorEq,snp_fn,snp_eptr,rws_fn,rws_eptr,Option.toList_some]; rfl) (by simp (disch:=first|omega|(simp only[pvl];omega)) only [↓pvd,pva,pvr,bin2,binB2,un1,setCells,List.map,seval,reduceCtorEq,snp_fn,snp_eptr,rws_fn,rws_eptr,Option.toList_some]) (by first | rfl | simp [AV.pT, AV.pA, AV.pC, AV.p1, AV.p0]) ?_
  simp (disch:=first|omega|(simp only[pvl] at *;omega)) only [↓pvd,pva,pvr,bin2,binB2,un1,setCells,List.map,seval,reduceCtorEq]
  (refine Ends_rq [] ?_; simp (disch:=first|omega|(simp only[pvl];omega)) only [↓pvd,pva,pvr,bin2,binB2,un1,setCells,List.map,seval,reduceCtorEq]; exact ⟨_,rfl,rfl,rfl⟩)
theorem rdaddrs_run (s : List UInt8) (hs : s.length ≤ 1000) : Run Tryz.prog 41 [.str s] (rlR 35 .u32 rdB (sc s)):=by
 have q:=rdu_run s hs rdB rfl (fun p hp=>by have:=read_run p (by omega); rw [rdB_eq] at this; exact this)
 refine Tryz.run41 (by simp) ?_
 unfold Tryz.c41
 by_cases h : rlF rdB (sc s) = true
 ·rw [rlR_yes h] at q ⊢
  generalize ((sc s).map fun p=>(rdB p).1) = vs at *
  simp (disch:=first|omega|(simp only[pvl] at *;omega)) only [↓pvd,pva,pvr,bin2,binB2,un1,setCells,List.map,seval,reduceCtorEq]
  refine awR_callR (ms:=[]) q (by simp (disch:=first|omega|(simp only[pvl];omega)) only [↓pvd,pva,pvr,bin2,binB2,un1,setCells,List.map,seval,reduceCtorEq,snp_fn,snp_eptr,rws_fn,rws_eptr,Option.toList_some]; rfl) (by simp (disch:=first|omega|(simp only[pvl];omega)) only [↓pvd,pva,pvr,bin2,binB2,un1,setCells,List.map,seval,reduceCtorEq,snp_fn,snp_eptr,rws_fn,rws_eptr,Option.toList_some]) (by first | rfl | simp [AV.pT, AV.pA, AV.pC, AV.p1, AV.p0]) ?_
  simp (disch:=first|omega|(simp only[pvl] at *;omega)) only [↓pvd,pva,pvr,bin2,binB2,un1,setCells,List.map,seval,reduceCtorEq]
  (refine Ends_rq [[.own 1 35], [.snap]] ?_; simp (disch:=first|omega|(simp only[pvl];omega)) only [↓pvd,pva,pvr,bin2,binB2,un1,setCells,List.map,seval,reduceCtorEq,ids_map (int_pl .u32),ren_map (int_pl .u32),mapO_map (int_nr .u32),rows_map (int_nr .u32)]; exact ⟨_,rfl,rfl,rfl⟩)
 ·rw [rlR_no h] at q ⊢
  simp (disch:=first|omega|(simp only[pvl] at *;omega)) only [↓pvd,pva,pvr,bin2,binB2,un1,setCells,List.map,seval,reduceCtorEq]
  refine awR_callR (ms:=[]) q (by simp (disch:=first|omega|(simp only[pvl];omega)) only [↓pvd,pva,pvr,bin2,binB2,un1,setCells,List.map,seval,reduceCtorEq,snp_fn,snp_eptr,rws_fn,rws_eptr,Option.toList_some]; rfl) (by simp (disch:=first|omega|(simp only[pvl];omega)) only [↓pvd,pva,pvr,bin2,binB2,un1,setCells,List.map,seval,reduceCtorEq,snp_fn,snp_eptr,rws_fn,rws_eptr,Option.toList_some]) (by first | rfl | simp [AV.pT, AV.pA, AV.pC, AV.p1, AV.p0]) ?_
  simp (disch:=first|omega|(simp only[pvl] at *;omega)) only [↓pvd,pva,pvr,bin2,binB2,un1,setCells,List.map,seval,reduceCtorEq]
  (refine Ends_rq [] ?_; simp (disch:=first|omega|(simp only[pvl];omega)) only [↓pvd,pva,pvr,bin2,binB2,un1,setCells,List.map,seval,reduceCtorEq]; exact ⟨_,rfl,rfl,rfl⟩)
end Go.Proofs
namespace Go.Proofs
open Go.Pv
theorem ris_next {l : List Int} {k : Nat} (h : k < l.length) : risF (l.take (k + 1)) = (risF (l.take k) && decide (k = 0 ∨ l[k - 1]! < l[k]!)):=by
 cases k with
 | zero =>
  rw [take_snoc h]
  simp [risF]
 | succ k =>
  rw [take_snoc h, take_snoc (by omega : k < l.length), risF_snoc]
  simp
theorem ris_no {l : List Int} {k : Nat} (h : k < l.length) (h0 : ¬ (k = 0 ∨ l[k - 1]! < l[k]!)) : risF l = false:=by
 cases hr : risF l with
 | false=>rfl
 | true =>
  have e : l = l.take (k + 1) ++ l.drop (k + 1):=(List.take_append_drop _ _).symm
  rw [e] at hr
  have:=risF_app _ _ hr
  rw [ris_next h, decide_eq_false h0, Bool.and_false] at this
  cases this
def rsF (l : List Int) (a b : Int) : Bool:=(l.all fun n=>decide (a ≤ n ∧ n ≤ b)) && risF l && decide (0 < l.length ∧ l.length ≤ 16)
theorem rs_no1 {l : List Int} {a b : Int} {k : Nat} (h : k < l.length) (h0 : ¬ (a ≤ l[k]! ∧ l[k]! ≤ b)) : rsF l a b = false:=by
 have : (l.all fun n=>decide (a ≤ n ∧ n ≤ b)) = false:=by
  rw [List.all_eq_false]
  exact ⟨l[k]!, by rw [getElem!_pos l k h]; exact List.getElem_mem h, by rw [decide_eq_false h0]; simp⟩
 unfold rsF
 rw [this]
 rfl
theorem rs_no2 {l : List Int} {a b : Int} {k : Nat} (h : k < l.length) (h0 : ¬ (k = 0 ∨ l[k - 1]! < l[k]!)) : rsF l a b = false:=by
 unfold rsF
 rw [ris_no h h0, Bool.and_false, Bool.false_and]
theorem rs_yes {l : List Int} {a b : Int} (h : ∀ j < l.length, a ≤ l[j]! ∧ l[j]! ≤ b) (h0 : risF l = true) : rsF l a b = decide (0 < l.length ∧ l.length ≤ 16):=by
 have : (l.all fun n=>decide (a ≤ n ∧ n ≤ b)) = true:=by
  rw [List.all_eq_true]
  intro c hc
  obtain ⟨k, hk, rfl⟩:=List.mem_iff_getElem.1 hc
  have:=h k hk
  rw [getElem!_pos l k hk] at this
  exact decide_eq_true this
 unfold rsF
 rw [this, h0]
 simp
theorem ising_run (l : List Int) (f : Bool) (a b : Int) (hl : l.length ≤ 100000) : Run Tryz.prog 124 [.sl 1 (l.map (.int .i64)) f, .int .i64 a, .int .i64 b] (.bool (rsF l a b)):=by
 refine Tryz.run124 (by simp) ?_
 unfold Tryz.c124
 simp (disch:=first|omega|(simp only[pvl] at *;omega)) only [↓pvd,pva,pvr,bin2,binB2,un1,setCells,List.map,seval,reduceCtorEq]
 refine aw_loop (fun k : Nat=>⟨[(0, .sl 1 (l.map (.int .i64)) f), (1, .int .i64 a), (2, .int .i64 b), (9, .sl 1 (l.map (.int .i64)) f), (10, .int .i64 l.length), (11, .int .i64 k)], []⟩) (fun k=>k ≤ l.length ∧ (∀ j < k, a ≤ l[j]! ∧ l[j]! ≤ b) ∧ risF (l.take k) = true) (fun k=>l.length - k) 0 ?_ ⟨by omega, by simp, rfl⟩ ?_
 ·simp (disch:=first|omega|(simp only[pvl] at *;omega)) only [↓pvd,pva,pvr,bin2,binB2,un1,setCells,List.map,seval,reduceCtorEq]
  try simp
 rintro k ⟨hk, hp, hr⟩
 unfold Tryz.c124b0
 by_cases hx : k < l.length
 ·have hgi : (l.map (AV.int .i64))[k]? = some (.int .i64 l[k]!):=map_get hx
  have hn:=ris_next hx
  rw [hr, Bool.true_and] at hn
  by_cases h1 : a ≤ l[k]! ∧ l[k]! ≤ b
  ·have nx : (k = 0 ∨ l[k - 1]! < l[k]!) → k + 1 ≤ l.length ∧ (∀ j < k + 1, a ≤ l[j]! ∧ l[j]! ≤ b) ∧ risF (l.take (k + 1)) = true:=fun h=>⟨hx, fun j hj=>by
    by_cases e : j = k
    ·rw [e]; exact h1
    ·exact hp j (by omega), by rw [hn]; exact decide_eq_true h⟩
   have h2:=h1.1
   have h3:=h1.2
   by_cases h0 : k = 0
   ·have:=nx (.inl h0)
    subst h0
    repeat' (first | (simp (disch:=first|omega|(simp only[pvl];omega)) only [↓pvd,pva,pvr,bin2,binB2,un1,setCells,List.map,seval,reduceCtorEq,hgi,still]) | (with_reducible first|refine condP_d (fun _=>?_) (fun _=>?_)|refine guardP_d0 (fun _=>?_) (fun _=>?_)|refine guardP_d1 (fun _=>?_) (fun _=>?_)|refine condP_any ?_ ?_) | (refine Ends_rq [] ?_; simp (disch:=first|omega|(simp only[pvl];omega)) only [↓pvd,pva,pvr,bin2,binB2,un1,setCells,List.map,seval,reduceCtorEq]; exact ⟨_,rfl,rfl,rfl⟩))
    exact ⟨0 + 1, rfl, this, by omega⟩
   ·have hix : ((k : Int) - 1).toNat = k - 1:=by omega
    have hgj : (l.map (AV.int .i64))[k - 1]? = some (.int .i64 l[k - 1]!):=map_get (by omega)
    have : 0 < k:=by omega
    by_cases h4 : l[k - 1]! < l[k]!
    ·have:=nx (.inr h4)
     repeat' (first | (simp (disch:=first|omega|(simp only[pvl];omega)) only [↓pvd,pva,pvr,bin2,binB2,un1,setCells,List.map,seval,reduceCtorEq,hgi,hix,hgj,still]) | (with_reducible first|refine condP_d (fun _=>?_) (fun _=>?_)|refine guardP_d0 (fun _=>?_) (fun _=>?_)|refine guardP_d1 (fun _=>?_) (fun _=>?_)|refine condP_any ?_ ?_) | (refine Ends_rq [] ?_; simp (disch:=first|omega|(simp only[pvl];omega)) only [↓pvd,pva,pvr,bin2,binB2,un1,setCells,List.map,seval,reduceCtorEq]; exact ⟨_,rfl,rfl,rfl⟩))
     exact ⟨k + 1, rfl, this, by omega⟩
    ·rw [rs_no2 hx (fun h=>h.elim h0 h4)]
     repeat' (first | (simp (disch:=first|omega|(simp only[pvl];omega)) only [↓pvd,pva,pvr,bin2,binB2,un1,setCells,List.map,seval,reduceCtorEq,hgi,hix,hgj,still]) | (with_reducible first|refine condP_d (fun _=>?_) (fun _=>?_)|refine guardP_d0 (fun _=>?_) (fun _=>?_)|refine guardP_d1 (fun _=>?_) (fun _=>?_)|refine condP_any ?_ ?_) | (refine Ends_rq [] ?_; simp (disch:=first|omega|(simp only[pvl];omega)) only [↓pvd,pva,pvr,bin2,binB2,un1,setCells,List.map,seval,reduceCtorEq]; exact ⟨_,rfl,rfl,rfl⟩))
  ·rw [rs_no1 hx h1]
   by_cases h2 : l[k]! < a
   ·repeat' (first | (simp (disch:=first|omega|(simp only[pvl];omega)) only [↓pvd,pva,pvr,bin2,binB2,un1,setCells,List.map,seval,reduceCtorEq,hgi,still]) | (with_reducible first|refine condP_d (fun _=>?_) (fun _=>?_)|refine guardP_d0 (fun _=>?_) (fun _=>?_)|refine guardP_d1 (fun _=>?_) (fun _=>?_)|refine condP_any ?_ ?_) | (refine Ends_rq [] ?_; simp (disch:=first|omega|(simp only[pvl];omega)) only [↓pvd,pva,pvr,bin2,binB2,un1,setCells,List.map,seval,reduceCtorEq]; exact ⟨_,rfl,rfl,rfl⟩))
   ·have : b < l[k]!:=by omega
    repeat' (first | (simp (disch:=first|omega|(simp only[pvl];omega)) only [↓pvd,pva,pvr,bin2,binB2,un1,setCells,List.map,seval,reduceCtorEq,hgi,still]) | (with_reducible first|refine condP_d (fun _=>?_) (fun _=>?_)|refine guardP_d0 (fun _=>?_) (fun _=>?_)|refine guardP_d1 (fun _=>?_) (fun _=>?_)|refine condP_any ?_ ?_) | (refine Ends_rq [] ?_; simp (disch:=first|omega|(simp only[pvl];omega)) only [↓pvd,pva,pvr,bin2,binB2,un1,setCells,List.map,seval,reduceCtorEq]; exact ⟨_,rfl,rfl,rfl⟩))
 ·have e : k = l.length:=by omega
  subst e
  rw [List.take_length] at hr
  rw [rs_yes hp hr]
  by_cases h1 : 0 < l.length
  ·by_cases h2 : l.length ≤ 16
   ·rw [decide_eq_true ⟨h1, h2⟩]
    repeat' (first | (simp (disch:=first|omega|(simp only[pvl];omega)) only [↓pvd,pva,pvr,bin2,binB2,un1,setCells,List.map,seval,reduceCtorEq,List.length_map,still]) | (with_reducible first|refine condP_d (fun _=>?_) (fun _=>?_)|refine guardP_d0 (fun _=>?_) (fun _=>?_)|refine guardP_d1 (fun _=>?_) (fun _=>?_)|refine condP_any ?_ ?_) | (refine Ends_rq [] ?_; simp (disch:=first|omega|(simp only[pvl];omega)) only [↓pvd,pva,pvr,bin2,binB2,un1,setCells,List.map,seval,reduceCtorEq]; exact ⟨_,rfl,rfl,rfl⟩))
   ·rw [decide_eq_false (fun h=>h2 h.2)]
    repeat' (first | (simp (disch:=first|omega|(simp only[pvl];omega)) only [↓pvd,pva,pvr,bin2,binB2,un1,setCells,List.map,seval,reduceCtorEq,List.length_map,still]) | (with_reducible first|refine condP_d (fun _=>?_) (fun _=>?_)|refine guardP_d0 (fun _=>?_) (fun _=>?_)|refine guardP_d1 (fun _=>?_) (fun _=>?_)|refine condP_any ?_ ?_) | (refine Ends_rq [] ?_; simp (disch:=first|omega|(simp only[pvl];omega)) only [↓pvd,pva,pvr,bin2,binB2,un1,setCells,List.map,seval,reduceCtorEq]; exact ⟨_,rfl,rfl,rfl⟩))
  ·rw [decide_eq_false (fun h=>h1 h.1)]
   repeat' (first | (simp (disch:=first|omega|(simp only[pvl];omega)) only [↓pvd,pva,pvr,bin2,binB2,un1,setCells,List.map,seval,reduceCtorEq,List.length_map,still]) | (with_reducible first|refine condP_d (fun _=>?_) (fun _=>?_)|refine guardP_d0 (fun _=>?_) (fun _=>?_)|refine guardP_d1 (fun _=>?_) (fun _=>?_)|refine condP_any ?_ ?_) | (refine Ends_rq [] ?_; simp (disch:=first|omega|(simp only[pvl];omega)) only [↓pvd,pva,pvr,bin2,binB2,un1,setCells,List.map,seval,reduceCtorEq]; exact ⟨_,rfl,rfl,rfl⟩))
theorem rising_run (l : List Int) (f : Bool) (a b : Int) (hl : l.length ≤ 100000) : Run Tryz.prog 133 [.sl 1 (l.map (.int .i64)) f, .int .i64 a, .int .i64 b] (.bool (rsF l a b)):=by
 refine Tryz.run133 (by simp) ?_
 unfold Tryz.c133
 by_cases hln : 0 < l.length ∧ l.length ≤ 16
 case neg =>
  have : rsF l a b = false:=by unfold rsF; rw [decide_eq_false hln, Bool.and_false]
  rw [this]
  by_cases h1 : 0 < l.length
  ·have : 16 < l.length:=by omega
   repeat' (first | (simp (disch:=first|omega|(simp only[pvl];omega)) only [↓pvd,pva,pvr,bin2,binB2,un1,setCells,List.map,seval,reduceCtorEq,List.length_map,still]) | (with_reducible first|refine condP_d (fun _=>?_) (fun _=>?_)|refine guardP_d0 (fun _=>?_) (fun _=>?_)|refine guardP_d1 (fun _=>?_) (fun _=>?_)|refine condP_any ?_ ?_) | (refine Ends_rq [] ?_; simp (disch:=first|omega|(simp only[pvl];omega)) only [↓pvd,pva,pvr,bin2,binB2,un1,setCells,List.map,seval,reduceCtorEq]; exact ⟨_,rfl,rfl,rfl⟩))
  ·repeat' (first | (simp (disch:=first|omega|(simp only[pvl];omega)) only [↓pvd,pva,pvr,bin2,binB2,un1,setCells,List.map,seval,reduceCtorEq,List.length_map,still]) | (with_reducible first|refine condP_d (fun _=>?_) (fun _=>?_)|refine guardP_d0 (fun _=>?_) (fun _=>?_)|refine guardP_d1 (fun _=>?_) (fun _=>?_)|refine condP_any ?_ ?_) | (refine Ends_rq [] ?_; simp (disch:=first|omega|(simp only[pvl];omega)) only [↓pvd,pva,pvr,bin2,binB2,un1,setCells,List.map,seval,reduceCtorEq]; exact ⟨_,rfl,rfl,rfl⟩))
 have hln1:=hln.1
 have hln2:=hln.2
 repeat' (first | (simp (disch:=first|omega|(simp only[pvl];omega)) only [↓pvd,pva,pvr,bin2,binB2,un1,setCells,List.map,seval,reduceCtorEq,List.length_map,still]) | (with_reducible first|refine condP_d (fun _=>?_) (fun _=>?_)|refine guardP_d0 (fun _=>?_) (fun _=>?_)|refine guardP_d1 (fun _=>?_) (fun _=>?_)|refine condP_any ?_ ?_) | (refine Ends_rq [] ?_; simp (disch:=first|omega|(simp only[pvl];omega)) only [↓pvd,pva,pvr,bin2,binB2,un1,setCells,List.map,seval,reduceCtorEq]; exact ⟨_,rfl,rfl,rfl⟩))
 refine aw_loop (fun k : Nat=>⟨[(0, .sl 1 (l.map (.int .i64)) f), (1, .int .i64 a), (2, .int .i64 b), (7, .int .i64 k)], []⟩) (fun k=>k ≤ l.length ∧ (∀ j < k, a ≤ l[j]! ∧ l[j]! ≤ b) ∧ risF (l.take k) = true) (fun k=>l.length - k) 0 ?_ ⟨by omega, by simp, rfl⟩ ?_
 ·simp (disch:=first|omega|(simp only[pvl] at *;omega)) only [↓pvd,pva,pvr,bin2,binB2,un1,setCells,List.map,seval,reduceCtorEq]
  try simp
 rintro k ⟨hk, hp, hr⟩
 unfold Tryz.c133b0
 by_cases hx : k < l.length
 ·have hgi : (l.map (AV.int .i64))[k]? = some (.int .i64 l[k]!):=map_get hx
  have hn:=ris_next hx
  rw [hr, Bool.true_and] at hn
  by_cases h1 : a ≤ l[k]! ∧ l[k]! ≤ b
  ·have nx : (k = 0 ∨ l[k - 1]! < l[k]!) → k + 1 ≤ l.length ∧ (∀ j < k + 1, a ≤ l[j]! ∧ l[j]! ≤ b) ∧ risF (l.take (k + 1)) = true:=fun h=>⟨hx, fun j hj=>by
    by_cases e : j = k
    ·rw [e]; exact h1
    ·exact hp j (by omega), by rw [hn]; exact decide_eq_true h⟩
   have h2:=h1.1
   have h3:=h1.2
   by_cases h0 : k = 0
   ·have:=nx (.inl h0)
    subst h0
    repeat' (first | (simp (disch:=first|omega|(simp only[pvl];omega)) only [↓pvd,pva,pvr,bin2,binB2,un1,setCells,List.map,seval,reduceCtorEq,hgi,List.length_map,still]) | (with_reducible first|refine condP_d (fun _=>?_) (fun _=>?_)|refine guardP_d0 (fun _=>?_) (fun _=>?_)|refine guardP_d1 (fun _=>?_) (fun _=>?_)|refine condP_any ?_ ?_) | (refine Ends_rq [] ?_; simp (disch:=first|omega|(simp only[pvl];omega)) only [↓pvd,pva,pvr,bin2,binB2,un1,setCells,List.map,seval,reduceCtorEq]; exact ⟨_,rfl,rfl,rfl⟩))
    exact ⟨0 + 1, rfl, this, by omega⟩
   ·have hix : ((k : Int) - 1).toNat = k - 1:=by omega
    have hgj : (l.map (AV.int .i64))[k - 1]? = some (.int .i64 l[k - 1]!):=map_get (by omega)
    have : 0 < k:=by omega
    by_cases h4 : l[k - 1]! < l[k]!
    ·have:=nx (.inr h4)
     repeat' (first | (simp (disch:=first|omega|(simp only[pvl];omega)) only [↓pvd,pva,pvr,bin2,binB2,un1,setCells,List.map,seval,reduceCtorEq,hgi,hix,hgj,List.length_map,still]) | (with_reducible first|refine condP_d (fun _=>?_) (fun _=>?_)|refine guardP_d0 (fun _=>?_) (fun _=>?_)|refine guardP_d1 (fun _=>?_) (fun _=>?_)|refine condP_any ?_ ?_) | (refine Ends_rq [] ?_; simp (disch:=first|omega|(simp only[pvl];omega)) only [↓pvd,pva,pvr,bin2,binB2,un1,setCells,List.map,seval,reduceCtorEq]; exact ⟨_,rfl,rfl,rfl⟩))
     exact ⟨k + 1, rfl, this, by omega⟩
    ·rw [rs_no2 hx (fun h=>h.elim h0 h4)]
     repeat' (first | (simp (disch:=first|omega|(simp only[pvl];omega)) only [↓pvd,pva,pvr,bin2,binB2,un1,setCells,List.map,seval,reduceCtorEq,hgi,hix,hgj,List.length_map,still]) | (with_reducible first|refine condP_d (fun _=>?_) (fun _=>?_)|refine guardP_d0 (fun _=>?_) (fun _=>?_)|refine guardP_d1 (fun _=>?_) (fun _=>?_)|refine condP_any ?_ ?_) | (refine Ends_rq [] ?_; simp (disch:=first|omega|(simp only[pvl];omega)) only [↓pvd,pva,pvr,bin2,binB2,un1,setCells,List.map,seval,reduceCtorEq]; exact ⟨_,rfl,rfl,rfl⟩))
  ·rw [rs_no1 hx h1]
   by_cases h2 : l[k]! < a
   ·repeat' (first | (simp (disch:=first|omega|(simp only[pvl];omega)) only [↓pvd,pva,pvr,bin2,binB2,un1,setCells,List.map,seval,reduceCtorEq,hgi,List.length_map,still]) | (with_reducible first|refine condP_d (fun _=>?_) (fun _=>?_)|refine guardP_d0 (fun _=>?_) (fun _=>?_)|refine guardP_d1 (fun _=>?_) (fun _=>?_)|refine condP_any ?_ ?_) | (refine Ends_rq [] ?_; simp (disch:=first|omega|(simp only[pvl];omega)) only [↓pvd,pva,pvr,bin2,binB2,un1,setCells,List.map,seval,reduceCtorEq]; exact ⟨_,rfl,rfl,rfl⟩))
   ·have : b < l[k]!:=by omega
    repeat' (first | (simp (disch:=first|omega|(simp only[pvl];omega)) only [↓pvd,pva,pvr,bin2,binB2,un1,setCells,List.map,seval,reduceCtorEq,hgi,List.length_map,still]) | (with_reducible first|refine condP_d (fun _=>?_) (fun _=>?_)|refine guardP_d0 (fun _=>?_) (fun _=>?_)|refine guardP_d1 (fun _=>?_) (fun _=>?_)|refine condP_any ?_ ?_) | (refine Ends_rq [] ?_; simp (disch:=first|omega|(simp only[pvl];omega)) only [↓pvd,pva,pvr,bin2,binB2,un1,setCells,List.map,seval,reduceCtorEq]; exact ⟨_,rfl,rfl,rfl⟩))
 ·have e : k = l.length:=by omega
  subst e
  rw [List.take_length] at hr
  rw [rs_yes hp hr, decide_eq_true hln]
  repeat' (first | (simp (disch:=first|omega|(simp only[pvl];omega)) only [↓pvd,pva,pvr,bin2,binB2,un1,setCells,List.map,seval,reduceCtorEq,List.length_map,still]) | (with_reducible first|refine condP_d (fun _=>?_) (fun _=>?_)|refine guardP_d0 (fun _=>?_) (fun _=>?_)|refine guardP_d1 (fun _=>?_) (fun _=>?_)|refine condP_any ?_ ?_) | (refine Ends_rq [] ?_; simp (disch:=first|omega|(simp only[pvl];omega)) only [↓pvd,pva,pvr,bin2,binB2,un1,setCells,List.map,seval,reduceCtorEq]; exact ⟨_,rfl,rfl,rfl⟩))
end Go.Proofs
namespace Go.Proofs
namespace Mc
open Go.Pv
theorem shift_run (i : Int) (h : 0 ≤ i) (h' : i ≤ 5) : Run Tryz.prog 153 [.int .i64 i] (.int .u64 (8 * (5 - i))):=by
 refine Tryz.run153 (by simp) ?_
 unfold Tryz.c153
 simp (disch:=first|omega|(simp only[pvl] at *;omega)) only [↓pvd,pva,pvr,bin2,binB2,un1,setCells,List.map,seval,reduceCtorEq]
 (refine Ends_rq [] ?_; simp (disch:=first|omega|(simp only[pvl];omega)) only [↓pvd,pva,pvr,bin2,binB2,un1,setCells,List.map,seval,reduceCtorEq]; exact ⟨_,rfl,rfl,rfl⟩)
def dg (c : UInt8) : Int:=if 48 ≤ c.toNat ∧ c.toNat ≤ 57 then c.toNat - 48 else if 97 ≤ c.toNat ∧ c.toNat ≤ 102 then c.toNat - 87 else 16
theorem digit_run (c : UInt8) : Run Tryz.prog 99 [.int .u8 c.toNat] (.int .u64 (dg c)):=by
 have hc:=c.toNat_lt
 refine Tryz.run99 (by simp) ?_
 unfold Tryz.c99
 repeat' (first | simp (disch:=first|omega|(simp only[pvl];omega)) only [↓pvd,pva,pvr,bin2,binB2,un1,setCells,List.map,seval,reduceCtorEq] | (with_reducible first|refine condP_d (fun _=>?_) (fun _=>?_)|refine guardP_d0 (fun _=>?_) (fun _=>?_)|refine guardP_d1 (fun _=>?_) (fun _=>?_)|refine condP_any ?_ ?_))
 all_goals ((unfold dg; simp (disch:=omega) only [if_pos,if_neg]); refine Ends_rq [] ?_; simp (disch:=first|omega|(simp only[pvl] at *;omega)) only [↓pvd,pva,pvr,bin2,binB2,un1,setCells,List.map,seval,reduceCtorEq]; exact ⟨_, rfl, by first | rfl | (simp only [AV.int.injEq,true_and]; omega), rfl⟩)
theorem div_pow {m : Int} {j : Nat} : m / 256 ^ j / 256 = m / 256 ^ (j + 1):=by
 rw [Int.ediv_ediv_of_nonneg (Int.le_of_lt (Int.pow_pos (by decide)))]; rfl
def mb (m : Int) : List UInt8:=[u8i (m / 1099511627776), u8i (m / 4294967296), u8i (m / 16777216), u8i (m / 65536), u8i (m / 256), u8i m]
theorem bytes_run (m : Int) (h : 0 ≤ m) (h' : m < 18446744073709551616) : Run Tryz.prog 131 [.int .u64 m] (.own 1 5 (bys (mb m))):=by
 refine Tryz.run131 (by simp) ?_
 unfold Tryz.c131
 simp (disch:=first|omega|(simp only[pvl] at *;omega)) only [↓pvd,pva,pvr,bin2,binB2,un1,setCells,List.map,seval,reduceCtorEq]
 refine aw_loop (fun k : Nat=>⟨[(0, .int .u64 m), (3, .vec 0 1 0 k), (4, .int .i64 (5 - k))], [some ⟨5, bys ((mb m).take k), true⟩]⟩) (fun k=>k ≤ 6) (fun k=>6 - k) 0 ?_ (by omega) ?_
 ·simp (disch:=first|omega|(simp only[pvl] at *;omega)) only [↓pvd,pva,pvr,bin2,binB2,un1,setCells,List.map,seval,reduceCtorEq]
 intro k hk
 unfold Tryz.c131b1
 simp (disch:=first|omega|(simp only[pvl] at *;omega)) only [↓pvd,pva,pvr,bin2,binB2,un1,setCells,List.map,seval,reduceCtorEq]
 refine condP_d (fun hc=>?_) (fun hc=>?_)
 ·simp (disch:=first|omega|(simp only[pvl] at *;omega)) only [↓pvd,pva,pvr,bin2,binB2,un1,setCells,List.map,seval,reduceCtorEq]
  refine aw_loop (fun j : Nat=>⟨[(0, .int .u64 m), (3, .vec 0 1 0 k), (4, .int .i64 (5 - k)), (5, .int .u64 (m / 256 ^ j)), (6, .int .i64 j)], [some ⟨5, bys ((mb m).take k), true⟩]⟩) (fun j=>j ≤ 5 - k) (fun j=>5 - k - j) 0 ?_ (by omega) ?_
  ·simp (disch:=first|omega|(simp only[pvl] at *;omega)) only [↓pvd,pva,pvr,bin2,binB2,un1,setCells,List.map,seval,reduceCtorEq]
   simp
  intro j hj
  have hp : 0 ≤ m / 256 ^ j ∧ m / 256 ^ j ≤ m:=⟨Int.ediv_nonneg h (Int.le_of_lt (Int.pow_pos (by decide))), Int.ediv_le_self _ h⟩
  unfold Tryz.c131b0
  simp (disch:=first|omega|(simp only[pvl] at *;omega)) only [↓pvd,pva,pvr,bin2,binB2,un1,setCells,List.map,seval,reduceCtorEq]
  refine condP_d (fun hd=>?_) (fun hd=>?_)
  ·simp (disch:=first|omega|(simp only[pvl] at *;omega)) only [↓pvd,pva,pvr,bin2,binB2,un1,setCells,List.map,seval,reduceCtorEq]
   exact ⟨j + 1, by rw [div_pow]; simp, by omega, by omega⟩
  ·have hj2 : j = 5 - k:=by omega
   have hl : ((mb m).take k).length = k:=by simp [mb]; omega
   have ht : (mb m).take k ++ [u8i (m / 256 ^ j)] = (mb m).take (k + 1):=by
    subst hj2
    have : k = 0 ∨ k = 1 ∨ k = 2 ∨ k = 3 ∨ k = 4 ∨ k = 5:=by omega
    rcases this with rfl | rfl | rfl | rfl | rfl | rfl <;> simp [mb]
   generalize m / 256 ^ j = q at *
   generalize (mb m).take k = l at *
   simp (disch:=first|omega|(simp only[pvl] at *;omega)) only [↓pvd,pva,pvr,bin2,binB2,un1,setCells,List.map,seval,reduceCtorEq]
   exact ⟨k + 1, by rw [← ht]; simp [bys, bv_u8i]; omega, by omega, by omega⟩
 ·have : k = 6:=by omega
  subst this
  simp (disch:=first|omega|(simp only[pvl] at *;omega)) only [↓pvd,pva,pvr,bin2,binB2,un1,setCells,List.map,seval,reduceCtorEq]
  (refine Ends_rq [[.own 1 5]] ?_; simp (disch:=first|omega|(simp only[pvl];omega)) only [↓pvd,pva,pvr,bin2,binB2,un1,setCells,List.map,seval,reduceCtorEq]; exact ⟨_,rfl,rfl,rfl⟩)
end Mc
end Go.Proofs
namespace Go.Proofs
namespace Mc
open Go.Pv
theorem nat_and_pow (n j : Nat) : n &&& 2 ^ j = n / 2 ^ j % 2 * 2 ^ j:=by
 apply Nat.eq_of_testBit_eq
 intro i
 rw [Nat.testBit_and, Nat.testBit_two_pow, Nat.testBit_mul_two_pow]
 have e : n / 2 ^ j % 2 = n / 2 ^ j % 2 ^ 1:=by simp
 rw [e, Nat.testBit_mod_two_pow, Nat.testBit_div_two_pow]
 by_cases h : j = i
 ·subst h; simp
 ·by_cases h2 : j ≤ i
  ·simp [h]; omega
  ·simp [h, h2]
theorem and_40 {m : Int} (h : 0 ≤ m) (h' : m < 18446744073709551616) : and2 .u64 m 1099511627776 = m / 1099511627776 % 2 * 1099511627776:=by
 obtain ⟨n, rfl⟩:=Int.eq_ofNat_of_zero_le h
 unfold and2
 rw [BitVec.toNat_and, ofInt_toNat h (by rw [bits_u64]; omega), ofInt_toNat (by omega) (by rw [bits_u64]; omega)]
 have e : (1099511627776 : Int).toNat = 2 ^ 40:=rfl
 rw [e, Int.toNat_natCast, nat_and_pow, wrap_u64]
 omega
theorem group_run (m : Int) (h : 0 ≤ m) (h' : m < 18446744073709551616) : Run Tryz.prog 101 [.int .u64 m] (.bool (decide (m / 1099511627776 % 2 = 1))):=by
 refine Tryz.run101 (by simp) ?_
 unfold Tryz.c101
 simp (disch:=first|omega|(simp only[pvl];omega)) only [↓pvd,pva,pvr,bin2,binB2,un1,setCells,List.map,seval,reduceCtorEq,and_40]
 refine Ends_rq [] ?_
 simp (disch:=first|omega|(simp only[pvl] at *;omega)) only [↓pvd,pva,pvr,bin2,binB2,un1,setCells,List.map,seval,reduceCtorEq]
 exact ⟨_, rfl, by simp only [AV.bool.injEq,decide_eq_decide]; omega, rfl⟩
theorem ref_group_run (m : Int) (h : 0 ≤ m) (h' : m < 18446744073709551616) : Run Tryz.prog 111 [.int .u64 m] (.bool (decide (m / 1099511627776 % 2 = 1))):=by
 refine Tryz.run111 (by simp) ?_
 unfold Tryz.c111
 simp (disch:=first|omega|(simp only[pvl] at *;omega)) only [↓pvd,pva,pvr,bin2,binB2,un1,setCells,List.map,seval,reduceCtorEq]
 refine awR_call (bytes_run m h h') rfl rfl ?_
 simp (disch:=first|omega|(simp only[pvl];omega)) only [↓pvd,pva,pvr,bin2,binB2,un1,setCells,List.map,seval,reduceCtorEq,mb,u8i_nat]
 refine Ends_rq [] ?_
 simp (disch:=first|omega|(simp only[pvl] at *;omega)) only [↓pvd,pva,pvr,bin2,binB2,un1,setCells,List.map,seval,reduceCtorEq]
 exact ⟨_, rfl, by simp only [AV.bool.injEq,decide_eq_decide]; omega, rfl⟩
def ish (m : Int) : Int × Bool:=if m / 4294967296 % 65536 = 512 then (m % 4294967296, true) else (0, false)
theorem ishost_run (m : Int) (h : 0 ≤ m) (h' : m < 18446744073709551616) : Run Tryz.prog 100 [.int .u64 m] (.tup [.int .u32 (ish m).1, .bool (ish m).2]):=by
 refine Tryz.run100 (by simp) ?_
 unfold Tryz.c100
 repeat' (first | simp (disch:=first|omega|(simp only[pvl];omega)) only [↓pvd,pva,pvr,bin2,binB2,un1,setCells,List.map,seval,reduceCtorEq] | (with_reducible first|refine condP_d (fun _=>?_) (fun _=>?_)|refine guardP_d0 (fun _=>?_) (fun _=>?_)|refine guardP_d1 (fun _=>?_) (fun _=>?_)|refine condP_any ?_ ?_))
 all_goals ((unfold ish; simp (disch:=omega) only [if_pos,if_neg]); refine Ends_rq [] ?_; simp (disch:=first|omega|(simp only[pvl] at *;omega)) only [↓pvd,pva,pvr,bin2,binB2,un1,setCells,List.map,seval,reduceCtorEq]; exact ⟨_, rfl, by first | rfl | (simp only [AV.tup.injEq,List.cons.injEq,AV.int.injEq,true_and,and_true]; omega), rfl⟩)
def nb (b : List UInt8) : Int:=b.foldl (fun n x=>n * 256 + x.toNat) 0
theorem nb_snoc (b : List UInt8) (x : UInt8) : nb (b ++ [x]) = nb b * 256 + x.toNat:=by simp [nb]
theorem nb_b (b : List UInt8) : 0 ≤ nb b ∧ nb b < 256 ^ b.length:=by
 suffices h : ∀ r : List UInt8, 0 ≤ nb r.reverse ∧ nb r.reverse < 256 ^ r.length by simpa using h b.reverse
 intro r
 induction r with
 | nil=>exact ⟨by decide, by decide⟩
 | cons x r ih =>
  have hx:=x.toNat_lt
  rw [List.reverse_cons, nb_snoc, List.length_cons, Int.pow_succ]
  generalize (256 : Int) ^ r.length = q at *
  omega
theorem take_snoc {α : Type} [Inhabited α] {l : List α} {k : Nat} (h : k < l.length) : l.take (k + 1) = l.take k ++ [l[k]!]:=by
 rw [List.take_succ_eq_append_getElem h]
 simp [h]
theorem nb_small (b : List UInt8) (h : b.length ≤ 6) (k : Nat) (hk : k < b.length) : 0 ≤ nb (b.take k) ∧ nb (b.take k) < 1099511627776:=by
 have h1:=nb_b (b.take k)
 rw [List.length_take, Nat.min_eq_left (by omega)] at h1
 have : (256 : Int) ^ k ≤ 256 ^ 5:=by exact_mod_cast Nat.pow_le_pow_right (by decide) (by omega)
 omega
theorem number_run (b : List UInt8) (full : Bool) (h : b.length ≤ 6) : Run Tryz.prog 132 [.sl 1 (bys b) full] (.int .u64 (nb b)):=by
 refine Tryz.run132 (by simp) ?_
 unfold Tryz.c132
 simp (disch:=first|omega|(simp only[pvl] at *;omega)) only [↓pvd,pva,pvr,bin2,binB2,un1,setCells,List.map,seval,reduceCtorEq]
 refine aw_loop (fun k : Nat=>⟨[(0, .sl 1 (bys b) full), (3, .int .u64 (nb (b.take k))), (4, .int .i64 k)], []⟩) (fun k=>k ≤ b.length) (fun k=>b.length - k) 0 ?_ (by omega) ?_
 ·simp (disch:=first|omega|(simp only[pvl] at *;omega)) only [↓pvd,pva,pvr,bin2,binB2,un1,setCells,List.map,seval,reduceCtorEq]
  rfl
 intro k hk
 unfold Tryz.c132b0
 simp (disch:=first|omega|(simp only[pvl] at *;omega)) only [↓pvd,pva,pvr,bin2,binB2,un1,setCells,List.map,seval,reduceCtorEq]
 refine condP_d (fun hc=>?_) (fun hc=>?_)
 ·have hn:=nb_small b h k (by omega)
  have hx:=(b[k]!).toNat_lt
  have ht:=take_snoc (l:=b) (k:=k) (by omega)
  have hs:=nb_snoc (b.take k) b[k]!
  rw [← ht] at hs
  generalize nb (b.take k) = n at *
  simp (disch:=first|omega|(simp only[pvl] at *;omega)) only [↓pvd,pva,pvr,bin2,binB2,un1,setCells,List.map,seval,reduceCtorEq]
  exact ⟨k + 1, by rw [hs]; simp, by omega, by omega⟩
 ·have : k = b.length:=by omega
  subst this
  simp (disch:=first|omega|(simp only[pvl] at *;omega)) only [↓pvd,pva,pvr,bin2,binB2,un1,setCells,List.map,seval,reduceCtorEq]
  (refine Ends_rq [] ?_; simp (disch:=first|omega|(simp only[pvl];omega)) only [↓pvd,pva,pvr,bin2,binB2,un1,setCells,List.map,seval,reduceCtorEq]; exact ⟨_,rfl,rfl,rfl⟩)
theorem ref_ishost_run (m : Int) (h : 0 ≤ m) (h' : m < 18446744073709551616) : Run Tryz.prog 110 [.int .u64 m] (.tup [.int .u32 (ish m).1, .bool (ish m).2]):=by
 refine Tryz.run110 (by simp) ?_
 unfold Tryz.c110
 simp (disch:=first|omega|(simp only[pvl] at *;omega)) only [↓pvd,pva,pvr,bin2,binB2,un1,setCells,List.map,seval,reduceCtorEq]
 refine awR_call (run_frz (bytes_run m h h')) rfl rfl ?_
 simp (disch:=first|omega|(simp only[pvl];omega)) only [↓pvd,pva,pvr,bin2,binB2,un1,setCells,List.map,seval,reduceCtorEq,frz,frzA,frzC,mb,u8i_nat]
 repeat' (first | simp (disch:=first|omega|(simp only[pvl];omega)) only [↓pvd,pva,pvr,bin2,binB2,un1,setCells,List.map,seval,reduceCtorEq] | (with_reducible first|refine condP_d (fun _=>?_) (fun _=>?_)|refine guardP_d0 (fun _=>?_) (fun _=>?_)|refine guardP_d1 (fun _=>?_) (fun _=>?_)|refine condP_any ?_ ?_))
 all_goals first
  | ((unfold ish; simp (disch:=omega) only [if_pos,if_neg]); refine Ends_rq [] ?_; simp (disch:=first|omega|(simp only[pvl] at *;omega)) only [↓pvd,pva,pvr,bin2,binB2,un1,setCells,List.map,seval,reduceCtorEq]; exact ⟨_, rfl, by first | rfl | (simp only [AV.tup.injEq,List.cons.injEq,AV.int.injEq,true_and,and_true]; omega), rfl⟩; done)
  | skip
 have hn:=number_run [u8i (m / 16777216), u8i (m / 65536), u8i (m / 256), u8i m] false (by simp)
 simp only [bys,List.map,bv_u8i] at hn
 refine awR_call hn rfl rfl ?_
 have e : nb [u8i (m / 16777216), u8i (m / 65536), u8i (m / 256), u8i m] = m % 4294967296:=by
  simp only [nb,List.foldl,u8i_nat]; omega
 rw [e]
 simp (disch:=first|omega|(simp only[pvl] at *;omega)) only [↓pvd,pva,pvr,bin2,binB2,un1,setCells,List.map,seval,reduceCtorEq]
 (unfold ish; simp (disch:=omega) only [if_pos,if_neg]); refine Ends_rq [] ?_; simp (disch:=first|omega|(simp only[pvl] at *;omega)) only [↓pvd,pva,pvr,bin2,binB2,un1,setCells,List.map,seval,reduceCtorEq]; exact ⟨_, rfl, by first | rfl | (simp only [AV.tup.injEq,List.cons.injEq,AV.int.injEq,true_and,and_true]; omega), rfl⟩
end Mc
end Go.Proofs
namespace Go.Proofs
namespace Mc
open Go.Pv
def hx (n : Int) : UInt8:=[48, 49, 50, 51, 52, 53, 54, 55, 56, 57, 97, 98, 99, 100, 101, 102][n.toNat]!
theorem hx_get {n : Int} (h : 0 ≤ n) (h' : n < 16) : Option.map bv (([48, 49, 50, 51, 52, 53, 54, 55, 56, 57, 97, 98, 99, 100, 101, 102] : List UInt8)[n.toNat]?) = some (bv (hx n)):=by
 obtain ⟨k, rfl⟩:=Int.eq_ofNat_of_zero_le h
 have : k < 16:=by omega
 unfold hx
 rw [Int.toNat_natCast, List.getElem?_eq_getElem (by simpa using this), List.getElem!_eq_getElem?_getD, List.getElem?_eq_getElem (by simpa using this)]
 rfl
theorem hx_sl {a b : Int} (h : 0 ≤ a) (h' : a < 16) (hb : b = a + 1) : List.drop a.toNat (List.take b.toNat ([48, 49, 50, 51, 52, 53, 54, 55, 56, 57, 97, 98, 99, 100, 101, 102] : List UInt8)) = [hx a]:=by
 obtain ⟨k, rfl⟩:=Int.eq_ofNat_of_zero_le h
 subst hb
 have : k < 16:=by omega
 have e : ((k : Int) + 1).toNat = k + 1:=by omega
 rw [e, Int.toNat_natCast]
 unfold hx
 rw [Int.toNat_natCast]
 rcases k with _ | _ | _ | _ | _ | _ | _ | _ | _ | _ | _ | _ | _ | _ | _ | _ | k <;> first | rfl | omega
theorem hx_mod {a : Int} (h : 0 ≤ a) (h' : a < 16) : hx (a % 256) = hx a:=by rw [Int.emod_eq_of_lt h (by omega)]
def tx (m : Int) : List UInt8 :=
 [hx (m / 1099511627776 % 256 / 16), hx (m / 1099511627776 % 256 % 16), 58, hx (m / 4294967296 % 256 / 16), hx (m / 4294967296 % 256 % 16), 58, hx (m / 16777216 % 256 / 16), hx (m / 16777216 % 256 % 16), 58,
  hx (m / 65536 % 256 / 16), hx (m / 65536 % 256 % 16), 58, hx (m / 256 % 256 / 16), hx (m / 256 % 256 % 16), 58, hx (m % 256 / 16), hx (m % 256 % 16)]
theorem text_run (m : Int) (h : 0 ≤ m) (h' : m < 18446744073709551616) : Run Tryz.prog 138 [.int .u64 m] (.str (tx m)):=by
 refine Tryz.run138 (by simp) ?_
 unfold Tryz.c138
 simp (disch:=first|omega|(simp only[pvl] at *;omega)) only [↓pvd,pva,pvr,bin2,binB2,un1,setCells,List.map,seval,reduceCtorEq]
 refine aw_loop (fun k : Nat=>⟨[(0, .int .u64 m), (3, .vec 0 1 0 (3 * k - 1)), (6, .int .i64 k)], [some ⟨5, bys ((tx m).take (3 * k - 1)), true⟩]⟩) (fun k=>k ≤ 6) (fun k=>6 - k) 0 ?_ (by omega) ?_
 ·simp (disch:=first|omega|(simp only[pvl] at *;omega)) only [↓pvd,pva,pvr,bin2,binB2,un1,setCells,List.map,seval,reduceCtorEq]
 intro k hk
 have hk' : k = 0 ∨ k = 1 ∨ k = 2 ∨ k = 3 ∨ k = 4 ∨ k = 5 ∨ k = 6:=by omega
 unfold Tryz.c138b0
 rcases hk' with rfl | rfl | rfl | rfl | rfl | rfl | rfl
 ·simp (disch:=first|omega|(simp only[pvl];omega)) only [↓pvd,pva,pvr,bin2,binB2,un1,setCells,List.map,seval,reduceCtorEq,tx]
  refine awR_call (shift_run 0 (by omega) (by omega)) rfl rfl ?_
  simp (disch:=first|omega|(simp only[pvl];omega)) only [↓pvd,pva,pvr,bin2,binB2,un1,setCells,List.map,seval,reduceCtorEq,hx_get]
  refine ⟨1, ?_, by omega, by omega⟩
  rfl
 ·simp (disch:=first|omega|(simp only[pvl];omega)) only [↓pvd,pva,pvr,bin2,binB2,un1,setCells,List.map,seval,reduceCtorEq,tx]
  refine awR_call (shift_run 1 (by omega) (by omega)) rfl rfl ?_
  simp (disch:=first|omega|(simp only[pvl];omega)) only [↓pvd,pva,pvr,bin2,binB2,un1,setCells,List.map,seval,reduceCtorEq,hx_get]
  refine ⟨2, ?_, by omega, by omega⟩
  rfl
 ·simp (disch:=first|omega|(simp only[pvl];omega)) only [↓pvd,pva,pvr,bin2,binB2,un1,setCells,List.map,seval,reduceCtorEq,tx]
  refine awR_call (shift_run 2 (by omega) (by omega)) rfl rfl ?_
  simp (disch:=first|omega|(simp only[pvl];omega)) only [↓pvd,pva,pvr,bin2,binB2,un1,setCells,List.map,seval,reduceCtorEq,hx_get]
  refine ⟨3, ?_, by omega, by omega⟩
  rfl
 ·simp (disch:=first|omega|(simp only[pvl];omega)) only [↓pvd,pva,pvr,bin2,binB2,un1,setCells,List.map,seval,reduceCtorEq,tx]
  refine awR_call (shift_run 3 (by omega) (by omega)) rfl rfl ?_
  simp (disch:=first|omega|(simp only[pvl];omega)) only [↓pvd,pva,pvr,bin2,binB2,un1,setCells,List.map,seval,reduceCtorEq,hx_get]
  refine ⟨4, ?_, by omega, by omega⟩
  rfl
 ·simp (disch:=first|omega|(simp only[pvl];omega)) only [↓pvd,pva,pvr,bin2,binB2,un1,setCells,List.map,seval,reduceCtorEq,tx]
  refine awR_call (shift_run 4 (by omega) (by omega)) rfl rfl ?_
  simp (disch:=first|omega|(simp only[pvl];omega)) only [↓pvd,pva,pvr,bin2,binB2,un1,setCells,List.map,seval,reduceCtorEq,hx_get]
  refine ⟨5, ?_, by omega, by omega⟩
  rfl
 ·simp (disch:=first|omega|(simp only[pvl];omega)) only [↓pvd,pva,pvr,bin2,binB2,un1,setCells,List.map,seval,reduceCtorEq,tx]
  refine awR_call (shift_run 5 (by omega) (by omega)) rfl rfl ?_
  simp (disch:=first|omega|(simp only[pvl];omega)) only [↓pvd,pva,pvr,bin2,binB2,un1,setCells,List.map,seval,reduceCtorEq,hx_get,Int.ediv_one,Int.sub_self,Int.mul_zero,Int.pow_zero]
  refine ⟨6, ?_, by omega, by omega⟩
  rfl
 ·have hl : (tx m).length = 17:=rfl
  have ht : (tx m).take (3 * 6 - 1) = tx m:=rfl
  rw [ht]
  generalize tx m = t at *
  simp (disch:=first|omega|(simp only[pvl] at *;omega)) only [↓pvd,pva,pvr,bin2,binB2,un1,setCells,List.map,seval,reduceCtorEq]
  (refine Ends_rq [] ?_; simp (disch:=first|omega|(simp only[pvl];omega)) only [↓pvd,pva,pvr,bin2,binB2,un1,setCells,List.map,seval,reduceCtorEq]; exact ⟨_,rfl,rfl,rfl⟩)
theorem ref_text_run (m : Int) (h : 0 ≤ m) (h' : m < 18446744073709551616) : Run Tryz.prog 109 [.int .u64 m] (.str (tx m)):=by
 refine Tryz.run109 (by simp) ?_
 unfold Tryz.c109
 simp (disch:=first|omega|(simp only[pvl] at *;omega)) only [↓pvd,pva,pvr,bin2,binB2,un1,setCells,List.map,seval,reduceCtorEq]
 refine awR_call (run_frz (bytes_run m h h')) rfl rfl ?_
 simp (disch:=first|omega|(simp only[pvl];omega)) only [↓pvd,pva,pvr,bin2,binB2,un1,setCells,List.map,seval,reduceCtorEq,frz,frzA,frzC,mb,u8i_nat]
 refine aw_loop (fun k : Nat=>⟨[(3, .str [48, 49, 50, 51, 52, 53, 54, 55, 56, 57, 97, 98, 99, 100, 101, 102]), (4, .sl 1 (bys (mb m)) false), (5, .str ((tx m).take (3 * k - 1))), (6, .int .i64 k)], []⟩) (fun k=>k ≤ 6) (fun k=>6 - k) 0 ?_ (by omega) ?_
 ·simp (disch:=first|omega|(simp only[pvl];omega)) only [↓pvd,pva,pvr,bin2,binB2,un1,setCells,List.map,seval,reduceCtorEq,mb,u8i_nat]
 intro k hk
 have hk' : k = 0 ∨ k = 1 ∨ k = 2 ∨ k = 3 ∨ k = 4 ∨ k = 5 ∨ k = 6:=by omega
 unfold Tryz.c109b0
 rcases hk' with rfl | rfl | rfl | rfl | rfl | rfl | rfl
 ·simp (disch:=first|omega|(simp only[pvl];omega)) only [↓pvd,pva,pvr,bin2,binB2,un1,setCells,List.map,seval,reduceCtorEq,tx,mb,u8i_nat,hx_sl,hx_mod]
  exact ⟨1, rfl, by omega, by omega⟩
 ·simp (disch:=first|omega|(simp only[pvl];omega)) only [↓pvd,pva,pvr,bin2,binB2,un1,setCells,List.map,seval,reduceCtorEq,tx,mb,u8i_nat,hx_sl,hx_mod]
  exact ⟨2, rfl, by omega, by omega⟩
 ·simp (disch:=first|omega|(simp only[pvl];omega)) only [↓pvd,pva,pvr,bin2,binB2,un1,setCells,List.map,seval,reduceCtorEq,tx,mb,u8i_nat,hx_sl,hx_mod]
  exact ⟨3, rfl, by omega, by omega⟩
 ·simp (disch:=first|omega|(simp only[pvl];omega)) only [↓pvd,pva,pvr,bin2,binB2,un1,setCells,List.map,seval,reduceCtorEq,tx,mb,u8i_nat,hx_sl,hx_mod]
  exact ⟨4, rfl, by omega, by omega⟩
 ·simp (disch:=first|omega|(simp only[pvl];omega)) only [↓pvd,pva,pvr,bin2,binB2,un1,setCells,List.map,seval,reduceCtorEq,tx,mb,u8i_nat,hx_sl,hx_mod]
  exact ⟨5, rfl, by omega, by omega⟩
 ·simp (disch:=first|omega|(simp only[pvl];omega)) only [↓pvd,pva,pvr,bin2,binB2,un1,setCells,List.map,seval,reduceCtorEq,tx,mb,u8i_nat,hx_sl,hx_mod]
  exact ⟨6, rfl, by omega, by omega⟩
 ·have ht : (tx m).take (3 * 6 - 1) = tx m:=rfl
  rw [ht]
  generalize tx m = t at *
  simp (disch:=first|omega|(simp only[pvl] at *;omega)) only [↓pvd,pva,pvr,bin2,binB2,un1,setCells,List.map,seval,reduceCtorEq]
  (refine Ends_rq [] ?_; simp (disch:=first|omega|(simp only[pvl];omega)) only [↓pvd,pva,pvr,bin2,binB2,un1,setCells,List.map,seval,reduceCtorEq]; exact ⟨_,rfl,rfl,rfl⟩)
end Mc
end Go.Proofs
