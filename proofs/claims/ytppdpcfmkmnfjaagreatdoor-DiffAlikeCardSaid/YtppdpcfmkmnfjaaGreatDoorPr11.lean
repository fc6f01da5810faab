/- The proofs of what the functions of this seat do. -/
import Derived.Test.YtppdpcfmkmnfjaaGreatDoorPr10
set_option linter.unusedSimpArgs false
set_option linter.unusedVariables false
set_option maxHeartbeats 2000000
set_option maxRecDepth 20000
namespace Go.Proofs
namespace De
open Go.Pv Go.Pv.Df
set_option maxHeartbeats 8000000 in
theorem rrows_run (a b : List (List UInt8)) (f g : Bool) (ha : a.length ≤ 400) (hb : b.length ≤ 400) : Run Tryz.prog 54 [.sl 1 (a.map .str) f, .sl 1 (b.map .str) g] (.tup [.own 2 94 ((ed a b).map edR), .int .i64 0]):=by
 refine Tryz.run54 (by simp) ?_
 unfold Tryz.c54
 simp (disch:=first|omega|(simp only[pvl];omega)) only [↓pvd,pva,pvr,bin2,binB2,un1,setCells,List.map,seval,reduceCtorEq,List.length_map]
 refine aw_loop (fun x : List (List UInt8) × List (List UInt8) × List (Int × List UInt8)=>⟨[(0, .sl 1 (x.1.map .str) f), (1, .sl 1 (x.2.1.map .str) g), (6, .vec 0 2 0 x.2.2.length)], [some ⟨94, x.2.2.map edR, true⟩]⟩)
  (fun x=>x.1.length ≤ a.length ∧ x.2.1.length ≤ b.length ∧ x.2.2.length + x.1.length + x.2.1.length ≤ a.length + b.length ∧ ed a b = x.2.2 ++ ed x.1 x.2.1) (fun x=>x.1.length + x.2.1.length) (a, b, []) ?_ ⟨by simp, by simp, by simp, by simp⟩ ?_
 ·simp (disch:=first|omega|(simp only[pvl] at *;omega)) only [↓pvd,pva,pvr,bin2,binB2,un1,setCells,List.map,seval,reduceCtorEq]
  try simp
 rintro ⟨a', b', out⟩ ⟨h1, h2, h3, he⟩
 simp only at h1 h2 h3 he
 unfold Tryz.c54b0
 simp only
 have hln : (out.map edR).length = out.length:=by simp
 have hpl : (out.map edR).all AV.pl = true:=pl_map ed_pl
 have hap1 : ∀ (c : Int) (x : List UInt8), out.map edR ++ [AV.agg [.int .i64 c, .str x]] = (out ++ [(c, x)]).map edR:=fun c x=>by simp [edR]
 generalize hrow : out.map edR = row at *
 rcases a' with _ | ⟨x, xs⟩ <;> rcases b' with _ | ⟨y, ys⟩
 ·rw [ed, List.append_nil] at he
  rw [he, ← hrow]
  rw [← hrow] at hln
  simp (disch:=first|omega|(simp only[pvl];omega)) only [↓pvd,pva,pvr,bin2,binB2,un1,setCells,List.map,seval,reduceCtorEq,List.map_nil]
  (refine Ends_rq [[.own 2 94], [.snap]] ?_; simp (disch:=first|omega|(simp only[pvl];omega)) only [↓pvd,pva,pvr,bin2,binB2,un1,setCells,List.map,seval,reduceCtorEq,ids_map ed_pl,ren_map ed_pl,mapO_map ed_nr,rows_map ed_nr,List.length_map]; exact ⟨_,rfl,rfl,rfl⟩)
 ·simp only [List.length_cons,List.length_nil] at h1 h2 h3
  rw [ed] at he
  simp (disch:=first|omega|(simp only[pvl];omega)) only [↓pvd,pva,pvr,bin2,binB2,un1,setCells,List.map,seval,reduceCtorEq,List.map_nil,List.map_cons,List.length_map,ids_all hpl,ren_all hpl,hap1,ids_map ed_pl,ren_map ed_pl,hln]
  refine ⟨([], ys, out ++ [(2, y)]), ?_, ⟨by simp, by simp only; omega, by simp; omega, by rw [he]; simp⟩, by simp⟩
  simp
 ·simp only [List.length_cons,List.length_nil] at h1 h2 h3
  rw [ed] at he
  simp (disch:=first|omega|(simp only[pvl];omega)) only [↓pvd,pva,pvr,bin2,binB2,un1,setCells,List.map,seval,reduceCtorEq,List.map_nil,List.map_cons,List.length_map,ids_all hpl,ren_all hpl,hap1,ids_map ed_pl,ren_map ed_pl,hln]
  refine ⟨(xs, [], out ++ [(1, x)]), ?_, ⟨by simp only; omega, by simp, by simp; omega, by rw [he]; simp⟩, by simp⟩
  simp
 ·simp only [List.length_cons] at h1 h2 h3
  rw [ed] at he
  by_cases hxy : x = y
  ·rw [if_pos hxy] at he
   subst hxy
   simp (disch:=first|omega|(simp only[pvl];omega)) only [↓pvd,pva,pvr,bin2,binB2,un1,setCells,List.map,seval,reduceCtorEq,List.map_nil,List.map_cons,List.length_map,ids_all hpl,ren_all hpl,hap1,ids_map ed_pl,ren_map ed_pl,hln]
   refine ⟨(xs, ys, out ++ [(0, x)]), ?_, ⟨by simp only; omega, by simp only; omega, by simp; omega, by rw [he]; simp⟩, by simp; omega⟩
   simp
  ·rw [if_neg hxy] at he
   have q1:=common_run xs (y :: ys) f g (by omega) (by simp; omega)
   have q2:=common_run (x :: xs) ys f g (by simp; omega) (by omega)
   simp only [List.map_cons] at q1 q2
   by_cases hc : lc (x :: xs) ys ≤ lc xs (y :: ys)
   ·rw [if_pos hc] at he
    generalize lc (x :: xs) ys = v1 at *
    generalize lc xs (y :: ys) = v2 at *
    have hc2 : (v1 : Int) ≤ v2:=by omega
    repeat' (first | (simp (disch:=first|omega|(simp only[pvl];omega)) only [↓pvd,pva,pvr,bin2,binB2,un1,setCells,List.map,seval,reduceCtorEq,List.map_nil,List.map_cons,List.length_map,hxy,ids_all hpl,ren_all hpl,hap1,ids_map ed_pl,ren_map ed_pl,hln,still]) | (with_reducible first|refine condP_d (fun _=>?_) (fun _=>?_)|refine guardP_d0 (fun _=>?_) (fun _=>?_)|refine guardP_d1 (fun _=>?_) (fun _=>?_)|refine condP_any ?_ ?_) | refine awR_call q1 rfl rfl ?_ | refine awR_callD q1 rfl rfl (fun _=>rfl) ?_ | refine awR_call q2 rfl rfl ?_ | refine awR_callD q2 rfl rfl (fun _=>rfl) ?_ | (refine Ends_rq [] ?_; simp (disch:=first|omega|(simp only[pvl];omega)) only [↓pvd,pva,pvr,bin2,binB2,un1,setCells,List.map,seval,reduceCtorEq]; exact ⟨_,rfl,rfl,rfl⟩))
    refine ⟨(xs, y :: ys, out ++ [(1, x)]), ?_, ⟨by simp only; omega, by simp; omega, by simp; omega, by rw [he]; simp⟩, by simp⟩
    simp
   ·rw [if_neg hc] at he
    generalize lc (x :: xs) ys = v1 at *
    generalize lc xs (y :: ys) = v2 at *
    have hc2 : ¬ (v1 : Int) ≤ v2:=by omega
    repeat' (first | (simp (disch:=first|omega|(simp only[pvl];omega)) only [↓pvd,pva,pvr,bin2,binB2,un1,setCells,List.map,seval,reduceCtorEq,List.map_nil,List.map_cons,List.length_map,hxy,ids_all hpl,ren_all hpl,hap1,ids_map ed_pl,ren_map ed_pl,hln,still]) | (with_reducible first|refine condP_d (fun _=>?_) (fun _=>?_)|refine guardP_d0 (fun _=>?_) (fun _=>?_)|refine guardP_d1 (fun _=>?_) (fun _=>?_)|refine condP_any ?_ ?_) | refine awR_call q1 rfl rfl ?_ | refine awR_callD q1 rfl rfl (fun _=>rfl) ?_ | refine awR_call q2 rfl rfl ?_ | refine awR_callD q2 rfl rfl (fun _=>rfl) ?_ | (refine Ends_rq [] ?_; simp (disch:=first|omega|(simp only[pvl];omega)) only [↓pvd,pva,pvr,bin2,binB2,un1,setCells,List.map,seval,reduceCtorEq]; exact ⟨_,rfl,rfl,rfl⟩))
    refine ⟨(x :: xs, ys, out ++ [(2, y)]), ?_, ⟨by simp; omega, by simp only; omega, by simp; omega, by rw [he]; simp⟩, by simp⟩
    simp
end De
end Go.Proofs
namespace Go.Proofs
namespace De
open Go.Pv Go.Pv.Df
theorem told_run (l : List (Int × List UInt8)) (f : Bool) (hl : l.length ≤ 1000) : Run Tryz.prog 20 [.sl 2 (l.map edR) f] (.own 2 94 (l.map edR)):=by
 refine Tryz.run20 (by simp) ?_
 unfold Tryz.c20
 simp (disch:=first|omega|(simp only[pvl];omega)) only [↓pvd,pva,pvr,bin2,binB2,un1,setCells,List.map,seval,reduceCtorEq,List.length_map]
 refine aw_loop (fun k : Nat=>⟨[(3, .vec 0 2 0 k), (6, .sl 2 (l.map edR) f), (7, .int .i64 l.length), (8, .int .i64 k)], [some ⟨94, (l.take k).map edR, true⟩]⟩) (fun k=>k ≤ l.length) (fun k=>l.length - k) 0 ?_ (by omega) ?_
 ·simp (disch:=first|omega|(simp only[pvl] at *;omega)) only [↓pvd,pva,pvr,bin2,binB2,un1,setCells,List.map,seval,reduceCtorEq]
  try simp
 intro k hk
 unfold Tryz.c20b0
 have htl : ((l.take k).map edR).length = k:=by simp; omega
 have hpl : ((l.take k).map edR).all AV.pl = true:=pl_map ed_pl
 by_cases hx : k < l.length
 ·have hgi : (l.map edR)[k]? = some (.agg [.int .i64 l[k]!.1, .str l[k]!.2]):=map_get hx
  have hap : (l.take k).map edR ++ [AV.agg [.int .i64 l[k]!.1, .str l[k]!.2]] = (l.take (k + 1)).map edR:=by rw [take_snoc hx]; simp [edR]
  generalize hrow : (l.take k).map edR = row at *
  simp (disch:=first|omega|(simp only[pvl];omega)) only [↓pvd,pva,pvr,bin2,binB2,un1,setCells,List.map,seval,reduceCtorEq,hgi,ids_all hpl,ren_all hpl,ids_map ed_pl,ren_map ed_pl,htl,hap]
  exact ⟨k + 1, by simp, hx, by omega⟩
 ·have e : k = l.length:=by omega
  have htk : l.take k = l:=List.take_of_length_le (by omega)
  rw [htk] at htl ⊢
  simp (disch:=first|omega|(simp only[pvl];omega)) only [↓pvd,pva,pvr,bin2,binB2,un1,setCells,List.map,seval,reduceCtorEq,htl]
  (refine Ends_rq [[.own 2 94]] ?_; simp (disch:=first|omega|(simp only[pvl];omega)) only [↓pvd,pva,pvr,bin2,binB2,un1,setCells,List.map,seval,reduceCtorEq,ids_map ed_pl,ren_map ed_pl,mapO_map ed_nr,rows_map ed_nr,List.length_map,htl,e]; exact ⟨_,rfl,rfl,rfl⟩)
theorem cnt_snoc (l : List (Int × List UInt8)) (e : Int × List UInt8) : cnt (l ++ [e]) = if e.1 = 0 then cnt l else cnt l + 1:=by
 unfold cnt
 by_cases h : e.1 = 0 <;> simp [h]
theorem cnt_le (l : List (Int × List UInt8)) : cnt l ≤ l.length:=List.length_filter_le _ _
theorem size_run (l : List (Int × List UInt8)) (f : Bool) (hl : l.length ≤ 1000) : Run Tryz.prog 21 [.sl 2 (l.map edR) f] (.int .i64 (cnt l : Nat)):=by
 refine Tryz.run21 (by simp) ?_
 unfold Tryz.c21
 simp (disch:=first|omega|(simp only[pvl];omega)) only [↓pvd,pva,pvr,bin2,binB2,un1,setCells,List.map,seval,reduceCtorEq,List.length_map]
 refine aw_loop (fun k : Nat=>⟨[(3, .int .i64 (cnt (l.take k) : Nat)), (6, .sl 2 (l.map edR) f), (7, .int .i64 l.length), (8, .int .i64 k)], []⟩) (fun k=>k ≤ l.length) (fun k=>l.length - k) 0 ?_ (by omega) ?_
 ·simp (disch:=first|omega|(simp only[pvl] at *;omega)) only [↓pvd,pva,pvr,bin2,binB2,un1,setCells,List.map,seval,reduceCtorEq]
  try simp [cnt]
 intro k hk
 unfold Tryz.c21b0
 have hc:=cnt_le (l.take k)
 simp only [List.length_take] at hc
 by_cases hx : k < l.length
 ·have hgi : (l.map edR)[k]? = some (.agg [.int .i64 l[k]!.1, .str l[k]!.2]):=map_get hx
  have hs : cnt (l.take (k + 1)) = if l[k]!.1 = 0 then cnt (l.take k) else cnt (l.take k) + 1:=by rw [take_snoc hx, cnt_snoc]
  by_cases h0 : l[k]!.1 = 0
  ·rw [if_pos h0] at hs
   rw [h0] at hgi
   repeat' (first | (simp (disch:=first|omega|(simp only[pvl];omega)) only [↓pvd,pva,pvr,bin2,binB2,un1,setCells,List.map,seval,reduceCtorEq,hgi,still]) | (with_reducible first|refine condP_d (fun _=>?_) (fun _=>?_)|refine guardP_d0 (fun _=>?_) (fun _=>?_)|refine guardP_d1 (fun _=>?_) (fun _=>?_)|refine condP_any ?_ ?_) | (refine Ends_rq [] ?_; simp (disch:=first|omega|(simp only[pvl];omega)) only [↓pvd,pva,pvr,bin2,binB2,un1,setCells,List.map,seval,reduceCtorEq]; exact ⟨_,rfl,rfl,rfl⟩))
   exact ⟨k + 1, by rw [hs]; simp, hx, by omega⟩
  ·rw [if_neg h0] at hs
   generalize hcc : cnt (l.take k) = C at *
   repeat' (first | (simp (disch:=first|omega|(simp only[pvl];omega)) only [↓pvd,pva,pvr,bin2,binB2,un1,setCells,List.map,seval,reduceCtorEq,hgi,still]) | (with_reducible first|refine condP_d (fun _=>?_) (fun _=>?_)|refine guardP_d0 (fun _=>?_) (fun _=>?_)|refine guardP_d1 (fun _=>?_) (fun _=>?_)|refine condP_any ?_ ?_) | (refine Ends_rq [] ?_; simp (disch:=first|omega|(simp only[pvl];omega)) only [↓pvd,pva,pvr,bin2,binB2,un1,setCells,List.map,seval,reduceCtorEq]; exact ⟨_,rfl,rfl,rfl⟩))
   exact ⟨k + 1, by rw [hs]; simp, hx, by omega⟩
 ·have htk : l.take k = l:=List.take_of_length_le (by omega)
  rw [htk]
  repeat' (first | (simp (disch:=first|omega|(simp only[pvl];omega)) only [↓pvd,pva,pvr,bin2,binB2,un1,setCells,List.map,seval,reduceCtorEq,still]) | (with_reducible first|refine condP_d (fun _=>?_) (fun _=>?_)|refine guardP_d0 (fun _=>?_) (fun _=>?_)|refine guardP_d1 (fun _=>?_) (fun _=>?_)|refine condP_any ?_ ?_) | (refine Ends_rq [] ?_; simp (disch:=first|omega|(simp only[pvl];omega)) only [↓pvd,pva,pvr,bin2,binB2,un1,setCells,List.map,seval,reduceCtorEq]; exact ⟨_,rfl,rfl,rfl⟩))
end De
end Go.Proofs
namespace Go.Proofs
namespace De
open Go.Pv Go.Pv.Df
theorem ed_ex : ed ([[97], [98]] : List (List UInt8)) [[98], [99]] = [(1, [97]), (0, [98]), (2, [99])]:=by
 simp [ed, lc, lcRow]
theorem works_run : Run Tryz.prog 16 [] (.bool true):=by
 have q1:=run_frz (drows_run [[97], [98]] [[98], [99]] false false (by simp) (by simp))
 rw [if_pos (by simp), ed_ex] at q1
 refine Tryz.run16 (by simp) ?_
 unfold Tryz.c16
 generalize hN : (401 : Int) = N
 have hN1 : 0 ≤ N ∧ N ≤ 500:=by omega
 have q2:=run_frz (drows_run (List.replicate N.toNat []) [] false true (by simp; omega) (by simp))
 rw [if_neg (by simp; omega)] at q2
 rw [show List.map AV.str (List.replicate N.toNat []) = List.replicate N.toNat (AV.str []) by rw [List.map_replicate]] at q2
 have hnr : (List.replicate N.toNat (AV.str [])).all AV.nr1 = true:=by rw [List.all_eq_true]; intro x hx; rw [(List.mem_replicate.1 hx).2]; rfl
 have hml : (List.replicate N.toNat (AV.str [])).length = N.toNat:=by simp
 clear hN
 simp (disch:=first|omega|(simp only[pvl] at *;omega)) only [↓pvd,pva,pvr,bin2,binB2,un1,setCells,List.map,seval,reduceCtorEq]
 refine awR_callS (ms:=[]) q1 (by simp (disch:=first|omega|(simp only[pvl] at *;omega)) only [↓pvd,pva,pvr,bin2,binB2,un1,setCells,List.map,seval,reduceCtorEq]; rfl) (by simp (disch:=first|omega|(simp only[pvl] at *;omega)) only [↓pvd,pva,pvr,bin2,binB2,un1,setCells,List.map,seval,reduceCtorEq]) ?_
 simp (disch:=first|omega|(simp only[pvl];omega)) only [↓pvd,pva,pvr,bin2,binB2,un1,setCells,List.map,seval,reduceCtorEq,still,frz,frzA,frzC,edR]
 generalize List.replicate N.toNat (AV.str []) = row at *
 refine awR_callS (ms:=[.snap, .nil 1 true]) q2 (by simp (disch:=first|omega|(simp only[pvl];omega)) only [↓pvd,pva,pvr,bin2,binB2,un1,setCells,List.map,seval,reduceCtorEq,mapO_nr hnr,rows_nr hnr,hml]; rfl) (by simp (disch:=first|omega|(simp only[pvl];omega)) only [↓pvd,pva,pvr,bin2,binB2,un1,setCells,List.map,seval,reduceCtorEq,mapO_nr hnr,rows_nr hnr,hml]) ?_
 simp (disch:=first|omega|(simp only[pvl];omega)) only [↓pvd,pva,pvr,bin2,binB2,un1,setCells,List.map,seval,reduceCtorEq,still,frz,frzA,frzC,edR,eqCells,Option.map_some,beq_self_eq_true,Bool.true_and,Bool.and_true,Bool.and_self]
 (refine Ends_rq [] ?_; simp (disch:=first|omega|(simp only[pvl];omega)) only [↓pvd,pva,pvr,bin2,binB2,un1,setCells,List.map,seval,reduceCtorEq]; exact ⟨_,rfl,rfl,rfl⟩)
end De
end Go.Proofs
namespace Go.Proofs
open Go.Pv Go.Pv.Df
open De (edR ed_nr ed_pl drows_run told_run size_run works_run)
theorem cfX_e {b : List UInt8} {e : Int} (h : cfX b = .inl e) : e ≠ 0:=by
 unfold cfX at h
 cases hr : readX b with
 | inl x=>rw [hr] at h; cases h; exact readX_e (r:=x.1) hr
 | inr l=>rw [hr] at h; cases h
theorem cfX_l {b : List UInt8} {x : List (List UInt8)} (h : cfX b = .inr x) : x.length ≤ 400:=by
 unfold cfX at h
 cases hr : readX b with
 | inl x=>rw [hr] at h; cases h
 | inr l=>rw [hr] at h; cases h; have:=(readX_w hr).2; simpa using this
theorem scfg_err {b : List UInt8} {f : Bool} {e : Int} (hb : b.length ≤ 100000) (h : cfX b = .inl e) : Run Tryz.prog 52 [.sl 1 (bys b) f] (.tup [.sl 0 [] true, .int .i64 e]):=by
 have q:=run_frz (scfg_run b f hb)
 rw [h] at q
 exact q
theorem scfg_ok {b : List UInt8} {f : Bool} {x : List (List UInt8)} (hb : b.length ≤ 100000) (h : cfX b = .inr x) : Run Tryz.prog 52 [.sl 1 (bys b) f] (.tup [.sl 1 (x.map .str) false, .int .i64 0]):=by
 have q:=run_frz (scfg_run b f hb)
 rw [h] at q
 exact q
noncomputable def cfE (a b : List UInt8) : Int ⊕ List (Int × List UInt8):=match cfX a with
 | .inl e=>.inl e
 | .inr x=>match cfX b with
  | .inl e=>.inl e
  | .inr y=>.inr (ed x y)
def cfEA (ty : TypeId) : Int ⊕ List (Int × List UInt8) → AV
 | .inl e=>.tup [.sl 0 [] true, .int .i64 e]
 | .inr l=>.tup [.own 2 ty (l.map edR), .int .i64 0]
set_option maxHeartbeats 4000000 in
theorem sconf_run (a b : List UInt8) (f g : Bool) (ha : a.length ≤ 100000) (hb : b.length ≤ 100000) : Run Tryz.prog 17 [.sl 1 (bys a) f, .sl 1 (bys b) g] (cfEA 92 (cfE a b)):=by
 refine Tryz.run17 (by simp) ?_
 unfold Tryz.c17 cfE
 cases h1 : cfX a with
 | inl e =>
  have q1:=scfg_err (f:=f) ha h1
  have he:=cfX_e h1
  dsimp only
  unfold cfEA
  clear h1
  generalize bys a = xa at *
  generalize bys b = xb at *
  simp (disch:=first|omega|(simp only[pvl];omega)) only [↓pvd,pva,pvr,bin2,binB2,un1,setCells,List.map,seval,reduceCtorEq,true_and]
  refine awR_call q1 rfl rfl ?_
  simp (disch:=first|omega|(simp only[pvl];omega)) only [↓pvd,pva,pvr,bin2,binB2,un1,setCells,List.map,seval,reduceCtorEq,he]
  (refine Ends_rq [] ?_; simp (disch:=first|omega|(simp only[pvl];omega)) only [↓pvd,pva,pvr,bin2,binB2,un1,setCells,List.map,seval,reduceCtorEq]; exact ⟨_,rfl,rfl,rfl⟩)
 | inr x =>
  have q1:=scfg_ok (f:=f) ha h1
  have hx:=cfX_l h1
  dsimp only
  cases h2 : cfX b with
  | inl e =>
   have q2:=scfg_err (f:=g) hb h2
   have he:=cfX_e h2
   dsimp only
   unfold cfEA
   clear h1 h2
   generalize bys a = xa at *
   generalize bys b = xb at *
   generalize x.map AV.str = xr at *
   simp (disch:=first|omega|(simp only[pvl];omega)) only [↓pvd,pva,pvr,bin2,binB2,un1,setCells,List.map,seval,reduceCtorEq,true_and]
   refine awR_call q1 rfl rfl ?_
   simp (disch:=first|omega|(simp only[pvl];omega)) only [↓pvd,pva,pvr,bin2,binB2,un1,setCells,List.map,seval,reduceCtorEq,true_and]
   refine awR_call q2 rfl rfl ?_
   simp (disch:=first|omega|(simp only[pvl];omega)) only [↓pvd,pva,pvr,bin2,binB2,un1,setCells,List.map,seval,reduceCtorEq,he]
   (refine Ends_rq [] ?_; simp (disch:=first|omega|(simp only[pvl];omega)) only [↓pvd,pva,pvr,bin2,binB2,un1,setCells,List.map,seval,reduceCtorEq]; exact ⟨_,rfl,rfl,rfl⟩)
  | inr y =>
   have q2:=scfg_ok (f:=g) hb h2
   have hy:=cfX_l h2
   have q3:=drows_run x y false false (by omega) (by omega)
   rw [if_pos ⟨hx, hy⟩] at q3
   dsimp only
   unfold cfEA
   clear h1 h2
   generalize bys a = xa at *
   generalize bys b = xb at *
   generalize x.map AV.str = xr at *
   generalize y.map AV.str = yr at *
   have hel : ((ed x y).map edR).length = (ed x y).length:=by simp
   generalize ed x y = l at *
   simp (disch:=first|omega|(simp only[pvl];omega)) only [↓pvd,pva,pvr,bin2,binB2,un1,setCells,List.map,seval,reduceCtorEq,true_and]
   refine awR_call q1 rfl rfl ?_
   simp (disch:=first|omega|(simp only[pvl];omega)) only [↓pvd,pva,pvr,bin2,binB2,un1,setCells,List.map,seval,reduceCtorEq,true_and]
   refine awR_call q2 rfl rfl ?_
   simp (disch:=first|omega|(simp only[pvl];omega)) only [↓pvd,pva,pvr,bin2,binB2,un1,setCells,List.map,seval,reduceCtorEq,true_and]
   refine awR_call q3 rfl rfl ?_
   simp (disch:=first|omega|(simp only[pvl];omega)) only [↓pvd,pva,pvr,bin2,binB2,un1,setCells,List.map,seval,reduceCtorEq,hel]
   (refine Ends_rq [[.own 2 92], [.snap]] ?_; simp (disch:=first|omega|(simp only[pvl];omega)) only [↓pvd,pva,pvr,bin2,binB2,un1,setCells,List.map,seval,reduceCtorEq,mapO_map ed_nr,rows_map ed_nr,hel]; exact ⟨_,rfl,rfl,rfl⟩)
end Go.Proofs
namespace Go.Proofs
open Go.Pv Go.Pv.Df
open De (edR ed_nr ed_pl works_run)
theorem wdF_nr {x y : LnF} (h : nr x = nr y) : wdF x = wdF y:=by
 have e : ∀ z : LnF, wdF z = wdF (nr z):=fun z=>rfl
 rw [e x, e y, h]
theorem jnL_nr {x y : LnF} (hx : wasR x) (hy : wasR y) : jnL x = jnL y ↔ nr x = nr y:=by
 obtain ⟨-, x2, -, x4⟩:=wasR_can hx
 obtain ⟨-, y2, -, y4⟩:=wasR_can hy
 constructor
 ·intro h
  have h1 : wdF x = wdF y:=by
   rw [← swV_join x4, ← swV_join y4]
   exact congrArg _ h
  rw [← x2 0, ← y2 0, h1]
 ·intro h
  unfold jnL
  rw [wdF_nr h]
theorem jnLs_nr : ∀ (l m : List LnF), (∀ x ∈ l, wasR x) → (∀ x ∈ m, wasR x) → (l.map jnL = m.map jnL ↔ l.map nr = m.map nr)
 | [], [], _, _=>by simp
 | [], y :: m, _, _=>by simp
 | x :: l, [], _, _=>by simp
 | x :: l, y :: m, hl, hm=>by
  have ih:=jnLs_nr l m (fun z hz=>hl z (List.mem_cons_of_mem _ hz)) (fun z hz=>hm z (List.mem_cons_of_mem _ hz))
  have h0:=jnL_nr (hl x (by simp)) (hm y (by simp))
  simp only [List.map_cons,List.cons.injEq,h0,ih]
set_option maxHeartbeats 4000000 in
theorem diffAlike_run (a b : List UInt8) (ha : a.length ≤ maxLen) (hb : b.length ≤ maxLen) : Run Tryz.prog 6 [.sl 1 (bys a) false, .sl 1 (bys b) false] (.bool true):=by
 have q0:=works_run
 simp only [maxLen] at ha hb
 have hal : (bys a).length = a.length:=by simp [bys]
 have hbl : (bys b).length = b.length:=by simp [bys]
 refine Tryz.run6 (by simp) ?_
 unfold Tryz.c6
 by_cases h1 : 1500 < a.length
 ·generalize bys a = xa at *
  generalize bys b = xb at *
  simp (disch:=first|omega|(simp only[pvl];omega)) only [↓pvd,pva,pvr,bin2,binB2,un1,setCells,List.map,seval,reduceCtorEq,hal,hbl]
  refine awR_call q0 rfl rfl ?_
  simp (disch:=first|omega|(simp only[pvl];omega)) only [↓pvd,pva,pvr,bin2,binB2,un1,setCells,List.map,seval,reduceCtorEq,hal,hbl]
  (refine Ends_rq [] ?_; simp (disch:=first|omega|(simp only[pvl];omega)) only [↓pvd,pva,pvr,bin2,binB2,un1,setCells,List.map,seval,reduceCtorEq]; exact ⟨_,rfl,rfl,rfl⟩)
 by_cases h2 : 1500 < b.length
 ·generalize bys a = xa at *
  generalize bys b = xb at *
  simp (disch:=first|omega|(simp only[pvl];omega)) only [↓pvd,pva,pvr,bin2,binB2,un1,setCells,List.map,seval,reduceCtorEq,hal,hbl]
  refine awR_call q0 rfl rfl ?_
  simp (disch:=first|omega|(simp only[pvl];omega)) only [↓pvd,pva,pvr,bin2,binB2,un1,setCells,List.map,seval,reduceCtorEq,hal,hbl]
  (refine Ends_rq [] ?_; simp (disch:=first|omega|(simp only[pvl];omega)) only [↓pvd,pva,pvr,bin2,binB2,un1,setCells,List.map,seval,reduceCtorEq]; exact ⟨_,rfl,rfl,rfl⟩)
 have q1:=run_frz (sconf_run a b false false (by omega) (by omega))
 cases h3 : readX a with
 | inl x =>
  obtain ⟨r, e⟩:=x
  have he:=readX_e h3
  have q2:=xq_err (f:=false) (by omega) h3
  have hc : cfE a b = .inl e:=by unfold cfE cfX; rw [h3]
  rw [hc] at q1
  unfold cfEA at q1
  simp only [frz,frzA,frzC,List.map_cons,List.map_nil] at q1
  clear hc
  cases h4 : readX b with
  | inl y =>
   obtain ⟨r', e'⟩:=y
   have q3:=xq_err (f:=false) (by omega) h4
   clear h3 h4
   generalize bys a = xa at *
   generalize bys b = xb at *
   simp (disch:=first|omega|(simp only[pvl];omega)) only [↓pvd,pva,pvr,bin2,binB2,un1,setCells,List.map,seval,reduceCtorEq,hal,hbl]
   refine awR_call q0 rfl rfl ?_
   simp (disch:=first|omega|(simp only[pvl];omega)) only [↓pvd,pva,pvr,bin2,binB2,un1,setCells,List.map,seval,reduceCtorEq,hal,hbl]
   refine awR_call q1 rfl rfl ?_
   simp (disch:=first|omega|(simp only[pvl];omega)) only [↓pvd,pva,pvr,bin2,binB2,un1,setCells,List.map,seval,reduceCtorEq,true_and]
   refine awR_call q2 rfl rfl ?_
   simp (disch:=first|omega|(simp only[pvl];omega)) only [↓pvd,pva,pvr,bin2,binB2,un1,setCells,List.map,seval,reduceCtorEq,true_and]
   refine awR_call q3 rfl rfl ?_
   simp (disch:=first|omega|(simp only[pvl];omega)) only [↓pvd,pva,pvr,bin2,binB2,un1,setCells,List.map,seval,reduceCtorEq,he]
   (refine Ends_rq [] ?_; simp (disch:=first|omega|(simp only[pvl];omega)) only [↓pvd,pva,pvr,bin2,binB2,un1,setCells,List.map,seval,reduceCtorEq]; exact ⟨_,rfl,rfl,rfl⟩)
  | inr m =>
   have q3:=xq_ok (f:=false) (by omega) h4
   clear h3 h4
   generalize bys a = xa at *
   generalize bys b = xb at *
   generalize m.map lnV = ms at *
   simp (disch:=first|omega|(simp only[pvl];omega)) only [↓pvd,pva,pvr,bin2,binB2,un1,setCells,List.map,seval,reduceCtorEq,hal,hbl]
   refine awR_call q0 rfl rfl ?_
   simp (disch:=first|omega|(simp only[pvl];omega)) only [↓pvd,pva,pvr,bin2,binB2,un1,setCells,List.map,seval,reduceCtorEq,hal,hbl]
   refine awR_call q1 rfl rfl ?_
   simp (disch:=first|omega|(simp only[pvl];omega)) only [↓pvd,pva,pvr,bin2,binB2,un1,setCells,List.map,seval,reduceCtorEq,true_and]
   refine awR_call q2 rfl rfl ?_
   simp (disch:=first|omega|(simp only[pvl];omega)) only [↓pvd,pva,pvr,bin2,binB2,un1,setCells,List.map,seval,reduceCtorEq,true_and]
   refine awR_call q3 rfl rfl ?_
   simp (disch:=first|omega|(simp only[pvl];omega)) only [↓pvd,pva,pvr,bin2,binB2,un1,setCells,List.map,seval,reduceCtorEq,he]
   (refine Ends_rq [] ?_; simp (disch:=first|omega|(simp only[pvl];omega)) only [↓pvd,pva,pvr,bin2,binB2,un1,setCells,List.map,seval,reduceCtorEq]; exact ⟨_,rfl,rfl,rfl⟩)
 | inr l =>
  have q2:=xq_ok (f:=false) (by omega) h3
  cases h4 : readX b with
  | inl y =>
   obtain ⟨r', e'⟩:=y
   have he:=readX_e h4
   have q3:=xq_err (f:=false) (by omega) h4
   have hc : cfE a b = .inl e':=by unfold cfE cfX; rw [h3, h4]
   rw [hc] at q1
   unfold cfEA at q1
   simp only [frz,frzA,frzC,List.map_cons,List.map_nil] at q1
   clear hc h3 h4
   generalize bys a = xa at *
   generalize bys b = xb at *
   generalize l.map lnV = ls at *
   simp (disch:=first|omega|(simp only[pvl];omega)) only [↓pvd,pva,pvr,bin2,binB2,un1,setCells,List.map,seval,reduceCtorEq,hal,hbl]
   refine awR_call q0 rfl rfl ?_
   simp (disch:=first|omega|(simp only[pvl];omega)) only [↓pvd,pva,pvr,bin2,binB2,un1,setCells,List.map,seval,reduceCtorEq,hal,hbl]
   refine awR_call q1 rfl rfl ?_
   simp (disch:=first|omega|(simp only[pvl];omega)) only [↓pvd,pva,pvr,bin2,binB2,un1,setCells,List.map,seval,reduceCtorEq,true_and]
   refine awR_call q2 rfl rfl ?_
   simp (disch:=first|omega|(simp only[pvl];omega)) only [↓pvd,pva,pvr,bin2,binB2,un1,setCells,List.map,seval,reduceCtorEq,true_and]
   refine awR_call q3 rfl rfl ?_
   simp (disch:=first|omega|(simp only[pvl];omega)) only [↓pvd,pva,pvr,bin2,binB2,un1,setCells,List.map,seval,reduceCtorEq,he]
   (refine Ends_rq [] ?_; simp (disch:=first|omega|(simp only[pvl];omega)) only [↓pvd,pva,pvr,bin2,binB2,un1,setCells,List.map,seval,reduceCtorEq]; exact ⟨_,rfl,rfl,rfl⟩)
  | inr m =>
   have q3:=xq_ok (f:=false) (by omega) h4
   obtain ⟨hlw, hl4⟩:=readX_w h3
   obtain ⟨hmw, hm4⟩:=readX_w h4
   have hc : cfE a b = .inr (ed (l.map jnL) (m.map jnL)):=by unfold cfE cfX; rw [h3, h4]
   have hlen:=ed_len _ (l.map jnL) (m.map jnL) (Nat.le_refl _)
   simp only [List.length_map] at hlen
   have hz:=ed_zero _ (l.map jnL) (m.map jnL) (Nat.le_refl _)
   rw [jnLs_nr l m hlw hmw] at hz
   have hcl:=De.cnt_le (ed (l.map jnL) (m.map jnL))
   have q4:=De.size_run (ed (l.map jnL) (m.map jnL)) false (by omega)
   have q5:=tsame_run 17 17 false false (.inr rfl) (.inr rfl) (areLn_V l) (areLn_V m) (fun x hx=>lnB_lnS (wasR_B (hlw x hx)).1) (fun x hx=>lnB_lnS (wasR_B (hmw x hx)).1) (by omega) (by omega)
   rw [hc] at q1
   unfold cfEA at q1
   simp only [frz,frzA,frzC,List.map_cons,List.map_nil] at q1
   clear hc h3 h4
   generalize ed (l.map jnL) (m.map jnL) = el at *
   have hd : decide (l.map nr = m.map nr) = decide (cnt el = 0):=by
    by_cases h : cnt el = 0
    ·rw [decide_eq_true h, decide_eq_true (hz.1 h)]
    ·rw [decide_eq_false h, decide_eq_false (fun x=>h (hz.2 x))]
   rw [hd] at q5
   generalize bys a = xa at *
   generalize bys b = xb at *
   generalize l.map lnV = ls at *
   generalize m.map lnV = ms at *
   generalize el.map edR = es at *
   by_cases h0 : cnt el = 0
   ·rw [h0] at q4
    rw [decide_eq_true h0] at q5
    simp (disch:=first|omega|(simp only[pvl];omega)) only [↓pvd,pva,pvr,bin2,binB2,un1,setCells,List.map,seval,reduceCtorEq,hal,hbl]
    refine awR_call q0 rfl rfl ?_
    simp (disch:=first|omega|(simp only[pvl];omega)) only [↓pvd,pva,pvr,bin2,binB2,un1,setCells,List.map,seval,reduceCtorEq,hal,hbl]
    refine awR_call q1 rfl rfl ?_
    simp (disch:=first|omega|(simp only[pvl];omega)) only [↓pvd,pva,pvr,bin2,binB2,un1,setCells,List.map,seval,reduceCtorEq,true_and]
    refine awR_call q2 rfl rfl ?_
    simp (disch:=first|omega|(simp only[pvl];omega)) only [↓pvd,pva,pvr,bin2,binB2,un1,setCells,List.map,seval,reduceCtorEq,true_and]
    refine awR_call q3 rfl rfl ?_
    simp (disch:=first|omega|(simp only[pvl];omega)) only [↓pvd,pva,pvr,bin2,binB2,un1,setCells,List.map,seval,reduceCtorEq,true_and]
    refine awR_call q4 rfl rfl ?_
    simp (disch:=first|omega|(simp only[pvl];omega)) only [↓pvd,pva,pvr,bin2,binB2,un1,setCells,List.map,seval,reduceCtorEq,true_and]
    refine awR_call q5 rfl rfl ?_
    simp (disch:=first|omega|(simp only[pvl];omega)) only [↓pvd,pva,pvr,bin2,binB2,un1,setCells,List.map,seval,reduceCtorEq,true_and]
    (refine Ends_rq [] ?_; simp (disch:=first|omega|(simp only[pvl];omega)) only [↓pvd,pva,pvr,bin2,binB2,un1,setCells,List.map,seval,reduceCtorEq]; exact ⟨_,rfl,rfl,rfl⟩)
   ·rw [decide_eq_false h0] at q5
    have h0' : ¬ ((cnt el : Nat) : Int) = 0:=by omega
    simp (disch:=first|omega|(simp only[pvl];omega)) only [↓pvd,pva,pvr,bin2,binB2,un1,setCells,List.map,seval,reduceCtorEq,hal,hbl]
    refine awR_call q0 rfl rfl ?_
    simp (disch:=first|omega|(simp only[pvl];omega)) only [↓pvd,pva,pvr,bin2,binB2,un1,setCells,List.map,seval,reduceCtorEq,hal,hbl]
    refine awR_call q1 rfl rfl ?_
    simp (disch:=first|omega|(simp only[pvl];omega)) only [↓pvd,pva,pvr,bin2,binB2,un1,setCells,List.map,seval,reduceCtorEq,true_and]
    refine awR_call q2 rfl rfl ?_
    simp (disch:=first|omega|(simp only[pvl];omega)) only [↓pvd,pva,pvr,bin2,binB2,un1,setCells,List.map,seval,reduceCtorEq,true_and]
    refine awR_call q3 rfl rfl ?_
    simp (disch:=first|omega|(simp only[pvl];omega)) only [↓pvd,pva,pvr,bin2,binB2,un1,setCells,List.map,seval,reduceCtorEq,true_and]
    refine awR_call q4 rfl rfl ?_
    simp (disch:=first|omega|(simp only[pvl];omega)) only [↓pvd,pva,pvr,bin2,binB2,un1,setCells,List.map,seval,reduceCtorEq,h0']
    refine awR_call q5 rfl rfl ?_
    simp (disch:=first|omega|(simp only[pvl];omega)) only [↓pvd,pva,pvr,bin2,binB2,un1,setCells,List.map,seval,reduceCtorEq,h0']
    (refine Ends_rq [] ?_; simp (disch:=first|omega|(simp only[pvl];omega)) only [↓pvd,pva,pvr,bin2,binB2,un1,setCells,List.map,seval,reduceCtorEq]; exact ⟨_,rfl,rfl,rfl⟩)
theorem diffAlike_all : ∀ xs, DatL Tryz.prog 6 Tryz.f6.params.toList xs → Run Tryz.prog 6 xs (.bool true):=by
 intro xs h
 rw [show Tryz.f6.params.toList = [22, 22] from rfl] at h
 obtain ⟨y1, y2, rfl, h1, h2⟩:=datL2 h
 obtain ⟨a, rfl, ha⟩:=dat_bys Tryz.underlying22 Tryz.underlying5 (by kernel_rfl) h1
 obtain ⟨b, rfl, hb⟩:=dat_bys Tryz.underlying22 Tryz.underlying5 (by kernel_rfl) h2
 exact diffAlike_run a b ha hb
end Go.Proofs
