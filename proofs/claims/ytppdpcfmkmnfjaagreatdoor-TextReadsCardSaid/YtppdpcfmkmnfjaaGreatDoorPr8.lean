/- The proofs of what the functions of this seat do. -/
import Derived.Test.YtppdpcfmkmnfjaaGreatDoorPr7
set_option linter.unusedSimpArgs false
set_option linter.unusedVariables false
set_option maxHeartbeats 2000000
set_option maxRecDepth 20000
namespace Go.Proofs
open Go.Pv
theorem rdG_range {s ds : List UInt8} {neg : Bool} {a b : Int} (h : (Nm.rdG s ds neg a b).2 = true) : a ≤ (Nm.rdG s ds neg a b).1 ∧ (Nm.rdG s ds neg a b).1 ≤ b:=by
 unfold Nm.rdG at *
 split at h
 ·cases h
 rw [if_neg (by assumption)]
 split at h
 ·cases h
 rw [if_neg (by assumption)]
 generalize (if neg then -Nm.vF ds ds.length else Nm.vF ds ds.length) = n at *
 simp only at *
 split at h
 ·cases h
 split at h
 ·cases h
 split at h
 ·cases h
 rw [if_neg (by assumption), if_neg (by assumption), if_neg (by assumption)]
 simp only
 omega
theorem gI_range {a b : Int} {p : List UInt8} (h : (gI a b p).2 = true) : a ≤ (gI a b p).1 ∧ (gI a b p).1 ≤ b:=by
 unfold gI Nm.rdF at *
 split at h
 ·rw [if_pos (by assumption)]; exact rdG_range h
 ·rw [if_neg (by assumption)]; exact rdG_range h
theorem rl_rs {a b : Int} {ps : List (List UInt8)} (hne : ps ≠ []) (h : ∀ p ∈ ps, (gI a b p).2 = true) : rlF (gI a b) ps = rsF (ps.map fun p=>(gI a b p).1) a b:=by
 have h1 : ps.all (fun p=>(gI a b p).2) = true:=List.all_eq_true.2 h
 have h2 : ((ps.map fun p=>(gI a b p).1).all fun n=>decide (a ≤ n ∧ n ≤ b)) = true:=by
  rw [List.all_eq_true]
  intro n hn
  obtain ⟨p, hp, rfl⟩:=List.mem_map.1 hn
  exact decide_eq_true (gI_range (h p hp))
 have h3:=List.length_pos_iff.2 hne
 unfold rlF rsF
 rw [h1, h2, List.length_map]
 simp only [Bool.true_and,h3,true_and]
 rw [Bool.and_comm]
theorem no_ok {g : List UInt8 → Int × Bool} {ps : List (List UInt8)} {k : Nat} (hk : k < ps.length) (h : (g ps[k]!).2 = false) : ¬ rlF g ps = true:=fun h'=>by
 have:=(rlF_iff.1 h').1 ps[k]! (by rw [getElem!_pos ps k hk]; exact List.getElem_mem hk)
 rw [h] at this
 cases this
set_option maxHeartbeats 4000000 in
theorem rrdlist_run (s : List UInt8) (a b : Int) (hs : s.length ≤ 1000) : Run Tryz.prog 112 [.str s, .int .i64 a, .int .i64 b] (rlR 3 .i64 (gI a b) (sc s)):=by
 have q:=split_run s hs
 have hl:=sc_len s
 have hne:=sc_ne s
 refine Tryz.run112 (by simp) ?_
 unfold Tryz.c112
 generalize sc s = ps at *
 obtain ⟨vs, hvs⟩ : ∃ vs, (ps.map fun p=>(gI a b p).1) = vs:=⟨_, rfl⟩
 have hvl : vs.length = ps.length:=by rw [← hvs]; simp
 have hvg : ∀ k, k < ps.length → vs[k]! = (gI a b ps[k]!).1:=fun k hk=>by
  rw [getElem!_pos vs k (by omega), getElem!_pos ps k hk]
  subst hvs
  simp
 simp (disch:=first|omega|(simp only[pvl] at *;omega)) only [↓pvd,pva,pvr,bin2,binB2,un1,setCells,List.map,seval,reduceCtorEq]
 refine awR_call q rfl rfl ?_
 simp (disch:=first|omega|(simp only[pvl] at *;omega)) only [↓pvd,pva,pvr,bin2,binB2,un1,setCells,List.map,seval,reduceCtorEq]
 refine aw_loop (fun k : Nat=>⟨[(1, .int .i64 a), (2, .int .i64 b), (8, .vec 0 1 0 ps.length), (9, .vec 1 1 0 k), (10, .int .i64 k)], [some ⟨9, ps.map .str, true⟩, some ⟨3, (vs.take k).map (.int .i64), true⟩]⟩) (fun k=>k ≤ ps.length ∧ ∀ j < k, (gI a b ps[j]!).2 = true) (fun k=>ps.length - k) 0 ?_ ⟨by omega, by simp⟩ ?_
 ·simp (disch:=first|omega|(simp only[pvl];omega)) only [↓pvd,pva,pvr,bin2,binB2,un1,setCells,List.map,seval,reduceCtorEq,ids_map str_pl,ren_map str_pl,List.length_map]
  try simp
 rintro k ⟨hk, hp⟩
 unfold Tryz.c112b0
 have htl : ((vs.take k).map (AV.int .i64)).length = k:=by simp; omega
 by_cases hx : k < ps.length
 ·have hgi : (ps.map AV.str)[k]? = some (.str ps[k]!):=map_get hx
  have hlp : ps[k]!.length ≤ 1000:=by
   have:=hl.2 ps[k]! (by rw [getElem!_pos ps k hx]; exact List.getElem_mem hx)
   omega
  have q1:=Nm.rread_run ps[k]! a b (by omega)
  unfold Nm.rdR at q1
  rw [show Nm.rdF ps[k]! a b = gI a b ps[k]! from rfl] at q1
  have hv:=hvg k hx
  by_cases hok : (gI a b ps[k]!).2 = true
  ·rw [hok, ← hv] at q1
   have hap : (vs.take k).map (AV.int .i64) ++ [AV.int .i64 vs[k]!] = (vs.take (k + 1)).map (AV.int .i64):=by rw [take_snoc (by omega)]; simp
   generalize hrow : ps.map AV.str = prow at *
   have hpl0 : prow.all AV.pl = true:=by rw [← hrow]; exact pl_map str_pl
   have hprl : prow.length = ps.length:=by rw [← hrow]; simp
   simp (disch:=first|omega|(simp only[pvl];omega)) only [↓pvd,pva,pvr,bin2,binB2,un1,setCells,List.map,seval,reduceCtorEq,hgi]
   refine awR_call q1 rfl rfl ?_
   simp (disch:=first|omega|(simp only[pvl];omega)) only [↓pvd,pva,pvr,bin2,binB2,un1,setCells,List.map,seval,reduceCtorEq,ids_all hpl0,ren_all hpl0,ids_map (int_pl .i64),ren_map (int_pl .i64),htl,hap]
   refine ⟨k + 1, ?_, ⟨hx, fun j hj=>?_⟩, by omega⟩
   ·simp
   ·by_cases e : j = k
    ·rw [e]; exact hok
    ·exact hp j (by omega)
  ·have hok : (gI a b ps[k]!).2 = false:=by simpa using hok
   rw [hok] at q1
   rw [rlR_no (no_ok hx hok)]
   generalize hrow : ps.map AV.str = prow at *
   have hpl0 : prow.all AV.pl = true:=by rw [← hrow]; exact pl_map str_pl
   simp (disch:=first|omega|(simp only[pvl];omega)) only [↓pvd,pva,pvr,bin2,binB2,un1,setCells,List.map,seval,reduceCtorEq,hgi]
   refine awR_call q1 rfl rfl ?_
   simp (disch:=first|omega|(simp only[pvl];omega)) only [↓pvd,pva,pvr,bin2,binB2,un1,setCells,List.map,seval,reduceCtorEq,ids_all hpl0,ren_all hpl0,ids_map (int_pl .i64),ren_map (int_pl .i64)]
   (refine Ends_rq [] ?_; simp (disch:=first|omega|(simp only[pvl];omega)) only [↓pvd,pva,pvr,bin2,binB2,un1,setCells,List.map,seval,reduceCtorEq]; exact ⟨_,rfl,rfl,rfl⟩)
 ·have e : k = ps.length:=by omega
  have hall : ∀ p ∈ ps, (gI a b p).2 = true:=fun p hp'=>by
   obtain ⟨j, hj, rfl⟩:=List.mem_iff_getElem.1 hp'
   have:=hp j (by omega)
   rwa [getElem!_pos ps j hj] at this
  have h1:=rl_rs hne hall
  rw [hvs] at h1
  have htk : vs.take k = vs:=List.take_of_length_le (by omega)
  rw [htk]
  have q2:=rising_run vs false a b (by omega)
  have hkl : k = vs.length:=by omega
  by_cases hr : rsF vs a b = true
  ·rw [hr] at q2 h1
   rw [rlR_yes h1, hvs]
   simp (disch:=first|omega|(simp only[pvl];omega)) only [↓pvd,pva,pvr,bin2,binB2,un1,setCells,List.map,seval,reduceCtorEq,List.length_map,hkl]
   refine awR_callR (ms:=[]) q2 (by simp (disch:=first|omega|(simp only[pvl];omega)) only [↓pvd,pva,pvr,bin2,binB2,un1,setCells,List.map,seval,reduceCtorEq,mapO_map (int_nr .i64),rows_map (int_nr .i64)]; rfl) (by simp (disch:=first|omega|(simp only[pvl];omega)) only [↓pvd,pva,pvr,bin2,binB2,un1,setCells,List.map,seval,reduceCtorEq,mapO_map (int_nr .i64),rows_map (int_nr .i64)]) rfl ?_
   simp (disch:=first|omega|(simp only[pvl];omega)) only [↓pvd,pva,pvr,bin2,binB2,un1,setCells,List.map,seval,reduceCtorEq,still,ids_map (int_pl .i64),ren_map (int_pl .i64),hkl]
   (refine Ends_rq [[.own 1 3], [.snap]] ?_; simp (disch:=first|omega|(simp only[pvl];omega)) only [↓pvd,pva,pvr,bin2,binB2,un1,setCells,List.map,seval,reduceCtorEq,ids_map (int_pl .i64),ren_map (int_pl .i64),mapO_map (int_nr .i64),rows_map (int_nr .i64)]; exact ⟨_,rfl,rfl,rfl⟩)
  ·have hr : rsF vs a b = false:=by simpa using hr
   rw [hr] at q2 h1
   rw [rlR_no (by rw [h1]; simp)]
   simp (disch:=first|omega|(simp only[pvl];omega)) only [↓pvd,pva,pvr,bin2,binB2,un1,setCells,List.map,seval,reduceCtorEq,List.length_map,hkl]
   refine awR_callR (ms:=[]) q2 (by simp (disch:=first|omega|(simp only[pvl];omega)) only [↓pvd,pva,pvr,bin2,binB2,un1,setCells,List.map,seval,reduceCtorEq,mapO_map (int_nr .i64),rows_map (int_nr .i64)]; rfl) (by simp (disch:=first|omega|(simp only[pvl];omega)) only [↓pvd,pva,pvr,bin2,binB2,un1,setCells,List.map,seval,reduceCtorEq,mapO_map (int_nr .i64),rows_map (int_nr .i64)]) rfl ?_
   simp (disch:=first|omega|(simp only[pvl];omega)) only [↓pvd,pva,pvr,bin2,binB2,un1,setCells,List.map,seval,reduceCtorEq,still,ids_map (int_pl .i64),ren_map (int_pl .i64),hkl]
   (refine Ends_rq [] ?_; simp (disch:=first|omega|(simp only[pvl];omega)) only [↓pvd,pva,pvr,bin2,binB2,un1,setCells,List.map,seval,reduceCtorEq]; exact ⟨_,rfl,rfl,rfl⟩)
set_option maxHeartbeats 4000000 in
theorem rrdaddrs_run (s : List UInt8) (hs : s.length ≤ 1000) : Run Tryz.prog 81 [.str s] (rlR 35 .u32 rdB (sc s)):=by
 have q:=split_run s hs
 have hl:=sc_len s
 have hne:=sc_ne s
 refine Tryz.run81 (by simp) ?_
 unfold Tryz.c81
 generalize sc s = ps at *
 obtain ⟨vs, hvs⟩ : ∃ vs, (ps.map fun p=>(rdB p).1) = vs:=⟨_, rfl⟩
 have hvl : vs.length = ps.length:=by rw [← hvs]; simp
 have hvg : ∀ k, k < ps.length → vs[k]! = (rdB ps[k]!).1:=fun k hk=>by
  rw [getElem!_pos vs k (by omega), getElem!_pos ps k hk]
  subst hvs
  simp
 simp (disch:=first|omega|(simp only[pvl] at *;omega)) only [↓pvd,pva,pvr,bin2,binB2,un1,setCells,List.map,seval,reduceCtorEq]
 refine awR_call q rfl rfl ?_
 simp (disch:=first|omega|(simp only[pvl] at *;omega)) only [↓pvd,pva,pvr,bin2,binB2,un1,setCells,List.map,seval,reduceCtorEq]
 refine aw_loop (fun k : Nat=>⟨[(4, .vec 0 1 0 ps.length), (5, .vec 1 1 0 k), (6, .int .i64 k)], [some ⟨9, ps.map .str, true⟩, some ⟨35, (vs.take k).map (.int .u32), true⟩]⟩) (fun k=>k ≤ ps.length ∧ k ≤ 16 ∧ (∀ j < k, (rdB ps[j]!).2 = true) ∧ risF (vs.take k) = true) (fun k=>ps.length - k) 0 ?_ ⟨by omega, by omega, by simp, rfl⟩ ?_
 ·simp (disch:=first|omega|(simp only[pvl];omega)) only [↓pvd,pva,pvr,bin2,binB2,un1,setCells,List.map,seval,reduceCtorEq,ids_map str_pl,ren_map str_pl,List.length_map]
  try simp
 rintro k ⟨hk, hk16, hp, hr⟩
 unfold Tryz.c81b0
 have htl : ((vs.take k).map (AV.int .u32)).length = k:=by simp; omega
 by_cases hx : k < ps.length
 ·have hgi : (ps.map AV.str)[k]? = some (.str ps[k]!):=map_get hx
  have hlp : ps[k]!.length ≤ 1000:=by
   have:=hl.2 ps[k]! (by rw [getElem!_pos ps k hx]; exact List.getElem_mem hx)
   omega
  have q1:=ref_read_run ps[k]! (by omega)
  rw [rdB_eq] at q1
  have hv:=hvg k hx
  generalize hrow : ps.map AV.str = prow at *
  have hpl0 : prow.all AV.pl = true:=by rw [← hrow]; exact pl_map str_pl
  have hprl : prow.length = ps.length:=by rw [← hrow]; simp
  by_cases hok : (rdB ps[k]!).2 = true
  ·rw [hok, ← hv] at q1
   have hn:=ris_next (l:=vs) (k:=k) (by omega)
   rw [hr, Bool.true_and] at hn
   have hap : (vs.take k).map (AV.int .u32) ++ [AV.int .u32 vs[k]!] = (vs.take (k + 1)).map (AV.int .u32):=by rw [take_snoc (by omega)]; simp
   by_cases h16 : k < 16
   ·have nx : (k = 0 ∨ vs[k - 1]! < vs[k]!) → k + 1 ≤ ps.length ∧ k + 1 ≤ 16 ∧ (∀ j < k + 1, (rdB ps[j]!).2 = true) ∧ risF (vs.take (k + 1)) = true:=fun h=>⟨hx, by omega, fun j hj=>by
     by_cases e : j = k
     ·rw [e]; exact hok
     ·exact hp j (by omega), by rw [hn]; exact decide_eq_true h⟩
    by_cases h0 : k = 0
    ·have:=nx (.inl h0)
     subst h0
     simp (disch:=first|omega|(simp only[pvl];omega)) only [↓pvd,pva,pvr,bin2,binB2,un1,setCells,List.map,seval,reduceCtorEq,hgi]
     refine awR_call q1 rfl rfl ?_
     simp (disch:=first|omega|(simp only[pvl];omega)) only [↓pvd,pva,pvr,bin2,binB2,un1,setCells,List.map,seval,reduceCtorEq,ids_all hpl0,ren_all hpl0,ids_map (int_pl .u32),ren_map (int_pl .u32),htl,hap]
     refine ⟨0 + 1, ?_, this, by omega⟩
     rw [take_snoc (by omega)]
     simp
    ·have hix : ((k : Int) - 1).toNat = k - 1:=by omega
     have hgj : ((vs.take k).map (AV.int .u32))[k - 1]? = some (.int .u32 vs[k - 1]!):=by
      rw [map_get (by simp; omega)]
      rw [getElem!_pos _ (k - 1) (by simp; omega), getElem!_pos vs (k - 1) (by omega), List.getElem_take]
     have hk0 : 0 < k:=by omega
     by_cases h4 : vs[k - 1]! < vs[k]!
     ·have:=nx (.inr h4)
      simp (disch:=first|omega|(simp only[pvl];omega)) only [↓pvd,pva,pvr,bin2,binB2,un1,setCells,List.map,seval,reduceCtorEq,hgi]
      refine awR_call q1 rfl rfl ?_
      simp (disch:=first|omega|(simp only[pvl];omega)) only [↓pvd,pva,pvr,bin2,binB2,un1,setCells,List.map,seval,reduceCtorEq,ids_all hpl0,ren_all hpl0,ids_map (int_pl .u32),ren_map (int_pl .u32),htl,hap,hix,hgj]
      refine ⟨k + 1, ?_, this, by omega⟩
      simp
     ·rw [rlR_no (fun h=>by have:=(rlF_iff.1 h).2.2; rw [hvs, ris_no (k:=k) (by omega) (fun h=>h.elim h0 h4)] at this; cases this)]
      simp (disch:=first|omega|(simp only[pvl];omega)) only [↓pvd,pva,pvr,bin2,binB2,un1,setCells,List.map,seval,reduceCtorEq,hgi]
      refine awR_call q1 rfl rfl ?_
      simp (disch:=first|omega|(simp only[pvl];omega)) only [↓pvd,pva,pvr,bin2,binB2,un1,setCells,List.map,seval,reduceCtorEq,ids_all hpl0,ren_all hpl0,ids_map (int_pl .u32),ren_map (int_pl .u32),htl,hap,hix,hgj]
      (refine Ends_rq [] ?_; simp (disch:=first|omega|(simp only[pvl];omega)) only [↓pvd,pva,pvr,bin2,binB2,un1,setCells,List.map,seval,reduceCtorEq]; exact ⟨_,rfl,rfl,rfl⟩)
   ·rw [rlR_no (fun h=>by have:=(rlF_iff.1 h).2.1; omega)]
    have hge : 16 ≤ k:=by omega
    simp (disch:=first|omega|(simp only[pvl];omega)) only [↓pvd,pva,pvr,bin2,binB2,un1,setCells,List.map,seval,reduceCtorEq,hgi]
    refine awR_call q1 rfl rfl ?_
    simp (disch:=first|omega|(simp only[pvl];omega)) only [↓pvd,pva,pvr,bin2,binB2,un1,setCells,List.map,seval,reduceCtorEq,ids_all hpl0,ren_all hpl0,ids_map (int_pl .u32),ren_map (int_pl .u32),htl,hap]
    (refine Ends_rq [] ?_; simp (disch:=first|omega|(simp only[pvl];omega)) only [↓pvd,pva,pvr,bin2,binB2,un1,setCells,List.map,seval,reduceCtorEq]; exact ⟨_,rfl,rfl,rfl⟩)
  ·have hok : (rdB ps[k]!).2 = false:=by simpa using hok
   rw [hok] at q1
   rw [rlR_no (no_ok hx hok)]
   simp (disch:=first|omega|(simp only[pvl];omega)) only [↓pvd,pva,pvr,bin2,binB2,un1,setCells,List.map,seval,reduceCtorEq,hgi]
   refine awR_call q1 rfl rfl ?_
   simp (disch:=first|omega|(simp only[pvl];omega)) only [↓pvd,pva,pvr,bin2,binB2,un1,setCells,List.map,seval,reduceCtorEq,ids_all hpl0,ren_all hpl0,ids_map (int_pl .u32),ren_map (int_pl .u32)]
   (refine Ends_rq [] ?_; simp (disch:=first|omega|(simp only[pvl];omega)) only [↓pvd,pva,pvr,bin2,binB2,un1,setCells,List.map,seval,reduceCtorEq]; exact ⟨_,rfl,rfl,rfl⟩)
 ·have e : k = ps.length:=by omega
  have hall : ∀ p ∈ ps, (rdB p).2 = true:=fun p hp'=>by
   obtain ⟨j, hj, rfl⟩:=List.mem_iff_getElem.1 hp'
   have:=hp j (by omega)
   rwa [getElem!_pos ps j hj] at this
  have htk : vs.take k = vs:=List.take_of_length_le (by omega)
  rw [htk] at hr ⊢
  have h1 : rlF rdB ps = true:=rlF_iff.2 ⟨hall, by omega, by rw [hvs]; exact hr⟩
  rw [rlR_yes h1, hvs]
  have hkl : k = vs.length:=by omega
  simp (disch:=first|omega|(simp only[pvl];omega)) only [↓pvd,pva,pvr,bin2,binB2,un1,setCells,List.map,seval,reduceCtorEq,List.length_map,hkl,ids_map str_pl,ren_map str_pl,ids_map (int_pl .u32),ren_map (int_pl .u32)]
  (refine Ends_rq [[.own 1 35], [.snap]] ?_; simp (disch:=first|omega|(simp only[pvl];omega)) only [↓pvd,pva,pvr,bin2,binB2,un1,setCells,List.map,seval,reduceCtorEq,ids_map (int_pl .u32),ren_map (int_pl .u32),mapO_map (int_nr .u32),rows_map (int_nr .u32)]; exact ⟨_,rfl,rfl,rfl⟩)
end Go.Proofs
namespace Go.Proofs
open Go.Pv
theorem awR_callGD {P : Program} {N : St → Prop} {fr : Fr} {hp : Hp} {base : Nat} {d : Option Nat} {f : FuncId} {xs : List AX} {no : List TypeId} {rest : List Op2} {r : AV} {H' : Hp} (hg : Gen P f (xs.map (·.ev fr)) hp r H') (hG : growL no hp H')
  (hk : awR P base rest N ⟨putO fr d r, H'⟩) : awR P base (⟨d, none, .call f xs true, false, no⟩ :: rest) N ⟨fr, hp⟩ :=
 ⟨r, H', hg, fun _=>⟨grow_of hG, fun h=>by cases h⟩, hk⟩
theorem ne_1_2 : decide (([100, 101, 118, 105, 99, 101] : List UInt8) = [112, 111, 114, 116]) = false:=by decide
theorem ne_1_3 : decide (([100, 101, 118, 105, 99, 101] : List UInt8) = [108, 105, 110, 107]) = false:=by decide
theorem ne_1_4 : decide (([100, 101, 118, 105, 99, 101] : List UInt8) = [115, 116, 97, 116, 105, 99]) = false:=by decide
theorem ne_1_5 : decide (([100, 101, 118, 105, 99, 101] : List UInt8) = [118, 116, 101, 112]) = false:=by decide
theorem ne_1_6 : decide (([100, 101, 118, 105, 99, 101] : List UInt8) = [118, 110, 105]) = false:=by decide
theorem ne_1_7 : decide (([100, 101, 118, 105, 99, 101] : List UInt8) = [102, 108, 111, 111, 100]) = false:=by decide
theorem ne_1_8 : decide (([100, 101, 118, 105, 99, 101] : List UInt8) = [118, 114, 102]) = false:=by decide
theorem ne_1_9 : decide (([100, 101, 118, 105, 99, 101] : List UInt8) = [105, 114, 98]) = false:=by decide
theorem ne_2_1 : decide (([112, 111, 114, 116] : List UInt8) = [100, 101, 118, 105, 99, 101]) = false:=by decide
theorem ne_2_3 : decide (([112, 111, 114, 116] : List UInt8) = [108, 105, 110, 107]) = false:=by decide
theorem ne_2_4 : decide (([112, 111, 114, 116] : List UInt8) = [115, 116, 97, 116, 105, 99]) = false:=by decide
theorem ne_2_5 : decide (([112, 111, 114, 116] : List UInt8) = [118, 116, 101, 112]) = false:=by decide
theorem ne_2_6 : decide (([112, 111, 114, 116] : List UInt8) = [118, 110, 105]) = false:=by decide
theorem ne_2_7 : decide (([112, 111, 114, 116] : List UInt8) = [102, 108, 111, 111, 100]) = false:=by decide
theorem ne_2_8 : decide (([112, 111, 114, 116] : List UInt8) = [118, 114, 102]) = false:=by decide
theorem ne_2_9 : decide (([112, 111, 114, 116] : List UInt8) = [105, 114, 98]) = false:=by decide
theorem ne_3_1 : decide (([108, 105, 110, 107] : List UInt8) = [100, 101, 118, 105, 99, 101]) = false:=by decide
theorem ne_3_2 : decide (([108, 105, 110, 107] : List UInt8) = [112, 111, 114, 116]) = false:=by decide
theorem ne_3_4 : decide (([108, 105, 110, 107] : List UInt8) = [115, 116, 97, 116, 105, 99]) = false:=by decide
theorem ne_3_5 : decide (([108, 105, 110, 107] : List UInt8) = [118, 116, 101, 112]) = false:=by decide
theorem ne_3_6 : decide (([108, 105, 110, 107] : List UInt8) = [118, 110, 105]) = false:=by decide
theorem ne_3_7 : decide (([108, 105, 110, 107] : List UInt8) = [102, 108, 111, 111, 100]) = false:=by decide
theorem ne_3_8 : decide (([108, 105, 110, 107] : List UInt8) = [118, 114, 102]) = false:=by decide
theorem ne_3_9 : decide (([108, 105, 110, 107] : List UInt8) = [105, 114, 98]) = false:=by decide
theorem ne_4_1 : decide (([115, 116, 97, 116, 105, 99] : List UInt8) = [100, 101, 118, 105, 99, 101]) = false:=by decide
theorem ne_4_2 : decide (([115, 116, 97, 116, 105, 99] : List UInt8) = [112, 111, 114, 116]) = false:=by decide
theorem ne_4_3 : decide (([115, 116, 97, 116, 105, 99] : List UInt8) = [108, 105, 110, 107]) = false:=by decide
theorem ne_4_5 : decide (([115, 116, 97, 116, 105, 99] : List UInt8) = [118, 116, 101, 112]) = false:=by decide
theorem ne_4_6 : decide (([115, 116, 97, 116, 105, 99] : List UInt8) = [118, 110, 105]) = false:=by decide
theorem ne_4_7 : decide (([115, 116, 97, 116, 105, 99] : List UInt8) = [102, 108, 111, 111, 100]) = false:=by decide
theorem ne_4_8 : decide (([115, 116, 97, 116, 105, 99] : List UInt8) = [118, 114, 102]) = false:=by decide
theorem ne_4_9 : decide (([115, 116, 97, 116, 105, 99] : List UInt8) = [105, 114, 98]) = false:=by decide
theorem ne_5_1 : decide (([118, 116, 101, 112] : List UInt8) = [100, 101, 118, 105, 99, 101]) = false:=by decide
theorem ne_5_2 : decide (([118, 116, 101, 112] : List UInt8) = [112, 111, 114, 116]) = false:=by decide
theorem ne_5_3 : decide (([118, 116, 101, 112] : List UInt8) = [108, 105, 110, 107]) = false:=by decide
theorem ne_5_4 : decide (([118, 116, 101, 112] : List UInt8) = [115, 116, 97, 116, 105, 99]) = false:=by decide
theorem ne_5_6 : decide (([118, 116, 101, 112] : List UInt8) = [118, 110, 105]) = false:=by decide
theorem ne_5_7 : decide (([118, 116, 101, 112] : List UInt8) = [102, 108, 111, 111, 100]) = false:=by decide
theorem ne_5_8 : decide (([118, 116, 101, 112] : List UInt8) = [118, 114, 102]) = false:=by decide
theorem ne_5_9 : decide (([118, 116, 101, 112] : List UInt8) = [105, 114, 98]) = false:=by decide
theorem ne_6_1 : decide (([118, 110, 105] : List UInt8) = [100, 101, 118, 105, 99, 101]) = false:=by decide
theorem ne_6_2 : decide (([118, 110, 105] : List UInt8) = [112, 111, 114, 116]) = false:=by decide
theorem ne_6_3 : decide (([118, 110, 105] : List UInt8) = [108, 105, 110, 107]) = false:=by decide
theorem ne_6_4 : decide (([118, 110, 105] : List UInt8) = [115, 116, 97, 116, 105, 99]) = false:=by decide
theorem ne_6_5 : decide (([118, 110, 105] : List UInt8) = [118, 116, 101, 112]) = false:=by decide
theorem ne_6_7 : decide (([118, 110, 105] : List UInt8) = [102, 108, 111, 111, 100]) = false:=by decide
theorem ne_6_8 : decide (([118, 110, 105] : List UInt8) = [118, 114, 102]) = false:=by decide
theorem ne_6_9 : decide (([118, 110, 105] : List UInt8) = [105, 114, 98]) = false:=by decide
theorem ne_7_1 : decide (([102, 108, 111, 111, 100] : List UInt8) = [100, 101, 118, 105, 99, 101]) = false:=by decide
theorem ne_7_2 : decide (([102, 108, 111, 111, 100] : List UInt8) = [112, 111, 114, 116]) = false:=by decide
theorem ne_7_3 : decide (([102, 108, 111, 111, 100] : List UInt8) = [108, 105, 110, 107]) = false:=by decide
theorem ne_7_4 : decide (([102, 108, 111, 111, 100] : List UInt8) = [115, 116, 97, 116, 105, 99]) = false:=by decide
theorem ne_7_5 : decide (([102, 108, 111, 111, 100] : List UInt8) = [118, 116, 101, 112]) = false:=by decide
theorem ne_7_6 : decide (([102, 108, 111, 111, 100] : List UInt8) = [118, 110, 105]) = false:=by decide
theorem ne_7_8 : decide (([102, 108, 111, 111, 100] : List UInt8) = [118, 114, 102]) = false:=by decide
theorem ne_7_9 : decide (([102, 108, 111, 111, 100] : List UInt8) = [105, 114, 98]) = false:=by decide
theorem ne_8_1 : decide (([118, 114, 102] : List UInt8) = [100, 101, 118, 105, 99, 101]) = false:=by decide
theorem ne_8_2 : decide (([118, 114, 102] : List UInt8) = [112, 111, 114, 116]) = false:=by decide
theorem ne_8_3 : decide (([118, 114, 102] : List UInt8) = [108, 105, 110, 107]) = false:=by decide
theorem ne_8_4 : decide (([118, 114, 102] : List UInt8) = [115, 116, 97, 116, 105, 99]) = false:=by decide
theorem ne_8_5 : decide (([118, 114, 102] : List UInt8) = [118, 116, 101, 112]) = false:=by decide
theorem ne_8_6 : decide (([118, 114, 102] : List UInt8) = [118, 110, 105]) = false:=by decide
theorem ne_8_7 : decide (([118, 114, 102] : List UInt8) = [102, 108, 111, 111, 100]) = false:=by decide
theorem ne_8_9 : decide (([118, 114, 102] : List UInt8) = [105, 114, 98]) = false:=by decide
theorem ne_9_1 : decide (([105, 114, 98] : List UInt8) = [100, 101, 118, 105, 99, 101]) = false:=by decide
theorem ne_9_2 : decide (([105, 114, 98] : List UInt8) = [112, 111, 114, 116]) = false:=by decide
theorem ne_9_3 : decide (([105, 114, 98] : List UInt8) = [108, 105, 110, 107]) = false:=by decide
theorem ne_9_4 : decide (([105, 114, 98] : List UInt8) = [115, 116, 97, 116, 105, 99]) = false:=by decide
theorem ne_9_5 : decide (([105, 114, 98] : List UInt8) = [118, 116, 101, 112]) = false:=by decide
theorem ne_9_6 : decide (([105, 114, 98] : List UInt8) = [118, 110, 105]) = false:=by decide
theorem ne_9_7 : decide (([105, 114, 98] : List UInt8) = [102, 108, 111, 111, 100]) = false:=by decide
theorem ne_9_8 : decide (([105, 114, 98] : List UInt8) = [118, 114, 102]) = false:=by decide
set_option maxHeartbeats 4000000 in
theorem rkind_run (s : List UInt8) : Run Tryz.prog 46 [.str s] (.int .i64 (kdF s)):=by
 refine Tryz.run46 (by simp) ?_
 unfold Tryz.c46 kdF
 simp (disch:=first|omega|(simp only[pvl];omega)) only [↓pvd,pva,pvr,bin2,binB2,un1,setCells,List.map,seval,reduceCtorEq,true_and]
 refine aw_unroll 11 ?_
 by_cases h0 : s = [100, 101, 118, 105, 99, 101]
 ·subst h0
  rw [show (if ([100, 101, 118, 105, 99, 101] : List UInt8) = [100, 101, 118, 105, 99, 101] then (1 : Int) else if ([100, 101, 118, 105, 99, 101] : List UInt8) = [112, 111, 114, 116] then (2 : Int) else if ([100, 101, 118, 105, 99, 101] : List UInt8) = [108, 105, 110, 107] then (3 : Int) else if ([100, 101, 118, 105, 99, 101] : List UInt8) = [115, 116, 97, 116, 105, 99] then (4 : Int) else if ([100, 101, 118, 105, 99, 101] : List UInt8) = [118, 116, 101, 112] then (5 : Int) else if ([100, 101, 118, 105, 99, 101] : List UInt8) = [118, 110, 105] then (6 : Int) else if ([100, 101, 118, 105, 99, 101] : List UInt8) = [102, 108, 111, 111, 100] then (7 : Int) else if ([100, 101, 118, 105, 99, 101] : List UInt8) = [118, 114, 102] then (8 : Int) else if ([100, 101, 118, 105, 99, 101] : List UInt8) = [105, 114, 98] then (9 : Int) else 0) = 1 by decide]
  simp (disch:=first|omega|(simp only[pvl];omega)) only [↓pvd,pva,pvr,bin2,binB2,un1,setCells,List.map,seval,reduceCtorEq,unr_s,unrT_e,Tryz.c46b0]
  (refine Ends_rq [] ?_; simp (disch:=first|omega|(simp only[pvl];omega)) only [↓pvd,pva,pvr,bin2,binB2,un1,setCells,List.map,seval,reduceCtorEq]; exact ⟨_,rfl,rfl,rfl⟩)
 have g0 : decide (([100, 101, 118, 105, 99, 101] : List UInt8) = s) = false:=decide_eq_false (fun e=>h0 e.symm)
 by_cases h1 : s = [112, 111, 114, 116]
 ·subst h1
  rw [show (if ([112, 111, 114, 116] : List UInt8) = [100, 101, 118, 105, 99, 101] then (1 : Int) else if ([112, 111, 114, 116] : List UInt8) = [112, 111, 114, 116] then (2 : Int) else if ([112, 111, 114, 116] : List UInt8) = [108, 105, 110, 107] then (3 : Int) else if ([112, 111, 114, 116] : List UInt8) = [115, 116, 97, 116, 105, 99] then (4 : Int) else if ([112, 111, 114, 116] : List UInt8) = [118, 116, 101, 112] then (5 : Int) else if ([112, 111, 114, 116] : List UInt8) = [118, 110, 105] then (6 : Int) else if ([112, 111, 114, 116] : List UInt8) = [102, 108, 111, 111, 100] then (7 : Int) else if ([112, 111, 114, 116] : List UInt8) = [118, 114, 102] then (8 : Int) else if ([112, 111, 114, 116] : List UInt8) = [105, 114, 98] then (9 : Int) else 0) = 2 by decide]
  simp (disch:=first|omega|(simp only[pvl];omega)) only [↓pvd,pva,pvr,bin2,binB2,un1,setCells,List.map,seval,reduceCtorEq,unr_s,unrT_e,Tryz.c46b0,ne_1_2]
  (refine Ends_rq [] ?_; simp (disch:=first|omega|(simp only[pvl];omega)) only [↓pvd,pva,pvr,bin2,binB2,un1,setCells,List.map,seval,reduceCtorEq]; exact ⟨_,rfl,rfl,rfl⟩)
 have g1 : decide (([112, 111, 114, 116] : List UInt8) = s) = false:=decide_eq_false (fun e=>h1 e.symm)
 by_cases h2 : s = [108, 105, 110, 107]
 ·subst h2
  rw [show (if ([108, 105, 110, 107] : List UInt8) = [100, 101, 118, 105, 99, 101] then (1 : Int) else if ([108, 105, 110, 107] : List UInt8) = [112, 111, 114, 116] then (2 : Int) else if ([108, 105, 110, 107] : List UInt8) = [108, 105, 110, 107] then (3 : Int) else if ([108, 105, 110, 107] : List UInt8) = [115, 116, 97, 116, 105, 99] then (4 : Int) else if ([108, 105, 110, 107] : List UInt8) = [118, 116, 101, 112] then (5 : Int) else if ([108, 105, 110, 107] : List UInt8) = [118, 110, 105] then (6 : Int) else if ([108, 105, 110, 107] : List UInt8) = [102, 108, 111, 111, 100] then (7 : Int) else if ([108, 105, 110, 107] : List UInt8) = [118, 114, 102] then (8 : Int) else if ([108, 105, 110, 107] : List UInt8) = [105, 114, 98] then (9 : Int) else 0) = 3 by decide]
  simp (disch:=first|omega|(simp only[pvl];omega)) only [↓pvd,pva,pvr,bin2,binB2,un1,setCells,List.map,seval,reduceCtorEq,unr_s,unrT_e,Tryz.c46b0,ne_1_3,ne_2_3]
  (refine Ends_rq [] ?_; simp (disch:=first|omega|(simp only[pvl];omega)) only [↓pvd,pva,pvr,bin2,binB2,un1,setCells,List.map,seval,reduceCtorEq]; exact ⟨_,rfl,rfl,rfl⟩)
 have g2 : decide (([108, 105, 110, 107] : List UInt8) = s) = false:=decide_eq_false (fun e=>h2 e.symm)
 by_cases h3 : s = [115, 116, 97, 116, 105, 99]
 ·subst h3
  rw [show (if ([115, 116, 97, 116, 105, 99] : List UInt8) = [100, 101, 118, 105, 99, 101] then (1 : Int) else if ([115, 116, 97, 116, 105, 99] : List UInt8) = [112, 111, 114, 116] then (2 : Int) else if ([115, 116, 97, 116, 105, 99] : List UInt8) = [108, 105, 110, 107] then (3 : Int) else if ([115, 116, 97, 116, 105, 99] : List UInt8) = [115, 116, 97, 116, 105, 99] then (4 : Int) else if ([115, 116, 97, 116, 105, 99] : List UInt8) = [118, 116, 101, 112] then (5 : Int) else if ([115, 116, 97, 116, 105, 99] : List UInt8) = [118, 110, 105] then (6 : Int) else if ([115, 116, 97, 116, 105, 99] : List UInt8) = [102, 108, 111, 111, 100] then (7 : Int) else if ([115, 116, 97, 116, 105, 99] : List UInt8) = [118, 114, 102] then (8 : Int) else if ([115, 116, 97, 116, 105, 99] : List UInt8) = [105, 114, 98] then (9 : Int) else 0) = 4 by decide]
  simp (disch:=first|omega|(simp only[pvl];omega)) only [↓pvd,pva,pvr,bin2,binB2,un1,setCells,List.map,seval,reduceCtorEq,unr_s,unrT_e,Tryz.c46b0,ne_1_4,ne_2_4,ne_3_4]
  (refine Ends_rq [] ?_; simp (disch:=first|omega|(simp only[pvl];omega)) only [↓pvd,pva,pvr,bin2,binB2,un1,setCells,List.map,seval,reduceCtorEq]; exact ⟨_,rfl,rfl,rfl⟩)
 have g3 : decide (([115, 116, 97, 116, 105, 99] : List UInt8) = s) = false:=decide_eq_false (fun e=>h3 e.symm)
 by_cases h4 : s = [118, 116, 101, 112]
 ·subst h4
  rw [show (if ([118, 116, 101, 112] : List UInt8) = [100, 101, 118, 105, 99, 101] then (1 : Int) else if ([118, 116, 101, 112] : List UInt8) = [112, 111, 114, 116] then (2 : Int) else if ([118, 116, 101, 112] : List UInt8) = [108, 105, 110, 107] then (3 : Int) else if ([118, 116, 101, 112] : List UInt8) = [115, 116, 97, 116, 105, 99] then (4 : Int) else if ([118, 116, 101, 112] : List UInt8) = [118, 116, 101, 112] then (5 : Int) else if ([118, 116, 101, 112] : List UInt8) = [118, 110, 105] then (6 : Int) else if ([118, 116, 101, 112] : List UInt8) = [102, 108, 111, 111, 100] then (7 : Int) else if ([118, 116, 101, 112] : List UInt8) = [118, 114, 102] then (8 : Int) else if ([118, 116, 101, 112] : List UInt8) = [105, 114, 98] then (9 : Int) else 0) = 5 by decide]
  simp (disch:=first|omega|(simp only[pvl];omega)) only [↓pvd,pva,pvr,bin2,binB2,un1,setCells,List.map,seval,reduceCtorEq,unr_s,unrT_e,Tryz.c46b0,ne_1_5,ne_2_5,ne_3_5,ne_4_5]
  (refine Ends_rq [] ?_; simp (disch:=first|omega|(simp only[pvl];omega)) only [↓pvd,pva,pvr,bin2,binB2,un1,setCells,List.map,seval,reduceCtorEq]; exact ⟨_,rfl,rfl,rfl⟩)
 have g4 : decide (([118, 116, 101, 112] : List UInt8) = s) = false:=decide_eq_false (fun e=>h4 e.symm)
 by_cases h5 : s = [118, 110, 105]
 ·subst h5
  rw [show (if ([118, 110, 105] : List UInt8) = [100, 101, 118, 105, 99, 101] then (1 : Int) else if ([118, 110, 105] : List UInt8) = [112, 111, 114, 116] then (2 : Int) else if ([118, 110, 105] : List UInt8) = [108, 105, 110, 107] then (3 : Int) else if ([118, 110, 105] : List UInt8) = [115, 116, 97, 116, 105, 99] then (4 : Int) else if ([118, 110, 105] : List UInt8) = [118, 116, 101, 112] then (5 : Int) else if ([118, 110, 105] : List UInt8) = [118, 110, 105] then (6 : Int) else if ([118, 110, 105] : List UInt8) = [102, 108, 111, 111, 100] then (7 : Int) else if ([118, 110, 105] : List UInt8) = [118, 114, 102] then (8 : Int) else if ([118, 110, 105] : List UInt8) = [105, 114, 98] then (9 : Int) else 0) = 6 by decide]
  simp (disch:=first|omega|(simp only[pvl];omega)) only [↓pvd,pva,pvr,bin2,binB2,un1,setCells,List.map,seval,reduceCtorEq,unr_s,unrT_e,Tryz.c46b0,ne_1_6,ne_2_6,ne_3_6,ne_4_6,ne_5_6]
  (refine Ends_rq [] ?_; simp (disch:=first|omega|(simp only[pvl];omega)) only [↓pvd,pva,pvr,bin2,binB2,un1,setCells,List.map,seval,reduceCtorEq]; exact ⟨_,rfl,rfl,rfl⟩)
 have g5 : decide (([118, 110, 105] : List UInt8) = s) = false:=decide_eq_false (fun e=>h5 e.symm)
 by_cases h6 : s = [102, 108, 111, 111, 100]
 ·subst h6
  rw [show (if ([102, 108, 111, 111, 100] : List UInt8) = [100, 101, 118, 105, 99, 101] then (1 : Int) else if ([102, 108, 111, 111, 100] : List UInt8) = [112, 111, 114, 116] then (2 : Int) else if ([102, 108, 111, 111, 100] : List UInt8) = [108, 105, 110, 107] then (3 : Int) else if ([102, 108, 111, 111, 100] : List UInt8) = [115, 116, 97, 116, 105, 99] then (4 : Int) else if ([102, 108, 111, 111, 100] : List UInt8) = [118, 116, 101, 112] then (5 : Int) else if ([102, 108, 111, 111, 100] : List UInt8) = [118, 110, 105] then (6 : Int) else if ([102, 108, 111, 111, 100] : List UInt8) = [102, 108, 111, 111, 100] then (7 : Int) else if ([102, 108, 111, 111, 100] : List UInt8) = [118, 114, 102] then (8 : Int) else if ([102, 108, 111, 111, 100] : List UInt8) = [105, 114, 98] then (9 : Int) else 0) = 7 by decide]
  simp (disch:=first|omega|(simp only[pvl];omega)) only [↓pvd,pva,pvr,bin2,binB2,un1,setCells,List.map,seval,reduceCtorEq,unr_s,unrT_e,Tryz.c46b0,ne_1_7,ne_2_7,ne_3_7,ne_4_7,ne_5_7,ne_6_7]
  (refine Ends_rq [] ?_; simp (disch:=first|omega|(simp only[pvl];omega)) only [↓pvd,pva,pvr,bin2,binB2,un1,setCells,List.map,seval,reduceCtorEq]; exact ⟨_,rfl,rfl,rfl⟩)
 have g6 : decide (([102, 108, 111, 111, 100] : List UInt8) = s) = false:=decide_eq_false (fun e=>h6 e.symm)
 by_cases h7 : s = [118, 114, 102]
 ·subst h7
  rw [show (if ([118, 114, 102] : List UInt8) = [100, 101, 118, 105, 99, 101] then (1 : Int) else if ([118, 114, 102] : List UInt8) = [112, 111, 114, 116] then (2 : Int) else if ([118, 114, 102] : List UInt8) = [108, 105, 110, 107] then (3 : Int) else if ([118, 114, 102] : List UInt8) = [115, 116, 97, 116, 105, 99] then (4 : Int) else if ([118, 114, 102] : List UInt8) = [118, 116, 101, 112] then (5 : Int) else if ([118, 114, 102] : List UInt8) = [118, 110, 105] then (6 : Int) else if ([118, 114, 102] : List UInt8) = [102, 108, 111, 111, 100] then (7 : Int) else if ([118, 114, 102] : List UInt8) = [118, 114, 102] then (8 : Int) else if ([118, 114, 102] : List UInt8) = [105, 114, 98] then (9 : Int) else 0) = 8 by decide]
  simp (disch:=first|omega|(simp only[pvl];omega)) only [↓pvd,pva,pvr,bin2,binB2,un1,setCells,List.map,seval,reduceCtorEq,unr_s,unrT_e,Tryz.c46b0,ne_1_8,ne_2_8,ne_3_8,ne_4_8,ne_5_8,ne_6_8,ne_7_8]
  (refine Ends_rq [] ?_; simp (disch:=first|omega|(simp only[pvl];omega)) only [↓pvd,pva,pvr,bin2,binB2,un1,setCells,List.map,seval,reduceCtorEq]; exact ⟨_,rfl,rfl,rfl⟩)
 have g7 : decide (([118, 114, 102] : List UInt8) = s) = false:=decide_eq_false (fun e=>h7 e.symm)
 by_cases h8 : s = [105, 114, 98]
 ·subst h8
  rw [show (if ([105, 114, 98] : List UInt8) = [100, 101, 118, 105, 99, 101] then (1 : Int) else if ([105, 114, 98] : List UInt8) = [112, 111, 114, 116] then (2 : Int) else if ([105, 114, 98] : List UInt8) = [108, 105, 110, 107] then (3 : Int) else if ([105, 114, 98] : List UInt8) = [115, 116, 97, 116, 105, 99] then (4 : Int) else if ([105, 114, 98] : List UInt8) = [118, 116, 101, 112] then (5 : Int) else if ([105, 114, 98] : List UInt8) = [118, 110, 105] then (6 : Int) else if ([105, 114, 98] : List UInt8) = [102, 108, 111, 111, 100] then (7 : Int) else if ([105, 114, 98] : List UInt8) = [118, 114, 102] then (8 : Int) else if ([105, 114, 98] : List UInt8) = [105, 114, 98] then (9 : Int) else 0) = 9 by decide]
  simp (disch:=first|omega|(simp only[pvl];omega)) only [↓pvd,pva,pvr,bin2,binB2,un1,setCells,List.map,seval,reduceCtorEq,unr_s,unrT_e,Tryz.c46b0,ne_1_9,ne_2_9,ne_3_9,ne_4_9,ne_5_9,ne_6_9,ne_7_9,ne_8_9]
  (refine Ends_rq [] ?_; simp (disch:=first|omega|(simp only[pvl];omega)) only [↓pvd,pva,pvr,bin2,binB2,un1,setCells,List.map,seval,reduceCtorEq]; exact ⟨_,rfl,rfl,rfl⟩)
 have g8 : decide (([105, 114, 98] : List UInt8) = s) = false:=decide_eq_false (fun e=>h8 e.symm)
 rw [if_neg h0, if_neg h1, if_neg h2, if_neg h3, if_neg h4, if_neg h5, if_neg h6, if_neg h7, if_neg h8]
 simp (disch:=first|omega|(simp only[pvl];omega)) only [↓pvd,pva,pvr,bin2,binB2,un1,setCells,List.map,seval,reduceCtorEq,unr_s,unrT_e,Tryz.c46b0,g0,g1,g2,g3,g4,g5,g6,g7,g8]
 (refine Ends_rq [] ?_; simp (disch:=first|omega|(simp only[pvl];omega)) only [↓pvd,pva,pvr,bin2,binB2,un1,setCells,List.map,seval,reduceCtorEq]; exact ⟨_,rfl,rfl,rfl⟩)
theorem rstation_run (m : Int) (h : 0 ≤ m) (h' : m < 18446744073709551616) : Run Tryz.prog 78 [.int .u64 m] (.bool (stn m)):=by
 have q1:=Mc.ref_ishost_run m h h'
 have q2:=Mc.ref_group_run m h h'
 refine Tryz.run78 (by simp) ?_
 unfold Tryz.c78 stn
 generalize (Mc.ish m).1 = x at *
 generalize (Mc.ish m).2 = b at *
 generalize decide (m / 1099511627776 % 2 = 1) = g at *
 by_cases hm : m ≤ 281474976710655
 ·rw [decide_eq_true hm]
  cases b
  ·repeat' (first | (simp (disch:=first|omega|(simp only[pvl];omega)) only [↓pvd,pva,pvr,bin2,binB2,un1,setCells,List.map,seval,reduceCtorEq,still]) | (with_reducible first|refine condP_d (fun _=>?_) (fun _=>?_)|refine guardP_d0 (fun _=>?_) (fun _=>?_)|refine guardP_d1 (fun _=>?_) (fun _=>?_)|refine condP_any ?_ ?_) | refine awR_call q1 rfl rfl ?_ | refine awR_callD q1 rfl rfl (fun _=>rfl) ?_ | refine awR_call q2 rfl rfl ?_ | refine awR_callD q2 rfl rfl (fun _=>rfl) ?_ | (refine Ends_rq [] ?_; simp (disch:=first|omega|(simp only[pvl];omega)) only [↓pvd,pva,pvr,bin2,binB2,un1,setCells,List.map,seval,reduceCtorEq]; exact ⟨_,rfl,rfl,rfl⟩))
  ·repeat' (first | (simp (disch:=first|omega|(simp only[pvl];omega)) only [↓pvd,pva,pvr,bin2,binB2,un1,setCells,List.map,seval,reduceCtorEq,still]) | (with_reducible first|refine condP_d (fun _=>?_) (fun _=>?_)|refine guardP_d0 (fun _=>?_) (fun _=>?_)|refine guardP_d1 (fun _=>?_) (fun _=>?_)|refine condP_any ?_ ?_) | refine awR_call q1 rfl rfl ?_ | refine awR_callD q1 rfl rfl (fun _=>rfl) ?_ | refine awR_call q2 rfl rfl ?_ | refine awR_callD q2 rfl rfl (fun _=>rfl) ?_ | (refine Ends_rq [] ?_; simp (disch:=first|omega|(simp only[pvl];omega)) only [↓pvd,pva,pvr,bin2,binB2,un1,setCells,List.map,seval,reduceCtorEq]; exact ⟨_,rfl,rfl,rfl⟩))
 ·rw [decide_eq_false hm]
  repeat' (first | (simp (disch:=first|omega|(simp only[pvl];omega)) only [↓pvd,pva,pvr,bin2,binB2,un1,setCells,List.map,seval,reduceCtorEq,still]) | (with_reducible first|refine condP_d (fun _=>?_) (fun _=>?_)|refine guardP_d0 (fun _=>?_) (fun _=>?_)|refine guardP_d1 (fun _=>?_) (fun _=>?_)|refine condP_any ?_ ?_) | refine awR_call q1 rfl rfl ?_ | refine awR_callD q1 rfl rfl (fun _=>rfl) ?_ | refine awR_call q2 rfl rfl ?_ | refine awR_callD q2 rfl rfl (fun _=>rfl) ?_ | (refine Ends_rq [] ?_; simp (disch:=first|omega|(simp only[pvl];omega)) only [↓pvd,pva,pvr,bin2,binB2,un1,setCells,List.map,seval,reduceCtorEq]; exact ⟨_,rfl,rfl,rfl⟩))
theorem rsubnet_run (a b : Int) (ha : 0 ≤ a ∧ a ≤ 4294967295) : Run Tryz.prog 83 [pfx a b] (.bool (sbF a b)):=by
 have q1:=ref_first_run a b ha
 have q2:=ref_last_run a b ha
 refine Tryz.run83 (by simp) ?_
 unfold Tryz.c83 sbF
 generalize firstF a b = x at *
 generalize lastF a b = y at *
 by_cases h1 : 1 ≤ b
 ·by_cases h2 : b ≤ 30
  ·rw [decide_eq_true ⟨h1, h2⟩]
   by_cases h3 : a = x
   ·have d3:=decide_eq_true h3
    rw [d3]
    repeat' (first | (simp (disch:=first|omega|(simp only[pvl];omega)) only [↓pvd,pva,pvr,bin2,binB2,un1,setCells,List.map,seval,reduceCtorEq,d3,still]) | (with_reducible first|refine condP_d (fun _=>?_) (fun _=>?_)|refine guardP_d0 (fun _=>?_) (fun _=>?_)|refine guardP_d1 (fun _=>?_) (fun _=>?_)|refine condP_any ?_ ?_) | refine awR_callD q1 rfl rfl (fun _=>rfl) ?_ | refine awR_callD q2 rfl rfl (fun _=>rfl) ?_ | (refine Ends_rq [] ?_; simp (disch:=first|omega|(simp only[pvl];omega)) only [↓pvd,pva,pvr,bin2,binB2,un1,setCells,List.map,seval,reduceCtorEq]; exact ⟨_,rfl,rfl,rfl⟩))
   ·have d3:=decide_eq_false h3
    rw [d3]
    by_cases h4 : a = y
    ·have d4:=decide_eq_true h4
     rw [d4]
     repeat' (first | (simp (disch:=first|omega|(simp only[pvl];omega)) only [↓pvd,pva,pvr,bin2,binB2,un1,setCells,List.map,seval,reduceCtorEq,d3,d4,still]) | (with_reducible first|refine condP_d (fun _=>?_) (fun _=>?_)|refine guardP_d0 (fun _=>?_) (fun _=>?_)|refine guardP_d1 (fun _=>?_) (fun _=>?_)|refine condP_any ?_ ?_) | refine awR_callD q1 rfl rfl (fun _=>rfl) ?_ | refine awR_callD q2 rfl rfl (fun _=>rfl) ?_ | (refine Ends_rq [] ?_; simp (disch:=first|omega|(simp only[pvl];omega)) only [↓pvd,pva,pvr,bin2,binB2,un1,setCells,List.map,seval,reduceCtorEq]; exact ⟨_,rfl,rfl,rfl⟩))
    ·have d4:=decide_eq_false h4
     rw [d4]
     repeat' (first | (simp (disch:=first|omega|(simp only[pvl];omega)) only [↓pvd,pva,pvr,bin2,binB2,un1,setCells,List.map,seval,reduceCtorEq,d3,d4,still]) | (with_reducible first|refine condP_d (fun _=>?_) (fun _=>?_)|refine guardP_d0 (fun _=>?_) (fun _=>?_)|refine guardP_d1 (fun _=>?_) (fun _=>?_)|refine condP_any ?_ ?_) | refine awR_callD q1 rfl rfl (fun _=>rfl) ?_ | refine awR_callD q2 rfl rfl (fun _=>rfl) ?_ | (refine Ends_rq [] ?_; simp (disch:=first|omega|(simp only[pvl];omega)) only [↓pvd,pva,pvr,bin2,binB2,un1,setCells,List.map,seval,reduceCtorEq]; exact ⟨_,rfl,rfl,rfl⟩))
  ·rw [decide_eq_false (fun h=>h2 h.2)]
   simp (disch:=first|omega|(simp only[pvl] at *;omega)) only [↓pvd,pva,pvr,bin2,binB2,un1,setCells,List.map,seval,reduceCtorEq]
   (refine Ends_rq [] ?_; simp (disch:=first|omega|(simp only[pvl];omega)) only [↓pvd,pva,pvr,bin2,binB2,un1,setCells,List.map,seval,reduceCtorEq]; exact ⟨_,rfl,rfl,rfl⟩)
 ·rw [decide_eq_false (fun h=>h1 h.1)]
  simp (disch:=first|omega|(simp only[pvl] at *;omega)) only [↓pvd,pva,pvr,bin2,binB2,un1,setCells,List.map,seval,reduceCtorEq]
  (refine Ends_rq [] ?_; simp (disch:=first|omega|(simp only[pvl];omega)) only [↓pvd,pva,pvr,bin2,binB2,un1,setCells,List.map,seval,reduceCtorEq]; exact ⟨_,rfl,rfl,rfl⟩)
theorem slV_ls {s : List UInt8} {b : Int} (h : lsG s b = true) : slV ((sc s).map fun p=>(gI 1 b p).1) = .sl 1 (((sc s).map fun p=>(gI 1 b p).1).map (.int .i64)) false:=by
 unfold slV
 rw [if_neg (by simpa using sc_ne s)]
theorem rlist_run (s : List UInt8) (b : Int) (hs : s.length ≤ 1000) : Run Tryz.prog 79 [.str s, .int .i64 b] (.tup [slV (lsV s b), .bool (!lsB s b)]):=by
 have q:=run_frz (rrdlist_run s 1 b hs)
 refine Tryz.run79 (by simp) ?_
 unfold Tryz.c79 lsV lsB
 by_cases h1 : s = [45]
 ·subst h1
  rw [if_pos rfl, decide_eq_true rfl, show slV [] = .sl 0 [] true from if_pos rfl]
  simp (disch:=first|omega|(simp only[pvl] at *;omega)) only [↓pvd,pva,pvr,bin2,binB2,un1,setCells,List.map,seval,reduceCtorEq]
  (refine Ends_rq [] ?_; simp (disch:=first|omega|(simp only[pvl];omega)) only [↓pvd,pva,pvr,bin2,binB2,un1,setCells,List.map,seval,reduceCtorEq]; exact ⟨_,rfl,rfl,rfl⟩)
 ·have d1:=decide_eq_false h1
  rw [if_neg h1, d1]
  by_cases h2 : lsG s b = true
  ·have h2' : rlF (gI 1 b) (sc s) = true:=h2
   rw [rlR_yes h2'] at q
   rw [if_pos h2, slV_ls h2, h2]
   simp only [frz,frzA,frzC,List.map_cons,List.map_nil] at q
   generalize ((sc s).map fun p=>(gI 1 b p).1).map (AV.int .i64) = es at *
   simp (disch:=first|omega|(simp only[pvl];omega)) only [↓pvd,pva,pvr,bin2,binB2,un1,setCells,List.map,seval,reduceCtorEq,d1]
   refine awR_call q rfl rfl ?_
   simp (disch:=first|omega|(simp only[pvl] at *;omega)) only [↓pvd,pva,pvr,bin2,binB2,un1,setCells,List.map,seval,reduceCtorEq]
   (refine Ends_rq [] ?_; simp (disch:=first|omega|(simp only[pvl];omega)) only [↓pvd,pva,pvr,bin2,binB2,un1,setCells,List.map,seval,reduceCtorEq]; exact ⟨_,rfl,rfl,rfl⟩)
  ·have h2' : ¬ rlF (gI 1 b) (sc s) = true:=h2
   rw [rlR_no h2'] at q
   rw [if_neg h2, show lsG s b = false by simpa using h2, show slV [] = .sl 0 [] true from if_pos rfl]
   simp only [frz,frzA,frzC,List.map_cons,List.map_nil] at q
   simp (disch:=first|omega|(simp only[pvl];omega)) only [↓pvd,pva,pvr,bin2,binB2,un1,setCells,List.map,seval,reduceCtorEq,d1]
   refine awR_call q rfl rfl ?_
   simp (disch:=first|omega|(simp only[pvl] at *;omega)) only [↓pvd,pva,pvr,bin2,binB2,un1,setCells,List.map,seval,reduceCtorEq]
   (refine Ends_rq [] ?_; simp (disch:=first|omega|(simp only[pvl];omega)) only [↓pvd,pva,pvr,bin2,binB2,un1,setCells,List.map,seval,reduceCtorEq]; exact ⟨_,rfl,rfl,rfl⟩)
theorem rname0 (s : List UInt8) (r k : Int) (a1 a2 a3 a4 a5 : List UInt8) (b1 b2 b3 b4 b5 b6 : Int) (t im ex ad : AV) (A : Option Ent) (T : Hp) : Gen Tryz.prog 75 [.str s, .int .i64 0, .eptr 1 0 0] (A :: lno (⟨r, k, a1, a2, a3, a4, a5, b1, b2, b3, b4, b5, b6⟩ : Ln) t im ex ad :: T) (.tup []) (A :: lno (⟨r, k, s, a2, a3, a4, a5, b1, b2, b3, b4, b5, b6⟩ : Ln) t im ex ad :: T):=by
 refine Tryz.gen75 (by simp) ?_
 unfold Tryz.g75 lno lnA
 simp (disch:=first|omega|(simp only[pvl];omega)) only [↓pvd,pva,pvr,bin2,binB2,un1,setCells,List.map,seval,reduceCtorEq,true_and]
 exact ⟨rfl, rfl⟩
theorem rname1 (s : List UInt8) (r k : Int) (a1 a2 a3 a4 a5 : List UInt8) (b1 b2 b3 b4 b5 b6 : Int) (t im ex ad : AV) (A : Option Ent) (T : Hp) (h8 : k ≠ 8) (h9 : k ≠ 9) : Gen Tryz.prog 75 [.str s, .int .i64 1, .eptr 1 0 0] (A :: lno (⟨r, k, a1, a2, a3, a4, a5, b1, b2, b3, b4, b5, b6⟩ : Ln) t im ex ad :: T) (.tup []) (A :: lno (⟨r, k, a1, s, a3, a4, a5, b1, b2, b3, b4, b5, b6⟩ : Ln) t im ex ad :: T):=by
 refine Tryz.gen75 (by simp) ?_
 unfold Tryz.g75 lno lnA
 simp (disch:=first|omega|(simp only[pvl];omega)) only [↓pvd,pva,pvr,bin2,binB2,un1,setCells,List.map,seval,reduceCtorEq,h8,h9]
 exact ⟨rfl, rfl⟩
theorem rname2 (s : List UInt8) (r k : Int) (a1 a2 a3 a4 a5 : List UInt8) (b1 b2 b3 b4 b5 b6 : Int) (t im ex ad : AV) (A : Option Ent) (T : Hp) (h8 : k ≠ 8) (h9 : k ≠ 9) : Gen Tryz.prog 75 [.str s, .int .i64 2, .eptr 1 0 0] (A :: lno (⟨r, k, a1, a2, a3, a4, a5, b1, b2, b3, b4, b5, b6⟩ : Ln) t im ex ad :: T) (.tup []) (A :: lno (⟨r, k, a1, a2, s, a4, a5, b1, b2, b3, b4, b5, b6⟩ : Ln) t im ex ad :: T):=by
 refine Tryz.gen75 (by simp) ?_
 unfold Tryz.g75 lno lnA
 simp (disch:=first|omega|(simp only[pvl];omega)) only [↓pvd,pva,pvr,bin2,binB2,un1,setCells,List.map,seval,reduceCtorEq,h8,h9]
 exact ⟨rfl, rfl⟩
theorem rname3 (s : List UInt8) (r k : Int) (a1 a2 a3 a4 a5 : List UInt8) (b1 b2 b3 b4 b5 b6 : Int) (t im ex ad : AV) (A : Option Ent) (T : Hp) (h8 : k ≠ 8) (h9 : k ≠ 9) : Gen Tryz.prog 75 [.str s, .int .i64 3, .eptr 1 0 0] (A :: lno (⟨r, k, a1, a2, a3, a4, a5, b1, b2, b3, b4, b5, b6⟩ : Ln) t im ex ad :: T) (.tup []) (A :: lno (⟨r, k, a1, a2, a3, s, a5, b1, b2, b3, b4, b5, b6⟩ : Ln) t im ex ad :: T):=by
 refine Tryz.gen75 (by simp) ?_
 unfold Tryz.g75 lno lnA
 simp (disch:=first|omega|(simp only[pvl];omega)) only [↓pvd,pva,pvr,bin2,binB2,un1,setCells,List.map,seval,reduceCtorEq,h8,h9]
 exact ⟨rfl, rfl⟩
theorem rname8 (s : List UInt8) (at' : Int) (h0 : at' ≠ 0) (r k : Int) (a1 a2 a3 a4 a5 : List UInt8) (b1 b2 b3 b4 b5 b6 : Int) (t im ex ad : AV) (A : Option Ent) (T : Hp) (hk : k = 8 ∨ k = 9) : Gen Tryz.prog 75 [.str s, .int .i64 at', .eptr 1 0 0] (A :: lno (⟨r, k, a1, a2, a3, a4, a5, b1, b2, b3, b4, b5, b6⟩ : Ln) t im ex ad :: T) (.tup []) (A :: lno (⟨r, k, a1, a2, a3, a4, s, b1, b2, b3, b4, b5, b6⟩ : Ln) t im ex ad :: T):=by
 refine Tryz.gen75 (by simp) ?_
 unfold Tryz.g75 lno lnA
 rcases hk with rfl | rfl
 all_goals simp (disch:=first|omega|(simp only[pvl];omega)) only [↓pvd,pva,pvr,bin2,binB2,un1,setCells,List.map,seval,reduceCtorEq,h0]
 all_goals exact ⟨rfl, rfl⟩
theorem rwordN (s : List UInt8) (at' : Int) (hs : s.length ≤ 1000) (A : Option Ent) (l l' : Ln) (t im ex ad : AV) (T : Hp) (hn : Gen Tryz.prog 75 [.str s, .int .i64 at', .eptr 1 0 0] (A :: lno l t im ex ad :: T) (.tup []) (A :: lno l' t im ex ad :: T)) :
  Gen Tryz.prog 47 [.int .u8 78, .str s, .int .i64 at', .eptr 1 0 0] (A :: lno l t im ex ad :: T) (.int .i64 (if nmO s = true then 0 else 20)) (A :: lno (if nmO s = true then l' else l) t im ex ad :: T):=by
 have q : Run Tryz.prog 74 [.str s] (.bool (nmO s)):=Nm.rname_run s (by omega)
 generalize nmO s = b at *
 refine Tryz.gen47 (by simp) ?_
 unfold Tryz.g47
 simp (disch:=first|omega|(simp only[pvl];omega)) only [↓pvd,pva,pvr,bin2,binB2,un1,setCells,List.map,seval,reduceCtorEq,true_and]
 refine awR_call q rfl rfl ?_
 cases b
 ·simp (disch:=first|omega|(simp only[pvl];omega)) only [↓pvd,pva,pvr,bin2,binB2,un1,setCells,List.map,seval,reduceCtorEq,true_and]
  exact ⟨rfl, rfl⟩
 ·simp (disch:=first|omega|(simp only[pvl];omega)) only [↓pvd,pva,pvr,bin2,binB2,un1,setCells,List.map,seval,reduceCtorEq,true_and]
  refine awR_callG hn ?_
  simp (disch:=first|omega|(simp only[pvl];omega)) only [↓pvd,pva,pvr,bin2,binB2,un1,setCells,List.map,seval,reduceCtorEq,true_and]
  exact ⟨rfl, rfl⟩
theorem rwordK (s : List UInt8) (at' : Int) (A : Option Ent) (L : Option Ent) (T : Hp) : Gen Tryz.prog 47 [.int .u8 75, .str s, .int .i64 at', .eptr 1 0 0] (A :: L :: T) (.int .i64 (if s = [97, 99, 99, 101, 115, 115] ∨ s = [116, 114, 117, 110, 107] then 0 else 20)) (A :: L :: T):=by
 refine Tryz.gen47 (by simp) ?_
 unfold Tryz.g47
 by_cases ha : s = [97, 99, 99, 101, 115, 115]
 ·have da:=decide_eq_true ha
  rw [if_pos (.inl ha)]
  simp (disch:=first|omega|(simp only[pvl];omega)) only [↓pvd,pva,pvr,bin2,binB2,un1,setCells,List.map,seval,reduceCtorEq,da]
  exact ⟨rfl, rfl⟩
 ·have da:=decide_eq_false ha
  by_cases hb : s = [116, 114, 117, 110, 107]
  ·have db:=decide_eq_true hb
   rw [if_pos (.inr hb)]
   simp (disch:=first|omega|(simp only[pvl];omega)) only [↓pvd,pva,pvr,bin2,binB2,un1,setCells,List.map,seval,reduceCtorEq,da,db]
   exact ⟨rfl, rfl⟩
  ·have db:=decide_eq_false hb
   rw [if_neg (fun h=>h.elim ha hb)]
   simp (disch:=first|omega|(simp only[pvl];omega)) only [↓pvd,pva,pvr,bin2,binB2,un1,setCells,List.map,seval,reduceCtorEq,da,db]
   exact ⟨rfl, rfl⟩
theorem rwordP (s : List UInt8) (at' : Int) (hs : s.length ≤ 1000) (r k : Int) (a1 a2 a3 a4 a5 : List UInt8) (b1 b2 b3 b4 b5 b6 : Int) (t im ex ad : AV) (A : Option Ent) (T : Hp) : Gen Tryz.prog 47 [.int .u8 80, .str s, .int .i64 at', .eptr 1 0 0] (A :: lno (⟨r, k, a1, a2, a3, a4, a5, b1, b2, b3, b4, b5, b6⟩ : Ln) t im ex ad :: T) (.int .i64 (if (Nm.rdF s 0 65535).2 = true then 0 else 21)) (A :: lno (⟨r, k, a1, a2, a3, a4, a5, b1, b2, b3, b4, nu s 0 65535, b6⟩ : Ln) t im ex ad :: T):=by
 have q:=Nm.rread_run s 0 65535 (by omega)
 unfold Nm.rdR at q
 unfold nu
 generalize (Nm.rdF s 0 65535).1 = n at *
 generalize (Nm.rdF s 0 65535).2 = ok at *
 refine Tryz.gen47 (by simp) ?_
 unfold Tryz.g47 lno lnA
 simp (disch:=first|omega|(simp only[pvl];omega)) only [↓pvd,pva,pvr,bin2,binB2,un1,setCells,List.map,seval,reduceCtorEq,true_and]
 refine awR_call q rfl rfl ?_
 cases ok
 all_goals simp (disch:=first|omega|(simp only[pvl];omega)) only [↓pvd,pva,pvr,bin2,binB2,un1,setCells,List.map,seval,reduceCtorEq,true_and]
 all_goals exact ⟨rfl, rfl⟩
theorem rwordC (s : List UInt8) (at' : Int) (hs : s.length ≤ 1000) (r k : Int) (a1 a2 a3 a4 a5 : List UInt8) (b1 b2 b3 b4 b5 b6 : Int) (t im ex ad : AV) (A : Option Ent) (T : Hp) : Gen Tryz.prog 47 [.int .u8 67, .str s, .int .i64 at', .eptr 1 0 0] (A :: lno (⟨r, k, a1, a2, a3, a4, a5, b1, b2, b3, b4, b5, b6⟩ : Ln) t im ex ad :: T) (.int .i64 (if (Nm.rdF s 1 65535).2 = true then 0 else 21)) (A :: lno (⟨r, k, a1, a2, a3, a4, a5, b1, b2, b3, b4, b5, nu s 1 65535⟩ : Ln) t im ex ad :: T):=by
 have q:=Nm.rread_run s 1 65535 (by omega)
 unfold Nm.rdR at q
 unfold nu
 generalize (Nm.rdF s 1 65535).1 = n at *
 generalize (Nm.rdF s 1 65535).2 = ok at *
 refine Tryz.gen47 (by simp) ?_
 unfold Tryz.g47 lno lnA
 simp (disch:=first|omega|(simp only[pvl];omega)) only [↓pvd,pva,pvr,bin2,binB2,un1,setCells,List.map,seval,reduceCtorEq,true_and]
 refine awR_call q rfl rfl ?_
 cases ok
 all_goals simp (disch:=first|omega|(simp only[pvl];omega)) only [↓pvd,pva,pvr,bin2,binB2,un1,setCells,List.map,seval,reduceCtorEq,true_and]
 all_goals exact ⟨rfl, rfl⟩
theorem rwordV (s : List UInt8) (at' : Int) (hs : s.length ≤ 1000) (r k : Int) (a1 a2 a3 a4 a5 : List UInt8) (b1 b2 b3 b4 b5 b6 : Int) (t im ex ad : AV) (A : Option Ent) (T : Hp) : Gen Tryz.prog 47 [.int .u8 86, .str s, .int .i64 at', .eptr 1 0 0] (A :: lno (⟨r, k, a1, a2, a3, a4, a5, b1, b2, b3, b4, b5, b6⟩ : Ln) t im ex ad :: T) (.int .i64 (if (Nm.rdF s 1 4094).2 = true then 0 else 21)) (A :: lno (⟨r, k, a1, a2, a3, a4, a5, b1, b2, b3, nu s 1 4094, b5, b6⟩ : Ln) t im ex ad :: T):=by
 have q:=Nm.rread_run s 1 4094 (by omega)
 unfold Nm.rdR at q
 unfold nu
 generalize (Nm.rdF s 1 4094).1 = n at *
 generalize (Nm.rdF s 1 4094).2 = ok at *
 refine Tryz.gen47 (by simp) ?_
 unfold Tryz.g47 lno lnA
 simp (disch:=first|omega|(simp only[pvl];omega)) only [↓pvd,pva,pvr,bin2,binB2,un1,setCells,List.map,seval,reduceCtorEq,true_and]
 refine awR_call q rfl rfl ?_
 cases ok
 all_goals simp (disch:=first|omega|(simp only[pvl];omega)) only [↓pvd,pva,pvr,bin2,binB2,un1,setCells,List.map,seval,reduceCtorEq,true_and]
 all_goals exact ⟨rfl, rfl⟩
theorem rwordI (s : List UInt8) (at' : Int) (hs : s.length ≤ 1000) (r k : Int) (a1 a2 a3 a4 a5 : List UInt8) (b1 b2 b3 b4 b5 b6 : Int) (t im ex ad : AV) (A : Option Ent) (T : Hp) : Gen Tryz.prog 47 [.int .u8 73, .str s, .int .i64 at', .eptr 1 0 0] (A :: lno (⟨r, k, a1, a2, a3, a4, a5, b1, b2, b3, b4, b5, b6⟩ : Ln) t im ex ad :: T) (.int .i64 (if (Nm.rdF s 1 16777215).2 = true then 0 else 21)) (A :: lno (⟨r, k, a1, a2, a3, a4, a5, b1, b2, b3, b4, nu s 1 16777215, b6⟩ : Ln) t im ex ad :: T):=by
 have q:=Nm.rread_run s 1 16777215 (by omega)
 unfold Nm.rdR at q
 unfold nu
 generalize (Nm.rdF s 1 16777215).1 = n at *
 generalize (Nm.rdF s 1 16777215).2 = ok at *
 refine Tryz.gen47 (by simp) ?_
 unfold Tryz.g47 lno lnA
 simp (disch:=first|omega|(simp only[pvl];omega)) only [↓pvd,pva,pvr,bin2,binB2,un1,setCells,List.map,seval,reduceCtorEq,true_and]
 refine awR_call q rfl rfl ?_
 cases ok
 all_goals simp (disch:=first|omega|(simp only[pvl];omega)) only [↓pvd,pva,pvr,bin2,binB2,un1,setCells,List.map,seval,reduceCtorEq,true_and]
 all_goals exact ⟨rfl, rfl⟩
theorem rwordM (s : List UInt8) (at' : Int) (hs : s.length ≤ 1000) (r k : Int) (a1 a2 a3 a4 a5 : List UInt8) (b1 b2 b3 b4 b5 b6 : Int) (t im ex ad : AV) (A : Option Ent) (T : Hp) : Gen Tryz.prog 47 [.int .u8 77, .str s, .int .i64 at', .eptr 1 0 0] (A :: lno (⟨r, k, a1, a2, a3, a4, a5, b1, b2, b3, b4, b5, b6⟩ : Ln) t im ex ad :: T) (.int .i64 (if (Mc.rdm s).2 = true ∧ stn (Mc.rdm s).1 = true then 0 else 21)) (A :: lno (⟨r, k, a1, a2, a3, a4, a5, (Mc.rdm s).1, b2, b3, b4, b5, b6⟩ : Ln) t im ex ad :: T):=by
 have q:=Mc.ref_read_run s (by simp only [maxLen]; omega)
 have hb:=rdm_b s
 have q2:=rstation_run (Mc.rdm s).1 hb.1 hb.2
 generalize (Mc.rdm s).1 = n at *
 generalize (Mc.rdm s).2 = ok at *
 generalize stn n = st at *
 refine Tryz.gen47 (by simp) ?_
 unfold Tryz.g47 lno lnA
 simp (disch:=first|omega|(simp only[pvl];omega)) only [↓pvd,pva,pvr,bin2,binB2,un1,setCells,List.map,seval,reduceCtorEq,true_and]
 refine awR_call q rfl rfl ?_
 cases ok
 ·simp (disch:=first|omega|(simp only[pvl];omega)) only [↓pvd,pva,pvr,bin2,binB2,un1,setCells,List.map,seval,reduceCtorEq,true_and]
  exact ⟨rfl, rfl⟩
 ·simp (disch:=first|omega|(simp only[pvl];omega)) only [↓pvd,pva,pvr,bin2,binB2,un1,setCells,List.map,seval,reduceCtorEq,true_and]
  refine awR_call q2 rfl rfl ?_
  cases st
  all_goals simp (disch:=first|omega|(simp only[pvl];omega)) only [↓pvd,pva,pvr,bin2,binB2,un1,setCells,List.map,seval,reduceCtorEq,true_and]
  all_goals exact ⟨rfl, rfl⟩
def wvO (s : List UInt8) : Bool:=(Nm.rdF s 1 4094).2 || decide (s = [45])
theorem rwordW (s : List UInt8) (at' : Int) (hs : s.length ≤ 1000) (r k : Int) (a1 a2 a3 a4 a5 : List UInt8) (b1 b2 b3 b4 b5 b6 : Int) (t im ex ad : AV) (A : Option Ent) (T : Hp) : Gen Tryz.prog 47 [.int .u8 87, .str s, .int .i64 at', .eptr 1 0 0] (A :: lno (⟨r, k, a1, a2, a3, a4, a5, b1, b2, b3, b4, b5, b6⟩ : Ln) t im ex ad :: T) (.int .i64 (if wvO s = true then 0 else 21)) (A :: lno (⟨r, k, a1, a2, a3, a4, a5, b1, b2, b3, nu s 1 4094, b5, b6⟩ : Ln) t im ex ad :: T):=by
 have q:=Nm.rread_run s 1 4094 (by omega)
 unfold Nm.rdR at q
 unfold nu wvO
 generalize (Nm.rdF s 1 4094).1 = n at *
 generalize (Nm.rdF s 1 4094).2 = ok at *
 refine Tryz.gen47 (by simp) ?_
 unfold Tryz.g47 lno lnA
 by_cases hd : s = [45]
 ·have dd:=decide_eq_true hd
  simp (disch:=first|omega|(simp only[pvl];omega)) only [↓pvd,pva,pvr,bin2,binB2,un1,setCells,List.map,seval,reduceCtorEq,true_and]
  refine awR_call q rfl rfl ?_
  cases ok
  all_goals simp (disch:=first|omega|(simp only[pvl];omega)) only [↓pvd,pva,pvr,bin2,binB2,un1,setCells,List.map,seval,reduceCtorEq,dd]
  all_goals exact ⟨rfl, rfl⟩
 ·have dd:=decide_eq_false hd
  simp (disch:=first|omega|(simp only[pvl];omega)) only [↓pvd,pva,pvr,bin2,binB2,un1,setCells,List.map,seval,reduceCtorEq,true_and]
  refine awR_call q rfl rfl ?_
  cases ok
  all_goals simp (disch:=first|omega|(simp only[pvl];omega)) only [↓pvd,pva,pvr,bin2,binB2,un1,setCells,List.map,seval,reduceCtorEq,dd]
  all_goals exact ⟨rfl, rfl⟩
theorem rwordT (s : List UInt8) (at' : Int) (hs : s.length ≤ 1000) (r k : Int) (a1 a2 a3 a4 a5 : List UInt8) (b1 b2 b3 b4 b5 b6 : Int) (t im ex ad : AV) (A : Option Ent) (T : Hp) : Gen Tryz.prog 47 [.int .u8 84, .str s, .int .i64 at', .eptr 1 0 0] (A :: lno (⟨r, k, a1, a2, a3, a4, a5, b1, b2, b3, b4, b5, b6⟩ : Ln) t im ex ad :: T) (.int .i64 (if lsB s 4094 = false then 0 else 21)) (A :: lno (⟨r, k, a1, a2, a3, a4, a5, b1, b2, b3, b4, b5, b6⟩ : Ln) (slV (lsV s 4094)) im ex ad :: T):=by
 have q:=rlist_run s 4094 hs
 obtain ⟨n1, f1, h1, -⟩:=slV_is (lsV s 4094)
 rw [h1] at q ⊢
 generalize (lsV s 4094).map (AV.int .i64) = es at *
 generalize lsB s 4094 = bad at *
 refine Tryz.gen47 (by simp) ?_
 unfold Tryz.g47 lno lnA
 simp (disch:=first|omega|(simp only[pvl];omega)) only [↓pvd,pva,pvr,bin2,binB2,un1,setCells,List.map,seval,reduceCtorEq,true_and]
 refine awR_call q rfl rfl ?_
 cases bad
 all_goals simp (disch:=first|omega|(simp only[pvl];omega)) only [↓pvd,pva,pvr,bin2,binB2,un1,setCells,List.map,seval,reduceCtorEq,true_and]
 all_goals exact ⟨rfl, rfl⟩
theorem rwordR (s : List UInt8) (at' : Int) (hs : s.length ≤ 1000) (n0 : Nat) (e0 : List AV) (f0 : Bool) (r k : Int) (a1 a2 a3 a4 a5 : List UInt8) (b1 b2 b3 b4 b5 b6 : Int) (t im ad : AV) (A : Option Ent) (T : Hp) : Gen Tryz.prog 47 [.int .u8 82, .str s, .int .i64 at', .eptr 1 0 0] (A :: lno (⟨r, k, a1, a2, a3, a4, a5, b1, b2, b3, b4, b5, b6⟩ : Ln) t im (.sl n0 e0 f0) ad :: T) (.int .i64 (if lsB s 65535 = false then 0 else 21)) (A :: lno (⟨r, k, a1, a2, a3, a4, a5, b1, b2, b3, b4, b5, b6⟩ : Ln) t (.sl n0 e0 f0) (slV (lsV s 65535)) ad :: T):=by
 have q:=rlist_run s 65535 hs
 obtain ⟨n1, f1, h1, -⟩:=slV_is (lsV s 65535)
 rw [h1] at q ⊢
 generalize (lsV s 65535).map (AV.int .i64) = es at *
 generalize lsB s 65535 = bad at *
 refine Tryz.gen47 (by simp) ?_
 unfold Tryz.g47 lno lnA
 simp (disch:=first|omega|(simp only[pvl];omega)) only [↓pvd,pva,pvr,bin2,binB2,un1,setCells,List.map,seval,reduceCtorEq,true_and]
 refine awR_call q rfl rfl ?_
 cases bad
 all_goals simp (disch:=first|omega|(simp only[pvl];omega)) only [↓pvd,pva,pvr,bin2,binB2,un1,setCells,List.map,seval,reduceCtorEq,true_and]
 all_goals exact ⟨rfl, rfl⟩
theorem rs_set_end {α : Type _} (T : List α) (e x : α) : (T ++ [e]).set T.length x = T ++ [x]:=by
 rw [List.set_append_right _ _ (Nat.le_refl _)]; simp
theorem rwordA (s : List UInt8) (at' : Int) (hs : s.length ≤ 1000) (r k : Int) (a1 a2 a3 a4 a5 : List UInt8) (b1 b2 b3 b4 b5 b6 : Int) (t im ex ad : AV) (A : Option Ent) (T : Hp) : Gen Tryz.prog 47 [.int .u8 65, .str s, .int .i64 at', .eptr 1 0 0] (A :: lno (⟨r, k, a1, a2, a3, a4, a5, b1, b2, b3, b4, b5, b6⟩ : Ln) t im ex ad :: T) (.int .i64 (if (rdB s).2 = true ∧ (rdB s).1 ≠ 0 then 0 else 21)) (A :: lno (⟨r, k, a1, a2, a3, a4, a5, b1, (rdB s).1, b3, b4, b5, b6⟩ : Ln) t im ex ad :: T):=by
 have q:=ref_read_run s (by omega)
 rw [rdB_eq] at q
 have hb:=rdB_b s
 generalize (rdB s).1 = n at *
 generalize (rdB s).2 = ok at *
 refine Tryz.gen47 (by simp) ?_
 unfold Tryz.g47 lno lnA
 simp (disch:=first|omega|(simp only[pvl];omega)) only [↓pvd,pva,pvr,bin2,binB2,un1,setCells,List.map,seval,reduceCtorEq,true_and]
 refine awR_call q rfl rfl ?_
 cases ok
 ·simp (disch:=first|omega|(simp only[pvl];omega)) only [↓pvd,pva,pvr,bin2,binB2,un1,setCells,List.map,seval,reduceCtorEq,true_and]
  exact ⟨rfl, rfl⟩
 ·by_cases h0 : n = 0
  ·subst h0
   simp (disch:=first|omega|(simp only[pvl];omega)) only [↓pvd,pva,pvr,bin2,binB2,un1,setCells,List.map,seval,reduceCtorEq,true_and]
   exact ⟨rfl, rfl⟩
  ·have hp : 0 < n:=by omega
   rw [if_pos ⟨rfl, h0⟩]
   simp (disch:=first|omega|(simp only[pvl];omega)) only [↓pvd,pva,pvr,bin2,binB2,un1,setCells,List.map,seval,reduceCtorEq,hp]
   exact ⟨rfl, rfl⟩
theorem rwordL (s : List UInt8) (at' : Int) (hs : s.length ≤ 1000) (r k : Int) (a1 a2 a3 a4 a5 : List UInt8) (b1 b2 b3 b4 b5 b6 : Int) (t im ex ad : AV) (A : Option Ent) (T : Hp) : Gen Tryz.prog 47 [.int .u8 76, .str s, .int .i64 at', .eptr 1 0 0] (A :: lno (⟨r, k, a1, a2, a3, a4, a5, b1, b2, b3, b4, b5, b6⟩ : Ln) t im ex ad :: T) (.int .i64 (if adG s = true ∧ (adV s)[0]! ≠ 0 then 0 else 21)) (A :: lno (⟨r, k, a1, a2, a3, a4, a5, b1, b2, b3, b4, b5, b6⟩ : Ln) t im ex (sl32 (adV s)) :: T):=by
 have qa : Run Tryz.prog 81 [.str s] (.tup [sl32 (adV s), .bool (adG s)]):=by
  have q:=run_frz (rrdaddrs_run s hs)
  unfold adV
  by_cases h : adG s = true
  ·rw [rlR_yes h] at q
   rw [if_pos h, h]
   unfold sl32
   rw [if_neg (by simpa using sc_ne s)]
   exact q
  ·have h' : adG s = false:=by simpa using h
   rw [rlR_no h] at q
   rw [if_neg h, h', sl32_nil]
   exact q
 have had : adG s = true → 0 < (adV s).length:=fun h=>by
  unfold adV
  rw [if_pos h, List.length_map]
  exact List.length_pos_iff.2 (sc_ne _)
 have hab:=adV_b s
 obtain ⟨n1, f1, h1, hn1⟩:=sl32_is (adV s)
 rw [h1] at qa ⊢
 generalize adV s = l at *
 generalize adG s = ok at *
 refine Tryz.gen47 (by simp) ?_
 unfold Tryz.g47 lno lnA
 cases ok
 ·generalize l.map (AV.int .u32) = es at *
  simp (disch:=first|omega|(simp only[pvl];omega)) only [↓pvd,pva,pvr,bin2,binB2,un1,setCells,List.map,seval,reduceCtorEq,true_and]
  refine awR_call qa rfl rfl ?_
  simp (disch:=first|omega|(simp only[pvl];omega)) only [↓pvd,pva,pvr,bin2,binB2,un1,setCells,List.map,seval,reduceCtorEq,true_and]
  exact ⟨rfl, rfl⟩
 ·have h0:=had rfl
  have hga : (l.map (AV.int .u32))[0]? = some (.int .u32 l[0]!):=map_get h0
  have hal : (l.map (AV.int .u32)).length = l.length:=by simp
  have hb0:=hab l[0]! (get_mem h0)
  obtain rfl : n1 = 1:=hn1.resolve_left (by rintro rfl; simp at h0)
  generalize l.map (AV.int .u32) = es at *
  by_cases hz : l[0]! = 0
  ·rw [if_neg (fun h=>h.2 hz)]
   rw [hz] at hga
   simp (disch:=first|omega|(simp only[pvl];omega)) only [↓pvd,pva,pvr,bin2,binB2,un1,setCells,List.map,seval,reduceCtorEq,true_and]
   refine awR_call qa rfl rfl ?_
   simp (disch:=first|omega|(simp only[pvl];omega)) only [↓pvd,pva,pvr,bin2,binB2,un1,setCells,List.map,seval,reduceCtorEq,hga,hal]
   exact ⟨rfl, rfl⟩
  ·rw [if_pos ⟨rfl, hz⟩]
   have hp : 0 < l[0]!:=by omega
   generalize l[0]! = n at *
   simp (disch:=first|omega|(simp only[pvl];omega)) only [↓pvd,pva,pvr,bin2,binB2,un1,setCells,List.map,seval,reduceCtorEq,true_and]
   refine awR_call qa rfl rfl ?_
   simp (disch:=first|omega|(simp only[pvl];omega)) only [↓pvd,pva,pvr,bin2,binB2,un1,setCells,List.map,seval,reduceCtorEq,hga,hal,hp]
   exact ⟨rfl, rfl⟩
theorem rwordS (s : List UInt8) (at' : Int) (hs : s.length ≤ 1000) (r k : Int) (a1 a2 a3 a4 a5 : List UInt8) (b1 b2 b3 b4 b5 b6 : Int) (t im ex ad : AV) (A : Option Ent) (T : Hp) : Gen Tryz.prog 47 [.int .u8 83, .str s, .int .i64 at', .eptr 1 0 0] (A :: lno (⟨r, k, a1, a2, a3, a4, a5, b1, b2, b3, b4, b5, b6⟩ : Ln) t im ex ad :: T) (.int .i64 (if (rpB s).2.2 = true ∧ sbF (rpB s).1 (rpB s).2.1 = true then 0 else 21)) (A :: lno (⟨r, k, a1, a2, a3, a4, a5, b1, (rpB s).1, (rpB s).2.1, b4, b5, b6⟩ : Ln) t im ex ad :: (T ++ [some ⟨82, [pfx (rpB s).1 (rpB s).2.1], true⟩])):=by
 have q:=ref_rp_run s (by omega)
 rw [rpB_eq] at q
 have q2:=rsubnet_run (rpB s).1 (rpB s).2.1 (rpB_b s)
 generalize (rpB s).1 = x at *
 generalize (rpB s).2.1 = y at *
 generalize (rpB s).2.2 = ok at *
 generalize sbF x y = sb at *
 refine Tryz.gen47 (by simp) ?_
 unfold Tryz.g47 lno lnA
 unfold pfx at *
 simp (disch:=first|omega|(simp only[pvl];omega)) only [↓pvd,pva,pvr,bin2,binB2,un1,setCells,List.map,seval,reduceCtorEq,List.getElem?_concat_length,rs_set_end]
 refine awR_call q rfl rfl ?_
 cases ok
 ·simp (disch:=first|omega|(simp only[pvl];omega)) only [↓pvd,pva,pvr,bin2,binB2,un1,setCells,List.map,seval,reduceCtorEq,List.getElem?_concat_length,rs_set_end]
  exact ⟨rfl, rfl⟩
 ·simp (disch:=first|omega|(simp only[pvl];omega)) only [↓pvd,pva,pvr,bin2,binB2,un1,setCells,List.map,seval,reduceCtorEq,List.getElem?_concat_length,rs_set_end]
  refine awR_call q2 rfl rfl ?_
  cases sb
  all_goals simp (disch:=first|omega|(simp only[pvl];omega)) only [↓pvd,pva,pvr,bin2,binB2,un1,setCells,List.map,seval,reduceCtorEq,List.getElem?_concat_length,rs_set_end]
  all_goals exact ⟨rfl, rfl⟩
end Go.Proofs
