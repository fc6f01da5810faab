/- The proofs of what the functions of this seat do. -/
import Derived.Test.YtppdpcfmkmnfjaaGreatDoorPr14
set_option linter.unusedSimpArgs false
set_option linter.unusedVariables false
set_option maxHeartbeats 2000000
set_option maxRecDepth 20000
set_option maxHeartbeats 16000000
namespace Go.Proofs
namespace De
open Go.Pv Go.Pv.Df
theorem mapO_nr{hp:Hp}{n:Nat}{A:List AV}(h:A.all AV.nr1=true):mapO (snap hp (n+2)) A=some A:=mapO_id fun x hx=>snap_nr1 (List.all_eq_true.1 h x hx)
theorem rows_nr{hp:Hp}{n:Nat}{A:List AV}(h:A.all AV.nr1=true):A.flatMap (rows hp (n+2))=[]:=by
 have:=rows_map (hp:=hp) (n:=n) (f:=id) (l:=A)
 rw [List.flatMap_eq_nil_iff]
 intro x hx
 have hn:=List.all_eq_true.1 h x hx
 have:=rows_map (hp:=hp) (n:=n) (f:=fun _:Unit=>x) (l:=[()]) (fun _=>hn)
 simpa using this
theorem mapO_app{f:AV→Option AV}:∀ {A B:List AV},mapO f (A ++ B) =(mapO f A).bind fun a=>(mapO f B).map fun b=>a ++ b
 | [],B=>by simp [mapO]
 | x :: A,B=>by
  rw [List.cons_append,mapO,mapO,mapO_app (A:=A) (B:=B)]
  cases f x with
  | none=>rfl
  | some y =>
   cases mapO f A with
   | none=>rfl
   | some a=>cases mapO f B <;> rfl
abbrev nilV:AV:=.sl 0 [] true
def rowV(r:List Bool):AV:=.sl 1 (r.map .bool) false
theorem row_nr(r:List Bool):(rowV r).nr1=true:=rfl
theorem row_pl(r:List Bool):(rowV r).pl=true:=rfl
theorem rep_nr(n:Nat):(List.replicate n nilV).all AV.nr1=true:=by
 rw [List.all_eq_true]; intro x hx; rw [(List.mem_replicate.1 hx).2]; rfl
theorem rep_pl(n:Nat):(List.replicate n nilV).all AV.pl=true:=by
 rw [List.all_eq_true]; intro x hx; rw [(List.mem_replicate.1 hx).2]; rfl
theorem zrep_pl(n:Nat):(List.replicate n (AV.int .i64 0)).all AV.pl=true:=by
 rw [List.all_eq_true]; intro x hx; rw [(List.mem_replicate.1 hx).2]; rfl
theorem map_nr{α:Type}{f:α→AV}{l:List α}(h:∀ x,(f x).nr1=true):(l.map f).all AV.nr1=true:=by
 rw [List.all_eq_true]; intro x hx; obtain ⟨y,_,rfl⟩:=List.mem_map.1 hx; exact h y
def drow(a b:List (List UInt8))(i:Nat):List Int:=(List.range (b.length+1)).map fun c=>((lc (a.drop i) (b.drop c):Nat):Int)
theorem drow_end(a b:List (List UInt8)):AV.int .i64 0 :: List.replicate b.length (AV.int .i64 0) =(drow a b a.length).map (.int .i64):=by
 rw [← List.replicate_succ]
 apply List.ext_getElem
 ·simp [drow]
 ·intro i h1 h2
  simp [drow,lc_nil]
def rowT(a b:List (List UInt8))(i:Nat):List Bool:=(List.range b.length).map fun k=>decide (lc (a.drop i) (b.drop (k+1))≤lc (a.drop (i+1)) (b.drop k))
def tabT(a b:List (List UInt8))(i:Nat):List (List Bool):=(List.range (a.length - i)).map fun t=>rowT a b (i+t)
def ckS(a b:List (List UInt8))(f g:Bool)(i:Nat)(o:List Int):St :=
 ⟨[(0,.sl 1 (a.map .str) f),(1,.sl 1 (b.map .str) g),(5,.eptr 0 0 0),(6,.eptr 2 0 0),(8,.int .i64 ((i:Int) - 1))],
  [some ⟨146,[.agg [.sl 1 (a.map .str) f,.sl 1 (b.map .str) g,.vec 1 1 0 a.length]],true⟩,some ⟨148,List.replicate i nilV ++(tabT a b i).map rowV,true⟩,
   some ⟨147,[.agg [.vec 3 1 0 (b.length+1),.vec 4 1 0 (b.length+1)]],true⟩,
   some ⟨3,(if i % 2=0 then drow a b i else o).map (.int .i64),true⟩,some ⟨3,(if i % 2=0 then o else drow a b i).map (.int .i64),true⟩]⟩
theorem ckS_e(a b:List (List UInt8))(f g:Bool)(i:Nat)(o:List Int):ckS a b f g i o =
 ⟨[(0,.sl 1 (a.map .str) f),(1,.sl 1 (b.map .str) g),(5,.eptr 0 0 0),(6,.eptr 2 0 0),(8,.int .i64 ((i:Int) - 1))],
  [some ⟨146,[.agg [.sl 1 (a.map .str) f,.sl 1 (b.map .str) g,.vec 1 1 0 a.length]],true⟩,some ⟨148,List.replicate i nilV ++(tabT a b i).map rowV,true⟩,
   some ⟨147,[.agg [.vec 3 1 0 (b.length+1),.vec 4 1 0 (b.length+1)]],true⟩,
   some ⟨3,(if i % 2=0 then drow a b i else o).map (.int .i64),true⟩,some ⟨3,(if i % 2=0 then o else drow a b i).map (.int .i64),true⟩]⟩:=rfl
theorem set_int{k:IntKind}{l:List Int}{i:Nat}{v:Int}:(l.map (AV.int k)).set i (.int k v) =(l.set i v).map (.int k):=(List.map_set ..).symm
theorem set_bool{l:List Bool}{i:Nat}{v:Bool}:(l.map AV.bool).set i (.bool v) =(l.set i v).map .bool:=(List.map_set ..).symm
theorem int_nr(k:IntKind)(n:Int):(AV.int k n).nr1=true:=rfl
theorem int_pl(k:IntKind)(n:Int):(AV.int k n).pl=true:=rfl
theorem bool_nr(n:Bool):(AV.bool n).nr1=true:=rfl
theorem bool_pl(n:Bool):(AV.bool n).pl=true:=rfl
theorem hand_eptr{hp:Hp}{id i off:Nat}:hand hp [[.snap]] (.eptr id i off) =(snap hp 6 (.eptr id i off)).map fun y=>(y,hp,rows hp 6 (.eptr id i off)):=rfl
section
variable {A T:List AV} (hA:A.all AV.pl=true) (hT:T.all AV.pl=true) (hA2:A.all AV.nr1=true) (hT2:T.all AV.nr1=true)
include hA hT in
theorem mid_ids{hp:Hp}{n:Nat}{x:AV}:(A ++ x :: T).flatMap (idsOf hp (n+2))=idsOf hp (n+2) x:=by
 rw [List.flatMap_append,List.flatMap_cons,ids_all hA,ids_all hT]; simp
include hA hT in
theorem mid_ren{l:List Nat}{n:Nat}{x:AV}:(A ++ x :: T).map (renX l (n+2))=A ++ renX l (n+2) x :: T:=by
 rw [List.map_append,List.map_cons,ren_all hA,ren_all hT]
include hA2 hT2 in
theorem mid_snap{hp:Hp}{n:Nat}{x:AV}:mapO (snap hp (n+2)) (A ++ x :: T) =(snap hp (n+2) x).map fun y=>A ++ y :: T:=by
 rw [mapO_app,mapO,mapO_nr hA2,mapO_nr hT2]
 cases snap hp (n+2) x <;> rfl
include hA2 hT2 in
theorem mid_rows{hp:Hp}{n:Nat}{x:AV}:(A ++ x :: T).flatMap (rows hp (n+2))=rows hp (n+2) x:=by
 rw [List.flatMap_append,List.flatMap_cons,rows_nr hA2,rows_nr hT2]; simp
end
theorem mid_set{A T:List AV}{x v:AV}{j:Nat}(h:A.length=j):(A ++ x :: T).set j v=A ++ v :: T:=by
 subst h
 rw [List.set_append_right _ _ (Nat.le_refl _)]; simp
theorem mid_get{A T:List AV}{x:AV}{j:Nat}(h:A.length=j):(A ++ x :: T)[j]?=some x:=by
 subst h
 rw [List.getElem?_append_right (Nat.le_refl _)]; simp
theorem lc_le(a b:List (List UInt8)):lc a b≤a.length:=by
 obtain ⟨s,h1,_,h3⟩:=lc_low _ a b (Nat.le_refl _)
 have:=h1.length_le
 omega
theorem reckon_run(a b:List (List UInt8))(f g:Bool)(ha:a.length≤400)(hb:b.length≤400):Run Tryz.prog 84 [.sl 1 (a.map .str) f,.sl 1 (b.map .str) g] (.rptr (.agg [.sl 1 (a.map .str) f,.sl 1 (b.map .str) g,.sl 1 ((tabT a b 0).map rowV) false]) 0):=by
 refine Tryz.run84 (by simp) ?_
 unfold Tryz.c84
 simp (disch:=try exact dq) only[↓pvd,pz,sC,List.map,seval,List.length_map]
 refine aw_unroll 3 ?_
 simp (disch:=try exact dq) only[↓pvd,pz,sC,List.map,seval,unr_s,unrT_e,Tryz.c84b0,List.length_map,ids_all (rep_pl _),mapO_nr (rep_nr _),rows_nr (rep_nr _),ren_all (rep_pl _),List.getD_cons_zero,List.getD_cons_succ,ids_all (zrep_pl _),ren_all (zrep_pl _)]
 rw [drow_end a b]
 refine aw_loop (fun x:Nat × List Int=>ckS a b f g x.1 x.2) (fun x=>x.1≤a.length∧x.2.length=b.length+1) (fun x=>x.1) (a.length,drow a b a.length) ?_ ⟨Nat.le_refl _,by simp [drow]⟩ ?_
 ·have hz:tabT a b a.length=[]:=by simp [tabT]
  have hpd:((drow a b a.length).map (AV.int .i64)).all AV.pl=true:=pl_map fun _=>rfl
  simp (disch:=try exact dq) only[↓pvd,pz,sC,List.map,seval,ids_all (rep_pl _),mapO_nr (rep_nr _),rows_nr (rep_nr _),ren_all (rep_pl _),List.getD_cons_zero,List.getD_cons_succ,ids_all hpd,ren_all hpd,ckS,hz,ite_self,List.append_nil]
 rintro ⟨i,o⟩ ⟨hi,ho⟩
 simp only at hi ho
 unfold Tryz.c84b2
 cases i with
 | zero =>
  rw [ckS_e]
  have hTp:((tabT a b 0).map rowV).all AV.pl=true:=pl_map row_pl
  have hTn:((tabT a b 0).map rowV).all AV.nr1=true:=map_nr row_nr
  have hTl:((tabT a b 0).map rowV).length=a.length:=by simp [tabT]
  have h0:(((0:Nat):Int) - 1)=-1:=by omega
  rw [h0,List.replicate_zero,List.nil_append]
  generalize (tabT a b 0).map rowV=T at *
  refine vZ ?_
  refine Ends_rq [[.snap]] ?_
  simp (disch:=try exact dq) only[↓pvd,pz,sC,List.map,seval,hand_eptr,mapO_nr hTn,rows_nr hTn,hTl,snp_eptr,rws_eptr,Option.toList_some]
  exact⟨_,rfl,rfl,rfl⟩
 | succ j =>
  have hj:(((j+1:Nat):Int) - 1) =(j:Int):=by omega
  have hTp:((tabT a b (j+1)).map rowV).all AV.pl=true:=pl_map row_pl
  have hTn:((tabT a b (j+1)).map rowV).all AV.nr1=true:=map_nr row_nr
  have hAp:=rep_pl j
  have hAn:=rep_nr j
  have hAl:(List.replicate j nilV).length=j:=by simp
  have hTl:((tabT a b (j+1)).map rowV).length=a.length - (j+1):=by simp [tabT]
  have hNx:∀ c,c≤b.length →((drow a b (j+1)).map (AV.int .i64))[c]?=some (.int .i64 ((lc (a.drop (j+1)) (b.drop c):Nat):Int)):=fun c hc=>by
   simp [drow,hc,Nat.lt_succ_of_le hc]
  have hNl:((drow a b (j+1)).map (AV.int .i64)).length=b.length+1:=by simp [drow]
  have hOl:(o.map (AV.int .i64)).length=b.length+1:=by simp [ho]
  have hDp:((drow a b (j+1)).map (AV.int .i64)).all AV.pl=true:=pl_map (int_pl .i64)
  have hmk:List.replicate b.length (AV.bool false) =(List.replicate b.length false).map AV.bool:=by simp
  have hes:List.replicate (j+1) nilV ++(tabT a b (j+1)).map rowV=List.replicate j nilV ++ nilV :: (tabT a b (j+1)).map rowV:=by
   rw [List.replicate_succ']; simp
  rw [ckS_e a b f g (j+1) o,hj,hes]
  generalize hTT:(tabT a b (j+1)).map rowV=T at *
  generalize hAA:List.replicate j nilV=A at *
  have m1:=@mid_ids A T hAp hTp
  have m2:=@mid_ren A T hAp hTp
  have m3:=@mid_snap A T hAn hTn
  have m4:=@mid_rows A T hAn hTn
  have m5:=@mid_set A T
  have m6:∀ x,(A ++ x :: T)[j]?=some x:=fun x=>mid_get hAl
  have m7:∀ x v,(A ++ x :: T).set j v=A ++ v :: T:=fun x v=>mid_set hAl
  have m8:∀ x,(A ++ x :: T).length=a.length:=fun x=>by simp [hAl,hTl]; omega
  rcases Nat.mod_two_eq_zero_or_one j with hp | hp
  ·have hp2:(j+1) % 2≠0:=by omega
   have hx1:(j:Int) % 2=0:=by omega
   have hx2:((j:Int)+1) % 2=1:=by omega
   rw [if_neg hp2,if_neg hp2]
   generalize hDD:(drow a b (j+1)).map (AV.int .i64)=D at *
   simp (disch:=try exact dq) only[↓pvd,pz,sC,List.map,seval,hx1,hx2,m1,m2,m6,m7,m8,hmk,ids_all hDp,ren_all hDp,iM (int_pl .i64),rM (int_pl .i64),iM bool_pl,rM bool_pl,hOl,set_int,List.length_map]
   refine aw_loop (fun x:Nat × List Int × List Bool=>(⟨[(0,.sl 1 (a.map .str) f),(1,.sl 1 (b.map .str) g),(5,.eptr 0 0 0),(6,.eptr 3 0 0),(8,.int .i64 j),(9,.vec 4 1 0 (b.length+1)),(10,.vec 5 1 0 (b.length+1)),(11,.int .i64 ((x.1:Int) - 1))],
     [some ⟨146,[.agg [.sl 1 (a.map .str) f,.sl 1 (b.map .str) g,.vec 1 1 0 a.length]],true⟩,some ⟨148,A ++ .vec 2 1 0 b.length :: T,true⟩,some ⟨4,x.2.2.map .bool,true⟩,
      some ⟨147,[.agg [.vec 4 1 0 (b.length+1),.vec 5 1 0 (b.length+1)]],true⟩,some ⟨3,x.2.1.map (.int .i64),true⟩,some ⟨3,D,true⟩]⟩:St))
    (fun x=>x.1≤b.length∧x.2.1.length=b.length+1∧x.2.2.length=b.length ∧(∀ c,x.1≤c→c≤b.length→x.2.1[c]! =((lc (a.drop j) (b.drop c):Nat):Int)) ∧
      (∀ k,x.1≤k→k < b.length→x.2.2[k]! = decide (lc (a.drop j) (b.drop (k+1))≤lc (a.drop (j+1)) (b.drop k))))
    (fun x=>x.1) (b.length,o.set b.length 0,List.replicate b.length false) ?_ ⟨Nat.le_refl _,by simp [ho],by simp,?_,?_⟩ ?_
   ·simp (disch:=try exact dq) only[↓pvd,pz,sC,List.map,seval,m1,m2,ids_all hDp,ren_all hDp,iM (int_pl .i64),rM (int_pl .i64),iM bool_pl,rM bool_pl]
   ·intro c h1 h2
    have:c=b.length:=by omega
    subst this
    rw [List.drop_length,lc_nil',getElem!_pos _ _ (by simp [ho])]
    simp
   ·intro k h1 h2
    omega
   rintro ⟨c,hs,rs⟩ ⟨hc,hsl,rsl,hM,hR⟩
   simp only at hc hsl rsl hM hR
   unfold Tryz.c84b1
   simp only
   cases c with
   | zero =>
    have hrs:rs=rowT a b j:=by
     apply List.ext_getElem
     ·simp [rowT,rsl]
     ·intro k h1 h2
      have:=hR k (by omega) (by omega)
      rw [getElem!_pos rs k h1] at this
      rw [this]
      simp [rowT]
    have hhs:hs=drow a b j:=by
     apply List.ext_getElem
     ·simp [drow,hsl]
     ·intro k h1 h2
      have:=hM k (by omega) (by omega)
      rw [getElem!_pos hs k h1] at this
      rw [this]
      simp [drow]
    have hcc:(((0:Nat):Int) - 1)=-1:=by omega
    have hpl1:(rs.map AV.bool).all AV.pl=true:=pl_map bool_pl
    simp (disch:=try exact dq) only[↓pvd,pz,sC,List.map,seval,hcc,m1,m2,m3,m4,List.getD_cons_zero,List.getD_cons_succ,mapO_map bool_nr,rows_map bool_nr,ids_all hDp,ren_all hDp,iM (int_pl .i64),rM (int_pl .i64),iM bool_pl,rM bool_pl]
    refine⟨(j,drow a b (j+1)),?_,⟨by simp only; omega,by simp [drow]⟩,by simp only; omega⟩
    rw [ckS_e]
    have htab:(tabT a b j).map rowV=rowV (rowT a b j) :: T:=by
     rw [← hTT]
     unfold tabT
     rw [show a.length - j =(a.length - (j+1))+1 by omega,List.range_succ_eq_map]
     simp only[List.map_cons,List.map_map,Nat.add_zero]
     congr 1
     apply List.map_congr_left
     intro x _
     simp only[Function.comp]
     rw [show j +(x+1)=j+1+x by omega]
    rw [htab,hAA,← hrs,← hhs]
    simp only[if_pos hp,← hDD,rowV]
   | succ k =>
    have hk:(((k+1:Nat):Int) - 1) =(k:Int):=by omega
    rw [hk]
    have g1:=hNx k (by omega)
    have g2:=hNx (k+1) (by omega)
    have M1:=hM (k+1) (by omega) (by omega)
    have g3:(hs.map (AV.int .i64))[k+1]?=some (.int .i64 ((lc (a.drop j) (b.drop (k+1)):Nat):Int)):=by rw [mG (by omega),M1]
    have g4:(a.map AV.str)[j]?=some (.str a[j]!):=mG (by omega)
    have g5:(b.map AV.str)[k]?=some (.str b[k]!):=mG (by omega)
    have hda:a.drop j=a[j]! :: a.drop (j+1):=by rw [getElem!_pos a j (by omega)]; exact List.drop_eq_getElem_cons (by omega)
    have hdb:b.drop k=b[k]! :: b.drop (k+1):=by rw [getElem!_pos b k (by omega)]; exact List.drop_eq_getElem_cons (by omega)
    have hstep:lc (a.drop j) (b.drop k)=if a[j]! = b[k]! then lc (a.drop (j+1)) (b.drop (k+1))+1 else max (lc (a.drop (j+1)) (b.drop k)) (lc (a.drop j) (b.drop (k+1))):=by
     rw [hda,hdb,lc_cons]
    have b1:=lc_le (a.drop (j+1)) (b.drop (k+1))
    have b2:=lc_le (a.drop (j+1)) (b.drop k)
    have b3:=lc_le (a.drop j) (b.drop (k+1))
    simp only[List.length_drop] at b1 b2 b3
    have fin:∀(v:Int) (hs':List Int),v =((lc (a.drop j) (b.drop k):Nat):Int)→hs'=hs.set k v →
      hs'.length=b.length+1 ∧(∀ c,k≤c→c≤b.length→hs'[c]! =((lc (a.drop j) (b.drop c):Nat):Int)):=fun v hs' hv h=>by
     subst h
     refine⟨by simp [hsl],fun c h1 h2=>?_⟩
     rw [getElem!_pos _ _ (by simp [hsl]; omega),List.getElem_set]
     by_cases e:k=c
     ·rw [if_pos e,hv,e]
     ·rw [if_neg e]
      have:=hM c (by omega) h2
      rwa [getElem!_pos hs c (by omega)] at this
    have finr:∀(v:Bool),v=decide (lc (a.drop j) (b.drop (k+1))≤lc (a.drop (j+1)) (b.drop k)) →
      (rs.set k v).length=b.length ∧(∀ k',k≤k'→k' < b.length →(rs.set k v)[k']! = decide (lc (a.drop j) (b.drop (k'+1))≤lc (a.drop (j+1)) (b.drop k'))):=fun v hv=>by
     refine⟨by simp [rsl],fun c h1 h2=>?_⟩
     rw [getElem!_pos _ _ (by simp [rsl]; omega),List.getElem_set]
     by_cases e:k=c
     ·rw [if_pos e,hv,e]
     ·rw [if_neg e]
      have:=hR c (by omega) h2
      rwa [getElem!_pos rs c (by omega)] at this
    generalize lc (a.drop j) (b.drop k)=V at *
    generalize lc (a.drop (j+1)) (b.drop (k+1))=v1 at *
    generalize lc (a.drop (j+1)) (b.drop k)=v2 at *
    generalize lc (a.drop j) (b.drop (k+1))=v3 at *
    by_cases he:a[j]! = b[k]!
    ·rw [if_pos he] at hstep
     simp (disch:=try exact dq) only[↓pvd,pz,sC,List.map,seval,m1,m2,m6,m7,m8,ids_all hDp,ren_all hDp,iM (int_pl .i64),rM (int_pl .i64),iM bool_pl,rM bool_pl,set_int,set_bool,List.length_map,g1,g2,g3,g4,g5,he,hNl]
     have f1:=fin ((v1:Int)+1) ((hs.set k (max (v2:Int) v3)).set k ((v1:Int)+1)) (by rw [hstep]; push_cast; rfl) (by rw [List.set_set])
     have f2:=finr (decide ((v3:Int)≤v2)) (by simp)
     exact⟨(k,((hs.set k (max (v2:Int) v3)).set k ((v1:Int)+1)),rs.set k (decide ((v3:Int)≤v2))),rfl,⟨by simp only; omega,f1.1,f2.1,f1.2,f2.2⟩,by simp only; omega⟩
    ·rw [if_neg he] at hstep
     simp (disch:=try exact dq) only[↓pvd,pz,sC,List.map,seval,m1,m2,m6,m7,m8,ids_all hDp,ren_all hDp,iM (int_pl .i64),rM (int_pl .i64),iM bool_pl,rM bool_pl,set_int,set_bool,List.length_map,g1,g2,g3,g4,g5,he,hNl]
     have f1:=fin (max (v2:Int) v3) (hs.set k (max (v2:Int) v3)) (by rw [hstep]; omega) (by rfl)
     have f2:=finr (decide ((v3:Int)≤v2)) (by simp)
     exact⟨(k,(hs.set k (max (v2:Int) v3)),rs.set k (decide ((v3:Int)≤v2))),rfl,⟨by simp only; omega,f1.1,f2.1,f1.2,f2.2⟩,by simp only; omega⟩
  ·have hp2:(j+1) % 2=0:=by omega
   have hx1:(j:Int) % 2=1:=by omega
   have hx2:((j:Int)+1) % 2=0:=by omega
   rw [if_pos hp2,if_pos hp2]
   have hp:¬ j % 2=0:=by omega
   generalize hDD:(drow a b (j+1)).map (AV.int .i64)=D at *
   simp (disch:=try exact dq) only[↓pvd,pz,sC,List.map,seval,hx1,hx2,m1,m2,m6,m7,m8,hmk,ids_all hDp,ren_all hDp,iM (int_pl .i64),rM (int_pl .i64),iM bool_pl,rM bool_pl,hOl,set_int,List.length_map]
   refine aw_loop (fun x:Nat × List Int × List Bool=>(⟨[(0,.sl 1 (a.map .str) f),(1,.sl 1 (b.map .str) g),(5,.eptr 0 0 0),(6,.eptr 3 0 0),(8,.int .i64 j),(9,.vec 5 1 0 (b.length+1)),(10,.vec 4 1 0 (b.length+1)),(11,.int .i64 ((x.1:Int) - 1))],
     [some ⟨146,[.agg [.sl 1 (a.map .str) f,.sl 1 (b.map .str) g,.vec 1 1 0 a.length]],true⟩,some ⟨148,A ++ .vec 2 1 0 b.length :: T,true⟩,some ⟨4,x.2.2.map .bool,true⟩,
      some ⟨147,[.agg [.vec 4 1 0 (b.length+1),.vec 5 1 0 (b.length+1)]],true⟩,some ⟨3,D,true⟩,some ⟨3,x.2.1.map (.int .i64),true⟩]⟩:St))
    (fun x=>x.1≤b.length∧x.2.1.length=b.length+1∧x.2.2.length=b.length ∧(∀ c,x.1≤c→c≤b.length→x.2.1[c]! =((lc (a.drop j) (b.drop c):Nat):Int)) ∧
      (∀ k,x.1≤k→k < b.length→x.2.2[k]! = decide (lc (a.drop j) (b.drop (k+1))≤lc (a.drop (j+1)) (b.drop k))))
    (fun x=>x.1) (b.length,o.set b.length 0,List.replicate b.length false) ?_ ⟨Nat.le_refl _,by simp [ho],by simp,?_,?_⟩ ?_
   ·simp (disch:=try exact dq) only[↓pvd,pz,sC,List.map,seval,m1,m2,ids_all hDp,ren_all hDp,iM (int_pl .i64),rM (int_pl .i64),iM bool_pl,rM bool_pl]
   ·intro c h1 h2
    have:c=b.length:=by omega
    subst this
    rw [List.drop_length,lc_nil',getElem!_pos _ _ (by simp [ho])]
    simp
   ·intro k h1 h2
    omega
   rintro ⟨c,hs,rs⟩ ⟨hc,hsl,rsl,hM,hR⟩
   simp only at hc hsl rsl hM hR
   unfold Tryz.c84b1
   simp only
   cases c with
   | zero =>
    have hrs:rs=rowT a b j:=by
     apply List.ext_getElem
     ·simp [rowT,rsl]
     ·intro k h1 h2
      have:=hR k (by omega) (by omega)
      rw [getElem!_pos rs k h1] at this
      rw [this]
      simp [rowT]
    have hhs:hs=drow a b j:=by
     apply List.ext_getElem
     ·simp [drow,hsl]
     ·intro k h1 h2
      have:=hM k (by omega) (by omega)
      rw [getElem!_pos hs k h1] at this
      rw [this]
      simp [drow]
    have hcc:(((0:Nat):Int) - 1)=-1:=by omega
    have hpl1:(rs.map AV.bool).all AV.pl=true:=pl_map bool_pl
    simp (disch:=try exact dq) only[↓pvd,pz,sC,List.map,seval,hcc,m1,m2,m3,m4,List.getD_cons_zero,List.getD_cons_succ,mapO_map bool_nr,rows_map bool_nr,ids_all hDp,ren_all hDp,iM (int_pl .i64),rM (int_pl .i64),iM bool_pl,rM bool_pl]
    refine⟨(j,drow a b (j+1)),?_,⟨by simp only; omega,by simp [drow]⟩,by simp only; omega⟩
    rw [ckS_e]
    have htab:(tabT a b j).map rowV=rowV (rowT a b j) :: T:=by
     rw [← hTT]
     unfold tabT
     rw [show a.length - j =(a.length - (j+1))+1 by omega,List.range_succ_eq_map]
     simp only[List.map_cons,List.map_map,Nat.add_zero]
     congr 1
     apply List.map_congr_left
     intro x _
     simp only[Function.comp]
     rw [show j +(x+1)=j+1+x by omega]
    rw [htab,hAA,← hrs,← hhs]
    simp only[if_neg hp,← hDD,rowV]
   | succ k =>
    have hk:(((k+1:Nat):Int) - 1) =(k:Int):=by omega
    rw [hk]
    have g1:=hNx k (by omega)
    have g2:=hNx (k+1) (by omega)
    have M1:=hM (k+1) (by omega) (by omega)
    have g3:(hs.map (AV.int .i64))[k+1]?=some (.int .i64 ((lc (a.drop j) (b.drop (k+1)):Nat):Int)):=by rw [mG (by omega),M1]
    have g4:(a.map AV.str)[j]?=some (.str a[j]!):=mG (by omega)
    have g5:(b.map AV.str)[k]?=some (.str b[k]!):=mG (by omega)
    have hda:a.drop j=a[j]! :: a.drop (j+1):=by rw [getElem!_pos a j (by omega)]; exact List.drop_eq_getElem_cons (by omega)
    have hdb:b.drop k=b[k]! :: b.drop (k+1):=by rw [getElem!_pos b k (by omega)]; exact List.drop_eq_getElem_cons (by omega)
    have hstep:lc (a.drop j) (b.drop k)=if a[j]! = b[k]! then lc (a.drop (j+1)) (b.drop (k+1))+1 else max (lc (a.drop (j+1)) (b.drop k)) (lc (a.drop j) (b.drop (k+1))):=by
     rw [hda,hdb,lc_cons]
    have b1:=lc_le (a.drop (j+1)) (b.drop (k+1))
    have b2:=lc_le (a.drop (j+1)) (b.drop k)
    have b3:=lc_le (a.drop j) (b.drop (k+1))
    simp only[List.length_drop] at b1 b2 b3
    have fin:∀(v:Int) (hs':List Int),v =((lc (a.drop j) (b.drop k):Nat):Int)→hs'=hs.set k v →
      hs'.length=b.length+1 ∧(∀ c,k≤c→c≤b.length→hs'[c]! =((lc (a.drop j) (b.drop c):Nat):Int)):=fun v hs' hv h=>by
     subst h
     refine⟨by simp [hsl],fun c h1 h2=>?_⟩
     rw [getElem!_pos _ _ (by simp [hsl]; omega),List.getElem_set]
     by_cases e:k=c
     ·rw [if_pos e,hv,e]
     ·rw [if_neg e]
      have:=hM c (by omega) h2
      rwa [getElem!_pos hs c (by omega)] at this
    have finr:∀(v:Bool),v=decide (lc (a.drop j) (b.drop (k+1))≤lc (a.drop (j+1)) (b.drop k)) →
      (rs.set k v).length=b.length ∧(∀ k',k≤k'→k' < b.length →(rs.set k v)[k']! = decide (lc (a.drop j) (b.drop (k'+1))≤lc (a.drop (j+1)) (b.drop k'))):=fun v hv=>by
     refine⟨by simp [rsl],fun c h1 h2=>?_⟩
     rw [getElem!_pos _ _ (by simp [rsl]; omega),List.getElem_set]
     by_cases e:k=c
     ·rw [if_pos e,hv,e]
     ·rw [if_neg e]
      have:=hR c (by omega) h2
      rwa [getElem!_pos rs c (by omega)] at this
    generalize lc (a.drop j) (b.drop k)=V at *
    generalize lc (a.drop (j+1)) (b.drop (k+1))=v1 at *
    generalize lc (a.drop (j+1)) (b.drop k)=v2 at *
    generalize lc (a.drop j) (b.drop (k+1))=v3 at *
    by_cases he:a[j]! = b[k]!
    ·rw [if_pos he] at hstep
     simp (disch:=try exact dq) only[↓pvd,pz,sC,List.map,seval,m1,m2,m6,m7,m8,ids_all hDp,ren_all hDp,iM (int_pl .i64),rM (int_pl .i64),iM bool_pl,rM bool_pl,set_int,set_bool,List.length_map,g1,g2,g3,g4,g5,he,hNl]
     have f1:=fin ((v1:Int)+1) ((hs.set k (max (v2:Int) v3)).set k ((v1:Int)+1)) (by rw [hstep]; push_cast; rfl) (by rw [List.set_set])
     have f2:=finr (decide ((v3:Int)≤v2)) (by simp)
     exact⟨(k,((hs.set k (max (v2:Int) v3)).set k ((v1:Int)+1)),rs.set k (decide ((v3:Int)≤v2))),rfl,⟨by simp only; omega,f1.1,f2.1,f1.2,f2.2⟩,by simp only; omega⟩
    ·rw [if_neg he] at hstep
     simp (disch:=try exact dq) only[↓pvd,pz,sC,List.map,seval,m1,m2,m6,m7,m8,ids_all hDp,ren_all hDp,iM (int_pl .i64),rM (int_pl .i64),iM bool_pl,rM bool_pl,set_int,set_bool,List.length_map,g1,g2,g3,g4,g5,he,hNl]
     have f1:=fin (max (v2:Int) v3) (hs.set k (max (v2:Int) v3)) (by rw [hstep]; omega) (by rfl)
     have f2:=finr (decide ((v3:Int)≤v2)) (by simp)
     exact⟨(k,(hs.set k (max (v2:Int) v3)),rs.set k (decide ((v3:Int)≤v2))),rfl,⟨by simp only; omega,f1.1,f2.1,f1.2,f2.2⟩,by simp only; omega⟩
end De
end Go.Proofs
namespace Go.Proofs
namespace De
open Go.Pv Go.Pv.Df
def edR(e:Int × List UInt8):AV:=.agg [.int .i64 e.1,.str e.2]
theorem ed_nr(e:Int × List UInt8):(edR e).nr1=true:=rfl
theorem ed_pl(e:Int × List UInt8):(edR e).pl=true:=rfl
theorem str_nr(l:List UInt8):(AV.str l).nr1=true:=rfl
theorem sP(l:List UInt8):(AV.str l).pl=true:=rfl
def eS(a b:List (List UInt8))(f g:Bool)(x:Nat × Nat × List (Int × List UInt8)):St :=
 ⟨[(0,.rptr (.agg [.sl 1 (a.map .str) f,.sl 1 (b.map .str) g,.sl 1 ((tabT a b 0).map rowV) false]) 0),(3,.vec 0 2 0 x.2.2.length),(4,.int .i64 x.1),(5,.int .i64 x.2.1)],[some ⟨92,x.2.2.map edR,true⟩]⟩
theorem edits_run(a b:List (List UInt8))(f g:Bool)(ha:a.length≤400)(hb:b.length≤400):Run Tryz.prog 85 [.rptr (.agg [.sl 1 (a.map .str) f,.sl 1 (b.map .str) g,.sl 1 ((tabT a b 0).map rowV) false]) 0] (.own 2 92 ((ed a b).map edR)):=by
 refine Tryz.run85 (by simp) ?_
 unfold Tryz.c85
 refine vZ ?_
 refine aw_loop (eS a b f g) (fun x=>x.1≤a.length∧x.2.1≤b.length∧x.2.2.length≤x.1+x.2.1∧ed a b=x.2.2 ++ ed (a.drop x.1) (b.drop x.2.1)) (fun x=>(a.length - x.1) +(b.length - x.2.1)) (0,0,[]) ?_ ⟨by simp,by simp,by simp,by simp⟩ ?_
 ·simp (disch:=try exact dq) only[↓pvd,pz,sC,List.map,seval,eS]
  try simp
 rintro ⟨i,k,out⟩ ⟨hi,hk,ho,he⟩
 simp only at hi hk ho he
 unfold eS Tryz.c85b0
 simp only
 have hln:(out.map edR).length=out.length:=by simp
 have hpl:(out.map edR).all AV.pl=true:=pl_map ed_pl
 have hap:∀ e,out.map edR ++ [edR e] =(out ++ [e]).map edR:=fun e=>by simp
 have hpl2:∀ e,((out ++ [e]).map edR).all AV.pl=true:=fun e=>pl_map ed_pl
 have hap1:∀(c:Int) (x:List UInt8),out.map edR ++ [AV.agg [.int .i64 c,.str x]] =(out ++ [(c,x)]).map edR:=fun c x=>hap (c,x)
 by_cases hi2:i < a.length
 ·have ga:(a.map AV.str)[i]?=some (.str a[i]!):=mG hi2
  have da:a.drop i=a[i]! :: a.drop (i+1):=by rw [getElem!_pos a i hi2]; exact List.drop_eq_getElem_cons hi2
  by_cases hk2:k < b.length
  ·have gb:(b.map AV.str)[k]?=some (.str b[k]!):=mG hk2
   have db:b.drop k=b[k]! :: b.drop (k+1):=by rw [getElem!_pos b k hk2]; exact List.drop_eq_getElem_cons hk2
   have gt:((tabT a b 0).map rowV)[i]?=some (.sl 1 ((rowT a b i).map .bool) false):=by
    simp [tabT,hi2,rowV]
   have gr:((rowT a b i).map AV.bool)[k]?=some (.bool (decide (lc (a.drop i) (b.drop (k+1))≤lc (a.drop (i+1)) (b.drop k)))):=by
    simp [rowT,hk2]
   have hed:ed (a.drop i) (b.drop k)=if a[i]! = b[k]! then(0,a[i]!) :: ed (a.drop (i+1)) (b.drop (k+1)) else if lc (a.drop i) (b.drop (k+1))≤lc (a.drop (i+1)) (b.drop k) then(1,a[i]!) :: ed (a.drop (i+1)) (b.drop k) else(2,b[k]!) :: ed (a.drop i) (b.drop (k+1)):=by
    rw [da,db,ed]
   have hTl:((tabT a b 0).map rowV).length=a.length:=by simp [tabT]
   have hrl:((rowT a b i).map AV.bool).length=b.length:=by simp [rowT]
   generalize hT:(tabT a b 0).map rowV=T at *
   by_cases heq:a[i]! = b[k]!
   ·rw [if_pos heq] at hed
    rw [heq] at ga
    generalize hrow:out.map edR=row at *
    simp (disch:=try exact dq) only[↓pvd,pz,sC,List.map,seval,List.length_map,ga,gb,ids_all hpl,ren_all hpl,hap1,iM ed_pl,rM ed_pl,hln]
    refine⟨(i+1,k+1,out ++ [(0,b[k]!)]),?_,⟨by simp only; omega,by simp only; omega,by simp; omega,?_⟩,by simp only; omega⟩
    ·simp
    ·rw [he,hed,heq]; simp
   ·rw [if_neg heq] at hed
    generalize hrow:out.map edR=row at *
    by_cases hc:lc (a.drop i) (b.drop (k+1))≤lc (a.drop (i+1)) (b.drop k)
    ·rw [if_pos hc] at hed
     rw [decide_eq_true hc] at gr
     simp (disch:=try exact dq) only[↓pvd,pz,sC,List.map,seval,List.length_map,ga,gb,heq,gt,gr,hTl,hrl,ids_all hpl,ren_all hpl,hap1,iM ed_pl,rM ed_pl,hln]
     refine⟨(i+1,k,out ++ [(1,a[i]!)]),?_,⟨by simp only; omega,by simp only; omega,by simp; omega,?_⟩,by simp only; omega⟩
     ·simp
     ·rw [he,hed]; simp
    ·rw [if_neg hc] at hed
     rw [decide_eq_false hc] at gr
     simp (disch:=try exact dq) only[↓pvd,pz,sC,List.map,seval,List.length_map,ga,gb,heq,gt,gr,hTl,hrl,ids_all hpl,ren_all hpl,hap1,iM ed_pl,rM ed_pl,hln]
     refine⟨(i,k+1,out ++ [(2,b[k]!)]),?_,⟨by simp only; omega,by simp only; omega,by simp; omega,?_⟩,by simp only; omega⟩
     ·simp
     ·rw [he,hed]; simp
  ·have ek:k=b.length:=by omega
   have hed:ed (a.drop i) (b.drop k) =(1,a[i]!) :: ed (a.drop (i+1)) (b.drop k):=by
    rw [da,ek,List.drop_length,ed]
   generalize hrow:out.map edR=row at *
   simp (disch:=try exact dq) only[↓pvd,pz,sC,List.map,seval,List.length_map,ga,ids_all hpl,ren_all hpl,hap1,iM ed_pl,rM ed_pl,hln]
   refine⟨(i+1,k,out ++ [(1,a[i]!)]),?_,⟨by simp only; omega,by simp only; omega,by simp; omega,?_⟩,by simp only; omega⟩
   ·simp
   ·rw [he,hed]; simp
 ·have ei:i=a.length:=by omega
  by_cases hk2:k < b.length
  ·have gb:(b.map AV.str)[k]?=some (.str b[k]!):=mG hk2
   have db:b.drop k=b[k]! :: b.drop (k+1):=by rw [getElem!_pos b k hk2]; exact List.drop_eq_getElem_cons hk2
   have hed:ed (a.drop i) (b.drop k) =(2,b[k]!) :: ed (a.drop i) (b.drop (k+1)):=by
    rw [db,ei,List.drop_length,ed]
   generalize hrow:out.map edR=row at *
   simp (disch:=try exact dq) only[↓pvd,pz,sC,List.map,seval,List.length_map,gb,ids_all hpl,ren_all hpl,hap1,iM ed_pl,rM ed_pl,hln]
   refine⟨(i,k+1,out ++ [(2,b[k]!)]),?_,⟨by simp only; omega,by simp only; omega,by simp; omega,?_⟩,by simp only; omega⟩
   ·simp
   ·rw [he,hed]; simp
  ·have ek:k=b.length:=by omega
   have hed:ed a b=out:=by rw [he,ei,ek,List.drop_length,List.drop_length,ed]; simp
   rw [hed]
   simp (disch:=try exact dq) only[↓pvd,pz,sC,List.map,seval,List.length_map]
   (refine Ends_rq [[.own 2 92]] ?_; simp (disch:=try exact dq) only[↓pvd,pz,sC,List.map,seval,iM ed_pl,rM ed_pl,mapO_map ed_nr,rows_map ed_nr,List.length_map]; exact⟨_,rfl,rfl,rfl⟩)
theorem drows_run(a b:List (List UInt8))(f g:Bool)(ha:a.length≤100000)(hb:b.length≤100000):Run Tryz.prog 51 [.sl 1 (a.map .str) f,.sl 1 (b.map .str) g] (if a.length≤400∧b.length≤400 then .tup [.own 2 92 ((ed a b).map edR),.int .i64 0] else .tup [.sl 0 [] true,.int .i64 3]):=by
 refine Tryz.run51 (by simp) ?_
 unfold Tryz.c51
 by_cases h:a.length≤400∧b.length≤400
 ·obtain ⟨h1,h2⟩:=h
  rw [if_pos ⟨h1,h2⟩]
  have q1:=reckon_run a b f g h1 h2
  have q2:=edits_run a b f g h1 h2
  generalize (tabT a b 0).map rowV=T at *
  simp (disch:=try exact dq) only[↓pvd,pz,sC,List.map,seval,List.length_map]
  refine aC q1 rfl rfl ?_
  refine vZ ?_
  refine aC q2 rfl rfl ?_
  refine vZ ?_
  (refine Ends_rq [[.own 2 92],[.snap]] ?_; simp (disch:=try exact dq) only[↓pvd,pz,sC,List.map,seval,iM ed_pl,rM ed_pl,mapO_map ed_nr,rows_map ed_nr,List.length_map]; exact⟨_,rfl,rfl,rfl⟩)
 ·rw [if_neg h]
  by_cases h1:a.length≤400
  ·have:400 < b.length:=by omega
   repeat' (first | (simp (disch:=try exact dq) only[↓pvd,pz,sC,List.map,seval,List.length_map,still]) | (with_reducible first|refine cB (fun _=>?_) (fun _=>?_)|refine gB (fun _=>?_) (fun _=>?_)|refine hB (fun _=>?_) (fun _=>?_)|refine cA ?_ ?_) | exact eZ | fail)
  ·have:400 < a.length:=by omega
   repeat' (first | (simp (disch:=try exact dq) only[↓pvd,pz,sC,List.map,seval,List.length_map,still]) | (with_reducible first|refine cB (fun _=>?_) (fun _=>?_)|refine gB (fun _=>?_) (fun _=>?_)|refine hB (fun _=>?_) (fun _=>?_)|refine cA ?_ ?_) | exact eZ | fail)
end De
end Go.Proofs
namespace Go.Proofs
namespace De
open Go.Pv Go.Pv.Df
def rcI(a b:List (List UInt8))(i c:Nat):Nat:=lc (a.take i).reverse (b.take c).reverse
def rcR(a b:List (List UInt8))(i:Nat):List Int:=(List.range (b.length+1)).map fun c=>((rcI a b i c:Nat):Int)
theorem rc_step(a b:List (List UInt8))(i k:Nat)(hi:i < a.length)(hk:k < b.length):rcI a b (i+1) (k+1)=if a[i]! = b[k]! then rcI a b i k+1 else max (rcI a b i (k+1)) (rcI a b (i+1) k):=by
 unfold rcI
 rw [take_snoc hi,take_snoc hk,List.reverse_append,List.reverse_append]
 simp only[List.reverse_cons,List.reverse_nil,List.nil_append,List.singleton_append]
 rw [lc_cons]
theorem rc_le(a b:List (List UInt8))(i k:Nat):rcI a b i k≤a.length:=by
 have:=lc_le (a.take i).reverse (b.take k).reverse
 simp only[List.length_reverse,List.length_take] at this
 unfold rcI
 omega
theorem common_run(a b:List (List UInt8))(f g:Bool)(ha:a.length≤400)(hb:b.length≤400):Run Tryz.prog 88 [.sl 1 (a.map .str) f,.sl 1 (b.map .str) g] (.int .i64 ((lc a b:Nat):Int)):=by
 refine Tryz.run88 (by simp) ?_
 unfold Tryz.c88
 have hz:AV.int .i64 0 :: List.replicate b.length (AV.int .i64 0) =(rcR a b 0).map (.int .i64):=by
  rw [← List.replicate_succ]
  apply List.ext_getElem
  ·simp [rcR]
  ·intro i h1 h2
   simp [rcR,rcI,lc_nil]
 have hz0:(rcR a b 0).length=b.length+1 ∧(rcR a b 0)[0]! = 0:=by
  refine⟨by simp [rcR],?_⟩
  rw [getElem!_pos _ _ (by simp [rcR])]
  simp [rcR,rcI,lc_nil]
 simp (disch:=try exact dq) only[↓pvd,pz,sC,List.map,seval,List.length_map,hz]
 refine aw_loop (fun i:Nat=>⟨[(0,.sl 1 (a.map .str) f),(1,.sl 1 (b.map .str) g),(5,.vec 0 1 0 (b.length+1)),(6,.int .i64 i)],[some ⟨3,(rcR a b i).map (.int .i64),true⟩]⟩) (fun i=>i≤a.length) (fun i=>a.length - i) 0 ?_ (by omega) ?_
 ·simp (disch:=try exact dq) only[↓pvd,pz,sC,List.map,seval,iM (int_pl .i64),rM (int_pl .i64)]
  try simp
 rintro i hi
 unfold Tryz.c88b1
 have hol:∀ c,c≤b.length →((rcR a b i).map (AV.int .i64))[c]?=some (.int .i64 ((rcI a b i c:Nat):Int)):=fun c hc=>by
  simp [rcR,Nat.lt_succ_of_le hc]
 have hOl:((rcR a b i).map (AV.int .i64)).length=b.length+1:=by simp [rcR]
 have hOp:((rcR a b i).map (AV.int .i64)).all AV.pl=true:=pl_map (int_pl .i64)
 by_cases hi2:i < a.length
 ·have ga:(a.map AV.str)[i]?=some (.str a[i]!):=mG hi2
  generalize hrow:(rcR a b i).map (AV.int .i64)=row at *
  simp (disch:=try exact dq) only[↓pvd,pz,sC,List.map,seval,List.length_map,hz,ids_all hOp,ren_all hOp,iM (int_pl .i64),rM (int_pl .i64)]
  refine aw_loop (fun x:Nat × List Int=>⟨[(0,.sl 1 (a.map .str) f),(1,.sl 1 (b.map .str) g),(5,.vec 0 1 0 (b.length+1)),(6,.int .i64 i),(7,.vec 1 1 0 (b.length+1)),(8,.int .i64 x.1)],[some ⟨3,row,true⟩,some ⟨3,x.2.map (.int .i64),true⟩]⟩)
   (fun x=>x.1≤b.length∧x.2.length=b.length+1∧∀ c≤x.1,x.2[c]! =((rcI a b (i+1) c:Nat):Int)) (fun x=>b.length - x.1) (0,rcR a b 0) ?_ ⟨by simp,hz0.1,?_⟩ ?_
  ·simp (disch:=try exact dq) only[↓pvd,pz,sC,List.map,seval,ids_all hOp,ren_all hOp,iM (int_pl .i64),rM (int_pl .i64)]
   try simp
  ·intro c hc
   have:c=0:=by simpa using hc
   subst this
   rw [hz0.2]
   simp [rcI,lc_nil']
  rintro ⟨k,ys⟩ ⟨hk,hyl,hY⟩
  simp only at hk hyl hY
  unfold Tryz.c88b0
  simp only
  have hyl2:(ys.map (AV.int .i64)).length=b.length+1:=by simp [hyl]
  by_cases hk2:k < b.length
  ·have gb:(b.map AV.str)[k]?=some (.str b[k]!):=mG hk2
   have g1:=hol k (by omega)
   have g2:=hol (k+1) (by omega)
   have Y0:=hY k (Nat.le_refl _)
   have g3:(ys.map (AV.int .i64))[k]?=some (.int .i64 ((rcI a b (i+1) k:Nat):Int)):=by rw [mG (by omega),Y0]
   have hst:=rc_step a b i k hi2 hk2
   have b1:=rc_le a b i k
   have b2:=rc_le a b i (k+1)
   have b3:=rc_le a b (i+1) k
   have fin:∀(v:Int) (ys':List Int),v =((rcI a b (i+1) (k+1):Nat):Int)→ys'=ys.set (k+1) v→ys'.length=b.length+1∧∀ c≤k+1,ys'[c]! =((rcI a b (i+1) c:Nat):Int):=fun v ys' hv h=>by
    subst h
    refine⟨by simp [hyl],fun c hc=>?_⟩
    rw [getElem!_pos _ _ (by simp [hyl]; omega),List.getElem_set]
    by_cases e:k+1=c
    ·rw [if_pos e,hv,e]
    ·rw [if_neg e]
     have:=hY c (by omega)
     rwa [getElem!_pos ys c (by omega)] at this
   generalize rcI a b (i+1) (k+1)=V at *
   generalize rcI a b i k=v1 at *
   generalize rcI a b i (k+1)=v2 at *
   generalize rcI a b (i+1) k=v3 at *
   have hself:∀ v:Int,((ys.set (k+1) v).map (AV.int .i64))[k+1]?=some (.int .i64 v):=fun v=>by simp [hyl,hk2]
   by_cases heq:a[i]! = b[k]!
   ·rw [if_pos heq] at hst
    rw [heq] at ga
    by_cases hgt:(v3:Int) < v2
    ·repeat' (first | (simp (disch:=try exact dq) only[↓pvd,pz,sC,List.map,seval,List.length_map,ga,gb,g1,g2,g3,hself,set_int,hOl,hyl2,hyl,List.length_set,ids_all hOp,ren_all hOp,iM (int_pl .i64),rM (int_pl .i64),still]) | (with_reducible first|refine cB (fun _=>?_) (fun _=>?_)|refine gB (fun _=>?_) (fun _=>?_)|refine hB (fun _=>?_) (fun _=>?_)|refine cA ?_ ?_) | exact eZ | fail)
     have f1:=fin ((v1:Int)+1) (((ys.set (k+1) (v3:Int)).set (k+1) (v2:Int)).set (k+1) ((v1:Int)+1)) (by rw [hst]; omega) (by rw [List.set_set,List.set_set])
     exact⟨(k+1,((ys.set (k+1) (v3:Int)).set (k+1) (v2:Int)).set (k+1) ((v1:Int)+1)),by simp,⟨by simp only; omega,f1.1,f1.2⟩,by simp only; omega⟩
    ·repeat' (first | (simp (disch:=try exact dq) only[↓pvd,pz,sC,List.map,seval,List.length_map,ga,gb,g1,g2,g3,hself,set_int,hOl,hyl2,hyl,List.length_set,ids_all hOp,ren_all hOp,iM (int_pl .i64),rM (int_pl .i64),still]) | (with_reducible first|refine cB (fun _=>?_) (fun _=>?_)|refine gB (fun _=>?_) (fun _=>?_)|refine hB (fun _=>?_) (fun _=>?_)|refine cA ?_ ?_) | exact eZ | fail)
     have f1:=fin ((v1:Int)+1) ((ys.set (k+1) (v3:Int)).set (k+1) ((v1:Int)+1)) (by rw [hst]; omega) (by rw [List.set_set])
     exact⟨(k+1,(ys.set (k+1) (v3:Int)).set (k+1) ((v1:Int)+1)),by simp,⟨by simp only; omega,f1.1,f1.2⟩,by simp only; omega⟩
   ·rw [if_neg heq] at hst
    have heqf:=heq
    by_cases hgt:(v3:Int) < v2
    ·repeat' (first | (simp (disch:=try exact dq) only[↓pvd,pz,sC,List.map,seval,List.length_map,ga,gb,g1,g2,g3,hself,set_int,hOl,hyl2,hyl,heqf,List.length_set,ids_all hOp,ren_all hOp,iM (int_pl .i64),rM (int_pl .i64),still]) | (with_reducible first|refine cB (fun _=>?_) (fun _=>?_)|refine gB (fun _=>?_) (fun _=>?_)|refine hB (fun _=>?_) (fun _=>?_)|refine cA ?_ ?_) | exact eZ | fail)
     have f1:=fin (v2:Int) ((ys.set (k+1) (v3:Int)).set (k+1) (v2:Int)) (by rw [hst]; omega) (by rw [List.set_set])
     exact⟨(k+1,(ys.set (k+1) (v3:Int)).set (k+1) (v2:Int)),by simp,⟨by simp only; omega,f1.1,f1.2⟩,by simp only; omega⟩
    ·repeat' (first | (simp (disch:=try exact dq) only[↓pvd,pz,sC,List.map,seval,List.length_map,ga,gb,g1,g2,g3,hself,set_int,hOl,hyl2,hyl,heqf,List.length_set,ids_all hOp,ren_all hOp,iM (int_pl .i64),rM (int_pl .i64),still]) | (with_reducible first|refine cB (fun _=>?_) (fun _=>?_)|refine gB (fun _=>?_) (fun _=>?_)|refine hB (fun _=>?_) (fun _=>?_)|refine cA ?_ ?_) | exact eZ | fail)
     have f1:=fin (v3:Int) (ys.set (k+1) (v3:Int)) (by rw [hst]; omega) (by rfl)
     exact⟨(k+1,ys.set (k+1) (v3:Int)),by simp,⟨by simp only; omega,f1.1,f1.2⟩,by simp only; omega⟩
  ·have ek:k=b.length:=by omega
   have hys:ys=rcR a b (i+1):=by
    apply List.ext_getElem
    ·simp [rcR,hyl]
    ·intro c h1 h2
     have:=hY c (by omega)
     rw [getElem!_pos ys c h1] at this
     rw [this]
     simp [rcR]
   simp (disch:=try exact dq) only[↓pvd,pz,sC,List.map,seval,List.length_map,ids_all hOp,ren_all hOp,iM (int_pl .i64),rM (int_pl .i64)]
   exact⟨i+1,by rw [hys]; simp,hi2,by omega⟩
 ·have ei:i=a.length:=by omega
  have g:=hol b.length (Nat.le_refl _)
  have hlc:rcI a b i b.length=lc a b:=by
   unfold rcI
   rw [ei,List.take_length,List.take_length,lc_rev]
  rw [hlc] at g
  simp (disch:=try exact dq) only[↓pvd,pz,sC,List.map,seval,List.length_map,g,hOl]
  exact eZ
end De
end Go.Proofs
namespace Go.Proofs
namespace De
open Go.Pv Go.Pv.Df
theorem rrows_run(a b:List (List UInt8))(f g:Bool)(ha:a.length≤400)(hb:b.length≤400):Run Tryz.prog 54 [.sl 1 (a.map .str) f,.sl 1 (b.map .str) g] (.tup [.own 2 94 ((ed a b).map edR),.int .i64 0]):=by
 refine Tryz.run54 (by simp) ?_
 unfold Tryz.c54
 simp (disch:=try exact dq) only[↓pvd,pz,sC,List.map,seval,List.length_map]
 refine aw_loop (fun x:List (List UInt8) × List (List UInt8) × List (Int × List UInt8)=>⟨[(0,.sl 1 (x.1.map .str) f),(1,.sl 1 (x.2.1.map .str) g),(6,.vec 0 2 0 x.2.2.length)],[some ⟨94,x.2.2.map edR,true⟩]⟩)
  (fun x=>x.1.length≤a.length∧x.2.1.length≤b.length∧x.2.2.length+x.1.length+x.2.1.length≤a.length+b.length∧ed a b=x.2.2 ++ ed x.1 x.2.1) (fun x=>x.1.length+x.2.1.length) (a,b,[]) ?_ ⟨by simp,by simp,by simp,by simp⟩ ?_
 ·refine vZ ?_
  try simp
 rintro ⟨a',b',out⟩ ⟨h1,h2,h3,he⟩
 simp only at h1 h2 h3 he
 unfold Tryz.c54b0
 simp only
 have hln:(out.map edR).length=out.length:=by simp
 have hpl:(out.map edR).all AV.pl=true:=pl_map ed_pl
 have hap1:∀(c:Int) (x:List UInt8),out.map edR ++ [AV.agg [.int .i64 c,.str x]] =(out ++ [(c,x)]).map edR:=fun c x=>by simp [edR]
 generalize hrow:out.map edR=row at *
 rcases a' with _ | ⟨x,xs⟩ <;> rcases b' with _ | ⟨y,ys⟩
 ·rw [ed,List.append_nil] at he
  rw [he,← hrow]
  rw [← hrow] at hln
  simp (disch:=try exact dq) only[↓pvd,pz,sC,List.map,seval,List.map_nil]
  (refine Ends_rq [[.own 2 94],[.snap]] ?_; simp (disch:=try exact dq) only[↓pvd,pz,sC,List.map,seval,iM ed_pl,rM ed_pl,mapO_map ed_nr,rows_map ed_nr,List.length_map]; exact⟨_,rfl,rfl,rfl⟩)
 ·simp only[List.length_cons,List.length_nil] at h1 h2 h3
  rw [ed] at he
  simp (disch:=try exact dq) only[↓pvd,pz,sC,List.map,seval,List.map_nil,List.map_cons,List.length_map,ids_all hpl,ren_all hpl,hap1,iM ed_pl,rM ed_pl,hln]
  refine⟨([],ys,out ++ [(2,y)]),?_,⟨by simp,by simp only; omega,by simp; omega,by rw [he]; simp⟩,by simp⟩
  simp
 ·simp only[List.length_cons,List.length_nil] at h1 h2 h3
  rw [ed] at he
  simp (disch:=try exact dq) only[↓pvd,pz,sC,List.map,seval,List.map_nil,List.map_cons,List.length_map,ids_all hpl,ren_all hpl,hap1,iM ed_pl,rM ed_pl,hln]
  refine⟨(xs,[],out ++ [(1,x)]),?_,⟨by simp only; omega,by simp,by simp; omega,by rw [he]; simp⟩,by simp⟩
  simp
 ·simp only[List.length_cons] at h1 h2 h3
  rw [ed] at he
  by_cases hxy:x=y
  ·rw [if_pos hxy] at he
   subst hxy
   simp (disch:=try exact dq) only[↓pvd,pz,sC,List.map,seval,List.map_nil,List.map_cons,List.length_map,ids_all hpl,ren_all hpl,hap1,iM ed_pl,rM ed_pl,hln]
   refine⟨(xs,ys,out ++ [(0,x)]),?_,⟨by simp only; omega,by simp only; omega,by simp; omega,by rw [he]; simp⟩,by simp; omega⟩
   simp
  ·rw [if_neg hxy] at he
   have q1:=common_run xs (y :: ys) f g (by omega) (by simp; omega)
   have q2:=common_run (x :: xs) ys f g (by simp; omega) (by omega)
   simp only[List.map_cons] at q1 q2
   by_cases hc:lc (x :: xs) ys≤lc xs (y :: ys)
   ·rw [if_pos hc] at he
    generalize lc (x :: xs) ys=v1 at *
    generalize lc xs (y :: ys)=v2 at *
    have hc2:(v1:Int)≤v2:=by omega
    repeat' (first | (simp (disch:=try exact dq) only[↓pvd,pz,sC,List.map,seval,List.map_nil,List.map_cons,List.length_map,hxy,ids_all hpl,ren_all hpl,hap1,iM ed_pl,rM ed_pl,hln,still]) | (with_reducible first|refine cB (fun _=>?_) (fun _=>?_)|refine gB (fun _=>?_) (fun _=>?_)|refine hB (fun _=>?_) (fun _=>?_)|refine cA ?_ ?_) | refine aC q1 rfl rfl ?_ | refine aD q1 rfl rfl (fun _=>rfl) ?_ | refine aC q2 rfl rfl ?_ | refine aD q2 rfl rfl (fun _=>rfl) ?_ | exact eZ | fail)
    refine⟨(xs,y :: ys,out ++ [(1,x)]),?_,⟨by simp only; omega,by simp; omega,by simp; omega,by rw [he]; simp⟩,by simp⟩
    simp
   ·rw [if_neg hc] at he
    generalize lc (x :: xs) ys=v1 at *
    generalize lc xs (y :: ys)=v2 at *
    have hc2:¬(v1:Int)≤v2:=by omega
    repeat' (first | (simp (disch:=try exact dq) only[↓pvd,pz,sC,List.map,seval,List.map_nil,List.map_cons,List.length_map,hxy,ids_all hpl,ren_all hpl,hap1,iM ed_pl,rM ed_pl,hln,still]) | (with_reducible first|refine cB (fun _=>?_) (fun _=>?_)|refine gB (fun _=>?_) (fun _=>?_)|refine hB (fun _=>?_) (fun _=>?_)|refine cA ?_ ?_) | refine aC q1 rfl rfl ?_ | refine aD q1 rfl rfl (fun _=>rfl) ?_ | refine aC q2 rfl rfl ?_ | refine aD q2 rfl rfl (fun _=>rfl) ?_ | exact eZ | fail)
    refine⟨(x :: xs,ys,out ++ [(2,y)]),?_,⟨by simp; omega,by simp only; omega,by simp; omega,by rw [he]; simp⟩,by simp⟩
    simp
end De
end Go.Proofs
namespace Go.Proofs
namespace De
open Go.Pv Go.Pv.Df
theorem told_run(l:List (Int × List UInt8))(f:Bool)(hl:l.length≤1000):Run Tryz.prog 20 [.sl 2 (l.map edR) f] (.own 2 94 (l.map edR)):=by
 refine Tryz.run20 (by simp) ?_
 unfold Tryz.c20
 simp (disch:=try exact dq) only[↓pvd,pz,sC,List.map,seval,List.length_map]
 refine aw_loop (fun k:Nat=>⟨[(3,.vec 0 2 0 k),(6,.sl 2 (l.map edR) f),(7,.int .i64 l.length),(8,.int .i64 k)],[some ⟨94,(l.take k).map edR,true⟩]⟩) (fun k=>k≤l.length) (fun k=>l.length - k) 0 ?_ (by omega) ?_
 ·refine vZ ?_
  try simp
 intro k hk
 unfold Tryz.c20b0
 have htl:((l.take k).map edR).length=k:=by simp; omega
 have hpl:((l.take k).map edR).all AV.pl=true:=pl_map ed_pl
 by_cases hx:k < l.length
 ·have hgi:(l.map edR)[k]?=some (.agg [.int .i64 l[k]!.1,.str l[k]!.2]):=mG hx
  have hap:(l.take k).map edR ++ [AV.agg [.int .i64 l[k]!.1,.str l[k]!.2]] =(l.take (k+1)).map edR:=by rw [take_snoc hx]; simp [edR]
  generalize hrow:(l.take k).map edR=row at *
  simp (disch:=try exact dq) only[↓pvd,pz,sC,List.map,seval,hgi,ids_all hpl,ren_all hpl,iM ed_pl,rM ed_pl,htl,hap]
  exact⟨k+1,by simp,hx,by omega⟩
 ·have e:k=l.length:=by omega
  have htk:l.take k=l:=List.take_of_length_le (by omega)
  rw [htk] at htl ⊢
  simp (disch:=try exact dq) only[↓pvd,pz,sC,List.map,seval,htl]
  (refine Ends_rq [[.own 2 94]] ?_; simp (disch:=try exact dq) only[↓pvd,pz,sC,List.map,seval,iM ed_pl,rM ed_pl,mapO_map ed_nr,rows_map ed_nr,List.length_map,htl,e]; exact⟨_,rfl,rfl,rfl⟩)
theorem same_run(l:List (Int × List UInt8))(f g:Bool)(hl:l.length≤1000):Run Tryz.prog 19 [.sl 2 (l.map edR) f,.sl 2 (l.map edR) g] (.bool true):=by
 refine Tryz.run19 (by simp) ?_
 unfold Tryz.c19
 simp (disch:=try exact dq) only[↓pvd,pz,sC,List.map,seval,List.length_map]
 refine aw_loop (fun k:Nat=>⟨[(0,.sl 2 (l.map edR) f),(1,.sl 2 (l.map edR) g),(5,.int .i64 k)],[]⟩) (fun k=>k≤l.length) (fun k=>l.length - k) 0 ?_ (by omega) ?_
 ·refine vZ ?_
  try simp
 intro k hk
 unfold Tryz.c19b0
 by_cases hx:k < l.length
 ·have hgi:(l.map edR)[k]?=some (.agg [.int .i64 l[k]!.1,.str l[k]!.2]):=mG hx
  repeat' (first | (simp (disch:=try exact dq) only[↓pvd,pz,sC,List.map,seval,hgi,List.length_map,eqCells,Option.map_some,beq_self_eq_true,Bool.true_and,Bool.and_true,Bool.and_self,Bool.not_true,still]) | (with_reducible first|refine cB (fun _=>?_) (fun _=>?_)|refine gB (fun _=>?_) (fun _=>?_)|refine hB (fun _=>?_) (fun _=>?_)|refine cA ?_ ?_) | exact eZ | fail)
  exact⟨k+1,by simp,hx,by omega⟩
 ·repeat' (first | (simp (disch:=try exact dq) only[↓pvd,pz,sC,List.map,seval,List.length_map,still]) | (with_reducible first|refine cB (fun _=>?_) (fun _=>?_)|refine gB (fun _=>?_) (fun _=>?_)|refine hB (fun _=>?_) (fun _=>?_)|refine cA ?_ ?_) | exact eZ | fail)
theorem cnt_snoc(l:List (Int × List UInt8))(e:Int × List UInt8):cnt (l ++ [e])=if e.1=0 then cnt l else cnt l+1:=by
 unfold cnt
 by_cases h:e.1=0 <;> simp [h]
theorem cnt_le(l:List (Int × List UInt8)):cnt l≤l.length:=List.length_filter_le _ _
theorem size_run(l:List (Int × List UInt8))(f:Bool)(hl:l.length≤1000):Run Tryz.prog 21 [.sl 2 (l.map edR) f] (.int .i64 (cnt l:Nat)):=by
 refine Tryz.run21 (by simp) ?_
 unfold Tryz.c21
 simp (disch:=try exact dq) only[↓pvd,pz,sC,List.map,seval,List.length_map]
 refine aw_loop (fun k:Nat=>⟨[(3,.int .i64 (cnt (l.take k):Nat)),(6,.sl 2 (l.map edR) f),(7,.int .i64 l.length),(8,.int .i64 k)],[]⟩) (fun k=>k≤l.length) (fun k=>l.length - k) 0 ?_ (by omega) ?_
 ·refine vZ ?_
  try simp [cnt]
 intro k hk
 unfold Tryz.c21b0
 have hc:=cnt_le (l.take k)
 simp only[List.length_take] at hc
 by_cases hx:k < l.length
 ·have hgi:(l.map edR)[k]?=some (.agg [.int .i64 l[k]!.1,.str l[k]!.2]):=mG hx
  have hs:cnt (l.take (k+1))=if l[k]!.1=0 then cnt (l.take k) else cnt (l.take k)+1:=by rw [take_snoc hx,cnt_snoc]
  by_cases h0:l[k]!.1=0
  ·rw [if_pos h0] at hs
   rw [h0] at hgi
   repeat' (first | (simp (disch:=try exact dq) only[↓pvd,pz,sC,List.map,seval,hgi,still]) | (with_reducible first|refine cB (fun _=>?_) (fun _=>?_)|refine gB (fun _=>?_) (fun _=>?_)|refine hB (fun _=>?_) (fun _=>?_)|refine cA ?_ ?_) | exact eZ | fail)
   exact⟨k+1,by rw [hs]; simp,hx,by omega⟩
  ·rw [if_neg h0] at hs
   generalize hcc:cnt (l.take k)=C at *
   repeat' (first | (simp (disch:=try exact dq) only[↓pvd,pz,sC,List.map,seval,hgi,still]) | (with_reducible first|refine cB (fun _=>?_) (fun _=>?_)|refine gB (fun _=>?_) (fun _=>?_)|refine hB (fun _=>?_) (fun _=>?_)|refine cA ?_ ?_) | exact eZ | fail)
   exact⟨k+1,by rw [hs]; simp,hx,by omega⟩
 ·have htk:l.take k=l:=List.take_of_length_le (by omega)
  rw [htk]
  exact kZ
end De
end Go.Proofs
namespace Go.Proofs
namespace De
open Go.Pv Go.Pv.Df
theorem ed_ex:ed ([[97],[98]]:List (List UInt8)) [[98],[99]]=[(1,[97]),(0,[98]),(2,[99])]:=by
 simp [ed,lc,lcRow]
theorem works_run:Run Tryz.prog 16 [] (.bool true):=by
 have q1:=run_frz (drows_run [[97],[98]] [[98],[99]] false false (by simp) (by simp))
 rw [if_pos (by simp),ed_ex] at q1
 refine Tryz.run16 (by simp) ?_
 unfold Tryz.c16
 generalize hN:(401:Int)=N
 have hN1:0≤N∧N≤500:=by omega
 have q2:=run_frz (drows_run (List.replicate N.toNat []) [] false true (by simp; omega) (by simp))
 rw [if_neg (by simp; omega)] at q2
 rw [show List.map AV.str (List.replicate N.toNat [])=List.replicate N.toNat (AV.str []) by rw [List.map_replicate]] at q2
 have hnr:(List.replicate N.toNat (AV.str [])).all AV.nr1=true:=by rw [List.all_eq_true]; intro x hx; rw [(List.mem_replicate.1 hx).2]; rfl
 have hml:(List.replicate N.toNat (AV.str [])).length=N.toNat:=by simp
 clear hN
 refine vZ ?_
 refine awR_callS (ms:=[]) q1 (by simp (disch:=try exact dr) only[↓pvd,pz,sC,List.map,seval]; rfl) (by simp (disch:=try exact dr) only[↓pvd,pz,sC,List.map,seval]) ?_
 simp (disch:=try exact dq) only[↓pvd,pz,sC,List.map,seval,still,frz,frzA,frzC,edR]
 generalize List.replicate N.toNat (AV.str [])=row at *
 refine awR_callS (ms:=[.snap,.nil 1 true]) q2 (by simp (disch:=try exact dq) only[↓pvd,pz,sC,List.map,seval,mapO_nr hnr,rows_nr hnr,hml]; rfl) (by simp (disch:=try exact dq) only[↓pvd,pz,sC,List.map,seval,mapO_nr hnr,rows_nr hnr,hml]) ?_
 simp (disch:=try exact dq) only[↓pvd,pz,sC,List.map,seval,still,frz,frzA,frzC,edR,eqCells,Option.map_some,beq_self_eq_true,Bool.true_and,Bool.and_true,Bool.and_self]
 exact eZ
end De
end Go.Proofs
namespace Go.Proofs
open Go.Pv Go.Pv.Df
open De (edR ed_nr ed_pl drows_run told_run size_run works_run)
theorem cfX_e{b:List UInt8}{e:Int}(h:cfX b=.inl e):e≠0:=by
 unfold cfX at h
 cases hr:readX b with
 | inl x=>rw [hr] at h; cases h; exact readX_e (r:=x.1) hr
 | inr l=>rw [hr] at h; cases h
theorem cfX_l{b:List UInt8}{x:List (List UInt8)}(h:cfX b=.inr x):x.length≤400:=by
 unfold cfX at h
 cases hr:readX b with
 | inl x=>rw [hr] at h; cases h
 | inr l=>rw [hr] at h; cases h; have:=(readX_w hr).2; simpa using this
theorem scfg_err{b:List UInt8}{f:Bool}{e:Int}(hb:b.length≤100000)(h:cfX b=.inl e):Run Tryz.prog 52 [.sl 1 (bys b) f] (.tup [.sl 0 [] true,.int .i64 e]):=by
 have q:=run_frz (scfg_run b f hb)
 rw [h] at q
 exact q
theorem scfg_ok{b:List UInt8}{f:Bool}{x:List (List UInt8)}(hb:b.length≤100000)(h:cfX b=.inr x):Run Tryz.prog 52 [.sl 1 (bys b) f] (.tup [.sl 1 (x.map .str) false,.int .i64 0]):=by
 have q:=run_frz (scfg_run b f hb)
 rw [h] at q
 exact q
theorem rcfg_err{b:List UInt8}{f:Bool}{e:Int}(hb:b.length≤100000)(h:cfX b=.inl e):Run Tryz.prog 53 [.sl 1 (bys b) f] (.tup [.sl 0 [] true,.int .i64 e]):=by
 have q:=run_frz (rcfg_run b f hb)
 rw [h] at q
 exact q
theorem rcfg_ok{b:List UInt8}{f:Bool}{x:List (List UInt8)}(hb:b.length≤100000)(h:cfX b=.inr x):Run Tryz.prog 53 [.sl 1 (bys b) f] (.tup [.sl 1 (x.map .str) false,.int .i64 0]):=by
 have q:=run_frz (rcfg_run b f hb)
 rw [h] at q
 exact q
noncomputable def cfE(a b:List UInt8):Int ⊕ List (Int × List UInt8):=match cfX a with
 | .inl e=>.inl e
 | .inr x=>match cfX b with
  | .inl e=>.inl e
  | .inr y=>.inr (ed x y)
def cfEA(ty:TypeId):Int ⊕ List (Int × List UInt8)→AV
 | .inl e=>.tup [.sl 0 [] true,.int .i64 e]
 | .inr l=>.tup [.own 2 ty (l.map edR),.int .i64 0]
theorem sconf_run(a b:List UInt8)(f g:Bool)(ha:a.length≤100000)(hb:b.length≤100000):Run Tryz.prog 17 [.sl 1 (bys a) f,.sl 1 (bys b) g] (cfEA 92 (cfE a b)):=by
 refine Tryz.run17 (by simp) ?_
 unfold Tryz.c17 cfE
 cases h1:cfX a with
 | inl e =>
  have q1:=scfg_err (f:=f) ha h1
  have he:=cfX_e h1
  dsimp only
  unfold cfEA
  clear h1
  generalize bys a=xa at *
  generalize bys b=xb at *
  refine wZ ?_
  refine aC q1 rfl rfl ?_
  simp (disch:=try exact dq) only[↓pvd,pz,sC,List.map,seval,he]
  exact eZ
 | inr x =>
  have q1:=scfg_ok (f:=f) ha h1
  have hx:=cfX_l h1
  dsimp only
  cases h2:cfX b with
  | inl e =>
   have q2:=scfg_err (f:=g) hb h2
   have he:=cfX_e h2
   dsimp only
   unfold cfEA
   clear h1 h2
   generalize bys a=xa at *
   generalize bys b=xb at *
   generalize x.map AV.str=xr at *
   refine wZ ?_
   refine aC q1 rfl rfl ?_
   refine wZ ?_
   refine aC q2 rfl rfl ?_
   simp (disch:=try exact dq) only[↓pvd,pz,sC,List.map,seval,he]
   exact eZ
  | inr y =>
   have q2:=scfg_ok (f:=g) hb h2
   have hy:=cfX_l h2
   have q3:=drows_run x y false false (by omega) (by omega)
   rw [if_pos ⟨hx,hy⟩] at q3
   dsimp only
   unfold cfEA
   clear h1 h2
   generalize bys a=xa at *
   generalize bys b=xb at *
   generalize x.map AV.str=xr at *
   generalize y.map AV.str=yr at *
   have hel:((ed x y).map edR).length =(ed x y).length:=by simp
   generalize ed x y=l at *
   refine wZ ?_
   refine aC q1 rfl rfl ?_
   refine wZ ?_
   refine aC q2 rfl rfl ?_
   refine wZ ?_
   refine aC q3 rfl rfl ?_
   simp (disch:=try exact dq) only[↓pvd,pz,sC,List.map,seval,hel]
   (refine Ends_rq [[.own 2 92],[.snap]] ?_; simp (disch:=try exact dq) only[↓pvd,pz,sC,List.map,seval,mapO_map ed_nr,rows_map ed_nr,hel]; exact⟨_,rfl,rfl,rfl⟩)
theorem rconf_run(a b:List UInt8)(f g:Bool)(ha:a.length≤100000)(hb:b.length≤100000):Run Tryz.prog 18 [.sl 1 (bys a) f,.sl 1 (bys b) g] (cfEA 94 (cfE a b)):=by
 refine Tryz.run18 (by simp) ?_
 unfold Tryz.c18 cfE
 cases h1:cfX a with
 | inl e =>
  have q1:=rcfg_err (f:=f) ha h1
  have he:=cfX_e h1
  dsimp only
  unfold cfEA
  clear h1
  generalize bys a=xa at *
  generalize bys b=xb at *
  refine wZ ?_
  refine aC q1 rfl rfl ?_
  simp (disch:=try exact dq) only[↓pvd,pz,sC,List.map,seval,he]
  exact eZ
 | inr x =>
  have q1:=rcfg_ok (f:=f) ha h1
  have hx:=cfX_l h1
  dsimp only
  cases h2:cfX b with
  | inl e =>
   have q2:=rcfg_err (f:=g) hb h2
   have he:=cfX_e h2
   dsimp only
   unfold cfEA
   clear h1 h2
   generalize bys a=xa at *
   generalize bys b=xb at *
   generalize x.map AV.str=xr at *
   refine wZ ?_
   refine aC q1 rfl rfl ?_
   refine wZ ?_
   refine aC q2 rfl rfl ?_
   simp (disch:=try exact dq) only[↓pvd,pz,sC,List.map,seval,he]
   exact eZ
  | inr y =>
   have q2:=rcfg_ok (f:=g) hb h2
   have hy:=cfX_l h2
   have q3:=De.rrows_run x y false false hx hy
   dsimp only
   unfold cfEA
   clear h1 h2
   generalize bys a=xa at *
   generalize bys b=xb at *
   generalize x.map AV.str=xr at *
   generalize y.map AV.str=yr at *
   have hel:((ed x y).map edR).length =(ed x y).length:=by simp
   generalize ed x y=l at *
   refine wZ ?_
   refine aC q1 rfl rfl ?_
   refine wZ ?_
   refine aC q2 rfl rfl ?_
   refine wZ ?_
   refine aC q3 rfl rfl ?_
   simp (disch:=try exact dq) only[↓pvd,pz,sC,List.map,seval,hel]
   (refine Ends_rq [[.own 2 94],[.snap]] ?_; simp (disch:=try exact dq) only[↓pvd,pz,sC,List.map,seval,mapO_map ed_nr,rows_map ed_nr,hel]; exact⟨_,rfl,rfl,rfl⟩)
theorem told_nil:Run Tryz.prog 20 [.sl 0 [] true] (.own 2 94 []):=by
 refine Tryz.run20 (by simp) ?_
 unfold Tryz.c20
 refine wZ ?_
 refine aw_loop (fun _:Nat=>⟨[(3,.vec 0 2 0 0),(6,.sl 0 [] true),(7,.int .i64 0),(8,.int .i64 0)],[some ⟨94,[],true⟩]⟩) (fun _=>True) (fun _=>0) 0 ?_ trivial ?_
 ·refine vZ ?_
  try first|rfl|trivial
 intro k hk
 unfold Tryz.c20b0
 refine wZ ?_
 (refine Ends_rq [[.own 2 94]] ?_; simp (disch:=try exact dq) only[↓pvd,pz,sC,List.map,seval]; exact⟨_,rfl,rfl,rfl⟩)
theorem same_nil(n:Nat)(f:Bool):Run Tryz.prog 19 [.sl n [] f,.sl 0 [] true] (.bool true):=by
 refine Tryz.run19 (by simp) ?_
 unfold Tryz.c19
 refine wZ ?_
 refine aw_loop (fun _:Nat=>⟨[(0,.sl n [] f),(1,.sl 0 [] true),(5,.int .i64 0)],[]⟩) (fun _=>True) (fun _=>0) 0 ?_ trivial ?_
 ·refine vZ ?_
  try first|rfl|trivial
 intro k hk
 unfold Tryz.c19b0
 refine wZ ?_
 exact eZ
theorem diffConfigs_run(a b:List UInt8)(ha:a.length≤maxLen)(hb:b.length≤maxLen):Run Tryz.prog 5 [.sl 1 (bys a) false,.sl 1 (bys b) false] (.bool true):=by
 have q0:=works_run
 simp only[maxLen] at ha hb
 have hal:(bys a).length=a.length:=by simp [bys]
 have hbl:(bys b).length=b.length:=by simp [bys]
 refine Tryz.run5 (by simp) ?_
 unfold Tryz.c5
 by_cases h1:1500 < a.length
 ·generalize bys a=xa at *
  generalize bys b=xb at *
  simp (disch:=try exact dq) only[↓pvd,pz,sC,List.map,seval,hal,hbl]
  refine aC q0 rfl rfl ?_
  refine wZ ?_
  exact eZ
 by_cases h2:1500 < b.length
 ·generalize bys a=xa at *
  generalize bys b=xb at *
  simp (disch:=try exact dq) only[↓pvd,pz,sC,List.map,seval,hal,hbl]
  refine aC q0 rfl rfl ?_
  refine wZ ?_
  exact eZ
 have q1:=run_frz (sconf_run a b false false (by omega) (by omega))
 have q2:=run_frz (rconf_run a b false false (by omega) (by omega))
 cases hc:cfE a b with
 | inl e =>
  rw [hc] at q1 q2
  have q3:=run_frz told_nil
  have q4:=same_nil 2 false
  unfold cfEA at q1 q2
  simp only[frz,frzA,frzC,List.map_cons,List.map_nil] at q1 q2 q3
  clear hc
  generalize bys a=xa at *
  generalize bys b=xb at *
  simp (disch:=try exact dq) only[↓pvd,pz,sC,List.map,seval,hal,hbl]
  refine aC q1 rfl rfl ?_
  refine wZ ?_
  refine aC q2 rfl rfl ?_
  refine wZ ?_
  refine aC q3 rfl rfl ?_
  refine wZ ?_
  refine aC q4 rfl rfl ?_
  refine wZ ?_
  refine aC q0 rfl rfl ?_
  refine wZ ?_
  exact eZ
 | inr l =>
  have hl:l.length≤1000:=by
   unfold cfE at hc
   cases h3:cfX a with
   | inl e=>rw [h3] at hc; cases hc
   | inr x =>
    cases h4:cfX b with
    | inl e=>rw [h3,h4] at hc; cases hc
    | inr y =>
     rw [h3,h4] at hc
     cases hc
     have:=ed_len _ x y (Nat.le_refl _)
     have:=cfX_l h3
     have:=cfX_l h4
     omega
  rw [hc] at q1 q2
  have q3:=run_frz (told_run l false hl)
  have q4:=De.same_run l false false hl
  unfold cfEA at q1 q2
  simp only[frz,frzA,frzC,List.map_cons,List.map_nil] at q1 q2 q3
  clear hc
  generalize bys a=xa at *
  generalize bys b=xb at *
  generalize l.map edR=le at *
  simp (disch:=try exact dq) only[↓pvd,pz,sC,List.map,seval,hal,hbl]
  refine aC q1 rfl rfl ?_
  refine wZ ?_
  refine aC q2 rfl rfl ?_
  refine wZ ?_
  refine aC q3 rfl rfl ?_
  refine wZ ?_
  refine aC q4 rfl rfl ?_
  refine wZ ?_
  refine aC q0 rfl rfl ?_
  refine wZ ?_
  exact eZ
theorem diffConfigs_all:∀ xs,DatL Tryz.prog 6 Tryz.f5.params.toList xs→Run Tryz.prog 5 xs (.bool true):=by
 intro xs h
 rw [show Tryz.f5.params.toList=[22,22] from rfl] at h
 obtain ⟨y1,y2,rfl,h1,h2⟩:=datL2 h
 obtain ⟨a,rfl,ha⟩:=dat_bys Tryz.underlying22 Tryz.underlying5 (by kernel_rfl) h1
 obtain ⟨b,rfl,hb⟩:=dat_bys Tryz.underlying22 Tryz.underlying5 (by kernel_rfl) h2
 exact diffConfigs_run a b ha hb
end Go.Proofs
