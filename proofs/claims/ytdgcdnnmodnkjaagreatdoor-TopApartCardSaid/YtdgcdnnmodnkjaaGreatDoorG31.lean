/- Part 31 of a proof that a step of one domain changes nothing of another: the machine of plain values, and what the program's functions do. -/
import Derived.Test.YtdgcdnnmodnkjaaGreatDoorG30
set_option linter.all false
set_option linter.unusedVariables false
set_option linter.unusedSectionVars false
set_option linter.unusedSimpArgs false
set_option linter.defProp false
set_option maxHeartbeats 4000000
set_option maxRecDepth 100000
namespace Go.Proofs
open Go Go.Pv Go.Proofs.Tx
variable [Lq]
open W
open Classical
theorem ou_of1{o:Ou}:(.sl 9 [o.v] false:AV) =(SL.of [o] (Nat.le_of_ble_eq_true rfl):SL Ou Ou.v 9).v:=by rw [← SL.ofe]; rfl
theorem oX_sn{l:List Ou}{o:Ou}:oX (l ++ [o])=.vec 3 9 0 (l.length+1):=by
 cases l with
 | nil=>rfl
 | cons a l=>show AV.vec 3 9 0 ((l ++ [o]).length+1)=_; simp
theorem oH_sn{l:List Ou}{o:Ou}:oH (l ++ [o])=[some ⟨167,(l ++ [o]).map Ou.v,true⟩]:=by cases l <;> rfl
theorem s53(N:Nt)(fw:TL)(t:SL En En.v 3)(d:Int)(q:Qd)(n:Int)(ht:t.l.length≤1000):∃ r,Run Tryz.prog 53 [N.v,fw.v,t.v,.int .i64 d,q.v,.int .i64 n] r∧∃ w:SL En En.v 3,∃ outs:SL Ou Ou.v 9,∃ e,r=.tup [w.v,outs.v,.int .i64 e]∧okE e∧w.l.length≤max t.l.length 8∧outs.l.length≤200∧∀ o,o∈outs.l→OuOk N o:=by
 have ok:∀ e:Int,0≤e∧e < 64→okE e:=fun e h=>h
 have ok0:okE 0:=ok 0 (by decide)
 have i1:∀(l:List Ou) hp,(l.map Ou.v).flatMap (idsOf hp 4)=[]:=fun l hp=>ids_map Ou.pl
 have i2:∀(l:List Ou) hp,(l.map Ou.v).flatMap (idsOf hp 3)=[]:=fun l hp=>ids_map Ou.pl
 have i3:∀(l:List Ou) hp,(l.map Ou.v).flatMap (idsOf hp 5)=[]:=fun l hp=>ids_map Ou.pl
 have i4:∀(l:List Ou) r,(l.map Ou.v).map (renX r 6)=l.map Ou.v:=fun l r=>ren_map Ou.pl
 have i7:∀(l:List Ou) hp,mapO (snap hp 5) (l.map Ou.v)=some (l.map Ou.v):=fun l hp=>mapO_map Ou.nr1
 have i8:∀(l:List Ou) hp,(l.map Ou.v).flatMap (rows hp 5)=[]:=fun l hp=>rows_map Ou.nr1
 have n1:∀ o,o ∈(SL.nil:SL Ou Ou.v 9).l→OuOk N o:=fun x h=>absurd h List.not_mem_nil
 have n3:(.tup [.sl 0 [] true,.sl 0 [] true,.int .i64 2]:AV)=.tup [(SL.nil:SL En En.v 3).v,(SL.nil:SL Ou Ou.v 9).v,.int .i64 2]:=by rw [← SL.nile,← SL.nile]
 refine run_w (c:=c53 true) [.t 12,.c 13 1 false,.t 14] 6 (by kernel_rfl) (by kernel_rfl) (Nat.le_refl 6) (by simp only[wd]) ?_
 unfold c53
 simp (disch:=try exact Dj) only[Kj,seval,reduceCtorEq]
 refine Aj (s87 N fw d q.frm) ?_
 rintro _ ⟨p1,q1,e1,rfl,he1,hd⟩
 simp only[vl,ts,wb]
 simp (disch:=try exact Dj) only[Kj,seval,reduceCtorEq]
 refine gC_d0 (fun h0=>?_) (fun h0=>?_)
 ·simp (disch:=try exact Dj) only[Kj,seval,reduceCtorEq]
  refine Aj (s88 t) ?_
  rintro _ ⟨b,rfl,hb⟩
  simp only[vl,ts,wb]
  cases b
  ·repeat' (first
 |simp (disch:=try exact Dj) only[Kj,seval,reduceCtorEq]
 |(with_reducible first|apply condC_d|apply gC_d0)<;>intro _
 |with_reducible refine e8 ?_
 |(refine Fj ?_;first|exact⟨_,_,_,n3,ok _ (by omega),Nat.zero_le _,Nat.zero_le _,n1⟩|exact e9|fail)
 |(refine fin_o [] ?_;simp (disch:=try exact Dj) only[Kj,wh,seval,reduceCtorEq];refine⟨_,rfl,?_,?_⟩;(first|rfl|simp (disch:=try exact Dj) only[Kj,wh,seval,reduceCtorEq]);first|exact⟨_,_,_,n3,ok _ (by omega),Nat.zero_le _,Nat.zero_le _,n1⟩|exact⟨_,rfl⟩|fail)
 |fail)
  ·obtain ⟨hg,hdd⟩:=hd (Decidable.of_not_not h0)
   simp (disch:=try exact Dj) only[Kj,seval,reduceCtorEq]
   refine Aj (s89 t q n ht) ?_
   rintro _ ⟨w,rfl,hw⟩
   simp only[vl,ts,wb]
   simp (disch:=try exact Dj) only[Kj,seval,reduceCtorEq]
   refine Aj (s90 N d q.frame.dst) ?_
   rintro _ ⟨i,b2,rfl⟩
   simp only[vl,ts,wb]
   simp (disch:=try exact Dj) only[Kj,seval,reduceCtorEq]
   cases b2
   ·simp (disch:=try exact Dj) only[Kj,seval,reduceCtorEq]
    refine Aj (s93 N fw w d q.frm q.frame.dst) ?_
    rintro _ ⟨p2,q2,e2,rfl,hp2,hp3,hq3⟩
    simp only[vl,ts,wb]
    simp (disch:=try exact Dj) only[Kj,seval,reduceCtorEq]
    refine d_lo (fun a:Nat × List Ou=>⟨[(3,.int .i64 d),(6,.eptr 0 0 0),(10,.eptr 1 0 0),(12,w.v),(13,.eptr 2 0 0),(23,.fn 92 [.eptr 2 0 0]),(25,q2.v),(100,p2.v),(101,.int .i64 p2.l.length),(102,.int .i64 a.1)],some ⟨40,[N.v],true⟩ :: some ⟨104,[q.v],true⟩ :: some ⟨161,[oX a.2],true⟩ :: oH a.2⟩)
     (fun a=>a.1≤p2.l.length∧a.2.length≤a.1∧∀ o,o∈a.2→OuOk N o) (fun a=>p2.l.length - a.1) ?_ ?_
    ·simp (disch:=try exact Dj) only[Kj,seval,reduceCtorEq]
     exact⟨(0,[]),rfl,by simp⟩
    rintro ⟨k,outs⟩ ⟨hk,ho,hall⟩
    simp only at hk ho hall ⊢
    unfold c53b0
    simp (disch:=try exact Dj) only[Kj,seval,reduceCtorEq]
    refine condC_d (fun h2=>?_) (fun h2=>?_)
    ·have hpp:=hp2 _ (nth_mem (l:=p2.l) (k:=k) (by omega))
     generalize hP:nth p2.l k=P at hpp
     simp (disch:=try exact Dj) only[Kj,hP,seval,reduceCtorEq]
     refine⟨by omega,by omega,?_⟩
     refine condC_d (fun h3=>?_) (fun h3=>?_)
     all_goals (
      simp (disch:=try exact Dj) only[Kj,seval,reduceCtorEq]
      refine Aj (s94 N P d q.frame) ?_
      rintro _ ⟨b,e3,rfl,he3,hb3⟩
      simp only[vl,ts,wb]
      simp (disch:=try exact Dj) only[Kj,Ou.mk0,seval,reduceCtorEq]
      refine callv_genQ (s92 _ _ _ _ _ outs (by omega)) ?_ ?_
      ·rintro _ _ ⟨_,o',j,x,rfl,_,_,hx,_⟩
       simp only[List.length_cons]; omega
      rintro _ _ ⟨rfl,o',j,x,rfl,hj,hj3,hx,ho1,ho2,ho3,ho4,ho5⟩
      have hok:OuOk N o':=⟨by omega,by rw [ho1]; exact Nat.zero_le _,by rcases ho3 with h | h <;> rw [h] <;> first | exact he3 | exact ok0,fun h=>by
       rcases ho5 with h5 | h5 <;> rw [h5] at h <;> simp at h⟩
      have b2:(j == 2)=false:=by simp; omega
      have b1:(j == 1)=false:=by simp; omega
      have b0:(j == 0)=false:=by simp; omega
      have c2:(2 == j)=false:=by simp; omega
      have c1:(1 == j)=false:=by simp; omega
      have c0:(0 == j)=false:=by simp; omega
      have f0:¬ 0=j:=by omega
      have f1:¬ 1=j:=by omega
      have f2:¬ 2=j:=by omega
      simp (disch:=try exact Dj) only[Kj,hj,b2,b1,b0,c2,c1,c0,f0,f1,f2,i1,i2,i3,i4,seval,reduceCtorEq]
      exact⟨(k+1,outs ++ [o']),by simp [oX_sn,oH_sn],⟨by simp only; omega,by simp; omega,fun o h=>by
       rcases List.mem_append.1 h with h | h
       ·exact hall o h
       ·rw [List.mem_singleton.1 h]; exact hok⟩,by simp only; omega⟩)
    ·simp (disch:=try exact Dj) only[Kj,seval,reduceCtorEq]
     refine d_lo (fun a:Nat × List Ou=>⟨[(3,.int .i64 d),(6,.eptr 0 0 0),(10,.eptr 1 0 0),(12,w.v),(13,.eptr 2 0 0),(23,.fn 92 [.eptr 2 0 0]),(130,q2.v),(131,.int .i64 q2.l.length),(132,.int .i64 a.1)],some ⟨40,[N.v],true⟩ :: some ⟨104,[q.v],true⟩ :: some ⟨161,[oX a.2],true⟩ :: oH a.2⟩)
      (fun a=>a.1≤q2.l.length∧a.2.length≤48+a.1∧∀ o,o∈a.2→OuOk N o) (fun a=>q2.l.length - a.1) ?_ ?_
     ·cases outs with
      | nil =>
       unfold oX oH
       simp (disch:=try exact Dj) only[Kj,seval,reduceCtorEq]
       exact⟨(0,[]),rfl,by simp only; omega,by simp only[List.length_nil]; omega,hall⟩
      | cons o1 l =>
       unfold oX oH
       simp (disch:=try exact Dj) only[Kj,i1,i2,i3,i4,seval,reduceCtorEq]
       exact⟨(0,o1 :: l),rfl,by simp only; omega,by simp only; omega,hall⟩
     clear hall ho
     rintro ⟨k2,outs⟩ ⟨hk,ho,hall⟩
     simp only at hk ho hall ⊢
     unfold c53b1
     simp (disch:=try exact Dj) only[Kj,seval,reduceCtorEq]
     refine condC_d (fun h2=>?_) (fun h2=>?_)
     ·simp (disch:=try exact Dj) only[Kj,seval,reduceCtorEq]
      refine⟨by omega,?_⟩
      refine Aj (s95 N d (nth q2.l k2) q.frame) ?_
      rintro _ ⟨b,e3,rfl,he3,hb3⟩
      simp only[vl,ts,wb]
      simp (disch:=try exact Dj) only[Kj,Ou.mk0,seval,reduceCtorEq]
      refine callv_genQ (s92 _ _ _ _ _ outs (by omega)) ?_ ?_
      ·rintro _ _ ⟨_,o',j,x,rfl,_,_,hx,_⟩
       simp only[List.length_cons]; omega
      rintro _ _ ⟨rfl,o',j,x,rfl,hj,hj3,hx,ho1,ho2,ho3,ho4,ho5⟩
      have hok:OuOk N o':=⟨by omega,by rw [ho1]; exact Nat.zero_le _,by rcases ho3 with h | h <;> rw [h] <;> first | exact he3 | exact ok0,fun h=>by
       rcases ho5 with h5 | h5 <;> rw [h5] at h <;> simp at h⟩
      have b2:(j == 2)=false:=by simp; omega
      have b1:(j == 1)=false:=by simp; omega
      have b0:(j == 0)=false:=by simp; omega
      have c2:(2 == j)=false:=by simp; omega
      have c1:(1 == j)=false:=by simp; omega
      have c0:(0 == j)=false:=by simp; omega
      have f0:¬ 0=j:=by omega
      have f1:¬ 1=j:=by omega
      have f2:¬ 2=j:=by omega
      simp (disch:=try exact Dj) only[Kj,hj,b2,b1,b0,c2,c1,c0,f0,f1,f2,i1,i2,i3,i4,seval,reduceCtorEq]
      exact⟨(k2+1,outs ++ [o']),by simp [oX_sn,oH_sn],⟨by simp only; omega,by simp; omega,fun o h=>by
       rcases List.mem_append.1 h with h | h
       ·exact hall o h
       ·rw [List.mem_singleton.1 h]; exact hok⟩,by simp only; omega⟩
     ·cases outs with
      | nil =>
       unfold oX oH
       repeat' (first
 |simp (disch:=try exact Dj) only[Kj,seval,reduceCtorEq]
 |(with_reducible first|apply condC_d|apply gC_d0)<;>intro _
 |with_reducible refine e8 ?_
 |(refine Fj ?_;first|exact⟨_,SL.nil,_,congrArg (fun x=>AV.tup [_,x,_]) SL.nile,ok0,hw,Nat.zero_le _,n1⟩|exact e9|fail)
 |(refine fin_o [] ?_;simp (disch:=try exact Dj) only[Kj,wh,seval,reduceCtorEq];refine⟨_,rfl,?_,?_⟩;(first|rfl|simp (disch:=try exact Dj) only[Kj,wh,seval,reduceCtorEq]);first|exact⟨_,SL.nil,_,congrArg (fun x=>AV.tup [_,x,_]) SL.nile,ok0,hw,Nat.zero_le _,n1⟩|exact⟨_,rfl⟩|fail)
 |fail)
      | cons o1 l =>
       unfold oX oH
       have hl9:(o1 :: l).length≤140737488355328:=by omega
       have ho9:(o1 :: l).length≤200:=by omega
       have e9:(.sl 9 (o1.v :: l.map Ou.v) false:AV) =(SL.of (o1 :: l) hl9:SL Ou Ou.v 9).v:=by rw [← SL.ofe]; rfl
       repeat' (first
 |simp (disch:=try exact Dj) only[Kj,i1,i2,i3,i4,i7,i8,e9,seval,reduceCtorEq]
 |(with_reducible first|apply condC_d|apply gC_d0)<;>intro _
 |with_reducible refine e8 ?_
 |(refine Fj ?_;first|exact⟨_,_,_,rfl,ok0,hw,ho9,hall⟩|exact e9|fail)
 |(refine fin_o [] ?_;simp (disch:=try exact Dj) only[Kj,i1,i2,i3,i4,i7,i8,e9,wh,seval,reduceCtorEq];refine⟨_,rfl,?_,?_⟩;(first|rfl|simp (disch:=try exact Dj) only[Kj,i1,i2,i3,i4,i7,i8,e9,wh,seval,reduceCtorEq]);first|exact⟨_,_,_,rfl,ok0,hw,ho9,hall⟩|exact⟨_,rfl⟩|fail)
 |fail)
   ·repeat' (first
 |simp (disch:=try exact Dj) only[Kj,Fm.flat_e,Ou.mk1,ou_of1,seval,reduceCtorEq]
 |(with_reducible first|apply condC_d|apply gC_d0)<;>intro _
 |with_reducible refine e8 ?_
 |(refine Aj (s91 _ _ _) ?_;rintro _ ⟨d2,g,e2,rfl,he2,hg2,hd2⟩;all_goals simp only[vl,ts,wb])
 |(refine Fj ?_;first|exact⟨_,SL.nil,_,congrArg (fun x=>AV.tup [_,x,_]) SL.nile,he2,hw,Nat.zero_le _,n1⟩|(refine⟨_,_,_,rfl,ok _ (by omega),hw,Nat.le_of_ble_eq_true rfl,fun o ho=>?_⟩; rw [SL.of_l,List.mem_singleton] at ho; subst ho; exact⟨Nat.zero_le _,Nat.le_trans hg2 (by decide),ok0,fun _=>(hd2 (Decidable.of_not_not (by assumption))).2⟩)|exact e9|fail)
 |(refine fin_o [] ?_;simp (disch:=try exact Dj) only[Kj,Fm.flat_e,Ou.mk1,ou_of1,wh,seval,reduceCtorEq];refine⟨_,rfl,?_,?_⟩;(first|rfl|simp (disch:=try exact Dj) only[Kj,Fm.flat_e,Ou.mk1,ou_of1,wh,seval,reduceCtorEq]);first|exact⟨_,SL.nil,_,congrArg (fun x=>AV.tup [_,x,_]) SL.nile,he2,hw,Nat.zero_le _,n1⟩|(refine⟨_,_,_,rfl,ok _ (by omega),hw,Nat.le_of_ble_eq_true rfl,fun o ho=>?_⟩; rw [SL.of_l,List.mem_singleton] at ho; subst ho; exact⟨Nat.zero_le _,Nat.le_trans hg2 (by decide),ok0,fun _=>(hd2 (Decidable.of_not_not (by assumption))).2⟩)|exact⟨_,rfl⟩|fail)
 |fail)
 ·repeat' (first
 |simp (disch:=try exact Dj) only[Kj,seval,reduceCtorEq]
 |(with_reducible first|apply condC_d|apply gC_d0)<;>intro _
 |with_reducible refine e8 ?_
 |(refine Fj ?_;first|exact⟨_,_,_,n3,ok _ (by omega),Nat.zero_le _,Nat.zero_le _,n1⟩|exact e9|fail)
 |(refine fin_o [] ?_;simp (disch:=try exact Dj) only[Kj,wh,seval,reduceCtorEq];refine⟨_,rfl,?_,?_⟩;(first|rfl|simp (disch:=try exact Dj) only[Kj,wh,seval,reduceCtorEq]);first|exact⟨_,_,_,n3,ok _ (by omega),Nat.zero_le _,Nat.zero_le _,n1⟩|exact⟨_,rfl⟩|fail)
 |fail)
end Go.Proofs
set_option maxHeartbeats 4000000
set_option maxRecDepth 100000
namespace Go.Proofs
open Go Go.Pv Go.Proofs.Tx
variable [Lq]
open W
open Classical
theorem s96(N:Nt)(g:Sg)(hc:CostOk N){hp:Hp}{a b sp:Nat}(ha:ent hp a=some ⟨40,[N.v],true⟩)(hb:ent hp b=some ⟨92,[.eptr sp 0 0],true⟩)(hs:ent hp sp=some ⟨94,[g.v],true⟩) :
  ∃ r H',Gen Tryz.prog 96 [.eptr a 0 0,.eptr b 0 0] hp r H' ∧(r=.tup []∧∃ fw ext,H'=hp.set sp (some ⟨94,[Sg.v { g with fw:=fw }],true⟩) ++ ext):=by
 have ha':=fun l=>ent_ap ha l
 have hb':=fun l=>ent_ap hb l
 have hs':=fun l=>ent_ap hs l
 have hl:=entlt hs
 refine gen_w (c:=c96 false) [] 2 (by kernel_rfl) (by kernel_rfl) (Nat.le_refl 2) ?_
 unfold c96
 simp (disch:=try exact Dn) only[Kn,ha',hb',hs',seval,reduceCtorEq]
 refine An (s19 N g.up hc) ?_
 rintro _ (⟨_,_,w,_,rfl⟩ | ⟨_,w,rfl⟩)
 all_goals (
  simp only[vl,ts,wb]
  simp (disch:=try exact Dn) only[Kn,ha',hb',hs',hl,seval,reduceCtorEq]
  exact⟨w,_,rfl⟩)
theorem grow_at{no:List TypeId}{hp ext:Hp}{i:Nat}{ty:TypeId}{es es':List AV}{wr:Bool}(h:ent hp i=some ⟨ty,es,wr⟩)(hn:no.contains ty=true):Grow no hp (hp.set i (some ⟨ty,es',true⟩) ++ ext):=by
 have hl:=entlt h
 refine⟨by simp,fun id e he=>?_,fun id e he hne=>?_,fun id hl2 he=>?_⟩
 ·have:=entlt he
  by_cases e1:i=id
  ·subst e1; exact⟨_,ent_sap hl⟩
  ·exact⟨e,by rw [ent_apl (by rw [len_set]; exact this),ent_setn e1,he]⟩
 ·have:=entlt he
  by_cases e1:i=id
  ·subst e1; rw [h] at he; cases he; rw [hn] at hne; cases hne
  ·exact⟨e.wr,by rw [ent_apl (by rw [len_set]; exact this),ent_setn e1,he]⟩
 ·by_cases e1:i=id
  ·subst e1; rw [h] at he; cases he
  ·rw [ent_apl (by rw [len_set]; exact hl2),ent_setn e1,he]
theorem s54(N:Nt)(g:Sg)(hc:CostOk N){hp:Hp}{sp:Nat}(hs:ent hp sp=some ⟨94,[g.v],true⟩)(hm:g.m=0) :
  ∃ r H',Gen Tryz.prog 54 [.eptr sp 0 0,N.v] hp r H' ∧(∃ fw:TL,r=fw.v∧∃ g':Sg,∃ ext,H'=hp.set sp (some ⟨94,[g'.v],true⟩) ++ ext∧g'.m=0):=by
 have hl:=entlt hs
 have hs':=fun l=>ent_ap hs l
 obtain ⟨up,d,m,z,fw⟩:=g
 simp only at hm
 subst hm
 refine gen_w (c:=c54 false) [.t 4] 2 (by kernel_rfl) (by kernel_rfl) (Nat.le_refl 2) ?_
 unfold c54
 simp (disch:=try exact Dn) only[Kn,hs',seval,reduceCtorEq]
 by_cases hd:d=0
 ·subst hd
  obtain ⟨H0,hH0⟩:∃ H0,H0=hp ++ [some ⟨92,[.eptr sp 0 0],true⟩,some ⟨40,[N.v],true⟩]:=⟨_,rfl⟩
  have hl0:sp < H0.length:=by rw [hH0,List.length_append]; omega
  have ha:ent (H0.set sp (some ⟨94,[Sg.v ⟨up,0,1,z,fw⟩],true⟩)) (hp.length+1)=some ⟨40,[N.v],true⟩:=by
   rw [ent_setn (by omega),hH0]; exact ent_apn.trans rfl
  have hb:ent (H0.set sp (some ⟨94,[Sg.v ⟨up,0,1,z,fw⟩],true⟩)) hp.length=some ⟨92,[.eptr sp 0 0],true⟩:=by
   rw [ent_setn (by omega),hH0]; exact ent_ap0.trans rfl
  obtain ⟨r,H2,hg,rfl,fw2,ext,rfl⟩:=s96 N ⟨up,0,1,z,fw⟩ hc ha hb (entset hl0)
  rw [set_set] at hg
  have hon:=Onc.once_do (hp:=H0) (id:=sp) (off:=1) (f:=96) (caps:=[.eptr (hp.length+1) 0 0,.eptr hp.length 0 0]) (x:=Sg.v ⟨up,0,0,z,fw⟩) (by decide) (by rw [hH0]; exact hs' _) (Sg.c_d _) (Sg.c_m _) (Sg.s_m _ 1) hg (by simp) (ent_sap hl0) (Sg.c_d _) (Sg.c_m _) (Sg.s_d _ 1) (Sg.s_m _ 0)
  rw [hH0] at hon
  refine call_gen hon ?_
  have hlx:sp <(hp ++ [some ⟨92,[.eptr sp 0 0],true⟩,some ⟨40,[N.v],true⟩]:Hp).length:=by rw [List.length_append]; omega
  rw [set_sap hlx,set_apl hl]
  simp (disch:=try exact Dn) only[Kn,hl,seval,reduceCtorEq]
  exact⟨_,rfl,⟨up,1,0,z,fw2⟩,_,rfl,rfl⟩
 ·refine call_gen (Onc.once_no (d:=d) (by decide) hd (hs' _) (Sg.c_d _) (Sg.c_m _)) ?_
  simp (disch:=try exact Dn) only[Kn,hs',seval,reduceCtorEq]
  exact⟨_,rfl,⟨up,d,0,z,fw⟩,_,by rw [ent_same hs],rfl⟩
end Go.Proofs
set_option maxHeartbeats 4000000
set_option maxRecDepth 100000
namespace Go.Proofs
open Go Go.Pv Go.Proofs.Tx
variable [Lq]
open W
open Classical
section
variable {hp:Hp} {i:Nat} {x:Si} {g:Sg} {ta:List EL} {qs:List QL}
structure Pk(T:Nat→Prop)(hp H:Hp)(i:Nat)(x:Si)(ta:List EL)(qs:List QL)(b id n:Nat)(q:Qd):Prop where
 nx:∃ x' g' ts' qs',SimAt H i x' g' ts' qs'∧Fx hp H i x x'∧Rl T T ta qs ts' qs'∧b≠x'.sp∧id≠x'.sp
 hb:ent H b=some ⟨104,[q.v],true⟩
 hd:∃ es,ent H id=some ⟨67,es,true⟩∧es.length=n
 n1:b≠i∧b≠x.ti∧b≠x.qi∧id≠i∧id≠x.ti∧id≠x.qi
 n2:id≠b
 n5:hp.length≤id
theorem ab2{c:AV}{A B:Pv.Kf}{fr:Fr}{H0:Hp}(F:Hp→Prop)(h0:F H0)(h:∀ H,F H→condC c A B fr H):condC c A B fr H0:=h H0 h0
theorem call_dQ{P:Program}{f:FuncId}{args:List AV}{no:List TypeId}{Q E:AV→Hp→Prop}{hp:Hp}(h:∃ r H',Gen P f args hp r H'∧Q r H')(hg:∀ r H',Q r H'→Grow no hp H')(hk:∀ r H',Q r H'→E r H'):wCall P f args hp true false no E:=by
 obtain ⟨r,H',h,hq⟩:=h
 exact⟨r,H',h,fun _=>⟨hg _ _ hq,fun h=>by cases h⟩,hk _ _ hq⟩
theorem s22_lo{K:AE→Pv.Kf}{T:Nat→Prop}{b:Nat}{q:Qd}{outs:SL Ou Ou.v 9}{H:Hp}(hK:∀ fr H id n,getF fr 12=.vec id 3 0 n→Nxt T T hp H i x ta qs→K (.exit 0) fr H)(h0:SimAt hp i x g ta qs)
  (ho2:outs.l.length≤200) (ho:∀ o,o∈outs.l→OuOk x.n o) (nI:b≠i∧b≠x.ti∧b≠x.qi) (hP:∃ x2 g' ts' qs',SimAt H i x2 g' ts' qs'∧Fx hp H i x x2∧Rl T T ta qs ts' qs'∧b≠x2.sp∧ent H b=some ⟨104,[q.v],true⟩) :
  aD Tryz.prog (lo false [0,7,12,69,70,71] [(12,3,67)] (c22b0 false)) K [(0,.eptr i 0 0),(7,.eptr b 0 0),(12,.sl 0 [] true),(69,outs.v),(70,.int .i64 outs.l.length),(71,.int .i64 0)] H:=by
 refine d_lo (fun p:Nat × Nat × Nat × Hp=>⟨[(0,.eptr i 0 0),(7,.eptr b 0 0),(12,.vec p.2.1 3 0 p.2.2.1),(69,outs.v),(70,.int .i64 outs.l.length),(71,.int .i64 p.1)],p.2.2.2⟩) (fun p=>p.1≤outs.l.length∧p.2.2.1≤p.1∧Pk T hp p.2.2.2 i x ta qs b p.2.1 p.2.2.1 q) (fun p=>outs.l.length - p.1) ?_ ?_
 ·obtain ⟨x2,g',ts',qs',a1,a2,a3,a4,a5⟩:=hP
  have l1:=entlt a1.s
  have l2:=entlt a1.p
  have l3:=entlt a1.t
  have l4:=entlt a1.q
  have l5:=entlt a5
  have e1:=a2.ti
  have e2:=a2.qi
  simp (disch:=try exact Dn) only[Kn,seval,reduceCtorEq]
  exact⟨(0,H.length,0,_),rfl,Nat.zero_le _,Nat.le_refl _,⟨⟨x2,g',ts',qs',a1.ap _,a2.ap _,a3,a4,by simp only; omega⟩,ent_ap a5 _,⟨[],ent_ap0.trans rfl,rfl⟩,⟨nI.1,nI.2.1,nI.2.2,by simp only; omega,by simp only; omega,by simp only; omega⟩,by simp only; omega,a2.len⟩⟩
 clear hP
 rintro ⟨k,id,n,H⟩ ⟨hk,hn,hP⟩
 simp only at hk hn hP ⊢
 obtain ⟨⟨x2,g2,ts2,qs2,h2,f2,r2,n1,n2⟩,hb,⟨es,he,hel⟩,n3,n4,n5⟩:=hP
 unfold c22b0
 by_cases hlt:k < outs.l.length
 ·have hoo:=ho _ (nth_mem hlt)
  generalize hgl:nth outs.l k=o at hoo
  have hb':=fun l=>ent_ap hb l
  simp (disch:=try exact Dn) only[Kn,hgl,hb',seval,reduceCtorEq]
  refine⟨⟨by omega,by omega⟩,?_⟩
  refine call_genQ (s56 (h2.ap _) o (by rw [f2.n]; exact hoo) q.origin) ?_
  rintro _ H4 ⟨hr,x3,g3,ts3,qs3,b1,b2,b3⟩
  have lb:=entlt hb
  have lid:=entlt he
  have e1:=f2.ti
  have e2:=f2.qi
  have e3:=b2.ti
  have e4:=b2.qi
  have l4:=b2.len
  rw [List.length_append] at l4
  have eid:ent H4 id=some ⟨67,es,true⟩:=by
   rw [b2.fr id (by rw [List.length_append]; omega) n3.2.2.2.1 n2 (by rw [e1]; exact n3.2.2.2.2.1) (by rw [e2]; exact n3.2.2.2.2.2)]; exact ent_ap he _
  have eb:ent H4 b=some ⟨104,[q.v],true⟩:=by
   rw [b2.fr b (by rw [List.length_append]; omega) n3.1 n1 (by rw [e1]; exact n3.2.1) (by rw [e2]; exact n3.2.2.1)]; exact hb' _
  have sp3:b≠x3.sp∧id≠x3.sp:=by
   rcases b2.sp with e | e
   ·rw [e]; exact⟨n1,n2⟩
   ·rw [List.length_append] at e
    exact⟨by omega,by omega⟩
  have fin:∀(es2:List AV) (n':Nat),es2.length=n'→Pk T hp (H4.set id (some ⟨67,[],false⟩) ++ [some ⟨67,es2,true⟩]) i x ta qs b H4.length n' q:=by
   intro es2 n' hl
   have l1:=entlt b1.s
   have l2:=entlt b1.p
   have l3:=entlt b1.t
   have l5:=entlt b1.q
   refine⟨⟨x3,g3,ts3,qs3,?_,?_,?_,sp3.1,by omega⟩,?_,⟨es2,ent_aps0.trans rfl,hl⟩,⟨n3.1,n3.2.1,n3.2.2.1,by omega,by omega,by omega⟩,by omega,by have:=f2.len; omega⟩
   ·refine { b1 with s:=?_,p:=?_,t:=?_,q:=?_ }
    ·exact ent_ap (by rw [ent_setn n3.2.2.2.1]; exact b1.s) _
    ·exact ent_ap (by rw [ent_setn sp3.2]; exact b1.p) _
    ·exact ent_ap (by rw [ent_setn (by omega)]; exact b1.t) _
    ·exact ent_ap (by rw [ent_setn (by omega)]; exact b1.q) _
   ·exact((f2.trans ((Fx.ap Fx.refl _).trans b2)).set (.inr (.inr (.inr (.inr n5))))).ap _
   ·exact r2.trans (b3.mono (fun _ h=>h.elim) (fun _ h=>h.elim))
   ·exact ent_ap (by rw [ent_setn n4]; exact eb) _
  rcases hr with rfl | ⟨id2,y,rfl,hid2,hy⟩
  ·simp (disch:=try exact Dn) only[Kn,seval,reduceCtorEq]
   refine e_app_vec ?_
   simp (disch:=try exact Dn) only[Kn,eid,hel,seval,reduceCtorEq]
   exact⟨rfl,by omega,(k+1,H4.length,n,_),rfl,⟨by simp only; omega,by simp only; omega,fin es n hel⟩,by simp only; omega⟩
  ·simp (disch:=try exact Dn) only[Kn,seval,reduceCtorEq]
   refine e_app_vec ?_
   simp (disch:=try exact Dn) only[Kn,eid,hel,hy,seval,reduceCtorEq]
   exact⟨by omega,(k+1,H4.length,n+1,_),rfl,⟨by simp only; omega,by simp only; omega,fin (es ++ [y]) (n+1) (by rw [List.length_append,hel]; rfl)⟩,by simp only; omega⟩
 ·simp (disch:=try exact Dn) only[Kn,seval,reduceCtorEq]
  exact hK _ _ id n rfl ⟨x2,g2,ts2,qs2,h2,f2,r2⟩
theorem s22(h:SimAt hp i x g ta qs)(d a:Int):∃ r H',Gen Tryz.prog 22 [.eptr i 0 0,.int .i64 d,.int .i64 a] hp r H'∧Nxt (fun k=>(k:Int)=d) (fun k=>(k:Int)=d) hp H' i x ta qs:=by
 have hsl:=entlt h.s
 refine gen_w (c:=c22 false) [.t 6] 3 (by kernel_rfl) (by kernel_rfl) (Nat.le_refl 3) ?_
 unfold c22
 simp (disch:=try exact Dn) only[Kn,seval,reduceCtorEq]
 refine call_genQ (s23 h d a) ?_
 rintro _ H1 ⟨q,b,rfl,hq,x1,g1,ts1,qs1,h1,f1,r1⟩
 have r1:Rl (fun k=>(k:Int)=d) (fun k=>(k:Int)=d) ta qs ts1 qs1:=r1.mono (fun _ h=>h.elim) (fun _ h=>h)
 have hs1:=fun l=>ent_ap h1.s l
 have ht1:=fun l=>ent_ap h1.t l
 have hp1:=fun l=>ent_ap h1.p l
 have hpl:=entlt h1.p
 have htl:=h1.tl
 cases b
 ·simp (disch:=try exact Dn) only[Kn,seval,reduceCtorEq]
  exact⟨x1,g1,ts1,qs1,h1.ap _,f1.ap _,r1⟩
 obtain ⟨hq2,hd⟩:=hq rfl
 have hk:x1.k=x.k:=f1.k
 simp (disch:=try exact Dn) only[Kn,hs1,ht1,hp1,seval,reduceCtorEq]
 refine⟨by omega,by omega,?_⟩
 refine call_dQ (s54 x1.n g1 h1.cost (hp1 _) h1.m) ?_ ?_
 ·rintro _ _ ⟨fw,_,g',ext,rfl,_⟩
  exact grow_at (hp1 _) rfl
 rintro _ H2 ⟨fw,rfl,g2,ext,rfl,hm2⟩
 simp (disch:=try exact Dn) only[Kn,hpl,seval,reduceCtorEq]
 refine callv_nr (s53 x1.n fw (nth ts1 d.toNat) d q x1.now (h1.tb _ (nth_mem (by omega)))) (by simp only[wd,seval,not_false_eq_true,wq,wz,zd,mk,bz,tt,wg,mp,t3,ss]) ?_
 rintro _ ⟨w,outs,e,rfl,he,hw,ho2,ho⟩
 simp only[vl,ts,wb]
 simp (disch:=try exact Dn) only[Kn,hpl,seval,reduceCtorEq]
 have hwb:w.l.length≤1000:=by
  have:=h1.tb _ (nth_mem (l:=ts1) (k:=d.toNat) (by omega))
  omega
 refine ab2 (fun H=>SimAt H i x1 g2 ts1 qs1∧Fx hp H i x x1∧ent H H1.length=some ⟨104,[q.v],true⟩) ⟨?_,?_,?_⟩ ?_
 ·exact(h1.setP hm2).ap _
 ·exact(f1.trans ((Fx.refl (x:=x1)).set (.inr (.inl rfl)))).ap _
 ·exact ent_aps0.trans rfl
 rintro H ⟨h2,f2,hb2⟩
 have hH1:=f1.len
 have htl0:=entlt h.t
 have hql0:=entlt h.q
 have nI:H1.length≠i∧H1.length≠x.ti∧H1.length≠x.qi:=⟨by omega,by omega,by omega⟩
 have e1:=f1.ti
 have e2:=f1.qi
 have hs2:=h2.s
 have ht2:=h2.t
 have dr:∀ {Hx Hy:Hp} {x2:Si} {g':Sg} {ts':List EL} {qs':List QL},SimAt Hx i x2 g' ts' qs'→Fx hp Hx i x x2→Rl (fun k=>(k:Int)=d) (fun k=>(k:Int)=d) ta qs ts' qs'→H1.length≠x2.sp→ent Hx H1.length=some ⟨104,[q.v],true⟩→Nxt No No Hx Hy i x2 ts' qs' →
   ∃ x2 g' ts' qs',SimAt Hy i x2 g' ts' qs'∧Fx hp Hy i x x2∧Rl (fun k=>(k:Int)=d) (fun k=>(k:Int)=d) ta qs ts' qs'∧H1.length≠x2.sp∧ent Hy H1.length=some ⟨104,[q.v],true⟩:=by
  rintro Hx Hy x2 g' ts' qs' a1 a2 a3 a4 a5 ⟨x3,g3,ts3,qs3,b1,b2,b3⟩
  have:=entlt a5
  refine⟨x3,g3,ts3,qs3,b1,a2.trans b2,a3.trans (b3.mono (fun _ h=>h.elim) (fun _ h=>h.elim)),?_,?_⟩
  ·rcases b2.sp with e | e
   ·rw [e]; exact a4
   ·omega
  ·rw [b2.fr _ this nI.1 a4 (by rw [a2.ti]; exact nI.2.1) (by rw [a2.qi]; exact nI.2.2)]; exact a5
 have hO:∀ o,o∈outs.l→OuOk x.n o:=fun o h=>by rw [← f1.n]; exact ho o h
 have a0:∃ x2 g' ts' qs',SimAt (H.set x1.ti (some ⟨52,(ts1.set d.toNat w).map SL.v,true⟩)) i x2 g' ts' qs'∧Fx hp (H.set x1.ti (some ⟨52,(ts1.set d.toNat w).map SL.v,true⟩)) i x x2∧Rl (fun k=>(k:Int)=d) (fun k=>(k:Int)=d) ta qs ts' qs'∧H1.length≠x2.sp∧ent (H.set x1.ti (some ⟨52,(ts1.set d.toNat w).map SL.v,true⟩)) H1.length=some ⟨104,[q.v],true⟩ :=
  ⟨x1,g2,ts1.set d.toNat w,qs1,h2.setT (List.length_set ..) (mem_set h2.tb hwb),f2.set (.inr (.inr (.inl e1))),r1.trans (Rl.setT (.inl (by omega))),by omega,by rw [ent_setn (by omega)]; exact hb2⟩
 refine condC_d (fun h0=>?_) (fun h0=>?_)
 ·simp (disch:=try exact Dn) only[Kn,hs2,ht2,seval,reduceCtorEq]
  refine⟨by omega,by omega,?_⟩
  refine condC_d (fun h5=>?_) (fun h5=>?_)
  ·simp (disch:=try exact Dn) only[Kn,seval,reduceCtorEq]
   obtain ⟨x3,g3,ts3,qs3,a1,a2,a3,a4,a5⟩:=a0
   refine call_genQ (s55 a1 e he) ?_
   rintro _ H3 ⟨rfl,hN⟩
   simp (disch:=try exact Dn) only[Kn,seval,reduceCtorEq]
   refine s22_lo (fun fr H id n hg hN=>?_) h ho2 hO nI (dr a1 a2 a3 a4 a5 hN)
   simp (disch:=try exact Dn) only[Kn,hg,seval,reduceCtorEq]
   exact hN
  ·simp (disch:=try exact Dn) only[Kn,seval,reduceCtorEq]
   refine s22_lo (fun fr H id n hg hN=>?_) h ho2 hO nI a0
   simp (disch:=try exact Dn) only[Kn,hg,seval,reduceCtorEq]
   exact hN
 ·simp (disch:=try exact Dn) only[Kn,seval,reduceCtorEq]
  refine call_genQ (s55 h2 e he) ?_
  rintro _ H3 ⟨rfl,hN⟩
  simp (disch:=try exact Dn) only[Kn,seval,reduceCtorEq]
  refine s22_lo (fun fr H id n hg hN=>?_) h ho2 hO nI (dr h2 f2 r1 (by omega) hb2 hN)
  simp (disch:=try exact Dn) only[Kn,hg,seval,reduceCtorEq]
  exact hN
end
end Go.Proofs
set_option maxHeartbeats 4000000
set_option maxRecDepth 100000
namespace Go.Proofs
open Go Go.Pv Go.Proofs.Tx
variable [Lq]
open W
open Classical
section
variable {hp:Hp} {i:Nat} {x:Si} {g:Sg} {ta:List EL} {qs:List QL}
theorem s9(h:SimAt hp i x g ta qs)(s:Sp)(hs:s.bytes.l.length≤2000):∃ r H',Gen Tryz.prog 9 [.eptr i 0 0,s.v] hp r H'∧Nxt (fun k=>s.kind=4 ∨(s.kind=2 ∧(k:Int)=s.dom)) (fun k=>(s.kind=2∨s.kind=3) ∧(k:Int)=s.dom) hp H' i x ta qs:=by
 have hsl:=entlt h.s
 have h0:=h.ap [some ⟨27,[s.v],true⟩]
 have hs1:=fun l=>ent_ap h.s l
 have fx:∀ {H':Hp} {x':Si},Fx (hp ++ [some ⟨27,[s.v],true⟩]) H' i x x'→Fx hp H' i x x':=fun f=>(Fx.ap Fx.refl _).trans f
 have hsg:∀ u:TL,(.agg [u.v,.int .u32 0,.int .i32 0,.int .u32 0,.sl 0 [] true]:AV)=Sg.v ⟨u,0,0,0,SL.nil⟩:=fun u=>by rw [Sg.e,← SL.nile]
 refine gen_w (c:=c9 false) [.t 4,.t 5] 2 (by kernel_rfl) (by kernel_rfl) (Nat.le_refl 2) ?_
 unfold c9
 simp (disch:=try exact Dn) only[Kn,seval,reduceCtorEq]
 refine condC_d (fun h1=>?_) (fun h1=>?_)
 ·simp (disch:=try exact Dn) only[Kn,seval,reduceCtorEq]
  refine call_genQ (s21 h0 s.port s.bytes (by omega)) ?_
  rintro _ H1 ⟨rfl,x1,g1,ts1,qs1,k1,f1,r1⟩
  simp (disch:=try exact Dn) only[Kn,seval,reduceCtorEq]
  exact⟨x1,g1,ts1,qs1,k1,fx f1,r1.mono (fun _ h=>h.elim) (fun _ h=>h.elim)⟩
 simp (disch:=try exact Dn) only[Kn,seval,reduceCtorEq]
 refine condC_d (fun h2=>?_) (fun h2=>?_)
 ·simp (disch:=try exact Dn) only[Kn,seval,reduceCtorEq]
  refine call_genQ (s22 h0 s.dom s.at_) ?_
  rintro _ H1 ⟨x1,g1,ts1,qs1,k1,f1,r1⟩
  simp (disch:=try exact Dn) only[Kn,seval,reduceCtorEq]
  exact⟨x1,g1,ts1,qs1,k1,fx f1,r1.mono (fun _ h=>.inr ⟨h2,h⟩) (fun _ h=>⟨.inl h2,h⟩)⟩
 simp (disch:=try exact Dn) only[Kn,seval,reduceCtorEq]
 refine condC_d (fun h3=>?_) (fun h3=>?_)
 ·simp (disch:=try exact Dn) only[Kn,seval,reduceCtorEq]
  refine call_genQ (s23 h0 s.dom s.at_) ?_
  rintro _ H1 ⟨q,b,rfl,hq,x1,g1,ts1,qs1,k1,f1,r1⟩
  simp (disch:=try exact Dn) only[Kn,seval,reduceCtorEq]
  exact⟨x1,g1,ts1,qs1,k1,fx f1,r1.mono (fun _ h=>h.elim) (fun _ h=>⟨.inr h3,h⟩)⟩
 simp (disch:=try exact Dn) only[Kn,seval,reduceCtorEq]
 refine condC_d (fun h4=>?_) (fun h4=>?_)
 ·simp (disch:=try exact Dn) only[Kn,seval,reduceCtorEq]
  refine call_genQ (s24 h0) ?_
  rintro _ H1 ⟨rfl,x1,g1,ts1,qs1,k1,f1,r1⟩
  simp (disch:=try exact Dn) only[Kn,seval,reduceCtorEq]
  exact⟨x1,g1,ts1,qs1,k1,fx f1,r1.mono (fun _ h=>.inl h4) (fun _ h=>h.elim)⟩
 simp (disch:=try exact Dn) only[Kn,seval,reduceCtorEq]
 refine condC_d (fun h5=>?_) (fun h5=>?_)
 ·simp (disch:=try exact Dn) only[Kn,hs1,seval,reduceCtorEq]
  refine condC_d (fun h6=>?_) (fun h6=>?_)
  ·simp (disch:=try exact Dn) only[Kn,hs1,seval,reduceCtorEq]
   refine An (r25 s.up) ?_
   rintro _ rfl
   simp only[vl,ts,wb]
   simp (disch:=try exact Dn) only[Kn,seval,reduceCtorEq]
   simp (disch:=try exact Dn) only[Kn,hs1,hsl,hsg,seval,reduceCtorEq]
   have l1:=entlt h.t
   have l2:=entlt h.q
   refine⟨{ x with sp:=hp.length+11 },⟨SL.of s.up.l s.up.n,0,0,0,SL.nil⟩,ta,qs,?_,?_,Rl.refl⟩
   ·rw [← set_apl hsl]
    exact(h.ap _).newP (ent_apn.trans rfl) rfl (by omega) (by omega) (by omega)
   ·exact((Fx.refl.set (.inl rfl)).ap _).to rfl rfl rfl rfl (.inr (by simp only; omega))
  ·simp (disch:=try exact Dn) only[Kn,seval,reduceCtorEq]
   exact⟨x,g,ta,qs,h.ap _,(Fx.ap Fx.refl _),Rl.refl⟩
 ·simp (disch:=try exact Dn) only[Kn,seval,reduceCtorEq]
  exact⟨x,g,ta,qs,h.ap _,(Fx.ap Fx.refl _),Rl.refl⟩
end
end Go.Proofs
