/- Part 36 of a proof that a step of one domain changes nothing of another: the machine of plain values, and what the program's functions do. -/
import Derived.Test.YtdgcdnnmodnkjaaGreatDoorG33
import Derived.Test.YtdgcdnnmodnkjaaGreatDoorG35
import Derived.SizedLaws
set_option linter.all false
set_option linter.unusedVariables false
set_option linter.unusedSectionVars false
set_option linter.unusedSimpArgs false
set_option linter.defProp false
set_option maxHeartbeats 4000000
set_option maxRecDepth 100000
namespace Go.Proofs
open Go Go.Pv Go.Proofs.Tx
variable [Lq]
open W
open Classical
def topH(s:Sp)(N:Nt)(x:Si)(g:Sg)(ta:List EL)(qs:List QL):Hp:=[some ⟨27,[s.v],true⟩,some ⟨40,[N.v],true⟩,some ⟨100,[Si.v { x with sp:=3,ti:=4,qi:=5 }],true⟩,some ⟨94,[g.v],true⟩,some ⟨52,ta.map SL.v,true⟩,some ⟨54,qs.map SL.v,true⟩]
theorem topH_at{s:Sp}{N:Nt}{H:Hp}{i:Nat}{x:Si}{g:Sg}{ta:List EL}{qs:List QL}(h:SimAt H i x g ta qs):SimAt (topH s N x g ta qs) 2 { x with sp:=3,ti:=4,qi:=5 } g ta qs :=
 { h with s:=rfl,p:=rfl,t:=rfl,q:=rfl,n1:=by simp,n2:=by simp,n3:=by simp,n4:=by simp,n5:=by simp,n6:=by simp }
theorem nb{a b:Nat}(h:a≠b):(a == b)=false:=by simp [h]
theorem nth_ap{α:Type}[Inhabited α]{l m:List α}{j:Nat}(h:j < l.length):nth (l ++ m) j=nth l j:=by
 have h1:=nth_get (l:=l ++ m) (k:=j) (by rw [List.length_append]; omega)
 rw [List.getElem?_append_left h,nth_get h] at h1
 exact(Option.some.inj h1).symm
theorem nth_ap1{α:Type}[Inhabited α]{l:List α}{x:α}:nth (l ++ [x]) l.length=x:=by
 have h1:=nth_get (l:=l ++ [x]) (k:=l.length) (by simp)
 rw [List.getElem?_append_right (Nat.le_refl _),Nat.sub_self] at h1
 exact(Option.some.inj h1).symm
theorem topApart_run(u:SL Ln Ln.v 17)(v:SL Sp Sp.v 6)(s:Sp):∃ r,Run Tryz.prog 3 [u.v,v.v,s.v] r∧r=.bool true:=by
 have hun:=u.n
 have hvn:=v.n
 refine run_w (c:=c3 true) [.t 6] 3 (by kernel_rfl) (by kernel_rfl) (Nat.le_refl 3) (by simp only[wd]) ?_
 unfold c3
 simp (disch:=try exact Dn) only[Kn,seval,reduceCtorEq]
 refine call_nr ⟨_,works_run,rfl⟩ (by simp only[wd,wq,wz,zd,mk,bz,tt,wg,mp,t3,ss]) ?_
 rintro _ rfl
 simp only[vl,ts,wb]
 by_cases h100:(100:Int) < u.l.length
 ·repeat' (first
 |simp (disch:=try exact Dn) only[Kn,h100,seval,reduceCtorEq]
 |(with_reducible apply condC_d)<;>intro _
 |with_reducible refine e8 ?_
 |with_reducible refine e_app_vec ?_
 |(refine Fn ?_;first|rfl|exact e9|fail)
 |fail)
 simp (disch:=try exact Dn) only[Kn,h100,seval,reduceCtorEq]
 refine An (s5 u) ?_
 rintro _ ⟨b5,rfl,hb5⟩
 simp only[vl,ts,wb]
 cases b5
 case true=>repeat' (first
 |simp (disch:=try exact Dn) only[Kn,seval,reduceCtorEq]
 |(with_reducible apply condC_d)<;>intro _
 |with_reducible refine e8 ?_
 |with_reducible refine e_app_vec ?_
 |(refine Fn ?_;first|rfl|exact e9|fail)
 |fail)
 have hL:=hb5 rfl
 simp (disch:=try exact Dn) only[Kn,seval,reduceCtorEq]
 refine An (s6 v) ?_
 rintro _ ⟨b6,rfl,hb6⟩
 simp only[vl,ts,wb]
 cases b6
 case true=>repeat' (first
 |simp (disch:=try exact Dn) only[Kn,seval,reduceCtorEq]
 |(with_reducible apply condC_d)<;>intro _
 |with_reducible refine e8 ?_
 |with_reducible refine e_app_vec ?_
 |(refine Fn ?_;first|rfl|exact e9|fail)
 |fail)
 obtain ⟨hv60,hvb⟩:=hb6 rfl
 simp (disch:=try exact Dn) only[Kn,seval,reduceCtorEq]
 have h6:=s6 (SL.of [s] (Nat.le_of_ble_eq_true rfl))
 rw [← SL.ofe] at h6
 refine call_rn (by simp (disch:=try exact Dn) only[Kn,wp,seval,reduceCtorEq]; rfl) (by simp (disch:=try exact Dn) only[Kn,wp,seval,reduceCtorEq]) h6 ?_
 rintro _ ⟨b7,rfl,hb7⟩
 simp only[vl,wp,ts,wb]
 cases b7
 case true=>repeat' (first
 |simp (disch:=try exact Dn) only[Kn,seval,reduceCtorEq]
 |(with_reducible apply condC_d)<;>intro _
 |with_reducible refine e8 ?_
 |with_reducible refine e_app_vec ?_
 |(refine Fn ?_;first|rfl|exact e9|fail)
 |fail)
 have hsb:s.bytes.l.length≤2000:=(hb7 rfl).2 s (List.mem_singleton.2 rfl)
 simp (disch:=try exact Dn) only[Kn,seval,reduceCtorEq]
 refine An (s7 u hL) ?_
 rintro _ ⟨N,a,e,rfl,he,hN⟩
 simp only[vl,ts,wb]
 simp (disch:=try exact Dn) only[Kn,seval,reduceCtorEq]
 refine condC_d (fun h0=>?_) (fun h0=>?_)
 ·repeat' (first
 |simp (disch:=try exact Dn) only[Kn,seval,reduceCtorEq]
 |(with_reducible apply condC_d)<;>intro _
 |with_reducible refine e8 ?_
 |with_reducible refine e_app_vec ?_
 |(refine Fn ?_;first|rfl|exact e9|fail)
 |fail)
 obtain ⟨hg,hc⟩:=hN (Decidable.of_not_not h0)
 simp (disch:=try exact Dn) only[Kn,seval,reduceCtorEq]
 refine call_genQ (s8 N hg hc) ?_
 rintro _ H ⟨i,x,g,ta,qs,rfl,h1,hnd,hfr,hi,hsp,hti,hqi⟩
 simp (disch:=try exact Dn) only[Kn,seval,reduceCtorEq]
 have g0:ent H 0=some ⟨27,[s.v],true⟩:=(hfr 0 (by simp)).trans rfl
 have g2:ent H 2=some ⟨40,[N.v],true⟩:=(hfr 2 (by simp)).trans rfl
 have i3:3≤i:=hi
 have i4:3≤x.sp:=hsp
 have i5:3≤x.ti:=hti
 have i6:3≤x.qi:=hqi
 obtain ⟨m1,m2,m3,m4,m5,m6⟩:i≠x.sp∧i≠x.ti∧i≠x.qi∧x.sp≠x.ti∧x.sp≠x.qi∧x.ti≠x.qi:=⟨h1.n1,h1.n2,h1.n3,h1.n4,h1.n5,h1.n6⟩
 have f1:=h1.s
 have f2:=h1.p
 have f3:=h1.t
 have f4:=h1.q
 clear hi hsp hti hqi hb5 hb6 hb7 h6
 refine d_lo (fun p:Nat × Si × Sg × List EL × List QL=>⟨[(5,.eptr 0 0 0),(7,.eptr 1 0 0),(10,.eptr 2 0 0),(57,v.v),(58,.int .i64 v.l.length),(59,.int .i64 p.1)],topH s N p.2.1 p.2.2.1 p.2.2.2.1 p.2.2.2.2⟩) (fun p=>p.1≤v.l.length∧SimAt (topH s N p.2.1 p.2.2.1 p.2.2.2.1 p.2.2.2.2) 2 { p.2.1 with sp:=3,ti:=4,qi:=5 } p.2.2.1 p.2.2.2.1 p.2.2.2.2∧p.2.1.n.doms.l.length=N.doms.l.length) (fun p=>v.l.length - p.1) ?_ ?_
 ·have p0:(0 == i)=false:=nb (by omega)
  have p1:¬ 0=i:=by omega
  have p2:(0 == x.sp)=false:=nb (by omega)
  have p3:¬ 0=x.sp:=by omega
  have p4:(0 == x.ti)=false:=nb (by omega)
  have p5:¬ 0=x.ti:=by omega
  have p6:(0 == x.qi)=false:=nb (by omega)
  have p7:¬ 0=x.qi:=by omega
  have p8:(2 == i)=false:=nb (by omega)
  have p9:¬ 2=i:=by omega
  have p10:(2 == x.sp)=false:=nb (by omega)
  have p11:¬ 2=x.sp:=by omega
  have p12:(2 == x.ti)=false:=nb (by omega)
  have p13:¬ 2=x.ti:=by omega
  have p14:(2 == x.qi)=false:=nb (by omega)
  have p15:¬ 2=x.qi:=by omega
  have p16:(i == 0)=false:=nb (by omega)
  have p17:¬ i=0:=by omega
  have p18:(i == 2)=false:=nb (by omega)
  have p19:¬ i=2:=by omega
  have p20:(i == x.sp)=false:=nb (by omega)
  have p21:¬ i=x.sp:=by omega
  have p22:(i == x.ti)=false:=nb (by omega)
  have p23:¬ i=x.ti:=by omega
  have p24:(i == x.qi)=false:=nb (by omega)
  have p25:¬ i=x.qi:=by omega
  have p26:(x.sp == 0)=false:=nb (by omega)
  have p27:¬ x.sp=0:=by omega
  have p28:(x.sp == 2)=false:=nb (by omega)
  have p29:¬ x.sp=2:=by omega
  have p30:(x.sp == i)=false:=nb (by omega)
  have p31:¬ x.sp=i:=by omega
  have p32:(x.sp == x.ti)=false:=nb (by omega)
  have p33:¬ x.sp=x.ti:=by omega
  have p34:(x.sp == x.qi)=false:=nb (by omega)
  have p35:¬ x.sp=x.qi:=by omega
  have p36:(x.ti == 0)=false:=nb (by omega)
  have p37:¬ x.ti=0:=by omega
  have p38:(x.ti == 2)=false:=nb (by omega)
  have p39:¬ x.ti=2:=by omega
  have p40:(x.ti == i)=false:=nb (by omega)
  have p41:¬ x.ti=i:=by omega
  have p42:(x.ti == x.sp)=false:=nb (by omega)
  have p43:¬ x.ti=x.sp:=by omega
  have p44:(x.ti == x.qi)=false:=nb (by omega)
  have p45:¬ x.ti=x.qi:=by omega
  have p46:(x.qi == 0)=false:=nb (by omega)
  have p47:¬ x.qi=0:=by omega
  have p48:(x.qi == 2)=false:=nb (by omega)
  have p49:¬ x.qi=2:=by omega
  have p50:(x.qi == i)=false:=nb (by omega)
  have p51:¬ x.qi=i:=by omega
  have p52:(x.qi == x.sp)=false:=nb (by omega)
  have p53:¬ x.qi=x.sp:=by omega
  have p54:(x.qi == x.ti)=false:=nb (by omega)
  have p55:¬ x.qi=x.ti:=by omega
  simp (disch:=try exact Dn) only[Kn,g0,g2,f1,f2,f3,f4,p0,p1,p2,p3,p4,p5,p6,p7,p8,p9,p10,p11,p12,p13,p14,p15,p16,p17,p18,p19,p20,p21,p22,p23,p24,p25,p26,p27,p28,p29,p30,p31,p32,p33,p34,p35,p36,p37,p38,p39,p40,p41,p42,p43,p44,p45,p46,p47,p48,p49,p50,p51,p52,p53,p54,p55,seval,reduceCtorEq]
  exact⟨(0,x,g,ta,qs),rfl,Nat.zero_le _,topH_at h1,hnd⟩
 clear f1 f2 f3 f4 m1 m2 m3 m4 m5 m6 g0 g2 i3 i4 i5 i6 hfr h1 hnd H i x g ta qs
 rintro ⟨k,x,g,ta,qs⟩ ⟨hk,h1,hnd⟩
 simp only at hk h1 hnd ⊢
 unfold c3b0
 by_cases hlt:k < v.l.length
 ·have hvx:=hvb _ (nth_mem hlt)
  generalize hgl:nth v.l k=y at hvx
  simp (disch:=try exact Dn) only[Kn,topH,hgl,seval,reduceCtorEq]
  refine⟨⟨by omega,by omega⟩,?_⟩
  have h7:=h1.ap [some ⟨27,[y.v],true⟩]
  simp only[topH,List.cons_append,List.nil_append] at h7
  refine call_genQ (s9 h7 y hvx) ?_
  rintro _ H1 ⟨x1,g1,ts1,qs1,k1,f1,r1⟩
  have e1:x1.ti=4:=f1.ti
  have e2:x1.qi=5:=f1.qi
  have e3:x1.sp=3∨7≤x1.sp:=f1.sp
  have g0:ent H1 0=some ⟨27,[s.v],true⟩:=(f1.fr 0 (by simp) (by decide) (by simp) (by simp) (by simp)).trans rfl
  have g2:ent H1 1=some ⟨40,[N.v],true⟩:=(f1.fr 1 (by simp) (by decide) (by simp) (by simp) (by simp)).trans rfl
  have q1:=k1.s
  have q2:=k1.p
  have q3:=k1.t
  have q4:=k1.q
  rw [e1] at q3
  rw [e2] at q4
  have p0:(0 == x1.sp)=false:=nb (by omega)
  have p1:¬ 0=x1.sp:=by omega
  have p2:(1 == x1.sp)=false:=nb (by omega)
  have p3:¬ 1=x1.sp:=by omega
  have p4:(2 == x1.sp)=false:=nb (by omega)
  have p5:¬ 2=x1.sp:=by omega
  have p6:(x1.sp == 0)=false:=nb (by omega)
  have p7:¬ x1.sp=0:=by omega
  have p8:(x1.sp == 1)=false:=nb (by omega)
  have p9:¬ x1.sp=1:=by omega
  have p10:(x1.sp == 2)=false:=nb (by omega)
  have p11:¬ x1.sp=2:=by omega
  have p12:(x1.sp == 4)=false:=nb (by omega)
  have p13:¬ x1.sp=4:=by omega
  have p14:(x1.sp == 5)=false:=nb (by omega)
  have p15:¬ x1.sp=5:=by omega
  have p16:(4 == x1.sp)=false:=nb (by omega)
  have p17:¬ 4=x1.sp:=by omega
  have p18:(5 == x1.sp)=false:=nb (by omega)
  have p19:¬ 5=x1.sp:=by omega
  simp (disch:=try exact Dn) only[Kn,g0,g2,q1,q2,q3,q4,e1,e2,p0,p1,p2,p3,p4,p5,p6,p7,p8,p9,p10,p11,p12,p13,p14,p15,p16,p17,p18,p19,seval,reduceCtorEq]
  exact⟨(k+1,x1,g1,ts1,qs1),rfl,⟨by simp only; omega,topH_at k1,(congrArg (fun n:Nt=>n.doms.l.length) f1.n).trans hnd⟩,by simp only; omega⟩
 ·simp (disch:=try exact Dn) only[Kn,topH,seval,reduceCtorEq]
  clear hlt hk k
  refine d_lo (fun p:Nat × List EL × List QL=>⟨[(5,.eptr 0 0 0),(7,.eptr 1 0 0),(10,.eptr 2 0 0),(13,.vec 6 1 0 p.1),(14,.vec 7 1 0 p.1),(69,.int .i64 N.doms.l.length),(70,.int .i64 p.1)],topH s N x g ta qs ++ [some ⟨52,p.2.1.map SL.v,true⟩,some ⟨54,p.2.2.map SL.v,true⟩]⟩) (fun p=>p.1≤N.doms.l.length∧p.2.1.length=p.1∧p.2.2.length=p.1∧∀ j,j < p.1 →(nth p.2.1 j).l =(nth ta j).l ∧(nth p.2.2 j).l =(nth qs j).l.map cpQ) (fun p=>N.doms.l.length - p.1) ?_ ?_
  ·simp (disch:=try exact Dn) only[Kn,topH,seval,reduceCtorEq]
   exact⟨(0,[],[]),rfl,Nat.zero_le _,rfl,rfl,fun j hj=>absurd hj (Nat.not_lt_zero _)⟩
  rintro ⟨k,A,B⟩ ⟨hk,hA,hB,hAB⟩
  simp only at hk hA hB hAB ⊢
  unfold c3b1
  have hsim:∀(a0 a1:Option Ent) (l:Hp),SimAt (a0 :: a1 :: some ⟨100,[Si.v { x with sp:=3,ti:=4,qi:=5 }],true⟩ :: some ⟨94,[g.v],true⟩ :: some ⟨52,ta.map SL.v,true⟩ :: some ⟨54,qs.map SL.v,true⟩ :: l) 2 { x with sp:=3,ti:=4,qi:=5 } g ta qs:=fun a0 a1 l=>{ h1 with s:=rfl,p:=rfl,t:=rfl,q:=rfl }
  have hn48:=hg.few.2.2.2.1
  have hxk:x.k=N.doms.l.length:=h1.k.trans hnd
  by_cases hlt:k < N.doms.l.length
  ·simp (disch:=try exact Dn) only[Kn,topH,seval,reduceCtorEq]
   refine call_genQ (s10 (hsim _ _ _) k ⟨by omega,by simp only; omega⟩) ?_
   rintro _ _ ⟨w,rfl,hw,rfl⟩
   simp (disch:=try exact Dn) only[Kn,seval,reduceCtorEq]
   refine e_app_vec ?_
   simp (disch:=try exact Dn) only[Kn,hA,seval,reduceCtorEq]
   refine⟨by omega,?_⟩
   refine call_genQ (s11 (hsim _ _ _) k ⟨by omega,by simp only; omega⟩) ?_
   rintro _ _ ⟨w2,rfl,hw2,e2,rfl⟩
   simp (disch:=try exact Dn) only[Kn,seval,reduceCtorEq]
   refine e_app_vec ?_
   simp (disch:=try exact Dn) only[Kn,hB,seval,reduceCtorEq]
   refine⟨by omega,?_⟩
   exact⟨(k+1,A ++ [w],B ++ [w2]),rfl,⟨by simp only; omega,by simp only[List.length_append,List.length_cons,List.length_nil]; omega,by simp only[List.length_append,List.length_cons,List.length_nil]; omega,fun j hj=>by
    rcases Nat.lt_or_ge j k with h | h
    ·rw [nth_ap (by omega),nth_ap (by omega)]; exact hAB j h
    ·obtain rfl:j=k:=by simp only at hj; omega
     have hA':=nth_ap1 (l:=A) (x:=w)
     have hB':=nth_ap1 (l:=B) (x:=w2)
     rw [hA] at hA'
     rw [hB] at hB'
     simp only
     rw [hA',hB']
     exact⟨hw,hw2⟩⟩,by simp only; omega⟩
  ·obtain rfl:k=N.doms.l.length:=by omega
   simp (disch:=try exact Dn) only[Kn,topH,seval,reduceCtorEq]
   refine call_genQ (s9 (hsim _ _ _) s hsb) ?_
   rintro _ H1 ⟨x1,g1,ts1,qs1,k1,f1,r1⟩
   have e1:x1.ti=4:=f1.ti
   have e2:x1.qi=5:=f1.qi
   have e3:x1.sp=3∨8≤x1.sp:=f1.sp
   have g0:ent H1 0=some ⟨27,[s.v],true⟩:=(f1.fr 0 (by simp) (by decide) (by simp) (by simp) (by simp)).trans rfl
   have g2:ent H1 1=some ⟨40,[N.v],true⟩:=(f1.fr 1 (by simp) (by decide) (by simp) (by simp) (by simp)).trans rfl
   have g6:ent H1 6=some ⟨52,A.map SL.v,true⟩:=(f1.fr 6 (by simp) (by decide) (by simp) (by simp) (by simp)).trans rfl
   have g7:ent H1 7=some ⟨54,B.map SL.v,true⟩:=(f1.fr 7 (by simp) (by decide) (by simp) (by simp) (by simp)).trans rfl
   have q1:=k1.s
   have q2:=k1.p
   have q3:=k1.t
   have q4:=k1.q
   rw [e1] at q3
   rw [e2] at q4
   have p0:(0 == x1.sp)=false:=nb (by omega)
   have p1:¬ 0=x1.sp:=by omega
   have p2:(2 == x1.sp)=false:=nb (by omega)
   have p3:¬ 2=x1.sp:=by omega
   have p4:(x1.sp == 0)=false:=nb (by omega)
   have p5:¬ x1.sp=0:=by omega
   have p6:(x1.sp == 2)=false:=nb (by omega)
   have p7:¬ x1.sp=2:=by omega
   have p8:(x1.sp == 4)=false:=nb (by omega)
   have p9:¬ x1.sp=4:=by omega
   have p10:(x1.sp == 5)=false:=nb (by omega)
   have p11:¬ x1.sp=5:=by omega
   have p12:(x1.sp == 6)=false:=nb (by omega)
   have p13:¬ x1.sp=6:=by omega
   have p14:(x1.sp == 7)=false:=nb (by omega)
   have p15:¬ x1.sp=7:=by omega
   have p16:(4 == x1.sp)=false:=nb (by omega)
   have p17:¬ 4=x1.sp:=by omega
   have p18:(5 == x1.sp)=false:=nb (by omega)
   have p19:¬ 5=x1.sp:=by omega
   have p20:(6 == x1.sp)=false:=nb (by omega)
   have p21:¬ 6=x1.sp:=by omega
   have p22:(7 == x1.sp)=false:=nb (by omega)
   have p23:¬ 7=x1.sp:=by omega
   simp (disch:=try exact Dn) only[Kn,g0,g2,q1,q2,q3,q4,g6,g7,e1,e2,p0,p1,p2,p3,p4,p5,p6,p7,p8,p9,p10,p11,p12,p13,p14,p15,p16,p17,p18,p19,p20,p21,p22,p23,seval,reduceCtorEq]
   refine d_lo (fun k:Nat=>⟨[(5,.eptr 0 0 0),(10,.eptr 1 0 0),(13,.vec 5 1 0 N.doms.l.length),(14,.vec 6 1 0 N.doms.l.length),(91,.int .i64 N.doms.l.length),(92,.int .i64 k)],[some ⟨27,[s.v],true⟩,some ⟨100,[Si.v { x1 with sp:=2,ti:=3,qi:=4 }],true⟩,some ⟨94,[g1.v],true⟩,some ⟨52,ts1.map SL.v,true⟩,some ⟨54,qs1.map SL.v,true⟩,some ⟨52,A.map SL.v,true⟩,some ⟨54,B.map SL.v,true⟩]⟩) (fun k=>k≤N.doms.l.length) (fun k=>N.doms.l.length - k) ?_ ?_
   ·simp (disch:=try exact Dn) only[Kn,g0,g2,q1,q2,q3,q4,g6,g7,e1,e2,p0,p1,p2,p3,p4,p5,p6,p7,p8,p9,p10,p11,p12,p13,p14,p15,p16,p17,p18,p19,p20,p21,p22,p23,seval,reduceCtorEq]
    exact⟨0,rfl,Nat.zero_le _⟩
   have hsim2:∀(a0:Option Ent) (l:Hp),SimAt (a0 :: some ⟨100,[Si.v { x1 with sp:=2,ti:=3,qi:=4 }],true⟩ :: some ⟨94,[g1.v],true⟩ :: some ⟨52,ts1.map SL.v,true⟩ :: some ⟨54,qs1.map SL.v,true⟩ :: l) 1 { x1 with sp:=2,ti:=3,qi:=4 } g1 ts1 qs1:=fun a0 l=>{ k1 with s:=rfl,p:=rfl,t:=rfl,q:=rfl,n1:=by simp,n2:=by simp,n3:=by simp,n4:=by simp,n5:=by simp,n6:=by simp }
   have hx1k:x1.k=N.doms.l.length:=f1.k.trans hxk
   have htl:ta.length=N.doms.l.length:=h1.tl.trans hxk
   have hql:qs.length=N.doms.l.length:=h1.ql.trans hxk
   clear g0 g2 g6 g7 q1 q2 q3 q4 p0 p1 p2 p3 p4 p5 p6 p7 p8 p9 p10 p11 p12 p13 p14 p15 p16 p17 p18 p19 p20 p21 p22 p23
   intro k hk
   unfold c3b2
   by_cases hlt:k < N.doms.l.length
   ·simp (disch:=try exact Dn) only[Kn,seval,reduceCtorEq]
    refine call_genQ (s10 (hsim2 _ _) k ⟨by omega,by simp only; omega⟩) ?_
    rintro _ _ ⟨w,rfl,hw,rfl⟩
    simp (disch:=try exact Dn) only[Kn,seval,reduceCtorEq]
    refine call_genQ (s11 (hsim2 _ _) k ⟨by omega,by simp only; omega⟩) ?_
    rintro _ _ ⟨w2,rfl,hw2,e5,rfl⟩
    obtain ⟨hA1,hB1⟩:=hAB k hlt
    have hT:¬(s.kind=4∨s.kind=2 ∧(k:Int)=s.dom)→w.l =(nth A k).l:=fun h=>by
     rw [hA1,hw]; exact r1.t k (by omega) h
    have hQ:¬((s.kind=2∨s.kind=3) ∧(k:Int)=s.dom) →(nth B k).l.length≤w2.l.length∧QsS (w2.take (nth B k).l.length).l (nth B k).l:=fun h=>by
     rw [hB1,hw2]
     have h2:=(r1.q k (by omega) h).same
     exact⟨h2.1,by show QsS (w2.l.take _) _; rw [hw2]; exact h2.2⟩
    by_cases c2:s.kind=2
    ·by_cases cd:s.dom =(k:Int)
     ·repeat' (first
 |simp (disch:=try exact Dn) only[Kn,c2,cd,seval,reduceCtorEq]
 |(with_reducible apply condC_d)<;>intro _
 |with_reducible refine e8 ?_
 |with_reducible refine e_app_vec ?_
 |exact⟨k+1,rfl,by omega,by omega⟩
 |(refine Fn ?_;first|exact e9|fail)
 |fail)
     ·have hw3:=hT (by omega)
      obtain ⟨hl3,hq3⟩:=hQ (by omega)
      repeat' (first
 |simp (disch:=try exact Dn) only[Kn,c2,cd,hw3,hq3,seval,reduceCtorEq]
 |(with_reducible apply condC_d)<;>intro _
 |with_reducible refine e8 ?_
 |with_reducible refine e_app_vec ?_
 |(refine An (s12 w (nth A k)) ?_;rintro _ rfl;all_goals simp only[vl,ts,wb])
 |(refine callv_nr (s13 (w2.take (nth B k).l.length) (nth B k)) (by simp only[wd,seval,not_false_eq_true]) ?_; rintro _ rfl; all_goals simp only[vl,ts,wb])
 |exact⟨k+1,rfl,by omega,by omega⟩
 |(refine Fn ?_;first|exact e9|fail)
 |fail)
    by_cases c3:s.kind=3
    ·have hw3:=hT (by omega)
     by_cases cd:s.dom =(k:Int)
     ·repeat' (first
 |simp (disch:=try exact Dn) only[Kn,c3,cd,hw3,seval,reduceCtorEq]
 |(with_reducible apply condC_d)<;>intro _
 |with_reducible refine e8 ?_
 |with_reducible refine e_app_vec ?_
 |(refine An (s12 w (nth A k)) ?_;rintro _ rfl;all_goals simp only[vl,ts,wb])
 |(refine callv_nr (s13 (w2.take (nth B k).l.length) (nth B k)) (by simp only[wd,seval,not_false_eq_true]) ?_; rintro _ rfl; all_goals simp only[vl,ts,wb])
 |exact⟨k+1,rfl,by omega,by omega⟩
 |(refine Fn ?_;first|exact e9|fail)
 |fail)
     ·obtain ⟨hl3,hq3⟩:=hQ (by omega)
      repeat' (first
 |simp (disch:=try exact Dn) only[Kn,c3,cd,hw3,hq3,seval,reduceCtorEq]
 |(with_reducible apply condC_d)<;>intro _
 |with_reducible refine e8 ?_
 |with_reducible refine e_app_vec ?_
 |(refine An (s12 w (nth A k)) ?_;rintro _ rfl;all_goals simp only[vl,ts,wb])
 |(refine callv_nr (s13 (w2.take (nth B k).l.length) (nth B k)) (by simp only[wd,seval,not_false_eq_true]) ?_; rintro _ rfl; all_goals simp only[vl,ts,wb])
 |exact⟨k+1,rfl,by omega,by omega⟩
 |(refine Fn ?_;first|exact e9|fail)
 |fail)
    obtain ⟨hl3,hq3⟩:=hQ (by omega)
    by_cases c4:s.kind=4
    ·repeat' (first
 |simp (disch:=try exact Dn) only[Kn,c4,hq3,seval,reduceCtorEq]
 |(with_reducible apply condC_d)<;>intro _
 |with_reducible refine e8 ?_
 |with_reducible refine e_app_vec ?_
 |(refine An (s12 w (nth A k)) ?_;rintro _ rfl;all_goals simp only[vl,ts,wb])
 |(refine callv_nr (s13 (w2.take (nth B k).l.length) (nth B k)) (by simp only[wd,seval,not_false_eq_true]) ?_; rintro _ rfl; all_goals simp only[vl,ts,wb])
 |exact⟨k+1,rfl,by omega,by omega⟩
 |(refine Fn ?_;first|exact e9|fail)
 |fail)
    ·have hw3:=hT (by omega)
     repeat' (first
 |simp (disch:=try exact Dn) only[Kn,c2,c3,c4,hw3,hq3,seval,reduceCtorEq]
 |(with_reducible apply condC_d)<;>intro _
 |with_reducible refine e8 ?_
 |with_reducible refine e_app_vec ?_
 |(refine An (s12 w (nth A k)) ?_;rintro _ rfl;all_goals simp only[vl,ts,wb])
 |(refine callv_nr (s13 (w2.take (nth B k).l.length) (nth B k)) (by simp only[wd,seval,not_false_eq_true]) ?_; rintro _ rfl; all_goals simp only[vl,ts,wb])
 |exact⟨k+1,rfl,by omega,by omega⟩
 |(refine Fn ?_;first|exact e9|fail)
 |fail)
   ·repeat' (first
 |simp (disch:=try exact Dn) only[Kn,seval,reduceCtorEq]
 |(with_reducible apply condC_d)<;>intro _
 |with_reducible refine e8 ?_
 |with_reducible refine e_app_vec ?_
 |(refine Fn ?_;first|rfl|exact e9|fail)
 |fail)
end Go.Proofs
namespace Go.Pv
open Go.ChangeShapes Go.WideShapes Go.RowKit
inductive Sz:AV→Prop
 | bool (b:Bool):Sz (.bool b)
 | int (k:IntKind) (n:Int):Sz (.int k n)
 | str (s:List UInt8):s.length≤reachBytes→Sz (.str s)
 | sl (sz:Nat) (es:List AV) (f:Bool):es.length≤reachBytes →(∀ y∈es,Sz y)→Sz (.sl sz es f)
 | agg (cs:List AV):(∀ y∈cs,Sz y)→Sz (.agg cs)
def SzL(xs:List AV):Prop:=∀ y∈xs,Sz y
theorem SzL.one{y:AV}(h:Sz y):SzL [y]:=fun x hx=>by
 rw [List.mem_singleton.1 hx]; exact h
theorem SzL.app{xs ys:List AV}(h:SzL xs)(k:SzL ys):SzL (xs ++ ys):=fun x hx=>(List.mem_append.1 hx).elim (h x) (k x)
theorem Sz.of_flat{y:AV}(h:SzL y.flat):Sz y:=by
 cases y with
 | agg cs=>exact .agg cs h
 | _=>exact h _ (by simp [AV.flat])
theorem Sz.slLen{sz:Nat}{es:List AV}{f:Bool}(h:Sz (.sl sz es f)):es.length≤140737488351232:=by
 cases h with | sl _ _ _ h _=>exact h
theorem Sz.slAll{sz:Nat}{es:List AV}{f:Bool}(h:Sz (.sl sz es f)):∀ y∈es,Sz y:=by
 cases h with | sl _ _ _ _ h=>exact h
theorem Sz.aggAll{cs:List AV}(h:Sz (.agg cs)):∀ y∈cs,Sz y:=by
 cases h with | agg _ h=>exact h
def byP(P:Program):Nat→TypeId→Bool
 | 0,_=>false
 | d+1,t=>match P.underlying t with
  | some (.slice e)=>decide (1≤P.bytesOf e) && byP P d e
  | some (.struct fs)=>fs.toList.all fun f=>byP P d f.type
  | _=>true
section
variable {H:Type} {enc:TypeId × Value→H} {P:Program} {w:World} {base:Nat} {spare:Nat→Bool} {held:Bool}
theorem weightsAll_mem{e:TypeId}:∀ {l:List (DataW H)},(DataW.weightsAll P e l).all (·≤reachBytes)=true→∀ d∈l,(d.weights P e).all (·≤reachBytes)=true
 | [],_,d,hd=>by cases hd
 | x :: l,h,d,hd=>by
  simp only[DataW.weightsAll,List.all_append,Bool.and_eq_true] at h
  rcases List.mem_cons.1 hd with rfl | hd
  ·exact h.1
  ·exact weightsAll_mem h.2 d hd
theorem weightsEach_get:∀ {ts:List TypeId} {ds:List (DataW H)} {j:Nat} {t:TypeId} {d:DataW H},(DataW.weightsEach P ts ds).all (·≤reachBytes)=true→ts[j]?=some t→ds[j]?=some d →(d.weights P t).all (·≤reachBytes)=true:=fun h ht hd =>
 List.all_eq_true.2 fun n hn=>List.all_eq_true.1 h n (DataW.weights_mem_each ht hd n hn)
theorem fields_datz{d m:Nat}(ih:∀(t:TypeId) (n:Nat) (cs:List Value) (x:DataW H × List MemPlace),supp P d t=true→byP P d t=true→DataW.trod enc P w base spare held n t cs=some x →(x.1.weights P t).all (·≤reachBytes)=true→cs.length=P.cellsOf t∧∃ xs,Dat P d t xs∧CellsD w xs cs∧SzL xs){cs:List Value} :
  ∀(fs:List Field) (o e:Nat),contig P o fs=some e →(fs.all fun f=>supp P d f.type && byP P d f.type)=true→e≤cs.length →
   (∀ f∈fs,∃ x,DataW.trod enc P w base spare held m f.type ((cs.drop f.offset).take (P.cellsOf f.type))=some x ∧(x.1.weights P f.type).all (·≤reachBytes)=true) →
   o≤e∧∃ xs,SzL xs∧CellsD w xs ((cs.drop o).take (e - o))∧xs.length=e - o∧∀ f∈fs,o≤f.offset∧Dat P d f.type ((xs.drop (f.offset - o)).take (P.cellsOf f.type))
 | [],o,e,hc,_,_,_=>by
  simp only[contig,Option.some.injEq] at hc
  subst hc
  refine⟨Nat.le_refl _,[],(fun y hy=>by cases hy),⟨by simp,fun i x v hx=>by simp at hx⟩,by simp,fun f hf=>by cases hf⟩
 | f :: fs,o,e,hc,ha,he,hr=>by
  simp only[contig] at hc
  split at hc
  case isFalse=>cases hc
  rename_i hfo
  subst hfo
  simp only[List.all_cons,Bool.and_eq_true] at ha
  obtain ⟨h1,xs,hz,h2,h3,h4⟩:=fields_datz ih fs _ e hc ha.2 he fun f' hf'=>hr f' (List.mem_cons_of_mem _ hf')
  obtain ⟨x,hx,hxw⟩:=hr f (by simp)
  obtain ⟨hl,ys,hd,hy,hyz⟩:=ih f.type m _ x ha.1.1 ha.1.2 hx hxw
  have hyl:ys.length=P.cellsOf f.type:=hy.1.trans hl
  refine⟨by omega,ys ++ xs,hyz.app hz,?_,by rw [List.length_append,hyl,h3]; omega,fun f' hf'=>?_⟩
  ·have e1:(cs.drop f.offset).take (e - f.offset) =(cs.drop f.offset).take (P.cellsOf f.type) ++(cs.drop (f.offset+P.cellsOf f.type)).take (e - (f.offset+P.cellsOf f.type)):=by
    rw [show e - f.offset=P.cellsOf f.type +(e - (f.offset+P.cellsOf f.type)) by omega,List.take_add,List.drop_drop]
   rw [e1]
   exact hy.app h2
  ·rcases List.mem_cons.1 hf' with rfl | hf'
   ·refine⟨by omega,?_⟩
    rw [Nat.sub_self,List.drop_zero,← hyl,List.take_left]
    exact hd
   ·obtain ⟨k1,k2⟩:=h4 f' hf'
    refine⟨by omega,?_⟩
    have e2:(ys ++ xs).drop (f'.offset - f.offset)=xs.drop (f'.offset - (f.offset+P.cellsOf f.type)):=by
     rw [List.drop_append,List.drop_of_length_le (by omega),List.nil_append]
     congr 1; omega
    rw [e2]; exact k2
theorem datz_of_trod:∀(d:Nat) (t:TypeId) (n:Nat) (cs:List Value) (x:DataW H × List MemPlace),supp P d t=true→byP P d t=true→DataW.trod enc P w base spare held n t cs=some x →(x.1.weights P t).all (·≤reachBytes)=true→cs.length=P.cellsOf t∧∃ xs,Dat P d t xs∧CellsD w xs cs∧SzL xs
 | 0,_,_,_,_,hs,_,_,_=>by cases hs
 | d+1,t,n,cs,x,hs,hby,h,hwt=>by
  unfold supp at hs
  unfold byP at hby
  unfold Dat
  cases hu:P.underlying t with
  | none=>rw [hu] at hs; cases hs
  | some u =>
   rw [hu] at hs hby
   cases u with
   | bool =>
    obtain ⟨b,rfl,_⟩:=DataW.trod_bool hu h
    exact⟨by simpa using (beq_iff_eq.1 hs).symm,[.bool b],⟨b,rfl⟩,.one (.bool b) rfl,.one (.bool b)⟩
   | int k =>
    obtain ⟨m,rfl,_,hw⟩:=DataW.trod_int hu h
    exact⟨by simpa using (beq_iff_eq.1 hs).symm,[.int k m],⟨m,rfl,hw⟩,.one (.int k m) rfl,.one (.int k m)⟩
   | string =>
    obtain ⟨s,rfl,rfl,hw⟩:=DataW.trod_string hu h
    have hwz:s.data.toList.length≤reachBytes:=by simpa [DataW.weights] using hwt
    refine⟨by simpa using (beq_iff_eq.1 hs).symm,[.str s.data.toList],⟨s.data.toList,rfl,by simpa using hw⟩,.one (.str s.data.toList) rfl,.one (.str _ hwz)⟩
   | slice e =>
    simp only[Bool.and_eq_true,beq_iff_eq,decide_eq_true_eq] at hs
    obtain ⟨hs1,hpos,hse⟩:=hs
    simp only[Bool.and_eq_true,decide_eq_true_eq] at hby
    rcases Go.Deep.open_slice hu h with ⟨rfl,_⟩ | ⟨a,len,cap,m,n',D,Pl,rfl,_,hl,hm,hmm,rfl,hx⟩
    ·exact⟨by simpa using hs1.symm,[.sl (P.cellsOf e) [] false],⟨[],rfl,by simp,fun y hy=>by cases hy⟩,.one (.sl0 _ _ _ _ fun h=>by cases h) rfl,.one (.sl _ _ _ (by simp) fun y hy=>by cases hy)⟩
    ·refine⟨by simpa using hs1.symm,?_⟩
     have hlm:len≤m:=by rw [hmm]; split <;> omega
     simp only[DataW.weights,hu,List.all_cons,Bool.and_eq_true,decide_eq_true_eq,List.all_append,List.length_map,List.length_range] at hwt
     have hlz:len≤reachBytes:=by
      have h1:=hwt.1
      have h2:len * 1 ≤(len +(m - len)) * P.bytesOf e:=Nat.mul_le_mul (by omega) hby.1
      omega
     have hwi:∀ i,i < len →((D i).weights P e).all (·≤reachBytes)=true:=fun i hi=>weightsAll_mem (by simpa using hwt.2.1) (D i) (List.mem_map.2 ⟨i,List.mem_range.2 hi,rfl⟩)
     have hex:∀ i,i < len→∃ y:AV × List Value,DatV P d e y.1∧CellsD w y.1.flat y.2∧Sz y.1∧y.2.length=P.cellsOf e∧∀ j u,y.2[j]?=some u→w.cell? ((a.add (i * P.cellsOf e)).add j)=some u:=by
      intro i hi
      obtain ⟨cs',h1,h2⟩:=hx i (by omega)
      obtain ⟨h3,h4⟩:=cells_at h1
      obtain ⟨_,ys,k1,k2,kz⟩:=datz_of_trod d e n' cs' _ hse hby.2 h2 (hwi i hi)
      obtain ⟨y,k3,k4⟩:=box_dat hse k1
      exact⟨(y,cs'),k3,by rw [k4]; exact k2,Sz.of_flat (k4 ▸ kz),h3,h4⟩
     have:Inhabited (AV × List Value):=⟨(.undef,[])⟩
     obtain ⟨F,hF⟩:=Go.Deep.choose_lt hex
     have hget:∀ i x,((List.range len).map fun i=>(F i).1)[i]?=some x→i < len∧x =(F i).1:=by
      intro i x hi
      rw [List.getElem?_map] at hi
      rcases Nat.lt_or_ge i len with h' | h'
      ·rw [List.getElem?_range h'] at hi
       exact⟨h',by simpa using hi.symm⟩
      ·rw [List.getElem?_eq_none (by simpa using h')] at hi; cases hi
     refine⟨[.sl (P.cellsOf e) ((List.range len).map fun i=>(F i).1) false],⟨_,rfl,by simp; omega,?_⟩,?_,.one (.sl _ _ _ (by simpa using hlz) fun y hy=>by
      obtain ⟨i,hi,rfl⟩:=List.mem_map.1 hy
      exact(hF i (List.mem_range.1 hi)).2.2.1)⟩
     ·intro y hy
      obtain ⟨i,hi,rfl⟩:=List.mem_map.1 hy
      exact(hF i (List.mem_range.1 hi)).1
     ·refine .one ?_ rfl
      rcases Nat.eq_zero_or_pos len with h0 | h0
      ·subst h0; exact .sl0 _ _ _ _ fun h=>by cases h
      ·have hfl:∀ i,i < len →(F i).1.flat.length=P.cellsOf e:=fun i hi=>by rw [(hF i hi).2.1.1,(hF i hi).2.2.2.1]
       have hcell0:∀ i,i < len→∀ j u,(F i).2[j]?=some u→w.cell? ((a.add (i * P.cellsOf e)).add j)=some u:=fun i hi=>(hF i hi).2.2.2.2
       have ha:a =⟨a.block,a.off,none⟩:=by
        obtain ⟨u,hu0⟩:∃ u,(F 0).2[0]?=some u:=⟨_,List.getElem?_eq_getElem (by rw [(hF 0 h0).2.2.2.1]; exact hpos)⟩
        have:=hcell0 0 h0 0 u hu0
        rw [Nat.zero_mul] at this
        exact spot_none (v:=u) this
       have hcell1:∀ i,i < len→∀ j u,(F i).2[j]?=some u→w.cell? ⟨a.block,a.off+i * P.cellsOf e+j,none⟩=some u:=fun i hi j u hj=>by
        have:=hcell0 i hi j u hj
        rw [ha,add_plain,add_plain] at this
        exact this
       have hb:a.block < w.heap.size:=by
        obtain ⟨u,hu0⟩:∃ u,(F 0).2[0]?=some u:=⟨_,List.getElem?_eq_getElem (by rw [(hF 0 h0).2.2.2.1]; exact hpos)⟩
        have:=hcell1 0 h0 0 u hu0
        exact World.block_lt_of_cell? w ⟨a.block,_,none⟩ this
       rw [ha]
       have key:∀(i:Nat) (x:AV) (j:Nat) (y:AV),((List.range len).map fun i=>(F i).1)[i]?=some x→x.flat[j]?=some y→i < len∧∃ u,(F i).2[j]?=some u∧Sim w (bareG (old w)) y u∧u.oneCell'=true:=by
        intro i x j y hx hy
        obtain ⟨hi,rfl⟩:=hget i x hx
        have hj:=(List.getElem?_eq_some_iff.1 hy).1
        have hu:(F i).2[j]?=some ((F i).2[j]'(by rw [← (hF i hi).2.1.1]; exact hj)):=List.getElem?_eq_getElem _
        obtain ⟨k1,k2⟩:=(hF i hi).2.1.2 j y _ hy hu
        exact⟨hi,_,hu,k1,k2⟩
       have e0:len =((List.range len).map fun i=>(F i).1).length:=by simp
       have hS:=Sim.sl (w:=w) (γ:=bareG (old w)) (P.cellsOf e) ((List.range len).map fun i=>(F i).1) false a.block a.off cap (fun i j=>((F i).2[j]?).getD .nilIface) (by simpa using h0) (by simpa using hl) (fun h=>by cases h) hb hb
        (fun x hx=>by
          obtain ⟨i,hi,rfl⟩:=List.mem_map.1 hx
          exact hfl i (List.mem_range.1 hi))
        (fun i x j y hx hy=>by
          obtain ⟨hi,u,h1,h2,h3⟩:=key i x j y hx hy
          rw [h1]
          exact⟨hcell1 i hi j u h1,h3⟩)
        (fun i x j y hx hy=>by
          obtain ⟨hi,u,h1,h2,h3⟩:=key i x j y hx hy
          rw [h1]
          exact h2)
       simpa using hS
   | struct fs =>
    simp only[Bool.and_eq_true,beq_iff_eq] at hs
    obtain ⟨xs,n',rfl,rfl,hl,hxl,hf⟩:=DataW.trod_struct hu h
    simp only[DataW.weights,hu] at hwt
    obtain ⟨_,ys,hz,h1,h2,h3⟩:=fields_datz (m:=n') (enc:=enc) (base:=base) (spare:=spare) (held:=held) (datz_of_trod d) (cs:=cs) fs.toList 0 _ hs.1 (by
     have a1:=hs.2
     simp only[List.all_eq_true,Bool.and_eq_true] at a1 hby ⊢
     exact fun f hf'=>⟨a1 f hf',hby f hf'⟩) (by omega) (fun f hf'=>by
     obtain ⟨i,hi⟩:=List.mem_iff_getElem?.1 hf'
     have hi':fs[i]?=some f:=by simpa using hi
     have:=hf i f hi'
     have hlt:=(Array.getElem?_eq_some_iff.1 hi').1
     rw [List.getElem?_eq_getElem (by omega)] at this
     refine⟨_,this,?_⟩
     have hlx:i < xs.length:=by omega
     refine weightsEach_get hwt (j:=i) ?_ ?_
     ·simp [hi']
     ·simp [List.getElem?_eq_getElem hlx])
    refine⟨hl,ys,⟨by simpa using h2,fun f hf'=>?_⟩,?_,hz⟩
    ·simpa using (h3 f hf').2
    ·rw [List.drop_zero,Nat.sub_zero,← hl,List.take_length] at h1
     exact h1
   | _=>cases hs
theorem ownz_of:∀(ts:List TypeId) (vs:List Value) (ds:List (DataW H)) (ps:List MemPlace) {d:Nat} {r:Reach},ts.all (supp P d)=true→ts.all (byP P d)=true →(DataW.weightsEach P ts ds).all (·≤reachBytes)=true→DataW.TrodAll enc P w 0 spare held ts vs ds ps →
  (∀(j:Nat) t v,ts[j]?=some t→vs[j]?=some v→Value.okWide P w r base t v)→∃ xs,DatL P d ts xs∧SzL xs∧OwnL (OwnC w (old w)) [] xs vs
 | [],vs,ds,ps,_,_,_,_,_,h,_=>by
  obtain ⟨rfl,rfl,rfl⟩:=trodAll_nil h
  exact⟨[],trivial,(fun y hy=>by cases hy),.nil⟩
 | t :: ts,vs,ds,ps,d,r,ha,hby,hwt,h,hok=>by
  obtain ⟨v,vs',d',ds',p,q,rfl,rfl,rfl,⟨n,h1⟩,h2⟩:=trodAll_cons h
  simp only[List.all_cons,Bool.and_eq_true] at ha hby
  simp only[DataW.weightsEach,List.all_append,Bool.and_eq_true] at hwt
  obtain ⟨xs,k1,kz,k2⟩:=ownz_of ts vs' ds' q ha.2 hby.2 hwt.2 h2 fun j t' v' hj hv=>hok (j+1) t' v' (by simpa using hj) (by simpa using hv)
  have hv0:=hok 0 t v rfl rfl
  obtain ⟨_,ys,m1,m2,mz⟩:=datz_of_trod d t n _ _ ha.1 hby.1 h1 hwt.1
  cases hag:isAg P t with
  | true =>
   have:∃ cs,v=.agg cs:=by
    unfold isAg at hag
    unfold Value.okWide at hv0
    split at hag
    ·rename_i hu; rw [hu] at hv0; obtain ⟨cs,h,_⟩:=hv0; exact⟨cs,h⟩
    ·rename_i hu; rw [hu] at hv0; obtain ⟨cs,h,_⟩:=hv0; exact⟨cs,h⟩
    ·cases hag
   obtain ⟨cs,rfl⟩:=this
   have hown:OwnC w (old w) [] (.agg ys) (.agg cs):=⟨rfl,.agg ys cs (by simpa [Value.cells] using m2.1) fun i x v hx hv=>(m2.2 i x v hx (by simpa [Value.cells] using hv)).1⟩
   exact⟨.agg ys :: xs,⟨⟨⟨fun _=>⟨_,rfl⟩,(fun h=>by rw [hag] at h; cases h)⟩,m1⟩,k1⟩,(SzL.one (.agg _ mz)).app kz,OwnL.cons (os:=[]) (os':=[]) hown k2⟩
  | false =>
   rw [cells_single ha.1 hag hv0] at m2
   obtain ⟨y,rfl,hy⟩:=dat_single ha.1 hag m1
   have hsim:=(m2.2 0 y v rfl rfl).1
   have hno:∀ a b c,y≠.own a b c:=fun a b c e=>by subst e; cases hsim
   have hown:OwnC w (old w) [] y v:=by
    unfold OwnC
    split
    ·exact absurd rfl (hno _ _ _)
    ·exact⟨rfl,hsim⟩
   exact⟨y :: xs,⟨⟨⟨(fun h=>by rw [hag] at h; cases h),fun _=>hy⟩,by rw [flat_one hy]; exact m1⟩,k1⟩,mz.app kz,OwnL.cons (os:=[]) (os':=[]) hown k2⟩
variable [Lq]
theorem law_calls_sized{f:FuncId}{fn:Func}{s:ChangeSpec}{rt:TypeId}{d:Nat}(hs:∀ ds:List (DataW H),ds.length=fn.params.toList.length→s.fn H ds={ results:=[.lit (.bool true)],args:=ds })(hv:s.vars=[])
  (hres:fn.resultTypes=#[rt]) (hrt:P.underlying rt=some .bool) (hsup:fn.params.toList.all (supp P d)=true) (hby:fn.params.toList.all (byP P d)=true) (hl:laidOutB P=true) (hrr:(fn.params.toList.all fun t=>P.readableRec t && decide (t < P.types.size))=true)
  (hrun:∀ xs,DatL P d fn.params.toList xs→SzL xs→Run P f xs (.bool true)) {W:World} {args:Array Value} {ds gs:List (DataW H)} {before:List MemPlace} {base:Nat}
  (hval:∀(j:Nat) t v,fn.params[j]?=some t→args[j]?=some v→Value.okWide P W .any base t v) (hW:DataW.Whole enc P fn.params.toList s.vars false W args.toList ds gs before)
  (hsz:(DataW.weightsEach P (fn.params.toList ++ s.plain.varTypes P) (ds ++ gs)).all (·≤reachBytes)=true) (hq:Lq.q W (old W)) :
  Calls P f args W fun e W'=>∃ v,e=.returned v∧s.post enc P fn false true false false W args v W':=by
 have hlt:=hW.lt
 have hW0:=hW
 obtain ⟨p,q,hA,hV,rfl,hfz,hnd⟩:=hW
 rw [hv] at hV
 obtain ⟨rfl,rfl⟩:=trodVars_none hV
 rw [List.append_nil] at hlt hW0
 have hvt:s.plain.varTypes P=[]:=by simp [ChangeSpec.plain,DataSpec.varTypes,hv]
 rw [hvt,List.append_nil,List.append_nil] at hsz
 obtain ⟨xs,hd,hxz,hown⟩:=ownz_of fn.params.toList args.toList ds p hsup hby hsz hA fun j t v hj hv=>hval j t v (by simpa using hj) (by simpa using hv)
 have hlen:ds.length=fn.params.toList.length:=by
  have:∀(ts:List TypeId) (vs:List Value) (ds:List (DataW H)) (ps:List MemPlace),DataW.TrodAll enc P W 0 (fun _=>true) true ts vs ds ps→ds.length=ts.length:=by
   intro ts
   induction ts with
   | nil=>intro vs ds ps h; obtain ⟨_,rfl,_⟩:=trodAll_nil h; rfl
   | cons t ts ih=>intro vs ds ps h; obtain ⟨v,vs',d',ds',p,q,rfl,rfl,rfl,_,h2⟩:=trodAll_cons h; simp [ih _ _ _ h2]
  exact this _ _ _ _ hA
 refine Calls.mono ((hrun xs hd hxz).2 W (old W) [] args hq ⟨fun b hb=>⟨hb,blks_nil b⟩,fun b hb=>absurd hb (blks_nil b),.nil⟩ hown) ?_
 rintro e W' ⟨v,I',os',rfl,hr,_,hst⟩
 have hvt:v=.bool true:=by
  have h1:OwnA W' I' os' (.bool true) v:=hr
  have h2:OwnC W' I' os' (.bool true) v:=h1
  have h3:=h2.2
  cases h3; rfl
 subst hvt
 have hb:Below W.heap.size W W':=⟨hst.osk,hst.tape,hst.output,hst.size,fun k hk=>hst.keep k hk (blks_nil k)⟩
 refine⟨_,rfl,ds,[],p,[],p,[],hW0,?_,?_,?_,?_,fun h=>by cases h⟩
 ·rw [List.append_nil,hs ds hlen,hres]
  exact trodAll_mk1 (shut_bool hrt true)
 ·rw [List.append_nil,hs ds hlen]
  exact trodAll_stay hl hb _ _ _ _ hrr hA hlt fun x hx=>by simpa using hlt x hx
 ·rw [List.append_nil,hs ds hlen,hv]
  exact rfl
 ·refine⟨hst.osk,hst.output,fun i hi=>?_⟩
  rw [hb.block i hi]
  cases W.heap[i]? with
  | none=>simp
  | some o=>cases o <;> simp
end
end Go.Pv
set_option maxRecDepth 100000
namespace Go.Proofs
open Go Go.Pv
theorem mx{α:Type}{f:α→AV}{l:List α}{z:Nat}(h:Sz (.sl z (l.map f) false)):l.length≤140737488355328:=by
 have:=h.slLen
 rw [List.length_map] at this
 exact Nat.le_trans this (Nat.le_of_ble_eq_true rfl)
theorem dat1_is{d:Nat}{t e:TypeId}{k:IntKind}{xs:List AV}(ht:Tryz.prog.underlying t=some (.slice e))(he:Tryz.prog.underlying e=some (.int k))(hc:Tryz.prog.cellsOf e=1)(h:Dat Tryz.prog (d+2) t xs):∃ l:List Int,xs=[.sl 1 (l.map (.int k)) false]:=by
 obtain ⟨es,rfl,hl,hd⟩:=dat1_slice ht h
 obtain ⟨l,rfl⟩:=map_of (f:=AV.int k) (es:=es) fun x hx=>by
  obtain ⟨m,rfl,_⟩:=dat_int he (hd x hx)
  exact⟨m,rfl⟩
 exact⟨l,by rw [hc]⟩
theorem dat1_bs{d:Nat}{t e:TypeId}{xs:List AV}(ht:Tryz.prog.underlying t=some (.slice e))(he:Tryz.prog.underlying e=some .bool)(hc:Tryz.prog.cellsOf e=1)(h:Dat Tryz.prog (d+2) t xs):∃ l:List Bool,xs=[.sl 1 (l.map .bool) false]:=by
 obtain ⟨es,rfl,hl,hd⟩:=dat1_slice ht h
 obtain ⟨l,rfl⟩:=map_of (f:=AV.bool) (es:=es) fun x hx=>dat_bool he (hd x hx)
 exact⟨l,by rw [hc]⟩
theorem dat_Ln{y:AV}(h:DatV Tryz.prog 5 72 y)(hz:Sz y):∃ x:Ln,y=x.v:=by
 obtain ⟨cs,rfl,hl,hf⟩:=dat_struct Tryz.underlying72 h
 rw [show Tryz.prog.cellsOf 72=17 by kernel_rfl] at hl
 have c3:Tryz.prog.cellsOf 3=1:=by kernel_rfl
 have c9:Tryz.prog.cellsOf 9=1:=by kernel_rfl
 have c62:Tryz.prog.cellsOf 62=1:=by kernel_rfl
 have c68:Tryz.prog.cellsOf 68=1:=by kernel_rfl
 have c69:Tryz.prog.cellsOf 69=1:=by kernel_rfl
 have c70:Tryz.prog.cellsOf 70=1:=by kernel_rfl
 match cs,hl with
 | [x0,x1,x2,x3,x4,x5,x6,x7,x8,x9,x10,x11,x12,x13,x14,x15,x16],_ =>
  simp only[List.mem_cons,List.not_mem_nil,or_false,forall_eq_or_imp,forall_eq] at hf
  obtain ⟨g0,g1,g2,g3,g4,g5,g6,g7,g8,g9,g10,g11,g12,g13,g14,g15,g16⟩:=hf
  rw [c3] at g0
  obtain ⟨m0,e0,_⟩:=dat1_int Tryz.underlying3 g0
  rw [c3] at g1
  obtain ⟨m1,e1,_⟩:=dat1_int Tryz.underlying3 g1
  rw [c9] at g2
  obtain ⟨m2,e2,_⟩:=dat1_str Tryz.underlying9 g2
  rw [c9] at g3
  obtain ⟨m3,e3,_⟩:=dat1_str Tryz.underlying9 g3
  rw [c9] at g4
  obtain ⟨m4,e4,_⟩:=dat1_str Tryz.underlying9 g4
  rw [c9] at g5
  obtain ⟨m5,e5,_⟩:=dat1_str Tryz.underlying9 g5
  rw [c9] at g6
  obtain ⟨m6,e6,_⟩:=dat1_str Tryz.underlying9 g6
  rw [c62] at g7
  obtain ⟨m7,e7,_⟩:=dat1_int Tryz.underlying62 g7
  rw [c68] at g8
  obtain ⟨m8,e8,_⟩:=dat1_int Tryz.underlying68 g8
  rw [c3] at g9
  obtain ⟨m9,e9,_⟩:=dat1_int Tryz.underlying3 g9
  rw [c3] at g10
  obtain ⟨m10,e10,_⟩:=dat1_int Tryz.underlying3 g10
  rw [c3] at g11
  obtain ⟨m11,e11,_⟩:=dat1_int Tryz.underlying3 g11
  rw [c3] at g12
  obtain ⟨m12,e12,_⟩:=dat1_int Tryz.underlying3 g12
  rw [c69] at g13
  obtain ⟨m13,e13⟩:=dat1_is Tryz.underlying69 Tryz.underlying3 (by kernel_rfl) g13
  rw [c69] at g14
  obtain ⟨m14,e14⟩:=dat1_is Tryz.underlying69 Tryz.underlying3 (by kernel_rfl) g14
  rw [c69] at g15
  obtain ⟨m15,e15⟩:=dat1_is Tryz.underlying69 Tryz.underlying3 (by kernel_rfl) g15
  rw [c70] at g16
  obtain ⟨m16,e16⟩:=dat1_is Tryz.underlying70 Tryz.underlying68 (by kernel_rfl) g16
  simp at e0 e1 e2 e3 e4 e5 e6 e7 e8 e9 e10 e11 e12 e13 e14 e15 e16
  subst e0 e1 e2 e3 e4 e5 e6 e7 e8 e9 e10 e11 e12 e13 e14 e15 e16
  exact⟨⟨m0,m1,m2,m3,m4,m5,m6,m7,m8,m9,m10,m11,m12,SL.of m13 (mx (hz.aggAll _ (.tail _ (.tail _ (.tail _ (.tail _ (.tail _ (.tail _ (.tail _ (.tail _ (.tail _ (.tail _ (.tail _ (.tail _ (.tail _ (.head _)))))))))))))))),SL.of m14 (mx (hz.aggAll _ (.tail _ (.tail _ (.tail _ (.tail _ (.tail _ (.tail _ (.tail _ (.tail _ (.tail _ (.tail _ (.tail _ (.tail _ (.tail _ (.tail _ (.head _))))))))))))))))),SL.of m15 (mx (hz.aggAll _ (.tail _ (.tail _ (.tail _ (.tail _ (.tail _ (.tail _ (.tail _ (.tail _ (.tail _ (.tail _ (.tail _ (.tail _ (.tail _ (.tail _ (.tail _ (.head _)))))))))))))))))),SL.of m16 (mx (hz.aggAll _ (.tail _ (.tail _ (.tail _ (.tail _ (.tail _ (.tail _ (.tail _ (.tail _ (.tail _ (.tail _ (.tail _ (.tail _ (.tail _ (.tail _ (.tail _ (.tail _ (.head _)))))))))))))))))))⟩,by rw [Ln.e]; simp only[← SL.ofe]⟩
theorem dat_Sp{d:Nat}{y:AV}(h:DatV Tryz.prog (d+5) 27 y)(hz:Sz y):∃ x:Sp,y=x.v:=by
 obtain ⟨cs,rfl,hl,hf⟩:=dat_struct Tryz.underlying27 h
 rw [show Tryz.prog.cellsOf 27=6 by kernel_rfl] at hl
 have c3:Tryz.prog.cellsOf 3=1:=by kernel_rfl
 have c24:Tryz.prog.cellsOf 24=1:=by kernel_rfl
 have c25:Tryz.prog.cellsOf 25=1:=by kernel_rfl
 match cs,hl with
 | [x0,x1,x2,x3,x4,x5],_ =>
  simp only[List.mem_cons,List.not_mem_nil,or_false,forall_eq_or_imp,forall_eq] at hf
  obtain ⟨g0,g1,g2,g3,g4,g5⟩:=hf
  rw [c3] at g0
  obtain ⟨m0,e0,_⟩:=dat1_int Tryz.underlying3 g0
  rw [c3] at g1
  obtain ⟨m1,e1,_⟩:=dat1_int Tryz.underlying3 g1
  rw [c3] at g2
  obtain ⟨m2,e2,_⟩:=dat1_int Tryz.underlying3 g2
  rw [c3] at g3
  obtain ⟨m3,e3,_⟩:=dat1_int Tryz.underlying3 g3
  rw [c24] at g4
  obtain ⟨m4,e4,_⟩:=dat1_bys Tryz.underlying24 Tryz.underlying5 (by kernel_rfl) g4
  rw [c25] at g5
  obtain ⟨m5,e5⟩:=dat1_bs Tryz.underlying25 Tryz.underlying4 (by kernel_rfl) g5
  simp at e0 e1 e2 e3 e4 e5
  subst e0 e1 e2 e3 e4 e5
  exact⟨⟨m0,m1,m2,m3,SL.of m4 (mx (hz.aggAll _ (.tail _ (.tail _ (.tail _ (.tail _ (.head _))))))),SL.of m5 (mx (hz.aggAll _ (.tail _ (.tail _ (.tail _ (.tail _ (.tail _ (.head _))))))))⟩,by rw [Sp.e]; simp only[← SL.ofe]⟩
theorem topApart_all[Lq]:∀ xs,DatL Tryz.prog 6 Tryz.f3.params.toList xs→SzL xs→Run Tryz.prog 3 xs (.bool true):=by
 intro xs h hz
 rw [show Tryz.f3.params.toList=[22,23,27] from rfl] at h
 obtain ⟨y1,y2,y3,rfl,h1,h2,h3⟩:=datL3 h
 have z1:=hz _ (.head _)
 have z2:=hz _ (.tail _ (.head _))
 obtain ⟨e1,rfl,l1,d1⟩:=dat_slice Tryz.underlying22 h1
 obtain ⟨e2,rfl,l2,d2⟩:=dat_slice Tryz.underlying23 h2
 obtain ⟨s,rfl⟩:=dat_Sp h3 (hz _ (.tail _ (.tail _ (.head _))))
 obtain ⟨u,rfl⟩:=map_of (f:=Ln.v) (es:=e1) fun x hx=>dat_Ln (d1 x hx) (z1.slAll x hx)
 obtain ⟨v,rfl⟩:=map_of (f:=Sp.v) (es:=e2) fun x hx=>dat_Sp (d2 x hx) (z2.slAll x hx)
 obtain ⟨r,hr,rfl⟩:=topApart_run (SL.of u (mx z1)) (SL.of v (mx z2)) s
 rw [← SL.ofe,← SL.ofe] at hr
 rw [show Tryz.prog.cellsOf 72=17 by kernel_rfl,show Tryz.prog.cellsOf 27=6 by kernel_rfl]
 exact hr
end Go.Proofs
