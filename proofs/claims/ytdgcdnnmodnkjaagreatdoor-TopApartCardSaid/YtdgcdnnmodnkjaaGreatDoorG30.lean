/- Part 30 of a proof that a step of one domain changes nothing of another: the machine of plain values, and what the program's functions do. -/
import Derived.Test.YtdgcdnnmodnkjaaGreatDoorG29
set_option linter.all false
set_option linter.unusedVariables false
set_option linter.unusedSectionVars false
set_option linter.unusedSimpArgs false
set_option linter.defProp false
set_option maxHeartbeats 4000000
set_option maxRecDepth 100000
namespace Go.Proofs
open Go Go.Pv Go.Proofs.Tx
variable [Lq]
open W
open Classical
section
variable {hp:Hp} {q id n:Nat} {L:List Re}
theorem s168(hq:ent hp q=some ⟨280,[.vec id 3 0 n],true⟩)(h:ent hp id=some ⟨283,L.map Re.v,true⟩)(hn:n≤L.length)(hL:L.length≤900)(hne:q≠id)(x:Re):∃ r H',Gen Tryz.prog 168 [.fn 2000278 [.eptr q 0 0],.fn 2000283 [x.v]] hp r H' ∧(r=.tup [] ∧
  ((n < L.length∧∃ L2:List Re,∃ ext,H' =(hp.set id (some ⟨283,L2.map Re.v,true⟩)).set q (some ⟨280,[.vec id 3 0 (n+1)],true⟩) ++ ext∧L2.length=L.length∧∀ y,y∈L2→y∈L∨y=x) ∨
   (n=L.length∧∃ L2:List Re,∃ e1 e2,H' =(hp.set id (some ⟨283,[],false⟩)).set q (some ⟨280,[.vec (hp.length+e1.length) 3 0 (n+1)],true⟩) ++(e1 ++ some ⟨283,L2.map Re.v,true⟩ :: e2)∧L2.length=n+1∧∀ y,y∈L2→y∈L∨y=x))):=by
 have hlq:=entlt hq
 have hl:=entlt h
 refine gen_w (c:=c168 false) [] 2 (by kernel_rfl) (by kernel_rfl) (Nat.le_refl 2) ?_
 unfold c168
 simp (disch:=try exact Dw) only[Km,o_oi,List.map_cons,List.map_nil,seval,reduceCtorEq]
 refine call_i (recv_p mPush) (s382 hq h hn (by omega) hne x) (by rintro _ _ ⟨rfl,⟨_,L2,e,rfl,_⟩ | ⟨_,L2,e1,e2,rfl,_⟩⟩ <;>(simp only[List.length_append,List.length_set]; omega)) ?_
 rintro _ _ ⟨rfl,⟨h1,L2,e,rfl,hl2,hL2⟩ | ⟨h1,L2,e1,e2,rfl,hl2,hL2⟩⟩
 ·have hqq:ent ((hp.set id (some ⟨283,L2.map Re.v,true⟩)).set q (some ⟨280,[.vec id 3 0 (n+1)],true⟩) ++ e) q=some ⟨280,[.vec id 3 0 (n+1)],true⟩:=ent_sap (by rw [len_set]; exact hlq)
  have hii:ent ((hp.set id (some ⟨283,L2.map Re.v,true⟩)).set q (some ⟨280,[.vec id 3 0 (n+1)],true⟩) ++ e) id=some ⟨283,L2.map Re.v,true⟩:=by rw [ent_apl (by rw [len_set,len_set]; exact hl),ent_setn hne,entset hl]
  have hc:∀ o:Option Ent,((hp.set id (some ⟨283,L2.map Re.v,true⟩)).set q (some ⟨280,[.vec id 3 0 (n+1)],true⟩) ++ e).set id o =(hp.set id o).set q (some ⟨280,[.vec id 3 0 (n+1)],true⟩) ++ e:=fun o=>by rw [set_apl (by rw [len_set,len_set]; exact hl),List.set_comm _ _ hne,set_set]
  simp (disch:=try exact Dw) only[Km,o_oi,List.map_cons,List.map_nil,seval,reduceCtorEq]
  refine call_i (recv_v mLen hqq) (s169 (by omega)) (by rintro _ _ ⟨rfl,rfl⟩; exact Nat.le_refl _) ?_
  rintro _ H1 ⟨rfl,hH1⟩
  subst hH1
  have e0:((n+1:Nat):Int) - 1 =(n:Int):=by omega
  have e0':((n:Int)+1) - 1 =(n:Int):=by omega
  simp (disch:=try exact Dw) only[Km,o_oi,List.map_cons,List.map_nil,e0,e0',seval,reduceCtorEq]
  refine call_genQ (s254 hqq hii (by omega) (by omega) hne n (by omega)) ?_
  rintro _ H1 ⟨rfl,L3,e',hH1,hl3,hL3⟩
  rw [hc,ap_ap] at hH1
  subst hH1
  simp (disch:=try exact Dw) only[Km,seval,reduceCtorEq]
  exact Or.inl ⟨h1,L3,_,rfl,hl3.trans hl2,fun y hy=>hL2 _ (hL3 _ hy)⟩
 ·have hlen:((hp.set id (some ⟨283,[],false⟩)).set q (some ⟨280,[.vec (hp.length+e1.length) 3 0 (n+1)],true⟩)).length=hp.length:=by rw [len_set,len_set]
  have hqq:ent ((hp.set id (some ⟨283,[],false⟩)).set q (some ⟨280,[.vec (hp.length+e1.length) 3 0 (n+1)],true⟩) ++(e1 ++ some ⟨283,L2.map Re.v,true⟩ :: e2)) q=some ⟨280,[.vec (hp.length+e1.length) 3 0 (n+1)],true⟩:=ent_sap (by rw [len_set]; exact hlq)
  have hii:ent ((hp.set id (some ⟨283,[],false⟩)).set q (some ⟨280,[.vec (hp.length+e1.length) 3 0 (n+1)],true⟩) ++(e1 ++ some ⟨283,L2.map Re.v,true⟩ :: e2)) (hp.length+e1.length)=some ⟨283,L2.map Re.v,true⟩:=by
   have:=@ent_apn ((hp.set id (some ⟨283,[],false⟩)).set q (some ⟨280,[.vec (hp.length+e1.length) 3 0 (n+1)],true⟩)) (e1 ++ some ⟨283,L2.map Re.v,true⟩ :: e2) e1.length
   rw [hlen] at this
   rw [this,ent_ap0]; rfl
  have hc:∀ o:Option Ent,((hp.set id (some ⟨283,[],false⟩)).set q (some ⟨280,[.vec (hp.length+e1.length) 3 0 (n+1)],true⟩) ++(e1 ++ some ⟨283,L2.map Re.v,true⟩ :: e2)).set (hp.length+e1.length) o =(hp.set id (some ⟨283,[],false⟩)).set q (some ⟨280,[.vec (hp.length+e1.length) 3 0 (n+1)],true⟩) ++(e1 ++ o :: e2):=fun o=>by
   have:=@set_apn ((hp.set id (some ⟨283,[],false⟩)).set q (some ⟨280,[.vec (hp.length+e1.length) 3 0 (n+1)],true⟩)) (e1 ++ some ⟨283,L2.map Re.v,true⟩ :: e2) e1.length o
   rw [hlen] at this
   rw [this,set_ap0]; rfl
  simp (disch:=try exact Dw) only[Km,o_oi,List.map_cons,List.map_nil,seval,reduceCtorEq]
  refine call_i (recv_v mLen hqq) (s169 (by omega)) (by rintro _ _ ⟨rfl,rfl⟩; exact Nat.le_refl _) ?_
  rintro _ H1 ⟨rfl,hH1⟩
  subst hH1
  have e0:((n+1:Nat):Int) - 1 =(n:Int):=by omega
  have e0':((n:Int)+1) - 1 =(n:Int):=by omega
  simp (disch:=try exact Dw) only[Km,o_oi,List.map_cons,List.map_nil,e0,e0',seval,reduceCtorEq]
  refine call_genQ (s254 hqq hii (by omega) (by omega) (by omega) n (by omega)) ?_
  rintro _ H1 ⟨rfl,L3,e',hH1,hl3,hL3⟩
  rw [hc,ap_ap,ap_ap,List.cons_append] at hH1
  subst hH1
  simp (disch:=try exact Dw) only[Km,seval,reduceCtorEq]
  exact Or.inr ⟨h1,L3,_,_,rfl,hl3.trans hl2,fun y hy=>hL2 _ (hL3 _ hy)⟩
theorem s170(hq:ent hp q=some ⟨280,[.vec id 3 0 n],true⟩)(h:ent hp id=some ⟨283,L.map Re.v,true⟩)(hn:n≤L.length)(hL:L.length≤900)(hne:q≠id)(h0:0 < n):∃ r H',Gen Tryz.prog 170 [.fn 2000278 [.eptr q 0 0]] hp r H' ∧(∃ x:Re,∃ L2:List Re,∃ ext,r=.fn 2000283 [x.v]∧x∈L ∧
  H' =(hp.set id (some ⟨283,L2.map Re.v,true⟩)).set q (some ⟨280,[.vec id 3 0 (n - 1)],true⟩) ++ ext∧L2.length=L.length∧∀ y,y∈L2→y∈L):=by
 have hlq:=entlt hq
 have hl:=entlt h
 have hqs:∀(o:Option Ent) (l:Hp),ent (hp.set id o ++ l) q=some ⟨280,[.vec id 3 0 n],true⟩:=fun o l=>by rw [ent_apl (by rw [len_set]; exact hlq),ent_setn hne.symm,hq]
 have e0:(n:Int) - 1 =((n - 1:Nat):Int):=by omega
 refine gen_w (c:=c170 false) [.t 2] 1 (by kernel_rfl) (by kernel_rfl) (Nat.le_refl 1) ?_
 unfold c170
 simp (disch:=try exact Dw) only[Km,o_oi,List.map_cons,List.map_nil,seval,reduceCtorEq]
 refine call_i (recv_v mLen hq) (s169 (by omega)) (by rintro _ _ ⟨rfl,rfl⟩; exact Nat.le_refl _) ?_
 rintro _ _ ⟨rfl,rfl⟩
 simp (disch:=try exact Dw) only[Km,o_oi,List.map_cons,List.map_nil,e0,seval,reduceCtorEq]
 refine call_i (recv_v mSwap hq) (s383 h hn _ _ ⟨by omega,by omega⟩ ⟨by omega,by omega⟩) (by rintro _ _ ⟨rfl,L2,e,rfl,_⟩; simp only[List.length_append,List.length_set]; omega) ?_
 rintro _ _ ⟨rfl,L2,e,rfl,hl2,hL2⟩
 simp (disch:=try exact Dw) only[Km,o_oi,List.map_cons,List.map_nil,seval,reduceCtorEq]
 refine call_genQ (s255 (hqs _ _) (ent_sap hl) (by omega) (by omega) hne (n - 1) (by omega)) ?_
 rintro _ _ ⟨b,rfl,L3,e',rfl,hl3,hL3⟩
 simp (disch:=try exact Dw) only[Km,o_oi,List.map_cons,List.map_nil,seval,reduceCtorEq]
 refine call_i (recv_p mPop) (s381 (hqs _ _) (ent_sap hl) (by omega) (by omega) hne h0) (by rintro _ _ ⟨x,e,rfl,_,rfl⟩; simp only[List.length_append,List.length_set]; omega) ?_
 rintro _ _ ⟨x,e2,rfl,hx,rfl⟩
 simp (disch:=try exact Dw) only[Km,o_oi,List.map_cons,List.map_nil,hlq,seval,reduceCtorEq]
 exact⟨x,L3,_,rfl,hL2 _ (hL3 _ hx),rfl,hl3.trans hl2,fun y hy=>hL2 _ (hL3 _ hy)⟩
end
end Go.Proofs
set_option maxHeartbeats 4000000
set_option maxRecDepth 100000
namespace Go.Proofs
open Go Go.Pv Go.Proofs.Tx
variable [Lq]
open W
open Classical
structure Q5(hp:Hp)(A B C:Ent)(m:Nat)(L:List Re):Prop where
 a:ent hp 0=some A
 b:ent hp 1=some B
 c:ent hp 2=some C
 q:∃ id,3≤id∧id≠4∧ent hp 4=some ⟨280,[.vec id 3 0 m],true⟩∧ent hp id=some ⟨283,L.map Re.v,true⟩
 m:m≤L.length
variable {hp:Hp} {A B C:Ent} {m:Nat} {L:List Re}
theorem ent3{o o2:Option Ent}{l:Hp}{e:Ent}{i k id:Nat}(h:ent hp i=some e)(h1:id≠i)(h2:k≠i):ent ((hp.set id o).set k o2 ++ l) i=some e:=by
 rw [ent_apl (by rw [len_set,len_set]; exact entlt h),ent_setn h2,ent_setn h1,h]
theorem Q5.ap(h:Q5 hp A B C m L)(l:Hp):Q5 (hp ++ l) A B C m L:=by
 obtain ⟨a,b,c,⟨id,h1,h2,h3,h4⟩,h5⟩:=h
 exact⟨ent_ap a l,ent_ap b l,ent_ap c l,⟨id,h1,h2,ent_ap h3 l,ent_ap h4 l⟩,h5⟩
theorem Q5.setB(h:Q5 hp A B C m L)(B':Ent):Q5 (hp.set 1 (some B')) A B' C m L:=by
 obtain ⟨a,b,c,⟨id,h1,h2,h3,h4⟩,h5⟩:=h
 exact⟨by rw [ent_setn (by decide),a],entset (entlt b),by rw [ent_setn (by decide),c],⟨id,h1,h2,by rw [ent_setn (by decide),h3],by rw [ent_setn (by omega),h4]⟩,h5⟩
theorem Q5.setC(h:Q5 hp A B C m L)(C':Ent):Q5 (hp.set 2 (some C')) A B C' m L:=by
 obtain ⟨a,b,c,⟨id,h1,h2,h3,h4⟩,h5⟩:=h
 exact⟨by rw [ent_setn (by decide),a],by rw [ent_setn (by decide),b],entset (entlt c),⟨id,h1,h2,by rw [ent_setn (by decide),h3],by rw [ent_setn (by omega),h4]⟩,h5⟩
theorem q_push(h:Q5 hp A B C m L)(hL:L.length≤900)(x:Re):∃ r H',Gen Tryz.prog 168 [.fn 2000278 [.eptr 4 0 0],.fn 2000283 [x.v]] hp r H' ∧(r=.tup []∧∃ L2:List Re,Q5 H' A B C (m+1) L2∧L2.length≤L.length+1∧∀ y,y∈L2→y∈L∨y=x):=by
 obtain ⟨a,b,c,⟨id,h1,h2,h3,h4⟩,h5⟩:=h
 obtain ⟨r,H',g,rfl,⟨e,L2,ext,rfl,hl,hm⟩ | ⟨e,L2,e1,e2,rfl,hl,hm⟩⟩:=s168 h3 h4 h5 hL h2.symm x
 ·refine⟨_,_,g,rfl,L2,⟨ent3 a (by omega) (by decide),ent3 b (by omega) (by decide),ent3 c (by omega) (by decide),⟨id,h1,h2,ent_sap (by rw [len_set]; exact entlt h3),?_⟩,by omega⟩,by omega,hm⟩
  rw [ent_apl (by rw [len_set,len_set]; exact entlt h4),ent_setn h2.symm,entset (entlt h4)]
 ·refine⟨_,_,g,rfl,L2,⟨ent3 a (by omega) (by decide),ent3 b (by omega) (by decide),ent3 c (by omega) (by decide),⟨hp.length+e1.length,?_,?_,ent_sap (by rw [len_set]; exact entlt h3),?_⟩,by omega⟩,by omega,hm⟩
  ·have:=entlt h3; omega
  ·have:=entlt h3; omega
  ·have hlen:((hp.set id (some ⟨283,[],false⟩)).set 4 (some ⟨280,[.vec (hp.length+e1.length) 3 0 (m+1)],true⟩)).length=hp.length:=by rw [len_set,len_set]
   have:=@ent_apn ((hp.set id (some ⟨283,[],false⟩)).set 4 (some ⟨280,[.vec (hp.length+e1.length) 3 0 (m+1)],true⟩)) (e1 ++ some ⟨283,L2.map Re.v,true⟩ :: e2) e1.length
   rw [hlen] at this
   rw [this,ent_ap0]; rfl
theorem q_pop(h:Q5 hp A B C m L)(hL:L.length≤900)(h0:0 < m):∃ r H',Gen Tryz.prog 170 [.fn 2000278 [.eptr 4 0 0]] hp r H' ∧(∃ x:Re,r=.fn 2000283 [x.v]∧x∈L∧∃ L2:List Re,Q5 H' A B C (m - 1) L2∧L2.length=L.length∧∀ y,y∈L2→y∈L):=by
 obtain ⟨a,b,c,⟨id,h1,h2,h3,h4⟩,h5⟩:=h
 obtain ⟨r,H',g,x,L2,ext,rfl,hx,rfl,hl,hm⟩:=s170 h3 h4 h5 hL h2.symm h0
 refine⟨_,_,g,x,rfl,hx,L2,⟨ent3 a (by omega) (by decide),ent3 b (by omega) (by decide),ent3 c (by omega) (by decide),⟨id,h1,h2,ent_sap (by rw [len_set]; exact entlt h3),?_⟩,by omega⟩,hl,hm⟩
 rw [ent_apl (by rw [len_set,len_set]; exact entlt h4),ent_setn h2.symm,entset (entlt h4)]
structure Q6(hp:Hp)(A B C:Ent)(i:Nat)(D:Ent)(m:Nat)(L:List Re):Prop where
 a:ent hp 0=some A
 b:ent hp 1=some B
 c:ent hp 2=some C
 d:ent hp i=some D
 i4:i≠4
 q:∃ id,3≤id∧id≠4∧id≠i∧ent hp 4=some ⟨280,[.vec id 3 0 m],true⟩∧ent hp id=some ⟨283,L.map Re.v,true⟩
 m:m≤L.length
theorem Q6.q5{i:Nat}{D:Ent}(h:Q6 hp A B C i D m L):Q5 hp A B C m L:=by
 obtain ⟨a,b,c,d,i4,⟨id,h1,h2,h0,h3,h4⟩,h5⟩:=h
 exact⟨a,b,c,⟨id,h1,h2,h3,h4⟩,h5⟩
theorem Q6.ap{i:Nat}{D:Ent}(h:Q6 hp A B C i D m L)(l:Hp):Q6 (hp ++ l) A B C i D m L:=by
 obtain ⟨a,b,c,d,i4,⟨id,h1,h2,h0,h3,h4⟩,h5⟩:=h
 exact⟨ent_ap a l,ent_ap b l,ent_ap c l,ent_ap d l,i4,⟨id,h1,h2,h0,ent_ap h3 l,ent_ap h4 l⟩,h5⟩
theorem Q5.q6{D:Ent}(h:Q5 hp A B C m L)(l:Hp):Q6 (hp ++ some D :: l) A B C hp.length D m L:=by
 obtain ⟨a,b,c,⟨id,h1,h2,h3,h4⟩,h5⟩:=h
 have:=entlt h3
 have:=entlt h4
 exact⟨ent_ap a _,ent_ap b _,ent_ap c _,by rw [ent_ap0]; rfl,by omega,⟨id,h1,h2,by omega,ent_ap h3 _,ent_ap h4 _⟩,h5⟩
theorem q6_push{i:Nat}{D:Ent}(h:Q6 hp A B C i D m L)(hL:L.length≤900)(x:Re):∃ r H',Gen Tryz.prog 168 [.fn 2000278 [.eptr 4 0 0],.fn 2000283 [x.v]] hp r H' ∧(r=.tup []∧∃ L2:List Re,Q6 H' A B C i D (m+1) L2∧L2.length≤L.length+1 ∧(∀ y,y∈L2→y∈L∨y=x)∧hp.length≤H'.length):=by
 obtain ⟨a,b,c,d,i4,⟨id,h1,h2,h0,h3,h4⟩,h5⟩:=h
 obtain ⟨r,H',g,rfl,⟨e,L2,ext,rfl,hl,hm⟩ | ⟨e,L2,e1,e2,rfl,hl,hm⟩⟩:=s168 h3 h4 h5 hL h2.symm x
 ·refine⟨_,_,g,rfl,L2,⟨ent3 a (by omega) (by decide),ent3 b (by omega) (by decide),ent3 c (by omega) (by decide),ent3 d h0 i4.symm,i4,⟨id,h1,h2,h0,ent_sap (by rw [len_set]; exact entlt h3),?_⟩,by omega⟩,by omega,hm,by simp only[List.length_append,List.length_set]; omega⟩
  rw [ent_apl (by rw [len_set,len_set]; exact entlt h4),ent_setn h2.symm,entset (entlt h4)]
 ·have l3:=entlt h3
  have ld:=entlt d
  refine⟨_,_,g,rfl,L2,⟨ent3 a (by omega) (by decide),ent3 b (by omega) (by decide),ent3 c (by omega) (by decide),ent3 d h0 i4.symm,i4,⟨hp.length+e1.length,by omega,by omega,by omega,ent_sap (by rw [len_set]; exact l3),?_⟩,by omega⟩,by omega,hm,by simp only[List.length_append,List.length_set]; omega⟩
  have hlen:((hp.set id (some ⟨283,[],false⟩)).set 4 (some ⟨280,[.vec (hp.length+e1.length) 3 0 (m+1)],true⟩)).length=hp.length:=by rw [len_set,len_set]
  have:=@ent_apn ((hp.set id (some ⟨283,[],false⟩)).set 4 (some ⟨280,[.vec (hp.length+e1.length) 3 0 (m+1)],true⟩)) (e1 ++ some ⟨283,L2.map Re.v,true⟩ :: e2) e1.length
  rw [hlen] at this
  rw [this,ent_ap0]; rfl
end Go.Proofs
set_option maxHeartbeats 4000000
set_option maxRecDepth 100000
namespace Go.Proofs
open Go Go.Pv Go.Proofs.Tx
variable [Lq]
open W
open Classical
def spA(N:Nt)(up:TL)(rank:IL)(n:Nat):Ent:=⟨192,[.agg [N.devs.v,N.ports.v,N.links.v,N.doms.v,N.stats.v,N.floods.v,N.vrfs.v,N.irbs.v,up.v,rank.v,.vec 1 1 0 n,.vec 2 1 0 n]],true⟩
def iE(R:List Int):Ent:=⟨3,R.map (AV.int .i64),true⟩
structure ReOk(N:Nt)(x:Re):Prop where
 root:0≤x.root
 dev:Pl N.devs.l x.dev
def unv(R:List Int):Nat:=R.countP (fun x=>decide (x < 0))
theorem re_e(a b c:Int):(.agg [.int .i64 a,.int .i64 b,.int .i64 c]:AV)=Re.v ⟨a,b,c⟩:=(Re.e ⟨a,b,c⟩).symm
theorem list3{H:Hp}{a b c:Ent}(h0:ent H 0=some a)(h1:ent H 1=some b)(h2:ent H 2=some c):H=some a :: some b :: some c :: H.drop 3:=by
 unfold ent at h0 h1 h2
 rcases H with _ | ⟨x,_ | ⟨y,_ | ⟨z,l⟩⟩⟩
 ·cases h0
 ·cases h1
 ·cases h2
 ·simp only[List.getElem?_cons_zero,List.getElem?_cons_succ,Option.join] at h0 h1 h2
  simp_all
theorem unv_set{R:List Int}{d:Nat}{y:Int}(hd:d < R.length)(h:nth R d < 0)(hy:0≤y):unv (R.set d y)+1=unv R:=by
 have:=List.countP_set (p:=fun x:Int=>decide (x < 0)) (l:=R) (i:=d) (a:=y) hd
 have e:=nth_get hd
 have hp:0 < unv R:=List.countP_pos_iff.2 ⟨nth R d,nth_mem hd,by simpa using h⟩
 unfold unv at hp ⊢
 have e2:R[d]=nth R d:=by have h3:=List.getElem?_eq_getElem hd; rw [e] at h3; exact(Option.some.inj h3).symm
 rw [this,e2]
 simp only[h,decide_true,if_true,show ¬ y < 0 by omega,decide_false]
 simp
 omega
theorem s75(N:Nt)(up:TL)(rank:IL)(n:Nat)(R C:List Int)(hg:Good N)(hn:n=N.devs.l.length)(hup:up.l.length=N.links.l.length)(hr:rank.l.length=n)(hr0:∀ x,x∈rank.l→0≤x)(hR:R.length=n)(hC:C.length=n):∃ r H',Gen Tryz.prog 75 [.eptr 0 0 0] [some (spA N up rank n),some (iE R),some (iE C)] r H' ∧(r=.tup []∧∃ R2 C2:List Int,∃ ext,H'=some (spA N up rank n) :: some (iE R2) :: some (iE C2) :: ext∧R2.length=n∧C2.length=n):=by
 have h8:=hg.few.1
 have h40:=hg.few.2.1
 refine gen_w (c:=c75 false) [] 1 (by kernel_rfl) (by kernel_rfl) (Nat.le_refl 1) ?_
 unfold c75
 simp (disch:=try exact Dw) only[Km,spA,seval,reduceCtorEq]
 refine d_lo (fun p:Nat × Nat × List Re × Hp=>⟨[(0,.eptr 0 0 0),(2,.eptr 4 0 0),(15,rank.v),(16,.int .i64 n),(17,.int .i64 p.1)],p.2.2.2⟩) (fun p=>p.1≤n∧p.2.1≤p.1∧p.2.2.1.length≤p.1 ∧(∀ x,x∈p.2.2.1→ReOk N x)∧Q5 p.2.2.2 (spA N up rank n) (iE R) (iE C) p.2.1 p.2.2.1) (fun p=>n - p.1) ?_ ?_
 ·simp (disch:=try exact Dw) only[Km,hr,seval,reduceCtorEq]
  exact⟨(0,0,[],_),rfl,Nat.zero_le _,Nat.le_refl _,Nat.le_refl _,fun x h=>absurd h List.not_mem_nil,⟨rfl,rfl,rfl,⟨3,Nat.le_refl _,by decide,rfl,rfl⟩,Nat.le_refl _⟩⟩
 rintro ⟨k,m,L,hp⟩ ⟨hk,hm,hLk,hL,hQ⟩
 simp only at hk hm hLk hL hQ ⊢
 unfold c75b0
 by_cases hlt:k < n
 ·simp (disch:=try exact Dw) only[Km,hr,re_e,seval,reduceCtorEq]
  refine⟨⟨by omega,by omega⟩,?_⟩
  refine call_genQ (q_push hQ (by omega) _) ?_
  rintro _ H1 ⟨rfl,L2,hQ2,hl2,hm2⟩
  simp (disch:=try exact Dw) only[Km,seval,reduceCtorEq]
  exact⟨(k+1,m+1,L2,H1),rfl,⟨by simp only; omega,by simp only; omega,by simp only; omega,fun x hx=>(hm2 x hx).elim (hL x) fun h=>by rw [h]; exact⟨hr0 _ (nth_mem (by omega)),⟨by simp only; omega,by simp only; omega⟩⟩,hQ2⟩,by simp only; omega⟩
 ·simp (disch:=try exact Dw) only[Km,hr,seval,reduceCtorEq]
  have hu:unv R≤n:=by rw [← hR]; exact List.countP_le_length
  refine d_lo (fun p:Nat × List Re × List Int × List Int × Hp=>⟨[(0,.eptr 0 0 0),(2,.eptr 4 0 0)],p.2.2.2.2⟩) (fun p=>p.2.1.length+41 * unv p.2.2.1≤400 ∧(∀ x,x∈p.2.1→ReOk N x)∧p.2.2.1.length=n∧p.2.2.2.1.length=n∧Q5 p.2.2.2.2 (spA N up rank n) (iE p.2.2.1) (iE p.2.2.2.1) p.1 p.2.1) (fun p=>41 * unv p.2.2.1+p.1) ?_ ?_
  ·simp (disch:=try exact Dw) only[Km,seval,reduceCtorEq]
   exact⟨(m,L,R,C,hp),rfl,by simp only; omega,hL,hR,hC,hQ⟩
  clear hQ hL hR hC hLk hm hu hlt hk k m L R C hp
  rintro ⟨m,L,R,C,hp⟩ ⟨hLu,hL,hR,hC,hQ⟩
  simp only at hLu hL hR hC hQ ⊢
  unfold c75b1
  obtain ⟨id,i1,i2,i3,i4⟩:=hQ.q
  have hmL:=hQ.m
  simp (disch:=try exact Dw) only[Km,i3,seval,reduceCtorEq]
  refine call_genQ (s169 (by omega)) ?_
  rintro _ H1 ⟨rfl,hH1⟩
  subst hH1
  by_cases h0:0 < m
  ·simp (disch:=try exact Dw) only[Km,seval,reduceCtorEq]
   refine call_genQ (q_pop hQ (by omega) h0) ?_
   rintro _ H2 ⟨x,rfl,hx,L2,hQ2,hl2,hm2⟩
   have hxo:=hL x hx
   obtain ⟨x1,x2⟩:=hxo.dev
   have ha:=fun l=>ent_ap hQ2.a l
   have hb:=fun l=>ent_ap hQ2.b l
   have hc:=fun l=>ent_ap hQ2.c l
   rw [spA] at ha
   rw [iE] at hb hc
   simp (disch:=try exact Dw) only[Km,asIx,ha,hb,hc,hR,hC,seval,reduceCtorEq]
   refine⟨⟨by omega,by omega⟩,by omega,condC_d (fun hv=>?_) (fun hv=>?_)⟩
   ·simp (disch:=try exact Dw) only[Km,seval,reduceCtorEq]
    exact⟨(m - 1,L2,R,C,_),rfl,⟨by simp only; omega,fun x hx=>hL x (hm2 x hx),hR,hC,hQ2.ap _⟩,by simp only; omega⟩
   ·have b1:=entlt hQ2.b
    have c1:=entlt hQ2.c
    have hQ3:=fun o=>hQ2.setB o
    have hc2:=fun o l=>ent_ap (hQ2.setB o).c l
    rw [iE] at hc2
    have c2:∀ o,2 <(H2.set 1 o).length:=fun o=>by rw [len_set]; exact c1
    simp (disch:=try exact Dw) only[Km,ha,hb,hc,hR,hC,seval,reduceCtorEq]
    refine⟨⟨by omega,by omega⟩,by omega,⟨by omega,by omega⟩,?_⟩
    simp (disch:=try exact Dw) only[Km,ha,hb,hc,hR,hC,hc2,c2,seval,reduceCtorEq]
    refine⟨by omega,?_⟩
    have hv':nth R x.dev.toNat < 0:=by omega
    have hun:=unv_set (y:=x.root) (by omega:x.dev.toNat < R.length) hv' hxo.root
    have hQ4:=(hQ2.setB (iE (R.set x.dev.toNat x.root))).setC (iE (C.set x.dev.toNat x.cost))
    have hR4:(R.set x.dev.toNat x.root).length=n:=by rw [List.length_set]; exact hR
    have hC4:(C.set x.dev.toNat x.cost).length=n:=by rw [List.length_set]; exact hC
    have ha4:=fun l=>ent_ap hQ4.a l
    have hlen:H2.length =((H2.set 1 (some (iE (R.set x.dev.toNat x.root)))).set 2 (some (iE (C.set x.dev.toNat x.cost)))).length:=by rw [len_set,len_set]
    change ∀ l,ent (((H2.set 1 (some ⟨3,(R.set x.dev.toNat x.root).map (AV.int .i64),true⟩)).set 2 (some ⟨3,(C.set x.dev.toNat x.cost).map (AV.int .i64),true⟩)) ++ l) 0=some (spA N up rank n) at ha4
    rw [spA] at ha4
    simp (disch:=try exact Dw) only[Km,ha4,hn,seval,reduceCtorEq]
    refine d_lo (fun p:Nat × Nat × List Re × Hp=>⟨[(0,.eptr 0 0 0),(2,.eptr 4 0 0),(5,.eptr H2.length 0 0),(77,N.ports.v),(78,.int .i64 N.ports.l.length),(79,.int .i64 p.1)],p.2.2.2⟩) (fun p=>p.1≤N.ports.l.length∧p.2.1 ≤(m - 1)+p.1∧p.2.2.1.length≤L2.length+p.1 ∧(∀ x,x∈p.2.2.1→ReOk N x)∧Q6 p.2.2.2 (spA N up rank n) (iE (R.set x.dev.toNat x.root)) (iE (C.set x.dev.toNat x.cost)) H2.length ⟨283,[x.v],true⟩ p.2.1 p.2.2.1) (fun p=>N.ports.l.length - p.1) ?_ ?_
    ·simp (disch:=try exact Dw) only[Km,seval,reduceCtorEq]
     refine⟨(0,m - 1,L2,_),rfl,Nat.zero_le _,Nat.le_refl _,Nat.le_refl _,fun x hx=>hL x (hm2 x hx),?_⟩
     have:=hQ4.q6 (D:=⟨283,[x.v],true⟩)
     rw [← hlen] at this
     exact this _
    generalize hR3:R.set x.dev.toNat x.root=R3
    generalize hC3:C.set x.dev.toNat x.cost=C3
    rw [hR3] at hun hR4
    rw [hC3] at hC4
    rintro ⟨k,m3,L3,hp3⟩ ⟨hk,hm3,hL3,hLo,hQ6⟩
    simp only at hk hm3 hL3 hLo hQ6 ⊢
    unfold c75b2
    by_cases hlt:k < N.ports.l.length
    ·have nb:∀ R:List Int,R.length=n→R.length≤140737488355328:=fun R h=>Nat.le_trans (by omega:R.length≤8) (Nat.le_of_ble_eq_true rfl)
     have hpk:Pl N.ports.l k:=⟨by omega,by omega⟩
     have hsn:(.agg [N.devs.v,N.ports.v,N.links.v,N.doms.v,N.stats.v,N.floods.v,N.vrfs.v,N.irbs.v,up.v,rank.v,.sl 1 (R3.map (AV.int .i64)) false,.sl 1 (C3.map (AV.int .i64)) false]:AV)=Sn.v ⟨N,up,rank,SL.of R3 (nb _ hR4),SL.of C3 (nb _ hC4)⟩:=by rw [Sn.e,← SL.ofe,← SL.ofe]
     have hso:SnOk ⟨N,up,rank,SL.of R3 (nb _ hR4),SL.of C3 (nb _ hC4)⟩:=⟨hg,hup,hr.trans hn,hr0,hR4.trans hn,hC4.trans hn⟩
     have ha6:=fun l=>ent_ap hQ6.a l
     have hb6:=fun l=>ent_ap hQ6.b l
     have hc6:=fun l=>ent_ap hQ6.c l
     have hd6:=fun l=>ent_ap hQ6.d l
     rw [spA] at ha6
     rw [iE] at hb6 hc6
     simp (disch:=try exact Dw) only[Km,seval,reduceCtorEq]
     refine⟨⟨by omega,by omega⟩,?_⟩
     have ht1:List.take n (R3.map (AV.int .i64))=R3.map (AV.int .i64):=List.take_of_length_le (by rw [List.length_map]; omega)
     have ht2:List.take n (C3.map (AV.int .i64))=C3.map (AV.int .i64):=List.take_of_length_le (by rw [List.length_map]; omega)
     repeat' (first
 |simp (disch:=try exact Dw) only[Km,ha6,hb6,hc6,hd6,hsn,hR4,hC4,ht1,ht2,seval,reduceCtorEq]
 |(with_reducible first|apply condC_d|apply gC_d1)<;>intro _
 |with_reducible refine e8 ?_
 |(refine call_pl (by simp (disch:=try exact Dw) only[Km,ha6,hb6,hc6,hd6,hsn,hR4,hC4,ht1,ht2,wp,seval,reduceCtorEq]; rfl) (by simp (disch:=try exact Dw) only[Km,ha6,hb6,hc6,hd6,hsn,hR4,hC4,ht1,ht2,wp,seval,reduceCtorEq]) (s76 _ hso _ hpk) (by rintro _ ⟨f,rfl,hf⟩ <;> rfl) ?_; rintro _ ⟨f,rfl,hf⟩; all_goals simp only[vl,wp,ts,wb])
 |fail)
     ·have hf2:=hf (by omega)
      have hdv:Pl N.devs.l (nth N.ports.l f.toNat).dev:=(hg.ports f.toNat (by have:=hf2.1; have:=hf2.2; simp only at *; omega)).1
      rw [re_e]
      refine callv_genQ (q6_push (hQ6.ap _) (by omega) _) (fun _ _ ⟨_,_,_,_,_,h⟩=>h) ?_
      rintro _ H5 ⟨rfl,L4,hQ7,hl4,hm4,_⟩
      simp (disch:=try exact Dw) only[Km,seval,reduceCtorEq]
      exact⟨(k+1,m3+1,L4,H5),rfl,⟨by simp only; omega,by simp only; omega,by simp only; omega,fun x hx=>(hm4 x hx).elim (hLo x) fun h=>by rw [h]; exact⟨hxo.root,hdv⟩,hQ7⟩,by simp only; omega⟩
     all_goals exact⟨(k+1,m3,L3,_),rfl,⟨by simp only; omega,by simp only; omega,by simp only; omega,hLo,hQ6.ap _⟩,by simp only; omega⟩
    ·simp (disch:=try exact Dw) only[Km,seval,reduceCtorEq]
     exact⟨(m3,L3,R3,C3,hp3),rfl,⟨by simp only; omega,hLo,hR4.trans hn,hC4.trans hn,by rw [← hn]; exact hQ6.q5⟩,by simp only; omega⟩
  ·simp (disch:=try exact Dw) only[Km,seval,reduceCtorEq]
   exact⟨R,C,_,list3 hQ.a hQ.b hQ.c,hR,hC⟩
end Go.Proofs
set_option maxHeartbeats 4000000
set_option maxRecDepth 100000
namespace Go.Proofs
open Go Go.Pv Go.Proofs.Tx
variable [Lq]
open W
open Classical
theorem s38(N:Nt)(up:TL)(hc:CostOk N):∃ r,Run Tryz.prog 38 [N.v,up.v] r ∧((Good N∧up.l.length=N.links.l.length∧∃ x:Sn,SnOk x∧x.n=N∧r=.tup [.rptr x.v 0,.int .i64 0]) ∨(¬(Good N∧up.l.length=N.links.l.length)∧r=.tup [.lit (.pointer none),.int .i64 2])):=by
 have hcb:∀ p,p∈N.ports.l→1≤p.cost∧p.cost≤65535:=hc
 refine run_w (c:=c38 true) [.t 4,.t 5] 2 (by kernel_rfl) (by kernel_rfl) (Nat.le_refl 2) (by simp only[wd]) ?_
 unfold c38
 by_cases hl:up.l.length=N.links.l.length
 ·by_cases hg:Good N
  ·have h8:=hg.few.1
   have h20:=hg.few.2.2.1
   obtain ⟨n,hn⟩:∃ n:Nat,n=N.devs.l.length:=⟨_,rfl⟩
   have hZ:∀ m,List.replicate m (AV.int .i64 0) =(List.replicate m (0:Int)).map (AV.int .i64):=fun m=>by simp
   repeat' (first
 |simp (disch:=try exact Dw) only[Km,hl,hg,hZ,Nt.flat_e,List.cons_append,List.nil_append,seval,reduceCtorEq]
 |with_reducible refine e8 ?_
 |(refine Am (s72 _) ?_;rintro _ rfl;all_goals simp only[vl,ts,wb])
 |(refine Am (s73 _) ?_;rintro _ ⟨b,rfl,hb⟩; obtain rfl:b=true:=hb.2 hcb;all_goals simp only[vl,ts,wb])
 |(refine call_rn (by simp (disch:=try exact Dw) only[Km,hl,hg,hZ,Nt.flat_e,List.cons_append,List.nil_append,wp,seval,reduceCtorEq]; rfl) (by simp (disch:=try exact Dw) only[Km,hl,hg,hZ,Nt.flat_e,List.cons_append,List.nil_append,wp,seval,reduceCtorEq]) (s74 N) ?_; rintro _ ⟨u,rfl,hu⟩; all_goals simp only[vl,wp,ts,wb])
 |(refine Fw ?_;first|exact e9|fail)
 |(refine fin_o [] ?_;simp (disch:=try exact Dw) only[Km,hl,hg,hZ,Nt.flat_e,List.cons_append,List.nil_append,wh,seval,reduceCtorEq];refine⟨_,rfl,?_,?_⟩;(first|rfl|simp (disch:=try exact Dw) only[Km,hl,hg,hZ,Nt.flat_e,List.cons_append,List.nil_append,wh,seval,reduceCtorEq]);first|exact⟨_,rfl⟩|fail)
 |fail)
   obtain ⟨Z,hZ2,hZl⟩:∃ Z:List Int,List.replicate N.devs.l.length 0=Z∧Z.length=N.devs.l.length:=⟨_,rfl,by simp⟩
   rw [hZ2]
   have hu2:=hu hg
   refine d_lo (fun p:Nat × List Int=>⟨[(6,.eptr 0 0 0),(42,.int .i64 N.devs.l.length),(43,.int .i64 p.1)],[some (spA N up u N.devs.l.length),some (iE p.2),some (iE Z)]⟩) (fun p=>p.1≤N.devs.l.length∧p.2.length=N.devs.l.length) (fun p=>N.devs.l.length - p.1) ?_ ?_
   ·simp (disch:=try exact Dw) only[Km,seval,reduceCtorEq]
    exact⟨(0,Z),rfl,Nat.zero_le _,hZl⟩
   rintro ⟨k,R⟩ ⟨hk,hR⟩
   simp only at hk hR ⊢
   unfold c38b0
   by_cases hlt:k < N.devs.l.length
   ·simp (disch:=try exact Dw) only[Km,spA,iE,hR,seval,reduceCtorEq]
    refine⟨⟨by omega,by omega⟩,?_⟩
    exact⟨hlt,(k+1,R.set k (-1)),rfl,⟨by simp only; omega,by simp only[List.length_set]; exact hR⟩,by simp only; omega⟩
   ·simp (disch:=try exact Dw) only[Km,spA,iE,hR,seval,reduceCtorEq]
    refine call_genQ (s75 N up u N.devs.l.length R Z hg rfl hl hu2.1 hu2.2 hR hZl) ?_
    rintro _ H' ⟨rfl,R2,C2,ext,rfl,hR2,hC2⟩
    have nb:∀ R:List Int,R.length=N.devs.l.length→R.length≤140737488355328:=fun R h=>Nat.le_trans (by omega:R.length≤8) (Nat.le_of_ble_eq_true rfl)
    have hsn:(.agg [N.devs.v,N.ports.v,N.links.v,N.doms.v,N.stats.v,N.floods.v,N.vrfs.v,N.irbs.v,up.v,u.v,.sl 1 (R2.map (AV.int .i64)) false,.sl 1 (C2.map (AV.int .i64)) false]:AV)=Sn.v ⟨N,up,u,SL.of R2 (nb _ hR2),SL.of C2 (nb _ hC2)⟩:=by rw [Sn.e,← SL.ofe,← SL.ofe]
    have hso:SnOk ⟨N,up,u,SL.of R2 (nb _ hR2),SL.of C2 (nb _ hC2)⟩:=⟨hg,hl,hu2.1,hu2.2,hR2,hC2⟩
    have ht1:List.take N.devs.l.length (R2.map (AV.int .i64))=R2.map (AV.int .i64):=List.take_of_length_le (by rw [List.length_map]; omega)
    have ht2:List.take N.devs.l.length (C2.map (AV.int .i64))=C2.map (AV.int .i64):=List.take_of_length_le (by rw [List.length_map]; omega)
    simp (disch:=try exact Dw) only[Km,spA,iE,hR2,hC2,seval,reduceCtorEq]
    repeat' (first
 |simp (disch:=try exact Dw) only[Km,hR2,hC2,ht1,ht2,hsn,seval,reduceCtorEq]
 |with_reducible refine e8 ?_
 |(refine Fw ?_;first|exact Or.inl ⟨_,hso,rfl,rfl⟩|exact e9|fail)
 |(refine fin_o [] ?_;simp (disch:=try exact Dw) only[Km,hR2,hC2,ht1,ht2,hsn,wh,seval,reduceCtorEq];refine⟨_,rfl,?_,?_⟩;(first|rfl|simp (disch:=try exact Dw) only[Km,hR2,hC2,ht1,ht2,hsn,wh,seval,reduceCtorEq]);first|exact Or.inl ⟨_,hso,rfl,rfl⟩|exact⟨_,rfl⟩|fail)
 |fail)
  ·repeat' (first
 |simp (disch:=try exact Dw) only[Km,hl,hg,seval,reduceCtorEq]
 |with_reducible refine e8 ?_
 |(refine Am (s72 _) ?_;rintro _ rfl;all_goals simp only[vl,ts,wb])
 |(refine Fw ?_;first|exact Or.inr ⟨fun h=>hg h.1,rfl⟩|exact Or.inr rfl|exact Or.inr ⟨fun h=>h.1.elim,rfl⟩|exact e9|fail)
 |(refine fin_o [] ?_;simp (disch:=try exact Dw) only[Km,hl,hg,wh,seval,reduceCtorEq];refine⟨_,rfl,?_,?_⟩;(first|rfl|simp (disch:=try exact Dw) only[Km,hl,hg,wh,seval,reduceCtorEq]);first|exact Or.inr ⟨fun h=>hg h.1,rfl⟩|exact Or.inr rfl|exact Or.inr ⟨fun h=>h.1.elim,rfl⟩|exact⟨_,rfl⟩|fail)
 |fail)
 ·repeat' (first
 |simp (disch:=try exact Dw) only[Km,hl,seval,reduceCtorEq]
 |with_reducible refine e8 ?_
 |(refine Am (s72 _) ?_;rintro _ rfl;all_goals simp only[vl,ts,wb])
 |(refine Fw ?_;first|exact Or.inr ⟨fun h=>h.2,rfl⟩|exact e9|fail)
 |(refine fin_o [] ?_;simp (disch:=try exact Dw) only[Km,hl,wh,seval,reduceCtorEq];refine⟨_,rfl,?_,?_⟩;(first|rfl|simp (disch:=try exact Dw) only[Km,hl,wh,seval,reduceCtorEq]);first|exact Or.inr ⟨fun h=>h.2,rfl⟩|exact⟨_,rfl⟩|fail)
 |fail)
end Go.Proofs
set_option maxHeartbeats 4000000
set_option maxRecDepth 100000
namespace Go.Proofs
open Go Go.Pv Go.Proofs.Tx
variable [Lq]
open W
open Classical
theorem ids_b{hp:Hp}{l:List Bool}:(l.map AV.bool).flatMap (idsOf hp 5)=[]:=by
 induction l with
 | nil=>rfl
 | cons x l ih=>rw [List.map_cons,List.flatMap_cons,ih]; rfl
theorem ren_b{m:List Nat}{l:List Bool}:List.map (renX m 6) (l.map AV.bool)=l.map AV.bool:=by
 rw [List.map_map]; rfl
theorem s40'(a b v:Int):∃ r,Run Tryz.prog 40 [.sl 1 [.int .i64 a,.int .i64 b] false,.int .i64 v] r∧∃ x,r=.bool x:=by
 obtain ⟨r,h,e⟩:=s40 (SL.of [a,b] (Nat.le_of_ble_eq_true rfl)) v
 rw [← SL.ofe] at h
 exact⟨r,h,_,e⟩
theorem set_b{l:List Bool}{k:Nat}{b:Bool}:(l.map AV.bool).set k (.bool b) =(l.set k b).map AV.bool:=List.map_set.symm
theorem snap_b{hp:Hp}{n:Nat}{l:List Bool}:mapO (snap hp (n+1)) (l.map AV.bool)=some (l.map AV.bool):=mapO_id fun x hx=>by obtain ⟨y,_,rfl⟩:=List.mem_map.1 hx; rfl
theorem rows_b{hp:Hp}{n:Nat}{l:List Bool}:(l.map AV.bool).flatMap (rows hp (n+1))=[]:=by
 rw [List.flatMap_eq_nil_iff]; intro x hx; obtain ⟨y,_,rfl⟩:=List.mem_map.1 hx; rfl
theorem s19(N:Nt)(up:TL)(hc:CostOk N):∃ r,Run Tryz.prog 19 [N.v,up.v] r ∧((Good N∧up.l.length=N.links.l.length∧∃ w:TL,w.l.length=N.links.l.length∧r=.tup [w.v,.int .i64 0]) ∨(¬(Good N∧up.l.length=N.links.l.length)∧∃ w:TL,r=.tup [w.v,.int .i64 2])):=by
 refine run_w (c:=c19 true) [.t 4,.t 5] 2 (by kernel_rfl) (by kernel_rfl) (Nat.le_refl 2) (by simp only[wd]) ?_
 unfold c19
 simp (disch:=try exact Dw) only[Km,seval,reduceCtorEq]
 refine Am (s38 N up hc) ?_
 rintro _ (⟨hg,hl,x,hx,hxn,rfl⟩ | ⟨hg,rfl⟩)
 ·have h20:=hg.few.2.2.1
  subst hxn
  simp only[vl,ts,wb]
  simp (disch:=try exact Dw) only[Km,seval,reduceCtorEq]
  refine Am (s39 x hx hc) ?_
  rintro _ ⟨u,rfl,hu⟩
  simp only[vl,ts,wb]
  simp (disch:=try exact Dw) only[Km,seval,reduceCtorEq]
  refine⟨⟨by omega,by omega,by omega⟩,?_⟩
  obtain ⟨Z,hZ,hZl⟩:∃ Z:List Bool,List.replicate x.n.links.l.length (AV.bool false)=Z.map AV.bool∧Z.length=x.n.links.l.length:=⟨List.replicate x.n.links.l.length false,by simp,by simp⟩
  rw [hZ]
  refine d_lo (fun p:Nat × List Bool=>⟨[(8,u.v),(9,.vec 0 1 0 x.n.links.l.length),(29,x.n.links.v),(30,.int .i64 x.n.links.l.length),(31,.int .i64 p.1)],[some ⟨4,p.2.map AV.bool,true⟩]⟩) (fun p=>p.1≤x.n.links.l.length∧p.2.length=x.n.links.l.length) (fun p=>x.n.links.l.length - p.1) ?_ ?_
  ·simp (disch:=try exact Dw) only[Km,ids_b,ren_b,seval,reduceCtorEq]
   exact⟨(0,Z),rfl,Nat.zero_le _,hZl⟩
  rintro ⟨k,G⟩ ⟨hk,hGl⟩
  simp only at hk hGl ⊢
  unfold c19b0
  by_cases hlt:k < x.n.links.l.length
  ·obtain ⟨⟨a0,a1⟩,⟨b0,b1⟩,_⟩:=hg.links k hlt
   repeat' (first
 |simp (disch:=try exact Dw) only[Km,hGl,hu,ids_b,ren_b,set_b,seval,reduceCtorEq]
 |with_reducible refine e8 ?_
 |(refine call_pl (by simp (disch:=try exact Dw) only[Km,hGl,hu,ids_b,ren_b,set_b,wp,seval,reduceCtorEq]; rfl) (by simp (disch:=try exact Dw) only[Km,hGl,hu,ids_b,ren_b,set_b,wp,seval,reduceCtorEq]) (s40' _ _ _) (by rintro _ ⟨_ | _,rfl⟩ <;> rfl) ?_; rintro _ ⟨_ | _,rfl⟩; all_goals simp only[vl,wp,ts,wb])
 |(refine Fw ?_;first|exact e9|fail)
 |(refine fin_o [] ?_;simp (disch:=try exact Dw) only[Km,hGl,hu,ids_b,ren_b,set_b,wh,seval,reduceCtorEq];refine⟨_,rfl,?_,?_⟩;(first|rfl|simp (disch:=try exact Dw) only[Km,hGl,hu,ids_b,ren_b,set_b,wh,seval,reduceCtorEq]);first|exact⟨_,rfl⟩|fail)
 |fail)
   all_goals exact⟨(k+1,_),rfl,⟨by simp only; omega,by simp only[List.length_set]; exact hGl⟩,by simp only; omega⟩
  ·have nb:G.length≤140737488355328:=Nat.le_trans (by omega:G.length≤20) (Nat.le_of_ble_eq_true rfl)
   have hG2:=hGl
   rw [← hGl]
   repeat' (first
 |simp (disch:=try exact Dw) only[Km,snap_b,rows_b,seval,reduceCtorEq]
 |with_reducible refine e8 ?_
 |(refine Fw ?_;first|exact Or.inl ⟨hg,hl.trans hGl.symm,SL.of G nb,rfl,congrArg (fun x=>AV.tup [x,_]) SL.ofe⟩|exact e9|fail)
 |(refine fin_o [] ?_;simp (disch:=try exact Dw) only[Km,snap_b,rows_b,wh,seval,reduceCtorEq];refine⟨_,rfl,?_,?_⟩;(first|rfl|simp (disch:=try exact Dw) only[Km,snap_b,rows_b,wh,seval,reduceCtorEq]);first|exact Or.inl ⟨hg,hl.trans hGl.symm,SL.of G nb,rfl,congrArg (fun x=>AV.tup [x,_]) SL.ofe⟩|exact⟨_,rfl⟩|fail)
 |fail)
 ·simp only[vl,ts,wb]
  repeat' (first
 |simp (disch:=try exact Dw) only[Km,seval,reduceCtorEq]
 |with_reducible refine e8 ?_
 |(refine Fw ?_;first|exact Or.inr ⟨hg,SL.nil,congrArg (fun x=>AV.tup [x,_]) SL.nile⟩|exact e9|fail)
 |(refine fin_o [] ?_;simp (disch:=try exact Dw) only[Km,wh,seval,reduceCtorEq];refine⟨_,rfl,?_,?_⟩;(first|rfl|simp (disch:=try exact Dw) only[Km,wh,seval,reduceCtorEq]);first|exact Or.inr ⟨hg,SL.nil,congrArg (fun x=>AV.tup [x,_]) SL.nile⟩|exact⟨_,rfl⟩|fail)
 |fail)
end Go.Proofs
