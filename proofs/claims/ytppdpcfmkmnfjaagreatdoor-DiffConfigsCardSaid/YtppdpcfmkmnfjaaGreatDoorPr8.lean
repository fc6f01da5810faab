/- The proofs of what the functions of this seat do. -/
import Derived.Test.YtppdpcfmkmnfjaaGreatDoorPr7
set_option linter.unusedSimpArgs false
set_option linter.unusedVariables false
set_option maxHeartbeats 2000000
set_option maxRecDepth 20000
namespace Go.Proofs
open Go.Pv
theorem equali_run(l m:List Int)(n n':Nat)(f f':Bool)(hn:l=[]∨n=1)(hn':m=[]∨n'=1)(hl:(l.length:Int) < 9223372036854775807)(hm:(m.length:Int) < 9223372036854775807) :
  Run Tryz.prog 89 [.sl n (l.map (.int .i64)) f,.sl n' (m.map (.int .i64)) f'] (.bool (decide (l=m))):=by
 refine Tryz.run89 (by simp) ?_
 unfold Tryz.c89
 by_cases h:l.length=m.length
 case neg =>
  rw [decide_eq_false (fun e=>h (by rw [e]))]
  simp (disch:=try exact dq) only[↓pvd,pz,sC,List.map,seval,List.length_map]
  exact eZ
 simp (disch:=try exact dq) only[↓pvd,pz,sC,List.map,seval,List.length_map]
 refine aw_loop (fun k:Nat=>⟨[(0,.sl n (l.map (.int .i64)) f),(1,.sl n' (m.map (.int .i64)) f'),(12,.int .i64 l.length),(13,.int .i64 k)],[]⟩) (fun k=>k≤l.length∧l.take k=m.take k) (fun k=>l.length - k) 0 ?_ ⟨by omega,by simp⟩ ?_
 ·refine vZ ?_
  try first|rfl|trivial
 rintro k ⟨hk,hi⟩
 unfold Tryz.c89b0
 by_cases hx:k < l.length
 ·obtain rfl:n=1:=hn.resolve_left (by rintro rfl; simp at hx)
  obtain rfl:n'=1:=hn'.resolve_left (by rintro rfl; rw [List.length_nil] at h; omega)
  have hg1:(l.map (AV.int .i64))[k]?=some (.int .i64 l[k]!):=mG hx
  have hg2:(m.map (AV.int .i64))[k]?=some (.int .i64 m[k]!):=mG (by omega)
  by_cases e:l[k]! = m[k]!
  ·simp (disch:=try exact dq) only[↓pvd,pz,sC,List.map,seval,hg1,hg2,List.length_map,e]
   exact⟨k+1,rfl,⟨hx,take_next hi hx (by omega) e⟩,by omega⟩
  ·rw [decide_eq_false (take_ne hx (by omega) e)]
   simp (disch:=try exact dq) only[↓pvd,pz,sC,List.map,seval,hg1,hg2,List.length_map,e]
   exact eZ
 ·rw [decide_eq_true (take_full hi (by omega) (by omega))]
  simp (disch:=try exact dq) only[↓pvd,pz,sC,List.map,seval,List.length_map]
  exact eZ
theorem equalu_run(l m:List Int)(n n':Nat)(f f':Bool)(hn:l=[]∨n=1)(hn':m=[]∨n'=1)(hl:(l.length:Int) < 9223372036854775807)(hm:(m.length:Int) < 9223372036854775807) :
  Run Tryz.prog 90 [.sl n (l.map (.int .u32)) f,.sl n' (m.map (.int .u32)) f'] (.bool (decide (l=m))):=by
 refine Tryz.run90 (by simp) ?_
 unfold Tryz.c90
 by_cases h:l.length=m.length
 case neg =>
  rw [decide_eq_false (fun e=>h (by rw [e]))]
  simp (disch:=try exact dq) only[↓pvd,pz,sC,List.map,seval,List.length_map]
  exact eZ
 simp (disch:=try exact dq) only[↓pvd,pz,sC,List.map,seval,List.length_map]
 refine aw_loop (fun k:Nat=>⟨[(0,.sl n (l.map (.int .u32)) f),(1,.sl n' (m.map (.int .u32)) f'),(12,.int .i64 l.length),(13,.int .i64 k)],[]⟩) (fun k=>k≤l.length∧l.take k=m.take k) (fun k=>l.length - k) 0 ?_ ⟨by omega,by simp⟩ ?_
 ·refine vZ ?_
  try first|rfl|trivial
 rintro k ⟨hk,hi⟩
 unfold Tryz.c90b0
 by_cases hx:k < l.length
 ·obtain rfl:n=1:=hn.resolve_left (by rintro rfl; simp at hx)
  obtain rfl:n'=1:=hn'.resolve_left (by rintro rfl; rw [List.length_nil] at h; omega)
  have hg1:(l.map (AV.int .u32))[k]?=some (.int .u32 l[k]!):=mG hx
  have hg2:(m.map (AV.int .u32))[k]?=some (.int .u32 m[k]!):=mG (by omega)
  by_cases e:l[k]! = m[k]!
  ·simp (disch:=try exact dq) only[↓pvd,pz,sC,List.map,seval,hg1,hg2,List.length_map,e]
   exact⟨k+1,rfl,⟨hx,take_next hi hx (by omega) e⟩,by omega⟩
  ·rw [decide_eq_false (take_ne hx (by omega) e)]
   simp (disch:=try exact dq) only[↓pvd,pz,sC,List.map,seval,hg1,hg2,List.length_map,e]
   exact eZ
 ·rw [decide_eq_true (take_full hi (by omega) (by omega))]
  simp (disch:=try exact dq) only[↓pvd,pz,sC,List.map,seval,List.length_map]
  exact eZ
theorem within_run(n a b:Int):Run Tryz.prog 94 [.int .i64 n,.int .i64 a,.int .i64 b] (.bool (decide (a≤n∧n≤b))):=by
 refine Tryz.run94 (by simp) ?_
 unfold Tryz.c94
 by_cases h1:a≤n
 ·by_cases h2:n≤b
  ·rw [decide_eq_true ⟨h1,h2⟩]
   exact kZ
  ·rw [decide_eq_false (fun h=>h2 h.2)]
   exact kZ
 ·rw [decide_eq_false (fun h=>h1 h.1)]
  exact kZ
def liO(l:List Int)(m:Int):Bool:=decide (l=[]) || rsF l 1 m
theorem slist_run(l:List Int)(n:Nat)(f:Bool)(m:Int)(hn:l=[]∨n=1)(hl:l.length≤100000):Run Tryz.prog 95 [.sl n (l.map (.int .i64)) f,.int .i64 m] (.bool (liO l m)):=by
 refine Tryz.run95 (by simp) ?_
 unfold Tryz.c95 liO
 by_cases h:l=[]
 ·subst h
  rw [decide_eq_true rfl]
  repeat' (first | (simp (disch:=try exact dq) only[↓pvd,pz,sC,List.map,seval,List.map_nil,still]) | (with_reducible first|refine cB (fun _=>?_) (fun _=>?_)|refine gB (fun _=>?_) (fun _=>?_)|refine hB (fun _=>?_) (fun _=>?_)|refine cA ?_ ?_) | exact eZ | fail)
 ·obtain rfl:n=1:=hn.resolve_left h
  have hp:=List.length_pos_iff.2 h
  have q:=ising_run l f 1 m hl
  rw [decide_eq_false h]
  generalize rsF l 1 m=b at *
  have hlm:(l.map (AV.int .i64)).length=l.length:=by simp
  generalize l.map (AV.int .i64)=es at *
  repeat' (first | (simp (disch:=try exact dq) only[↓pvd,pz,sC,List.map,seval,hlm,still]) | (with_reducible first|refine cB (fun _=>?_) (fun _=>?_)|refine gB (fun _=>?_) (fun _=>?_)|refine hB (fun _=>?_) (fun _=>?_)|refine cA ?_ ?_) | refine aC q rfl rfl ?_ | refine aD q rfl rfl (fun _=>rfl) ?_ | exact eZ | fail)
def adO(l:List Int):Bool:=rsF l 1 4294967295
theorem addrs_no{l:List Int}{k:Nat}(h:k < l.length)(h0:l[k]!≤0):adO l=false:=rs_no1 h (by omega)
theorem saddrs_run(l:List Int)(n:Nat)(f:Bool)(hn:l=[]∨n=1)(hl:l.length≤100000)(hr:∀ x∈l,0≤x∧x≤4294967295):Run Tryz.prog 96 [.sl n (l.map (.int .u32)) f] (.bool (adO l)):=by
 refine Tryz.run96 (by simp) ?_
 unfold Tryz.c96
 simp (disch:=try exact dq) only[↓pvd,pz,sC,List.map,seval,List.length_map]
 refine aw_loop (fun k:Nat=>⟨[(0,.sl n (l.map (.int .u32)) f),(5,.sl n (l.map (.int .u32)) f),(6,.int .i64 l.length),(7,.int .i64 k)],[]⟩) (fun k=>k≤l.length ∧(∀ j < k,1≤l[j]!∧l[j]!≤4294967295)∧risF (l.take k)=true) (fun k=>l.length - k) 0 ?_ ⟨by omega,by simp,rfl⟩ ?_
 ·refine vZ ?_
  try first|rfl|trivial
 rintro k ⟨hk,hp,hr'⟩
 unfold Tryz.c96b0
 by_cases hx:k < l.length
 ·obtain rfl:n=1:=hn.resolve_left (by rintro rfl; simp at hx)
  have hgi:(l.map (AV.int .u32))[k]?=some (.int .u32 l[k]!):=mG hx
  have hb:=hr l[k]! (get_mem hx)
  have hn:=ris_next hx
  rw [hr',Bool.true_and] at hn
  have hlm:(l.map (AV.int .u32)).length=l.length:=by simp
  by_cases h1:l[k]! = 0
  ·rw [addrs_no hx (by omega)]
   generalize l.map (AV.int .u32)=es at *
   repeat' (first | (simp (disch:=try exact dq) only[↓pvd,pz,sC,List.map,seval,hgi,hlm,h1,still]) | (with_reducible first|refine cB (fun _=>?_) (fun _=>?_)|refine gB (fun _=>?_) (fun _=>?_)|refine hB (fun _=>?_) (fun _=>?_)|refine cA ?_ ?_) | exact eZ | fail)
  ·have nx:(k=0∨l[k - 1]! < l[k]!)→k+1≤l.length ∧(∀ j < k+1,1≤l[j]!∧l[j]!≤4294967295)∧risF (l.take (k+1))=true:=fun h=>⟨hx,fun j hj=>by
    by_cases e:j=k
    ·rw [e]; omega
    ·exact hp j (by omega),by rw [hn]; exact decide_eq_true h⟩
   by_cases h0:k=0
   ·have:=nx (.inl h0)
    subst h0
    generalize l.map (AV.int .u32)=es at *
    repeat' (first | (simp (disch:=try exact dq) only[↓pvd,pz,sC,List.map,seval,hgi,hlm,h1,still]) | (with_reducible first|refine cB (fun _=>?_) (fun _=>?_)|refine gB (fun _=>?_) (fun _=>?_)|refine hB (fun _=>?_) (fun _=>?_)|refine cA ?_ ?_) | exact eZ | fail)
    exact⟨0+1,rfl,this,by omega⟩
   ·have hix:((k:Int) - 1).toNat=k - 1:=by omega
    have hgj:(l.map (AV.int .u32))[k - 1]?=some (.int .u32 l[k - 1]!):=mG (by omega)
    have:0 < k:=by omega
    by_cases h4:l[k - 1]! < l[k]!
    ·have:=nx (.inr h4)
     generalize l.map (AV.int .u32)=es at *
     repeat' (first | (simp (disch:=try exact dq) only[↓pvd,pz,sC,List.map,seval,hgi,hix,hgj,hlm,h1,still]) | (with_reducible first|refine cB (fun _=>?_) (fun _=>?_)|refine gB (fun _=>?_) (fun _=>?_)|refine hB (fun _=>?_) (fun _=>?_)|refine cA ?_ ?_) | exact eZ | fail)
     exact⟨k+1,rfl,this,by omega⟩
    ·rw [show adO l=false from rs_no2 hx (fun h=>h.elim h0 h4)]
     generalize l.map (AV.int .u32)=es at *
     repeat' (first | (simp (disch:=try exact dq) only[↓pvd,pz,sC,List.map,seval,hgi,hix,hgj,hlm,h1,still]) | (with_reducible first|refine cB (fun _=>?_) (fun _=>?_)|refine gB (fun _=>?_) (fun _=>?_)|refine hB (fun _=>?_) (fun _=>?_)|refine cA ?_ ?_) | exact eZ | fail)
 ·have e:k=l.length:=by omega
  subst e
  rw [List.take_length] at hr'
  rw [show adO l=_ from rs_yes hp hr']
  by_cases h1:0 < l.length
  ·by_cases h2:l.length≤16
   ·rw [decide_eq_true ⟨h1,h2⟩]
    repeat' (first | (simp (disch:=try exact dq) only[↓pvd,pz,sC,List.map,seval,List.length_map,still]) | (with_reducible first|refine cB (fun _=>?_) (fun _=>?_)|refine gB (fun _=>?_) (fun _=>?_)|refine hB (fun _=>?_) (fun _=>?_)|refine cA ?_ ?_) | exact eZ | fail)
   ·rw [decide_eq_false (fun h=>h2 h.2)]
    repeat' (first | (simp (disch:=try exact dq) only[↓pvd,pz,sC,List.map,seval,List.length_map,still]) | (with_reducible first|refine cB (fun _=>?_) (fun _=>?_)|refine gB (fun _=>?_) (fun _=>?_)|refine hB (fun _=>?_) (fun _=>?_)|refine cA ?_ ?_) | exact eZ | fail)
  ·rw [decide_eq_false (fun h=>h1 h.1)]
   repeat' (first | (simp (disch:=try exact dq) only[↓pvd,pz,sC,List.map,seval,List.length_map,still]) | (with_reducible first|refine cB (fun _=>?_) (fun _=>?_)|refine gB (fun _=>?_) (fun _=>?_)|refine hB (fun _=>?_) (fun _=>?_)|refine cA ?_ ?_) | exact eZ | fail)
def isLn(v:AV)(x:LnF):Prop:=∃ n1 f1 n2 f2 n3 f3 n4 f4,v=lnA x.l (.sl n1 (x.t.map (.int .i64)) f1) (.sl n2 (x.im.map (.int .i64)) f2) (.sl n3 (x.ex.map (.int .i64)) f3) (.sl n4 (x.ad.map (.int .u32)) f4) ∧
 (x.t=[]∨n1=1) ∧(x.im=[]∨n2=1) ∧(x.ex=[]∨n3=1) ∧(x.ad=[]∨n4=1)
theorem isLn_V(x:LnF):isLn (lnV x) x:=by
 obtain ⟨n1,f1,h1,k1⟩:=slV_is x.t
 obtain ⟨n2,f2,h2,k2⟩:=slV_is x.im
 obtain ⟨n3,f3,h3,k3⟩:=slV_is x.ex
 obtain ⟨n4,f4,h4,k4⟩:=sl32_is x.ad
 exact⟨n1,f1,n2,f2,n3,f3,n4,f4,by unfold lnV; rw [h1,h2,h3,h4],k1,k2,k3,k4⟩
def lnS(x:LnF):Prop:=(x.t.length:Int) < 9223372036854775807 ∧(x.im.length:Int) < 9223372036854775807 ∧(x.ex.length:Int) < 9223372036854775807 ∧(x.ad.length:Int) < 9223372036854775807
set_option maxHeartbeats 16000000 in
theorem ssame_run{v v':AV}{x y:LnF}(hv:isLn v x)(hv':isLn v' y)(hx:lnS x)(hy:lnS y):Run Tryz.prog 55 [v,v'] (.bool (decide (x=y))):=by
 obtain ⟨n1,f1,n2,f2,n3,f3,n4,f4,rfl,c1,c2,c3,c4⟩:=hv
 obtain ⟨m1,g1,m2,g2,m3,g3,m4,g4,rfl,d1,d2,d3,d4⟩:=hv'
 have q1:=equali_run x.t y.t n1 m1 f1 g1 c1 d1 hx.1 hy.1
 have q2:=equali_run x.im y.im n2 m2 f2 g2 c2 d2 hx.2.1 hy.2.1
 have q3:=equali_run x.ex y.ex n3 m3 f3 g3 c3 d3 hx.2.2.1 hy.2.2.1
 have q4:=equalu_run x.ad y.ad n4 m4 f4 g4 c4 d4 hx.2.2.2 hy.2.2.2
 obtain ⟨⟨r,k,a1,a2,a3,a4,a5,b1,b2,b3,b4,b5,b6⟩,t,im,ex,ad⟩:=x
 obtain ⟨⟨r',k',a1',a2',a3',a4',a5',b1',b2',b3',b4',b5',b6'⟩,t',im',ex',ad'⟩:=y
 simp only at q1 q2 q3 q4
 simp only[LnF.mk.injEq,Ln.mk.injEq]
 clear c1 c2 c3 c4 d1 d2 d3 d4 hx hy
 obtain ⟨B,hB⟩:∃ B,decide ((r=r'∧k=k'∧a1=a1'∧a2=a2'∧a3=a3'∧a4=a4'∧a5=a5'∧b1=b1'∧b2=b2'∧b3=b3'∧b4=b4'∧b5=b5'∧b6=b6')∧t=t'∧im=im'∧ex=ex'∧ad=ad')=B:=⟨_,rfl⟩
 rw [show decide _=B from hB]
 refine Tryz.run55 (by simp) ?_
 unfold Tryz.c55 lnA
 generalize t.map (AV.int .i64)=s1 at *
 generalize im.map (AV.int .i64)=s2 at *
 generalize ex.map (AV.int .i64)=s3 at *
 generalize ad.map (AV.int .u32)=s4 at *
 generalize t'.map (AV.int .i64)=s1' at *
 generalize im'.map (AV.int .i64)=s2' at *
 generalize ex'.map (AV.int .i64)=s3' at *
 generalize ad'.map (AV.int .u32)=s4' at *
 refine wZ ?_
 by_cases e0:r=r'
 case neg =>
  obtain rfl:B=false:=by rw [← hB]; exact decide_eq_false (fun h=>e0 h.1.1)
  have z:decide (r=r')=false:=decide_eq_false e0
  simp (disch:=try exact dq) only[↓pvd,pz,sC,List.map,seval,z]
  exact eZ
 subst e0
 refine wZ ?_
 by_cases e1:k=k'
 case neg =>
  obtain rfl:B=false:=by rw [← hB]; exact decide_eq_false (fun h=>e1 h.1.2.1)
  have z:decide (k=k')=false:=decide_eq_false e1
  simp (disch:=try exact dq) only[↓pvd,pz,sC,List.map,seval,z]
  exact eZ
 subst e1
 refine wZ ?_
 by_cases e2:a1=a1'
 case neg =>
  obtain rfl:B=false:=by rw [← hB]; exact decide_eq_false (fun h=>e2 h.1.2.2.1)
  have z:decide (a1=a1')=false:=decide_eq_false e2
  simp (disch:=try exact dq) only[↓pvd,pz,sC,List.map,seval,z]
  exact eZ
 subst e2
 refine wZ ?_
 by_cases e3:a2=a2'
 case neg =>
  obtain rfl:B=false:=by rw [← hB]; exact decide_eq_false (fun h=>e3 h.1.2.2.2.1)
  have z:decide (a2=a2')=false:=decide_eq_false e3
  simp (disch:=try exact dq) only[↓pvd,pz,sC,List.map,seval,z]
  exact eZ
 subst e3
 refine wZ ?_
 by_cases e4:a3=a3'
 case neg =>
  obtain rfl:B=false:=by rw [← hB]; exact decide_eq_false (fun h=>e4 h.1.2.2.2.2.1)
  have z:decide (a3=a3')=false:=decide_eq_false e4
  simp (disch:=try exact dq) only[↓pvd,pz,sC,List.map,seval,z]
  exact eZ
 subst e4
 refine wZ ?_
 by_cases e5:a4=a4'
 case neg =>
  obtain rfl:B=false:=by rw [← hB]; exact decide_eq_false (fun h=>e5 h.1.2.2.2.2.2.1)
  have z:decide (a4=a4')=false:=decide_eq_false e5
  simp (disch:=try exact dq) only[↓pvd,pz,sC,List.map,seval,z]
  exact eZ
 subst e5
 refine wZ ?_
 by_cases e6:a5=a5'
 case neg =>
  obtain rfl:B=false:=by rw [← hB]; exact decide_eq_false (fun h=>e6 h.1.2.2.2.2.2.2.1)
  have z:decide (a5=a5')=false:=decide_eq_false e6
  simp (disch:=try exact dq) only[↓pvd,pz,sC,List.map,seval,z]
  exact eZ
 subst e6
 refine wZ ?_
 by_cases e7:b1=b1'
 case neg =>
  obtain rfl:B=false:=by rw [← hB]; exact decide_eq_false (fun h=>e7 h.1.2.2.2.2.2.2.2.1)
  have z:decide (b1=b1')=false:=decide_eq_false e7
  simp (disch:=try exact dq) only[↓pvd,pz,sC,List.map,seval,z]
  exact eZ
 subst e7
 refine wZ ?_
 by_cases e8:b2=b2'
 case neg =>
  obtain rfl:B=false:=by rw [← hB]; exact decide_eq_false (fun h=>e8 h.1.2.2.2.2.2.2.2.2.1)
  have z:decide (b2=b2')=false:=decide_eq_false e8
  simp (disch:=try exact dq) only[↓pvd,pz,sC,List.map,seval,z]
  exact eZ
 subst e8
 refine wZ ?_
 by_cases e9:b3=b3'
 case neg =>
  obtain rfl:B=false:=by rw [← hB]; exact decide_eq_false (fun h=>e9 h.1.2.2.2.2.2.2.2.2.2.1)
  have z:decide (b3=b3')=false:=decide_eq_false e9
  simp (disch:=try exact dq) only[↓pvd,pz,sC,List.map,seval,z]
  exact eZ
 subst e9
 refine wZ ?_
 by_cases e10:b4=b4'
 case neg =>
  obtain rfl:B=false:=by rw [← hB]; exact decide_eq_false (fun h=>e10 h.1.2.2.2.2.2.2.2.2.2.2.1)
  have z:decide (b4=b4')=false:=decide_eq_false e10
  simp (disch:=try exact dq) only[↓pvd,pz,sC,List.map,seval,z]
  exact eZ
 subst e10
 refine wZ ?_
 by_cases e11:b5=b5'
 case neg =>
  obtain rfl:B=false:=by rw [← hB]; exact decide_eq_false (fun h=>e11 h.1.2.2.2.2.2.2.2.2.2.2.2.1)
  have z:decide (b5=b5')=false:=decide_eq_false e11
  simp (disch:=try exact dq) only[↓pvd,pz,sC,List.map,seval,z]
  exact eZ
 subst e11
 refine wZ ?_
 by_cases e12:b6=b6'
 case neg =>
  obtain rfl:B=false:=by rw [← hB]; exact decide_eq_false (fun h=>e12 h.1.2.2.2.2.2.2.2.2.2.2.2.2)
  have z:decide (b6=b6')=false:=decide_eq_false e12
  simp (disch:=try exact dq) only[↓pvd,pz,sC,List.map,seval,z]
  exact eZ
 subst e12
 refine wZ ?_
 refine aC q1 rfl rfl ?_
 by_cases e13:t=t'
 case neg =>
  obtain rfl:B=false:=by rw [← hB]; exact decide_eq_false (fun h=>e13 h.2.1)
  have z:decide (t=t')=false:=decide_eq_false e13
  simp (disch:=try exact dq) only[↓pvd,pz,sC,List.map,seval,z]
  exact eZ
 have z13:decide (t=t')=true:=decide_eq_true e13
 simp (disch:=try exact dq) only[↓pvd,pz,sC,List.map,seval,z13]
 refine aC q2 rfl rfl ?_
 by_cases e14:im=im'
 case neg =>
  obtain rfl:B=false:=by rw [← hB]; exact decide_eq_false (fun h=>e14 h.2.2.1)
  have z:decide (im=im')=false:=decide_eq_false e14
  simp (disch:=try exact dq) only[↓pvd,pz,sC,List.map,seval,z]
  exact eZ
 have z14:decide (im=im')=true:=decide_eq_true e14
 simp (disch:=try exact dq) only[↓pvd,pz,sC,List.map,seval,z14]
 refine aC q3 rfl rfl ?_
 by_cases e15:ex=ex'
 case neg =>
  obtain rfl:B=false:=by rw [← hB]; exact decide_eq_false (fun h=>e15 h.2.2.2.1)
  have z:decide (ex=ex')=false:=decide_eq_false e15
  simp (disch:=try exact dq) only[↓pvd,pz,sC,List.map,seval,z]
  exact eZ
 have z15:decide (ex=ex')=true:=decide_eq_true e15
 simp (disch:=try exact dq) only[↓pvd,pz,sC,List.map,seval,z15]
 refine aC q4 rfl rfl ?_
 by_cases e16:ad=ad'
 case neg =>
  obtain rfl:B=false:=by rw [← hB]; exact decide_eq_false (fun h=>e16 h.2.2.2.2)
  have z:decide (ad=ad')=false:=decide_eq_false e16
  simp (disch:=try exact dq) only[↓pvd,pz,sC,List.map,seval,z]
  exact eZ
 have z16:decide (ad=ad')=true:=decide_eq_true e16
 simp (disch:=try exact dq) only[↓pvd,pz,sC,List.map,seval,z16]
 obtain rfl:B=true:=by rw [← hB]; exact decide_eq_true ⟨⟨rfl,rfl,rfl,rfl,rfl,rfl,rfl,rfl,rfl,rfl,rfl,rfl,rfl⟩,e13,e14,e15,e16⟩
 exact eZ
end Go.Proofs
