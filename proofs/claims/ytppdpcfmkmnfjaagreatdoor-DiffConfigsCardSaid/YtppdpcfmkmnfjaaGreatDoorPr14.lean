/- The proofs of what the functions of this seat do. -/
import Derived.Test.YtppdpcfmkmnfjaaGreatDoorPr13
set_option linter.unusedSimpArgs false
set_option linter.unusedVariables false
set_option maxHeartbeats 2000000
set_option maxRecDepth 20000
set_option maxHeartbeats 16000000
namespace Go.Proofs
open Go.Pv
theorem requali_run(l m:List Int)(n n':Nat)(f f':Bool)(hn:l=[]∨n=1)(hn':m=[]∨n'=1)(hl:(l.length:Int) < 9223372036854775807)(hm:(m.length:Int) < 9223372036854775807) :
  Run Tryz.prog 49 [.sl n (l.map (.int .i64)) f,.sl n' (m.map (.int .i64)) f'] (.bool (decide (l=m))):=by
 refine Tryz.run49 (by simp) ?_
 unfold Tryz.c49
 by_cases h:l.length=m.length
 case neg =>
  rw [decide_eq_false (fun e=>h (by rw [e]))]
  simp (disch:=try exact dq) only[↓pvd,pz,sC,List.map,seval,List.length_map]
  exact eZ
 simp (disch:=try exact dq) only[↓pvd,pz,sC,List.map,seval,List.length_map]
 refine aw_loop (fun k:Nat=>⟨[(0,.sl n (l.map (.int .i64)) f),(1,.sl n' (m.map (.int .i64)) f'),(5,.int .i64 k)],[]⟩) (fun k=>k≤l.length∧l.take k=m.take k) (fun k=>l.length - k) 0 ?_ ⟨by omega,by simp⟩ ?_
 ·simp (disch:=try exact dq) only[↓pvd,pz,sC,List.map,seval,List.length_map]
  try rfl
 rintro k ⟨hk,hi⟩
 unfold Tryz.c49b0
 by_cases hx:k < l.length
 ·obtain rfl:n=1:=hn.resolve_left (by rintro rfl; simp at hx)
  obtain rfl:n'=1:=hn'.resolve_left (by rintro rfl; rw [List.length_nil] at h; omega)
  have hg1:(l.map (AV.int .i64))[k]?=some (.int .i64 l[k]!):=mG hx
  have hg2:(m.map (AV.int .i64))[k]?=some (.int .i64 m[k]!):=mG (by omega)
  by_cases e:l[k]! = m[k]!
  ·simp (disch:=try exact dq) only[↓pvd,pz,sC,List.map,seval,hg1,hg2,List.length_map,e]
   exact⟨k+1,rfl,⟨hx,take_next hi hx (by omega) e⟩,by omega⟩
  ·rw [decide_eq_false (take_ne hx (by omega) e)]
   simp (disch:=try exact dq) only[↓pvd,pz,sC,List.map,seval,hg1,hg2,List.length_map,e]
   exact eZ
 ·rw [decide_eq_true (take_full hi (by omega) (by omega))]
  simp (disch:=try exact dq) only[↓pvd,pz,sC,List.map,seval,List.length_map]
  exact eZ
theorem requalu_run(l m:List Int)(n n':Nat)(f f':Bool)(hn:l=[]∨n=1)(hn':m=[]∨n'=1)(hl:(l.length:Int) < 9223372036854775807)(hm:(m.length:Int) < 9223372036854775807) :
  Run Tryz.prog 50 [.sl n (l.map (.int .u32)) f,.sl n' (m.map (.int .u32)) f'] (.bool (decide (l=m))):=by
 refine Tryz.run50 (by simp) ?_
 unfold Tryz.c50
 by_cases h:l.length=m.length
 case neg =>
  rw [decide_eq_false (fun e=>h (by rw [e]))]
  simp (disch:=try exact dq) only[↓pvd,pz,sC,List.map,seval,List.length_map]
  exact eZ
 simp (disch:=try exact dq) only[↓pvd,pz,sC,List.map,seval,List.length_map]
 refine aw_loop (fun k:Nat=>⟨[(0,.sl n (l.map (.int .u32)) f),(1,.sl n' (m.map (.int .u32)) f'),(5,.int .i64 k)],[]⟩) (fun k=>k≤l.length∧l.take k=m.take k) (fun k=>l.length - k) 0 ?_ ⟨by omega,by simp⟩ ?_
 ·simp (disch:=try exact dq) only[↓pvd,pz,sC,List.map,seval,List.length_map]
  try rfl
 rintro k ⟨hk,hi⟩
 unfold Tryz.c50b0
 by_cases hx:k < l.length
 ·obtain rfl:n=1:=hn.resolve_left (by rintro rfl; simp at hx)
  obtain rfl:n'=1:=hn'.resolve_left (by rintro rfl; rw [List.length_nil] at h; omega)
  have hg1:(l.map (AV.int .u32))[k]?=some (.int .u32 l[k]!):=mG hx
  have hg2:(m.map (AV.int .u32))[k]?=some (.int .u32 m[k]!):=mG (by omega)
  by_cases e:l[k]! = m[k]!
  ·simp (disch:=try exact dq) only[↓pvd,pz,sC,List.map,seval,hg1,hg2,List.length_map,e]
   exact⟨k+1,rfl,⟨hx,take_next hi hx (by omega) e⟩,by omega⟩
  ·rw [decide_eq_false (take_ne hx (by omega) e)]
   simp (disch:=try exact dq) only[↓pvd,pz,sC,List.map,seval,hg1,hg2,List.length_map,e]
   exact eZ
 ·rw [decide_eq_true (take_full hi (by omega) (by omega))]
  simp (disch:=try exact dq) only[↓pvd,pz,sC,List.map,seval,List.length_map]
  exact eZ
theorem rsame_run{v v':AV}{x y:LnF}(hv:isLn v x)(hv':isLn v' y)(hx:lnS x)(hy:lnS y):Run Tryz.prog 15 [v,v'] (.bool (decide (x=y))):=by
 obtain ⟨n1,f1,n2,f2,n3,f3,n4,f4,rfl,c1,c2,c3,c4⟩:=hv
 obtain ⟨m1,g1,m2,g2,m3,g3,m4,g4,rfl,d1,d2,d3,d4⟩:=hv'
 have q1:=requali_run x.t y.t n1 m1 f1 g1 c1 d1 hx.1 hy.1
 have q2:=requali_run x.im y.im n2 m2 f2 g2 c2 d2 hx.2.1 hy.2.1
 have q3:=requali_run x.ex y.ex n3 m3 f3 g3 c3 d3 hx.2.2.1 hy.2.2.1
 have q4:=requalu_run x.ad y.ad n4 m4 f4 g4 c4 d4 hx.2.2.2 hy.2.2.2
 obtain ⟨⟨r,k,a1,a2,a3,a4,a5,b1,b2,b3,b4,b5,b6⟩,t,im,ex,ad⟩:=x
 obtain ⟨⟨r',k',a1',a2',a3',a4',a5',b1',b2',b3',b4',b5',b6'⟩,t',im',ex',ad'⟩:=y
 simp only at q1 q2 q3 q4
 simp only[LnF.mk.injEq,Ln.mk.injEq]
 clear c1 c2 c3 c4 d1 d2 d3 d4 hx hy
 obtain ⟨B,hB⟩:∃ B,decide ((r=r'∧k=k'∧a1=a1'∧a2=a2'∧a3=a3'∧a4=a4'∧a5=a5'∧b1=b1'∧b2=b2'∧b3=b3'∧b4=b4'∧b5=b5'∧b6=b6')∧t=t'∧im=im'∧ex=ex'∧ad=ad')=B:=⟨_,rfl⟩
 rw [show decide _=B from hB]
 refine Tryz.run15 (by simp) ?_
 unfold Tryz.c15 lnA
 generalize t.map (AV.int .i64)=s1 at *
 generalize im.map (AV.int .i64)=s2 at *
 generalize ex.map (AV.int .i64)=s3 at *
 generalize ad.map (AV.int .u32)=s4 at *
 generalize t'.map (AV.int .i64)=s1' at *
 generalize im'.map (AV.int .i64)=s2' at *
 generalize ex'.map (AV.int .i64)=s3' at *
 generalize ad'.map (AV.int .u32)=s4' at *
 refine wZ ?_
 by_cases e0:r=r'
 case neg =>
  obtain rfl:B=false:=by rw [← hB]; exact decide_eq_false (fun h=>e0 h.1.1)
  have z:decide (r=r')=false:=decide_eq_false e0
  simp (disch:=try exact dq) only[↓pvd,pz,sC,List.map,seval,z]
  exact eZ
 subst e0
 refine wZ ?_
 by_cases e1:k=k'
 case neg =>
  obtain rfl:B=false:=by rw [← hB]; exact decide_eq_false (fun h=>e1 h.1.2.1)
  have z:decide (k=k')=false:=decide_eq_false e1
  simp (disch:=try exact dq) only[↓pvd,pz,sC,List.map,seval,z]
  exact eZ
 subst e1
 refine wZ ?_
 by_cases e2:a1=a1'
 case neg =>
  obtain rfl:B=false:=by rw [← hB]; exact decide_eq_false (fun h=>e2 h.1.2.2.1)
  have z:decide (a1=a1')=false:=decide_eq_false e2
  simp (disch:=try exact dq) only[↓pvd,pz,sC,List.map,seval,z]
  exact eZ
 subst e2
 refine wZ ?_
 by_cases e3:a2=a2'
 case neg =>
  obtain rfl:B=false:=by rw [← hB]; exact decide_eq_false (fun h=>e3 h.1.2.2.2.1)
  have z:decide (a2=a2')=false:=decide_eq_false e3
  simp (disch:=try exact dq) only[↓pvd,pz,sC,List.map,seval,z]
  exact eZ
 subst e3
 refine wZ ?_
 by_cases e4:a3=a3'
 case neg =>
  obtain rfl:B=false:=by rw [← hB]; exact decide_eq_false (fun h=>e4 h.1.2.2.2.2.1)
  have z:decide (a3=a3')=false:=decide_eq_false e4
  simp (disch:=try exact dq) only[↓pvd,pz,sC,List.map,seval,z]
  exact eZ
 subst e4
 refine wZ ?_
 by_cases e5:a4=a4'
 case neg =>
  obtain rfl:B=false:=by rw [← hB]; exact decide_eq_false (fun h=>e5 h.1.2.2.2.2.2.1)
  have z:decide (a4=a4')=false:=decide_eq_false e5
  simp (disch:=try exact dq) only[↓pvd,pz,sC,List.map,seval,z]
  exact eZ
 subst e5
 refine wZ ?_
 by_cases e6:a5=a5'
 case neg =>
  obtain rfl:B=false:=by rw [← hB]; exact decide_eq_false (fun h=>e6 h.1.2.2.2.2.2.2.1)
  have z:decide (a5=a5')=false:=decide_eq_false e6
  simp (disch:=try exact dq) only[↓pvd,pz,sC,List.map,seval,z]
  exact eZ
 subst e6
 refine wZ ?_
 by_cases e7:b1=b1'
 case neg =>
  obtain rfl:B=false:=by rw [← hB]; exact decide_eq_false (fun h=>e7 h.1.2.2.2.2.2.2.2.1)
  have z:decide (b1=b1')=false:=decide_eq_false e7
  simp (disch:=try exact dq) only[↓pvd,pz,sC,List.map,seval,z]
  exact eZ
 subst e7
 refine wZ ?_
 by_cases e8:b2=b2'
 case neg =>
  obtain rfl:B=false:=by rw [← hB]; exact decide_eq_false (fun h=>e8 h.1.2.2.2.2.2.2.2.2.1)
  have z:decide (b2=b2')=false:=decide_eq_false e8
  simp (disch:=try exact dq) only[↓pvd,pz,sC,List.map,seval,z]
  exact eZ
 subst e8
 refine wZ ?_
 by_cases e9:b3=b3'
 case neg =>
  obtain rfl:B=false:=by rw [← hB]; exact decide_eq_false (fun h=>e9 h.1.2.2.2.2.2.2.2.2.2.1)
  have z:decide (b3=b3')=false:=decide_eq_false e9
  simp (disch:=try exact dq) only[↓pvd,pz,sC,List.map,seval,z]
  exact eZ
 subst e9
 refine wZ ?_
 by_cases e10:b4=b4'
 case neg =>
  obtain rfl:B=false:=by rw [← hB]; exact decide_eq_false (fun h=>e10 h.1.2.2.2.2.2.2.2.2.2.2.1)
  have z:decide (b4=b4')=false:=decide_eq_false e10
  simp (disch:=try exact dq) only[↓pvd,pz,sC,List.map,seval,z]
  exact eZ
 subst e10
 refine wZ ?_
 by_cases e11:b5=b5'
 case neg =>
  obtain rfl:B=false:=by rw [← hB]; exact decide_eq_false (fun h=>e11 h.1.2.2.2.2.2.2.2.2.2.2.2.1)
  have z:decide (b5=b5')=false:=decide_eq_false e11
  simp (disch:=try exact dq) only[↓pvd,pz,sC,List.map,seval,z]
  exact eZ
 subst e11
 refine wZ ?_
 by_cases e12:b6=b6'
 case neg =>
  obtain rfl:B=false:=by rw [← hB]; exact decide_eq_false (fun h=>e12 h.1.2.2.2.2.2.2.2.2.2.2.2.2)
  have z:decide (b6=b6')=false:=decide_eq_false e12
  simp (disch:=try exact dq) only[↓pvd,pz,sC,List.map,seval,z]
  exact eZ
 subst e12
 refine wZ ?_
 refine aC q1 rfl rfl ?_
 by_cases e13:t=t'
 case neg =>
  obtain rfl:B=false:=by rw [← hB]; exact decide_eq_false (fun h=>e13 h.2.1)
  have z:decide (t=t')=false:=decide_eq_false e13
  simp (disch:=try exact dq) only[↓pvd,pz,sC,List.map,seval,z]
  exact eZ
 have z13:decide (t=t')=true:=decide_eq_true e13
 simp (disch:=try exact dq) only[↓pvd,pz,sC,List.map,seval,z13]
 refine aC q2 rfl rfl ?_
 by_cases e14:im=im'
 case neg =>
  obtain rfl:B=false:=by rw [← hB]; exact decide_eq_false (fun h=>e14 h.2.2.1)
  have z:decide (im=im')=false:=decide_eq_false e14
  simp (disch:=try exact dq) only[↓pvd,pz,sC,List.map,seval,z]
  exact eZ
 have z14:decide (im=im')=true:=decide_eq_true e14
 simp (disch:=try exact dq) only[↓pvd,pz,sC,List.map,seval,z14]
 refine aC q3 rfl rfl ?_
 by_cases e15:ex=ex'
 case neg =>
  obtain rfl:B=false:=by rw [← hB]; exact decide_eq_false (fun h=>e15 h.2.2.2.1)
  have z:decide (ex=ex')=false:=decide_eq_false e15
  simp (disch:=try exact dq) only[↓pvd,pz,sC,List.map,seval,z]
  exact eZ
 have z15:decide (ex=ex')=true:=decide_eq_true e15
 simp (disch:=try exact dq) only[↓pvd,pz,sC,List.map,seval,z15]
 refine aC q4 rfl rfl ?_
 by_cases e16:ad=ad'
 case neg =>
  obtain rfl:B=false:=by rw [← hB]; exact decide_eq_false (fun h=>e16 h.2.2.2.2)
  have z:decide (ad=ad')=false:=decide_eq_false e16
  simp (disch:=try exact dq) only[↓pvd,pz,sC,List.map,seval,z]
  exact eZ
 have z16:decide (ad=ad')=true:=decide_eq_true e16
 simp (disch:=try exact dq) only[↓pvd,pz,sC,List.map,seval,z16]
 obtain rfl:B=true:=by rw [← hB]; exact decide_eq_true ⟨⟨rfl,rfl,rfl,rfl,rfl,rfl,rfl,rfl,rfl,rfl,rfl,rfl,rfl⟩,e13,e14,e15,e16⟩
 exact eZ
end Go.Proofs
namespace Go.Proofs
open Go.Pv
open Nm (spl swV okW okB swF enO wsF finF swV_ws)
theorem xq_err{b:List UInt8}{f:Bool}{r e:Int}(hb:b.length≤100000)(h:readX b=.inl (r,e)):Run Tryz.prog 8 [.sl 1 (bys b) f] (.tup [.sl 0 [] true,.int .i64 r,.int .i64 e]):=by
 have:=run_frz (xread_run b f hb)
 rw [h] at this
 exact this
theorem xq_ok{b:List UInt8}{f:Bool}{l:List LnF}(hb:b.length≤100000)(h:readX b=.inr l):Run Tryz.prog 8 [.sl 1 (bys b) f] (.tup [.sl 17 (l.map lnV) false,.int .i64 0,.int .i64 0]):=by
 have:=run_frz (xread_run b f hb)
 rw [h] at this
 exact this
theorem readX_big{b:List UInt8}(h:20000 < b.length∨400 <(spl b).length):readX b=.inl (0,3):=by rw [readX_R,if_pos h]
theorem readX_small{b:List UInt8}(h:¬(20000 < b.length∨400 <(spl b).length)):readX b=rdR 0 (spl b):=by rw [readX_R,if_neg h]
theorem bnd_len{i n:Nat}{x:(Int × Int) ⊕ List LnF}{l:List LnF}(h:boundX i n x)(e:x=.inr l):l.length≤n:=by subst e; exact h.1
end Go.Proofs
namespace Go.Proofs
open Go.Pv
open Nm (spl swV okW okB swF enO wsF finF swV_ws back_words okW_all spl_ends ends no10)
def sumW(ws:List (List UInt8)):Nat:=(ws.map fun w=>w.length+1).sum
theorem join_len(ws:List (List UInt8))(h:ws≠[]):(Lib.join ws [32]).length+1=sumW ws:=by
 cases ws with
 | nil=>exact absurd rfl h
 | cons x r =>
  have ht:∀ r:List (List UInt8),(Lib.joinTail [32] r).length=sumW r:=by
   intro r
   induction r with
   | nil=>rfl
   | cons y r ih =>
    rw [show Lib.joinTail [32] (y :: r)=32 :: (y ++ Lib.joinTail [32] r) by simp [Lib.joinTail]]
    simp only[List.length_cons,List.length_append,ih,sumW,List.map_cons,List.sum_cons]
    omega
  rw [Lib.join_cons,List.length_append,ht]
  simp only[sumW,List.map_cons,List.sum_cons]
  omega
def wasR(x:LnF):Prop:=∃ ws r,rdE ws=0∧ws.all okW=true∧x=rdL ws r
theorem wasR_B{x:LnF}(h:wasR x):lnB x∧rtO x=true:=by
 obtain ⟨ws,r,he,hw,rfl⟩:=h
 refine⟨rd_B he,?_⟩
 have:=rd_right (r:=r) he (rdL ws r).l.row
 exact this
theorem good_R{l:List LnF}{x:(Int × Int) ⊕ List LnF}(h:goodX x)(e:x=.inr l):∀ y∈l,wasR y:=by
 subst e
 intro y hy
 obtain ⟨-,ws,r,h1,h2,h3⟩:=h y hy
 exact⟨ws,r,h1,h2,h3⟩
theorem wasR_can{x:LnF}(h:wasR x):rdE (wdF x)=0 ∧(∀ o,nr (rdL (wdF x) o)=nr x) ∧(∀ o,wdF (rdL (wdF x) o)=wdF x) ∧(wdF x).all okW=true:=by
 obtain ⟨ws,r,he,hw,rfl⟩:=h
 obtain ⟨cw,c1,c2,c3,c4,-,-⟩:=can he hw
 rw [c1 r]
 refine⟨c2,fun o=>?_,fun o=>?_,c4⟩
 ·rw [c3,← rdL_row ws r o he]
  rfl
 ·rw [c3,c1]
end Go.Proofs
namespace Go.Proofs
open Go.Pv
open Nm (spl swV okW rjoin_run)
theorem rww_run{v:AV}{x:LnF}(hv:isLn v x)(hB:lnB x)(hr:rtO x=true):Run Tryz.prog 146 [v] (.own 1 9 ((wdF x).map .str)):=by
 obtain ⟨r1,r2,r3,r4⟩:=rt_range hr
 obtain ⟨l1,l2,l3⟩:=rt_lists hr
 obtain ⟨hs,hb,hd⟩:=hB
 have q1:=Nm.rtext_runx x.l.vlan (by omega) (by omega)
 have q2:=Nm.rtext_runx x.l.num (by omega) (by omega)
 have q3:=Mc.ref_text_run x.l.mac (by omega) (by omega)
 have q6:=Nm.rtext_runx x.l.cost (by omega) (by omega)
 obtain ⟨n1,f1,n2,f2,n3,f3,n4,f4,rfl,c1,c2,c3,c4⟩:=hv
 have qt:=rspell_run x.t n1 f1 c1 (by omega) (fun n hn=>by have:=l1 n hn; omega)
 have qi:=rspell_run x.im n2 f2 c2 (by omega) (fun n hn=>by have:=l2 n hn; omega)
 have qe:=rspell_run x.ex n3 f3 c3 (by omega) (fun n hn=>by have:=l3 n hn; omega)
 have hk:x.l.kind=1∨x.l.kind=2∨x.l.kind=3∨x.l.kind=4∨x.l.kind=5∨x.l.kind=6∨x.l.kind=7∨x.l.kind=8∨x.l.kind=9:=by omega
 rcases hk with hk | hk | hk | hk | hk | hk | hk | hk | hk
 ·have e:wdF x=wd1 x:=by unfold wdF; rw [hk]; rfl
  rw [e]
  unfold wd1
  obtain ⟨⟨r,k,a1,a2,a3,a4,a5,b1,b2,b3,b4,b5,b6⟩,t,im,ex,ad⟩:=x
  simp only at hk q1 q2 q3 q6 qt qi qe c1
  obtain rfl:=hk
  exact rww1 r a1 a2 a3 a4 a5 b1 b2 b3 b4 b5 b6 n1 n2 n3 n4 _ _ _ _ f1 f2 f3 f4 _ _ _ q1 q2 q3
 ·have e:wdF x=wd2 x:=by unfold wdF; rw [hk]; rfl
  rw [e]
  unfold wd2
  obtain ⟨⟨r,k,a1,a2,a3,a4,a5,b1,b2,b3,b4,b5,b6⟩,t,im,ex,ad⟩:=x
  simp only at hk q1 q2 q3 q6 qt qi qe c1
  obtain rfl:=hk
  by_cases ht:t=[]
  ·subst ht
   rw [if_pos rfl]
   exact rww2a r a1 a2 a3 a4 a5 b1 b2 b3 b4 b5 b6 n1 n2 n3 n4 _ _ _ _ f1 f2 f3 f4 _ _ _ q1 q2 q3 _ q6 (by simp)
  ·have ht':¬((t.map (AV.int .i64)).length:Int)=0:=fun h=>ht (List.eq_nil_of_length_eq_zero (by simpa using h))
   rw [if_neg ht]
   by_cases h4:b4=0
   ·rw [if_pos h4]
    exact rww2c r a1 a2 a3 a4 a5 b1 b2 b3 b4 b5 b6 n1 n2 n3 n4 _ _ _ _ f1 f2 f3 f4 _ _ _ q1 q2 q3 _ _ q6 qt ht' h4
   ·rw [if_neg h4]
    exact rww2b r a1 a2 a3 a4 a5 b1 b2 b3 b4 b5 b6 n1 n2 n3 n4 _ _ _ _ f1 f2 f3 f4 _ _ _ q1 q2 q3 _ _ q6 qt ht' h4
 ·have e:wdF x=wd3 x:=by unfold wdF; rw [hk]; rfl
  rw [e]
  unfold wd3
  obtain ⟨⟨r,k,a1,a2,a3,a4,a5,b1,b2,b3,b4,b5,b6⟩,t,im,ex,ad⟩:=x
  simp only at hk q1 q2 q3 q6 qt qi qe c1
  obtain rfl:=hk
  exact rww3 r a1 a2 a3 a4 a5 b1 b2 b3 b4 b5 b6 n1 n2 n3 n4 _ _ _ _ f1 f2 f3 f4 _ _ _ q1 q2 q3
 ·have e:wdF x=wd4 x:=by unfold wdF; rw [hk]; rfl
  rw [e]
  unfold wd4
  obtain ⟨⟨r,k,a1,a2,a3,a4,a5,b1,b2,b3,b4,b5,b6⟩,t,im,ex,ad⟩:=x
  simp only at hk q1 q2 q3 q6 qt qi qe c1
  obtain rfl:=hk
  exact rww4 r a1 a2 a3 a4 a5 b1 b2 b3 b4 b5 b6 n1 n2 n3 n4 _ _ _ _ f1 f2 f3 f4 _ _ _ q1 q2 q3
 ·have e:wdF x=wd5 x:=by unfold wdF; rw [hk]; rfl
  rw [e]
  have q4:=ref_text_run x.l.addr (by omega)
  unfold wd5
  obtain ⟨⟨r,k,a1,a2,a3,a4,a5,b1,b2,b3,b4,b5,b6⟩,t,im,ex,ad⟩:=x
  simp only at hk q1 q2 q3 q6 qt qi qe c1 q4
  obtain rfl:=hk
  exact rww5 r a1 a2 a3 a4 a5 b1 b2 b3 b4 b5 b6 n1 n2 n3 n4 _ _ _ _ f1 f2 f3 f4 _ _ _ q1 q2 q3 _ q4
 ·have e:wdF x=wd6 x:=by unfold wdF; rw [hk]; rfl
  rw [e]
  unfold wd6
  obtain ⟨⟨r,k,a1,a2,a3,a4,a5,b1,b2,b3,b4,b5,b6⟩,t,im,ex,ad⟩:=x
  simp only at hk q1 q2 q3 q6 qt qi qe c1
  obtain rfl:=hk
  exact rww6 r a1 a2 a3 a4 a5 b1 b2 b3 b4 b5 b6 n1 n2 n3 n4 _ _ _ _ f1 f2 f3 f4 _ _ _ q1 q2 q3
 ·have e:wdF x=wd7 x:=by unfold wdF; rw [hk]; rfl
  rw [e]
  have had:x.ad≠[]:=fun h=>by
   unfold rtO okF at hr
   rw [hk] at hr
   simp only[Int.reduceEq,if_false,if_true,ok7,h] at hr
   simp [adO,rsF] at hr
  obtain rfl:n4=1:=c4.resolve_left had
  have q4:=wur_run x.ad f4 (by omega) hd
  unfold wd7
  obtain ⟨⟨r,k,a1,a2,a3,a4,a5,b1,b2,b3,b4,b5,b6⟩,t,im,ex,ad⟩:=x
  simp only at hk q1 q2 q3 q6 qt qi qe c1 q4
  obtain rfl:=hk
  exact rww7 r a1 a2 a3 a4 a5 b1 b2 b3 b4 b5 b6 n1 n2 n3 1 _ _ _ _ f1 f2 f3 f4 _ _ _ q1 q2 q3 _ q4
 ·have e:wdF x=wd8 x:=by unfold wdF; rw [hk]; rfl
  rw [e]
  unfold wd8
  obtain ⟨⟨r,k,a1,a2,a3,a4,a5,b1,b2,b3,b4,b5,b6⟩,t,im,ex,ad⟩:=x
  simp only at hk q1 q2 q3 q6 qt qi qe c1
  obtain rfl:=hk
  exact rww8 r a1 a2 a3 a4 a5 b1 b2 b3 b4 b5 b6 n1 n2 n3 n4 _ _ _ _ f1 f2 f3 f4 _ _ _ q1 q2 q3 _ _ qi qe
 ·have e:wdF x=wd9 x:=by unfold wdF; rw [hk]; rfl
  rw [e]
  have q4:=ref_ptx_run x.l.addr x.l.bits (by omega)
  unfold pfx at q4
  unfold wd9
  obtain ⟨⟨r,k,a1,a2,a3,a4,a5,b1,b2,b3,b4,b5,b6⟩,t,im,ex,ad⟩:=x
  simp only at hk q1 q2 q3 q6 qt qi qe c1 q4
  obtain rfl:=hk
  exact rww9 r a1 a2 a3 a4 a5 b1 b2 b3 b4 b5 b6 n1 n2 n3 n4 _ _ _ _ f1 f2 f3 f4 _ _ _ q1 q2 q3 _ q4
theorem was_read{x:LnF}(h:wasR x):rdE (wdF x)=0∧rdL (wdF x) x.l.row=x:=by
 obtain ⟨ws,r,he,ho,rfl⟩:=h
 obtain ⟨cw,h1,h2,h3,h4,-,-⟩:=can he ho
 rw [h1 r,rd_row (r:=r) he]
 exact⟨h2,h3 r⟩
theorem okW_len{w:List UInt8}(h:okW w=true):w.length≤300:=by
 unfold okW at h
 simp only[Bool.and_eq_true,decide_eq_true_eq] at h
 omega
theorem lnB_lnS{x:LnF}(h:lnB x):lnS x:=by
 have:=h.1
 exact⟨by omega,by omega,by omega,by omega⟩
theorem rs_len{l:List Int}{a b:Int}(h:rsF l a b=true):l.length≤16:=by
 unfold rsF at h
 simp only[Bool.and_eq_true,decide_eq_true_eq] at h
 exact h.2.2
theorem li_len{l:List Int}{b:Int}(h:liO l b=true):l.length≤16:=by
 unfold liO at h
 rw [Bool.or_eq_true,decide_eq_true_eq] at h
 rcases h with rfl | h
 ·simp
 ·exact rs_len h
theorem rt_len{x:LnF}(h:rtO x=true):x.t.length≤16∧x.im.length≤16∧x.ex.length≤16∧x.ad.length≤16:=by
 unfold rtO at h
 simp only[Bool.and_eq_true,decide_eq_true_eq] at h
 obtain ⟨⟨h1,-⟩,h2⟩:=h
 unfold okF at h1
 unfold usF at h2
 by_cases k1:x.l.kind=1
 ·simp only[if_pos k1] at h1 h2
  have e1:=congrArg (fun y=>y.t) h2
  have e2:=congrArg (fun y=>y.im) h2
  have e3:=congrArg (fun y=>y.ex) h2
  have e4:=congrArg (fun y=>y.ad) h2
  simp only[us1] at e1 e2 e3 e4
  simp only[ok1,Bool.and_eq_true,decide_eq_true_eq] at h1
  exact⟨by rw [← e1]; simp,by rw [← e2]; simp,by rw [← e3]; simp,by rw [← e4]; simp⟩
 by_cases k2:x.l.kind=2
 ·simp only[if_neg k1,if_pos k2] at h1 h2
  have e1:=congrArg (fun y=>y.t) h2
  have e2:=congrArg (fun y=>y.im) h2
  have e3:=congrArg (fun y=>y.ex) h2
  have e4:=congrArg (fun y=>y.ad) h2
  simp only[us2] at e1 e2 e3 e4
  simp only[ok2,Bool.and_eq_true,decide_eq_true_eq] at h1
  exact⟨li_len h1.1.2,by rw [← e2]; simp,by rw [← e3]; simp,by rw [← e4]; simp⟩
 by_cases k3:x.l.kind=3
 ·simp only[if_neg k1,if_neg k2,if_pos k3] at h1 h2
  have e1:=congrArg (fun y=>y.t) h2
  have e2:=congrArg (fun y=>y.im) h2
  have e3:=congrArg (fun y=>y.ex) h2
  have e4:=congrArg (fun y=>y.ad) h2
  simp only[us3] at e1 e2 e3 e4
  simp only[ok3,Bool.and_eq_true,decide_eq_true_eq] at h1
  exact⟨by rw [← e1]; simp,by rw [← e2]; simp,by rw [← e3]; simp,by rw [← e4]; simp⟩
 by_cases k4:x.l.kind=4
 ·simp only[if_neg k1,if_neg k2,if_neg k3,if_pos k4] at h1 h2
  have e1:=congrArg (fun y=>y.t) h2
  have e2:=congrArg (fun y=>y.im) h2
  have e3:=congrArg (fun y=>y.ex) h2
  have e4:=congrArg (fun y=>y.ad) h2
  simp only[us4] at e1 e2 e3 e4
  simp only[ok4,Bool.and_eq_true,decide_eq_true_eq] at h1
  exact⟨by rw [← e1]; simp,by rw [← e2]; simp,by rw [← e3]; simp,by rw [← e4]; simp⟩
 by_cases k5:x.l.kind=5
 ·simp only[if_neg k1,if_neg k2,if_neg k3,if_neg k4,if_pos k5] at h1 h2
  have e1:=congrArg (fun y=>y.t) h2
  have e2:=congrArg (fun y=>y.im) h2
  have e3:=congrArg (fun y=>y.ex) h2
  have e4:=congrArg (fun y=>y.ad) h2
  simp only[us5] at e1 e2 e3 e4
  simp only[ok5,Bool.and_eq_true,decide_eq_true_eq] at h1
  exact⟨by rw [← e1]; simp,by rw [← e2]; simp,by rw [← e3]; simp,by rw [← e4]; simp⟩
 by_cases k6:x.l.kind=6
 ·simp only[if_neg k1,if_neg k2,if_neg k3,if_neg k4,if_neg k5,if_pos k6] at h1 h2
  have e1:=congrArg (fun y=>y.t) h2
  have e2:=congrArg (fun y=>y.im) h2
  have e3:=congrArg (fun y=>y.ex) h2
  have e4:=congrArg (fun y=>y.ad) h2
  simp only[us6] at e1 e2 e3 e4
  simp only[ok6,Bool.and_eq_true,decide_eq_true_eq] at h1
  exact⟨by rw [← e1]; simp,by rw [← e2]; simp,by rw [← e3]; simp,by rw [← e4]; simp⟩
 by_cases k7:x.l.kind=7
 ·simp only[if_neg k1,if_neg k2,if_neg k3,if_neg k4,if_neg k5,if_neg k6,if_pos k7] at h1 h2
  have e1:=congrArg (fun y=>y.t) h2
  have e2:=congrArg (fun y=>y.im) h2
  have e3:=congrArg (fun y=>y.ex) h2
  have e4:=congrArg (fun y=>y.ad) h2
  simp only[us7] at e1 e2 e3 e4
  simp only[ok7,Bool.and_eq_true,decide_eq_true_eq] at h1
  exact⟨by rw [← e1]; simp,by rw [← e2]; simp,by rw [← e3]; simp,rs_len h1.2⟩
 by_cases k8:x.l.kind=8
 ·simp only[if_neg k1,if_neg k2,if_neg k3,if_neg k4,if_neg k5,if_neg k6,if_neg k7,if_pos k8] at h1 h2
  have e1:=congrArg (fun y=>y.t) h2
  have e2:=congrArg (fun y=>y.im) h2
  have e3:=congrArg (fun y=>y.ex) h2
  have e4:=congrArg (fun y=>y.ad) h2
  simp only[us8] at e1 e2 e3 e4
  simp only[ok8,Bool.and_eq_true,decide_eq_true_eq] at h1
  exact⟨by rw [← e1]; simp,li_len h1.1.2,li_len h1.2,by rw [← e4]; simp⟩
 by_cases k9:x.l.kind=9
 ·simp only[if_neg k1,if_neg k2,if_neg k3,if_neg k4,if_neg k5,if_neg k6,if_neg k7,if_neg k8,if_pos k9] at h1 h2
  have e1:=congrArg (fun y=>y.t) h2
  have e2:=congrArg (fun y=>y.im) h2
  have e3:=congrArg (fun y=>y.ex) h2
  have e4:=congrArg (fun y=>y.ad) h2
  simp only[us9] at e1 e2 e3 e4
  simp only[ok9,Bool.and_eq_true,decide_eq_true_eq] at h1
  exact⟨by rw [← e1]; simp,by rw [← e2]; simp,by rw [← e3]; simp,by rw [← e4]; simp⟩
 simp only[if_neg k1,if_neg k2,if_neg k3,if_neg k4,if_neg k5,if_neg k6,if_neg k7,if_neg k8,if_neg k9] at h1
 cases h1
theorem rright_run{v:AV}{x:LnF}(hv:isLn v x)(h:wasR x):Run Tryz.prog 145 [v] (.bool true):=by
 obtain ⟨hB,hr⟩:=wasR_B h
 obtain ⟨he,hx⟩:=was_read h
 obtain ⟨l1,l2,l3,l4⟩:=rt_len hr
 have hall:=(wasR_can h).2.2.2
 have q1:=run_frz (rww_run hv hB hr)
 have q2:=rsread_run (wdF x) false x.l.row (by have:=wdF_len x; omega) (fun w hw=>by have:=okW_len (List.all_eq_true.1 hall w hw); omega)
 rw [he,rdT_z,hx] at q2
 have q3:=rsame_run hv (isLn_V x) (lnB_lnS hB) (lnB_lnS hB)
 rw [decide_eq_true rfl] at q3
 obtain ⟨n1,f1,n2,f2,n3,f3,n4,f4,rfl,c1,c2,c3,c4⟩:=hv
 obtain ⟨m1,g1,m2,g2,m3,g3,m4,g4,hv,-⟩:=isLn_V x
 rw [hv] at q2 q3
 clear hv
 have hlt:(x.t.map (AV.int .i64)).length=x.t.length:=by simp
 have hli:(x.im.map (AV.int .i64)).length=x.im.length:=by simp
 have hle:(x.ex.map (AV.int .i64)).length=x.ex.length:=by simp
 have hla:(x.ad.map (AV.int .u32)).length=x.ad.length:=by simp
 generalize (wdF x).map AV.str=ww at *
 simp only[frz,frzA,frzC] at q1
 clear he hx hB hr hall h
 obtain ⟨⟨r,k,a1,a2,a3,a4,a5,b1,b2,b3,b4,b5,b6⟩,t,im,ex,ad⟩:=x
 simp only at *
 generalize t.map (AV.int .i64)=s1 at *
 generalize im.map (AV.int .i64)=s2 at *
 generalize ex.map (AV.int .i64)=s3 at *
 generalize ad.map (AV.int .u32)=s4 at *
 unfold lnA at *
 refine Tryz.run145 (by simp) ?_
 unfold Tryz.c145
 simp (disch:=try exact dq) only[↓pvd,pz,sC,List.map,seval,hlt,hli,hle,hla]
 refine aD q1 rfl rfl (fun _=>rfl) ?_
 refine wZ ?_
 refine aD q2 rfl rfl (fun _=>rfl) ?_
 refine wZ ?_
 refine aC q3 rfl rfl ?_
 refine wZ ?_
 exact eZ
theorem rpwords_run{v:AV}{x:LnF}(hv:isLn v x)(h:wasR x):Run Tryz.prog 119 [v] (.own 1 9 ((wdF x).map .str)):=by
 obtain ⟨hB,hr⟩:=wasR_B h
 have q1:=rright_run hv h
 have q2:=rww_run hv hB hr
 obtain ⟨n1,f1,n2,f2,n3,f3,n4,f4,rfl,c1,c2,c3,c4⟩:=hv
 unfold lnA at *
 have hl:((wdF x).map AV.str).length =(wdF x).length:=by simp
 refine Tryz.run119 (by simp) ?_
 unfold Tryz.c119
 refine wZ ?_
 refine aC q1 rfl rfl ?_
 refine wZ ?_
 refine aC q2 rfl rfl ?_
 simp (disch:=try exact dq) only[↓pvd,pz,sC,List.map,seval,hl]
 (refine Ends_rq [[.own 1 9]] ?_; simp (disch:=try exact dq) only[↓pvd,pz,sC,List.map,seval,mapO_map str_nr,rows_map str_nr,hl]; exact⟨_,rfl,rfl,rfl⟩)
theorem rpline_run{v:AV}{x:LnF}(hv:isLn v x)(h:wasR x)(hj:(jnL x).length≤100000):Run Tryz.prog 87 [v] (.tup [.str (jnL x),.int .i64 0]):=by
 have q1:=run_frz (rpwords_run hv h)
 have q2:=rjoin_run (wdF x) false (by have:=wdF_len x; omega) (by unfold jnL at hj; omega)
 have hn:¬((wdF x).length:Int)=0:=fun h0=>wdF_ne x (List.eq_nil_of_length_eq_zero (by omega))
 have hl:((wdF x).map AV.str).length =(wdF x).length:=by simp
 change Run _ _ _ (.str (jnL x)) at q2
 obtain ⟨n1,f1,n2,f2,n3,f3,n4,f4,rfl,c1,c2,c3,c4⟩:=hv
 unfold lnA at *
 simp only[frz,frzA,frzC] at q1
 generalize (wdF x).map AV.str=ww at *
 generalize jnL x=j at *
 refine Tryz.run87 (by simp) ?_
 unfold Tryz.c87
 refine wZ ?_
 refine aC q1 rfl rfl ?_
 simp (disch:=try exact dq) only[↓pvd,pz,sC,List.map,seval,hl,hn]
 refine aC q2 rfl rfl ?_
 refine wZ ?_
 exact eZ
end Go.Proofs
namespace Go.Proofs
open Go.Pv
def rowV(v:AV)(r:Int):AV:=match v with
 | .agg (_ :: cs)=>.agg (.int .i64 r :: cs)
 | v=>v
end Go.Proofs
namespace Go.Proofs
open Go.Pv
open Nm (spl swV okW okB strR words_run wordsR rows_big rows_run swF_len swF_num swF rwords_run rrows_run rrows_big)
theorem rtread_run(b:List UInt8)(f:Bool)(hb:b.length≤100000):Run Tryz.prog 9 [.sl 1 (bys b) f] (readXA (readX b)):=by
 refine Tryz.run9 (by simp) ?_
 unfold Tryz.c9 readX
 by_cases h20:b.length≤20000
 case neg =>
  have q:=run_frz (rrows_big b f hb h20)
  simp only[frz,frzA,frzC,List.map] at q
  rw [if_pos (.inl (by omega))]
  unfold readXA
  refine wZ ?_
  refine aC q rfl rfl ?_
  refine wZ ?_
  exact eZ
 have q:=run_frz (rrows_run b f hb h20)
 by_cases h4:400 <(spl b).length
 ·rw [if_pos h4] at q
  simp only[frz,frzA,frzC,List.map] at q
  rw [if_pos (.inr h4)]
  unfold readXA
  refine wZ ?_
  refine aC q rfl rfl ?_
  refine wZ ?_
  exact eZ
 rw [if_neg h4] at q
 simp only[frz,frzA,frzC,List.map] at q
 rw [if_neg (by omega)]
 have hsm:=spl_mem b
 generalize spl b=rows at *
 refine wZ ?_
 refine aC q rfl rfl ?_
 refine wZ ?_
 refine aw_loop (fun a:Nat × List LnF=>⟨[(5,.sl 1 (rows.map .str) false),(7,.vec 0 17 0 a.2.length),(8,.int .i64 a.1)],[some ⟨39,a.2.map lnV,true⟩]⟩) (fun a=>a.1≤rows.length∧a.2.length≤a.1∧rdX rows a.1=.inr a.2) (fun a=>rows.length - a.1) (0,[]) ?_ ⟨by simp,by simp,rfl⟩ ?_
 ·simp (disch:=try exact dq) only[↓pvd,pz,sC,List.map,seval,true_and,List.length_map]
 rintro ⟨k,acc⟩ ⟨hk,hal,hrd⟩
 dsimp only at hk hal hrd ⊢
 unfold Tryz.c9b0
 have hln:(acc.map lnV).length=acc.length:=by simp
 have hrm:(rows.map AV.str).length=rows.length:=by simp
 by_cases hx:k < rows.length
 ·have hgi:(rows.map AV.str)[k]?=some (.str rows[k]!):=mG hx
  have hrl:=hsm _ (get_mem hx)
  have herr:=rdX_err rows k acc
  have hnx:=rdX_s rows k acc hrd
  have q1:=run_frz (rwords_run rows[k]! (by omega))
  have hwl:=swF_len rows[k]! rows[k]!.length (Nat.le_refl _) (rows[k]!.length+1) 0 0 [] (by simp)
  change ∀ x∈swV rows[k]!,_ at hwl
  have hwn:=swF_num rows[k]! (rows[k]!.length+1) 0 0 []
  change (swV rows[k]!).length≤_ at hwn
  simp only[List.length_nil] at hwn
  unfold stepX at herr hnx
  generalize rows.map AV.str=rv at *
  by_cases ho:(swV rows[k]!).all okW=true
  ·rw [if_pos ho] at q1
   simp only[if_pos ho] at herr hnx
   simp only[frz,frzA,frzC,List.map_cons,List.map_nil] at q1
   by_cases hn:swV rows[k]! = []
   ·rw [hn] at q1
    simp only[if_pos hn] at hnx
    simp only[List.map_nil] at q1
    simp (disch:=try exact dq) only[↓pvd,pz,sC,List.map,seval,hgi,hrm]
    refine aC q1 rfl rfl ?_
    simp (disch:=try exact dq) only[↓pvd,pz,sC,List.map,seval,iM ln_pl,rM ln_pl]
    refine⟨(k+1,acc),rfl,⟨by dsimp only; omega,by dsimp only; omega,hnx⟩,by dsimp only; omega⟩
   ·simp only[if_neg hn] at herr hnx
    have hnl:=List.length_pos_iff.2 hn
    have q2:=rsread_run (swV rows[k]!) false ((k:Int)+1) (by omega) (fun w hw=>by
     have:=List.all_eq_true.1 ho w hw
     unfold okW at this
     simp only[Bool.and_eq_true,decide_eq_true_eq] at this
     omega)
    have hwl1:((swV rows[k]!).map AV.str).length =(swV rows[k]!).length:=by simp
    generalize swV rows[k]! = ws at *
    have hw0:¬(ws.length:Int)=0:=by omega
    by_cases he:rdE ws=0
    ·simp only[if_pos he] at hnx
     rw [he,rdT_z] at q2
     obtain ⟨n1,f1,n2,f2,n3,f3,n4,f4,hv,-⟩:=isLn_V (rdL ws ((k:Int)+1))
     rw [hv] at q2
     generalize rdL ws ((k:Int)+1)=x at *
     have hm:acc.map lnV ++ [lnV x] =(acc ++ [x]).map lnV:=by simp
     rw [hv] at hm
     have hml:acc.length+1 =(acc ++ [x]).length:=by simp
     obtain ⟨⟨xr,xk,a1,a2,a3,a4,a5,b1,b2,b3,b4,b5,b6⟩,xt,xi,xe,xa⟩:=x
     simp only at q2 hm
     generalize xt.map (AV.int .i64)=s1 at *
     generalize xi.map (AV.int .i64)=s2 at *
     generalize xe.map (AV.int .i64)=s3 at *
     generalize xa.map (AV.int .u32)=s4 at *
     generalize (⟨⟨xr,xk,a1,a2,a3,a4,a5,b1,b2,b3,b4,b5,b6⟩,xt,xi,xe,xa⟩:LnF)=x at *
     unfold lnA at q2 hm
     generalize ws.map AV.str=row at *
     simp (disch:=try exact dq) only[↓pvd,pz,sC,List.map,seval,hgi,hrm]
     refine aC q1 rfl rfl ?_
     simp (disch:=try exact dq) only[↓pvd,pz,sC,List.map,seval,hwl1,hw0,iM ln_pl,rM ln_pl]
     refine aC q2 rfl rfl ?_
     simp (disch:=try exact dq) only[↓pvd,pz,sC,List.map,seval,iM ln_pl,rM ln_pl,hm,hln]
     refine⟨(k+1,acc ++ [x]),?_,⟨by dsimp only; omega,by simp; omega,hnx⟩,by dsimp only; omega⟩
     dsimp only
     rw [hml]
     rfl
    ·simp only[if_neg he] at herr
     rw [herr _ hrd hx rfl]
     unfold readXA
     rw [rdT_e he] at q2
     unfold lnA lnZ at q2
     generalize rdE ws=e at *
     generalize ws.map AV.str=row at *
     simp (disch:=try exact dq) only[↓pvd,pz,sC,List.map,seval,hgi,hrm]
     refine aC q1 rfl rfl ?_
     simp (disch:=try exact dq) only[↓pvd,pz,sC,List.map,seval,hwl1,hw0,iM ln_pl,rM ln_pl]
     refine aC q2 rfl rfl ?_
     simp (disch:=try exact dq) only[↓pvd,pz,sC,List.map,seval,iM ln_pl,rM ln_pl,he]
     exact eZ
  ·rw [if_neg ho] at q1
   simp only[if_neg ho] at herr
   rw [herr 20 hrd hx rfl]
   unfold readXA
   simp only[frz,frzA,frzC,List.map_cons,List.map_nil] at q1
   simp (disch:=try exact dq) only[↓pvd,pz,sC,List.map,seval,hgi,hrm]
   refine aC q1 rfl rfl ?_
   simp (disch:=try exact dq) only[↓pvd,pz,sC,List.map,seval,iM ln_pl,rM ln_pl]
   exact eZ
 ·obtain rfl:k=rows.length:=by omega
  rw [hrd]
  unfold readXA
  generalize rows.map AV.str=rv at *
  simp (disch:=try exact dq) only[↓pvd,pz,sC,List.map,seval,hrm]
  (refine Ends_rq [[.own 17 39],[.snap],[.snap]] ?_; simp (disch:=try exact dq) only[↓pvd,pz,sC,List.map,seval,mapO_map ln_nr,rows_map ln_nr,List.length_map]; exact⟨_,rfl,rfl,rfl⟩)
end Go.Proofs
namespace Go.Proofs
open Go.Pv
open Nm (spl)
theorem rq_err{b:List UInt8}{f:Bool}{r e:Int}(hb:b.length≤100000)(h:readX b=.inl (r,e)):Run Tryz.prog 9 [.sl 1 (bys b) f] (.tup [.sl 0 [] true,.int .i64 r,.int .i64 e]):=by
 have q:=run_frz (rtread_run b f hb)
 rw [h] at q
 exact q
theorem rq_ok{b:List UInt8}{f:Bool}{l:List LnF}(hb:b.length≤100000)(h:readX b=.inr l):Run Tryz.prog 9 [.sl 1 (bys b) f] (.tup [.sl 17 (l.map lnV) false,.int .i64 0,.int .i64 0]):=by
 have q:=run_frz (rtread_run b f hb)
 rw [h] at q
 exact q
end Go.Proofs
namespace Go.Proofs
open Go.Pv
open Nm (spl swV okW)
theorem sumW_le{m:Nat}:∀ ws:List (List UInt8),(∀ w∈ws,w.length≤m)→sumW ws ≤(m+1) * ws.length
 | [],_=>by simp [sumW]
 | w :: ws,h=>by
  have ih:=sumW_le ws (fun x hx=>h x (List.mem_cons_of_mem _ hx))
  have h0:=h w (by simp)
  unfold sumW at *
  simp only[List.map_cons,List.sum_cons,List.length_cons,Nat.mul_add]
  omega
theorem jn_len{x:LnF}(h:wasR x):(jnL x).length≤3000:=by
 have hall:=(wasR_can h).2.2.2
 have h1:=join_len (wdF x) (wdF_ne x)
 have h2:=sumW_le (m:=300) (wdF x) (fun w hw=>okW_len (List.all_eq_true.1 hall w hw))
 have h3:=wdF_len x
 unfold jnL
 omega
noncomputable def cfX(b:List UInt8):Int ⊕ List (List UInt8):=match readX b with
 | .inl x=>.inl x.2
 | .inr l=>.inr (l.map jnL)
def cfA:Int ⊕ List (List UInt8)→AV
 | .inl e=>.tup [.sl 0 [] true,.int .i64 e]
 | .inr l=>.tup [.own 1 9 (l.map .str),.int .i64 0]
theorem stepX_e{i:Nat}{r:List UInt8}{acc:List LnF}{e:Int}(h:stepX i r acc=.inl e):e≠0:=by
 unfold stepX at h
 split at h
 ·split at h
  ·cases h
  ·split at h
   ·cases h
   ·cases h; assumption
 ·cases h; decide
theorem rdX_e(rows:List (List UInt8)):∀(n:Nat) (r e:Int),rdX rows n=.inl (r,e)→e≠0
 | 0,r,e,h=>by rw [rdX] at h; cases h
 | n+1,r,e,h=>by
  cases hn:rdX rows n with
  | inl x=>rw [rdX,hn] at h; cases h; exact rdX_e rows n r e hn
  | inr acc =>
   rw [rdX_s rows n acc hn] at h
   cases hs:stepX n rows[n]! acc with
   | inl e'=>rw [hs] at h; cases h; exact stepX_e hs
   | inr acc'=>rw [hs] at h; cases h
theorem readX_e{b:List UInt8}{r e:Int}(h:readX b=.inl (r,e)):e≠0:=by
 unfold readX at h
 split at h
 ·cases h; decide
 ·exact rdX_e _ _ _ _ h
theorem readX_w{b:List UInt8}{l:List LnF}(h:readX b=.inr l):(∀ y∈l,wasR y)∧l.length≤400:=by
 by_cases hbig:20000 < b.length∨400 <(spl b).length
 ·rw [readX_big hbig] at h; cases h
 ·rw [readX_small hbig] at h
  have:=bnd_len (rdR_bound _ _) h
  exact⟨good_R (rdR_good _ _) h,by omega⟩
theorem jl_snoc{l:List LnF}{k:Nat}(h:k < l.length):((l.take k).map jnL).map AV.str ++ [.str (jnL l[k]!)] =((l.take (k+1)).map jnL).map AV.str:=by
 rw [take_snoc h]; simp
theorem rcfg_run(b:List UInt8)(f:Bool)(hb:b.length≤100000):Run Tryz.prog 53 [.sl 1 (bys b) f] (cfA (cfX b)):=by
 refine Tryz.run53 (by simp) ?_
 unfold Tryz.c53 cfX
 cases hr:readX b with
 | inl x =>
  obtain ⟨r,e⟩:=x
  have q1:=rq_err (f:=f) hb hr
  have he:=readX_e hr
  dsimp only
  unfold cfA
  clear hr
  generalize bys b=bs at *
  refine wZ ?_
  refine aC q1 rfl rfl ?_
  simp (disch:=try exact dq) only[↓pvd,pz,sC,List.map,seval,he]
  exact eZ
 | inr l =>
  have q1:=rq_ok (f:=f) hb hr
  obtain ⟨hw,hl4⟩:=readX_w hr
  dsimp only
  unfold cfA
  clear hr
  generalize bys b=bs at *
  have hll:=lns_ln l
  refine wZ ?_
  refine aC q1 rfl rfl ?_
  refine wZ ?_
  refine aw_loop (fun k:Nat=>⟨[(4,.sl 17 (l.map lnV) false),(7,.vec 0 1 0 k),(8,.int .i64 k)],[some ⟨9,((l.take k).map jnL).map .str,true⟩]⟩) (fun k=>k≤l.length) (fun k=>l.length - k) 0 ?_ (by omega) ?_
  ·simp (disch:=try exact dq) only[↓pvd,pz,sC,List.map,seval,hll]
   try rfl
  intro k hk
  unfold Tryz.c53b0
  have hjl:(((l.take k).map jnL).map AV.str).length=k:=by simp; omega
  by_cases hx:k < l.length
  ·have hg1:(l.map lnV)[k]?=some (lnV l[k]!):=mG hx
   have hxw:=hw l[k]! (get_mem hx)
   have q:=rpline_run (isLn_V l[k]!) hxw (by have:=jn_len hxw; omega)
   have hap:=jl_snoc hx
   obtain ⟨n1,f1,n2,f2,n3,f3,n4,f4,hv,-⟩:=isLn_V l[k]!
   rw [hv] at q hg1
   generalize jnL l[k]! = J at *
   generalize l[k]! = x at *
   obtain ⟨⟨xr,xk,a1,a2,a3,a4,a5,b1,b2,b3,b4,b5,b6⟩,xt,xi,xe,xa⟩:=x
   simp only at q hg1
   generalize xt.map (AV.int .i64)=s1 at *
   generalize xi.map (AV.int .i64)=s2 at *
   generalize xe.map (AV.int .i64)=s3 at *
   generalize xa.map (AV.int .u32)=s4 at *
   unfold lnA at q hg1
   obtain ⟨P1,hP1⟩:∃ P1,(l.take (k+1)).map jnL=P1:=⟨_,rfl⟩
   rw [hP1] at hap
   simp (disch:=try exact dq) only[↓pvd,pz,sC,List.map,seval,hg1,hll]
   refine aC q rfl rfl ?_
   simp (disch:=try exact dq) only[↓pvd,pz,sC,List.map,seval,hll,hap,hjl,iM sP,rM sP]
   exact⟨k+1,by rw [hP1]; rfl,hx,by omega⟩
  ·obtain rfl:k=l.length:=by omega
   rw [List.take_of_length_le (Nat.le_refl _)] at hjl ⊢
   simp (disch:=try exact dq) only[↓pvd,pz,sC,List.map,seval,hll]
   (refine Ends_rq [[.own 1 9],[.snap]] ?_; simp (disch:=try exact dq) only[↓pvd,pz,sC,List.map,seval,mapO_map str_nr,rows_map str_nr,hjl]; exact⟨_,rfl,rfl,rfl⟩)
end Go.Proofs
namespace Go.Proofs
open Go.Pv
open Nm (spl swV okW)
theorem scfg_run(b:List UInt8)(f:Bool)(hb:b.length≤100000):Run Tryz.prog 52 [.sl 1 (bys b) f] (cfA (cfX b)):=by
 refine Tryz.run52 (by simp) ?_
 unfold Tryz.c52 cfX
 cases hr:readX b with
 | inl x =>
  obtain ⟨r,e⟩:=x
  have q1:=xq_err (f:=f) hb hr
  have he:=readX_e hr
  dsimp only
  unfold cfA
  clear hr
  generalize bys b=bs at *
  refine wZ ?_
  refine aC q1 rfl rfl ?_
  simp (disch:=try exact dq) only[↓pvd,pz,sC,List.map,seval,he]
  exact eZ
 | inr l =>
  have q1:=xq_ok (f:=f) hb hr
  obtain ⟨hw,hl4⟩:=readX_w hr
  dsimp only
  unfold cfA
  clear hr
  generalize bys b=bs at *
  have hll:=lns_ln l
  refine wZ ?_
  refine aC q1 rfl rfl ?_
  refine wZ ?_
  refine aw_loop (fun k:Nat=>⟨[(7,.vec 0 1 0 k),(21,.sl 17 (l.map lnV) false),(22,.int .i64 l.length),(23,.int .i64 k)],[some ⟨9,((l.take k).map jnL).map .str,true⟩]⟩) (fun k=>k≤l.length) (fun k=>l.length - k) 0 ?_ (by omega) ?_
  ·simp (disch:=try exact dq) only[↓pvd,pz,sC,List.map,seval,hll]
   try rfl
  intro k hk
  unfold Tryz.c52b0
  have hjl:(((l.take k).map jnL).map AV.str).length=k:=by simp; omega
  by_cases hx:k < l.length
  ·have hg1:(l.map lnV)[k]?=some (lnV l[k]!):=mG hx
   have hxw:=hw l[k]! (get_mem hx)
   have q:=pline_run (isLn_V l[k]!) (wasR_B hxw).1 (wasR_B hxw).2 (by have:=jn_len hxw; omega)
   have hap:=jl_snoc hx
   obtain ⟨n1,f1,n2,f2,n3,f3,n4,f4,hv,-⟩:=isLn_V l[k]!
   rw [hv] at q hg1
   generalize jnL l[k]! = J at *
   generalize l[k]! = x at *
   obtain ⟨⟨xr,xk,a1,a2,a3,a4,a5,b1,b2,b3,b4,b5,b6⟩,xt,xi,xe,xa⟩:=x
   simp only at q hg1
   generalize xt.map (AV.int .i64)=s1 at *
   generalize xi.map (AV.int .i64)=s2 at *
   generalize xe.map (AV.int .i64)=s3 at *
   generalize xa.map (AV.int .u32)=s4 at *
   unfold lnA at q hg1
   obtain ⟨P1,hP1⟩:∃ P1,(l.take (k+1)).map jnL=P1:=⟨_,rfl⟩
   rw [hP1] at hap
   simp (disch:=try exact dq) only[↓pvd,pz,sC,List.map,seval,hg1,hll]
   refine aC q rfl rfl ?_
   simp (disch:=try exact dq) only[↓pvd,pz,sC,List.map,seval,hll,hap,hjl,iM sP,rM sP]
   exact⟨k+1,by rw [hP1]; rfl,hx,by omega⟩
  ·obtain rfl:k=l.length:=by omega
   rw [List.take_of_length_le (Nat.le_refl _)] at hjl ⊢
   simp (disch:=try exact dq) only[↓pvd,pz,sC,List.map,seval,hll]
   (refine Ends_rq [[.own 1 9],[.snap]] ?_; simp (disch:=try exact dq) only[↓pvd,pz,sC,List.map,seval,mapO_map str_nr,rows_map str_nr,hjl]; exact⟨_,rfl,rfl,rfl⟩)
end Go.Proofs
/-
 Lists of rows: what two have in common,the edits between them,and that no edits are fewer. (No program in sight.)
-/
namespace Go.Pv.Df
variable {α:Type}
def lcRow[DecidableEq α](x:α)(f:List α→Nat):List α→Nat
 | []=>0
 | y :: ys=>if x=y then f ys+1 else max (f (y :: ys)) (lcRow x f ys)
def lc[DecidableEq α]:List α→List α→Nat
 | []=>fun _=>0
 | x :: xs=>lcRow x (lc xs)
theorem lc_nil[DecidableEq α](ys:List α):lc [] ys=0:=rfl
theorem lc_nil'[DecidableEq α]:∀(xs:List α),lc xs []=0
 | []=>rfl
 | _ :: _=>rfl
theorem lc_cons[DecidableEq α](x y:α)(xs ys:List α):lc (x :: xs) (y :: ys)=if x=y then lc xs ys+1 else max (lc xs (y :: ys)) (lc (x :: xs) ys):=rfl
theorem sub_tail{z x:α}{s xs:List α}(h:(z :: s).Sublist (x :: xs)):s.Sublist xs:=by
 cases h with
 | cons _ h=>exact(List.sublist_cons_self z s).trans h
 | cons_cons _ h=>exact h
theorem lc_up[DecidableEq α]:∀(n:Nat) (a b s:List α),a.length+b.length≤n→s.Sublist a→s.Sublist b→s.length≤lc a b
 | n,[],b,s,_,h1,_=>by
  have:=List.sublist_nil.1 h1
  subst this
  simp
 | n,x :: xs,[],s,_,_,h2=>by
  have:=List.sublist_nil.1 h2
  subst this
  simp
 | 0,x :: xs,y :: ys,s,hn,_,_=>by simp at hn
 | n+1,x :: xs,y :: ys,s,hn,h1,h2=>by
  simp only[List.length_cons] at hn
  rw [lc_cons]
  by_cases e:x=y
  ·rw [if_pos e]
   cases s with
   | nil=>simp
   | cons z s =>
    have:=lc_up n xs ys s (by omega) (sub_tail h1) (sub_tail h2)
    simp only[List.length_cons]; omega
  ·rw [if_neg e]
   cases h1 with
   | cons _ h1 =>
    have:=lc_up n xs (y :: ys) s (by simp only[List.length_cons]; omega) h1 h2
    omega
   | cons_cons _ h1 =>
    cases h2 with
    | cons _ h2 =>
     have:=lc_up n (x :: xs) ys _ (by simp only[List.length_cons]; omega) (h1.cons_cons x) h2
     omega
    | cons_cons _ h2=>exact absurd rfl e
theorem lc_low[DecidableEq α]:∀(n:Nat) (a b:List α),a.length+b.length≤n→∃ s:List α,s.Sublist a∧s.Sublist b∧s.length=lc a b
 | n,[],b,_=>⟨[],List.nil_sublist _,List.nil_sublist _,rfl⟩
 | n,x :: xs,[],_=>⟨[],List.nil_sublist _,List.nil_sublist _,rfl⟩
 | 0,x :: xs,y :: ys,hn=>by simp at hn
 | n+1,x :: xs,y :: ys,hn=>by
  simp only[List.length_cons] at hn
  rw [lc_cons]
  by_cases e:x=y
  ·rw [if_pos e]
   obtain ⟨s,h1,h2,h3⟩:=lc_low n xs ys (by omega)
   subst e
   exact⟨x :: s,h1.cons_cons x,h2.cons_cons x,by simp [h3]⟩
  ·rw [if_neg e]
   obtain ⟨s,h1,h2,h3⟩:=lc_low n xs (y :: ys) (by simp only[List.length_cons]; omega)
   obtain ⟨t,k1,k2,k3⟩:=lc_low n (x :: xs) ys (by simp only[List.length_cons]; omega)
   by_cases hm:lc (x :: xs) ys≤lc xs (y :: ys)
   ·exact⟨s,h1.cons x,h2,by omega⟩
   ·exact⟨t,k1,k2.cons y,by omega⟩
theorem lc_rev_le[DecidableEq α](a b:List α):lc a.reverse b.reverse≤lc a b:=by
 obtain ⟨s,h1,h2,h3⟩:=lc_low _ a.reverse b.reverse (Nat.le_refl _)
 have k1:s.reverse.Sublist a:=by have:=List.reverse_sublist.2 h1; rwa [List.reverse_reverse] at this
 have k2:s.reverse.Sublist b:=by have:=List.reverse_sublist.2 h2; rwa [List.reverse_reverse] at this
 have:=lc_up _ a b s.reverse (Nat.le_refl _) k1 k2
 rw [List.length_reverse] at this
 omega
theorem lc_rev[DecidableEq α](a b:List α):lc a.reverse b.reverse=lc a b:=by
 have h1:=lc_rev_le a b
 have h2:=lc_rev_le a.reverse b.reverse
 rw [List.reverse_reverse,List.reverse_reverse] at h2
 omega
def ed[DecidableEq α]:List α→List α→List (Int × α)
 | [],[]=>[]
 | x :: xs,[]=>(1,x) :: ed xs []
 | [],y :: ys=>(2,y) :: ed [] ys
 | x :: xs,y :: ys=>if x=y then(0,x) :: ed xs ys else if lc (x :: xs) ys≤lc xs (y :: ys) then(1,x) :: ed xs (y :: ys) else(2,y) :: ed (x :: xs) ys
termination_by a b=>a.length+b.length
def cnt(l:List (Int × α)):Nat:=(l.filter fun e=>decide (e.1≠0)).length
theorem ed_len[DecidableEq α]:∀(n:Nat) (a b:List α),a.length+b.length≤n →(ed a b).length≤a.length+b.length
 | n,[],[],_=>by simp [ed]
 | 0,x :: xs,b,hn=>by simp at hn
 | 0,[],y :: ys,hn=>by simp at hn
 | n+1,x :: xs,[],hn=>by
  have ih:=ed_len n xs [] (by simp at hn ⊢; omega)
  rw [ed]; simp only[List.length_cons,List.length_nil] at ih ⊢; omega
 | n+1,[],y :: ys,hn=>by
  have ih:=ed_len n [] ys (by simp at hn ⊢; omega)
  rw [ed]; simp only[List.length_cons,List.length_nil] at ih ⊢; omega
 | n+1,x :: xs,y :: ys,hn=>by
  simp only[List.length_cons] at hn
  rw [ed]
  split
  ·have ih:=ed_len n xs ys (by omega)
   simp only[List.length_cons]; omega
  ·split
   ·have ih:=ed_len n xs (y :: ys) (by simp only[List.length_cons]; omega)
    simp only[List.length_cons] at ih ⊢; omega
   ·have ih:=ed_len n (x :: xs) ys (by simp only[List.length_cons]; omega)
    simp only[List.length_cons] at ih ⊢; omega
def ap[DecidableEq α]:List (Int × α)→List α→Option (List α)
 | [],[]=>some []
 | [],_ :: _=>none
 | (k,x) :: l,a =>
  if k=2 then(ap l a).map (x :: ·) else
  if k=0∨k=1 then
   match a with
   | []=>none
   | y :: a=>if y=x then(if k=0 then(ap l a).map (x :: ·) else ap l a) else none
  else none
end Go.Pv.Df
