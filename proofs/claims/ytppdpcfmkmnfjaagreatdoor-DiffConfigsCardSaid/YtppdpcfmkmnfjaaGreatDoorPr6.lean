/- The proofs of what the functions of this seat do. -/
import Derived.Test.YtppdpcfmkmnfjaaGreatDoorPr5
set_option linter.unusedSimpArgs false
set_option linter.unusedVariables false
set_option maxHeartbeats 2000000
set_option maxRecDepth 20000
set_option maxHeartbeats 16000000
namespace Go.Proofs
open Go.Pv
def idF(v:Int):List Int→Nat→Int
 | [],_=>-1
 | x :: r,k=>if v=x then k else idF v r (k+1)
theorem idF_mem(v:Int):∀(l:List Int) (k:Nat),decide (0≤idF v l k)=decide (v∈l)
 | [],k=>by simp [idF]
 | x :: r,k=>by
  rw [idF]
  by_cases h:v=x
  ·rw [if_pos h]; simp [h]
  ·rw [if_neg h,idF_mem v r (k+1)]; simp [h]
theorem index_run(l:List Int)(v:Int)(n:Nat)(f:Bool)(hn:l=[]∨n=1)(hl:l.length≤100000):Run Tryz.prog 126 [.sl n (l.map (.int .i64)) f,.int .i64 v] (.int .i64 (idF v l 0)):=by
 refine Tryz.run126 (by simp) ?_
 unfold Tryz.c126
 simp (disch:=try exact dq) only[↓pvd,pz,sC,List.map,seval,List.length_map]
 refine aw_loop (fun k:Nat=>⟨[(0,.sl n (l.map (.int .i64)) f),(1,.int .i64 v),(7,.int .i64 l.length),(8,.int .i64 k)],[]⟩) (fun k=>k≤l.length∧idF v l 0=idF v (l.drop k) k) (fun k=>l.length - k) 0 ?_ ⟨by omega,by simp⟩ ?_
 ·refine vZ ?_
  try first|rfl|trivial
 rintro k ⟨hk,hi⟩
 unfold Tryz.c126b0
 by_cases hx:k < l.length
 ·obtain rfl:n=1:=hn.resolve_left (by rintro rfl; simp at hx)
  have hgi:(l.map (AV.int .i64))[k]?=some (.int .i64 l[k]!):=mG hx
  have hd:l.drop k=l[k]! :: l.drop (k+1):=by rw [getElem!_pos l k hx]; exact List.drop_eq_getElem_cons hx
  rw [hd,idF] at hi
  by_cases h:v=l[k]!
  ·rw [if_pos h] at hi
   rw [hi]
   repeat' (first | (simp (disch:=try exact dq) only[↓pvd,pz,sC,List.map,seval,hgi,List.length_map,still]) | (with_reducible first|refine cB (fun _=>?_) (fun _=>?_)|refine gB (fun _=>?_) (fun _=>?_)|refine hB (fun _=>?_) (fun _=>?_)|refine cA ?_ ?_) | exact eZ | fail)
  ·rw [if_neg h] at hi
   repeat' (first | (simp (disch:=try exact dq) only[↓pvd,pz,sC,List.map,seval,hgi,List.length_map,still]) | (with_reducible first|refine cB (fun _=>?_) (fun _=>?_)|refine gB (fun _=>?_) (fun _=>?_)|refine hB (fun _=>?_) (fun _=>?_)|refine cA ?_ ?_) | exact eZ | fail)
   exact⟨k+1,rfl,⟨hx,hi⟩,by omega⟩
 ·have e:k=l.length:=by omega
  rw [e,List.drop_length,idF] at hi
  rw [hi]
  repeat' (first | (simp (disch:=try exact dq) only[↓pvd,pz,sC,List.map,seval,List.length_map,still]) | (with_reducible first|refine cB (fun _=>?_) (fun _=>?_)|refine gB (fun _=>?_) (fun _=>?_)|refine hB (fun _=>?_) (fun _=>?_)|refine cA ?_ ?_) | exact eZ | fail)
theorem contains_run(l:List Int)(v:Int)(n:Nat)(f:Bool)(hn:l=[]∨n=1)(hl:l.length≤100000):Run Tryz.prog 102 [.sl n (l.map (.int .i64)) f,.int .i64 v] (.bool (decide (v∈l))):=by
 have q:=index_run l v n f hn hl
 refine Tryz.run102 (by simp) ?_
 unfold Tryz.c102
 rw [← idF_mem v l 0]
 generalize idF v l 0=i at *
 generalize l.map (AV.int .i64)=es at *
 refine vZ ?_
 refine aC q rfl rfl ?_
 refine vZ ?_
 exact eZ
structure Ln where
 row:Int
 kind:Int
 dev:List UInt8
 port:List UInt8
 peer:List UInt8
 far:List UInt8
 name:List UInt8
 mac:Int
 addr:Int
 bits:Int
 vlan:Int
 num:Int
 cost:Int
deriving DecidableEq
def lnA(l:Ln)(t im ex ad:AV):AV:=.agg [.int .i64 l.row,.int .i64 l.kind,.str l.dev,.str l.port,.str l.peer,.str l.far,.str l.name,.int .u64 l.mac,.int .u32 l.addr,.int .i64 l.bits,.int .i64 l.vlan,.int .i64 l.num,.int .i64 l.cost,t,im,ex,ad]
def lnZ:Ln:=⟨0,0,[],[],[],[],[],0,0,0,0,0,0⟩
def nilA:AV:=.sl 0 [] true
def mbF(v:Int)(tg:List Int):Bool:=decide (0 < v∨0 < tg.length) && !decide (v∈tg)
theorem members_run(l:Ln)(tg:List Int)(n:Nat)(f:Bool)(im ex ad:List AV)(a b c:Nat)(p q r:Bool)(hn:tg=[]∨n=1)(hl:tg.length≤100000) :
  Run Tryz.prog 67 [lnA l (.sl n (tg.map (.int .i64)) f) (.sl a im p) (.sl b ex q) (.sl c ad r)] (.bool (mbF l.vlan tg)):=by
 have q:=contains_run tg l.vlan n f hn hl
 refine Tryz.run67 (by simp) ?_
 unfold Tryz.c67 lnA mbF
 generalize decide (l.vlan∈tg)=ct at *
 have htl:(tg.map (AV.int .i64)).length=tg.length:=by simp
 generalize tg.map (AV.int .i64)=es at *
 by_cases h1:0 < l.vlan
 ·rw [decide_eq_true (.inl h1)]
  repeat' (first | (simp (disch:=try exact dq) only[↓pvd,pz,sC,List.map,seval,htl,still]) | (with_reducible first|refine cB (fun _=>?_) (fun _=>?_)|refine gB (fun _=>?_) (fun _=>?_)|refine hB (fun _=>?_) (fun _=>?_)|refine cA ?_ ?_) | refine aC q rfl rfl ?_ | refine aD q rfl rfl (fun _=>rfl) ?_ | exact eZ | fail)
 ·by_cases h2:0 < tg.length
  ·rw [decide_eq_true (.inr h2)]
   repeat' (first | (simp (disch:=try exact dq) only[↓pvd,pz,sC,List.map,seval,htl,still]) | (with_reducible first|refine cB (fun _=>?_) (fun _=>?_)|refine gB (fun _=>?_) (fun _=>?_)|refine hB (fun _=>?_) (fun _=>?_)|refine cA ?_ ?_) | refine aC q rfl rfl ?_ | refine aD q rfl rfl (fun _=>rfl) ?_ | exact eZ | fail)
  ·rw [decide_eq_false (fun h=>h.elim h1 h2)]
   repeat' (first | (simp (disch:=try exact dq) only[↓pvd,pz,sC,List.map,seval,htl,still]) | (with_reducible first|refine cB (fun _=>?_) (fun _=>?_)|refine gB (fun _=>?_) (fun _=>?_)|refine hB (fun _=>?_) (fun _=>?_)|refine cA ?_ ?_) | refine aC q rfl rfl ?_ | refine aD q rfl rfl (fun _=>rfl) ?_ | exact eZ | fail)
end Go.Proofs
namespace Go.Proofs
open Go.Pv
def slV(l:List Int):AV:=if l=[] then nilA else .sl 1 (l.map (.int .i64)) false
def lsG(s:List UInt8)(most:Int):Bool:=rlF (gI 1 most) (sc s)
def lsV(s:List UInt8)(most:Int):List Int:=if s=[45] then [] else if lsG s most=true then(sc s).map fun p=>(gI 1 most p).1 else []
def lsB(s:List UInt8)(most:Int):Bool:=!decide (s=[45]) && !lsG s most
theorem list_gen(ws:List (List UInt8))(f:Bool)(k:Nat)(e b:Int)(A:Option Ent)(T:Hp)(hk:k < ws.length)(hw:ws.length≤1000)(hl:∀ w∈ws,w.length≤1000) :
  Gen Tryz.prog 42 [.eptr 1 0 0,.int .i64 b] (A :: rdo ws f k e :: T) (slV (lsV ws[k]! b)) (A :: rdo ws f (k+1) (fl e (lsB ws[k]! b) 21) :: T):=by
 have hwl:ws[k]!.length≤1000:=hl _ (by rw [getElem!_pos ws k hk]; exact List.getElem_mem hk)
 have q:=run_frz (rdlist_run ws[k]! 1 b hwl)
 refine Tryz.gen42 (by simp) ?_
 unfold Tryz.g42
 unfold lsV lsB
 generalize hs:ws[k]! = s at *
 have hne:=sc_ne s
 by_cases h1:s=[45]
 ·rw [if_pos h1,decide_eq_true h1]
  refine vZ ?_
  refine aH (next_gen ws f k e A T hk hw) ?_
  simp (disch:=try exact dq) only[↓pvd,pz,sC,List.map,seval,hs,h1]
  rw [show fl e false 21=e by simp [fl]]
  exact⟨rfl,rfl⟩
 ·rw [if_neg h1,decide_eq_false h1]
  by_cases h2:lsG s b=true
  ·have h2':rlF (gI 1 b) (sc s)=true:=h2
   rw [if_pos h2,h2]
   rw [rlR_yes h2'] at q
   generalize hvs:((sc s).map fun p=>(gI 1 b p).1)=vs at *
   have hv:vs≠[]:=by rw [← hvs]; simpa using hne
   rw [show slV vs=.sl 1 (vs.map (.int .i64)) false by unfold slV; rw [if_neg hv]]
   generalize vs.map (AV.int .i64)=es at *
   simp only[frz,frzA,frzC,List.map_cons,List.map_nil] at q
   refine vZ ?_
   refine aH (next_gen ws f k e A T hk hw) ?_
   simp (disch:=try exact dq) only[↓pvd,pz,sC,List.map,seval,hs,h1]
   refine aC q rfl rfl ?_
   refine vZ ?_
   refine aH (fail_gen ws f (k+1) e 21 false A T) ?_
   refine vZ ?_
   exact⟨rfl,rfl⟩
  ·have h2':¬ rlF (gI 1 b) (sc s)=true:=h2
   rw [if_neg h2,show lsG s b=false by simpa using h2]
   rw [rlR_no h2'] at q
   simp only[frz,frzA,frzC,List.map_cons,List.map_nil] at q
   rw [show slV []=nilA from rfl]
   unfold nilA
   refine vZ ?_
   refine aH (next_gen ws f k e A T hk hw) ?_
   simp (disch:=try exact dq) only[↓pvd,pz,sC,List.map,seval,hs,h1]
   refine aC q rfl rfl ?_
   refine vZ ?_
   refine aH (fail_gen ws f (k+1) e 21 true A T) ?_
   refine vZ ?_
   exact⟨rfl,rfl⟩
def pkV(ws:List (List UInt8))(k:Nat):Int:=if ws[k]! = [97,99,99,101,115,115] then(Nm.rdF ws[k+1]! 1 4094).1 else if ws[k]! = [116,114,117,110,107] then(if ws[k+1]! = [45] then 0 else(Nm.rdF ws[k+1]! 1 4094).1) else 0
def pkT(ws:List (List UInt8))(k:Nat):List Int:=if ws[k]! = [116,114,117,110,107] then lsV ws[k+2]! 4094 else []
def pkE(ws:List (List UInt8))(k:Nat)(e:Int):Int :=
 let e1:=if ws[k]! = [97,99,99,101,115,115] then fl e (!(Nm.rdF ws[k+1]! 1 4094).2) 21 else if ws[k]! = [116,114,117,110,107] then fl (if ws[k+1]! = [45] then e else fl e (!(Nm.rdF ws[k+1]! 1 4094).2) 21) (lsB ws[k+2]! 4094) 21 else e
 fl e1 (!mbF (pkV ws k) (pkT ws k)) 21
def lno(l:Ln)(t im ex ad:AV):Option Ent:=some ⟨39,[lnA l t im ex ad],true⟩
theorem slV_is(l:List Int):∃ n f,slV l=.sl n (l.map (.int .i64)) f ∧(l=[]∨n=1):=by
 unfold slV nilA
 by_cases h:l=[]
 ·subst h; exact⟨0,true,rfl,.inl rfl⟩
 ·rw [if_neg h]; exact⟨1,false,rfl,.inr rfl⟩
theorem lsV_len(s:List UInt8)(b:Int):(lsV s b).length≤16:=by
 unfold lsV
 split
 ·simp
 ·split
  ·rename_i h
   rw [List.length_map]
   exact(rlF_iff.1 h).2.1
  ·simp
theorem port_end(ws:List (List UInt8))(f:Bool)(k:Nat)(e:Int)(A:Option Ent)(T:Hp)(l:Ln)(tg:List Int)(hl:tg.length≤16) :
  Run Tryz.prog 67 [lnA l (slV tg) nilA nilA nilA] (.bool (mbF l.vlan tg)):=by
 obtain ⟨n,f,h1,h2⟩:=slV_is tg
 rw [h1]
 exact members_run l tg n f [] [] [] 0 0 0 true true true h2 (by omega)
theorem port_gen(ws:List (List UInt8))(f:Bool)(k:Nat)(e:Int)(A:Option Ent)(T:Hp)(l:Ln)(hv:l.vlan=0)(hw:ws.length≤1000)(hl:∀ w∈ws,w.length≤1000)
  (hk:k < ws.length) (hk1:ws[k]! = [97,99,99,101,115,115]→k+1 < ws.length) (hk2:ws[k]! = [116,114,117,110,107]→k+2 < ws.length):∃ k',
  Gen Tryz.prog 37 [.eptr 1 0 0,.eptr 2 0 0] (A :: rdo ws f k e :: lno l nilA nilA nilA nilA :: T) (.tup [])
   (A :: rdo ws f k' (pkE ws k e) :: lno { l with vlan:=pkV ws k } (slV (pkT ws k)) nilA nilA nilA :: T):=by
 by_cases ha:ws[k]! = [97,99,99,101,115,115]
 ·have hv1:pkV ws k =(Nm.rdF ws[k+1]! 1 4094).1:=by unfold pkV; rw [if_pos ha]
  have ht:pkT ws k=[]:=by unfold pkT; rw [if_neg (by rw [ha]; decide)]
  have he:pkE ws k e=fl (fl e (!(Nm.rdF ws[k+1]! 1 4094).2) 21) (!mbF (pkV ws k) (pkT ws k)) 21:=by unfold pkE; rw [if_pos ha]
  have q:=port_end ws f k e A T { l with vlan:=pkV ws k } (pkT ws k) (by rw [ht]; simp)
  refine⟨k+2,?_⟩
  rw [he]
  refine gen_strip (n:=0) (Tryz.gen37 (by simp) ?_)
  unfold Tryz.g37
  have q2:=vlan_gen ws f (k+1) e A (lno l nilA nilA nilA nilA :: T) (hk1 ha) hw hl
  rw [ht,show slV []=.sl 0 [] true from if_pos rfl] at q ⊢
  rw [hv1] at q ⊢
  generalize (Nm.rdF ws[k+1]! 1 4094).1=v at *
  generalize (Nm.rdF ws[k+1]! 1 4094).2=ok at *
  simp only at q
  generalize hm:mbF v []=m at *
  refine vZ ?_
  refine aH (next_gen ws f k e A _ hk hw) ?_
  simp (disch:=try exact dq) only[↓pvd,pz,sC,List.map,seval,ha]
  refine aH q2 ?_
  simp (disch:=try exact dq) only[↓pvd,pz,sC,List.map,seval,lno,lnA,nilA]
  refine aC q rfl rfl ?_
  refine vZ ?_
  refine aH (fail_gen ws f (k+1+1) _ 21 (!m) A _) ?_
  refine vZ ?_
  exact⟨rfl,by simp⟩
 ·by_cases hb:ws[k]! = [116,114,117,110,107]
  ·have h2:=hk2 hb
   have ha':decide (ws[k]! = [97,99,99,101,115,115])=false:=decide_eq_false ha
   have hb':decide (ws[k]! = [116,114,117,110,107])=true:=decide_eq_true hb
   have ht:pkT ws k=lsV ws[k+2]! 4094:=by unfold pkT; rw [if_pos hb]
   have htl:(pkT ws k).length≤16:=by rw [ht]; exact lsV_len _ _
   have q:=port_end ws f k e A T { l with vlan:=pkV ws k } (pkT ws k) htl
   have hg1:(ws.map AV.str)[k+1]?=some (.str ws[k+1]!):=mG (by omega)
   by_cases hd:ws[k+1]! = [45]
   ·have hv1:pkV ws k=0:=by unfold pkV; rw [if_neg ha,if_pos hb,if_pos hd]
    have he:pkE ws k e=fl (fl e (lsB ws[k+2]! 4094) 21) (!mbF (pkV ws k) (pkT ws k)) 21:=by unfold pkE; rw [if_neg ha,if_pos hb,if_pos hd]
    refine⟨k+3,?_⟩
    rw [he]
    refine gen_strip (n:=11) (Tryz.gen37 (by simp) ?_)
    unfold Tryz.g37
    have q3:=fun(T:Hp)=>list_gen ws f (k+2) e 4094 A T h2 hw hl
    rw [ht] at q ⊢
    rw [hv1] at q ⊢
    generalize lsV ws[k+2]! 4094=tg at *
    generalize lsB ws[k+2]! 4094=bad at *
    simp only at q
    generalize hm:mbF 0 tg=m at *
    obtain ⟨n,f',hsl,_⟩:=slV_is tg
    rw [hsl] at q q3 ⊢
    generalize tg.map (AV.int .i64)=es at *
    refine vZ ?_
    refine aH (next_gen ws f k e A _ hk hw) ?_
    simp (disch:=try exact dq) only[↓pvd,pz,sC,List.map,seval,ha',hb',rdo,hg1,hd,List.length_map]
    rw [show(((k+1:Nat):Int)+1) =((k+2:Nat):Int) by omega]
    refine aH (q3 _) ?_
    simp (disch:=try exact dq) only[↓pvd,pz,sC,List.map,seval,lno,lnA,nilA]
    refine aC q (by simp only[lnA,nilA,hv]; rfl) rfl ?_
    refine vZ ?_
    refine aH (fail_gen ws f (k+2+1) _ 21 (!m) A _) ?_
    refine vZ ?_
    exact⟨rfl,by simp [rdo,hv]; omega⟩
   ·have hv1:pkV ws k =(Nm.rdF ws[k+1]! 1 4094).1:=by unfold pkV; rw [if_neg ha,if_pos hb,if_neg hd]
    have he:pkE ws k e=fl (fl (fl e (!(Nm.rdF ws[k+1]! 1 4094).2) 21) (lsB ws[k+2]! 4094) 21) (!mbF (pkV ws k) (pkT ws k)) 21:=by unfold pkE; rw [if_neg ha,if_pos hb,if_neg hd]
    refine⟨k+3,?_⟩
    rw [he]
    refine gen_strip (n:=11) (Tryz.gen37 (by simp) ?_)
    unfold Tryz.g37
    have q2:=fun(T:Hp)=>vlan_gen ws f (k+1) e A T (by omega) hw hl
    have q3:=fun(e:Int) (T:Hp)=>list_gen ws f (k+2) e 4094 A T h2 hw hl
    rw [ht] at q ⊢
    rw [hv1] at q ⊢
    generalize lsV ws[k+2]! 4094=tg at *
    generalize lsB ws[k+2]! 4094=bad at *
    generalize (Nm.rdF ws[k+1]! 1 4094).1=v at *
    generalize (Nm.rdF ws[k+1]! 1 4094).2=ok at *
    simp only at q
    generalize hm:mbF v tg=m at *
    obtain ⟨n,f',hsl,_⟩:=slV_is tg
    rw [hsl] at q q3 ⊢
    generalize tg.map (AV.int .i64)=es at *
    refine vZ ?_
    refine aH (next_gen ws f k e A _ hk hw) ?_
    simp (disch:=try exact dq) only[↓pvd,pz,sC,List.map,seval,ha',hb',rdo,hg1,hd,List.length_map]
    refine aH (q2 _) ?_
    simp (disch:=try exact dq) only[↓pvd,pz,sC,List.map,seval,lno,lnA,nilA]
    refine aH (q3 _ _) ?_
    refine vZ ?_
    refine aC q rfl rfl ?_
    refine vZ ?_
    refine aH (fail_gen ws f (k+2+1) _ 21 (!m) A _) ?_
    refine vZ ?_
    exact⟨rfl,by simp [rdo]; omega⟩
  ·have hv1:pkV ws k=0:=by unfold pkV; rw [if_neg ha,if_neg hb]
   have ht:pkT ws k=[]:=by unfold pkT; rw [if_neg hb]
   have he:pkE ws k e=fl e (!mbF (pkV ws k) (pkT ws k)) 21:=by unfold pkE; rw [if_neg ha,if_neg hb]
   have q:=port_end ws f k e A T { l with vlan:=pkV ws k } (pkT ws k) (by rw [ht]; simp)
   refine⟨k+1,?_⟩
   rw [he]
   refine gen_strip (n:=0) (Tryz.gen37 (by simp) ?_)
   unfold Tryz.g37
   rw [ht,show slV []=.sl 0 [] true from if_pos rfl] at q ⊢
   rw [hv1] at q ⊢
   simp only at q
   generalize hm:mbF 0 []=m at *
   refine vZ ?_
   refine aH (next_gen ws f k e A _ hk hw) ?_
   simp (disch:=try exact dq) only[↓pvd,pz,sC,List.map,seval,ha,hb,lno,lnA,nilA]
   refine aC q (by simp only[lnA,nilA,hv]; rfl) rfl ?_
   refine vZ ?_
   refine aH (fail_gen ws f (k+1) _ 21 (!m) A _) ?_
   refine vZ ?_
   rw [hv]
   exact⟨rfl,by simp⟩
end Go.Proofs
namespace Go.Proofs
open Go.Pv
def kdF(s:List UInt8):Int:=if s=[100,101,118,105,99,101] then 1 else if s=[112,111,114,116] then 2 else if s=[108,105,110,107] then 3 else if s=[115,116,97,116,105,99] then 4 else if s=[118,116,101,112] then 5 else if s=[118,110,105] then 6 else if s=[102,108,111,111,100] then 7 else if s=[118,114,102] then 8 else if s=[105,114,98] then 9 else 0
theorem kdF_b(s:List UInt8):kdF s=0∨kdF s=1∨kdF s=2∨kdF s=3∨kdF s=4∨kdF s=5∨kdF s=6∨kdF s=7∨kdF s=8∨kdF s=9:=by
 unfold kdF
 repeat' split
 all_goals simp
theorem kind_run(s:List UInt8):Run Tryz.prog 31 [.str s] (.int .i64 (kdF s)):=by
 refine Tryz.run31 (by simp) ?_
 unfold Tryz.c31 kdF
 by_cases h1:s=[100,101,118,105,99,101]
 ·rw [if_pos h1]
  simp (disch:=try exact dq) only[↓pvd,pz,sC,List.map,seval,decide_eq_true h1]
  exact eZ
 by_cases h2:s=[112,111,114,116]
 ·rw [if_neg h1,if_pos h2]
  simp (disch:=try exact dq) only[↓pvd,pz,sC,List.map,seval,decide_eq_false h1,decide_eq_true h2]
  exact eZ
 by_cases h3:s=[108,105,110,107]
 ·rw [if_neg h1,if_neg h2,if_pos h3]
  simp (disch:=try exact dq) only[↓pvd,pz,sC,List.map,seval,decide_eq_false h1,decide_eq_false h2,decide_eq_true h3]
  exact eZ
 by_cases h4:s=[115,116,97,116,105,99]
 ·rw [if_neg h1,if_neg h2,if_neg h3,if_pos h4]
  simp (disch:=try exact dq) only[↓pvd,pz,sC,List.map,seval,decide_eq_false h1,decide_eq_false h2,decide_eq_false h3,decide_eq_true h4]
  exact eZ
 by_cases h5:s=[118,116,101,112]
 ·rw [if_neg h1,if_neg h2,if_neg h3,if_neg h4,if_pos h5]
  simp (disch:=try exact dq) only[↓pvd,pz,sC,List.map,seval,decide_eq_false h1,decide_eq_false h2,decide_eq_false h3,decide_eq_false h4,decide_eq_true h5]
  exact eZ
 by_cases h6:s=[118,110,105]
 ·rw [if_neg h1,if_neg h2,if_neg h3,if_neg h4,if_neg h5,if_pos h6]
  simp (disch:=try exact dq) only[↓pvd,pz,sC,List.map,seval,decide_eq_false h1,decide_eq_false h2,decide_eq_false h3,decide_eq_false h4,decide_eq_false h5,decide_eq_true h6]
  exact eZ
 by_cases h7:s=[102,108,111,111,100]
 ·rw [if_neg h1,if_neg h2,if_neg h3,if_neg h4,if_neg h5,if_neg h6,if_pos h7]
  simp (disch:=try exact dq) only[↓pvd,pz,sC,List.map,seval,decide_eq_false h1,decide_eq_false h2,decide_eq_false h3,decide_eq_false h4,decide_eq_false h5,decide_eq_false h6,decide_eq_true h7]
  exact eZ
 by_cases h8:s=[118,114,102]
 ·rw [if_neg h1,if_neg h2,if_neg h3,if_neg h4,if_neg h5,if_neg h6,if_neg h7,if_pos h8]
  simp (disch:=try exact dq) only[↓pvd,pz,sC,List.map,seval,decide_eq_false h1,decide_eq_false h2,decide_eq_false h3,decide_eq_false h4,decide_eq_false h5,decide_eq_false h6,decide_eq_false h7,decide_eq_true h8]
  exact eZ
 by_cases h9:s=[105,114,98]
 ·rw [if_neg h1,if_neg h2,if_neg h3,if_neg h4,if_neg h5,if_neg h6,if_neg h7,if_neg h8,if_pos h9]
  simp (disch:=try exact dq) only[↓pvd,pz,sC,List.map,seval,decide_eq_false h1,decide_eq_false h2,decide_eq_false h3,decide_eq_false h4,decide_eq_false h5,decide_eq_false h6,decide_eq_false h7,decide_eq_false h8,decide_eq_true h9]
  exact eZ
 rw [if_neg h1,if_neg h2,if_neg h3,if_neg h4,if_neg h5,if_neg h6,if_neg h7,if_neg h8,if_neg h9]
 simp (disch:=try exact dq) only[↓pvd,pz,sC,List.map,seval,decide_eq_false h1,decide_eq_false h2,decide_eq_false h3,decide_eq_false h4,decide_eq_false h5,decide_eq_false h6,decide_eq_false h7,decide_eq_false h8,decide_eq_false h9]
 exact eZ
def mnP(ws:List (List UInt8)):Bool:=decide (6≤ws.length) && (decide (ws[4]! = [97,99,99,101,115,115]∧ws.length=6) || (decide (ws[4]! = [116,114,117,110,107]∧ws.length=7) || decide ((¬ ws[4]! = [97,99,99,101,115,115]∧¬ ws[4]! = [116,114,117,110,107])∧ws.length≤7)))
def mnF(k:Int)(ws:List (List UInt8)):Bool :=
 if k=0 then false else if k=2 then mnP ws else if k=3∨k=4∨k=8∨k=9 then decide ((ws.length:Int)=5) else if k=5 then decide ((ws.length:Int)=3) else decide ((ws.length:Int)=4)
theorem many_run(ws:List (List UInt8))(f:Bool)(k:Int)(hk:k=0∨k=1∨k=2∨k=3∨k=4∨k=5∨k=6∨k=7∨k=8∨k=9)(hw:ws.length≤100000):Run Tryz.prog 30 [.int .i64 k,.sl 1 (ws.map .str) f] (.bool (mnF k ws)):=by
 refine Tryz.run30 (by simp) ?_
 unfold Tryz.c30 mnF
 have hlm:(ws.map AV.str).length=ws.length:=by simp
 by_cases h2:k=2
 ·subst h2
  rw [if_neg (by decide),if_pos rfl]
  unfold mnP
  by_cases h6:6≤ws.length
  ·have hg:(ws.map AV.str)[4]?=some (.str ws[4]!):=mG (by omega)
   generalize ws.map AV.str=row at *
   generalize ws[4]! = w at *
   by_cases ha:w=[97,99,99,101,115,115]
   ·have hb:¬ w=[116,114,117,110,107]:=by rw [ha]; decide
    have da:=decide_eq_true ha
    have db:=decide_eq_false hb
    by_cases h7:ws.length=6
    ·rw [decide_eq_true h6,decide_eq_true ⟨ha,h7⟩]
     simp (disch:=try exact dq) only[↓pvd,pz,sC,List.map,seval,hg,hlm,da,db]
     exact eZ
    ·rw [decide_eq_true h6,decide_eq_false (fun h=>h7 h.2),decide_eq_false (fun h=>hb h.1),decide_eq_false (fun h=>h.1.1 ha)]
     simp (disch:=try exact dq) only[↓pvd,pz,sC,List.map,seval,hg,hlm,da,db]
     exact eZ
   ·have da:=decide_eq_false ha
    by_cases hb:w=[116,114,117,110,107]
    ·have db:=decide_eq_true hb
     by_cases h7:ws.length=7
     ·rw [decide_eq_true h6,decide_eq_false (fun h=>ha h.1),decide_eq_true ⟨hb,h7⟩]
      simp (disch:=try exact dq) only[↓pvd,pz,sC,List.map,seval,hg,hlm,da,db]
      exact eZ
     ·rw [decide_eq_true h6,decide_eq_false (fun h=>ha h.1),decide_eq_false (fun h=>h7 h.2),decide_eq_false (fun h=>h.1.2 hb)]
      simp (disch:=try exact dq) only[↓pvd,pz,sC,List.map,seval,hg,hlm,da,db]
      exact eZ
    ·have db:=decide_eq_false hb
     by_cases h7:ws.length≤7
     ·rw [decide_eq_true h6,decide_eq_false (fun h=>ha h.1),decide_eq_false (fun h=>hb h.1),decide_eq_true ⟨⟨ha,hb⟩,h7⟩]
      simp (disch:=try exact dq) only[↓pvd,pz,sC,List.map,seval,hg,hlm,da,db]
      exact eZ
     ·rw [decide_eq_true h6,decide_eq_false (fun h=>ha h.1),decide_eq_false (fun h=>hb h.1),decide_eq_false (fun h=>h7 h.2)]
      simp (disch:=try exact dq) only[↓pvd,pz,sC,List.map,seval,hg,hlm,da,db]
      exact eZ
  ·rw [decide_eq_false h6]
   simp (disch:=try exact dq) only[↓pvd,pz,sC,List.map,seval,hlm]
   exact eZ
 ·rcases hk with rfl | rfl | rfl | rfl | rfl | rfl | rfl | rfl | rfl | rfl
  all_goals simp only[Int.reduceEq,if_true,if_false,or_true,true_or,or_false,or_self,reduceIte]
  all_goals (first | exact absurd rfl h2 | skip)
  all_goals simp (disch:=try exact dq) only[↓pvd,pz,sC,List.map,seval,hlm]
  all_goals exact eZ
def sbF(a b:Int):Bool:=decide (1≤b∧b≤30) && (!decide (a=firstF a b) && !decide (a=lastF a b))
theorem subnet_run(a b:Int)(ha:0≤a∧a≤4294967295):Run Tryz.prog 44 [pfx a b] (.bool (sbF a b)):=by
 have q1:=first_run a b ha
 have q2:=last_run a b ha
 refine Tryz.run44 (by simp) ?_
 unfold Tryz.c44 sbF
 generalize firstF a b=x at *
 generalize lastF a b=y at *
 by_cases h1:1≤b
 ·by_cases h2:b≤30
  ·rw [decide_eq_true ⟨h1,h2⟩]
   by_cases h3:a=x
   ·have d3:=decide_eq_true h3
    rw [d3]
    repeat' (first | (simp (disch:=try exact dq) only[↓pvd,pz,sC,List.map,seval,d3,still]) | (with_reducible first|refine cB (fun _=>?_) (fun _=>?_)|refine gB (fun _=>?_) (fun _=>?_)|refine hB (fun _=>?_) (fun _=>?_)|refine cA ?_ ?_) | refine aD q1 rfl rfl (fun _=>rfl) ?_ | refine aD q2 rfl rfl (fun _=>rfl) ?_ | exact eZ | fail)
   ·have d3:=decide_eq_false h3
    rw [d3]
    by_cases h4:a=y
    ·have d4:=decide_eq_true h4
     rw [d4]
     repeat' (first | (simp (disch:=try exact dq) only[↓pvd,pz,sC,List.map,seval,d3,d4,still]) | (with_reducible first|refine cB (fun _=>?_) (fun _=>?_)|refine gB (fun _=>?_) (fun _=>?_)|refine hB (fun _=>?_) (fun _=>?_)|refine cA ?_ ?_) | refine aD q1 rfl rfl (fun _=>rfl) ?_ | refine aD q2 rfl rfl (fun _=>rfl) ?_ | exact eZ | fail)
    ·have d4:=decide_eq_false h4
     rw [d4]
     repeat' (first | (simp (disch:=try exact dq) only[↓pvd,pz,sC,List.map,seval,d3,d4,still]) | (with_reducible first|refine cB (fun _=>?_) (fun _=>?_)|refine gB (fun _=>?_) (fun _=>?_)|refine hB (fun _=>?_) (fun _=>?_)|refine cA ?_ ?_) | refine aD q1 rfl rfl (fun _=>rfl) ?_ | refine aD q2 rfl rfl (fun _=>rfl) ?_ | exact eZ | fail)
  ·rw [decide_eq_false (fun h=>h2 h.2)]
   refine vZ ?_
   exact eZ
 ·rw [decide_eq_false (fun h=>h1 h.1)]
  refine vZ ?_
  exact eZ
end Go.Proofs
