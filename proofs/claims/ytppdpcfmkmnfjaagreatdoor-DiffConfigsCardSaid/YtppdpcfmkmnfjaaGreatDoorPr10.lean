/- The proofs of what the functions of this seat do. -/
import Derived.Test.YtppdpcfmkmnfjaaGreatDoorPr9
set_option linter.unusedSimpArgs false
set_option linter.unusedVariables false
set_option maxHeartbeats 2000000
set_option maxRecDepth 20000
set_option maxHeartbeats 16000000
namespace Go.Proofs
open Go.Pv
theorem join44_run(xs:List (List UInt8))(f:Bool)(h1:xs.length≤100000)(h2:(Lib.join xs [44]).length≤100000000):Run Tryz.prog 144 [.sl 1 (xs.map .str) f,.str [44]] (.str (Lib.join xs [44])) :=
 run_join (can_of Tryz.func144 rfl rfl) (fun bk o c xs sep w a b d e g=>Any.strings_Join Tryz.lays156 Tryz.extra156 bk o c xs sep w a b d e g) (fun a c sep w=>Any.strings_Join_none Tryz.lays156 Tryz.extra156 a c sep w) xs [44] f h1 h2
def jn4(xs:List (List UInt8)):Nat→List UInt8
 | 0=>[]
 | k+1=>(if 0 < k then jn4 xs k ++ [44] else jn4 xs k) ++ xs[k]!
theorem jn4_eq(x:List UInt8)(r:List (List UInt8)):∀ k,k≤r.length→jn4 (x :: r) (k+1)=x ++ Lib.joinTail [44] (r.take k)
 | 0,_=>by simp [jn4,Lib.joinTail]
 | k+1,h=>by
  rw [jn4,if_pos (by omega),jn4_eq x r k (by omega),Lib.joinTail_take_succ [44] r k r[k]! (by rw [getElem!_pos r k (by omega),List.getElem?_eq_getElem (by omega)])]
  simp
theorem jn4_all(xs:List (List UInt8)):jn4 xs xs.length=Lib.join xs [44]:=by
 cases xs with
 | nil=>rfl
 | cons x r=>rw [List.length_cons,jn4_eq x r r.length (Nat.le_refl _),List.take_of_length_le (Nat.le_refl _),Lib.join_cons]
theorem jn4_len(xs:List (List UInt8))(m:Nat)(h:∀ x∈xs,x.length≤m):∀ k,k≤xs.length →(jn4 xs k).length ≤(m+1) * k
 | 0,_=>by simp [jn4]
 | k+1,hk=>by
  have ih:=jn4_len xs m h k (by omega)
  have:=h xs[k]! (by rw [getElem!_pos xs k (by omega)]; exact List.getElem_mem (by omega))
  rw [jn4,Nat.mul_add]
  split <;> simp only[List.length_append,List.length_cons,List.length_nil] <;> omega
theorem txF_most(n:Int)(h0:-9223372036854775808≤n)(h1:n < 9223372036854775808):(Nm.txF n).length≤20:=by
 unfold Nm.txF
 split
 ·have:=Nm.digF_len (-n).toNat 18 (by omega)
  simp; omega
 ·have:=Nm.digF_len n.toNat 18 (by omega)
  omega
theorem wi_run(l:List Int)(f:Bool)(hl:l.length≤1000)(hr:∀ n∈l,-9223372036854775808≤n∧n < 9223372036854775808):Run Tryz.prog 166 [.sl 1 (l.map (.int .i64)) f,.fn 98 []] (.str (Lib.join (l.map Nm.txF) [44])):=by
 have hm:∀ x∈l.map Nm.txF,x.length≤20:=fun x hx=>by
  obtain ⟨n,hn,rfl⟩:=List.mem_map.1 hx
  have:=hr n hn
  exact txF_most n this.1 this.2
 have hjl:=jn4_len _ 20 hm _ (Nat.le_refl _)
 rw [jn4_all,List.length_map] at hjl
 have qj:=join44_run (l.map Nm.txF) false (by simp; omega) (by omega)
 refine Tryz.run166 (by simp) ?_
 unfold Tryz.c166
 obtain ⟨xs,hxs⟩:∃ xs,l.map Nm.txF=xs:=⟨_,rfl⟩
 have hxl:xs.length=l.length:=by rw [← hxs]; simp
 have hxg:∀ k,k < l.length→xs[k]! = Nm.txF l[k]!:=fun k hk=>by
  rw [getElem!_pos xs k (by omega),getElem!_pos l k hk]
  subst hxs
  simp
 rw [hxs] at qj hm hjl ⊢
 refine vZ ?_
 refine aw_loop (fun k:Nat=>⟨[(1,.fn 98 []),(5,.vec 0 1 0 k),(8,.sl 1 (l.map (.int .i64)) f),(9,.int .i64 l.length),(10,.int .i64 k)],[some ⟨9,(xs.take k).map .str,true⟩]⟩) (fun k=>k≤l.length) (fun k=>l.length - k) 0 ?_ (by omega) ?_
 ·simp (disch:=try exact dq) only[↓pvd,pz,sC,List.map,seval,ids_fn,ren_fn,List.length_map]
  try simp
 rintro k hk
 unfold Tryz.c166b0
 have htl:((xs.take k).map AV.str).length=k:=by simp; omega
 by_cases hx:k < l.length
 ·have hgi:(l.map (AV.int .i64))[k]?=some (.int .i64 l[k]!):=mG hx
  have hrk:=hr l[k]! (by rw [getElem!_pos l k hx]; exact List.getElem_mem hx)
  have q1:=Nm.text_runx l[k]! hrk.1 hrk.2
  rw [← hxg k hx] at q1
  have hap:(xs.take k).map AV.str ++ [AV.str xs[k]!] =(xs.take (k+1)).map AV.str:=by rw [take_snoc (by omega)]; simp
  simp (disch:=try exact dq) only[↓pvd,pz,sC,List.map,seval,hgi]
  refine aV rfl (gen_nr q1 rfl) (Nat.le_refl _) ?_
  simp (disch:=try exact dq) only[↓pvd,pz,sC,List.map,seval,ids_fn,ren_fn,iM sP,rM sP,htl,hap]
  refine⟨k+1,?_,hx,by omega⟩
  simp
 ·have e:k=l.length:=by omega
  have htk:xs.take k=xs:=List.take_of_length_le (by omega)
  rw [htk]
  have hkl:k=xs.length:=by omega
  generalize Lib.join xs [44]=J at *
  simp (disch:=try exact dq) only[↓pvd,pz,sC,List.map,seval,List.length_map,hkl]
  refine awR_callS (ms:=[]) qj (by simp (disch:=try exact dq) only[↓pvd,pz,sC,List.map,seval,mapO_map str_nr,rows_map str_nr]; rfl) (by simp (disch:=try exact dq) only[↓pvd,pz,sC,List.map,seval,mapO_map str_nr,rows_map str_nr]) ?_
  simp (disch:=try exact dq) only[↓pvd,pz,sC,List.map,seval,still]
  exact eZ
theorem wil_run(l:List Int)(f:Bool)(hl:l.length≤1000)(hr:∀ n∈l,-9223372036854775808≤n∧n < 9223372036854775808):Run Tryz.prog 156 [.sl 1 (l.map (.int .i64)) f] (.str (Lib.join (l.map Nm.txF) [44])):=by
 have q:=wi_run l f hl hr
 refine Tryz.run156 (by simp) ?_
 unfold Tryz.c156
 generalize Lib.join (l.map Nm.txF) [44]=J at *
 refine vZ ?_
 refine awR_callS (ms:=[]) q (by simp (disch:=try exact dq) only[↓pvd,pz,sC,List.map,seval,mapO_map (int_nr .i64),rows_map (int_nr .i64),snp_fn,rws_fn]; rfl) (by simp (disch:=try exact dq) only[↓pvd,pz,sC,List.map,seval,mapO_map (int_nr .i64),rows_map (int_nr .i64),snp_fn,rws_fn]) ?_
 simp (disch:=try exact dq) only[↓pvd,pz,sC,List.map,seval,still]
 exact eZ
theorem wir_run(l:List Int)(f:Bool)(hl:l.length≤1000)(hr:∀ n∈l,-9223372036854775808≤n∧n < 9223372036854775808):Run Tryz.prog 169 [.sl 1 (l.map (.int .i64)) f] (.str (Lib.join (l.map Nm.txF) [44])):=by
 have hm:∀ x∈l.map Nm.txF,x.length≤20:=fun x hx=>by
  obtain ⟨n,hn,rfl⟩:=List.mem_map.1 hx
  have:=hr n hn
  exact txF_most n this.1 this.2
 have hjl:=jn4_len _ 20 hm
 rw [← jn4_all]
 refine Tryz.run169 (by simp) ?_
 unfold Tryz.c169
 obtain ⟨xs,hxs⟩:∃ xs,l.map Nm.txF=xs:=⟨_,rfl⟩
 have hxl:xs.length=l.length:=by rw [← hxs]; simp
 have hxg:∀ k,k < l.length→xs[k]! = Nm.txF l[k]!:=fun k hk=>by
  rw [getElem!_pos xs k (by omega),getElem!_pos l k hk]
  subst hxs
  simp
 rw [hxs] at hm hjl ⊢
 refine vZ ?_
 refine aw_loop (fun k:Nat=>⟨[(0,.sl 1 (l.map (.int .i64)) f),(3,.str (jn4 xs k)),(4,.int .i64 k)],[]⟩) (fun k=>k≤l.length) (fun k=>l.length - k) 0 ?_ (by omega) ?_
 ·refine vZ ?_
  try simp [jn4]
 rintro k hk
 unfold Tryz.c169b0
 have hj1:=hjl k (by omega)
 by_cases hx:k < l.length
 ·have hgi:(l.map (AV.int .i64))[k]?=some (.int .i64 l[k]!):=mG hx
  have hrk:=hr l[k]! (by rw [getElem!_pos l k hx]; exact List.getElem_mem hx)
  have hml:=hm xs[k]! (by rw [getElem!_pos xs k (by omega)]; exact List.getElem_mem (by omega))
  have q1:=Nm.rtext_runx l[k]! hrk.1 hrk.2
  rw [← hxg k hx] at q1
  have hst:jn4 xs (k+1) =(if 0 < k then jn4 xs k ++ [44] else jn4 xs k) ++ xs[k]!:=rfl
  generalize jn4 xs k=J at *
  generalize xs[k]! = X at *
  have hJ:J.length≤30000:=by omega
  clear hj1
  by_cases h0:0 < k
  ·rw [if_pos h0] at hst
   simp (disch:=try exact dq) only[↓pvd,pz,sC,List.map,seval,hgi,List.length_map]
   refine aC q1 rfl rfl ?_
   refine vZ ?_
   exact⟨k+1,by rw [hst]; simp,hx,by omega⟩
  ·rw [if_neg h0] at hst
   have hJX:J.length+X.length≤1000000000:=by omega
   simp (disch:=try exact dq) only[↓pvd,pz,sC,List.map,seval,hgi,List.length_map]
   refine aC q1 rfl rfl ?_
   simp (disch:=try exact dq) only[↓pvd,pz,sC,List.map,seval,hJX,if_true]
   exact⟨k+1,by rw [hst]; simp,hx,by omega⟩
 ·have e:k=xs.length:=by omega
  rw [← e]
  generalize jn4 xs k=J at *
  simp (disch:=try exact dq) only[↓pvd,pz,sC,List.map,seval,List.length_map]
  exact eZ
theorem wu_run(l:List Int)(f:Bool)(hl:l.length≤1000)(hr:∀ n∈l,0≤n∧n≤4294967295):Run Tryz.prog 155 [.sl 1 (l.map (.int .u32)) f,.fn 140 []] (.str (Lib.join (l.map addrS) [44])):=by
 have hm:∀ x∈l.map addrS,x.length≤20:=fun x hx=>by
  obtain ⟨n,hn,rfl⟩:=List.mem_map.1 hx
  have:=hr n hn
  have:=addrS_len n
  omega
 have hjl:=jn4_len _ 20 hm _ (Nat.le_refl _)
 rw [jn4_all,List.length_map] at hjl
 have qj:=join44_run (l.map addrS) false (by simp; omega) (by omega)
 refine Tryz.run155 (by simp) ?_
 unfold Tryz.c155
 obtain ⟨xs,hxs⟩:∃ xs,l.map addrS=xs:=⟨_,rfl⟩
 have hxl:xs.length=l.length:=by rw [← hxs]; simp
 have hxg:∀ k,k < l.length→xs[k]! = addrS l[k]!:=fun k hk=>by
  rw [getElem!_pos xs k (by omega),getElem!_pos l k hk]
  subst hxs
  simp
 rw [hxs] at qj hm hjl ⊢
 refine vZ ?_
 refine aw_loop (fun k:Nat=>⟨[(1,.fn 140 []),(5,.vec 0 1 0 k),(8,.sl 1 (l.map (.int .u32)) f),(9,.int .i64 l.length),(10,.int .i64 k)],[some ⟨9,(xs.take k).map .str,true⟩]⟩) (fun k=>k≤l.length) (fun k=>l.length - k) 0 ?_ (by omega) ?_
 ·simp (disch:=try exact dq) only[↓pvd,pz,sC,List.map,seval,ids_fn,ren_fn,List.length_map]
  try simp
 rintro k hk
 unfold Tryz.c155b0
 have htl:((xs.take k).map AV.str).length=k:=by simp; omega
 by_cases hx:k < l.length
 ·have hgi:(l.map (AV.int .u32))[k]?=some (.int .u32 l[k]!):=mG hx
  have hrk:=hr l[k]! (by rw [getElem!_pos l k hx]; exact List.getElem_mem hx)
  have q1:=text_run l[k]! hrk
  rw [← hxg k hx] at q1
  have hap:(xs.take k).map AV.str ++ [AV.str xs[k]!] =(xs.take (k+1)).map AV.str:=by rw [take_snoc (by omega)]; simp
  simp (disch:=try exact dq) only[↓pvd,pz,sC,List.map,seval,hgi]
  refine aV rfl (gen_nr q1 rfl) (Nat.le_refl _) ?_
  simp (disch:=try exact dq) only[↓pvd,pz,sC,List.map,seval,ids_fn,ren_fn,iM sP,rM sP,htl,hap]
  refine⟨k+1,?_,hx,by omega⟩
  simp
 ·have e:k=l.length:=by omega
  have htk:xs.take k=xs:=List.take_of_length_le (by omega)
  rw [htk]
  have hkl:k=xs.length:=by omega
  generalize Lib.join xs [44]=J at *
  simp (disch:=try exact dq) only[↓pvd,pz,sC,List.map,seval,List.length_map,hkl]
  refine awR_callS (ms:=[]) qj (by simp (disch:=try exact dq) only[↓pvd,pz,sC,List.map,seval,mapO_map str_nr,rows_map str_nr]; rfl) (by simp (disch:=try exact dq) only[↓pvd,pz,sC,List.map,seval,mapO_map str_nr,rows_map str_nr]) ?_
  simp (disch:=try exact dq) only[↓pvd,pz,sC,List.map,seval,still]
  exact eZ
theorem wul_run(l:List Int)(f:Bool)(hl:l.length≤1000)(hr:∀ n∈l,0≤n∧n≤4294967295):Run Tryz.prog 141 [.sl 1 (l.map (.int .u32)) f] (.str (Lib.join (l.map addrS) [44])):=by
 have q:=wu_run l f hl hr
 refine Tryz.run141 (by simp) ?_
 unfold Tryz.c141
 generalize Lib.join (l.map addrS) [44]=J at *
 refine vZ ?_
 refine awR_callS (ms:=[]) q (by simp (disch:=try exact dq) only[↓pvd,pz,sC,List.map,seval,mapO_map (int_nr .u32),rows_map (int_nr .u32),snp_fn,rws_fn]; rfl) (by simp (disch:=try exact dq) only[↓pvd,pz,sC,List.map,seval,mapO_map (int_nr .u32),rows_map (int_nr .u32),snp_fn,rws_fn]) ?_
 simp (disch:=try exact dq) only[↓pvd,pz,sC,List.map,seval,still]
 exact eZ
theorem wur_run(l:List Int)(f:Bool)(hl:l.length≤1000)(hr:∀ n∈l,0≤n∧n≤4294967295):Run Tryz.prog 162 [.sl 1 (l.map (.int .u32)) f] (.str (Lib.join (l.map addrS) [44])):=by
 have hm:∀ x∈l.map addrS,x.length≤20:=fun x hx=>by
  obtain ⟨n,hn,rfl⟩:=List.mem_map.1 hx
  have:=hr n hn
  have:=addrS_len n
  omega
 have hjl:=jn4_len _ 20 hm
 rw [← jn4_all]
 refine Tryz.run162 (by simp) ?_
 unfold Tryz.c162
 obtain ⟨xs,hxs⟩:∃ xs,l.map addrS=xs:=⟨_,rfl⟩
 have hxl:xs.length=l.length:=by rw [← hxs]; simp
 have hxg:∀ k,k < l.length→xs[k]! = addrS l[k]!:=fun k hk=>by
  rw [getElem!_pos xs k (by omega),getElem!_pos l k hk]
  subst hxs
  simp
 rw [hxs] at hm hjl ⊢
 refine vZ ?_
 refine aw_loop (fun k:Nat=>⟨[(0,.sl 1 (l.map (.int .u32)) f),(3,.str (jn4 xs k)),(4,.int .i64 k)],[]⟩) (fun k=>k≤l.length) (fun k=>l.length - k) 0 ?_ (by omega) ?_
 ·refine vZ ?_
  try simp [jn4]
 rintro k hk
 unfold Tryz.c162b0
 have hj1:=hjl k (by omega)
 by_cases hx:k < l.length
 ·have hgi:(l.map (AV.int .u32))[k]?=some (.int .u32 l[k]!):=mG hx
  have hrk:=hr l[k]! (by rw [getElem!_pos l k hx]; exact List.getElem_mem hx)
  have hml:=hm xs[k]! (by rw [getElem!_pos xs k (by omega)]; exact List.getElem_mem (by omega))
  have q1:=ref_text_run l[k]! hrk
  rw [← hxg k hx] at q1
  have hst:jn4 xs (k+1) =(if 0 < k then jn4 xs k ++ [44] else jn4 xs k) ++ xs[k]!:=rfl
  generalize jn4 xs k=J at *
  generalize xs[k]! = X at *
  have hJ:J.length≤30000:=by omega
  clear hj1
  by_cases h0:0 < k
  ·rw [if_pos h0] at hst
   simp (disch:=try exact dq) only[↓pvd,pz,sC,List.map,seval,hgi,List.length_map]
   refine aC q1 rfl rfl ?_
   refine vZ ?_
   exact⟨k+1,by rw [hst]; simp,hx,by omega⟩
  ·rw [if_neg h0] at hst
   have hJX:J.length+X.length≤1000000000:=by omega
   simp (disch:=try exact dq) only[↓pvd,pz,sC,List.map,seval,hgi,List.length_map]
   refine aC q1 rfl rfl ?_
   simp (disch:=try exact dq) only[↓pvd,pz,sC,List.map,seval,hJX,if_true]
   exact⟨k+1,by rw [hst]; simp,hx,by omega⟩
 ·have e:k=xs.length:=by omega
  rw [← e]
  generalize jn4 xs k=J at *
  simp (disch:=try exact dq) only[↓pvd,pz,sC,List.map,seval,List.length_map]
  exact eZ
end Go.Proofs
namespace Go.Proofs
open Go.Pv
def lsT(l:List Int):List UInt8:=if l=[] then [45] else Lib.join (l.map Nm.txF) [44]
def adT(l:List Int):List UInt8:=Lib.join (l.map addrS) [44]
def wd1(x:LnF):List (List UInt8):=[100,101,118,105,99,101] :: [x.l.dev,Nm.txF x.l.num,Mc.tx x.l.mac]
def wd3(x:LnF):List (List UInt8):=[108,105,110,107] :: [x.l.dev,x.l.port,x.l.peer,x.l.far]
def wd4(x:LnF):List (List UInt8):=[115,116,97,116,105,99] :: [x.l.dev,Nm.txF x.l.vlan,Mc.tx x.l.mac,x.l.port]
def wd5(x:LnF):List (List UInt8):=[118,116,101,112] :: [x.l.dev,addrS x.l.addr]
def wd6(x:LnF):List (List UInt8):=[118,110,105] :: [x.l.dev,Nm.txF x.l.vlan,Nm.txF x.l.num]
def wd7(x:LnF):List (List UInt8):=[102,108,111,111,100] :: [x.l.dev,Nm.txF x.l.num,adT x.ad]
def wd8(x:LnF):List (List UInt8):=[118,114,102] :: [x.l.dev,x.l.name,lsT x.im,lsT x.ex]
def wd9(x:LnF):List (List UInt8):=[105,114,98] :: [x.l.dev,Nm.txF x.l.vlan,x.l.name,ptxS x.l.addr x.l.bits]
def wd2(x:LnF):List (List UInt8):=if x.t=[] then [[112,111,114,116],x.l.dev,x.l.port,Nm.txF x.l.cost,[97,99,99,101,115,115],Nm.txF x.l.vlan] else [[112,111,114,116],x.l.dev,x.l.port,Nm.txF x.l.cost,[116,114,117,110,107],if x.l.vlan=0 then [45] else Nm.txF x.l.vlan,lsT x.t]
def wdF(x:LnF):List (List UInt8):=if x.l.kind=1 then wd1 x else if x.l.kind=2 then wd2 x else if x.l.kind=3 then wd3 x else if x.l.kind=4 then wd4 x else if x.l.kind=5 then wd5 x else if x.l.kind=6 then wd6 x else if x.l.kind=7 then wd7 x else if x.l.kind=8 then wd8 x else wd9 x
theorem of_run(ws:List (List UInt8)):Run Tryz.prog 137 [.own 1 9 (ws.map .str)] (.own 1 9 (ws.map .str)):=by
 refine Tryz.run137 (by simp) ?_
 unfold Tryz.c137
 have hl:(ws.map AV.str).length=ws.length:=by simp
 simp (disch:=try exact dq) only[↓pvd,pz,sC,List.map,seval,hl]
 (refine Ends_rq [[.own 1 9]] ?_; simp (disch:=try exact dq) only[↓pvd,pz,sC,List.map,seval,mapO_map str_nr,rows_map str_nr,hl]; exact⟨_,rfl,rfl,rfl⟩)
theorem txl_run(n:Int)(h0:-9223372036854775808≤n)(h1:n < 9223372036854775808):Run Tryz.prog 98 [.int .i64 n] (.str (Nm.txF n)):=Nm.text_runx n h0 h1
theorem plist_run(l:List Int)(n:Nat)(f:Bool)(hn:l=[]∨n=1)(hl:l.length≤1000)(hr:∀ n∈l,-9223372036854775808≤n∧n < 9223372036854775808):Run Tryz.prog 142 [.sl n (l.map (.int .i64)) f] (.str (lsT l)):=by
 refine Tryz.run142 (by simp) ?_
 unfold Tryz.c142 lsT
 by_cases h:l=[]
 ·subst h
  rw [if_pos rfl]
  simp (disch:=try exact dq) only[↓pvd,pz,sC,List.map,seval,List.map_nil]
  exact eZ
 ·obtain rfl:n=1:=hn.resolve_left h
  have hp:=List.length_pos_iff.2 h
  have q:=wil_run l f hl hr
  rw [if_neg h]
  have hlm:(l.map (AV.int .i64)).length=l.length:=by simp
  generalize l.map (AV.int .i64)=es at *
  simp (disch:=try exact dq) only[↓pvd,pz,sC,List.map,seval,hlm]
  refine aC q rfl rfl ?_
  refine wZ ?_
  exact eZ
theorem rt_range{x:LnF}(h:rtO x=true):(0≤x.l.vlan∧x.l.vlan≤4094) ∧(0≤x.l.num∧x.l.num≤16777215) ∧(0≤x.l.cost∧x.l.cost≤65535) ∧(1≤x.l.kind∧x.l.kind≤9):=by
 unfold rtO at h
 simp only[Bool.and_eq_true,decide_eq_true_eq] at h
 obtain ⟨⟨h1,-⟩,h2⟩:=h
 unfold okF at h1
 unfold usF at h2
 by_cases k1:x.l.kind=1
 ·simp only[if_pos k1] at h1 h2
  have e1:=congrArg (fun y=>y.l.vlan) h2
  have e2:=congrArg (fun y=>y.l.num) h2
  have e3:=congrArg (fun y=>y.l.cost) h2
  simp only[us1] at e1 e2 e3
  simp only[ok1,Bool.and_eq_true,decide_eq_true_eq] at h1
  omega
 by_cases k2:x.l.kind=2
 ·simp only[if_neg k1,if_pos k2] at h1 h2
  have e1:=congrArg (fun y=>y.l.vlan) h2
  have e2:=congrArg (fun y=>y.l.num) h2
  have e3:=congrArg (fun y=>y.l.cost) h2
  simp only[us2] at e1 e2 e3
  simp only[ok2,Bool.and_eq_true,decide_eq_true_eq] at h1
  omega
 by_cases k3:x.l.kind=3
 ·simp only[if_neg k1,if_neg k2,if_pos k3] at h1 h2
  have e1:=congrArg (fun y=>y.l.vlan) h2
  have e2:=congrArg (fun y=>y.l.num) h2
  have e3:=congrArg (fun y=>y.l.cost) h2
  simp only[us3] at e1 e2 e3
  simp only[ok3,Bool.and_eq_true,decide_eq_true_eq] at h1
  omega
 by_cases k4:x.l.kind=4
 ·simp only[if_neg k1,if_neg k2,if_neg k3,if_pos k4] at h1 h2
  have e1:=congrArg (fun y=>y.l.vlan) h2
  have e2:=congrArg (fun y=>y.l.num) h2
  have e3:=congrArg (fun y=>y.l.cost) h2
  simp only[us4] at e1 e2 e3
  simp only[ok4,Bool.and_eq_true,decide_eq_true_eq] at h1
  omega
 by_cases k5:x.l.kind=5
 ·simp only[if_neg k1,if_neg k2,if_neg k3,if_neg k4,if_pos k5] at h1 h2
  have e1:=congrArg (fun y=>y.l.vlan) h2
  have e2:=congrArg (fun y=>y.l.num) h2
  have e3:=congrArg (fun y=>y.l.cost) h2
  simp only[us5] at e1 e2 e3
  simp only[ok5,Bool.and_eq_true,decide_eq_true_eq] at h1
  omega
 by_cases k6:x.l.kind=6
 ·simp only[if_neg k1,if_neg k2,if_neg k3,if_neg k4,if_neg k5,if_pos k6] at h1 h2
  have e1:=congrArg (fun y=>y.l.vlan) h2
  have e2:=congrArg (fun y=>y.l.num) h2
  have e3:=congrArg (fun y=>y.l.cost) h2
  simp only[us6] at e1 e2 e3
  simp only[ok6,Bool.and_eq_true,decide_eq_true_eq] at h1
  omega
 by_cases k7:x.l.kind=7
 ·simp only[if_neg k1,if_neg k2,if_neg k3,if_neg k4,if_neg k5,if_neg k6,if_pos k7] at h1 h2
  have e1:=congrArg (fun y=>y.l.vlan) h2
  have e2:=congrArg (fun y=>y.l.num) h2
  have e3:=congrArg (fun y=>y.l.cost) h2
  simp only[us7] at e1 e2 e3
  simp only[ok7,Bool.and_eq_true,decide_eq_true_eq] at h1
  omega
 by_cases k8:x.l.kind=8
 ·simp only[if_neg k1,if_neg k2,if_neg k3,if_neg k4,if_neg k5,if_neg k6,if_neg k7,if_pos k8] at h1 h2
  have e1:=congrArg (fun y=>y.l.vlan) h2
  have e2:=congrArg (fun y=>y.l.num) h2
  have e3:=congrArg (fun y=>y.l.cost) h2
  simp only[us8] at e1 e2 e3
  simp only[ok8,Bool.and_eq_true,decide_eq_true_eq] at h1
  omega
 by_cases k9:x.l.kind=9
 ·simp only[if_neg k1,if_neg k2,if_neg k3,if_neg k4,if_neg k5,if_neg k6,if_neg k7,if_neg k8,if_pos k9] at h1 h2
  have e1:=congrArg (fun y=>y.l.vlan) h2
  have e2:=congrArg (fun y=>y.l.num) h2
  have e3:=congrArg (fun y=>y.l.cost) h2
  simp only[us9] at e1 e2 e3
  simp only[ok9,Bool.and_eq_true,decide_eq_true_eq] at h1
  omega
 simp only[if_neg k1,if_neg k2,if_neg k3,if_neg k4,if_neg k5,if_neg k6,if_neg k7,if_neg k8,if_neg k9] at h1
 cases h1
theorem rs_mem{l:List Int}{a b:Int}(h:rsF l a b=true):∀ n∈l,a≤n∧n≤b:=by
 unfold rsF at h
 simp only[Bool.and_eq_true,List.all_eq_true,decide_eq_true_eq] at h
 exact h.1.1
theorem li_mem{l:List Int}{b:Int}(h:liO l b=true):∀ n∈l,1≤n∧n≤b:=by
 unfold liO at h
 rw [Bool.or_eq_true,decide_eq_true_eq] at h
 rcases h with rfl | h
 ·simp
 ·exact rs_mem h
theorem rt_lists{x:LnF}(h:rtO x=true):(∀ n∈x.t,1≤n∧n≤65535) ∧(∀ n∈x.im,1≤n∧n≤65535) ∧(∀ n∈x.ex,1≤n∧n≤65535):=by
 unfold rtO at h
 simp only[Bool.and_eq_true,decide_eq_true_eq] at h
 obtain ⟨⟨h1,-⟩,h2⟩:=h
 unfold okF at h1
 unfold usF at h2
 by_cases k1:x.l.kind=1
 ·simp only[if_pos k1] at h1 h2
  have e1:=congrArg (fun y=>y.t) h2
  have e2:=congrArg (fun y=>y.im) h2
  have e3:=congrArg (fun y=>y.ex) h2
  simp only[us1] at e1 e2 e3
  simp only[ok1,Bool.and_eq_true,decide_eq_true_eq] at h1
  rw [← e1,← e2,← e3]
  exact⟨by simp,by simp,by simp⟩
 by_cases k2:x.l.kind=2
 ·simp only[if_neg k1,if_pos k2] at h1 h2
  have e1:=congrArg (fun y=>y.t) h2
  have e2:=congrArg (fun y=>y.im) h2
  have e3:=congrArg (fun y=>y.ex) h2
  simp only[us2] at e1 e2 e3
  simp only[ok2,Bool.and_eq_true,decide_eq_true_eq] at h1
  have l1:=li_mem h1.1.2
  rw [← e2,← e3]
  exact⟨fun n hn=>by have:=l1 n hn; omega,by simp,by simp⟩
 by_cases k3:x.l.kind=3
 ·simp only[if_neg k1,if_neg k2,if_pos k3] at h1 h2
  have e1:=congrArg (fun y=>y.t) h2
  have e2:=congrArg (fun y=>y.im) h2
  have e3:=congrArg (fun y=>y.ex) h2
  simp only[us3] at e1 e2 e3
  simp only[ok3,Bool.and_eq_true,decide_eq_true_eq] at h1
  rw [← e1,← e2,← e3]
  exact⟨by simp,by simp,by simp⟩
 by_cases k4:x.l.kind=4
 ·simp only[if_neg k1,if_neg k2,if_neg k3,if_pos k4] at h1 h2
  have e1:=congrArg (fun y=>y.t) h2
  have e2:=congrArg (fun y=>y.im) h2
  have e3:=congrArg (fun y=>y.ex) h2
  simp only[us4] at e1 e2 e3
  simp only[ok4,Bool.and_eq_true,decide_eq_true_eq] at h1
  rw [← e1,← e2,← e3]
  exact⟨by simp,by simp,by simp⟩
 by_cases k5:x.l.kind=5
 ·simp only[if_neg k1,if_neg k2,if_neg k3,if_neg k4,if_pos k5] at h1 h2
  have e1:=congrArg (fun y=>y.t) h2
  have e2:=congrArg (fun y=>y.im) h2
  have e3:=congrArg (fun y=>y.ex) h2
  simp only[us5] at e1 e2 e3
  simp only[ok5,Bool.and_eq_true,decide_eq_true_eq] at h1
  rw [← e1,← e2,← e3]
  exact⟨by simp,by simp,by simp⟩
 by_cases k6:x.l.kind=6
 ·simp only[if_neg k1,if_neg k2,if_neg k3,if_neg k4,if_neg k5,if_pos k6] at h1 h2
  have e1:=congrArg (fun y=>y.t) h2
  have e2:=congrArg (fun y=>y.im) h2
  have e3:=congrArg (fun y=>y.ex) h2
  simp only[us6] at e1 e2 e3
  simp only[ok6,Bool.and_eq_true,decide_eq_true_eq] at h1
  rw [← e1,← e2,← e3]
  exact⟨by simp,by simp,by simp⟩
 by_cases k7:x.l.kind=7
 ·simp only[if_neg k1,if_neg k2,if_neg k3,if_neg k4,if_neg k5,if_neg k6,if_pos k7] at h1 h2
  have e1:=congrArg (fun y=>y.t) h2
  have e2:=congrArg (fun y=>y.im) h2
  have e3:=congrArg (fun y=>y.ex) h2
  simp only[us7] at e1 e2 e3
  simp only[ok7,Bool.and_eq_true,decide_eq_true_eq] at h1
  rw [← e1,← e2,← e3]
  exact⟨by simp,by simp,by simp⟩
 by_cases k8:x.l.kind=8
 ·simp only[if_neg k1,if_neg k2,if_neg k3,if_neg k4,if_neg k5,if_neg k6,if_neg k7,if_pos k8] at h1 h2
  have e1:=congrArg (fun y=>y.t) h2
  have e2:=congrArg (fun y=>y.im) h2
  have e3:=congrArg (fun y=>y.ex) h2
  simp only[us8] at e1 e2 e3
  simp only[ok8,Bool.and_eq_true,decide_eq_true_eq] at h1
  rw [← e1]
  exact⟨by simp,li_mem h1.1.2,li_mem h1.2⟩
 by_cases k9:x.l.kind=9
 ·simp only[if_neg k1,if_neg k2,if_neg k3,if_neg k4,if_neg k5,if_neg k6,if_neg k7,if_neg k8,if_pos k9] at h1 h2
  have e1:=congrArg (fun y=>y.t) h2
  have e2:=congrArg (fun y=>y.im) h2
  have e3:=congrArg (fun y=>y.ex) h2
  simp only[us9] at e1 e2 e3
  simp only[ok9,Bool.and_eq_true,decide_eq_true_eq] at h1
  rw [← e1,← e2,← e3]
  exact⟨by simp,by simp,by simp⟩
 simp only[if_neg k1,if_neg k2,if_neg k3,if_neg k4,if_neg k5,if_neg k6,if_neg k7,if_neg k8,if_neg k9] at h1
 cases h1
theorem pport_run(r:Int)(a1 a2 a3 a4 a5:List UInt8)(b1 b2 b3 b4 b5 b6:Int)(n1 n2 n3 n4:Nat)(s1 s2 s3 s4:List AV)(f1 f2 f3 f4:Bool)(k:Int)(ws4 ac tr:List (List UInt8))(tv tc tl:List UInt8)(hw:ws4=[[112,111,114,116],a1,a2,tc])
  (q1:Run Tryz.prog 98 [.int .i64 b4] (.str tv)) (q2:Run Tryz.prog 98 [.int .i64 b6] (.str tc)) (q3:Run Tryz.prog 142 [.sl n1 s1 f1] (.str tl)) :
  Run Tryz.prog 139 [lnA ⟨r,k,a1,a2,a3,a4,a5,b1,b2,b3,b4,b5,b6⟩ (.sl n1 s1 f1) (.sl n2 s2 f2) (.sl n3 s3 f3) (.sl n4 s4 f4)] (.own 1 9 ((if s1.length=0 then ws4 ++ [[97,99,99,101,115,115],tv] else ws4 ++ [[116,114,117,110,107],if b4=0 then [45] else tv,tl]).map .str)):=by
 have o1:=of_run ws4
 have o2:=of_run [[97,99,99,101,115,115],tv]
 have o3:=of_run [[116,114,117,110,107],if b4=0 then [45] else tv,tl]
 subst hw
 simp only[List.map_cons,List.map_nil] at o1 o2 o3
 refine Tryz.run139 (by simp) ?_
 unfold Tryz.c139 lnA
 refine wZ ?_
 refine aC q1 rfl rfl ?_
 refine wZ ?_
 refine aD q2 rfl rfl (fun _=>rfl) ?_
 refine wZ ?_
 refine awR_callDF (ms:=[.own 1 9]) o1 (by simp (disch:=try exact dq) only[↓pvd,pz,sC,List.map,seval,true_and]; rfl) (by simp (disch:=try exact dq) only[↓pvd,pz,sC,List.map,seval,true_and]) (by simp [growL,still,ent,lay,layA,layC,layL]) ?_
 by_cases h:s1.length=0
 ·rw [if_pos h]
  have h0:s1=[]:=List.eq_nil_of_length_eq_zero h
  subst h0
  refine wZ ?_
  refine awR_callS (ms:=[.own 1 9]) o2 (by simp (disch:=try exact dq) only[↓pvd,pz,sC,List.map,seval,true_and]; rfl) (by simp (disch:=try exact dq) only[↓pvd,pz,sC,List.map,seval,true_and]) ?_
  simp (disch:=try exact dq) only[↓pvd,pz,sC,List.map,seval,still]
  (refine Ends_rq [[.own 1 9]] ?_; simp (disch:=try exact dq) only[↓pvd,pz,sC,List.map,seval]; exact⟨_,rfl,rfl,rfl⟩)
 ·rw [if_neg h]
  have h':¬(s1.length:Int)=0:=by omega
  by_cases h4:b4=0
  case' pos=>simp only[if_pos h4] at o3 ⊢
  case' neg=>simp only[if_neg h4] at o3 ⊢
  all_goals simp (disch:=try exact dq) only[↓pvd,pz,sC,List.map,seval,h',h4]
  all_goals refine aC q3 rfl rfl ?_
  all_goals simp (disch:=try exact dq) only[↓pvd,pz,sC,List.map,seval,true_and]
  all_goals refine awR_callS (ms:=[.own 1 9]) o3 (by simp (disch:=try exact dq) only[↓pvd,pz,sC,List.map,seval,true_and]; rfl) (by simp (disch:=try exact dq) only[↓pvd,pz,sC,List.map,seval,true_and]) ?_
  all_goals simp (disch:=try exact dq) only[↓pvd,pz,sC,List.map,seval,still]
  all_goals (refine Ends_rq [[.own 1 9]] ?_; simp (disch:=try exact dq) only[↓pvd,pz,sC,List.map,seval]; exact⟨_,rfl,rfl,rfl⟩)
theorem pwords1(r:Int)(a1 a2 a3 a4 a5:List UInt8)(b1 b2 b3 b4 b5 b6:Int)(n1 n2 n3 n4:Nat)(s1 s2 s3 s4:List AV)(f1 f2 f3 f4:Bool)(tv tn:List UInt8)(q0:Run Tryz.prog 29 [lnA ⟨r,1,a1,a2,a3,a4,a5,b1,b2,b3,b4,b5,b6⟩ (.sl n1 s1 f1) (.sl n2 s2 f2) (.sl n3 s3 f3) (.sl n4 s4 f4)] (.bool true))(q1:Run Tryz.prog 98 [.int .i64 b4] (.str tv))(q2:Run Tryz.prog 98 [.int .i64 b5] (.str tn))(tx:List UInt8)(q3:Run Tryz.prog 138 [.int .u64 b1] (.str tx)) :
  Run Tryz.prog 117 [lnA ⟨r,1,a1,a2,a3,a4,a5,b1,b2,b3,b4,b5,b6⟩ (.sl n1 s1 f1) (.sl n2 s2 f2) (.sl n3 s3 f3) (.sl n4 s4 f4)] (.own 1 9 ([[100,101,118,105,99,101],a1,tn,tx].map .str)):=by
 have o1:=of_run [[100,101,118,105,99,101],a1,tn,tx]
 simp only[List.map_cons,List.map_nil] at o1 ⊢
 refine Tryz.run117 (by simp) ?_
 unfold Tryz.c117
 unfold lnA at q0 ⊢
 refine wZ ?_
 refine aC q0 rfl rfl ?_
 refine wZ ?_
 refine aD q1 rfl rfl (fun _=>rfl) ?_
 refine wZ ?_
 refine aD q2 rfl rfl (fun _=>rfl) ?_
 refine wZ ?_
 refine aD q3 rfl rfl (fun _=>rfl) ?_
 refine wZ ?_
 refine awR_callDF (ms:=[.own 1 9]) o1 (by simp (disch:=try exact dq) only[↓pvd,pz,sC,List.map,seval,true_and]; rfl) (by simp (disch:=try exact dq) only[↓pvd,pz,sC,List.map,seval,true_and]) (by simp [growL,still,ent,lay,layA,layC,layL]) ?_
 refine wZ ?_
 (refine Ends_rq [[.own 1 9]] ?_; simp (disch:=try exact dq) only[↓pvd,pz,sC,List.map,seval]; exact⟨_,rfl,rfl,rfl⟩)
theorem pwords3(r:Int)(a1 a2 a3 a4 a5:List UInt8)(b1 b2 b3 b4 b5 b6:Int)(n1 n2 n3 n4:Nat)(s1 s2 s3 s4:List AV)(f1 f2 f3 f4:Bool)(tv tn:List UInt8)(q0:Run Tryz.prog 29 [lnA ⟨r,3,a1,a2,a3,a4,a5,b1,b2,b3,b4,b5,b6⟩ (.sl n1 s1 f1) (.sl n2 s2 f2) (.sl n3 s3 f3) (.sl n4 s4 f4)] (.bool true))(q1:Run Tryz.prog 98 [.int .i64 b4] (.str tv))(q2:Run Tryz.prog 98 [.int .i64 b5] (.str tn)) :
  Run Tryz.prog 117 [lnA ⟨r,3,a1,a2,a3,a4,a5,b1,b2,b3,b4,b5,b6⟩ (.sl n1 s1 f1) (.sl n2 s2 f2) (.sl n3 s3 f3) (.sl n4 s4 f4)] (.own 1 9 ([[108,105,110,107],a1,a2,a3,a4].map .str)):=by
 have o1:=of_run [[108,105,110,107],a1,a2,a3,a4]
 simp only[List.map_cons,List.map_nil] at o1 ⊢
 refine Tryz.run117 (by simp) ?_
 unfold Tryz.c117
 unfold lnA at q0 ⊢
 refine wZ ?_
 refine aC q0 rfl rfl ?_
 refine wZ ?_
 refine aD q1 rfl rfl (fun _=>rfl) ?_
 refine wZ ?_
 refine aD q2 rfl rfl (fun _=>rfl) ?_
 refine wZ ?_
 refine awR_callS (ms:=[.own 1 9]) o1 (by simp (disch:=try exact dq) only[↓pvd,pz,sC,List.map,seval,true_and]; rfl) (by simp (disch:=try exact dq) only[↓pvd,pz,sC,List.map,seval,true_and]) ?_
 simp (disch:=try exact dq) only[↓pvd,pz,sC,List.map,seval,still]
 (refine Ends_rq [[.own 1 9]] ?_; simp (disch:=try exact dq) only[↓pvd,pz,sC,List.map,seval]; exact⟨_,rfl,rfl,rfl⟩)
theorem pwords4(r:Int)(a1 a2 a3 a4 a5:List UInt8)(b1 b2 b3 b4 b5 b6:Int)(n1 n2 n3 n4:Nat)(s1 s2 s3 s4:List AV)(f1 f2 f3 f4:Bool)(tv tn:List UInt8)(q0:Run Tryz.prog 29 [lnA ⟨r,4,a1,a2,a3,a4,a5,b1,b2,b3,b4,b5,b6⟩ (.sl n1 s1 f1) (.sl n2 s2 f2) (.sl n3 s3 f3) (.sl n4 s4 f4)] (.bool true))(q1:Run Tryz.prog 98 [.int .i64 b4] (.str tv))(q2:Run Tryz.prog 98 [.int .i64 b5] (.str tn))(tx:List UInt8)(q3:Run Tryz.prog 138 [.int .u64 b1] (.str tx)) :
  Run Tryz.prog 117 [lnA ⟨r,4,a1,a2,a3,a4,a5,b1,b2,b3,b4,b5,b6⟩ (.sl n1 s1 f1) (.sl n2 s2 f2) (.sl n3 s3 f3) (.sl n4 s4 f4)] (.own 1 9 ([[115,116,97,116,105,99],a1,tv,tx,a2].map .str)):=by
 have o1:=of_run [[115,116,97,116,105,99],a1,tv,tx,a2]
 simp only[List.map_cons,List.map_nil] at o1 ⊢
 refine Tryz.run117 (by simp) ?_
 unfold Tryz.c117
 unfold lnA at q0 ⊢
 refine wZ ?_
 refine aC q0 rfl rfl ?_
 refine wZ ?_
 refine aD q1 rfl rfl (fun _=>rfl) ?_
 refine wZ ?_
 refine aD q2 rfl rfl (fun _=>rfl) ?_
 refine wZ ?_
 refine aD q3 rfl rfl (fun _=>rfl) ?_
 refine wZ ?_
 refine awR_callDF (ms:=[.own 1 9]) o1 (by simp (disch:=try exact dq) only[↓pvd,pz,sC,List.map,seval,true_and]; rfl) (by simp (disch:=try exact dq) only[↓pvd,pz,sC,List.map,seval,true_and]) (by simp [growL,still,ent,lay,layA,layC,layL]) ?_
 refine wZ ?_
 (refine Ends_rq [[.own 1 9]] ?_; simp (disch:=try exact dq) only[↓pvd,pz,sC,List.map,seval]; exact⟨_,rfl,rfl,rfl⟩)
theorem pwords5(r:Int)(a1 a2 a3 a4 a5:List UInt8)(b1 b2 b3 b4 b5 b6:Int)(n1 n2 n3 n4:Nat)(s1 s2 s3 s4:List AV)(f1 f2 f3 f4:Bool)(tv tn:List UInt8)(q0:Run Tryz.prog 29 [lnA ⟨r,5,a1,a2,a3,a4,a5,b1,b2,b3,b4,b5,b6⟩ (.sl n1 s1 f1) (.sl n2 s2 f2) (.sl n3 s3 f3) (.sl n4 s4 f4)] (.bool true))(q1:Run Tryz.prog 98 [.int .i64 b4] (.str tv))(q2:Run Tryz.prog 98 [.int .i64 b5] (.str tn))(tx:List UInt8)(q3:Run Tryz.prog 140 [.int .u32 b2] (.str tx)) :
  Run Tryz.prog 117 [lnA ⟨r,5,a1,a2,a3,a4,a5,b1,b2,b3,b4,b5,b6⟩ (.sl n1 s1 f1) (.sl n2 s2 f2) (.sl n3 s3 f3) (.sl n4 s4 f4)] (.own 1 9 ([[118,116,101,112],a1,tx].map .str)):=by
 have o1:=of_run [[118,116,101,112],a1,tx]
 simp only[List.map_cons,List.map_nil] at o1 ⊢
 refine Tryz.run117 (by simp) ?_
 unfold Tryz.c117
 unfold lnA at q0 ⊢
 refine wZ ?_
 refine aC q0 rfl rfl ?_
 refine wZ ?_
 refine aD q1 rfl rfl (fun _=>rfl) ?_
 refine wZ ?_
 refine aD q2 rfl rfl (fun _=>rfl) ?_
 refine wZ ?_
 refine aD q3 rfl rfl (fun _=>rfl) ?_
 refine wZ ?_
 refine awR_callDF (ms:=[.own 1 9]) o1 (by simp (disch:=try exact dq) only[↓pvd,pz,sC,List.map,seval,true_and]; rfl) (by simp (disch:=try exact dq) only[↓pvd,pz,sC,List.map,seval,true_and]) (by simp [growL,still,ent,lay,layA,layC,layL]) ?_
 refine wZ ?_
 (refine Ends_rq [[.own 1 9]] ?_; simp (disch:=try exact dq) only[↓pvd,pz,sC,List.map,seval]; exact⟨_,rfl,rfl,rfl⟩)
theorem pwords6(r:Int)(a1 a2 a3 a4 a5:List UInt8)(b1 b2 b3 b4 b5 b6:Int)(n1 n2 n3 n4:Nat)(s1 s2 s3 s4:List AV)(f1 f2 f3 f4:Bool)(tv tn:List UInt8)(q0:Run Tryz.prog 29 [lnA ⟨r,6,a1,a2,a3,a4,a5,b1,b2,b3,b4,b5,b6⟩ (.sl n1 s1 f1) (.sl n2 s2 f2) (.sl n3 s3 f3) (.sl n4 s4 f4)] (.bool true))(q1:Run Tryz.prog 98 [.int .i64 b4] (.str tv))(q2:Run Tryz.prog 98 [.int .i64 b5] (.str tn)) :
  Run Tryz.prog 117 [lnA ⟨r,6,a1,a2,a3,a4,a5,b1,b2,b3,b4,b5,b6⟩ (.sl n1 s1 f1) (.sl n2 s2 f2) (.sl n3 s3 f3) (.sl n4 s4 f4)] (.own 1 9 ([[118,110,105],a1,tv,tn].map .str)):=by
 have o1:=of_run [[118,110,105],a1,tv,tn]
 simp only[List.map_cons,List.map_nil] at o1 ⊢
 refine Tryz.run117 (by simp) ?_
 unfold Tryz.c117
 unfold lnA at q0 ⊢
 refine wZ ?_
 refine aC q0 rfl rfl ?_
 refine wZ ?_
 refine aD q1 rfl rfl (fun _=>rfl) ?_
 refine wZ ?_
 refine aD q2 rfl rfl (fun _=>rfl) ?_
 refine wZ ?_
 refine awR_callS (ms:=[.own 1 9]) o1 (by simp (disch:=try exact dq) only[↓pvd,pz,sC,List.map,seval,true_and]; rfl) (by simp (disch:=try exact dq) only[↓pvd,pz,sC,List.map,seval,true_and]) ?_
 simp (disch:=try exact dq) only[↓pvd,pz,sC,List.map,seval,still]
 (refine Ends_rq [[.own 1 9]] ?_; simp (disch:=try exact dq) only[↓pvd,pz,sC,List.map,seval]; exact⟨_,rfl,rfl,rfl⟩)
theorem pwords7(r:Int)(a1 a2 a3 a4 a5:List UInt8)(b1 b2 b3 b4 b5 b6:Int)(n1 n2 n3 n4:Nat)(s1 s2 s3 s4:List AV)(f1 f2 f3 f4:Bool)(tv tn:List UInt8)(q0:Run Tryz.prog 29 [lnA ⟨r,7,a1,a2,a3,a4,a5,b1,b2,b3,b4,b5,b6⟩ (.sl n1 s1 f1) (.sl n2 s2 f2) (.sl n3 s3 f3) (.sl n4 s4 f4)] (.bool true))(q1:Run Tryz.prog 98 [.int .i64 b4] (.str tv))(q2:Run Tryz.prog 98 [.int .i64 b5] (.str tn))(tx:List UInt8)(q3:Run Tryz.prog 141 [.sl n4 s4 f4] (.str tx)) :
  Run Tryz.prog 117 [lnA ⟨r,7,a1,a2,a3,a4,a5,b1,b2,b3,b4,b5,b6⟩ (.sl n1 s1 f1) (.sl n2 s2 f2) (.sl n3 s3 f3) (.sl n4 s4 f4)] (.own 1 9 ([[102,108,111,111,100],a1,tn,tx].map .str)):=by
 have o1:=of_run [[102,108,111,111,100],a1,tn,tx]
 simp only[List.map_cons,List.map_nil] at o1 ⊢
 refine Tryz.run117 (by simp) ?_
 unfold Tryz.c117
 unfold lnA at q0 ⊢
 refine wZ ?_
 refine aC q0 rfl rfl ?_
 refine wZ ?_
 refine aD q1 rfl rfl (fun _=>rfl) ?_
 refine wZ ?_
 refine aD q2 rfl rfl (fun _=>rfl) ?_
 refine wZ ?_
 refine aD q3 rfl rfl (fun _=>rfl) ?_
 refine wZ ?_
 refine awR_callDF (ms:=[.own 1 9]) o1 (by simp (disch:=try exact dq) only[↓pvd,pz,sC,List.map,seval,true_and]; rfl) (by simp (disch:=try exact dq) only[↓pvd,pz,sC,List.map,seval,true_and]) (by simp [growL,still,ent,lay,layA,layC,layL]) ?_
 refine wZ ?_
 (refine Ends_rq [[.own 1 9]] ?_; simp (disch:=try exact dq) only[↓pvd,pz,sC,List.map,seval]; exact⟨_,rfl,rfl,rfl⟩)
theorem pwords8(r:Int)(a1 a2 a3 a4 a5:List UInt8)(b1 b2 b3 b4 b5 b6:Int)(n1 n2 n3 n4:Nat)(s1 s2 s3 s4:List AV)(f1 f2 f3 f4:Bool)(tv tn:List UInt8)(q0:Run Tryz.prog 29 [lnA ⟨r,8,a1,a2,a3,a4,a5,b1,b2,b3,b4,b5,b6⟩ (.sl n1 s1 f1) (.sl n2 s2 f2) (.sl n3 s3 f3) (.sl n4 s4 f4)] (.bool true))(q1:Run Tryz.prog 98 [.int .i64 b4] (.str tv))(q2:Run Tryz.prog 98 [.int .i64 b5] (.str tn))(tx ty:List UInt8)(q3:Run Tryz.prog 142 [.sl n2 s2 f2] (.str tx))(q4:Run Tryz.prog 142 [.sl n3 s3 f3] (.str ty)) :
  Run Tryz.prog 117 [lnA ⟨r,8,a1,a2,a3,a4,a5,b1,b2,b3,b4,b5,b6⟩ (.sl n1 s1 f1) (.sl n2 s2 f2) (.sl n3 s3 f3) (.sl n4 s4 f4)] (.own 1 9 ([[118,114,102],a1,a5,tx,ty].map .str)):=by
 have o1:=of_run [[118,114,102],a1,a5,tx,ty]
 simp only[List.map_cons,List.map_nil] at o1 ⊢
 refine Tryz.run117 (by simp) ?_
 unfold Tryz.c117
 unfold lnA at q0 ⊢
 refine wZ ?_
 refine aC q0 rfl rfl ?_
 refine wZ ?_
 refine aD q1 rfl rfl (fun _=>rfl) ?_
 refine wZ ?_
 refine aD q2 rfl rfl (fun _=>rfl) ?_
 refine wZ ?_
 refine aD q3 rfl rfl (fun _=>rfl) ?_
 refine wZ ?_
 refine aD q4 rfl rfl (fun _=>rfl) ?_
 refine wZ ?_
 refine awR_callDF (ms:=[.own 1 9]) o1 (by simp (disch:=try exact dq) only[↓pvd,pz,sC,List.map,seval,true_and]; rfl) (by simp (disch:=try exact dq) only[↓pvd,pz,sC,List.map,seval,true_and]) (by simp [growL,still,ent,lay,layA,layC,layL]) ?_
 refine wZ ?_
 (refine Ends_rq [[.own 1 9]] ?_; simp (disch:=try exact dq) only[↓pvd,pz,sC,List.map,seval]; exact⟨_,rfl,rfl,rfl⟩)
theorem pwords9(r:Int)(a1 a2 a3 a4 a5:List UInt8)(b1 b2 b3 b4 b5 b6:Int)(n1 n2 n3 n4:Nat)(s1 s2 s3 s4:List AV)(f1 f2 f3 f4:Bool)(tv tn:List UInt8)(q0:Run Tryz.prog 29 [lnA ⟨r,9,a1,a2,a3,a4,a5,b1,b2,b3,b4,b5,b6⟩ (.sl n1 s1 f1) (.sl n2 s2 f2) (.sl n3 s3 f3) (.sl n4 s4 f4)] (.bool true))(q1:Run Tryz.prog 98 [.int .i64 b4] (.str tv))(q2:Run Tryz.prog 98 [.int .i64 b5] (.str tn))(tx:List UInt8)(q3:Run Tryz.prog 143 [pfx b2 b3] (.str tx)) :
  Run Tryz.prog 117 [lnA ⟨r,9,a1,a2,a3,a4,a5,b1,b2,b3,b4,b5,b6⟩ (.sl n1 s1 f1) (.sl n2 s2 f2) (.sl n3 s3 f3) (.sl n4 s4 f4)] (.own 1 9 ([[105,114,98],a1,tv,a5,tx].map .str)):=by
 have o1:=of_run [[105,114,98],a1,tv,a5,tx]
 simp only[List.map_cons,List.map_nil] at o1 ⊢
 refine Tryz.run117 (by simp) ?_
 unfold Tryz.c117
 unfold lnA at q0 ⊢
 refine wZ ?_
 refine aC q0 rfl rfl ?_
 refine wZ ?_
 refine aD q1 rfl rfl (fun _=>rfl) ?_
 refine wZ ?_
 refine aD q2 rfl rfl (fun _=>rfl) ?_
 refine wZ ?_
 refine aD q3 rfl rfl (fun _=>rfl) ?_
 refine wZ ?_
 refine awR_callDF (ms:=[.own 1 9]) o1 (by simp (disch:=try exact dq) only[↓pvd,pz,sC,List.map,seval,true_and]; rfl) (by simp (disch:=try exact dq) only[↓pvd,pz,sC,List.map,seval,true_and]) (by simp [growL,still,ent,lay,layA,layC,layL]) ?_
 refine wZ ?_
 (refine Ends_rq [[.own 1 9]] ?_; simp (disch:=try exact dq) only[↓pvd,pz,sC,List.map,seval]; exact⟨_,rfl,rfl,rfl⟩)
theorem pwords2(r:Int)(a1 a2 a3 a4 a5:List UInt8)(b1 b2 b3 b4 b5 b6:Int)(n1 n2 n3 n4:Nat)(s1 s2 s3 s4:List AV)(f1 f2 f3 f4:Bool)(tv tn:List UInt8)(ws:List (List UInt8))(q0:Run Tryz.prog 29 [lnA ⟨r,2,a1,a2,a3,a4,a5,b1,b2,b3,b4,b5,b6⟩ (.sl n1 s1 f1) (.sl n2 s2 f2) (.sl n3 s3 f3) (.sl n4 s4 f4)] (.bool true))(q1:Run Tryz.prog 98 [.int .i64 b4] (.str tv))(q2:Run Tryz.prog 98 [.int .i64 b5] (.str tn))
  (q3:Run Tryz.prog 139 [lnA ⟨r,2,a1,a2,a3,a4,a5,b1,b2,b3,b4,b5,b6⟩ (.sl n1 s1 f1) (.sl n2 s2 f2) (.sl n3 s3 f3) (.sl n4 s4 f4)] (.own 1 9 (ws.map .str))) :
  Run Tryz.prog 117 [lnA ⟨r,2,a1,a2,a3,a4,a5,b1,b2,b3,b4,b5,b6⟩ (.sl n1 s1 f1) (.sl n2 s2 f2) (.sl n3 s3 f3) (.sl n4 s4 f4)] (.own 1 9 (ws.map .str)):=by
 refine Tryz.run117 (by simp) ?_
 unfold Tryz.c117
 unfold lnA at q0 q3 ⊢
 refine wZ ?_
 refine aC q0 rfl rfl ?_
 refine wZ ?_
 refine aD q1 rfl rfl (fun _=>rfl) ?_
 refine wZ ?_
 refine aD q2 rfl rfl (fun _=>rfl) ?_
 refine wZ ?_
 refine aC q3 rfl rfl ?_
 have hl:(ws.map AV.str).length=ws.length:=by simp
 simp (disch:=try exact dq) only[↓pvd,pz,sC,List.map,seval,hl]
 (refine Ends_rq [[.own 1 9]] ?_; simp (disch:=try exact dq) only[↓pvd,pz,sC,List.map,seval,mapO_map str_nr,rows_map str_nr,hl]; exact⟨_,rfl,rfl,rfl⟩)
end Go.Proofs
