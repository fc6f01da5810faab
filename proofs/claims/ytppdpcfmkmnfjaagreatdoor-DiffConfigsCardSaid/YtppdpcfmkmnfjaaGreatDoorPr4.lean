/- The proofs of what the functions of this seat do. -/
import Derived.Test.YtppdpcfmkmnfjaaGreatDoorPr3
set_option linter.unusedSimpArgs false
set_option linter.unusedVariables false
set_option maxHeartbeats 2000000
set_option maxRecDepth 20000
namespace Go.Proofs
open Go.Pv
def gI(least most:Int)(p:List UInt8):Int × Bool:=Nm.rdF p least most
set_option maxHeartbeats 4000000 in
theorem rdlist_run(s:List UInt8)(least most:Int)(hs:s.length≤1000):Run Tryz.prog 71 [.str s,.int .i64 least,.int .i64 most] (rlR 3 .i64 (gI least most) (sc s)):=by
 have q:=rdi_run s least most hs (gI least most) rfl (fun p hp=>by have:=Nm.rl1_run p least most (by omega); unfold Nm.rdR at this; exact this)
 refine Tryz.run71 (by simp) ?_
 unfold Tryz.c71
 by_cases h:rlF (gI least most) (sc s)=true
 ·rw [rlR_yes h] at q ⊢
  generalize ((sc s).map fun p=>(gI least most p).1)=vs at *
  refine vZ ?_
  refine awR_callR (ms:=[]) q (by simp (disch:=try exact dq) only[↓pvd,pz,sC,List.map,seval,snp_fn,snp_eptr,rws_fn,rws_eptr,Option.toList_some]; rfl) (by simp (disch:=try exact dq) only[↓pvd,pz,sC,List.map,seval,snp_fn,snp_eptr,rws_fn,rws_eptr,Option.toList_some]) (by first | rfl | simp [AV.pT,AV.pA,AV.pC,AV.p1,AV.p0]) ?_
  refine vZ ?_
  (refine Ends_rq [[.own 1 3],[.snap]] ?_; simp (disch:=try exact dq) only[↓pvd,pz,sC,List.map,seval,iM (int_pl .i64),rM (int_pl .i64),mapO_map (int_nr .i64),rows_map (int_nr .i64)]; exact⟨_,rfl,rfl,rfl⟩)
 ·rw [rlR_no h] at q ⊢
  refine vZ ?_
  refine awR_callR (ms:=[]) q (by simp (disch:=try exact dq) only[↓pvd,pz,sC,List.map,seval,snp_fn,snp_eptr,rws_fn,rws_eptr,Option.toList_some]; rfl) (by simp (disch:=try exact dq) only[↓pvd,pz,sC,List.map,seval,snp_fn,snp_eptr,rws_fn,rws_eptr,Option.toList_some]) (by first | rfl | simp [AV.pT,AV.pA,AV.pC,AV.p1,AV.p0]) ?_
  refine vZ ?_
  exact eZ
theorem rdaddrs_run(s:List UInt8)(hs:s.length≤1000):Run Tryz.prog 41 [.str s] (rlR 35 .u32 rdB (sc s)):=by
 have q:=rdu_run s hs rdB rfl (fun p hp=>by have:=read_run p (by omega); rw [rdB_eq] at this; exact this)
 refine Tryz.run41 (by simp) ?_
 unfold Tryz.c41
 by_cases h:rlF rdB (sc s)=true
 ·rw [rlR_yes h] at q ⊢
  generalize ((sc s).map fun p=>(rdB p).1)=vs at *
  refine vZ ?_
  refine awR_callR (ms:=[]) q (by simp (disch:=try exact dq) only[↓pvd,pz,sC,List.map,seval,snp_fn,snp_eptr,rws_fn,rws_eptr,Option.toList_some]; rfl) (by simp (disch:=try exact dq) only[↓pvd,pz,sC,List.map,seval,snp_fn,snp_eptr,rws_fn,rws_eptr,Option.toList_some]) (by first | rfl | simp [AV.pT,AV.pA,AV.pC,AV.p1,AV.p0]) ?_
  refine vZ ?_
  (refine Ends_rq [[.own 1 35],[.snap]] ?_; simp (disch:=try exact dq) only[↓pvd,pz,sC,List.map,seval,iM (int_pl .u32),rM (int_pl .u32),mapO_map (int_nr .u32),rows_map (int_nr .u32)]; exact⟨_,rfl,rfl,rfl⟩)
 ·rw [rlR_no h] at q ⊢
  refine vZ ?_
  refine awR_callR (ms:=[]) q (by simp (disch:=try exact dq) only[↓pvd,pz,sC,List.map,seval,snp_fn,snp_eptr,rws_fn,rws_eptr,Option.toList_some]; rfl) (by simp (disch:=try exact dq) only[↓pvd,pz,sC,List.map,seval,snp_fn,snp_eptr,rws_fn,rws_eptr,Option.toList_some]) (by first | rfl | simp [AV.pT,AV.pA,AV.pC,AV.p1,AV.p0]) ?_
  refine vZ ?_
  exact eZ
end Go.Proofs
namespace Go.Proofs
open Go.Pv
theorem ris_next{l:List Int}{k:Nat}(h:k < l.length):risF (l.take (k+1)) =(risF (l.take k) && decide (k=0∨l[k - 1]! < l[k]!)):=by
 cases k with
 | zero =>
  rw [take_snoc h]
  simp [risF]
 | succ k =>
  rw [take_snoc h,take_snoc (by omega:k < l.length),risF_snoc]
  simp
theorem ris_no{l:List Int}{k:Nat}(h:k < l.length)(h0:¬(k=0∨l[k - 1]! < l[k]!)):risF l=false:=by
 cases hr:risF l with
 | false=>rfl
 | true =>
  have e:l=l.take (k+1) ++ l.drop (k+1):=(List.take_append_drop _ _).symm
  rw [e] at hr
  have:=risF_app _ _ hr
  rw [ris_next h,decide_eq_false h0,Bool.and_false] at this
  cases this
def rsF(l:List Int)(a b:Int):Bool:=(l.all fun n=>decide (a≤n∧n≤b)) && risF l && decide (0 < l.length∧l.length≤16)
theorem rs_no1{l:List Int}{a b:Int}{k:Nat}(h:k < l.length)(h0:¬(a≤l[k]!∧l[k]!≤b)):rsF l a b=false:=by
 have:(l.all fun n=>decide (a≤n∧n≤b))=false:=by
  rw [List.all_eq_false]
  exact⟨l[k]!,by rw [getElem!_pos l k h]; exact List.getElem_mem h,by rw [decide_eq_false h0]; simp⟩
 unfold rsF
 rw [this]
 rfl
theorem rs_no2{l:List Int}{a b:Int}{k:Nat}(h:k < l.length)(h0:¬(k=0∨l[k - 1]! < l[k]!)):rsF l a b=false:=by
 unfold rsF
 rw [ris_no h h0,Bool.and_false,Bool.false_and]
theorem rs_yes{l:List Int}{a b:Int}(h:∀ j < l.length,a≤l[j]!∧l[j]!≤b)(h0:risF l=true):rsF l a b=decide (0 < l.length∧l.length≤16):=by
 have:(l.all fun n=>decide (a≤n∧n≤b))=true:=by
  rw [List.all_eq_true]
  intro c hc
  obtain ⟨k,hk,rfl⟩:=List.mem_iff_getElem.1 hc
  have:=h k hk
  rw [getElem!_pos l k hk] at this
  exact decide_eq_true this
 unfold rsF
 rw [this,h0]
 simp
theorem ising_run(l:List Int)(f:Bool)(a b:Int)(hl:l.length≤100000):Run Tryz.prog 124 [.sl 1 (l.map (.int .i64)) f,.int .i64 a,.int .i64 b] (.bool (rsF l a b)):=by
 refine Tryz.run124 (by simp) ?_
 unfold Tryz.c124
 refine vZ ?_
 refine aw_loop (fun k:Nat=>⟨[(0,.sl 1 (l.map (.int .i64)) f),(1,.int .i64 a),(2,.int .i64 b),(9,.sl 1 (l.map (.int .i64)) f),(10,.int .i64 l.length),(11,.int .i64 k)],[]⟩) (fun k=>k≤l.length ∧(∀ j < k,a≤l[j]!∧l[j]!≤b)∧risF (l.take k)=true) (fun k=>l.length - k) 0 ?_ ⟨by omega,by simp,rfl⟩ ?_
 ·refine vZ ?_
  try simp
 rintro k ⟨hk,hp,hr⟩
 unfold Tryz.c124b0
 by_cases hx:k < l.length
 ·have hgi:(l.map (AV.int .i64))[k]?=some (.int .i64 l[k]!):=mG hx
  have hn:=ris_next hx
  rw [hr,Bool.true_and] at hn
  by_cases h1:a≤l[k]!∧l[k]!≤b
  ·have nx:(k=0∨l[k - 1]! < l[k]!)→k+1≤l.length ∧(∀ j < k+1,a≤l[j]!∧l[j]!≤b)∧risF (l.take (k+1))=true:=fun h=>⟨hx,fun j hj=>by
    by_cases e:j=k
    ·rw [e]; exact h1
    ·exact hp j (by omega),by rw [hn]; exact decide_eq_true h⟩
   have h2:=h1.1
   have h3:=h1.2
   by_cases h0:k=0
   ·have:=nx (.inl h0)
    subst h0
    repeat' (first | (simp (disch:=try exact dq) only[↓pvd,pz,sC,List.map,seval,hgi,still]) | (with_reducible first|refine cB (fun _=>?_) (fun _=>?_)|refine gB (fun _=>?_) (fun _=>?_)|refine hB (fun _=>?_) (fun _=>?_)|refine cA ?_ ?_) | exact eZ | fail)
    exact⟨0+1,rfl,this,by omega⟩
   ·have hix:((k:Int) - 1).toNat=k - 1:=by omega
    have hgj:(l.map (AV.int .i64))[k - 1]?=some (.int .i64 l[k - 1]!):=mG (by omega)
    have:0 < k:=by omega
    by_cases h4:l[k - 1]! < l[k]!
    ·have:=nx (.inr h4)
     repeat' (first | (simp (disch:=try exact dq) only[↓pvd,pz,sC,List.map,seval,hgi,hix,hgj,still]) | (with_reducible first|refine cB (fun _=>?_) (fun _=>?_)|refine gB (fun _=>?_) (fun _=>?_)|refine hB (fun _=>?_) (fun _=>?_)|refine cA ?_ ?_) | exact eZ | fail)
     exact⟨k+1,rfl,this,by omega⟩
    ·rw [rs_no2 hx (fun h=>h.elim h0 h4)]
     repeat' (first | (simp (disch:=try exact dq) only[↓pvd,pz,sC,List.map,seval,hgi,hix,hgj,still]) | (with_reducible first|refine cB (fun _=>?_) (fun _=>?_)|refine gB (fun _=>?_) (fun _=>?_)|refine hB (fun _=>?_) (fun _=>?_)|refine cA ?_ ?_) | exact eZ | fail)
  ·rw [rs_no1 hx h1]
   by_cases h2:l[k]! < a
   ·repeat' (first | (simp (disch:=try exact dq) only[↓pvd,pz,sC,List.map,seval,hgi,still]) | (with_reducible first|refine cB (fun _=>?_) (fun _=>?_)|refine gB (fun _=>?_) (fun _=>?_)|refine hB (fun _=>?_) (fun _=>?_)|refine cA ?_ ?_) | exact eZ | fail)
   ·have:b < l[k]!:=by omega
    repeat' (first | (simp (disch:=try exact dq) only[↓pvd,pz,sC,List.map,seval,hgi,still]) | (with_reducible first|refine cB (fun _=>?_) (fun _=>?_)|refine gB (fun _=>?_) (fun _=>?_)|refine hB (fun _=>?_) (fun _=>?_)|refine cA ?_ ?_) | exact eZ | fail)
 ·have e:k=l.length:=by omega
  subst e
  rw [List.take_length] at hr
  rw [rs_yes hp hr]
  by_cases h1:0 < l.length
  ·by_cases h2:l.length≤16
   ·rw [decide_eq_true ⟨h1,h2⟩]
    repeat' (first | (simp (disch:=try exact dq) only[↓pvd,pz,sC,List.map,seval,List.length_map,still]) | (with_reducible first|refine cB (fun _=>?_) (fun _=>?_)|refine gB (fun _=>?_) (fun _=>?_)|refine hB (fun _=>?_) (fun _=>?_)|refine cA ?_ ?_) | exact eZ | fail)
   ·rw [decide_eq_false (fun h=>h2 h.2)]
    repeat' (first | (simp (disch:=try exact dq) only[↓pvd,pz,sC,List.map,seval,List.length_map,still]) | (with_reducible first|refine cB (fun _=>?_) (fun _=>?_)|refine gB (fun _=>?_) (fun _=>?_)|refine hB (fun _=>?_) (fun _=>?_)|refine cA ?_ ?_) | exact eZ | fail)
  ·rw [decide_eq_false (fun h=>h1 h.1)]
   repeat' (first | (simp (disch:=try exact dq) only[↓pvd,pz,sC,List.map,seval,List.length_map,still]) | (with_reducible first|refine cB (fun _=>?_) (fun _=>?_)|refine gB (fun _=>?_) (fun _=>?_)|refine hB (fun _=>?_) (fun _=>?_)|refine cA ?_ ?_) | exact eZ | fail)
theorem rising_run(l:List Int)(f:Bool)(a b:Int)(hl:l.length≤100000):Run Tryz.prog 133 [.sl 1 (l.map (.int .i64)) f,.int .i64 a,.int .i64 b] (.bool (rsF l a b)):=by
 refine Tryz.run133 (by simp) ?_
 unfold Tryz.c133
 by_cases hln:0 < l.length∧l.length≤16
 case neg =>
  have:rsF l a b=false:=by unfold rsF; rw [decide_eq_false hln,Bool.and_false]
  rw [this]
  by_cases h1:0 < l.length
  ·have:16 < l.length:=by omega
   repeat' (first | (simp (disch:=try exact dq) only[↓pvd,pz,sC,List.map,seval,List.length_map,still]) | (with_reducible first|refine cB (fun _=>?_) (fun _=>?_)|refine gB (fun _=>?_) (fun _=>?_)|refine hB (fun _=>?_) (fun _=>?_)|refine cA ?_ ?_) | exact eZ | fail)
  ·repeat' (first | (simp (disch:=try exact dq) only[↓pvd,pz,sC,List.map,seval,List.length_map,still]) | (with_reducible first|refine cB (fun _=>?_) (fun _=>?_)|refine gB (fun _=>?_) (fun _=>?_)|refine hB (fun _=>?_) (fun _=>?_)|refine cA ?_ ?_) | exact eZ | fail)
 have hln1:=hln.1
 have hln2:=hln.2
 repeat' (first | (simp (disch:=try exact dq) only[↓pvd,pz,sC,List.map,seval,List.length_map,still]) | (with_reducible first|refine cB (fun _=>?_) (fun _=>?_)|refine gB (fun _=>?_) (fun _=>?_)|refine hB (fun _=>?_) (fun _=>?_)|refine cA ?_ ?_) | exact eZ | fail)
 refine aw_loop (fun k:Nat=>⟨[(0,.sl 1 (l.map (.int .i64)) f),(1,.int .i64 a),(2,.int .i64 b),(7,.int .i64 k)],[]⟩) (fun k=>k≤l.length ∧(∀ j < k,a≤l[j]!∧l[j]!≤b)∧risF (l.take k)=true) (fun k=>l.length - k) 0 ?_ ⟨by omega,by simp,rfl⟩ ?_
 ·refine vZ ?_
  try simp
 rintro k ⟨hk,hp,hr⟩
 unfold Tryz.c133b0
 by_cases hx:k < l.length
 ·have hgi:(l.map (AV.int .i64))[k]?=some (.int .i64 l[k]!):=mG hx
  have hn:=ris_next hx
  rw [hr,Bool.true_and] at hn
  by_cases h1:a≤l[k]!∧l[k]!≤b
  ·have nx:(k=0∨l[k - 1]! < l[k]!)→k+1≤l.length ∧(∀ j < k+1,a≤l[j]!∧l[j]!≤b)∧risF (l.take (k+1))=true:=fun h=>⟨hx,fun j hj=>by
    by_cases e:j=k
    ·rw [e]; exact h1
    ·exact hp j (by omega),by rw [hn]; exact decide_eq_true h⟩
   have h2:=h1.1
   have h3:=h1.2
   by_cases h0:k=0
   ·have:=nx (.inl h0)
    subst h0
    repeat' (first | (simp (disch:=try exact dq) only[↓pvd,pz,sC,List.map,seval,hgi,List.length_map,still]) | (with_reducible first|refine cB (fun _=>?_) (fun _=>?_)|refine gB (fun _=>?_) (fun _=>?_)|refine hB (fun _=>?_) (fun _=>?_)|refine cA ?_ ?_) | exact eZ | fail)
    exact⟨0+1,rfl,this,by omega⟩
   ·have hix:((k:Int) - 1).toNat=k - 1:=by omega
    have hgj:(l.map (AV.int .i64))[k - 1]?=some (.int .i64 l[k - 1]!):=mG (by omega)
    have:0 < k:=by omega
    by_cases h4:l[k - 1]! < l[k]!
    ·have:=nx (.inr h4)
     repeat' (first | (simp (disch:=try exact dq) only[↓pvd,pz,sC,List.map,seval,hgi,hix,hgj,List.length_map,still]) | (with_reducible first|refine cB (fun _=>?_) (fun _=>?_)|refine gB (fun _=>?_) (fun _=>?_)|refine hB (fun _=>?_) (fun _=>?_)|refine cA ?_ ?_) | exact eZ | fail)
     exact⟨k+1,rfl,this,by omega⟩
    ·rw [rs_no2 hx (fun h=>h.elim h0 h4)]
     repeat' (first | (simp (disch:=try exact dq) only[↓pvd,pz,sC,List.map,seval,hgi,hix,hgj,List.length_map,still]) | (with_reducible first|refine cB (fun _=>?_) (fun _=>?_)|refine gB (fun _=>?_) (fun _=>?_)|refine hB (fun _=>?_) (fun _=>?_)|refine cA ?_ ?_) | exact eZ | fail)
  ·rw [rs_no1 hx h1]
   by_cases h2:l[k]! < a
   ·repeat' (first | (simp (disch:=try exact dq) only[↓pvd,pz,sC,List.map,seval,hgi,List.length_map,still]) | (with_reducible first|refine cB (fun _=>?_) (fun _=>?_)|refine gB (fun _=>?_) (fun _=>?_)|refine hB (fun _=>?_) (fun _=>?_)|refine cA ?_ ?_) | exact eZ | fail)
   ·have:b < l[k]!:=by omega
    repeat' (first | (simp (disch:=try exact dq) only[↓pvd,pz,sC,List.map,seval,hgi,List.length_map,still]) | (with_reducible first|refine cB (fun _=>?_) (fun _=>?_)|refine gB (fun _=>?_) (fun _=>?_)|refine hB (fun _=>?_) (fun _=>?_)|refine cA ?_ ?_) | exact eZ | fail)
 ·have e:k=l.length:=by omega
  subst e
  rw [List.take_length] at hr
  rw [rs_yes hp hr,decide_eq_true hln]
  repeat' (first | (simp (disch:=try exact dq) only[↓pvd,pz,sC,List.map,seval,List.length_map,still]) | (with_reducible first|refine cB (fun _=>?_) (fun _=>?_)|refine gB (fun _=>?_) (fun _=>?_)|refine hB (fun _=>?_) (fun _=>?_)|refine cA ?_ ?_) | exact eZ | fail)
end Go.Proofs
namespace Go.Proofs
namespace Mc
open Go.Pv
theorem shift_run(i:Int)(h:0≤i)(h':i≤5):Run Tryz.prog 153 [.int .i64 i] (.int .u64 (8 *(5 - i))):=by
 refine Tryz.run153 (by simp) ?_
 unfold Tryz.c153
 refine vZ ?_
 exact eZ
def dg(c:UInt8):Int:=if 48≤c.toNat∧c.toNat≤57 then c.toNat - 48 else if 97≤c.toNat∧c.toNat≤102 then c.toNat - 87 else 16
theorem digit_run(c:UInt8):Run Tryz.prog 99 [.int .u8 c.toNat] (.int .u64 (dg c)):=by
 have hc:=c.toNat_lt
 refine Tryz.run99 (by simp) ?_
 unfold Tryz.c99
 repeat' (first | simp (disch:=try exact dq) only[↓pvd,pz,sC,List.map,seval] | (with_reducible first|refine cB (fun _=>?_) (fun _=>?_)|refine gB (fun _=>?_) (fun _=>?_)|refine hB (fun _=>?_) (fun _=>?_)|refine cA ?_ ?_))
 all_goals ((unfold dg; simp (disch:=omega) only[if_pos,if_neg]); refine Ends_rq [] ?_; simp (disch:=try exact dr) only[↓pvd,pz,sC,List.map,seval]; exact⟨_,rfl,by first | rfl | (simp only[AV.int.injEq,true_and]; omega),rfl⟩)
theorem div_pow{m:Int}{j:Nat}:m / 256 ^ j / 256=m / 256 ^ (j+1):=by
 rw [Int.ediv_ediv_of_nonneg (Int.le_of_lt (Int.pow_pos (by decide)))]; rfl
def mb(m:Int):List UInt8:=[u8i (m / 1099511627776),u8i (m / 4294967296),u8i (m / 16777216),u8i (m / 65536),u8i (m / 256),u8i m]
theorem bytes_run(m:Int)(h:0≤m)(h':m < 18446744073709551616):Run Tryz.prog 131 [.int .u64 m] (.own 1 5 (bys (mb m))):=by
 refine Tryz.run131 (by simp) ?_
 unfold Tryz.c131
 refine vZ ?_
 refine aw_loop (fun k:Nat=>⟨[(0,.int .u64 m),(3,.vec 0 1 0 k),(4,.int .i64 (5 - k))],[some ⟨5,bys ((mb m).take k),true⟩]⟩) (fun k=>k≤6) (fun k=>6 - k) 0 ?_ (by omega) ?_
 ·exact uZ
 intro k hk
 unfold Tryz.c131b1
 refine vZ ?_
 refine cB (fun hc=>?_) (fun hc=>?_)
 ·refine vZ ?_
  refine aw_loop (fun j:Nat=>⟨[(0,.int .u64 m),(3,.vec 0 1 0 k),(4,.int .i64 (5 - k)),(5,.int .u64 (m / 256 ^ j)),(6,.int .i64 j)],[some ⟨5,bys ((mb m).take k),true⟩]⟩) (fun j=>j≤5 - k) (fun j=>5 - k - j) 0 ?_ (by omega) ?_
  ·refine vZ ?_
   simp
  intro j hj
  have hp:0≤m / 256 ^ j∧m / 256 ^ j≤m:=⟨Int.ediv_nonneg h (Int.le_of_lt (Int.pow_pos (by decide))),Int.ediv_le_self _ h⟩
  unfold Tryz.c131b0
  refine vZ ?_
  refine cB (fun hd=>?_) (fun hd=>?_)
  ·refine vZ ?_
   exact⟨j+1,by rw [div_pow]; simp,by omega,by omega⟩
  ·have hj2:j=5 - k:=by omega
   have hl:((mb m).take k).length=k:=by simp [mb]; omega
   have ht:(mb m).take k ++ [u8i (m / 256 ^ j)] =(mb m).take (k+1):=by
    subst hj2
    have:k=0∨k=1∨k=2∨k=3∨k=4∨k=5:=by omega
    rcases this with rfl | rfl | rfl | rfl | rfl | rfl <;> simp [mb]
   generalize m / 256 ^ j=q at *
   generalize (mb m).take k=l at *
   refine vZ ?_
   exact⟨k+1,by rw [← ht]; simp [bys,bv_u8i]; omega,by omega,by omega⟩
 ·have:k=6:=by omega
  subst this
  refine vZ ?_
  (refine Ends_rq [[.own 1 5]] ?_; simp (disch:=try exact dq) only[↓pvd,pz,sC,List.map,seval]; exact⟨_,rfl,rfl,rfl⟩)
end Mc
end Go.Proofs
namespace Go.Proofs
namespace Mc
open Go.Pv
theorem nat_and_pow(n j:Nat):n &&& 2 ^ j=n / 2 ^ j % 2 * 2 ^ j:=by
 apply Nat.eq_of_testBit_eq
 intro i
 rw [Nat.testBit_and,Nat.testBit_two_pow,Nat.testBit_mul_two_pow]
 have e:n / 2 ^ j % 2=n / 2 ^ j % 2 ^ 1:=by simp
 rw [e,Nat.testBit_mod_two_pow,Nat.testBit_div_two_pow]
 by_cases h:j=i
 ·subst h; simp
 ·by_cases h2:j≤i
  ·simp [h]; omega
  ·simp [h,h2]
theorem and_40{m:Int}(h:0≤m)(h':m < 18446744073709551616):and2 .u64 m 1099511627776=m / 1099511627776 % 2 * 1099511627776:=by
 obtain ⟨n,rfl⟩:=Int.eq_ofNat_of_zero_le h
 unfold and2
 rw [BitVec.toNat_and,ofInt_toNat h (by rw [bits_u64]; omega),ofInt_toNat (by omega) (by rw [bits_u64]; omega)]
 have e:(1099511627776:Int).toNat=2 ^ 40:=rfl
 rw [e,Int.toNat_natCast,nat_and_pow,wrap_u64]
 omega
theorem group_run(m:Int)(h:0≤m)(h':m < 18446744073709551616):Run Tryz.prog 101 [.int .u64 m] (.bool (decide (m / 1099511627776 % 2=1))):=by
 refine Tryz.run101 (by simp) ?_
 unfold Tryz.c101
 simp (disch:=try exact dq) only[↓pvd,pz,sC,List.map,seval,and_40]
 refine Ends_rq [] ?_
 refine vZ ?_
 exact⟨_,rfl,by simp only[AV.bool.injEq,decide_eq_decide]; omega,rfl⟩
theorem ref_group_run(m:Int)(h:0≤m)(h':m < 18446744073709551616):Run Tryz.prog 111 [.int .u64 m] (.bool (decide (m / 1099511627776 % 2=1))):=by
 refine Tryz.run111 (by simp) ?_
 unfold Tryz.c111
 refine vZ ?_
 refine aC (bytes_run m h h') rfl rfl ?_
 simp (disch:=try exact dq) only[↓pvd,pz,sC,List.map,seval,mb,u8i_nat]
 refine Ends_rq [] ?_
 refine vZ ?_
 exact⟨_,rfl,by simp only[AV.bool.injEq,decide_eq_decide]; omega,rfl⟩
def ish(m:Int):Int × Bool:=if m / 4294967296 % 65536=512 then(m % 4294967296,true) else(0,false)
theorem ishost_run(m:Int)(h:0≤m)(h':m < 18446744073709551616):Run Tryz.prog 100 [.int .u64 m] (.tup [.int .u32 (ish m).1,.bool (ish m).2]):=by
 refine Tryz.run100 (by simp) ?_
 unfold Tryz.c100
 repeat' (first | simp (disch:=try exact dq) only[↓pvd,pz,sC,List.map,seval] | (with_reducible first|refine cB (fun _=>?_) (fun _=>?_)|refine gB (fun _=>?_) (fun _=>?_)|refine hB (fun _=>?_) (fun _=>?_)|refine cA ?_ ?_))
 all_goals ((unfold ish; simp (disch:=omega) only[if_pos,if_neg]); refine Ends_rq [] ?_; simp (disch:=try exact dr) only[↓pvd,pz,sC,List.map,seval]; exact⟨_,rfl,by first | rfl | (simp only[AV.tup.injEq,List.cons.injEq,AV.int.injEq,true_and,and_true]; omega),rfl⟩)
def nb(b:List UInt8):Int:=b.foldl (fun n x=>n * 256+x.toNat) 0
theorem nb_snoc(b:List UInt8)(x:UInt8):nb (b ++ [x])=nb b * 256+x.toNat:=by simp [nb]
theorem nb_b(b:List UInt8):0≤nb b∧nb b < 256 ^ b.length:=by
 suffices h:∀ r:List UInt8,0≤nb r.reverse∧nb r.reverse < 256 ^ r.length by simpa using h b.reverse
 intro r
 induction r with
 | nil=>exact⟨by decide,by decide⟩
 | cons x r ih =>
  have hx:=x.toNat_lt
  rw [List.reverse_cons,nb_snoc,List.length_cons,Int.pow_succ]
  generalize (256:Int) ^ r.length=q at *
  omega
theorem take_snoc{α:Type}[Inhabited α]{l:List α}{k:Nat}(h:k < l.length):l.take (k+1)=l.take k ++ [l[k]!]:=by
 rw [List.take_succ_eq_append_getElem h]
 simp [h]
theorem nb_small(b:List UInt8)(h:b.length≤6)(k:Nat)(hk:k < b.length):0≤nb (b.take k)∧nb (b.take k) < 1099511627776:=by
 have h1:=nb_b (b.take k)
 rw [List.length_take,Nat.min_eq_left (by omega)] at h1
 have:(256:Int) ^ k≤256 ^ 5:=by exact_mod_cast Nat.pow_le_pow_right (by decide) (by omega)
 omega
theorem number_run(b:List UInt8)(full:Bool)(h:b.length≤6):Run Tryz.prog 132 [.sl 1 (bys b) full] (.int .u64 (nb b)):=by
 refine Tryz.run132 (by simp) ?_
 unfold Tryz.c132
 refine vZ ?_
 refine aw_loop (fun k:Nat=>⟨[(0,.sl 1 (bys b) full),(3,.int .u64 (nb (b.take k))),(4,.int .i64 k)],[]⟩) (fun k=>k≤b.length) (fun k=>b.length - k) 0 ?_ (by omega) ?_
 ·refine vZ ?_
  rfl
 intro k hk
 unfold Tryz.c132b0
 refine vZ ?_
 refine cB (fun hc=>?_) (fun hc=>?_)
 ·have hn:=nb_small b h k (by omega)
  have hx:=(b[k]!).toNat_lt
  have ht:=take_snoc (l:=b) (k:=k) (by omega)
  have hs:=nb_snoc (b.take k) b[k]!
  rw [← ht] at hs
  generalize nb (b.take k)=n at *
  refine vZ ?_
  exact⟨k+1,by rw [hs]; simp,by omega,by omega⟩
 ·have:k=b.length:=by omega
  subst this
  refine vZ ?_
  exact eZ
theorem ref_ishost_run(m:Int)(h:0≤m)(h':m < 18446744073709551616):Run Tryz.prog 110 [.int .u64 m] (.tup [.int .u32 (ish m).1,.bool (ish m).2]):=by
 refine Tryz.run110 (by simp) ?_
 unfold Tryz.c110
 refine vZ ?_
 refine aC (run_frz (bytes_run m h h')) rfl rfl ?_
 simp (disch:=try exact dq) only[↓pvd,pz,sC,List.map,seval,frz,frzA,frzC,mb,u8i_nat]
 repeat' (first | simp (disch:=try exact dq) only[↓pvd,pz,sC,List.map,seval] | (with_reducible first|refine cB (fun _=>?_) (fun _=>?_)|refine gB (fun _=>?_) (fun _=>?_)|refine hB (fun _=>?_) (fun _=>?_)|refine cA ?_ ?_))
 all_goals first
  | ((unfold ish; simp (disch:=omega) only[if_pos,if_neg]); refine Ends_rq [] ?_; simp (disch:=try exact dr) only[↓pvd,pz,sC,List.map,seval]; exact⟨_,rfl,by first | rfl | (simp only[AV.tup.injEq,List.cons.injEq,AV.int.injEq,true_and,and_true]; omega),rfl⟩; done)
  | skip
 have hn:=number_run [u8i (m / 16777216),u8i (m / 65536),u8i (m / 256),u8i m] false (by simp)
 simp only[bys,List.map,bv_u8i] at hn
 refine aC hn rfl rfl ?_
 have e:nb [u8i (m / 16777216),u8i (m / 65536),u8i (m / 256),u8i m]=m % 4294967296:=by
  simp only[nb,List.foldl,u8i_nat]; omega
 rw [e]
 refine vZ ?_
 (unfold ish; simp (disch:=omega) only[if_pos,if_neg]); refine Ends_rq [] ?_; simp (disch:=try exact dr) only[↓pvd,pz,sC,List.map,seval]; exact⟨_,rfl,by first | rfl | (simp only[AV.tup.injEq,List.cons.injEq,AV.int.injEq,true_and,and_true]; omega),rfl⟩
end Mc
end Go.Proofs
namespace Go.Proofs
namespace Mc
open Go.Pv
def hx(n:Int):UInt8:=[48,49,50,51,52,53,54,55,56,57,97,98,99,100,101,102][n.toNat]!
theorem hx_get{n:Int}(h:0≤n)(h':n < 16):Option.map bv (([48,49,50,51,52,53,54,55,56,57,97,98,99,100,101,102]:List UInt8)[n.toNat]?)=some (bv (hx n)):=by
 obtain ⟨k,rfl⟩:=Int.eq_ofNat_of_zero_le h
 have:k < 16:=by omega
 unfold hx
 rw [Int.toNat_natCast,List.getElem?_eq_getElem (by simpa using this),List.getElem!_eq_getElem?_getD,List.getElem?_eq_getElem (by simpa using this)]
 rfl
theorem hx_sl{a b:Int}(h:0≤a)(h':a < 16)(hb:b=a+1):List.drop a.toNat (List.take b.toNat ([48,49,50,51,52,53,54,55,56,57,97,98,99,100,101,102]:List UInt8))=[hx a]:=by
 obtain ⟨k,rfl⟩:=Int.eq_ofNat_of_zero_le h
 subst hb
 have:k < 16:=by omega
 have e:((k:Int)+1).toNat=k+1:=by omega
 rw [e,Int.toNat_natCast]
 unfold hx
 rw [Int.toNat_natCast]
 rcases k with _ | _ | _ | _ | _ | _ | _ | _ | _ | _ | _ | _ | _ | _ | _ | _ | k <;> first | rfl | omega
theorem hx_mod{a:Int}(h:0≤a)(h':a < 16):hx (a % 256)=hx a:=by rw [Int.emod_eq_of_lt h (by omega)]
def tx(m:Int):List UInt8 :=
 [hx (m / 1099511627776 % 256 / 16),hx (m / 1099511627776 % 256 % 16),58,hx (m / 4294967296 % 256 / 16),hx (m / 4294967296 % 256 % 16),58,hx (m / 16777216 % 256 / 16),hx (m / 16777216 % 256 % 16),58,
  hx (m / 65536 % 256 / 16),hx (m / 65536 % 256 % 16),58,hx (m / 256 % 256 / 16),hx (m / 256 % 256 % 16),58,hx (m % 256 / 16),hx (m % 256 % 16)]
theorem text_run(m:Int)(h:0≤m)(h':m < 18446744073709551616):Run Tryz.prog 138 [.int .u64 m] (.str (tx m)):=by
 refine Tryz.run138 (by simp) ?_
 unfold Tryz.c138
 refine vZ ?_
 refine aw_loop (fun k:Nat=>⟨[(0,.int .u64 m),(3,.vec 0 1 0 (3 * k - 1)),(6,.int .i64 k)],[some ⟨5,bys ((tx m).take (3 * k - 1)),true⟩]⟩) (fun k=>k≤6) (fun k=>6 - k) 0 ?_ (by omega) ?_
 ·exact uZ
 intro k hk
 have hk':k=0∨k=1∨k=2∨k=3∨k=4∨k=5∨k=6:=by omega
 unfold Tryz.c138b0
 rcases hk' with rfl | rfl | rfl | rfl | rfl | rfl | rfl
 ·simp (disch:=try exact dq) only[↓pvd,pz,sC,List.map,seval,tx]
  refine aC (shift_run 0 (by omega) (by omega)) rfl rfl ?_
  simp (disch:=try exact dq) only[↓pvd,pz,sC,List.map,seval,hx_get]
  refine⟨1,?_,by omega,by omega⟩
  rfl
 ·simp (disch:=try exact dq) only[↓pvd,pz,sC,List.map,seval,tx]
  refine aC (shift_run 1 (by omega) (by omega)) rfl rfl ?_
  simp (disch:=try exact dq) only[↓pvd,pz,sC,List.map,seval,hx_get]
  refine⟨2,?_,by omega,by omega⟩
  rfl
 ·simp (disch:=try exact dq) only[↓pvd,pz,sC,List.map,seval,tx]
  refine aC (shift_run 2 (by omega) (by omega)) rfl rfl ?_
  simp (disch:=try exact dq) only[↓pvd,pz,sC,List.map,seval,hx_get]
  refine⟨3,?_,by omega,by omega⟩
  rfl
 ·simp (disch:=try exact dq) only[↓pvd,pz,sC,List.map,seval,tx]
  refine aC (shift_run 3 (by omega) (by omega)) rfl rfl ?_
  simp (disch:=try exact dq) only[↓pvd,pz,sC,List.map,seval,hx_get]
  refine⟨4,?_,by omega,by omega⟩
  rfl
 ·simp (disch:=try exact dq) only[↓pvd,pz,sC,List.map,seval,tx]
  refine aC (shift_run 4 (by omega) (by omega)) rfl rfl ?_
  simp (disch:=try exact dq) only[↓pvd,pz,sC,List.map,seval,hx_get]
  refine⟨5,?_,by omega,by omega⟩
  rfl
 ·simp (disch:=try exact dq) only[↓pvd,pz,sC,List.map,seval,tx]
  refine aC (shift_run 5 (by omega) (by omega)) rfl rfl ?_
  simp (disch:=try exact dq) only[↓pvd,pz,sC,List.map,seval,hx_get,Int.ediv_one,Int.sub_self,Int.mul_zero,Int.pow_zero]
  refine⟨6,?_,by omega,by omega⟩
  rfl
 ·have hl:(tx m).length=17:=rfl
  have ht:(tx m).take (3 * 6 - 1)=tx m:=rfl
  rw [ht]
  generalize tx m=t at *
  refine vZ ?_
  exact eZ
theorem ref_text_run(m:Int)(h:0≤m)(h':m < 18446744073709551616):Run Tryz.prog 109 [.int .u64 m] (.str (tx m)):=by
 refine Tryz.run109 (by simp) ?_
 unfold Tryz.c109
 refine vZ ?_
 refine aC (run_frz (bytes_run m h h')) rfl rfl ?_
 simp (disch:=try exact dq) only[↓pvd,pz,sC,List.map,seval,frz,frzA,frzC,mb,u8i_nat]
 refine aw_loop (fun k:Nat=>⟨[(3,.str [48,49,50,51,52,53,54,55,56,57,97,98,99,100,101,102]),(4,.sl 1 (bys (mb m)) false),(5,.str ((tx m).take (3 * k - 1))),(6,.int .i64 k)],[]⟩) (fun k=>k≤6) (fun k=>6 - k) 0 ?_ (by omega) ?_
 ·simp (disch:=try exact dq) only[↓pvd,pz,sC,List.map,seval,mb,u8i_nat]
 intro k hk
 have hk':k=0∨k=1∨k=2∨k=3∨k=4∨k=5∨k=6:=by omega
 unfold Tryz.c109b0
 rcases hk' with rfl | rfl | rfl | rfl | rfl | rfl | rfl
 ·simp (disch:=try exact dq) only[↓pvd,pz,sC,List.map,seval,tx,mb,u8i_nat,hx_sl,hx_mod]
  exact⟨1,rfl,by omega,by omega⟩
 ·simp (disch:=try exact dq) only[↓pvd,pz,sC,List.map,seval,tx,mb,u8i_nat,hx_sl,hx_mod]
  exact⟨2,rfl,by omega,by omega⟩
 ·simp (disch:=try exact dq) only[↓pvd,pz,sC,List.map,seval,tx,mb,u8i_nat,hx_sl,hx_mod]
  exact⟨3,rfl,by omega,by omega⟩
 ·simp (disch:=try exact dq) only[↓pvd,pz,sC,List.map,seval,tx,mb,u8i_nat,hx_sl,hx_mod]
  exact⟨4,rfl,by omega,by omega⟩
 ·simp (disch:=try exact dq) only[↓pvd,pz,sC,List.map,seval,tx,mb,u8i_nat,hx_sl,hx_mod]
  exact⟨5,rfl,by omega,by omega⟩
 ·simp (disch:=try exact dq) only[↓pvd,pz,sC,List.map,seval,tx,mb,u8i_nat,hx_sl,hx_mod]
  exact⟨6,rfl,by omega,by omega⟩
 ·have ht:(tx m).take (3 * 6 - 1)=tx m:=rfl
  rw [ht]
  generalize tx m=t at *
  refine vZ ?_
  exact eZ
end Mc
end Go.Proofs
namespace Go.Proofs
namespace Mc
open Go.Pv
def num(s:List UInt8):Nat→Int
 | 0=>0
 | k+1=>num s k * 256 +(dg s[3 * k]! * 16+dg s[3 * k+1]!)
def okR(s:List UInt8)(k:Nat):Prop:=∀ i,i < k→dg s[3 * i]!≤15∧dg s[3 * i+1]!≤15 ∧(i+1 < 6→s[3 * i+2]!.toNat=58)
theorem dg_b(c:UInt8):0≤dg c∧dg c≤16:=by
 have:=c.toNat_lt
 unfold dg; split
 ·omega
 ·split <;> omega
theorem num_b(s:List UInt8)(k:Nat)(h:okR s k):0≤num s k∧num s k < 256 ^ k:=by
 induction k with
 | zero=>simp [num]
 | succ k ih =>
  have h1:=ih (fun i hi=>h i (by omega))
  have h2:=h k (by omega)
  have d1:=dg_b s[3 * k]!
  have d2:=dg_b s[3 * k+1]!
  rw [num,Int.pow_succ]
  generalize (256:Int) ^ k=q at *
  omega
theorem num_s(s:List UInt8)(k:Nat)(hk:k < 6)(h:okR s k):0≤num s k∧num s k < 1099511627776:=by
 have h1:=num_b s k h
 have:(256:Int) ^ k≤256 ^ 5:=by exact_mod_cast Nat.pow_le_pow_right (by decide) (by omega)
 omega
open Classical in
noncomputable def rdm(s:List UInt8):Int × Bool:=if s.length=17∧okR s 6 then(num s 6,true) else(0,false)
theorem str_get{s:List UInt8}{k:Nat}(h:k < s.length):Option.map bv (s[k]?)=some (.int .u8 (s[k]!).toNat):=by
 rw [List.getElem?_eq_getElem h,List.getElem!_eq_getElem?_getD,List.getElem?_eq_getElem h]; rfl
theorem or_u64_4{a b:Int}(ha:0≤a)(ha':a < 18446744073709551616)(hb:0≤b)(hb':b < 16)(hd:a % 16=0):or2 .u64 a b=a+b :=
 or2_un (j:=4) rfl ha ha' hb hb' (by decide) hd
theorem read_run(s:List UInt8)(hm:s.length≤maxLen):Run Tryz.prog 65 [.str s] (.tup [.int .u64 (rdm s).1,.bool (rdm s).2]):=by
 unfold maxLen at hm
 refine Tryz.run65 (by simp) ?_
 unfold Tryz.c65
 refine vZ ?_
 refine cB (fun hl=>?_) (fun hl=>?_)
 ·have e:rdm s =(0,false):=by unfold rdm; rw [if_neg]; rintro ⟨h1,_⟩; omega
  rw [e]
  refine vZ ?_
  exact eZ
 have hl':s.length=17:=by omega
 refine vZ ?_
 refine aw_loop (fun k:Nat=>⟨[(0,.str s),(4,.int .u64 (num s k)),(11,.int .i64 k)],[]⟩) (fun k=>k≤6∧okR s k) (fun k=>6 - k) 0 ?_ ⟨by omega,fun i hi=>by omega⟩ ?_
 ·refine vZ ?_
  rfl
 intro k ⟨hk,hok⟩
 unfold Tryz.c65b0
 refine vZ ?_
 refine cB (fun hc=>?_) (fun hc=>?_)
 ·have hn:=num_s s k (by omega) hok
  have d1:=dg_b s[3 * k]!
  have d2:=dg_b s[3 * k+1]!
  have g1:=digit_run s[3 * k]!
  have g2:=digit_run s[3 * k+1]!
  simp (disch:=try exact dq) only[↓pvd,pz,sC,List.map,seval,str_get]
  refine aD g1 rfl rfl (fun _=>rfl) ?_
  refine vZ ?_
  refine aD g2 rfl rfl (fun _=>rfl) ?_
  refine vZ ?_
  have hno:¬(dg s[3 * k]!≤15∧dg s[3 * k+1]!≤15 ∧(k+1 < 6→s[3 * k+2]!.toNat=58))→rdm s =(0,false):=by
   intro hx
   unfold rdm; rw [if_neg]; rintro ⟨_,h2⟩; exact hx (h2 k (by omega))
  have hyes:(dg s[3 * k]!≤15∧dg s[3 * k+1]!≤15 ∧(k+1 < 6→s[3 * k+2]!.toNat=58))→okR s (k+1):=by
   intro hx i hi
   by_cases h:i < k
   ·exact hok i h
   ·have:i=k:=by omega
    subst this; exact hx
  have hns:num s (k+1)=num s k * 256 +(dg s[3 * k]! * 16+dg s[3 * k+1]!):=rfl
  generalize dg s[3 * k]! = x at *
  generalize dg s[3 * k+1]! = y at *
  generalize num s k=n at *
  generalize hn':num s (k+1)=n' at *
  have tk:(3 *(k:Int)+2).toNat=3 * k+2:=by omega
  repeat' (first | simp (disch:=try exact dq) only[↓pvd,pz,sC,List.map,seval,str_get,or_u64_4] | (with_reducible first|refine cB (fun _=>?_) (fun _=>?_)|refine gB (fun _=>?_) (fun _=>?_)|refine hB (fun _=>?_) (fun _=>?_)|refine cA ?_ ?_))
  all_goals simp only[tk] at *
  all_goals first
   | (rw [hno (by omega)]; exact eZ; done)
   | (refine⟨k+1,?_,⟨by omega,hyes (by omega)⟩,by omega⟩
      rw [hn',hns]
      simp only[St.mk.injEq,List.cons.injEq,Prod.mk.injEq,AV.int.injEq,and_true,true_and]
      omega)
 ·have:k=6:=by omega
  subst this
  have e:rdm s =(num s 6,true):=by unfold rdm; rw [if_pos ⟨hl',hok⟩]
  rw [e]
  refine vZ ?_
  exact eZ
/-! The reference's. -/
def de(c:UInt8):Int:=if dg c≤15 then dg c else 0
def rn(s:List UInt8):Nat→Int
 | 0=>0
 | k+1=>if k % 3≠2 then rn s k * 16+de s[k]! else rn s k
theorem hx_de(c:UInt8):hx (de c)=c↔dg c≤15:=by
 have h:∀ x:Fin 256,hx (de (UInt8.ofNat x))=UInt8.ofNat x↔dg (UInt8.ofNat x)≤15:=by decide +kernel
 have:=h ⟨c.toNat,c.toNat_lt⟩
 simpa using this
theorem de_b(c:UInt8):0≤de c∧de c≤15:=by
 have:=dg_b c
 unfold de; split <;> omega
theorem list17{s:List UInt8}(h:s.length=17):∃ c0 c1 c2 c3 c4 c5 c6 c7 c8 c9 c10 c11 c12 c13 c14 c15 c16,s=[c0,c1,c2,c3,c4,c5,c6,c7,c8,c9,c10,c11,c12,c13,c14,c15,c16]:=by
 rcases s with _ | ⟨c0,_ | ⟨c1,_ | ⟨c2,_ | ⟨c3,_ | ⟨c4,_ | ⟨c5,_ | ⟨c6,_ | ⟨c7,_ | ⟨c8,_ | ⟨c9,_ | ⟨c10,_ | ⟨c11,_ | ⟨c12,_ | ⟨c13,_ | ⟨c14,_ | ⟨c15,_ | ⟨c16,_ | ⟨c17,s⟩⟩⟩⟩⟩⟩⟩⟩⟩⟩⟩⟩⟩⟩⟩⟩⟩⟩
 all_goals first
  | exact⟨_,_,_,_,_,_,_,_,_,_,_,_,_,_,_,_,_,rfl⟩
  | (simp at h; done)
theorem rn_tx(s:List UInt8)(h:s.length=17):tx (rn s 17)=s↔okR s 6:=by
 obtain ⟨c0,c1,c2,c3,c4,c5,c6,c7,c8,c9,c10,c11,c12,c13,c14,c15,c16,rfl⟩:=list17 h
 have e:rn [c0,c1,c2,c3,c4,c5,c6,c7,c8,c9,c10,c11,c12,c13,c14,c15,c16] 17 =
  ((((((((((de c0 * 16+de c1) * 16+de c3) * 16+de c4) * 16+de c6) * 16+de c7) * 16+de c9) * 16+de c10) * 16+de c12) * 16+de c13) * 16+de c15) * 16+de c16:=by
  simp [rn]
 rw [e]
 have b0:=de_b c0
 have b1:=de_b c1
 have b3:=de_b c3
 have b4:=de_b c4
 have b6:=de_b c6
 have b7:=de_b c7
 have b9:=de_b c9
 have b10:=de_b c10
 have b12:=de_b c12
 have b13:=de_b c13
 have b15:=de_b c15
 have b16:=de_b c16
 have x0:=hx_de c0
 have x1:=hx_de c1
 have x3:=hx_de c3
 have x4:=hx_de c4
 have x6:=hx_de c6
 have x7:=hx_de c7
 have x9:=hx_de c9
 have x10:=hx_de c10
 have x12:=hx_de c12
 have x13:=hx_de c13
 have x15:=hx_de c15
 have x16:=hx_de c16
 have ho:okR [c0,c1,c2,c3,c4,c5,c6,c7,c8,c9,c10,c11,c12,c13,c14,c15,c16] 6 ↔((dg c0≤15∧dg c1≤15∧c2.toNat=58) ∧(dg c3≤15∧dg c4≤15∧c5.toNat=58) ∧(dg c6≤15∧dg c7≤15∧c8.toNat=58) ∧(dg c9≤15∧dg c10≤15∧c11.toNat=58) ∧(dg c12≤15∧dg c13≤15∧c14.toNat=58) ∧(dg c15≤15∧dg c16≤15)):=by
  constructor
  ·intro k
   have k0:=k 0 (by omega)
   have k1:=k 1 (by omega)
   have k2:=k 2 (by omega)
   have k3:=k 3 (by omega)
   have k4:=k 4 (by omega)
   have k5:=k 5 (by omega)
   simp at k0 k1 k2 k3 k4 k5
   exact⟨k0,k1,k2,k3,k4,k5⟩
  ·rintro ⟨k0,k1,k2,k3,k4,k5⟩ i hi
   have hi':i=0∨i=1∨i=2∨i=3∨i=4∨i=5:=by omega
   rcases hi' with rfl | rfl | rfl | rfl | rfl | rfl
   ·simpa using k0
   ·simpa using k1
   ·simpa using k2
   ·simpa using k3
   ·simpa using k4
   ·simpa using k5
 rw [ho,← x0,← x1,← x3,← x4,← x6,← x7,← x9,← x10,← x12,← x13,← x15,← x16]
 clear ho x0 x1 x3 x4 x6 x7 x9 x10 x12 x13 x15 x16 e h
 generalize de c0=d0 at *
 generalize de c1=d1 at *
 generalize de c3=d3 at *
 generalize de c4=d4 at *
 generalize de c6=d6 at *
 generalize de c7=d7 at *
 generalize de c9=d9 at *
 generalize de c10=d10 at *
 generalize de c12=d12 at *
 generalize de c13=d13 at *
 generalize de c15=d15 at *
 generalize de c16=d16 at *
 generalize hn:((((((((((d0 * 16+d1) * 16+d3) * 16+d4) * 16+d6) * 16+d7) * 16+d9) * 16+d10) * 16+d12) * 16+d13) * 16+d15) * 16+d16=n
 have q5:n / 256 =(((((((((d0 * 16+d1) * 16+d3) * 16+d4) * 16+d6) * 16+d7) * 16+d9) * 16+d10) * 16+d12) * 16+d13):=by omega
 have q4:n / 65536 =(((((((d0 * 16+d1) * 16+d3) * 16+d4) * 16+d6) * 16+d7) * 16+d9) * 16+d10):=by omega
 have q3:n / 16777216 =(((((d0 * 16+d1) * 16+d3) * 16+d4) * 16+d6) * 16+d7):=by omega
 have q2:n / 4294967296 =(((d0 * 16+d1) * 16+d3) * 16+d4):=by omega
 have q1:n / 1099511627776=d0 * 16+d1:=by omega
 have e0:n / 1099511627776 % 256 / 16=d0:=by omega
 have e1:n / 1099511627776 % 256 % 16=d1:=by omega
 have e3:n / 4294967296 % 256 / 16=d3:=by omega
 have e4:n / 4294967296 % 256 % 16=d4:=by omega
 have e6:n / 16777216 % 256 / 16=d6:=by omega
 have e7:n / 16777216 % 256 % 16=d7:=by omega
 have e9:n / 65536 % 256 / 16=d9:=by omega
 have e10:n / 65536 % 256 % 16=d10:=by omega
 have e12:n / 256 % 256 / 16=d12:=by omega
 have e13:n / 256 % 256 % 16=d13:=by omega
 have e15:n % 256 / 16=d15:=by omega
 have e16:n % 256 % 16=d16:=by omega
 have k (c:UInt8):(58=c) =(c.toNat=58):=by
  rw [← UInt8.toNat_inj]; apply propext; constructor <;> intro h <;> exact h.symm
 unfold tx
 simp only[e0,e1,e3,e4,e6,e7,e9,e10,e12,e13,e15,e16,List.cons.injEq,k,and_true,and_assoc]
theorem rn_num(s:List UInt8)(h:s.length=17)(ho:okR s 6):rn s 17=num s 6:=by
 have k0:=ho 0 (by omega)
 have k1:=ho 1 (by omega)
 have k2:=ho 2 (by omega)
 have k3:=ho 3 (by omega)
 have k4:=ho 4 (by omega)
 have k5:=ho 5 (by omega)
 simp [rn,num,de] at *
 simp only[if_pos,k0,k1,k2,k3,k4,k5]
 omega
end Mc
end Go.Proofs
namespace Go.Proofs
namespace Mc
open Go.Pv
theorem rn_b(s:List UInt8)(k:Nat):0≤rn s k∧rn s k < 16 ^ (k - k / 3):=by
 induction k with
 | zero=>simp [rn]
 | succ k ih =>
  have hd:=de_b s[k]!
  rw [rn]
  split
  ·rename_i h
   have e:k+1 - (k+1) / 3 =(k - k / 3)+1:=by omega
   rw [e,Int.pow_succ]
   generalize (16:Int) ^ (k - k / 3)=q at *
   omega
  ·rename_i h
   have e:k+1 - (k+1) / 3=k - k / 3:=by omega
   rw [e]; exact ih
theorem rn_s(s:List UInt8)(k:Nat)(hk:k≤17):0≤rn s k∧rn s k < 281474976710656:=by
 have h1:=rn_b s k
 have:(16:Int) ^ (k - k / 3)≤16 ^ 12:=by exact_mod_cast Nat.pow_le_pow_right (by decide) (by omega)
 omega
theorem rdm_ref(s:List UInt8)(h:s.length=17):rdm s=if tx (rn s 17)=s then(rn s 17,true) else(0,false):=by
 unfold rdm
 by_cases ho:okR s 6
 ·rw [if_pos ⟨h,ho⟩,if_pos ((rn_tx s h).2 ho),rn_num s h ho]
 ·rw [if_neg (fun x=>ho x.2),if_neg (fun x=>ho ((rn_tx s h).1 x))]
theorem ref_read_run(s:List UInt8)(hm:s.length≤maxLen):Run Tryz.prog 77 [.str s] (.tup [.int .u64 (rdm s).1,.bool (rdm s).2]):=by
 unfold maxLen at hm
 refine Tryz.run77 (by simp) ?_
 unfold Tryz.c77
 refine vZ ?_
 refine cB (fun hl=>?_) (fun hl=>?_)
 ·have e:rdm s =(0,false):=by unfold rdm; rw [if_neg]; rintro ⟨h1,_⟩; omega
  rw [e]
  refine vZ ?_
  exact eZ
 have hl':s.length=17:=by omega
 rw [rdm_ref s hl']
 refine vZ ?_
 refine aw_loop (fun k:Nat=>⟨[(0,.str s),(4,.int .u64 (rn s k)),(5,.int .i64 k)],[]⟩) (fun k=>k≤17) (fun k=>17 - k) 0 ?_ (by omega) ?_
 ·refine vZ ?_
  rfl
 intro k hk
 unfold Tryz.c77b0
 refine vZ ?_
 refine cB (fun hc=>?_) (fun hc=>?_)
 ·have hn:=rn_s s k (by omega)
  have hx:=(s[k]!).toNat_lt
  have hr:rn s (k+1)=if k % 3≠2 then rn s k * 16+de s[k]! else rn s k:=rfl
  unfold de dg at hr
  generalize rn s k=n at *
  generalize hn':rn s (k+1)=n' at *
  repeat' (first | simp (disch:=try exact dq) only[↓pvd,pz,sC,List.map,seval,str_get] | (with_reducible first|refine cB (fun _=>?_) (fun _=>?_)|refine gB (fun _=>?_) (fun _=>?_)|refine hB (fun _=>?_) (fun _=>?_)|refine cA ?_ ?_))
  all_goals
   refine⟨k+1,?_,by omega,by omega⟩
   rw [hn']
   simp only[St.mk.injEq,List.cons.injEq,Prod.mk.injEq,AV.int.injEq,and_true,true_and]
   (try split at hr) <;>(try split at hr) <;>(try split at hr) <;>(try split at hr) <;> omega
 ·have:k=17:=by omega
  subst this
  have hn:=rn_s s 17 (by omega)
  generalize rn s 17=n at *
  refine vZ ?_
  refine aC (ref_text_run n (by omega) (by omega)) rfl rfl ?_
  repeat' (first | simp (disch:=try exact dq) only[↓pvd,pz,sC,List.map,seval] | (with_reducible first|refine cB (fun _=>?_) (fun _=>?_)|refine gB (fun _=>?_) (fun _=>?_)|refine hB (fun _=>?_) (fun _=>?_)|refine cA ?_ ?_))
  ·rename_i ht
   first | (exact eZ; done) | (rw [if_neg ht]; exact eZ)
  ·rename_i ht
   first | (exact eZ; done) | (rw [if_pos (Classical.not_not.1 ht)]; exact eZ)
end Mc
end Go.Proofs
namespace Go.Proofs
namespace Nm
open Go.Pv
theorem sP(l:List UInt8):(AV.str l).pl=true:=rfl
theorem str_nr(l:List UInt8):(AV.str l).nr1=true:=rfl
theorem rows_run(b:List UInt8)(f:Bool)(hb:b.length≤100000)(h1:b.length≤20000) :
  Run Tryz.prog 24 [.sl 1 (bys b) f] (if 400 <(spl b).length then .tup [.sl 0 [] true,.int .i64 3] else .tup [.own 1 9 ((spl b).map .str),.int .i64 0]):=by
 have hs:=spl_le b
 refine Tryz.run24 (by simp) ?_
 unfold Tryz.c24
 refine vZ ?_
 refine aw_loop (fun a:List (List UInt8) × List UInt8=>⟨[(4,.vec 0 1 0 a.1.length),(5,.str a.2)],[some ⟨9,a.1.map .str,true⟩]⟩) (fun a=>a.1 ++ spl a.2=spl b∧a.2.length≤b.length) (fun a=>a.2.length) ([],b) ?_ ⟨rfl,Nat.le_refl _⟩ ?_
 ·exact uZ
 rintro ⟨o,r⟩ ⟨ho,hr⟩
 dsimp only at ho hr ⊢
 unfold Tryz.c24b0
 have q:=cut_run r 10 (by omega)
 by_cases he:r=[]
 ·subst he
  simp only[spl,List.append_nil] at ho
  subst ho
  refine vZ ?_
  by_cases h4:400 <(spl b).length
  ·rw [if_pos h4]
   refine vZ ?_
   exact eZ
  ·rw [if_neg h4]
   refine vZ ?_
   (refine Ends_rq [[.own 1 9],[.snap]] ?_; simp (disch:=try exact dq) only[↓pvd,pz,sC,List.map,seval,iM sP,rM sP,mapO_map str_nr,rows_map str_nr]; exact⟨_,rfl,rfl,rfl⟩)
 ·have h2:=spl_cut r he
  have h3:=cut_len r he
  have h5:o.length +(spl r).length =(spl b).length:=by rw [← ho,List.length_append]
  have h6:=congrArg List.length h2
  rw [List.length_cons] at h6
  generalize cutV r 10=cv at *
  obtain ⟨w,r2,fd⟩:=cv
  dsimp only at h2 h3 h6 q ⊢
  refine vZ ?_
  refine aC q rfl rfl ?_
  simp (disch:=try exact dq) only[↓pvd,pz,sC,List.map,seval,iM sP,rM sP,List.flatMap_append,List.map_append]
  refine⟨(o ++ [w],r2),?_,⟨?_,?_⟩,h3⟩
  ·simp (disch:=try exact dq) only[↓pvd,pz,sC,List.map,seval,iM sP,rM sP,List.flatMap_append,List.map_append]
   try simp
  ·rw [← ho,h2]; simp
  ·dsimp only; omega
end Nm
end Go.Proofs
namespace Go.Proofs
namespace Nm
open Go.Pv
theorem rrows_run(b:List UInt8)(f:Bool)(hb:b.length≤100000)(h1:b.length≤20000) :
  Run Tryz.prog 26 [.sl 1 (bys b) f] (if 400 <(spl b).length then .tup [.sl 0 [] true,.int .i64 3] else .tup [.own 1 9 ((spl b).map .str),.int .i64 0]):=by
 have hs:=spl_le b
 refine Tryz.run26 (by simp) ?_
 unfold Tryz.c26
 refine vZ ?_
 refine aw_loop (fun a:List (List UInt8) × Nat × Nat=>⟨[(0,.sl 1 (bys b) f),(4,.vec 0 1 0 a.1.length),(5,.int .i64 a.2.1),(6,.int .i64 a.2.2)],[some ⟨9,a.1.map .str,true⟩]⟩) (fun a=>a.1 ++ spl (b.drop a.2.1)=spl b∧a.2.1≤a.2.2∧a.2.2≤b.length∧∀ k,a.2.1≤k→k < a.2.2→b[k]!≠10) (fun a=>b.length - a.2.2) ([],0,0) ?_ ⟨rfl,by simp,by simp,by simp⟩ ?_
 ·exact uZ
 rintro ⟨o,j,i⟩ ⟨ho,hj,hi,hn⟩
 dsimp only at ho hj hi hn ⊢
 unfold Tryz.c26b0
 have h5:o.length +(spl (b.drop j)).length =(spl b).length:=by rw [← ho,List.length_append]
 refine vZ ?_
 refine cB (fun hc=>?_) (fun hc=>?_)
 ·have hib:i < b.length:=by omega
  refine vZ ?_
  by_cases hd:b[i]! = 10
  ·have e:b.drop j =(b.drop j).take (i - j) ++ 10 :: b.drop (i+1):=by
    rw [← hd,getElem!_pos b i hib,← List.drop_eq_getElem_cons hib]
    have:=List.take_append_drop (i - j) (b.drop j)
    rw [List.drop_drop,show j +(i - j)=i by omega] at this
    exact this.symm
   have h2:=spl_hit ((b.drop j).take (i - j)) (b.drop (i+1)) (fun c hc e=>by
    subst e
    obtain ⟨k,hk,e⟩:=List.mem_iff_getElem.1 hc
    simp at hk e
    exact hn (j+k) (by omega) (by omega) (by rw [getElem!_pos b (j+k) (by omega),e]))
   rw [← e] at h2
   have h6:=congrArg List.length h2
   rw [List.length_cons] at h6
   rw [hd]
   simp (disch:=try exact dq) only[↓pvd,pz,sC,List.map,seval,iM sP,rM sP,List.flatMap_append,List.map_append]
   refine⟨(o ++ [(b.drop j).take (i - j)],i+1,i+1),?_,⟨?_,?_,?_,?_⟩,?_⟩ <;> dsimp only
   ·simp [List.drop_take]
   ·rw [← ho,h2]; simp
   ·omega
   ·omega
   ·omega
   ·omega
  ·refine cB (fun hc=>absurd (UInt8.toNat_inj.1 (by have:(10:UInt8).toNat=10:=rfl; omega)) hd) (fun hc=>?_)
   simp (disch:=try exact dq) only[↓pvd,pz,sC,List.map,seval,iM sP,rM sP]
   refine⟨(o,j,i+1),?_,⟨ho,?_,?_,?_⟩,?_⟩ <;> dsimp only
   ·rfl
   ·omega
   ·omega
   ·intro k h1 h2
    by_cases hk:k=i
    ·subst hk; exact hd
    ·exact hn k h1 (by omega)
   ·omega
 ·have hib:i=b.length:=by omega
  refine vZ ?_
  by_cases hj2:j < b.length
  ·have h2:=spl_miss (b.drop j) (fun c hc e=>by
    subst e
    obtain ⟨k,hk,e⟩:=List.mem_iff_getElem.1 hc
    simp at hk e
    exact hn (j+k) (by omega) (by omega) (by rw [getElem!_pos b (j+k) (by omega),e])) (by intro h; have:=congrArg List.length h; simp at this; omega)
   rw [h2] at ho
   rw [← ho]
   refine cB (fun hc=>?_) (fun hc=>by omega)
   by_cases h4:400 <(o ++ [b.drop j]).length
   ·rw [if_pos h4]
    simp only[List.length_append,List.length_cons,List.length_nil] at h4
    simp (disch:=try exact dq) only[↓pvd,pz,sC,List.map,seval,iM sP,rM sP,List.flatMap_append,List.map_append]
    exact eZ
   ·rw [if_neg h4]
    simp only[List.length_append,List.length_cons,List.length_nil] at h4
    simp (disch:=try exact dq) only[↓pvd,pz,sC,List.map,seval,iM sP,rM sP,List.flatMap_append,List.map_append]
    rw [show o.length+1 =(o ++ [b.drop j]).length by simp,show o.map AV.str ++ [AV.str (b.drop j)] =(o ++ [b.drop j]).map AV.str by simp]
    generalize o ++ [b.drop j]=L at *
    (refine Ends_rq [[.own 1 9],[.snap]] ?_; simp (disch:=try exact dq) only[↓pvd,pz,sC,List.map,seval,iM sP,rM sP,mapO_map str_nr,rows_map str_nr]; exact⟨_,rfl,rfl,rfl⟩)
  ·have hj3:b.drop j=[]:=List.drop_eq_nil_of_le (by omega)
   rw [hj3,spl,List.append_nil] at ho
   subst ho
   refine cB (fun hc=>by omega) (fun hc=>?_)
   by_cases h4:400 <(spl b).length
   ·rw [if_pos h4]
    refine vZ ?_
    exact eZ
   ·rw [if_neg h4]
    refine vZ ?_
    (refine Ends_rq [[.own 1 9],[.snap]] ?_; simp (disch:=try exact dq) only[↓pvd,pz,sC,List.map,seval,iM sP,rM sP,mapO_map str_nr,rows_map str_nr]; exact⟨_,rfl,rfl,rfl⟩)
end Nm
end Go.Proofs
namespace Go.Proofs
namespace Nm
open Go.Pv
theorem rows_big(b:List UInt8)(f:Bool)(hb:b.length≤100000)(h1:¬ b.length≤20000) :
  Run Tryz.prog 24 [.sl 1 (bys b) f] (.tup [.sl 0 [] true,.int .i64 3]):=by
 refine Tryz.run24 (by simp) ?_
 unfold Tryz.c24
 refine vZ ?_
 exact eZ
theorem rrows_big(b:List UInt8)(f:Bool)(hb:b.length≤100000)(h1:¬ b.length≤20000) :
  Run Tryz.prog 26 [.sl 1 (bys b) f] (.tup [.sl 0 [] true,.int .i64 3]):=by
 refine Tryz.run26 (by simp) ?_
 unfold Tryz.c26
 refine vZ ?_
 exact eZ
end Nm
end Go.Proofs
