/- The proofs of what the functions of this seat do. -/
import Derived.Test.YtppdpcfmkmnfjaaGreatDoorPr2
set_option linter.unusedSimpArgs false
set_option linter.unusedVariables false
set_option maxHeartbeats 2000000
set_option maxRecDepth 20000
namespace Go.Proofs
namespace Nm
open Go.Pv
theorem text_runx(n:Int)(h0:-9223372036854775808≤n)(h1:n < 9223372036854775808):Run Tryz.prog 98 [.int .i64 n] (.str (txF n)) :=
 text_run n h0 h1 (by have:=digF_len n.natAbs 19 (by omega); omega)
theorem rtext_runx(n:Int)(h0:-9223372036854775808≤n)(h1:n < 9223372036854775808):Run Tryz.prog 108 [.int .i64 n] (.str (txF n)):=by
 refine Tryz.run108 (by simp) ?_
 unfold Tryz.c108 txF
 have hl:=digF_len n.natAbs 19 (by omega)
 by_cases hn:n < 0
 ·have q:=digits_run (-n).toNat (by omega) (by rw [show(-n).toNat=n.natAbs by omega]; omega)
  rw [show((-n).toNat:Int)=0 - (n+1)+1 by omega] at q
  rw [if_pos hn]
  have hl2:(digF (-n).toNat).length≤20:=by rw [show(-n).toNat=n.natAbs by omega]; omega
  repeat' (first | (simp (disch:=try exact dq) only[↓pvd,pz,sC,List.map,seval,still]) | (with_reducible first|refine cB (fun _=>?_) (fun _=>?_)|refine gB (fun _=>?_) (fun _=>?_)|refine hB (fun _=>?_) (fun _=>?_)|refine cA ?_ ?_) | refine aC q rfl rfl ?_ | refine aD q rfl rfl (fun _=>rfl) ?_ | exact eZ | fail)
 ·have q:=digits_run n.toNat (by omega) (by rw [show n.toNat=n.natAbs by omega]; omega)
  rw [show(n.toNat:Int)=n by omega] at q
  rw [if_neg hn]
  repeat' (first | (simp (disch:=try exact dq) only[↓pvd,pz,sC,List.map,seval,still]) | (with_reducible first|refine cB (fun _=>?_) (fun _=>?_)|refine gB (fun _=>?_) (fun _=>?_)|refine hB (fun _=>?_) (fun _=>?_)|refine cA ?_ ?_) | refine aC q rfl rfl ?_ | refine aD q rfl rfl (fun _=>rfl) ?_ | exact eZ | fail)
def isD(c:UInt8):Bool:=decide (48 ≤(c.toNat:Int) ∧(c.toNat:Int)≤57)
def vF(ds:List UInt8):Nat→Int
 | 0=>0
 | k+1=>10 * vF ds k +((ds[k]!.toNat:Int) - 48)
theorem vF_b(ds:List UInt8):∀(k:Nat),(∀ j < k,isD ds[j]! = true)→0≤vF ds k∧vF ds k < 10 ^ k
 | 0,_=>by simp [vF]
 | k+1,h=>by
  have h1:=vF_b ds k (fun j hj=>h j (by omega))
  have h2:=of_decide_eq_true (h k (by omega))
  rw [vF,Int.pow_succ]
  omega
theorem vF_b10(ds:List UInt8)(k:Nat)(hk:k≤10)(h:∀ j < k,isD ds[j]! = true):0≤vF ds k∧vF ds k < 10000000000:=by
 have h1:=vF_b ds k h
 have h3:((10 ^ k:Nat):Int) ≤((10 ^ 10:Nat):Int):=by exact_mod_cast Nat.pow_le_pow_right (n:=10) (by omega) hk
 have h2:(10:Int) ^ k≤10000000000:=by simpa using h3
 omega
def rdG(s ds:List UInt8)(neg:Bool)(least most:Int):Int × Bool :=
 if ds.length < 1∨10 < ds.length then(0,false) else
 if ds.all isD=false then(0,false) else
 let n:=if neg then -vF ds ds.length else vF ds ds.length
 if n < least then(0,false) else if most < n then(0,false) else if txF n≠s then(0,false) else(n,true)
def rdF(s:List UInt8)(least most:Int):Int × Bool:=if s[0]?=some 45 then rdG s (s.drop 1) true least most else rdG s s false least most
def rdR(p:Int × Bool):AV:=.tup [.int .i64 p.1,.bool p.2]
theorem allD_no{w:List UInt8}{i:Nat}(hi:i < w.length)(h:isD w[i]! = false):w.all isD=false:=by
 rw [List.all_eq_false]
 exact⟨w[i]!,by rw [getElem!_pos w i hi]; exact List.getElem_mem hi,by rw [h]; simp⟩
theorem allD_yes{w:List UInt8}(h:∀ k,k < w.length→isD w[k]! = true):w.all isD=true:=by
 rw [List.all_eq_true]
 intro c hc
 obtain ⟨k,hk,rfl⟩:=List.mem_iff_getElem.1 hc
 have:=h k hk
 rwa [getElem!_pos w k hk] at this
theorem hasp_run(s:List UInt8)(hs:s.length≤100000):Run Tryz.prog 151 [.str s,.str [45]] (.bool (decide (s[0]?=some 45))):=by
 refine Tryz.run151 (by simp) ?_
 unfold Tryz.c151
 cases s with
 | nil=>repeat' (first | (simp (disch:=try exact dq) only[↓pvd,pz,sC,List.map,seval,still]) | (with_reducible first|refine cB (fun _=>?_) (fun _=>?_)|refine gB (fun _=>?_) (fun _=>?_)|refine hB (fun _=>?_) (fun _=>?_)|refine cA ?_ ?_) | exact eZ | fail)
 | cons c r =>
  simp only[List.length_cons] at hs
  by_cases hc:c=45
  ·subst hc
   exact kZ
  ·rw [decide_eq_false (by simpa using hc)]
   have hx:decide ([c]=[(45:UInt8)])=false:=decide_eq_false (by simpa using hc)
   repeat' (first | (simp (disch:=try exact dq) only[↓pvd,pz,sC,List.map,seval,still]) | (with_reducible first|refine cB (fun _=>?_) (fun _=>?_)|refine gB (fun _=>?_) (fun _=>?_)|refine hB (fun _=>?_) (fun _=>?_)|refine cA ?_ ?_) | exact eZ | fail)
   simp only[List.take,List.take_succ_cons,List.take_zero,hx]
   exact eZ
theorem trim_run(s:List UInt8)(hs:s.length≤100000):Run Tryz.prog 97 [.str s,.str [45]] (.str (if s[0]?=some 45 then s.drop 1 else s)):=by
 have q:Run Tryz.prog 125 [.str s,.str [45]] (.str (if s[0]?=some 45 then s.drop 1 else s)):=by
  have q:=hasp_run s hs
  refine Tryz.run125 (by simp) ?_
  unfold Tryz.c125
  by_cases h:s[0]?=some 45
  ·have:0 < s.length:=by
    cases s with
    | nil=>simp at h
    | cons c r=>simp
   rw [decide_eq_true h] at q
   rw [if_pos h]
   repeat' (first | (simp (disch:=try exact dq) only[↓pvd,pz,sC,List.map,seval,still]) | (with_reducible first|refine cB (fun _=>?_) (fun _=>?_)|refine gB (fun _=>?_) (fun _=>?_)|refine hB (fun _=>?_) (fun _=>?_)|refine cA ?_ ?_) | refine aC q rfl rfl ?_ | refine aD q rfl rfl (fun _=>rfl) ?_ | exact eZ | fail)
  ·rw [decide_eq_false h] at q
   rw [if_neg h]
   repeat' (first | (simp (disch:=try exact dq) only[↓pvd,pz,sC,List.map,seval,still]) | (with_reducible first|refine cB (fun _=>?_) (fun _=>?_)|refine gB (fun _=>?_) (fun _=>?_)|refine hB (fun _=>?_) (fun _=>?_)|refine cA ?_ ?_) | refine aC q rfl rfl ?_ | refine aD q rfl rfl (fun _=>rfl) ?_ | exact eZ | fail)
 refine Tryz.run97 (by simp) ?_
 unfold Tryz.c97
 repeat' (first | (simp (disch:=try exact dq) only[↓pvd,pz,sC,List.map,seval,still]) | (with_reducible first|refine cB (fun _=>?_) (fun _=>?_)|refine gB (fun _=>?_) (fun _=>?_)|refine hB (fun _=>?_) (fun _=>?_)|refine cA ?_ ?_) | refine aC q rfl rfl ?_ | refine aD q rfl rfl (fun _=>rfl) ?_ | exact eZ | fail)
theorem read_true_run(ds:List UInt8)(least most:Int)(hs:ds.length≤50000)(ql:Run Tryz.prog 97 [.str (45 :: ds),.str [45]] (.str ds)) :
  Run Tryz.prog 64 [.str (45 :: ds),.int .i64 least,.int .i64 most] (rdR (rdG (45 :: ds) ds true least most)):=by
 refine Tryz.run64 (by simp) ?_
 unfold Tryz.c64 rdR
 by_cases h1:ds.length < 1∨10 < ds.length
 ·rw [show rdG (45 :: ds) ds true least most =(0,false) by unfold rdG; rw [if_pos h1]]
  by_cases h0:ds=[]
  ·subst h0
   repeat' (first | (simp (disch:=try exact dq) only[↓pvd,pz,sC,List.map,seval,still]) | (with_reducible first|refine cB (fun _=>?_) (fun _=>?_)|refine gB (fun _=>?_) (fun _=>?_)|refine hB (fun _=>?_) (fun _=>?_)|refine cA ?_ ?_) | refine aC ql rfl rfl ?_ | refine aD ql rfl rfl (fun _=>rfl) ?_ | exact eZ | fail)
  ·have:10 < ds.length:=by
    have:=List.length_pos_iff.2 h0
    omega
   repeat' (first | (simp (disch:=try exact dq) only[↓pvd,pz,sC,List.map,seval,h0,still]) | (with_reducible first|refine cB (fun _=>?_) (fun _=>?_)|refine gB (fun _=>?_) (fun _=>?_)|refine hB (fun _=>?_) (fun _=>?_)|refine cA ?_ ?_) | refine aC ql rfl rfl ?_ | refine aD ql rfl rfl (fun _=>rfl) ?_ | exact eZ | fail)
 have h0:¬ ds=[]:=fun e=>by rw [e] at h1; simp at h1
 refine vZ ?_
 refine aC ql rfl rfl ?_
 simp (disch:=try exact dq) only[↓pvd,pz,sC,List.map,seval,h0]
 refine aw_loop (fun k:Nat=>⟨[(0,.str (45 :: ds)),(1,.int .i64 least),(2,.int .i64 most),(8,.str ds),(9,.int .i64 (vF ds k)),(21,.int .i64 ds.length),(22,.int .i64 k)],[]⟩) (fun k=>k≤ds.length∧∀ j < k,isD ds[j]! = true) (fun k=>ds.length - k) 0 rfl ⟨by omega,by simp⟩ ?_
 rintro k ⟨hk,hp⟩
 unfold Tryz.c64b0
 have hv:=vF_b10 ds k (by omega) hp
 by_cases hx:k < ds.length
 ·have hgi:ds[k]?=some ds[k]!:=by rw [getElem!_pos ds k hx,List.getElem?_eq_getElem hx]
  by_cases hd:isD ds[k]! = true
  ·have h2:=of_decide_eq_true hd
   have hv2:vF ds (k+1)=10 * vF ds k +((ds[k]!.toNat:Int) - 48):=rfl
   repeat' (first | (simp (disch:=try exact dq) only[↓pvd,pz,sC,List.map,seval,hgi,bv,still]) | (with_reducible first|refine cB (fun _=>?_) (fun _=>?_)|refine gB (fun _=>?_) (fun _=>?_)|refine hB (fun _=>?_) (fun _=>?_)|refine cA ?_ ?_) | exact eZ | fail)
   refine⟨k+1,?_,⟨by omega,fun j hj=>?_⟩,by omega⟩
   ·have hm:(((ds[k]!.toNat:Nat):Int) - 48) % 256 =(ds[k]!.toNat:Int) - 48:=by omega
    rw [hv2,hm]
    simp
   ·by_cases hjk:j=k
    ·rw [hjk]; exact hd
    ·exact hp j (by omega)
  ·have h3:isD ds[k]! = false:=by simpa using hd
   have h2:=of_decide_eq_false h3
   rw [show rdG (45 :: ds) ds true least most =(0,false) by unfold rdG; rw [if_neg h1,if_pos (allD_no hx h3)]]
   repeat' (first | (simp (disch:=try exact dq) only[↓pvd,pz,sC,List.map,seval,hgi,bv,still]) | (with_reducible first|refine cB (fun _=>?_) (fun _=>?_)|refine gB (fun _=>?_) (fun _=>?_)|refine hB (fun _=>?_) (fun _=>?_)|refine cA ?_ ?_) | exact eZ | fail)
 ·have hkl:k=ds.length:=by omega
  subst hkl
  have hall:=allD_yes hp
  have q2:=text_runx (0 - vF ds ds.length) (by omega) (by omega)
  have e0:rdG (45 :: ds) ds true least most=if 0 - vF ds ds.length < least then(0,false) else if most < 0 - vF ds ds.length then(0,false) else if txF (0 - vF ds ds.length) ≠(45 :: ds) then(0,false) else(0 - vF ds ds.length,true):=by
   unfold rdG
   rw [if_neg h1,if_neg (by rw [hall]; simp)]
   rw [show 0 - vF ds ds.length=-vF ds ds.length by omega]; rfl
  rw [e0]
  by_cases h2:0 - vF ds ds.length < least
  ·rw [if_pos h2]
   repeat' (first | (simp (disch:=try exact dq) only[↓pvd,pz,sC,List.map,seval,still]) | (with_reducible first|refine cB (fun _=>?_) (fun _=>?_)|refine gB (fun _=>?_) (fun _=>?_)|refine hB (fun _=>?_) (fun _=>?_)|refine cA ?_ ?_) | refine aC q2 rfl rfl ?_ | refine aD q2 rfl rfl (fun _=>rfl) ?_ | exact eZ | fail)
  by_cases h3:most < 0 - vF ds ds.length
  ·rw [if_neg h2,if_pos h3]
   repeat' (first | (simp (disch:=try exact dq) only[↓pvd,pz,sC,List.map,seval,still]) | (with_reducible first|refine cB (fun _=>?_) (fun _=>?_)|refine gB (fun _=>?_) (fun _=>?_)|refine hB (fun _=>?_) (fun _=>?_)|refine cA ?_ ?_) | refine aC q2 rfl rfl ?_ | refine aD q2 rfl rfl (fun _=>rfl) ?_ | exact eZ | fail)
  rw [if_neg h2,if_neg h3]
  by_cases h4:txF (0 - vF ds ds.length) =(45 :: ds)
  ·rw [if_neg (by rw [h4]; simp)]
   rw [h4] at q2
   repeat' (first | (simp (disch:=try exact dq) only[↓pvd,pz,sC,List.map,seval,still]) | (with_reducible first|refine cB (fun _=>?_) (fun _=>?_)|refine gB (fun _=>?_) (fun _=>?_)|refine hB (fun _=>?_) (fun _=>?_)|refine cA ?_ ?_) | refine aC q2 rfl rfl ?_ | refine aD q2 rfl rfl (fun _=>rfl) ?_ | exact eZ | fail)
  ·rw [if_pos h4]
   repeat' (first | (simp (disch:=try exact dq) only[↓pvd,pz,sC,List.map,seval,h4,still]) | (with_reducible first|refine cB (fun _=>?_) (fun _=>?_)|refine gB (fun _=>?_) (fun _=>?_)|refine hB (fun _=>?_) (fun _=>?_)|refine cA ?_ ?_) | refine aC q2 rfl rfl ?_ | refine aD q2 rfl rfl (fun _=>rfl) ?_ | exact eZ | fail)
theorem read_false_run(ds:List UInt8)(least most:Int)(hs:ds.length≤50000)(ql:Run Tryz.prog 97 [.str ds,.str [45]] (.str ds)) :
  Run Tryz.prog 64 [.str ds,.int .i64 least,.int .i64 most] (rdR (rdG ds ds false least most)):=by
 refine Tryz.run64 (by simp) ?_
 unfold Tryz.c64 rdR
 by_cases h1:ds.length < 1∨10 < ds.length
 ·rw [show rdG ds ds false least most =(0,false) by unfold rdG; rw [if_pos h1]]
  by_cases h0:ds=[]
  ·subst h0
   repeat' (first | (simp (disch:=try exact dq) only[↓pvd,pz,sC,List.map,seval,still]) | (with_reducible first|refine cB (fun _=>?_) (fun _=>?_)|refine gB (fun _=>?_) (fun _=>?_)|refine hB (fun _=>?_) (fun _=>?_)|refine cA ?_ ?_) | refine aC ql rfl rfl ?_ | refine aD ql rfl rfl (fun _=>rfl) ?_ | exact eZ | fail)
  ·have:10 < ds.length:=by
    have:=List.length_pos_iff.2 h0
    omega
   repeat' (first | (simp (disch:=try exact dq) only[↓pvd,pz,sC,List.map,seval,h0,still]) | (with_reducible first|refine cB (fun _=>?_) (fun _=>?_)|refine gB (fun _=>?_) (fun _=>?_)|refine hB (fun _=>?_) (fun _=>?_)|refine cA ?_ ?_) | refine aC ql rfl rfl ?_ | refine aD ql rfl rfl (fun _=>rfl) ?_ | exact eZ | fail)
 have h0:¬ ds=[]:=fun e=>by rw [e] at h1; simp at h1
 refine vZ ?_
 refine aC ql rfl rfl ?_
 simp (disch:=try exact dq) only[↓pvd,pz,sC,List.map,seval,h0]
 refine aw_loop (fun k:Nat=>⟨[(0,.str ds),(1,.int .i64 least),(2,.int .i64 most),(8,.str ds),(9,.int .i64 (vF ds k)),(21,.int .i64 ds.length),(22,.int .i64 k)],[]⟩) (fun k=>k≤ds.length∧∀ j < k,isD ds[j]! = true) (fun k=>ds.length - k) 0 rfl ⟨by omega,by simp⟩ ?_
 rintro k ⟨hk,hp⟩
 unfold Tryz.c64b0
 have hv:=vF_b10 ds k (by omega) hp
 by_cases hx:k < ds.length
 ·have hgi:ds[k]?=some ds[k]!:=by rw [getElem!_pos ds k hx,List.getElem?_eq_getElem hx]
  by_cases hd:isD ds[k]! = true
  ·have h2:=of_decide_eq_true hd
   have hv2:vF ds (k+1)=10 * vF ds k +((ds[k]!.toNat:Int) - 48):=rfl
   repeat' (first | (simp (disch:=try exact dq) only[↓pvd,pz,sC,List.map,seval,hgi,bv,still]) | (with_reducible first|refine cB (fun _=>?_) (fun _=>?_)|refine gB (fun _=>?_) (fun _=>?_)|refine hB (fun _=>?_) (fun _=>?_)|refine cA ?_ ?_) | exact eZ | fail)
   refine⟨k+1,?_,⟨by omega,fun j hj=>?_⟩,by omega⟩
   ·have hm:(((ds[k]!.toNat:Nat):Int) - 48) % 256 =(ds[k]!.toNat:Int) - 48:=by omega
    rw [hv2,hm]
    simp
   ·by_cases hjk:j=k
    ·rw [hjk]; exact hd
    ·exact hp j (by omega)
  ·have h3:isD ds[k]! = false:=by simpa using hd
   have h2:=of_decide_eq_false h3
   rw [show rdG ds ds false least most =(0,false) by unfold rdG; rw [if_neg h1,if_pos (allD_no hx h3)]]
   repeat' (first | (simp (disch:=try exact dq) only[↓pvd,pz,sC,List.map,seval,hgi,bv,still]) | (with_reducible first|refine cB (fun _=>?_) (fun _=>?_)|refine gB (fun _=>?_) (fun _=>?_)|refine hB (fun _=>?_) (fun _=>?_)|refine cA ?_ ?_) | exact eZ | fail)
 ·have hkl:k=ds.length:=by omega
  subst hkl
  have hall:=allD_yes hp
  have q2:=text_runx (vF ds ds.length) (by omega) (by omega)
  have e0:rdG ds ds false least most=if vF ds ds.length < least then(0,false) else if most < vF ds ds.length then(0,false) else if txF (vF ds ds.length)≠ds then(0,false) else(vF ds ds.length,true):=by
   unfold rdG
   rw [if_neg h1,if_neg (by rw [hall]; simp)]
   rfl
  rw [e0]
  by_cases h2:vF ds ds.length < least
  ·rw [if_pos h2]
   repeat' (first | (simp (disch:=try exact dq) only[↓pvd,pz,sC,List.map,seval,still]) | (with_reducible first|refine cB (fun _=>?_) (fun _=>?_)|refine gB (fun _=>?_) (fun _=>?_)|refine hB (fun _=>?_) (fun _=>?_)|refine cA ?_ ?_) | refine aC q2 rfl rfl ?_ | refine aD q2 rfl rfl (fun _=>rfl) ?_ | exact eZ | fail)
  by_cases h3:most < vF ds ds.length
  ·rw [if_neg h2,if_pos h3]
   repeat' (first | (simp (disch:=try exact dq) only[↓pvd,pz,sC,List.map,seval,still]) | (with_reducible first|refine cB (fun _=>?_) (fun _=>?_)|refine gB (fun _=>?_) (fun _=>?_)|refine hB (fun _=>?_) (fun _=>?_)|refine cA ?_ ?_) | refine aC q2 rfl rfl ?_ | refine aD q2 rfl rfl (fun _=>rfl) ?_ | exact eZ | fail)
  rw [if_neg h2,if_neg h3]
  by_cases h4:txF (vF ds ds.length)=ds
  ·rw [if_neg (by rw [h4]; simp)]
   rw [h4] at q2
   repeat' (first | (simp (disch:=try exact dq) only[↓pvd,pz,sC,List.map,seval,still]) | (with_reducible first|refine cB (fun _=>?_) (fun _=>?_)|refine gB (fun _=>?_) (fun _=>?_)|refine hB (fun _=>?_) (fun _=>?_)|refine cA ?_ ?_) | refine aC q2 rfl rfl ?_ | refine aD q2 rfl rfl (fun _=>rfl) ?_ | exact eZ | fail)
  ·rw [if_pos h4]
   repeat' (first | (simp (disch:=try exact dq) only[↓pvd,pz,sC,List.map,seval,h4,still]) | (with_reducible first|refine cB (fun _=>?_) (fun _=>?_)|refine gB (fun _=>?_) (fun _=>?_)|refine hB (fun _=>?_) (fun _=>?_)|refine cA ?_ ?_) | refine aC q2 rfl rfl ?_ | refine aD q2 rfl rfl (fun _=>rfl) ?_ | exact eZ | fail)
end Nm
end Go.Proofs
namespace Go.Proofs
namespace Nm
open Go.Pv
theorem rread_true_run(ds:List UInt8)(least most:Int)(hs:ds.length≤50000) :
  Run Tryz.prog 76 [.str (45 :: ds),.int .i64 least,.int .i64 most] (rdR (rdG (45 :: ds) ds true least most)):=by
 refine Tryz.run76 (by simp) ?_
 unfold Tryz.c76 rdR
 have hfst:True:=trivial
 by_cases h1:ds.length < 1∨10 < ds.length
 ·rw [show rdG (45 :: ds) ds true least most =(0,false) by unfold rdG; rw [if_pos h1]]
  cases ds with
  | nil=>repeat' (first | (simp (disch:=try exact dq) only[↓pvd,pz,sC,List.map,seval,still]) | (with_reducible first|refine cB (fun _=>?_) (fun _=>?_)|refine gB (fun _=>?_) (fun _=>?_)|refine hB (fun _=>?_) (fun _=>?_)|refine cA ?_ ?_) | exact eZ | fail)
  | cons c r =>
   simp only[List.length_cons] at h1 hs
   exact kZ
 have h0:0 < ds.length:=by omega
 have hgz:True:=trivial
 simp (disch:=try exact dq) only[↓pvd,pz,sC,List.map,seval,]
 refine aw_loop (fun k:Nat=>⟨[(0,.str (45 :: ds)),(1,.int .i64 least),(2,.int .i64 most),(8,.int .i64 1),(9,.int .i64 (vF ds k)),(10,.int .i64 (1+k))],[]⟩) (fun k=>k≤ds.length∧∀ j < k,isD ds[j]! = true) (fun k=>ds.length - k) 0 rfl ⟨by omega,by simp⟩ ?_
 rintro k ⟨hk,hp⟩
 unfold Tryz.c76b0
 have hv:=vF_b10 ds k (by omega) hp
 have hnat:((1:Int)+k).toNat=1+k:=by omega
 have hgj:∀ j,(45 :: ds)[1+j]?=ds[j]?:=fun j=>by rw [Nat.add_comm,List.getElem?_cons_succ]
 by_cases hx:k < ds.length
 ·have hgi:ds[k]?=some ds[k]!:=by rw [getElem!_pos ds k hx,List.getElem?_eq_getElem hx]
  have hgk:(45 :: ds)[1+k]?=some ds[k]!:=by rw [hgj,hgi]
  by_cases hd:isD ds[k]! = true
  ·have h2:=of_decide_eq_true hd
   have hv2:vF ds (k+1)=10 * vF ds k +((ds[k]!.toNat:Int) - 48):=rfl
   repeat' (first | (simp (disch:=try exact dq) only[↓pvd,pz,sC,List.map,seval,hnat,hgk,hgi,bv,still]) | (with_reducible first|refine cB (fun _=>?_) (fun _=>?_)|refine gB (fun _=>?_) (fun _=>?_)|refine hB (fun _=>?_) (fun _=>?_)|refine cA ?_ ?_) | exact eZ | fail)
   refine⟨k+1,?_,⟨by omega,fun j hj=>?_⟩,by omega⟩
   ·have hm:vF ds k * 10 +(ds[k]!.toNat:Int) - 48=10 * vF ds k +((ds[k]!.toNat:Int) - 48):=by omega
    rw [hv2,hm]
    simp
    try omega
   ·by_cases hjk:j=k
    ·rw [hjk]; exact hd
    ·exact hp j (by omega)
  ·have h3:isD ds[k]! = false:=by simpa using hd
   have h2:=of_decide_eq_false h3
   rw [show rdG (45 :: ds) ds true least most =(0,false) by unfold rdG; rw [if_neg h1,if_pos (allD_no hx h3)]]
   repeat' (first | (simp (disch:=try exact dq) only[↓pvd,pz,sC,List.map,seval,hnat,hgk,hgi,bv,still]) | (with_reducible first|refine cB (fun _=>?_) (fun _=>?_)|refine gB (fun _=>?_) (fun _=>?_)|refine hB (fun _=>?_) (fun _=>?_)|refine cA ?_ ?_) | exact eZ | fail)
 ·have hkl:k=ds.length:=by omega
  subst hkl
  have hall:=allD_yes hp
  have q2:=rtext_runx (0 - vF ds ds.length) (by omega) (by omega)
  have e0:rdG (45 :: ds) ds true least most=if 0 - vF ds ds.length < least then(0,false) else if most < 0 - vF ds ds.length then(0,false) else if txF (0 - vF ds ds.length) ≠(45 :: ds) then(0,false) else(0 - vF ds ds.length,true):=by
   unfold rdG
   rw [if_neg h1,if_neg (by rw [hall]; simp)]
   rw [show 0 - vF ds ds.length=-vF ds ds.length by omega]; rfl
  rw [e0]
  by_cases h2:0 - vF ds ds.length < least
  ·rw [if_pos h2]
   repeat' (first | (simp (disch:=try exact dq) only[↓pvd,pz,sC,List.map,seval,still]) | (with_reducible first|refine cB (fun _=>?_) (fun _=>?_)|refine gB (fun _=>?_) (fun _=>?_)|refine hB (fun _=>?_) (fun _=>?_)|refine cA ?_ ?_) | refine aC q2 rfl rfl ?_ | refine aD q2 rfl rfl (fun _=>rfl) ?_ | exact eZ | fail)
  by_cases h3:most < 0 - vF ds ds.length
  ·rw [if_neg h2,if_pos h3]
   repeat' (first | (simp (disch:=try exact dq) only[↓pvd,pz,sC,List.map,seval,still]) | (with_reducible first|refine cB (fun _=>?_) (fun _=>?_)|refine gB (fun _=>?_) (fun _=>?_)|refine hB (fun _=>?_) (fun _=>?_)|refine cA ?_ ?_) | refine aC q2 rfl rfl ?_ | refine aD q2 rfl rfl (fun _=>rfl) ?_ | exact eZ | fail)
  rw [if_neg h2,if_neg h3]
  by_cases h4:txF (0 - vF ds ds.length) =(45 :: ds)
  ·rw [if_neg (by rw [h4]; simp)]
   rw [h4] at q2
   repeat' (first | (simp (disch:=try exact dq) only[↓pvd,pz,sC,List.map,seval,still]) | (with_reducible first|refine cB (fun _=>?_) (fun _=>?_)|refine gB (fun _=>?_) (fun _=>?_)|refine hB (fun _=>?_) (fun _=>?_)|refine cA ?_ ?_) | refine aC q2 rfl rfl ?_ | refine aD q2 rfl rfl (fun _=>rfl) ?_ | exact eZ | fail)
  ·rw [if_pos h4]
   repeat' (first | (simp (disch:=try exact dq) only[↓pvd,pz,sC,List.map,seval,h4,still]) | (with_reducible first|refine cB (fun _=>?_) (fun _=>?_)|refine gB (fun _=>?_) (fun _=>?_)|refine hB (fun _=>?_) (fun _=>?_)|refine cA ?_ ?_) | refine aC q2 rfl rfl ?_ | refine aD q2 rfl rfl (fun _=>rfl) ?_ | exact eZ | fail)
theorem rread_false_run(ds:List UInt8)(least most:Int)(hs:ds.length≤50000)(hn:¬ ds[0]?=some 45) :
  Run Tryz.prog 76 [.str ds,.int .i64 least,.int .i64 most] (rdR (rdG ds ds false least most)):=by
 refine Tryz.run76 (by simp) ?_
 unfold Tryz.c76 rdR
 have hfst:∀ c,ds[0]?=some c→¬((c.toNat:Nat):Int)=45:=fun c hc e=>hn (by rw [hc,show c=45 from UInt8.toNat_inj.1 (by simp; omega)])
 by_cases h1:ds.length < 1∨10 < ds.length
 ·rw [show rdG ds ds false least most =(0,false) by unfold rdG; rw [if_pos h1]]
  cases ds with
  | nil=>repeat' (first | (simp (disch:=try exact dq) only[↓pvd,pz,sC,List.map,seval,still]) | (with_reducible first|refine cB (fun _=>?_) (fun _=>?_)|refine gB (fun _=>?_) (fun _=>?_)|refine hB (fun _=>?_) (fun _=>?_)|refine cA ?_ ?_) | exact eZ | fail)
  | cons c r =>
   simp only[List.length_cons] at h1 hs
   have hc:=hfst c rfl
   exact kZ
 have h0:0 < ds.length:=by omega
 have hgz:ds[0]?=some ds[0]!:=by rw [getElem!_pos ds 0 h0,List.getElem?_eq_getElem h0]
 have hcz:=hfst _ hgz
 simp (disch:=try exact dq) only[↓pvd,pz,sC,List.map,seval,hgz,bv]
 refine aw_loop (fun k:Nat=>⟨[(0,.str ds),(1,.int .i64 least),(2,.int .i64 most),(8,.int .i64 0),(9,.int .i64 (vF ds k)),(10,.int .i64 (0+k))],[]⟩) (fun k=>k≤ds.length∧∀ j < k,isD ds[j]! = true) (fun k=>ds.length - k) 0 rfl ⟨by omega,by simp⟩ ?_
 rintro k ⟨hk,hp⟩
 unfold Tryz.c76b0
 have hv:=vF_b10 ds k (by omega) hp
 have hnat:((0:Int)+k).toNat=0+k:=by omega
 have hgj:∀ j,ds[0+j]?=ds[j]?:=fun j=>by rw [Nat.zero_add]
 by_cases hx:k < ds.length
 ·have hgi:ds[k]?=some ds[k]!:=by rw [getElem!_pos ds k hx,List.getElem?_eq_getElem hx]
  have hgk:ds[0+k]?=some ds[k]!:=by rw [hgj,hgi]
  by_cases hd:isD ds[k]! = true
  ·have h2:=of_decide_eq_true hd
   have hv2:vF ds (k+1)=10 * vF ds k +((ds[k]!.toNat:Int) - 48):=rfl
   repeat' (first | (simp (disch:=try exact dq) only[↓pvd,pz,sC,List.map,seval,hnat,hgk,hgi,bv,still]) | (with_reducible first|refine cB (fun _=>?_) (fun _=>?_)|refine gB (fun _=>?_) (fun _=>?_)|refine hB (fun _=>?_) (fun _=>?_)|refine cA ?_ ?_) | exact eZ | fail)
   refine⟨k+1,?_,⟨by omega,fun j hj=>?_⟩,by omega⟩
   ·have hm:vF ds k * 10 +(ds[k]!.toNat:Int) - 48=10 * vF ds k +((ds[k]!.toNat:Int) - 48):=by omega
    rw [hv2,hm]
    simp
    try omega
   ·by_cases hjk:j=k
    ·rw [hjk]; exact hd
    ·exact hp j (by omega)
  ·have h3:isD ds[k]! = false:=by simpa using hd
   have h2:=of_decide_eq_false h3
   rw [show rdG ds ds false least most =(0,false) by unfold rdG; rw [if_neg h1,if_pos (allD_no hx h3)]]
   repeat' (first | (simp (disch:=try exact dq) only[↓pvd,pz,sC,List.map,seval,hnat,hgk,hgi,bv,still]) | (with_reducible first|refine cB (fun _=>?_) (fun _=>?_)|refine gB (fun _=>?_) (fun _=>?_)|refine hB (fun _=>?_) (fun _=>?_)|refine cA ?_ ?_) | exact eZ | fail)
 ·have hkl:k=ds.length:=by omega
  subst hkl
  have hall:=allD_yes hp
  have q2:=rtext_runx (vF ds ds.length) (by omega) (by omega)
  have e0:rdG ds ds false least most=if vF ds ds.length < least then(0,false) else if most < vF ds ds.length then(0,false) else if txF (vF ds ds.length)≠ds then(0,false) else(vF ds ds.length,true):=by
   unfold rdG
   rw [if_neg h1,if_neg (by rw [hall]; simp)]
   rfl
  rw [e0]
  by_cases h2:vF ds ds.length < least
  ·rw [if_pos h2]
   repeat' (first | (simp (disch:=try exact dq) only[↓pvd,pz,sC,List.map,seval,still]) | (with_reducible first|refine cB (fun _=>?_) (fun _=>?_)|refine gB (fun _=>?_) (fun _=>?_)|refine hB (fun _=>?_) (fun _=>?_)|refine cA ?_ ?_) | refine aC q2 rfl rfl ?_ | refine aD q2 rfl rfl (fun _=>rfl) ?_ | exact eZ | fail)
  by_cases h3:most < vF ds ds.length
  ·rw [if_neg h2,if_pos h3]
   repeat' (first | (simp (disch:=try exact dq) only[↓pvd,pz,sC,List.map,seval,still]) | (with_reducible first|refine cB (fun _=>?_) (fun _=>?_)|refine gB (fun _=>?_) (fun _=>?_)|refine hB (fun _=>?_) (fun _=>?_)|refine cA ?_ ?_) | refine aC q2 rfl rfl ?_ | refine aD q2 rfl rfl (fun _=>rfl) ?_ | exact eZ | fail)
  rw [if_neg h2,if_neg h3]
  by_cases h4:txF (vF ds ds.length)=ds
  ·rw [if_neg (by rw [h4]; simp)]
   rw [h4] at q2
   repeat' (first | (simp (disch:=try exact dq) only[↓pvd,pz,sC,List.map,seval,still]) | (with_reducible first|refine cB (fun _=>?_) (fun _=>?_)|refine gB (fun _=>?_) (fun _=>?_)|refine hB (fun _=>?_) (fun _=>?_)|refine cA ?_ ?_) | refine aC q2 rfl rfl ?_ | refine aD q2 rfl rfl (fun _=>rfl) ?_ | exact eZ | fail)
  ·rw [if_pos h4]
   repeat' (first | (simp (disch:=try exact dq) only[↓pvd,pz,sC,List.map,seval,h4,still]) | (with_reducible first|refine cB (fun _=>?_) (fun _=>?_)|refine gB (fun _=>?_) (fun _=>?_)|refine hB (fun _=>?_) (fun _=>?_)|refine cA ?_ ?_) | refine aC q2 rfl rfl ?_ | refine aD q2 rfl rfl (fun _=>rfl) ?_ | exact eZ | fail)
end Nm
end Go.Proofs
namespace Go.Proofs
namespace Nm
open Go.Pv
theorem read_run(s:List UInt8)(least most:Int)(hs:s.length≤50000) :
  Run Tryz.prog 64 [.str s,.int .i64 least,.int .i64 most] (rdR (rdF s least most)):=by
 have q:=trim_run s (by omega)
 unfold rdF
 by_cases h:s[0]?=some 45
 ·rw [if_pos h] at q ⊢
  cases s with
  | nil=>simp at h
  | cons c r =>
   simp only[List.getElem?_cons_zero,Option.some.injEq] at h
   subst h
   simp only[List.length_cons] at hs
   exact read_true_run r least most (by omega) q
 ·rw [if_neg h] at q ⊢
  exact read_false_run s least most hs q
theorem rread_run(s:List UInt8)(least most:Int)(hs:s.length≤50000) :
  Run Tryz.prog 76 [.str s,.int .i64 least,.int .i64 most] (rdR (rdF s least most)):=by
 unfold rdF
 by_cases h:s[0]?=some 45
 ·rw [if_pos h]
  cases s with
  | nil=>simp at h
  | cons c r =>
   simp only[List.getElem?_cons_zero,Option.some.injEq] at h
   subst h
   simp only[List.length_cons] at hs
   exact rread_true_run r least most (by omega)
 ·rw [if_neg h]
  exact rread_false_run s least most hs h
def nmB(s:List UInt8)(j:Nat):Prop:=(97 ≤(s[j]!.toNat:Int) ∧(s[j]!.toNat:Int)≤122) ∨((48 ≤(s[j]!.toNat:Int) ∧(s[j]!.toNat:Int)≤57)∧j≠0)
instance (s:List UInt8) (j:Nat):Decidable (nmB s j):=by unfold nmB; infer_instance
def nmP(s:List UInt8):Prop:=(0 < s.length∧s.length≤12)∧∀ j,j < s.length→nmB s j
instance (s:List UInt8):Decidable (nmP s):=by unfold nmP; infer_instance
theorem name_run(s:List UInt8)(hs:s.length≤50000):Run Tryz.prog 63 [.str s] (.bool (decide (nmP s))):=by
 refine Tryz.run63 (by simp) ?_
 unfold Tryz.c63
 refine vZ ?_
 refine aw_loop (fun k:Nat=>⟨[(0,.str s),(7,.int .i64 s.length),(8,.int .i64 k)],[]⟩) (fun k=>k≤s.length∧∀ j,j < k→nmB s j) (fun k=>s.length - k) 0 rfl ⟨by omega,fun j hj=>by omega⟩ ?_
 rintro k ⟨hk,hp⟩
 unfold Tryz.c63b0
 by_cases hx:k < s.length
 ·have hgi:s[k]?=some s[k]!:=by rw [getElem!_pos s k hx,List.getElem?_eq_getElem hx]
  by_cases hd:nmB s k
  ·have h2:=hd
   unfold nmB at h2
   have hstep:∃ a',(⟨[(0,AV.str s),(7,.int .i64 s.length),(8,.int .i64 (k+1))],[]⟩:St) =⟨[(0,.str s),(7,.int .i64 s.length),(8,.int .i64 (a':Nat))],[]⟩ ∧(a'≤s.length∧∀ j,j < a'→nmB s j)∧s.length - a' < s.length - k :=
    ⟨k+1,rfl,⟨by omega,fun j hj=>by
     by_cases hjk:j=k
     ·rw [hjk]; exact hd
     ·exact hp j (by omega)⟩,by omega⟩
   repeat' (first | (simp (disch:=try exact dq) only[↓pvd,pz,sC,List.map,seval,hgi,bv,still]) | (with_reducible first|refine cB (fun _=>?_) (fun _=>?_)|refine gB (fun _=>?_) (fun _=>?_)|refine hB (fun _=>?_) (fun _=>?_)|refine cA ?_ ?_) | exact eZ | fail)
   all_goals exact hstep
  ·have h2:=hd
   unfold nmB at h2
   rw [decide_eq_false (fun h:nmP s=>hd (h.2 k hx))]
   repeat' (first | (simp (disch:=try exact dq) only[↓pvd,pz,sC,List.map,seval,hgi,bv,still]) | (with_reducible first|refine cB (fun _=>?_) (fun _=>?_)|refine gB (fun _=>?_) (fun _=>?_)|refine hB (fun _=>?_) (fun _=>?_)|refine cA ?_ ?_) | exact eZ | fail)
 ·by_cases h1:0 < s.length∧s.length≤12
  ·rw [decide_eq_true (show nmP s from⟨h1,fun j hj=>hp j (by omega)⟩)]
   exact kZ
  ·rw [decide_eq_false (fun h:nmP s=>h1 h.1)]
   by_cases h3:0 < s.length
   ·have:12 < s.length:=by omega
    exact kZ
   ·exact kZ
theorem rname_run(s:List UInt8)(hs:s.length≤50000):Run Tryz.prog 74 [.str s] (.bool (decide (nmP s))):=by
 refine Tryz.run74 (by simp) ?_
 unfold Tryz.c74
 by_cases h1:0 < s.length∧s.length≤12
 ·have hgz:s[0]?=some s[0]!:=by rw [getElem!_pos s 0 h1.1,List.getElem?_eq_getElem h1.1]
  by_cases h0:nmB s 0
  ·have h2:=h0
   unfold nmB at h2
   have h3:97 ≤(s[0]!.toNat:Int) ∧(s[0]!.toNat:Int)≤122:=by omega
   simp (disch:=try exact dq) only[↓pvd,pz,sC,List.map,seval,hgz,bv]
   refine aw_loop (fun k:Nat=>⟨[(0,.str s),(3,.int .i64 k)],[]⟩) (fun k=>k≤s.length∧∀ j,j < k→nmB s j) (fun k=>s.length - k) 0 rfl ⟨by omega,fun j hj=>by omega⟩ ?_
   rintro k ⟨hk,hp⟩
   unfold Tryz.c74b0
   by_cases hx:k < s.length
   ·have hgi:s[k]?=some s[k]!:=by rw [getElem!_pos s k hx,List.getElem?_eq_getElem hx]
    have hz:k=0→nmB s k:=fun e=>by rw [e]; exact h0
    by_cases hd:nmB s k
    ·have h4:=hd
     unfold nmB at h4
     have hstep:∃ a',(⟨[(0,AV.str s),(3,.int .i64 (k+1))],[]⟩:St) =⟨[(0,.str s),(3,.int .i64 (a':Nat))],[]⟩ ∧(a'≤s.length∧∀ j,j < a'→nmB s j)∧s.length - a' < s.length - k :=
      ⟨k+1,rfl,⟨by omega,fun j hj=>by
       by_cases hjk:j=k
       ·rw [hjk]; exact hd
       ·exact hp j (by omega)⟩,by omega⟩
     repeat' (first | (simp (disch:=try exact dq) only[↓pvd,pz,sC,List.map,seval,hgi,bv,still]) | (with_reducible first|refine cB (fun _=>?_) (fun _=>?_)|refine gB (fun _=>?_) (fun _=>?_)|refine hB (fun _=>?_) (fun _=>?_)|refine cA ?_ ?_) | exact eZ | fail)
     all_goals exact hstep
    ·have hk0:k≠0:=fun e=>hd (hz e)
     have h4:=hd
     unfold nmB at h4
     rw [decide_eq_false (fun h:nmP s=>hd (h.2 k hx))]
     repeat' (first | (simp (disch:=try exact dq) only[↓pvd,pz,sC,List.map,seval,hgi,bv,still]) | (with_reducible first|refine cB (fun _=>?_) (fun _=>?_)|refine gB (fun _=>?_) (fun _=>?_)|refine hB (fun _=>?_) (fun _=>?_)|refine cA ?_ ?_) | exact eZ | fail)
   ·rw [decide_eq_true (show nmP s from⟨h1,fun j hj=>hp j (by omega)⟩)]
    exact kZ
  ·rw [decide_eq_false (fun h:nmP s=>h0 (h.2 0 h1.1))]
   have h2:=h0
   unfold nmB at h2
   have h3:¬(97 ≤(s[0]!.toNat:Int) ∧(s[0]!.toNat:Int)≤122):=by omega
   repeat' (first | (simp (disch:=try exact dq) only[↓pvd,pz,sC,List.map,seval,hgz,bv,still]) | (with_reducible first|refine cB (fun _=>?_) (fun _=>?_)|refine gB (fun _=>?_) (fun _=>?_)|refine hB (fun _=>?_) (fun _=>?_)|refine cA ?_ ?_) | exact eZ | fail)
 ·rw [decide_eq_false (fun h:nmP s=>h1 h.1)]
  by_cases h3:0 < s.length
  ·have:12 < s.length:=by omega
   exact kZ
  ·exact kZ
end Nm
end Go.Proofs
namespace Go.Proofs
namespace Nm
open Go.Pv
theorem rl1_run(s:List UInt8)(least most:Int)(hs:s.length≤50000):Run Tryz.prog 105 [.str s,.rptr (.int .i64 least) 0,.rptr (.int .i64 most) 0] (rdR (rdF s least most)):=by
 have q:=read_run s least most hs
 refine Tryz.run105 (by simp) ?_
 unfold Tryz.c105
 unfold rdR at *
 repeat' (first | (simp (disch:=try exact dq) only[↓pvd,pz,sC,List.map,seval,still]) | (with_reducible first|refine cB (fun _=>?_) (fun _=>?_)|refine gB (fun _=>?_) (fun _=>?_)|refine hB (fun _=>?_) (fun _=>?_)|refine cA ?_ ?_) | refine aC q rfl rfl ?_ | refine aD q rfl rfl (fun _=>rfl) ?_ | exact eZ | fail)
end Nm
end Go.Proofs
namespace Go.Proofs
namespace Nm
open Go.Pv
end Nm
end Go.Proofs
namespace Go.Proofs
open Go.Pv
def risF:List Int→Bool
 | a :: b :: r=>decide (a < b) && risF (b :: r)
 | _=>true
theorem risF_snoc:∀(l:List Int) (y x:Int),risF (l ++ [y] ++ [x]) =(risF (l ++ [y]) && decide (y < x))
 | [],y,x=>by simp [risF]
 | [a],y,x=>by simp [risF]
 | a :: b :: r,y,x=>by
  have ih:=risF_snoc (b :: r) y x
  simp only[List.cons_append] at ih ⊢
  rw [risF,risF,ih,Bool.and_assoc]
theorem risF_app:∀(l m:List Int),risF (l ++ m)=true→risF l=true
 | [],_,_=>rfl
 | [_],_,_=>rfl
 | a :: b :: r,m,h=>by
  simp only[List.cons_append,risF,Bool.and_eq_true] at h ⊢
  exact⟨h.1,risF_app (b :: r) m h.2⟩
def rlF(g:List UInt8→Int × Bool)(ps:List (List UInt8)):Bool:=ps.all (fun p=>(g p).2) && decide (ps.length≤16) && risF (ps.map fun p=>(g p).1)
def rlR(ty:TypeId)(k:IntKind)(g:List UInt8→Int × Bool)(ps:List (List UInt8)):AV :=
 if rlF g ps then .tup [.own 1 ty ((ps.map fun p=>(g p).1).map (.int k)),.bool true] else .tup [.sl 0 [] true,.bool false]
theorem rlR_yes{ty:TypeId}{k:IntKind}{g:List UInt8→Int × Bool}{ps:List (List UInt8)}(h:rlF g ps=true):rlR ty k g ps=.tup [.own 1 ty ((ps.map fun p=>(g p).1).map (.int k)),.bool true]:=if_pos h
theorem rlR_no{ty:TypeId}{k:IntKind}{g:List UInt8→Int × Bool}{ps:List (List UInt8)}(h:¬ rlF g ps=true):rlR ty k g ps=.tup [.sl 0 [] true,.bool false]:=if_neg h
theorem rlF_iff{g:List UInt8→Int × Bool}{ps:List (List UInt8)}:rlF g ps=true ↔(∀ p∈ps,(g p).2=true)∧ps.length≤16∧risF (ps.map fun p=>(g p).1)=true:=by
 unfold rlF
 simp only[Bool.and_eq_true,List.all_eq_true,decide_eq_true_eq]
 exact⟨fun h=>⟨h.1.1,h.1.2,h.2⟩,fun h=>⟨⟨h.1,h.2.1⟩,h.2.2⟩⟩
theorem cut_sc(s:List UInt8):sc s =(if (cutF 44 s).2.2=true then(cutF 44 s).1 :: sc (cutF 44 s).2.1 else [(cutF 44 s).1]) ∧(cutF 44 s).1.length≤s.length ∧(cutF 44 s).2.1.length≤s.length ∧((cutF 44 s).2.2=true →(cutF 44 s).2.1.length < s.length):=by
 have h:=sc_index s
 have hb:=ix_b s 44
 unfold cutF
 by_cases hx:0≤Lib.indexByte s 44
 ·rw [if_pos hx] at h ⊢
  exact⟨h,by simp; omega,by simp,fun _=>by simp; omega⟩
 ·rw [if_neg hx] at h ⊢
  exact⟨h,by simp,by simp,fun h=>by simp at h⟩
theorem int_nr(k:IntKind)(n:Int):(AV.int k n).nr1=true:=rfl
theorem int_pl(k:IntKind)(n:Int):(AV.int k n).pl=true:=rfl
def rdB(s:List UInt8):Int × Bool:=(if okA s then accF (sp s) else 0,decide (okA s))
theorem rdB_eq(s:List UInt8):rdA (sp s)=.tup [.int .u32 (rdB s).1,.bool (rdB s).2]:=by
 unfold rdB
 by_cases h:okA s
 ·rw [rdA_pos h,if_pos h,decide_eq_true h]
 ·rw [rdA_neg h,if_neg h,decide_eq_false h]
def rdiS(g:List UInt8→Int × Bool)(least most:Int)(x:List (List UInt8) × List UInt8 × Bool):St:=⟨[(0,.str x.2.1),(1,.fn 105 [.rptr (.int .i64 least) 0,.rptr (.int .i64 most) 0]),(6,.vec 0 1 0 x.1.length),(7,.bool x.2.2)],[some ⟨3,(x.1.map fun p=>(g p).1).map (.int .i64),true⟩]⟩
def rdiI(g:List UInt8→Int × Bool)(s:List UInt8)(x:List (List UInt8) × List UInt8 × Bool):Prop :=
 x.1.length≤16 ∧(∀ p∈x.1,(g p).2=true)∧risF (x.1.map fun p=>(g p).1)=true∧x.2.1.length≤s.length∧sc s=x.1 ++(if x.2.2=true then sc x.2.1 else [])
theorem rdi_run(s:List UInt8)(least most:Int)(hs:s.length≤1000)(g:List UInt8→Int × Bool)(hg:g =(fun p=>Nm.rdF p least most))
  (q:∀ p:List UInt8,p.length≤1000→Run Tryz.prog 105 [.str p,.rptr (.int .i64 least) 0,.rptr (.int .i64 most) 0] (.tup [.int .i64 (g p).1,.bool (g p).2])) :
  Run Tryz.prog 104 [.str s,.fn 105 [.rptr (.int .i64 least) 0,.rptr (.int .i64 most) 0]] (rlR 3 .i64 g (sc s)):=by
 refine Tryz.run104 (by simp) ?_
 unfold Tryz.c104
 refine vZ ?_
 refine aw_loop (rdiS g least most) (rdiI g s) (fun x=>(if x.2.2=true then 1 else 0)+x.2.1.length +(if x.2.2=true then 1 else 0)) ([],s,true) ?_ ⟨by simp,by simp,rfl,Nat.le_refl _,by simp⟩ ?_
 ·simp (disch:=try exact dq) only[↓pvd,pz,sC,List.map,seval,ids_fn,ren_fn,ids_rptr,rdiS]
 rintro ⟨pre,r,m⟩ ⟨h1,h2,h3,h4,h5⟩
 simp only at h1 h2 h3 h4 h5
 unfold rdiS Tryz.c104b0
 simp only
 cases m with
 | false =>
  rw [if_neg (by simp),List.append_nil] at h5
  have hy:rlF g (sc s)=true:=by rw [h5]; exact rlF_iff.2 ⟨h2,h1,h3⟩
  rw [rlR_yes hy,h5]
  generalize hvs:(pre.map fun p=>(g p).1)=vs at *
  have hvl:pre.length=vs.length:=by rw [← hvs]; simp
  rw [hvl]
  refine vZ ?_
  (refine Ends_rq [[.own 1 3],[.snap]] ?_; simp (disch:=try exact dq) only[↓pvd,pz,sC,List.map,seval,iM (int_pl .i64),rM (int_pl .i64),mapO_map (int_nr .i64),rows_map (int_nr .i64)]; exact⟨_,rfl,rfl,rfl⟩)
 | true =>
  rw [if_pos rfl] at h5
  obtain ⟨hc1,hc2,hc3,hc4⟩:=cut_sc r
  have qc:=cut_run r 44 (by omega)
  unfold cutR at qc
  generalize (cutF 44 r).1=a at *
  generalize (cutF 44 r).2.1=r' at *
  generalize (cutF 44 r).2.2=m' at *
  have q1:=q a (by omega)
  have ha:∃ t,sc s=pre ++ a :: t ∧(m'=true→t=sc r') ∧(m'=false→t=[]):=by
   rw [h5,hc1]
   cases m' with
   | true=>exact⟨sc r',by simp,fun _=>rfl,fun h=>by cases h⟩
   | false=>exact⟨[],by simp,fun h=>by simp at h,fun _=>rfl⟩
  obtain ⟨t,ht,ht1,ht2⟩:=ha
  have nok:¬((g a).2=true∧pre.length≤15∧risF ((pre ++ [a]).map fun p=>(g p).1)=true)→¬ rlF g (sc s)=true:=fun h h'=>by
   rw [ht] at h'
   obtain ⟨k1,k2,k3⟩:=rlF_iff.1 h'
   refine h ⟨k1 a (by simp),by simp at k2; omega,?_⟩
   have e:pre ++ a :: t =(pre ++ [a]) ++ t:=by simp
   rw [e,List.map_append] at k3
   exact risF_app _ _ k3
  generalize hga:g a=ga at *
  obtain ⟨v,ok⟩:=ga
  simp only at q1 nok
  cases ok with
  | false =>
   rw [rlR_no (nok (fun h=>by cases h.1))]
   refine vZ ?_
   refine aC qc rfl rfl ?_
   refine vZ ?_
   refine aV rfl (gen_nr q1 rfl) (Nat.le_refl _) ?_
   simp (disch:=try exact dq) only[↓pvd,pz,sC,List.map,seval,ids_fn,ren_fn,ids_rptr]
   exact eZ
  | true =>
   by_cases hl:pre.length=16
   ·rw [rlR_no (nok (fun h=>by omega))]
    refine vZ ?_
    refine aC qc rfl rfl ?_
    refine vZ ?_
    refine aV rfl (gen_nr q1 rfl) (Nat.le_refl _) ?_
    have hvl:((pre.map fun p=>(g p).1).map (AV.int .i64)).length=16:=by simp [hl]
    simp (disch:=try exact dq) only[↓pvd,pz,sC,List.map,seval,ids_fn,ren_fn,ids_rptr,hl,hvl]
    exact eZ
   ·have hgo:(pre≠[]→∃ y,((pre.map fun p=>(g p).1).map (AV.int .i64))[pre.length - 1]?=some (.int .i64 y)∧risF ((pre ++ [a]).map fun p=>(g p).1)=decide (y < v)):=fun hne=>by
     obtain ⟨qs,p,rfl⟩:∃ qs p,pre=qs ++ [p]:=⟨pre.dropLast,pre.getLast hne,(List.dropLast_concat_getLast _).symm⟩
     refine⟨(g p).1,by simp,?_⟩
     simp only[List.map_append,List.map_cons,List.map_nil] at h3 ⊢
     rw [risF_snoc,h3,hga,Bool.true_and]
    have fin:risF ((pre ++ [a]).map fun p=>(g p).1)=true→rdiI g s (pre ++ [a],r',m'):=fun hr=>by
     refine⟨by simp; omega,fun p hp=>?_,hr,by show r'.length≤_; omega,?_⟩
     ·rcases List.mem_append.1 hp with hp | hp
      ·exact h2 p hp
      ·rw [List.mem_singleton.1 hp,hga]
     ·rw [ht]
      cases m' with
      | true=>rw [if_pos rfl,ht1 rfl]; simp
      | false=>rw [if_neg (by simp),ht2 rfl]; simp
    have hms:(if (pre ++ [a],r',m').2.2=true then 1 else 0) +(pre ++ [a],r',m').2.1.length +(if (pre ++ [a],r',m').2.2=true then 1 else 0) < 1+r.length+1:=by
     cases m' with
     | true=>have:=hc4 rfl; simp; omega
     | false=>simp; omega
    have hvm:((pre.map fun p=>(g p).1).map (AV.int .i64)) ++ [AV.int .i64 v] =(((pre ++ [a]).map fun p=>(g p).1).map (AV.int .i64)):=by simp [hga]
    have hpl1:((pre.map fun p=>(g p).1).map (AV.int .i64)).all AV.pl=true:=pl_map (int_pl .i64)
    have hpl2:(((pre ++ [a]).map fun p=>(g p).1).map (AV.int .i64)).all AV.pl=true:=pl_map (int_pl .i64)
    have hvl:((pre.map fun p=>(g p).1).map (AV.int .i64)).length=pre.length:=by simp
    have hvl2:(((pre ++ [a]).map fun p=>(g p).1).map (AV.int .i64)).length=pre.length+1:=by simp
    by_cases hp0:pre=[]
    ·have hr:risF ((pre ++ [a]).map fun p=>(g p).1)=true:=by rw [hp0]; rfl
     have f1:=fin hr
     subst hp0
     refine vZ ?_
     refine aC qc rfl rfl ?_
     refine vZ ?_
     refine aV rfl (gen_nr q1 rfl) (Nat.le_refl _) ?_
     simp (disch:=try exact dq) only[↓pvd,pz,sC,List.map,seval,ids_fn,ren_fn,ids_rptr]
     refine⟨([] ++ [a],r',m'),?_,f1,hms⟩
     simp [rdiS,hga]
    ·obtain ⟨y,hy1,hy2⟩:=hgo hp0
     have hp1:0 < pre.length:=List.length_pos_iff.2 hp0
     have hix:((pre.length:Int) - 1).toNat=pre.length - 1:=by omega
     generalize hrow:((pre.map fun p=>(g p).1).map (AV.int .i64))=row at *
     generalize hrow2:(((pre ++ [a]).map fun p=>(g p).1).map (AV.int .i64))=row2 at *
     by_cases hyv:y < v
     ·have f1:=fin (by rw [hy2]; exact decide_eq_true hyv)
      refine vZ ?_
      refine aC qc rfl rfl ?_
      refine vZ ?_
      refine aV rfl (gen_nr q1 rfl) (Nat.le_refl _) ?_
      simp (disch:=try exact dq) only[↓pvd,pz,sC,List.map,seval,ids_fn,ren_fn,ids_rptr,hix,hy1,hvl,ids_all hpl1,ids_all hpl2,ren_all hpl1,ren_all hpl2,hvm]
      refine⟨(pre ++ [a],r',m'),?_,f1,hms⟩
      simp [rdiS,hrow2,hvl,hvl2,← hrow2,hga]
     ·rw [rlR_no (nok (fun h=>by rw [hy2] at h; exact hyv (of_decide_eq_true h.2.2)))]
      refine vZ ?_
      refine aC qc rfl rfl ?_
      refine vZ ?_
      refine aV rfl (gen_nr q1 rfl) (Nat.le_refl _) ?_
      simp (disch:=try exact dq) only[↓pvd,pz,sC,List.map,seval,ids_fn,ren_fn,ids_rptr,hix,hy1,hvl,ids_all hpl1,ids_all hpl2,ren_all hpl1,ren_all hpl2,hvm]
      exact eZ
def rduS(g:List UInt8→Int × Bool)  (x:List (List UInt8) × List UInt8 × Bool):St:=⟨[(0,.str x.2.1),(1,.fn 38 []),(6,.vec 0 1 0 x.1.length),(7,.bool x.2.2)],[some ⟨35,(x.1.map fun p=>(g p).1).map (.int .u32),true⟩]⟩
def rduI(g:List UInt8→Int × Bool)(s:List UInt8)(x:List (List UInt8) × List UInt8 × Bool):Prop :=
 x.1.length≤16 ∧(∀ p∈x.1,(g p).2=true)∧risF (x.1.map fun p=>(g p).1)=true∧x.2.1.length≤s.length∧sc s=x.1 ++(if x.2.2=true then sc x.2.1 else [])
theorem rdu_run(s:List UInt8)  (hs:s.length≤1000) (g:List UInt8→Int × Bool) (hg:g=rdB)
  (q:∀ p:List UInt8,p.length≤1000→Run Tryz.prog 38 [.str p] (.tup [.int .u32 (g p).1,.bool (g p).2])) :
  Run Tryz.prog 70 [.str s,.fn 38 []] (rlR 35 .u32 g (sc s)):=by
 refine Tryz.run70 (by simp) ?_
 unfold Tryz.c70
 refine vZ ?_
 refine aw_loop (rduS g ) (rduI g s) (fun x=>(if x.2.2=true then 1 else 0)+x.2.1.length +(if x.2.2=true then 1 else 0)) ([],s,true) ?_ ⟨by simp,by simp,rfl,Nat.le_refl _,by simp⟩ ?_
 ·simp (disch:=try exact dq) only[↓pvd,pz,sC,List.map,seval,ids_fn,ren_fn,ids_rptr,rduS]
 rintro ⟨pre,r,m⟩ ⟨h1,h2,h3,h4,h5⟩
 simp only at h1 h2 h3 h4 h5
 unfold rduS Tryz.c70b0
 simp only
 cases m with
 | false =>
  rw [if_neg (by simp),List.append_nil] at h5
  have hy:rlF g (sc s)=true:=by rw [h5]; exact rlF_iff.2 ⟨h2,h1,h3⟩
  rw [rlR_yes hy,h5]
  generalize hvs:(pre.map fun p=>(g p).1)=vs at *
  have hvl:pre.length=vs.length:=by rw [← hvs]; simp
  rw [hvl]
  refine vZ ?_
  (refine Ends_rq [[.own 1 35],[.snap]] ?_; simp (disch:=try exact dq) only[↓pvd,pz,sC,List.map,seval,iM (int_pl .u32),rM (int_pl .u32),mapO_map (int_nr .u32),rows_map (int_nr .u32)]; exact⟨_,rfl,rfl,rfl⟩)
 | true =>
  rw [if_pos rfl] at h5
  obtain ⟨hc1,hc2,hc3,hc4⟩:=cut_sc r
  have qc:=cut_run r 44 (by omega)
  unfold cutR at qc
  generalize (cutF 44 r).1=a at *
  generalize (cutF 44 r).2.1=r' at *
  generalize (cutF 44 r).2.2=m' at *
  have q1:=q a (by omega)
  have ha:∃ t,sc s=pre ++ a :: t ∧(m'=true→t=sc r') ∧(m'=false→t=[]):=by
   rw [h5,hc1]
   cases m' with
   | true=>exact⟨sc r',by simp,fun _=>rfl,fun h=>by cases h⟩
   | false=>exact⟨[],by simp,fun h=>by simp at h,fun _=>rfl⟩
  obtain ⟨t,ht,ht1,ht2⟩:=ha
  have nok:¬((g a).2=true∧pre.length≤15∧risF ((pre ++ [a]).map fun p=>(g p).1)=true)→¬ rlF g (sc s)=true:=fun h h'=>by
   rw [ht] at h'
   obtain ⟨k1,k2,k3⟩:=rlF_iff.1 h'
   refine h ⟨k1 a (by simp),by simp at k2; omega,?_⟩
   have e:pre ++ a :: t =(pre ++ [a]) ++ t:=by simp
   rw [e,List.map_append] at k3
   exact risF_app _ _ k3
  generalize hga:g a=ga at *
  obtain ⟨v,ok⟩:=ga
  simp only at q1 nok
  cases ok with
  | false =>
   rw [rlR_no (nok (fun h=>by cases h.1))]
   refine vZ ?_
   refine aC qc rfl rfl ?_
   refine vZ ?_
   refine aV rfl (gen_nr q1 rfl) (Nat.le_refl _) ?_
   simp (disch:=try exact dq) only[↓pvd,pz,sC,List.map,seval,ids_fn,ren_fn,ids_rptr]
   exact eZ
  | true =>
   by_cases hl:pre.length=16
   ·rw [rlR_no (nok (fun h=>by omega))]
    refine vZ ?_
    refine aC qc rfl rfl ?_
    refine vZ ?_
    refine aV rfl (gen_nr q1 rfl) (Nat.le_refl _) ?_
    have hvl:((pre.map fun p=>(g p).1).map (AV.int .u32)).length=16:=by simp [hl]
    simp (disch:=try exact dq) only[↓pvd,pz,sC,List.map,seval,ids_fn,ren_fn,ids_rptr,hl,hvl]
    exact eZ
   ·have hgo:(pre≠[]→∃ y,((pre.map fun p=>(g p).1).map (AV.int .u32))[pre.length - 1]?=some (.int .u32 y)∧risF ((pre ++ [a]).map fun p=>(g p).1)=decide (y < v)):=fun hne=>by
     obtain ⟨qs,p,rfl⟩:∃ qs p,pre=qs ++ [p]:=⟨pre.dropLast,pre.getLast hne,(List.dropLast_concat_getLast _).symm⟩
     refine⟨(g p).1,by simp,?_⟩
     simp only[List.map_append,List.map_cons,List.map_nil] at h3 ⊢
     rw [risF_snoc,h3,hga,Bool.true_and]
    have fin:risF ((pre ++ [a]).map fun p=>(g p).1)=true→rduI g s (pre ++ [a],r',m'):=fun hr=>by
     refine⟨by simp; omega,fun p hp=>?_,hr,by show r'.length≤_; omega,?_⟩
     ·rcases List.mem_append.1 hp with hp | hp
      ·exact h2 p hp
      ·rw [List.mem_singleton.1 hp,hga]
     ·rw [ht]
      cases m' with
      | true=>rw [if_pos rfl,ht1 rfl]; simp
      | false=>rw [if_neg (by simp),ht2 rfl]; simp
    have hms:(if (pre ++ [a],r',m').2.2=true then 1 else 0) +(pre ++ [a],r',m').2.1.length +(if (pre ++ [a],r',m').2.2=true then 1 else 0) < 1+r.length+1:=by
     cases m' with
     | true=>have:=hc4 rfl; simp; omega
     | false=>simp; omega
    have hvm:((pre.map fun p=>(g p).1).map (AV.int .u32)) ++ [AV.int .u32 v] =(((pre ++ [a]).map fun p=>(g p).1).map (AV.int .u32)):=by simp [hga]
    have hpl1:((pre.map fun p=>(g p).1).map (AV.int .u32)).all AV.pl=true:=pl_map (int_pl .u32)
    have hpl2:(((pre ++ [a]).map fun p=>(g p).1).map (AV.int .u32)).all AV.pl=true:=pl_map (int_pl .u32)
    have hvl:((pre.map fun p=>(g p).1).map (AV.int .u32)).length=pre.length:=by simp
    have hvl2:(((pre ++ [a]).map fun p=>(g p).1).map (AV.int .u32)).length=pre.length+1:=by simp
    by_cases hp0:pre=[]
    ·have hr:risF ((pre ++ [a]).map fun p=>(g p).1)=true:=by rw [hp0]; rfl
     have f1:=fin hr
     subst hp0
     refine vZ ?_
     refine aC qc rfl rfl ?_
     refine vZ ?_
     refine aV rfl (gen_nr q1 rfl) (Nat.le_refl _) ?_
     simp (disch:=try exact dq) only[↓pvd,pz,sC,List.map,seval,ids_fn,ren_fn,ids_rptr]
     refine⟨([] ++ [a],r',m'),?_,f1,hms⟩
     simp [rduS,hga]
    ·obtain ⟨y,hy1,hy2⟩:=hgo hp0
     have hp1:0 < pre.length:=List.length_pos_iff.2 hp0
     have hix:((pre.length:Int) - 1).toNat=pre.length - 1:=by omega
     generalize hrow:((pre.map fun p=>(g p).1).map (AV.int .u32))=row at *
     generalize hrow2:(((pre ++ [a]).map fun p=>(g p).1).map (AV.int .u32))=row2 at *
     by_cases hyv:y < v
     ·have f1:=fin (by rw [hy2]; exact decide_eq_true hyv)
      refine vZ ?_
      refine aC qc rfl rfl ?_
      refine vZ ?_
      refine aV rfl (gen_nr q1 rfl) (Nat.le_refl _) ?_
      simp (disch:=try exact dq) only[↓pvd,pz,sC,List.map,seval,ids_fn,ren_fn,ids_rptr,hix,hy1,hvl,ids_all hpl1,ids_all hpl2,ren_all hpl1,ren_all hpl2,hvm]
      refine⟨(pre ++ [a],r',m'),?_,f1,hms⟩
      simp [rduS,hrow2,hvl,hvl2,← hrow2,hga]
     ·rw [rlR_no (nok (fun h=>by rw [hy2] at h; exact hyv (of_decide_eq_true h.2.2)))]
      refine vZ ?_
      refine aC qc rfl rfl ?_
      refine vZ ?_
      refine aV rfl (gen_nr q1 rfl) (Nat.le_refl _) ?_
      simp (disch:=try exact dq) only[↓pvd,pz,sC,List.map,seval,ids_fn,ren_fn,ids_rptr,hix,hy1,hvl,ids_all hpl1,ids_all hpl2,ren_all hpl1,ren_all hpl2,hvm]
      exact eZ
end Go.Proofs
