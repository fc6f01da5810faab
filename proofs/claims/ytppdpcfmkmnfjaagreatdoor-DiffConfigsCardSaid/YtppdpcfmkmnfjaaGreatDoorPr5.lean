/- The proofs of what the functions of this seat do. -/
import Derived.Test.YtppdpcfmkmnfjaaGreatDoorPr4
import Derived.Below
import Derived.Lib.Join
import Derived.Shelf.Strings.OnBuilder
set_option linter.unusedSectionVars false
set_option linter.unusedSimpArgs false
set_option linter.unusedVariables false
set_option maxHeartbeats 2000000
set_option maxRecDepth 20000
namespace Go.Proofs
namespace Nm
open Go.Pv
def stH(w:List UInt8)(fr:Nat):List (List UInt8)→Hp
 | []=>[some ⟨9,[.str w],true⟩,some ⟨32,[.sl 0 [] true],true⟩,some ⟨3,[.int .i64 fr],true⟩]
 | o :: r=>[some ⟨9,[.str w],true⟩,some ⟨32,[.vec 2 1 0 (o :: r).length],true⟩,some ⟨9,(o :: r).map .str,true⟩,some ⟨3,[.int .i64 fr],true⟩]
def stK:List (List UInt8)→Nat
 | []=>2
 | _ :: _=>3
theorem stK_ne{L:List (List UInt8)}(h:L≠[]):stK L=3:=by
 cases L with
 | nil=>exact absurd rfl h
 | cons o r=>rfl
theorem stK_nil:stK []=2:=rfl
theorem str1_no(w:List UInt8)(i fr:Nat)(out:List (List UInt8))(hw:w.length≤100000)(hi:i≤w.length)(h:i≤fr) :
  Gen Tryz.prog 92 [.int .i64 i,.eptr (stK out) 0 0,.eptr 1 0 0,.eptr 0 0 0] (stH w fr out) (.tup []) (stH w (i+1) out):=by
 refine Tryz.gen92 (by simp) ?_
 unfold Tryz.c92
 cases out with
 | nil =>
  unfold stH stK
  refine vZ ?_
  exact⟨rfl,rfl⟩
 | cons o r =>
  unfold stH stK
  refine vZ ?_
  exact⟨rfl,rfl⟩
theorem str1_nil(w:List UInt8)(i fr:Nat)(hw:w.length≤100000)(hi:i≤w.length)(h:fr < i) :
  Gen Tryz.prog 92 [.int .i64 i,.eptr 2 0 0,.eptr 1 0 0,.eptr 0 0 0] (stH w fr []) (.tup [])
   ([some ⟨9,[.str w],true⟩,some ⟨32,[.vec 9 1 0 1],true⟩,some ⟨3,[.int .i64 (i+1)],true⟩,none,none,none,none,none,some ⟨9,[.str ((w.take i).drop fr)],true⟩,some ⟨9,[.str ((w.take i).drop fr)],true⟩,none]):=by
 refine Tryz.gen92 (by simp) ?_
 unfold Tryz.c92
 unfold stH
 refine vZ ?_
 exact⟨rfl,rfl⟩
theorem str1_app(w:List UInt8)(i fr:Nat)(o:List UInt8)(r:List (List UInt8))(hw:w.length≤100000)(hi:i≤w.length)(h:fr < i)(hr:r.length≤100000) :
  Gen Tryz.prog 92 [.int .i64 i,.eptr 3 0 0,.eptr 1 0 0,.eptr 0 0 0] (stH w fr (o :: r)) (.tup [])
   ([some ⟨9,[.str w],true⟩,some ⟨32,[.vec 10 1 0 ((o :: r).length+1)],true⟩,some ⟨9,[],false⟩,some ⟨3,[.int .i64 (i+1)],true⟩,none,none,none,none,none,some ⟨9,[.str ((w.take i).drop fr)],true⟩,some ⟨9,(o :: r).map .str ++ [.str ((w.take i).drop fr)],true⟩,none]):=by
 refine Tryz.gen92 (by simp) ?_
 unfold Tryz.c92
 unfold stH
 refine vZ ?_
 exact⟨rfl,rfl⟩
theorem stH_ne(w:List UInt8)(fr:Nat)(L:List (List UInt8))(h:L≠[]):stH w fr L=[some ⟨9,[.str w],true⟩,some ⟨32,[.vec 2 1 0 L.length],true⟩,some ⟨9,L.map .str,true⟩,some ⟨3,[.int .i64 fr],true⟩]:=by
 cases L with
 | nil=>exact absurd rfl h
 | cons o r=>rfl
theorem str1_appL(w:List UInt8)(i fr:Nat)(L:List (List UInt8))(h0:L≠[])(hw:w.length≤100000)(hi:i≤w.length)(h:fr < i)(hr:L.length≤100000) :
  Gen Tryz.prog 92 [.int .i64 i,.eptr 3 0 0,.eptr 1 0 0,.eptr 0 0 0] (stH w fr L) (.tup [])
   ([some ⟨9,[.str w],true⟩,some ⟨32,[.vec 10 1 0 (L.length+1)],true⟩,some ⟨9,[],false⟩,some ⟨3,[.int .i64 (i+1)],true⟩,none,none,none,none,none,some ⟨9,[.str ((w.take i).drop fr)],true⟩,some ⟨9,L.map .str ++ [.str ((w.take i).drop fr)],true⟩,none]):=by
 cases L with
 | nil=>exact absurd rfl h0
 | cons o r=>exact str1_app w i fr o r hw hi h (by simp at hr; omega)
end Nm
end Go.Proofs
namespace Go.Proofs
namespace Nm
open Go.Pv
def enO(w:List UInt8)(i fr:Nat)(out:List (List UInt8)):List (List UInt8):=if fr < i then out ++ [(w.take i).drop fr] else out
def swF(w:List UInt8):Nat→Nat→Nat→List (List UInt8)→List (List UInt8)
 | 0,i,fr,out=>enO w i fr out
 | n+1,i,fr,out=>if i < w.length then
   if w[i]! = 35 then enO w i fr out
   else if w[i]! = 32∨w[i]! = 9 then swF w n (i+1) (i+1) (enO w i fr out)
   else swF w n (i+1) fr out
  else enO w i fr out
def swV(w:List UInt8):List (List UInt8):=swF w (w.length+1) 0 0 []
def strR(l:List (List UInt8)):AV:=if l=[] then .sl 0 [] true else .own 1 9 (l.map .str)
def stS(w:List UInt8)(a:Nat × Nat × List (List UInt8)):St:=⟨[(1,.eptr 0 0 0),(3,.eptr 1 0 0),(5,.fn 92 [.eptr (stK a.2.2) 0 0,.eptr 1 0 0,.eptr 0 0 0]),(6,.int .i64 a.1)],stH w a.2.1 a.2.2⟩
end Nm
end Go.Proofs
namespace Go.Proofs
namespace Nm
open Go.Pv
theorem swF_stop(w:List UInt8)(n i fr:Nat)(out:List (List UInt8))(h:i < w.length→w[i]! = 35):swF w n i fr out=enO w i fr out:=by
 cases n with
 | zero=>rfl
 | succ n =>
  unfold swF
  split
  ·rw [if_pos (h ‹_›)]
  ·rfl
theorem swF_blank(w:List UInt8)(i fr:Nat)(out:List (List UInt8))(hi:i < w.length)(h:w[i]!≠35)(hb:w[i]! = 32∨w[i]! = 9):swF w (w.length+1 - i) i fr out=swF w (w.length+1 - (i+1)) (i+1) (i+1) (enO w i fr out):=by
 rw [show w.length+1 - i =(w.length+1 - (i+1))+1 by omega,swF,if_pos hi,if_neg h,if_pos hb]
theorem swF_other(w:List UInt8)(i fr:Nat)(out:List (List UInt8))(hi:i < w.length)(h:w[i]!≠35)(hb:¬(w[i]! = 32∨w[i]! = 9)):swF w (w.length+1 - i) i fr out=swF w (w.length+1 - (i+1)) (i+1) fr out:=by
 rw [show w.length+1 - i =(w.length+1 - (i+1))+1 by omega,swF,if_pos hi,if_neg h,if_neg hb]
theorem stH_nil(w:List UInt8)(fr:Nat):stH w fr []=[some ⟨9,[.str w],true⟩,some ⟨32,[.sl 0 [] true],true⟩,some ⟨3,[.int .i64 fr],true⟩]:=rfl
theorem u8ne{x:UInt8}{n:Nat}(h:x≠n.toUInt8)(hn:n < 256):¬((x.toNat:Int)=n):=by
 intro e
 apply h
 apply UInt8.toNat_inj.1
 simp
 omega
theorem stretches_run(w:List UInt8)(hw:w.length≤50000) :
  Run Tryz.prog 57 [.str w] (strR (swV w)):=by
 refine Tryz.run57 (by simp) ?_
 unfold Tryz.c57
 refine vZ ?_
 refine aw_loop (stS w) (fun a=>swF w (w.length+1 - a.1) a.1 a.2.1 a.2.2=swV w∧a.1≤w.length∧a.2.2.length≤a.1) (fun a=>w.length - a.1) (0,0,[]) rfl ⟨rfl,by simp,by simp⟩ ?_
 rintro ⟨i,fr,out⟩ ⟨hs,hi,hl⟩
 dsimp only at hs hi hl
 unfold stS Tryz.c57b0
 dsimp only
 by_cases h0:out=[]
 ·subst h0
  by_cases hx:i < w.length
  ·have hgi:w[i]?=some w[i]!:=by rw [getElem!_pos w i hx,List.getElem?_eq_getElem hx]
   by_cases h35:w[i]! = 35
   ·have hq:((w[i]!.toNat:Nat):Int)=35:=by rw [h35]; rfl
    rw [swF_stop w _ i fr [] (fun _=>h35)] at hs
    unfold strR
    rw [← hs]
    by_cases hf:fr < i
    ·have q:=str1_nil w i fr (by omega) hi hf
     rw [show enO w i fr []=[(w.take i).drop fr] by unfold enO; rw [if_pos hf]; rfl,if_neg (by simp)]
     simp only[stH_nil,stK_nil] at q ⊢
     simp (disch:=try exact dq) only[↓pvd,pz,sC,List.map,seval,hgi,bv]
     skip
     refine aV rfl q (by simp) ?_
     refine vZ ?_
     (refine Ends_rq [[.own 1 9]] ?_; simp (disch:=try exact dq) only[↓pvd,pz,sC,List.map,seval]; exact⟨_,rfl,rfl,rfl⟩)
    ·have q:=str1_no w i fr [] (by omega) hi (by omega)
     rw [show enO w i fr []=[] by unfold enO; rw [if_neg hf]]
     rw [if_pos rfl]
     simp only[stH_nil,stK_nil] at q ⊢
     simp (disch:=try exact dq) only[↓pvd,pz,sC,List.map,seval,hgi,bv]
     skip
     refine aV rfl q (by simp) ?_
     refine vZ ?_
     exact eZ
   ·have h35':¬((w[i]!.toNat:Nat):Int)=35:=u8ne (n:=35) h35 (by omega)
    by_cases hb:w[i]! = 32∨w[i]! = 9
    ·rw [swF_blank w i fr [] hx h35 hb] at hs
     by_cases hf:fr < i
     ·have q:=str1_nil w i fr (by omega) hi hf
      rw [show enO w i fr []=[(w.take i).drop fr] by unfold enO; rw [if_pos hf]; rfl] at hs
      simp only[stH_nil,stK_nil] at q ⊢
      have hq:((w[i]!.toNat:Nat):Int)=32 ∨((w[i]!.toNat:Nat):Int)=9:=by rcases hb with hb | hb <;> rw [hb] <;> simp
      rcases hq with hq | hq
      all_goals
       simp (disch:=try exact dq) only[↓pvd,pz,sC,List.map,seval,hgi,bv]
       refine aV rfl q (by simp) ?_
       simp (disch:=try exact dq) only[↓pvd,pz,sC,List.map,seval,iM sP,rM sP]
       refine⟨(i+1,i+1,[(w.take i).drop fr]),rfl,⟨hs,?_,?_⟩,?_⟩ <;> dsimp only
       ·omega
       ·simp
       ·omega
     ·have q:=str1_no w i fr [] (by omega) hi (by omega)
      rw [show enO w i fr []=[] by unfold enO; rw [if_neg hf]] at hs
      simp only[stH_nil,stK_nil] at q ⊢
      have hq:((w[i]!.toNat:Nat):Int)=32 ∨((w[i]!.toNat:Nat):Int)=9:=by rcases hb with hb | hb <;> rw [hb] <;> simp
      rcases hq with hq | hq
      all_goals
       simp (disch:=try exact dq) only[↓pvd,pz,sC,List.map,seval,hgi,bv]
       refine aV rfl q (by simp) ?_
       simp (disch:=try exact dq) only[↓pvd,pz,sC,List.map,seval,iM sP,rM sP]
       refine⟨(i+1,i+1,[]),rfl,⟨hs,?_,?_⟩,?_⟩ <;> dsimp only
       ·omega
       ·simp
       ·omega
    ·rw [swF_other w i fr [] hx h35 hb] at hs
     have h32:¬((w[i]!.toNat:Nat):Int)=32:=u8ne (n:=32) (fun e=>hb (.inl e)) (by omega)
     have h9:¬((w[i]!.toNat:Nat):Int)=9:=u8ne (n:=9) (fun e=>hb (.inr e)) (by omega)
     simp only[stH_nil,stK_nil]
     simp (disch:=try exact dq) only[↓pvd,pz,sC,List.map,seval,hgi,bv,iM sP,rM sP]
     refine⟨(i+1,fr,[]),rfl,⟨hs,?_,?_⟩,?_⟩ <;> dsimp only
     ·omega
     ·simp
     ·omega
  ·rw [swF_stop w _ i fr [] (fun h=>absurd h hx)] at hs
   unfold strR
   rw [← hs]
   by_cases hf:fr < i
   ·have q:=str1_nil w i fr (by omega) hi hf
    rw [show enO w i fr []=[(w.take i).drop fr] by unfold enO; rw [if_pos hf]; rfl,if_neg (by simp)]
    simp only[stH_nil,stK_nil] at q ⊢
    refine vZ ?_
    refine aV rfl q (by simp) ?_
    refine vZ ?_
    (refine Ends_rq [[.own 1 9]] ?_; simp (disch:=try exact dq) only[↓pvd,pz,sC,List.map,seval]; exact⟨_,rfl,rfl,rfl⟩)
   ·have q:=str1_no w i fr [] (by omega) hi (by omega)
    rw [show enO w i fr []=[] by unfold enO; rw [if_neg hf]]
    rw [if_pos rfl]
    simp only[stH_nil,stK_nil] at q ⊢
    refine vZ ?_
    refine aV rfl q (by simp) ?_
    refine vZ ?_
    exact eZ
 ·by_cases hx:i < w.length
  ·have hgi:w[i]?=some w[i]!:=by rw [getElem!_pos w i hx,List.getElem?_eq_getElem hx]
   by_cases h35:w[i]! = 35
   ·have hq:((w[i]!.toNat:Nat):Int)=35:=by rw [h35]; rfl
    rw [swF_stop w _ i fr out (fun _=>h35)] at hs
    unfold strR
    rw [← hs]
    by_cases hf:fr < i
    ·have q:=str1_appL w i fr out h0 (by omega) hi hf (by omega)
     rw [show enO w i fr out=out ++ [(w.take i).drop fr] by unfold enO; rw [if_pos hf],if_neg (by simp)]
     simp only[stH_ne w fr out h0] at q
     generalize (w.take i).drop fr=z at q ⊢
     simp only[stK_ne h0,stH_ne w fr out h0]
     simp (disch:=try exact dq) only[↓pvd,pz,sC,List.map,seval,hgi,bv]
     skip
     refine aV rfl q (by simp) ?_
     simp (disch:=try exact dq) only[↓pvd,pz,sC,List.map,seval,iM sP,rM sP,List.flatMap_append,List.map_append]
     rw [show out.length+1 =(out ++ [z]).length by simp,show out.map AV.str ++ [AV.str z] =(out ++ [z]).map AV.str by simp]
     generalize out ++ [z]=L2
     (refine Ends_rq [[.own 1 9]] ?_; simp (disch:=try exact dq) only[↓pvd,pz,sC,List.map,seval,iM sP,rM sP,mapO_map str_nr,rows_map str_nr]; exact⟨_,rfl,rfl,rfl⟩)
    ·have q:=str1_no w i fr out (by omega) hi (by omega)
     rw [show enO w i fr out=out by unfold enO; rw [if_neg hf],if_neg h0]
     simp only[stK_ne h0,stH_ne w fr out h0,stH_ne w (i+1) out h0] at q
     simp only[stK_ne h0,stH_ne w fr out h0]
     simp (disch:=try exact dq) only[↓pvd,pz,sC,List.map,seval,hgi,bv]
     skip
     refine aV rfl q (by simp) ?_
     simp (disch:=try exact dq) only[↓pvd,pz,sC,List.map,seval,iM sP,rM sP]
     (refine Ends_rq [[.own 1 9]] ?_; simp (disch:=try exact dq) only[↓pvd,pz,sC,List.map,seval,iM sP,rM sP,mapO_map str_nr,rows_map str_nr]; exact⟨_,rfl,rfl,rfl⟩)
   ·have h35':¬((w[i]!.toNat:Nat):Int)=35:=u8ne (n:=35) h35 (by omega)
    by_cases hb:w[i]! = 32∨w[i]! = 9
    ·rw [swF_blank w i fr out hx h35 hb] at hs
     by_cases hf:fr < i
     ·have q:=str1_appL w i fr out h0 (by omega) hi hf (by omega)
      rw [show enO w i fr out=out ++ [(w.take i).drop fr] by unfold enO; rw [if_pos hf]] at hs
      simp only[stK_ne h0,stH_ne w fr out h0] at q ⊢
      have hq:((w[i]!.toNat:Nat):Int)=32 ∨((w[i]!.toNat:Nat):Int)=9:=by rcases hb with hb | hb <;> rw [hb] <;> simp
      rcases hq with hq | hq
      all_goals
       simp (disch:=try exact dq) only[↓pvd,pz,sC,List.map,seval,hgi,bv]
       refine aV rfl q (by simp) ?_
       simp (disch:=try exact dq) only[↓pvd,pz,sC,List.map,seval,iM sP,rM sP,List.flatMap_append,List.map_append]
       refine⟨(i+1,i+1,out ++ [(w.take i).drop fr]),?_,⟨hs,?_,?_⟩,?_⟩ <;> dsimp only
       ·rw [stH_ne _ _ _ (by simp),stK_ne (by simp)]
        simp
       ·omega
       ·simp; omega
       ·omega
     ·have q:=str1_no w i fr out (by omega) hi (by omega)
      rw [show enO w i fr out=out by unfold enO; rw [if_neg hf]] at hs
      simp only[stK_ne h0,stH_ne w fr out h0,stH_ne w (i+1) out h0] at q ⊢
      have hq:((w[i]!.toNat:Nat):Int)=32 ∨((w[i]!.toNat:Nat):Int)=9:=by rcases hb with hb | hb <;> rw [hb] <;> simp
      rcases hq with hq | hq
      all_goals
       simp (disch:=try exact dq) only[↓pvd,pz,sC,List.map,seval,hgi,bv]
       refine aV rfl q (by simp) ?_
       simp (disch:=try exact dq) only[↓pvd,pz,sC,List.map,seval,iM sP,rM sP]
       refine⟨(i+1,i+1,out),?_,⟨hs,?_,?_⟩,?_⟩ <;> dsimp only
       ·rw [stH_ne _ _ _ h0,stK_ne h0]
        rfl
       ·omega
       ·omega
       ·omega
    ·rw [swF_other w i fr out hx h35 hb] at hs
     have h32:¬((w[i]!.toNat:Nat):Int)=32:=u8ne (n:=32) (fun e=>hb (.inl e)) (by omega)
     have h9:¬((w[i]!.toNat:Nat):Int)=9:=u8ne (n:=9) (fun e=>hb (.inr e)) (by omega)
     simp only[stK_ne h0,stH_ne w fr out h0]
     simp (disch:=try exact dq) only[↓pvd,pz,sC,List.map,seval,hgi,bv,iM sP,rM sP]
     refine⟨(i+1,fr,out),?_,⟨hs,?_,?_⟩,?_⟩ <;> dsimp only
     ·rw [stH_ne _ _ _ h0,stK_ne h0]
      rfl
     ·omega
     ·omega
     ·omega
  ·rw [swF_stop w _ i fr out (fun h=>absurd h hx)] at hs
   unfold strR
   rw [← hs]
   by_cases hf:fr < i
   ·have q:=str1_appL w i fr out h0 (by omega) hi hf (by omega)
    rw [show enO w i fr out=out ++ [(w.take i).drop fr] by unfold enO; rw [if_pos hf],if_neg (by simp)]
    simp only[stH_ne w fr out h0] at q
    generalize (w.take i).drop fr=z at q ⊢
    simp only[stK_ne h0,stH_ne w fr out h0]
    refine vZ ?_
    refine aV rfl q (by simp) ?_
    simp (disch:=try exact dq) only[↓pvd,pz,sC,List.map,seval,iM sP,rM sP,List.flatMap_append,List.map_append]
    rw [show out.length+1 =(out ++ [z]).length by simp,show out.map AV.str ++ [AV.str z] =(out ++ [z]).map AV.str by simp]
    generalize out ++ [z]=L2
    (refine Ends_rq [[.own 1 9]] ?_; simp (disch:=try exact dq) only[↓pvd,pz,sC,List.map,seval,iM sP,rM sP,mapO_map str_nr,rows_map str_nr]; exact⟨_,rfl,rfl,rfl⟩)
   ·have q:=str1_no w i fr out (by omega) hi (by omega)
    rw [show enO w i fr out=out by unfold enO; rw [if_neg hf],if_neg h0]
    simp only[stK_ne h0,stH_ne w fr out h0,stH_ne w (i+1) out h0] at q
    simp only[stK_ne h0,stH_ne w fr out h0]
    refine vZ ?_
    refine aV rfl q (by simp) ?_
    simp (disch:=try exact dq) only[↓pvd,pz,sC,List.map,seval,iM sP,rM sP]
    (refine Ends_rq [[.own 1 9]] ?_; simp (disch:=try exact dq) only[↓pvd,pz,sC,List.map,seval,iM sP,rM sP,mapO_map str_nr,rows_map str_nr]; exact⟨_,rfl,rfl,rfl⟩)
end Nm
end Go.Proofs
namespace Go.Proofs
namespace Nm
open Go.Pv
def okB(c:UInt8):Bool:=decide (32 <(c.toNat:Int) ∧(c.toNat:Int)≤126∧¬(c.toNat:Int)=35)
def okW(w:List UInt8):Bool:=w.all okB && decide (w≠[]∧w.length≤40)
theorem all_no{w:List UInt8}{i:Nat}(hi:i < w.length)(h:okB w[i]! = false):w.all okB=false:=by
 rw [List.all_eq_false]
 exact⟨w[i]!,by rw [getElem!_pos w i hi]; exact List.getElem_mem hi,by rw [h]; simp⟩
theorem all_yes{w:List UInt8}(h:∀ k,k < w.length→okB w[k]! = true):w.all okB=true:=by
 rw [List.all_eq_true]
 intro c hc
 obtain ⟨k,hk,rfl⟩:=List.mem_iff_getElem.1 hc
 have:=h k hk
 rwa [getElem!_pos w k hk] at this
theorem lword_run(w:List UInt8)(hw:w.length≤100000):Run Tryz.prog 58 [.str w] (.bool (okW w)):=by
 refine Tryz.run58 (by simp) ?_
 unfold Tryz.c58
 refine vZ ?_
 refine aw_loop (fun k:Nat=>⟨[(0,.str w),(5,.int .i64 w.length),(6,.int .i64 k)],[]⟩) (fun k=>k≤w.length∧∀ j < k,okB w[j]! = true) (fun k=>w.length - k) 0 rfl ⟨by omega,by simp⟩ ?_
 rintro k ⟨hk,hp⟩
 unfold Tryz.c58b0
 by_cases hx:k < w.length
 ·have hgi:w[k]?=some w[k]!:=by rw [getElem!_pos w k hx,List.getElem?_eq_getElem hx]
  by_cases ho:okB w[k]! = true
  ·have h2:=of_decide_eq_true ho
   repeat' (first | (simp (disch:=try exact dq) only[↓pvd,pz,sC,List.map,seval,hgi,bv,still]) | (with_reducible first|refine cB (fun _=>?_) (fun _=>?_)|refine gB (fun _=>?_) (fun _=>?_)|refine hB (fun _=>?_) (fun _=>?_)|refine cA ?_ ?_) | exact eZ | fail)
   refine⟨k+1,rfl,⟨by omega,fun j hj=>?_⟩,by omega⟩
   by_cases hjk:j=k
   ·rw [hjk]; exact ho
   ·exact hp j (by omega)
  ·have h1:okB w[k]! = false:=by simpa using ho
   have h2:=of_decide_eq_false h1
   have h3:okW w=false:=by unfold okW; rw [all_no hx h1]; rfl
   rw [h3]
   repeat' (first | (simp (disch:=try exact dq) only[↓pvd,pz,sC,List.map,seval,hgi,bv,still]) | (with_reducible first|refine cB (fun _=>?_) (fun _=>?_)|refine gB (fun _=>?_) (fun _=>?_)|refine hB (fun _=>?_) (fun _=>?_)|refine cA ?_ ?_) | exact eZ | fail)
 ·have h3:w.all okB=true:=all_yes fun k' hk'=>hp k' (by omega)
  have h4:okW w=decide (w≠[]∧w.length≤40):=by unfold okW; rw [h3]; rfl
  rw [h4]
  by_cases he:w=[]
  ·subst he
   refine vZ ?_
   exact eZ
  ·have:0 < w.length:=List.length_pos_iff.2 he
   repeat' (first | (simp (disch:=try exact dq) only[↓pvd,pz,sC,List.map,seval,still]) | (with_reducible first|refine cB (fun _=>?_) (fun _=>?_)|refine gB (fun _=>?_) (fun _=>?_)|refine hB (fun _=>?_) (fun _=>?_)|refine cA ?_ ?_) | exact eZ | fail)
   rw [show decide (¬w=[]∧w.length≤40)=decide ((w.length:Int)≤40) by simp [he]; omega]
   exact eZ
def wordsR(w:List UInt8):AV:=if (swV w).all okW then .tup [strR (swV w),.int .i64 0] else .tup [.sl 0 [] true,.int .i64 20]
theorem enO_len(w:List UInt8)(i fr:Nat)(out:List (List UInt8))(n:Nat)(hw:w.length≤n)(h:∀ x∈out,x.length≤n):∀ x∈enO w i fr out,x.length≤n:=by
 unfold enO
 split
 ·intro x hx
  simp at hx
  rcases hx with hx | rfl
  ·exact h x hx
  ·simp; omega
 ·exact h
theorem swF_len(w:List UInt8)(n:Nat)(hw:w.length≤n):∀(m i fr:Nat) (out:List (List UInt8)),(∀ x∈out,x.length≤n)→∀ x∈swF w m i fr out,x.length≤n:=by
 intro m
 induction m with
 | zero=>intro i fr out h; exact enO_len w i fr out n hw h
 | succ m ih =>
  intro i fr out h
  unfold swF
  split
  ·split
   ·exact enO_len w i fr out n hw h
   ·split
    ·exact ih _ _ _ (enO_len w i fr out n hw h)
    ·exact ih _ _ _ h
  ·exact enO_len w i fr out n hw h
theorem swF_num(w:List UInt8):∀(m i fr:Nat) (out:List (List UInt8)),(swF w m i fr out).length≤out.length+m+1:=by
 have e:∀ i fr out,(enO w i fr out).length≤out.length+1:=by
  intro i fr out; unfold enO; split <;> simp
 intro m
 induction m with
 | zero=>intro i fr out; exact e i fr out
 | succ m ih =>
  intro i fr out
  have e1:=e i fr out
  unfold swF
  split
  ·split
   ·omega
   ·split
    ·have:=ih (i+1) (i+1) (enO w i fr out); omega
    ·have:=ih (i+1) fr out; omega
  ·omega
theorem words_run(w:List UInt8)(hw:w.length≤40000):Run Tryz.prog 25 [.str w] (wordsR w):=by
 have q:=stretches_run w (by omega)
 have hl:=swF_len w w.length (Nat.le_refl _) (w.length+1) 0 0 [] (by simp)
 have hn:=swF_num w (w.length+1) 0 0 []
 change ∀ x∈swV w,_ at hl
 change (swV w).length≤_ at hn
 refine Tryz.run25 (by simp) ?_
 unfold Tryz.c25 wordsR
 generalize swV w=L at *
 by_cases h0:L=[]
 ·subst h0
  rw [strR,if_pos rfl] at *
  refine vZ ?_
  refine aC q rfl rfl ?_
  refine vZ ?_
  refine aw_loop (fun k:Nat=>⟨[(4,.sl 0 [] true),(9,.sl 0 [] true),(10,.int .i64 0),(11,.int .i64 k)],[]⟩) (fun k=>k=0) (fun k=>k) 0 rfl rfl ?_
  rintro k rfl
  unfold Tryz.c25b0
  refine vZ ?_
  exact eZ
 ·rw [strR,if_neg h0] at *
  refine vZ ?_
  refine aC q rfl rfl ?_
  refine vZ ?_
  refine aw_loop (fun k:Nat=>⟨[(4,.vec 0 1 0 L.length),(9,.vec 0 1 0 L.length),(10,.int .i64 L.length),(11,.int .i64 k)],[some ⟨9,L.map .str,true⟩]⟩) (fun k=>k≤L.length∧∀ j < k,okW L[j]! = true) (fun k=>L.length - k) 0 ?_ ⟨by omega,by simp⟩ ?_
  ·simp (disch:=try exact dq) only[↓pvd,pz,sC,List.map,seval,iM sP,rM sP]
  rintro k ⟨hk,hp⟩
  unfold Tryz.c25b0
  simp only[List.length_nil] at hn
  by_cases hx:k < L.length
  ·have q2:=lword_run L[k]! (by have:=hl _ (get_mem hx); omega)
   by_cases ho:okW L[k]! = true
   ·rw [ho] at q2
    refine vZ ?_
    refine aC q2 rfl rfl ?_
    simp (disch:=try exact dq) only[↓pvd,pz,sC,List.map,seval,iM sP,rM sP]
    refine⟨k+1,rfl,⟨by omega,fun j hj=>?_⟩,by omega⟩
    by_cases hjk:j=k
    ·rw [hjk]; exact ho
    ·exact hp j (by omega)
   ·have h1:okW L[k]! = false:=by simpa using ho
    have h2:¬(L.all okW=true):=by
     rw [Bool.not_eq_true,List.all_eq_false]
     exact⟨L[k]!,get_mem hx,by rw [h1]; simp⟩
    rw [if_neg h2]
    rw [h1] at q2
    refine vZ ?_
    refine aC q2 rfl rfl ?_
    simp (disch:=try exact dq) only[↓pvd,pz,sC,List.map,seval,iM sP,rM sP]
    exact eZ
  ·have h3:L.all okW=true:=by
    rw [List.all_eq_true]
    intro c hc
    obtain ⟨j,hj,rfl⟩:=List.mem_iff_getElem.1 hc
    have:=hp j (by omega)
    rwa [getElem!_pos L j hj] at this
   rw [if_pos h3]
   refine vZ ?_
   (refine Ends_rq [[.own 1 9],[.snap]] ?_; simp (disch:=try exact dq) only[↓pvd,pz,sC,List.map,seval,iM sP,rM sP,mapO_map str_nr,rows_map str_nr]; exact⟨_,rfl,rfl,rfl⟩)
end Nm
end Go.Proofs
namespace Go.Proofs
namespace Nm
open Go.Pv
end Nm
end Go.Proofs
namespace Go.Proofs
namespace Nm
open Go.Pv
def ends(l:List (List UInt8)):List UInt8:=l.flatMap fun r=>r ++ [10]
def no10(r:List UInt8):Prop:=∀ c∈r,c≠10
theorem spl_ends:∀(l:List (List UInt8)) (t:List UInt8),(∀ r∈l,no10 r)→spl (ends l ++ t)=l ++ spl t
 | [],t,_=>rfl
 | r :: l,t,h=>by
  have:=spl_ends l t (fun x hx=>h x (by simp [hx]))
  have h2:=spl_hit r (ends l ++ t) (h r (by simp))
  unfold ends at *
  rw [List.flatMap_cons]
  simp only[List.append_assoc,List.cons_append,List.nil_append] at *
  rw [h2,this]
end Nm
end Go.Proofs
/- The library's strings.Join at this seat's program: its contract,laid. (Printed by a program of ours.) -/
namespace Go.Proofs
open Go.Shelf
def Tryz.renT(n:Nat):Nat :=
 if n=0 then 0 else if n=3 then 3 else if n=4 then 4 else if n=5 then 5 else if n=9 then 9 else if n=20 then 20 else if n=31 then 32 else if n=37 then 22 else if n=70 then 183 else if n=72 then 185 else if n=75 then 187 else if n=76 then 188 else if n=80 then 69 else if n=127 then 196 else if n=164 then 197 else 0
def Tryz.renF(n:Nat):Nat :=
 if n=156 then 144 else if n=165 then 157 else if n=166 then 158 else if n=169 then 159 else if n=240 then 167 else if n=241 then 168 else if n=276 then 170 else if n=277 then 171 else 0
def Tryz.ren:Ren:=⟨Tryz.renF,Tryz.renT,fun n=>n⟩
theorem Tryz.lays156:Lays.n156 Tryz.prog Tryz.ren where
 mixed:=Tryz.mixed
 f156:=by kernel_rfl
 f165:=by kernel_rfl
 f166:=by kernel_rfl
 f169:=by kernel_rfl
 f240:=by kernel_rfl
 f241:=by kernel_rfl
 f276:=by kernel_rfl
 f277:=by kernel_rfl
 t0:=Tryz.underlying0
 a0:=Tryz.isAgg0
 z0:=Tryz.sizeOf0
 v0:=Tryz.zeroValue0
 t3:=Tryz.underlying3
 a3:=Tryz.isAgg3
 z3:=Tryz.sizeOf3
 v3:=Tryz.zeroValue3
 t4:=Tryz.underlying4
 a4:=Tryz.isAgg4
 z4:=Tryz.sizeOf4
 v4:=Tryz.zeroValue4
 t9:=Tryz.underlying9
 a9:=Tryz.isAgg9
 z9:=Tryz.sizeOf9
 v9:=Tryz.zeroValue9
 t20:=Tryz.underlying20
 a20:=Tryz.isAgg20
 z20:=Tryz.sizeOf20
 v20:=Tryz.zeroValue20
 t31:=Tryz.underlying32
 a31:=Tryz.isAgg32
 z31:=Tryz.sizeOf32
 v31:=Tryz.zeroValue32
 t37:=Tryz.underlying22
 a37:=Tryz.isAgg22
 z37:=Tryz.sizeOf22
 v37:=Tryz.zeroValue22
 t70:=Tryz.underlying183
 a70:=Tryz.isAgg183
 z70:=Tryz.sizeOf183
 v70:=Tryz.zeroValue183
 t72:=Tryz.underlying185
 a72:=Tryz.isAgg185
 z72:=Tryz.sizeOf185
 v72:=Tryz.zeroValue185
 t75:=Tryz.underlying187
 a75:=Tryz.isAgg187
 z75:=Tryz.sizeOf187
 v75:=Tryz.zeroValue187
 t76:=Tryz.underlying188
 a76:=Tryz.isAgg188
 z76:=Tryz.sizeOf188
 v76:=Tryz.zeroValue188
 t127:=Tryz.underlying196
 a127:=Tryz.isAgg196
 z127:=Tryz.sizeOf196
 v127:=Tryz.zeroValue196
 t164:=Tryz.underlying197
 a164:=Tryz.isAgg197
 z164:=Tryz.sizeOf197
 v164:=Tryz.zeroValue197
theorem Tryz.extra156:Builder.Extra Tryz.prog Tryz.ren where
 sizeBuilder:=by kernel_rfl
 liesBuilder:=by kernel_rfl
 t5:=Tryz.underlying5
 a5:=Tryz.isAgg5
 z5:=Tryz.sizeOf5
 v5:=Tryz.zeroValue5
 infoByte:=by kernel_rfl
 cellsByte:=by kernel_rfl
 sizeByte:=by kernel_rfl
 neB5:=by decide
end Go.Proofs
/-
 The machine of plain values: the library's strings.Join,from its contract.
-/
namespace Go.Pv
variable [Lq]
open Go.RowKit
theorem flat_str(s:List UInt8):(AV.str s).flat=[AV.str s]:=by simp [AV.flat]
theorem run_join{P:Program}{f:FuncId}(hc:Can P f)
  (hj:∀(bk o c:Nat) (xs:List ByteArray) (sep:ByteArray) (w:World),(∀(j:Nat) x,xs[j]?=some x→w.cell? ⟨bk,o+j,none⟩=some (.string x))→bk < w.heap.size→xs.length≤140737488355328→xs.length≤c →
    (Lib.join (xs.map (·.data.toList)) sep.data.toList).length≤140737488355328 →
    Calls P f #[.slice (some ⟨bk,o,none⟩) xs.length c,.string sep] w fun e w'=>e=.returned (.string ⟨(Lib.join (xs.map (·.data.toList)) sep.data.toList).toArray⟩)∧Below w.heap.size w w')
  (hn:∀(a:Option Addr) (c:Nat) (sep:ByteArray) (w:World),Calls P f #[.slice a 0 c,.string sep] w fun e w'=>e=.returned (.string ⟨#[]⟩)∧w'=w)
  (xs:List (List UInt8)) (sep:List UInt8) (full:Bool) (h1:xs.length≤100000) (h2:(Lib.join xs sep).length≤100000000) :
  Run P f [.sl 1 (xs.map .str) full,.str sep] (.str (Lib.join xs sep)):=by
 refine⟨hc,?_⟩
 intro w I os args hq hos ho
 obtain ⟨args⟩:=args
 generalize hes:xs.map AV.str=es at ho
 generalize hxs:[AV.sl 1 es full,AV.str sep]=ys at ho
 cases ho with
 | nil=>cases hxs
 | cons ha ho =>
  cases hxs
  cases ho with
  | cons hb ho =>
   cases ho with
   | nil =>
    unfold OwnC at ha hb
    obtain ⟨rfl,ha⟩:=ha
    obtain ⟨rfl,hb⟩:=hb
    cases hb
    have fin:∀(W:World) (r:List UInt8),Below w.heap.size w W→∃ v I' os',Ending.returned (.string ⟨r.toArray⟩)=.returned v∧OwnT W I' os' (.str r) v∧OsOk W I' os'∧StepB I ([] ++([] ++ [])) I' os' w W:=by
     intro W r hB
     refine⟨_,I,[],rfl,?_,⟨fun b h=>⟨Nat.lt_of_lt_of_le (hos.imm b h).1 hB.size,blks_nil b⟩,fun b h=>absurd h (blks_nil b),.nil⟩,⟨hB.os,hB.tape,hB.output,hB.size,fun b h _=>hB.block b h,fun b h=>absurd h (blks_nil b),fun b h=>h,fun b h=>.inl h⟩⟩
     exact⟨rfl,.str r⟩
    cases ha with
    | sl0 _ _ A cap h =>
     have:xs=[]:=by simpa using hes
     subst this
     refine(hn A cap ⟨sep.toArray⟩ w).mono ?_
     rintro e W ⟨rfl,rfl⟩
     exact fin _ [] (Below.refl _ _)
    | sl _ _ _ b off cap U hp hcp hf hbk hi hz hcell hs =>
     subst hes
     have hq:=hj b off cap (xs.map fun s=>⟨s.toArray⟩) ⟨sep.toArray⟩ w ?_ hbk (by simp; omega) (by simpa using hcp) ?_
     ·simp only[List.map_map,List.length_map] at hq
      have e1:xs.map ((fun x:ByteArray=>x.data.toList) ∘ fun s=>⟨s.toArray⟩)=xs:=by
       conv=>rhs; rw [← List.map_id xs]
       exact List.map_congr_left fun s _=>rfl
      rw [e1] at hq
      rw [List.length_map]
      refine hq.mono ?_
      rintro e W ⟨rfl,hB⟩
      exact fin W _ hB
     ·intro j x hx
      rw [List.getElem?_map] at hx
      cases hxj:xs[j]? with
      | none=>rw [hxj] at hx; cases hx
      | some s =>
       rw [hxj] at hx
       cases hx
       have e:(xs.map AV.str)[j]?=some (.str s):=by rw [List.getElem?_map,hxj]; rfl
       have g1:=(hcell j (.str s) 0 (.str s) e (by rw [flat_str]; rfl)).1
       have g2:=hs j (.str s) 0 (.str s) e (by rw [flat_str]; rfl)
       rw [Nat.mul_one,Nat.add_zero] at g1
       rw [g1]
       generalize U j 0=u at g2
       cases g2
       rfl
     ·have e1:(xs.map fun s=>(⟨s.toArray⟩:ByteArray)).map (fun x=>x.data.toList)=xs:=by
       rw [List.map_map]
       conv=>rhs; rw [← List.map_id xs]
       exact List.map_congr_left fun s _=>rfl
      rw [e1]
      have:(⟨sep.toArray⟩:ByteArray).data.toList=sep:=rfl
      rw [this]
      omega
end Go.Pv
namespace Go.Proofs
namespace Nm
open Go.Pv
theorem join_run(xs:List (List UInt8))(f:Bool)(h1:xs.length≤100000)(h2:(Lib.join xs [32]).length≤100000000):Run Tryz.prog 144 [.sl 1 (xs.map .str) f,.str [32]] (.str (Lib.join xs [32])) :=
 run_join (can_of Tryz.func144 rfl rfl) (fun bk o c xs sep w a b d e g=>Any.strings_Join Tryz.lays156 Tryz.extra156 bk o c xs sep w a b d e g) (fun a c sep w=>Any.strings_Join_none Tryz.lays156 Tryz.extra156 a c sep w) xs [32] f h1 h2
theorem ljoin_run(xs:List (List UInt8))(f:Bool)(h1:xs.length≤100000)(h2:(Lib.join xs [32]).length≤100000000):Run Tryz.prog 118 [.sl 1 (xs.map .str) f] (.str (Lib.join xs [32])):=by
 have q:=join_run xs f h1 h2
 refine Tryz.run118 (by simp) ?_
 unfold Tryz.c118
 generalize Lib.join xs [32]=r at *
 repeat' (first | (simp (disch:=try exact dq) only[↓pvd,pz,sC,List.map,seval,mapO_map str_nr,rows_map str_nr,still]) | (with_reducible first|refine cB (fun _=>?_) (fun _=>?_)|refine gB (fun _=>?_) (fun _=>?_)|refine hB (fun _=>?_) (fun _=>?_)|refine cA ?_ ?_) | refine aC q rfl rfl ?_ | refine aD q rfl rfl (fun _=>rfl) ?_ | exact eZ | fail)
def jnF(xs:List (List UInt8)):Nat→List UInt8
 | 0=>[]
 | k+1=>(if 0 < k then jnF xs k ++ [32] else jnF xs k) ++ xs[k]!
theorem jnF_eq(x:List UInt8)(r:List (List UInt8)):∀ k,k≤r.length→jnF (x :: r) (k+1)=x ++ Lib.joinTail [32] (r.take k)
 | 0,_=>by simp [jnF,Lib.joinTail]
 | k+1,h=>by
  rw [jnF,if_pos (by omega),jnF_eq x r k (by omega),Lib.joinTail_take_succ [32] r k r[k]! (by rw [getElem!_pos r k (by omega),List.getElem?_eq_getElem (by omega)])]
  simp
theorem jnF_all(xs:List (List UInt8)):jnF xs xs.length=Lib.join xs [32]:=by
 cases xs with
 | nil=>rfl
 | cons x r=>rw [List.length_cons,jnF_eq x r r.length (Nat.le_refl _),List.take_of_length_le (Nat.le_refl _),Lib.join_cons]
theorem jnF_len(xs:List (List UInt8)):∀ k,k≤xs.length →(jnF xs k).length ≤(jnF xs xs.length).length
 | k,h=>by
  have step:∀ j,(jnF xs j).length ≤(jnF xs (j+1)).length:=fun j=>by rw [jnF]; split <;> simp <;> omega
  have:∀ d,(jnF xs k).length ≤(jnF xs (k+d)).length:=fun d=>by
   induction d with
   | zero=>exact Nat.le_refl _
   | succ d ih=>exact Nat.le_trans ih (step _)
  have:=this (xs.length - k)
  rwa [show k +(xs.length - k)=xs.length by omega] at this
theorem rjoin_run(xs:List (List UInt8))(f:Bool)(h1:xs.length≤100000)(h2:(Lib.join xs [32]).length≤100000000):Run Tryz.prog 120 [.sl 1 (xs.map .str) f] (.str (Lib.join xs [32])):=by
 rw [← jnF_all] at *
 refine Tryz.run120 (by simp) ?_
 unfold Tryz.c120
 refine vZ ?_
 refine aw_loop (fun k:Nat=>⟨[(0,.sl 1 (xs.map .str) f),(3,.str (jnF xs k)),(4,.int .i64 k)],[]⟩) (fun k=>k≤xs.length) (fun k=>xs.length - k) 0 ?_ (by omega) ?_
 ·refine vZ ?_
  try first|rfl|trivial
 intro k hk
 unfold Tryz.c120b0
 by_cases hx:k < xs.length
 ·have hl:=jnF_len xs k hk
  have hl2:=jnF_len xs (k+1) hx
  have e:jnF xs (k+1) =(if 0 < k then jnF xs k ++ [32] else jnF xs k) ++ xs[k]!:=rfl
  have hl3:=congrArg List.length e
  by_cases h0:0 < k
  ·rw [if_pos h0] at e hl3
   simp only[List.length_append,List.length_cons,List.length_nil] at hl3
   refine vZ ?_
   refine⟨k+1,?_,by omega,by omega⟩
   rw [e]
   rfl
  ·rw [if_neg h0] at e hl3
   obtain rfl:k=0:=by omega
   rw [List.length_append] at hl3
   rw [show jnF xs 0=[] from rfl] at *
   rw [List.nil_append] at e
   simp only[List.length_nil] at hl3
   have hb:xs[0]!.length≤100000000:=by omega
   refine vZ ?_
   refine⟨1,?_,by omega,by omega⟩
   rw [e]
   rfl
 ·have:k=xs.length:=by omega
  subst this
  refine vZ ?_
  exact eZ
end Nm
end Go.Proofs
namespace Go.Proofs
namespace Nm
open Go.Pv
theorem rword_run(w:List UInt8)(hw:w.length≤100000):Run Tryz.prog 59 [.str w] (.bool (okW w)):=by
 refine Tryz.run59 (by simp) ?_
 unfold Tryz.c59
 by_cases h1:0 < w.length∧w.length≤40
 ·have hne:w≠[]:=List.length_pos_iff.1 h1.1
  refine vZ ?_
  refine aw_loop (fun k:Nat=>⟨[(0,.str w),(3,.int .i64 k)],[]⟩) (fun k=>k≤w.length∧∀ j < k,okB w[j]! = true) (fun k=>w.length - k) 0 rfl ⟨by omega,by simp⟩ ?_
  rintro k ⟨hk,hp⟩
  unfold Tryz.c59b0
  by_cases hx:k < w.length
  ·have hgi:w[k]?=some w[k]!:=by rw [getElem!_pos w k hx,List.getElem?_eq_getElem hx]
   by_cases ho:okB w[k]! = true
   ·have h2:=of_decide_eq_true ho
    repeat' (first | (simp (disch:=try exact dq) only[↓pvd,pz,sC,List.map,seval,hgi,bv,still]) | (with_reducible first|refine cB (fun _=>?_) (fun _=>?_)|refine gB (fun _=>?_) (fun _=>?_)|refine hB (fun _=>?_) (fun _=>?_)|refine cA ?_ ?_) | exact eZ | fail)
    refine⟨k+1,rfl,⟨by omega,fun j hj=>?_⟩,by omega⟩
    by_cases hjk:j=k
    ·rw [hjk]; exact ho
    ·exact hp j (by omega)
   ·have h4:okB w[k]! = false:=by simpa using ho
    have h2:=of_decide_eq_false h4
    have h3:okW w=false:=by unfold okW; rw [all_no hx h4]; rfl
    rw [h3]
    repeat' (first | (simp (disch:=try exact dq) only[↓pvd,pz,sC,List.map,seval,hgi,bv,still]) | (with_reducible first|refine cB (fun _=>?_) (fun _=>?_)|refine gB (fun _=>?_) (fun _=>?_)|refine hB (fun _=>?_) (fun _=>?_)|refine cA ?_ ?_) | exact eZ | fail)
  ·have h3:w.all okB=true:=all_yes fun k' hk'=>hp k' (by omega)
   have h4:okW w=true:=by unfold okW; rw [h3,decide_eq_true ⟨hne,h1.2⟩]; rfl
   rw [h4]
   exact kZ
 ·have h4:okW w=false:=by
   unfold okW
   rw [decide_eq_false (fun h=>h1 ⟨List.length_pos_iff.2 h.1,h.2⟩),Bool.and_false]
  rw [h4]
  by_cases h3:0 < w.length
  ·have:40 < w.length:=by omega
   exact kZ
  ·exact kZ
theorem enO_sub(w:List UInt8)(i fr:Nat)(out:List (List UInt8))(hi:i≤w.length):enO w i fr out=if (w.take i).drop fr=[] then out else out ++ [(w.take i).drop fr]:=by
 have hl:((w.take i).drop fr).length=i - fr:=by simp; omega
 unfold enO
 by_cases h:fr < i
 ·rw [if_pos h,if_neg (fun e=>by rw [e] at hl; simp at hl; omega)]
 ·rw [if_neg h,if_pos (List.eq_nil_of_length_eq_zero (by omega))]
theorem take_drop_snoc(w:List UInt8)(i fr:Nat)(hi:i < w.length)(h:fr≤i):(w.take (i+1)).drop fr =(w.take i).drop fr ++ [w[i]!]:=by
 rw [take_snoc hi,List.drop_append_of_le_length (by simp; omega)]
def wdS(a:List UInt8 × List (List UInt8) × List UInt8 × Nat):St:=⟨[(0,.str a.1),(4,.vec 0 1 0 a.2.1.length),(5,.str a.2.2.1),(6,.int .i64 a.2.2.2)],[some ⟨9,a.2.1.map .str,true⟩]⟩
def wdI(w:List UInt8)(a:List UInt8 × List (List UInt8) × List UInt8 × Nat):Prop :=
 a.1.length≤w.length∧a.2.1.length≤a.2.2.2 ∧
 ((∃ fr,fr≤a.2.2.2∧a.1=w∧a.2.2.2≤w.length∧a.2.2.1 =(w.take a.2.2.2).drop fr∧swF w (w.length+1 - a.2.2.2) a.2.2.2 fr a.2.1=swV w) ∨(a.2.2.2=a.1.length+1∧a.2.1=swV w))
theorem rwords_run(w:List UInt8)(hw:w.length≤40000):Run Tryz.prog 27 [.str w] (if (swV w).all okW then .tup [.own 1 9 ((swV w).map .str),.int .i64 0] else .tup [.sl 0 [] true,.int .i64 20]):=by
 have hl:=swF_len w w.length (Nat.le_refl _) (w.length+1) 0 0 [] (by simp)
 change ∀ x∈swV w,_ at hl
 refine Tryz.run27 (by simp) ?_
 unfold Tryz.c27
 refine vZ ?_
 refine aw_loop wdS (wdI w) (fun a=>w.length+1 - a.2.2.2) (w,[],[],0) ?_ ⟨Nat.le_refl _,Nat.le_refl _,.inl ⟨0,Nat.le_refl _,rfl,Nat.zero_le _,rfl,rfl⟩⟩ ?_
 ·unfold wdS
  exact uZ
 rintro ⟨r,out,wd,i⟩ ⟨hr,ho,hI⟩
 dsimp only at hr ho hI
 unfold wdS Tryz.c27b0
 dsimp only
 rcases hI with ⟨fr,hf,rfl,hi,rfl,hs⟩ | ⟨hi,hs⟩
 ·by_cases hx:i < r.length
  ·have hgi:r[i]?=some r[i]!:=by rw [getElem!_pos r i hx,List.getElem?_eq_getElem hx]
   by_cases h35:r[i]! = 35
   ·have hq:((r[i]!.toNat:Nat):Int)=35:=by rw [h35]; rfl
    rw [swF_stop r _ i fr out (fun _=>h35),enO_sub r i fr out hi] at hs
    generalize hwd:(r.take i).drop fr=wd at *
    by_cases hw0:wd=[]
    ·subst hw0
     rw [if_pos rfl] at hs
     simp (disch:=try exact dq) only[↓pvd,pz,sC,List.map,seval,hgi,bv]
     refine⟨(r.take i,out,[],i+1),?_,⟨?_,?_,?_⟩,?_⟩
     ·simp (disch:=try exact dq) only[↓pvd,pz,sC,List.map,seval,iM sP,rM sP]
      rfl
     ·dsimp only;(try simp);(try omega)
     ·dsimp only; omega
     ·exact .inr ⟨by simp; omega,hs⟩
     ·dsimp only; omega
    ·rw [if_neg hw0] at hs
     simp (disch:=try exact dq) only[↓pvd,pz,sC,List.map,seval,hgi,bv,hw0,iM sP,rM sP,List.flatMap_append,List.map_append]
     refine⟨(r.take i,out ++ [wd],[],i+1),?_,⟨?_,?_,?_⟩,?_⟩
     ·simp (disch:=try exact dq) only[↓pvd,pz,sC,List.map,seval,iM sP,rM sP,List.flatMap_append,List.map_append]
      try simp
     ·dsimp only;(try simp);(try omega)
     ·dsimp only; simp; omega
     ·exact .inr ⟨by simp; omega,hs⟩
     ·dsimp only; omega
   ·have h35':¬((r[i]!.toNat:Nat):Int)=35:=u8ne (n:=35) h35 (by omega)
    by_cases hb:r[i]! = 32∨r[i]! = 9
    ·rw [swF_blank r i fr out hx h35 hb,enO_sub r i fr out hi] at hs
     have hq:((r[i]!.toNat:Nat):Int)=32 ∨((r[i]!.toNat:Nat):Int)=9:=by rcases hb with hb | hb <;> rw [hb] <;> simp
     rcases hq with hq | hq
     all_goals
      generalize hwd:(r.take i).drop fr=wd at *
      by_cases hw0:wd=[]
      ·subst hw0
       rw [if_pos rfl] at hs
       simp (disch:=try exact dq) only[↓pvd,pz,sC,List.map,seval,hgi,bv]
       refine⟨(r,out,[],i+1),?_,⟨?_,?_,?_⟩,?_⟩
       ·simp (disch:=try exact dq) only[↓pvd,pz,sC,List.map,seval,iM sP,rM sP]
        rfl
       ·dsimp only;(try simp);(try omega)
       ·dsimp only; omega
       ·exact .inl ⟨i+1,Nat.le_refl _,rfl,by dsimp only; omega,by simp,hs⟩
       ·dsimp only; omega
      ·rw [if_neg hw0] at hs
       simp (disch:=try exact dq) only[↓pvd,pz,sC,List.map,seval,hgi,bv,hw0,iM sP,rM sP,List.flatMap_append,List.map_append]
       refine⟨(r,out ++ [wd],[],i+1),?_,⟨?_,?_,?_⟩,?_⟩
       ·simp (disch:=try exact dq) only[↓pvd,pz,sC,List.map,seval,iM sP,rM sP,List.flatMap_append,List.map_append]
        try simp
       ·dsimp only;(try simp);(try omega)
       ·dsimp only; simp; omega
       ·exact .inl ⟨i+1,Nat.le_refl _,rfl,by dsimp only; omega,by simp,hs⟩
       ·dsimp only; omega
    ·rw [swF_other r i fr out hx h35 hb] at hs
     have h32:¬((r[i]!.toNat:Nat):Int)=32:=u8ne (n:=32) (fun e=>hb (.inl e)) (by omega)
     have h9:¬((r[i]!.toNat:Nat):Int)=9:=u8ne (n:=9) (fun e=>hb (.inr e)) (by omega)
     have hsn:=take_drop_snoc r i fr hx hf
     have hsl:(r.take (i+1)).drop i=[r[i]!]:=by rw [take_drop_snoc r i i hx (Nat.le_refl _)]; simp
     have hwl:((r.take i).drop fr).length≤40000:=by simp; omega
     simp (disch:=try exact dq) only[↓pvd,pz,sC,List.map,seval,hgi,bv,hsl,iM sP,rM sP]
     refine⟨(r,out,(r.take i).drop fr ++ [r[i]!],i+1),rfl,⟨?_,?_,?_⟩,?_⟩
     ·dsimp only; omega
     ·dsimp only; omega
     ·exact .inl ⟨fr,by dsimp only; omega,rfl,by dsimp only; omega,hsn.symm,hs⟩
     ·dsimp only; omega
  ·have:i=r.length:=by omega
   rw [swF_stop r _ i fr out (fun h=>absurd h hx),enO_sub r i fr out hi] at hs
   have hgi:True:=trivial
   generalize hwd:(r.take i).drop fr=wd at *
   by_cases hw0:wd=[]
   ·subst hw0
    rw [if_pos rfl] at hs
    simp (disch:=try exact dq) only[↓pvd,pz,sC,List.map,seval,hgi,bv]
    refine⟨(r,out,[],i+1),?_,⟨?_,?_,?_⟩,?_⟩
    ·simp (disch:=try exact dq) only[↓pvd,pz,sC,List.map,seval,iM sP,rM sP]
     rfl
    ·dsimp only;(try simp);(try omega)
    ·dsimp only; omega
    ·exact .inr ⟨by dsimp only; omega,hs⟩
    ·dsimp only; omega
   ·rw [if_neg hw0] at hs
    simp (disch:=try exact dq) only[↓pvd,pz,sC,List.map,seval,hgi,bv,hw0,iM sP,rM sP,List.flatMap_append,List.map_append]
    refine⟨(r,out ++ [wd],[],i+1),?_,⟨?_,?_,?_⟩,?_⟩
    ·simp (disch:=try exact dq) only[↓pvd,pz,sC,List.map,seval,iM sP,rM sP,List.flatMap_append,List.map_append]
     try simp
    ·dsimp only;(try simp);(try omega)
    ·dsimp only; simp; omega
    ·exact .inr ⟨by dsimp only; omega,hs⟩
    ·dsimp only; omega
 ·subst hs
  have hn:=swF_num w (w.length+1) 0 0 []
  change (swV w).length≤_ at hn
  simp only[List.length_nil] at hn
  generalize swV w=L at *
  refine vZ ?_
  refine aw_loop (fun k:Nat=>⟨[(4,.vec 0 1 0 L.length),(7,.int .i64 k)],[some ⟨9,L.map .str,true⟩]⟩) (fun k=>k≤L.length∧∀ j < k,okW L[j]! = true) (fun k=>L.length - k) 0 ?_ ⟨by omega,by simp⟩ ?_
  ·simp (disch:=try exact dq) only[↓pvd,pz,sC,List.map,seval,iM sP,rM sP]
  rintro k ⟨hk,hp⟩
  unfold Tryz.c27b1
  by_cases hx:k < L.length
  ·have q2:=rword_run L[k]! (by have:=hl _ (get_mem hx); omega)
   by_cases ho2:okW L[k]! = true
   ·rw [ho2] at q2
    refine vZ ?_
    refine aC q2 rfl rfl ?_
    simp (disch:=try exact dq) only[↓pvd,pz,sC,List.map,seval,iM sP,rM sP]
    refine⟨k+1,rfl,⟨by omega,fun j hj=>?_⟩,by omega⟩
    by_cases hjk:j=k
    ·rw [hjk]; exact ho2
    ·exact hp j (by omega)
   ·have h1:okW L[k]! = false:=by simpa using ho2
    have h2:¬(L.all okW=true):=by
     rw [Bool.not_eq_true,List.all_eq_false]
     exact⟨L[k]!,get_mem hx,by rw [h1]; simp⟩
    rw [if_neg h2]
    rw [h1] at q2
    refine vZ ?_
    refine aC q2 rfl rfl ?_
    simp (disch:=try exact dq) only[↓pvd,pz,sC,List.map,seval,iM sP,rM sP]
    exact eZ
  ·have h3:L.all okW=true:=by
    rw [List.all_eq_true]
    intro c hc
    obtain ⟨j,hj,rfl⟩:=List.mem_iff_getElem.1 hc
    have:=hp j (by omega)
    rwa [getElem!_pos L j hj] at this
   rw [if_pos h3]
   refine vZ ?_
   (refine Ends_rq [[.own 1 9],[.snap]] ?_; simp (disch:=try exact dq) only[↓pvd,pz,sC,List.map,seval,iM sP,rM sP,mapO_map str_nr,rows_map str_nr]; exact⟨_,rfl,rfl,rfl⟩)
end Nm
end Go.Proofs
namespace Go.Proofs
namespace Nm
open Go.Pv
def finF(cur:List UInt8)(out:List (List UInt8)):List (List UInt8):=if cur=[] then out else out ++ [cur]
def wsF:List UInt8→List (List UInt8)→List UInt8→List (List UInt8)
 | cur,out,[]=>finF cur out
 | cur,out,c :: t=>if c=35 then finF cur out else if c=32∨c=9 then wsF [] (finF cur out) t else wsF (cur ++ [c]) out t
theorem swF_ws(w:List UInt8):∀(n i fr:Nat) (out:List (List UInt8)),w.length - i=n→fr≤i→i≤w.length→swF w (w.length+1 - i) i fr out=wsF ((w.take i).drop fr) out (w.drop i):=by
 intro n
 induction n with
 | zero =>
  intro i fr out hn hf hi
  rw [swF_stop w _ i fr out (fun h=>by omega),enO_sub w i fr out hi,List.drop_eq_nil_of_le (show w.length≤i by omega)]
  rfl
 | succ n ih =>
  intro i fr out hn hf hi
  have hx:i < w.length:=by omega
  have hd:w.drop i=w[i]! :: w.drop (i+1):=by rw [getElem!_pos w i hx,← List.drop_eq_getElem_cons hx]
  rw [hd,wsF]
  by_cases h35:w[i]! = 35
  ·rw [if_pos h35,swF_stop w _ i fr out (fun _=>h35),enO_sub w i fr out hi]
   rfl
  ·rw [if_neg h35]
   by_cases hb:w[i]! = 32∨w[i]! = 9
   ·rw [if_pos hb,swF_blank w i fr out hx h35 hb,ih (i+1) (i+1) _ (by omega) (Nat.le_refl _) (by omega),enO_sub w i fr out hi]
    rw [show(w.take (i+1)).drop (i+1)=[] by simp]
    rfl
   ·rw [if_neg hb,swF_other w i fr out hx h35 hb,ih (i+1) fr out (by omega) (by omega) (by omega),take_drop_snoc w i fr hx hf]
theorem swV_ws(w:List UInt8):swV w=wsF [] [] w:=by
 have:=swF_ws w w.length 0 0 [] (by omega) (Nat.le_refl _) (Nat.zero_le _)
 simpa [swV] using this
theorem okB_ne{c:UInt8}(h:okB c=true):¬ c=35∧¬(c=32∨c=9):=by
 have h2:=of_decide_eq_true h
 refine⟨fun e=>?_,fun e=>?_⟩
 ·rw [e] at h2; simp at h2
 ·rcases e with e | e <;> rw [e] at h2 <;> simp at h2
theorem wsF_word:∀(x cur:List UInt8) (out:List (List UInt8)) (t:List UInt8),x.all okB=true→wsF cur out (x ++ t)=wsF (cur ++ x) out t
 | [],cur,out,t,_=>by simp
 | c :: x,cur,out,t,h=>by
  rw [List.all_cons,Bool.and_eq_true] at h
  have h1:=okB_ne h.1
  rw [List.cons_append,wsF,if_neg h1.1,if_neg h1.2,wsF_word x (cur ++ [c]) out t h.2]
  simp
theorem okW_all{x:List UInt8}(h:okW x=true):x.all okB=true∧x≠[]∧x.length≤40:=by
 unfold okW at h
 rw [Bool.and_eq_true] at h
 exact⟨h.1,of_decide_eq_true h.2⟩
theorem wsF_tail(rem:List UInt8):∀(r:List (List UInt8)) (x:List UInt8) (out:List (List UInt8)),x≠[] →(∀ y∈r,okW y=true)→wsF x out (Lib.joinTail [32] r ++ 32 :: 35 :: rem)=out ++ x :: r
 | [],x,out,hx,_=>by
  rw [show Lib.joinTail [32] ([]:List (List UInt8))=[] from rfl,List.nil_append,wsF,if_neg (by decide),if_pos (by decide),wsF,if_pos rfl]
  simp [finF,hx]
 | y :: r,x,out,hx,h=>by
  have hy:=okW_all (h y (by simp))
  rw [show Lib.joinTail [32] (y :: r)=32 :: (y ++ Lib.joinTail [32] r) by simp [Lib.joinTail],List.cons_append,wsF,if_neg (by decide),if_pos (by decide),List.append_assoc,wsF_word y [] _ _ hy.1,List.nil_append,wsF_tail rem r y _ hy.2.1 (fun z hz=>h z (by simp [hz]))]
  simp [finF,hx]
theorem back_words(ws:List (List UInt8))(rem:List UInt8)(h:∀ y∈ws,okW y=true):swV (9 :: Lib.join ws [32] ++ 32 :: 35 :: rem)=ws:=by
 rw [swV_ws,List.cons_append,wsF,if_neg (by decide),if_pos (by decide)]
 cases ws with
 | nil =>
  rw [Lib.join_nil,List.nil_append,wsF,if_neg (by decide),if_pos (by decide),wsF,if_pos rfl]
  rfl
 | cons x r =>
  have hx:=okW_all (h x (by simp))
  rw [Lib.join_cons,List.append_assoc,wsF_word x [] _ _ hx.1,List.nil_append,wsF_tail rem r x _ hx.2.1 (fun z hz=>h z (by simp [hz]))]
  simp [finF]
end Nm
end Go.Proofs
namespace Go.Proofs
open Go.Pv
theorem ent_nones(H:Hp)(n id:Nat):ent (H ++ List.replicate n none) id=ent H id:=by
 unfold ent
 rcases Nat.lt_or_ge id H.length with h | h
 ·rw [List.getElem?_append_left h]
 ·rw [List.getElem?_append_right h,List.getElem?_eq_none h,List.getElem?_replicate]
  split <;> rfl
theorem gen_strip{P:Program}{f:FuncId}{xs:List AV}{H H':Hp}{r:AV}{n:Nat}(h:Gen P f xs H r (H' ++ List.replicate n none)):Gen P f xs H r H' :=
 ⟨h.1,fun w γ args hq hh hl hs=>(h.2 w γ args hq hh hl hs).mono fun e W ⟨v,γ',he,hv,hh',st,ids⟩ =>
  ⟨v,γ',he,hv,⟨fun id hid=>hh'.none id (by rw [ent_nones]; exact hid),fun id e hid=>hh'.ok id e (by rw [ent_nones]; exact hid),hh'.inj,hh'.imm,hh'.stl⟩,st,ids⟩⟩
def rdo(ws:List (List UInt8))(f:Bool)(k:Nat)(e:Int):Option Ent:=some ⟨68,[.agg [.sl 1 (ws.map .str) f,.int .i64 k,.int .i64 e]],true⟩
def fl(e:Int)(bad:Bool)(c:Int):Int:=if bad=true∧e=0 then c else e
theorem next_gen(ws:List (List UInt8))(f:Bool)(k:Nat)(e:Int)(A:Option Ent)(T:Hp)(hk:k < ws.length)(hw:ws.length≤1000) :
  Gen Tryz.prog 39 [.eptr 1 0 0] (A :: rdo ws f k e :: T) (.str ws[k]!) (A :: rdo ws f (k+1) e :: T):=by
 have hgi:(ws.map AV.str)[k]?=some (.str ws[k]!):=mG hk
 refine gen_strip (n:=12) (Tryz.gen39 (by simp) ?_)
 unfold Tryz.g39 rdo
 simp (disch:=try exact dq) only[↓pvd,pz,sC,List.map,seval,hgi,List.length_map]
 rw [show((k:Int)+1 - 1).toNat=k by omega]
 exact⟨rfl,by simp⟩
theorem fail_gen(ws:List (List UInt8))(f:Bool)(k:Nat)(e c:Int)(b:Bool)(A:Option Ent)(T:Hp) :
  Gen Tryz.prog 36 [.eptr 1 0 0,.bool b,.int .i64 c] (A :: rdo ws f k e :: T) (.tup []) (A :: rdo ws f k (fl e b c) :: T):=by
 refine Tryz.gen36 (by simp) ?_
 unfold Tryz.g36 rdo fl
 cases b with
 | false =>
  refine vZ ?_
  exact⟨rfl,rfl⟩
 | true =>
  by_cases he:e=0
  ·subst he
   refine vZ ?_
   exact⟨rfl,rfl⟩
  ·simp (disch:=try exact dq) only[↓pvd,pz,sC,List.map,seval,he]
   exact⟨rfl,rfl⟩
def nmO(s:List UInt8):Bool:=decide (Nm.nmP s)
theorem name_gen(ws:List (List UInt8))(f:Bool)(k:Nat)(e:Int)(A:Option Ent)(T:Hp)(hk:k < ws.length)(hw:ws.length≤1000)(hl:∀ w∈ws,w.length≤1000) :
  Gen Tryz.prog 32 [.eptr 1 0 0] (A :: rdo ws f k e :: T) (.str ws[k]!) (A :: rdo ws f (k+1) (fl e (!nmO ws[k]!) 20) :: T):=by
 have hwl:ws[k]!.length≤1000:=hl _ (by rw [getElem!_pos ws k hk]; exact List.getElem_mem hk)
 have q:Run Tryz.prog 63 [.str ws[k]!] (.bool (nmO ws[k]!)):=Nm.name_run ws[k]! (by omega)
 generalize nmO ws[k]! = b at *
 refine Tryz.gen32 (by simp) ?_
 unfold Tryz.g32
 refine vZ ?_
 refine aH (next_gen ws f k e A T hk hw) ?_
 refine vZ ?_
 refine aC q rfl rfl ?_
 refine vZ ?_
 refine aH (fail_gen ws f (k+1) e 20 (!b) A T) ?_
 refine vZ ?_
 exact⟨rfl,rfl⟩
theorem number_gen(ws:List (List UInt8))(f:Bool)(k:Nat)(e a b:Int)(A:Option Ent)(T:Hp)(hk:k < ws.length)(hw:ws.length≤1000)(hl:∀ w∈ws,w.length≤1000) :
  Gen Tryz.prog 34 [.eptr 1 0 0,.int .i64 a,.int .i64 b] (A :: rdo ws f k e :: T) (.int .i64 (Nm.rdF ws[k]! a b).1) (A :: rdo ws f (k+1) (fl e (!(Nm.rdF ws[k]! a b).2) 21) :: T):=by
 have hwl:ws[k]!.length≤1000:=hl _ (by rw [getElem!_pos ws k hk]; exact List.getElem_mem hk)
 have q:=Nm.read_run ws[k]! a b (by omega)
 unfold Nm.rdR at q
 generalize (Nm.rdF ws[k]! a b).1=n at *
 generalize (Nm.rdF ws[k]! a b).2=ok at *
 refine Tryz.gen34 (by simp) ?_
 unfold Tryz.g34
 refine vZ ?_
 refine aH (next_gen ws f k e A T hk hw) ?_
 refine vZ ?_
 refine aC q rfl rfl ?_
 refine vZ ?_
 refine aH (fail_gen ws f (k+1) e 21 (!ok) A T) ?_
 refine vZ ?_
 exact⟨rfl,rfl⟩
theorem vlan_gen(ws:List (List UInt8))(f:Bool)(k:Nat)(e:Int)(A:Option Ent)(T:Hp)(hk:k < ws.length)(hw:ws.length≤1000)(hl:∀ w∈ws,w.length≤1000) :
  Gen Tryz.prog 33 [.eptr 1 0 0] (A :: rdo ws f k e :: T) (.int .i64 (Nm.rdF ws[k]! 1 4094).1) (A :: rdo ws f (k+1) (fl e (!(Nm.rdF ws[k]! 1 4094).2) 21) :: T):=by
 refine Tryz.gen33 (by simp) ?_
 unfold Tryz.g33
 refine vZ ?_
 refine aH (number_gen ws f k e 1 4094 A T hk hw hl) ?_
 refine vZ ?_
 exact⟨rfl,rfl⟩
theorem vni_gen(ws:List (List UInt8))(f:Bool)(k:Nat)(e:Int)(A:Option Ent)(T:Hp)(hk:k < ws.length)(hw:ws.length≤1000)(hl:∀ w∈ws,w.length≤1000) :
  Gen Tryz.prog 40 [.eptr 1 0 0] (A :: rdo ws f k e :: T) (.int .i64 (Nm.rdF ws[k]! 1 16777215).1) (A :: rdo ws f (k+1) (fl e (!(Nm.rdF ws[k]! 1 16777215).2) 21) :: T):=by
 refine Tryz.gen40 (by simp) ?_
 unfold Tryz.g40
 refine vZ ?_
 refine aH (number_gen ws f k e 1 16777215 A T hk hw hl) ?_
 refine vZ ?_
 exact⟨rfl,rfl⟩
def stn(m:Int):Bool:=decide (m≤281474976710655) && (!(Mc.ish m).2 && !decide (m / 1099511627776 % 2=1))
theorem station_run(m:Int)(h:0≤m)(h':m < 18446744073709551616):Run Tryz.prog 66 [.int .u64 m] (.bool (stn m)):=by
 have q1:=Mc.ishost_run m h h'
 have q2:=Mc.group_run m h h'
 refine Tryz.run66 (by simp) ?_
 unfold Tryz.c66 stn
 generalize (Mc.ish m).1=x at *
 generalize (Mc.ish m).2=b at *
 generalize decide (m / 1099511627776 % 2=1)=g at *
 by_cases hm:m≤281474976710655
 ·rw [decide_eq_true hm]
  cases b
  ·repeat' (first | (simp (disch:=try exact dq) only[↓pvd,pz,sC,List.map,seval,still]) | (with_reducible first|refine cB (fun _=>?_) (fun _=>?_)|refine gB (fun _=>?_) (fun _=>?_)|refine hB (fun _=>?_) (fun _=>?_)|refine cA ?_ ?_) | refine aC q1 rfl rfl ?_ | refine aD q1 rfl rfl (fun _=>rfl) ?_ | refine aC q2 rfl rfl ?_ | refine aD q2 rfl rfl (fun _=>rfl) ?_ | exact eZ | fail)
  ·repeat' (first | (simp (disch:=try exact dq) only[↓pvd,pz,sC,List.map,seval,still]) | (with_reducible first|refine cB (fun _=>?_) (fun _=>?_)|refine gB (fun _=>?_) (fun _=>?_)|refine hB (fun _=>?_) (fun _=>?_)|refine cA ?_ ?_) | refine aC q1 rfl rfl ?_ | refine aD q1 rfl rfl (fun _=>rfl) ?_ | refine aC q2 rfl rfl ?_ | refine aD q2 rfl rfl (fun _=>rfl) ?_ | exact eZ | fail)
 ·rw [decide_eq_false hm]
  repeat' (first | (simp (disch:=try exact dq) only[↓pvd,pz,sC,List.map,seval,still]) | (with_reducible first|refine cB (fun _=>?_) (fun _=>?_)|refine gB (fun _=>?_) (fun _=>?_)|refine hB (fun _=>?_) (fun _=>?_)|refine cA ?_ ?_) | refine aC q1 rfl rfl ?_ | refine aD q1 rfl rfl (fun _=>rfl) ?_ | refine aC q2 rfl rfl ?_ | refine aD q2 rfl rfl (fun _=>rfl) ?_ | exact eZ | fail)
theorem rdm_b(s:List UInt8):0 ≤(Mc.rdm s).1 ∧(Mc.rdm s).1 < 18446744073709551616:=by
 unfold Mc.rdm
 split
 ·rename_i h
  have:=Mc.num_b s 6 h.2
  simp only
  omega
 ·simp
theorem mac_gen(ws:List (List UInt8))(f:Bool)(k:Nat)(e:Int)(A:Option Ent)(T:Hp)(hk:k < ws.length)(hw:ws.length≤1000)(hl:∀ w∈ws,w.length≤1000) :
  Gen Tryz.prog 35 [.eptr 1 0 0] (A :: rdo ws f k e :: T) (.int .u64 (Mc.rdm ws[k]!).1) (A :: rdo ws f (k+1) (fl e (!((Mc.rdm ws[k]!).2 && stn (Mc.rdm ws[k]!).1)) 21) :: T):=by
 have hwl:ws[k]!.length≤1000:=hl _ (by rw [getElem!_pos ws k hk]; exact List.getElem_mem hk)
 have q:=Mc.read_run ws[k]! (by simp only[maxLen]; omega)
 have hb:=rdm_b ws[k]!
 have q2:=station_run (Mc.rdm ws[k]!).1 hb.1 hb.2
 refine Tryz.gen35 (by simp) ?_
 unfold Tryz.g35
 generalize (Mc.rdm ws[k]!).1=m at *
 generalize (Mc.rdm ws[k]!).2=ok at *
 generalize stn m=st at *
 refine vZ ?_
 refine aH (next_gen ws f k e A T hk hw) ?_
 refine vZ ?_
 refine aC q rfl rfl ?_
 cases ok with
 | false =>
  refine vZ ?_
  refine aH (fail_gen ws f (k+1) e 21 true A T) ?_
  refine vZ ?_
  exact⟨rfl,rfl⟩
 | true =>
  refine vZ ?_
  refine aC q2 rfl rfl ?_
  refine vZ ?_
  refine aH (fail_gen ws f (k+1) e 21 (!st) A T) ?_
  refine vZ ?_
  exact⟨rfl,rfl⟩
end Go.Proofs
