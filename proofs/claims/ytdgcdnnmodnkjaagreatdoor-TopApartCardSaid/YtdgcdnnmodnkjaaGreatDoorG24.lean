/- Part 24 of a proof that a step of one domain changes nothing of another: the machine of plain values, and what the program's functions do. -/
import Derived.Test.YtdgcdnnmodnkjaaGreatDoorG23
set_option linter.all false
set_option linter.unusedVariables false
set_option linter.unusedSectionVars false
set_option linter.unusedSimpArgs false
set_option linter.defProp false
set_option maxHeartbeats 4000000
set_option maxRecDepth 100000
namespace Go.Proofs
open Go Go.Pv Go.Proofs.Tx
variable [Lq]
open W
open Classical
theorem nodup_len:∀(n:Nat) (l:List Int),(∀ j,j < l.length→∀ i,i < j→nth l i≠nth l j) →(∀ x,x∈l→0≤x∧x < n)→l.length≤n
 | 0,l,_,h2=>by
  cases l with
  | nil=>exact Nat.le_refl _
  | cons x xs=>have:=h2 x List.mem_cons_self; omega
 | n+1,l,h1,h2=>by
  have hnd:l.Nodup:=by
   rw [List.nodup_iff_pairwise_ne,List.pairwise_iff_getElem]
   intro i j hi hj hij
   have e1:=nth_get hi
   have e2:=nth_get hj
   rw [List.getElem?_eq_getElem hi] at e1
   rw [List.getElem?_eq_getElem hj] at e2
   have:=h1 j hj i hij
   rw [← Option.some.inj e1,← Option.some.inj e2] at this
   exact this
  have key:∀(n:Nat) (l:List Int),l.Nodup →(∀ x,x∈l→0≤x∧x < n)→l.length≤n:=by
   intro n
   induction n with
   | zero =>
    intro l _ h
    cases l with
    | nil=>exact Nat.le_refl _
    | cons x xs=>have:=h x List.mem_cons_self; omega
   | succ n ih =>
    intro l hn h
    have h3:=ih (l.erase (n:Int)) (hn.erase _) (fun x hx=>by
     have h4:=h x (List.mem_of_mem_erase hx)
     have h5:x ≠(n:Int):=(List.Nodup.mem_erase_iff hn).1 hx |>.1
     omega)
    have h6:=@List.length_erase Int _ _ (n:Int) l
    split at h6 <;> omega
  exact key _ _ hnd (fun x hx=>by have:=h2 x hx; omega)
theorem rsg_len{l:List Int}{b:Int}(h:Rsg l b):l.length≤16:=by
 rcases h with h | h
 ·omega
 ·exact h.2.2
theorem peers_len{N:Nt}(h:Good N){k:Int}(hk:Pl N.doms.l k):(nth N.doms.l k.toNat).peers.l.length≤48:=by
 have hp:=h.peers k.toNat (by omega)
 refine Nat.le_trans (nodup_len N.doms.l.length _ (fun j hj i hij e=>?_) fun x hx=>?_) h.few.2.2.2.1
 ·obtain ⟨_,h2⟩:=hp j hj
  rcases h2 with ⟨h2,_⟩ | ⟨k',h2,h3,h4,h5⟩
  ·omega
  ·obtain rfl:j=k':=by omega
   exact h5 i hij e
 ·obtain ⟨j,hj,rfl⟩:=nth_of hx
  have:=(hp j hj).1.1
  exact this
theorem in_of{l:List Int}(n:l.length≤140737488355328):(.sl 1 (l.map (AV.int .i64)) false:AV) =(SL.of l n:IL).v:=SL.ofe
theorem in_set{l:List Int}{i:Nat}{x:Int}:(l.map (AV.int .i64)).set i (.int .i64 x) =(l.set i x).map (AV.int .i64):=by rw [List.map_set]
theorem s260(l:List Int)(hl:l.length≤1000){g:FuncId}{caps:List AV}{φ:Int→Prop}(h:Clo Int (AV.int .i64) φ l g caps):∃ r,Run Tryz.prog 260 [.own 1 3 (l.map (AV.int .i64)),.fn g caps] r∧∃ m:List Int,r=.own 1 3 (m.map (AV.int .i64))∧m.length≤l.length∧∀ x,x∈m→x∈l:=by
 have hg:=h.lt
 have hnr:=h.nr
 refine rv [.t 4] 2 (by kernel_rfl) rfl (Nat.le_refl 2) ?_
 rw [shal_eq,show cod Tryz.prog true [] 260=c260 true from by kernel_rfl]
 unfold c260
 have i1:∀(l:List Int) hp,(l.map (AV.int .i64)).flatMap (idsOf hp 5)=[]:=fun l hp=>ids_map fun _=>rfl
 have i2:∀(l:List Int) r,(l.map (AV.int .i64)).map (renX r 6)=l.map (AV.int .i64):=fun l r=>ren_map fun _=>rfl
 have i3:∀(l:List Int) hp,mapO (snap hp 6) (l.map (AV.int .i64))=some (l.map (AV.int .i64)):=fun l hp=>mapO_map fun _=>rfl
 have i4:∀(l:List Int) hp,(l.map (AV.int .i64)).flatMap (rows hp 6)=[]:=fun l hp=>rows_map fun _=>rfl
 have i5:∀(l:List Int) hp,mapO (snap hp 5) (l.map (AV.int .i64))=some (l.map (AV.int .i64)):=fun l hp=>mapO_map fun _=>rfl
 have i6:∀(l:List Int) hp,(l.map (AV.int .i64)).flatMap (rows hp 5)=[]:=fun l hp=>rows_map fun _=>rfl
 have ci:∀ hp n,caps.flatMap (idsOf hp (n+2))=[]:=fun hp n=>capI hnr
 have cr:∀ l n,caps.map (renX l (n+2))=caps:=fun l n=>capR hnr
 have cs:∀ hp n,mapO (snap hp (n+2)) caps=some caps:=fun hp n=>mapO_id fun x hx=>snap_nr1 (List.all_eq_true.1 hnr x hx)
 have cw:∀ hp n,caps.flatMap (rows hp (n+2))=[]:=fun hp n=>by rw [List.flatMap_eq_nil_iff]; exact fun x hx=>rows_nr1 (List.all_eq_true.1 hnr x hx)
 have h286:=s286 (SL.of l (by omega)) h
 rw [← SL.ofe] at h286
 simp (disch:=try exact Dj) only[Kj,entry,vl,List.zipIdx_cons,List.zipIdx_nil,lcf,seval,reduceCtorEq]
 refine call_pl (by simp (disch:=try exact Dj) only[Kj,wp,i3,i4,i5,i6,cs,cw,map_take_len,seval,reduceCtorEq]; rfl) (by simp (disch:=try exact Dj) only[Kj,wp,seval,reduceCtorEq]) h286 (by rintro _ ⟨i,rfl,hi⟩; rfl) ?_
 rintro _ ⟨i,rfl,hi⟩
 have hi':=hi.lt
 simp only[SL.of_l] at hi'
 simp only[vl,ts,wb]
 simp (disch:=try exact Dj) only[Kj,seval,reduceCtorEq]
 refine condC_d (fun h1=>?_) (fun h1=>?_)
 ·repeat' (first
 |simp (disch:=try exact Dj) only[Kj,i3,i4,map_take_len,seval,reduceCtorEq]
 |(with_reducible apply condC_d)<;>intro _
 |with_reducible refine e8 ?_
 |(refine fin_o [[.own 1 3]] ?_;simp (disch:=try exact Dj) only[Kj,i3,i4,map_take_len,wo,seval,reduceCtorEq];refine⟨_,rfl,?_,?_⟩;(first|rfl|simp (disch:=try exact Dj) only[Kj,i3,i4,map_take_len,wo,seval,reduceCtorEq]);first|exact⟨_,rfl,Nat.le_refl _,fun x h=>h⟩|exact⟨_,rfl⟩|fail)
 |fail)
 ·obtain ⟨a,rfl⟩:=Int.eq_ofNat_of_zero_le (a:=i) (by omega)
  simp (disch:=try exact Dj) only[Kj,seval,reduceCtorEq]
  refine d_lo (fun p:Nat × Nat × List Int=>⟨[(0,.vec 0 1 0 l.length),(1,.fn g caps),(5,.int .i64 p.1),(6,.int .i64 p.2.1)],[some ⟨3,p.2.2.map (AV.int .i64),true⟩]⟩) (fun p=>p.1 < p.2.1∧p.2.1≤l.length∧p.2.2.length=l.length∧∀ x,x∈p.2.2→x∈l) (fun p=>l.length - p.2.1) ?_ ?_
  ·simp (disch:=try exact Dj) only[Kj,i1,i2,ci,cr,seval,reduceCtorEq]
   exact⟨(a,a+1,l),by simp,Nat.lt_succ_self _,by show a+1≤l.length; omega,rfl,fun x h=>h⟩
  rintro ⟨x,y,m⟩ ⟨hx,hy,hm,hin⟩
  simp only at hx hy hm hin ⊢
  unfold c260b0
  simp (disch:=try exact Dj) only[Kj,seval,reduceCtorEq]
  refine condC_d (fun h2=>?_) (fun h2=>?_)
  ·have hy3:=hin _ (nth_mem (l:=m) (k:=y) (by omega))
   have hin2:∀ z,z∈m.set x (nth m y)→z∈l:=fun z hz=>by
    rcases List.mem_or_eq_of_mem_set hz with h | h
    ·exact hin z h
    ·rw [h]; exact hy3
   simp (disch:=try exact Dj) only[Kj,seval,reduceCtorEq]
   refine⟨by omega,by omega,?_⟩
   obtain ⟨_,hr,b,rfl,hb⟩:=h.run _ hy3
   refine callv_nr (Q:=fun r=>r=.bool b) ⟨_,hr,rfl⟩ (fnA_nr (by simp only[wd]) hnr) ?_ hg
   rintro _ rfl
   simp only[vl]
   cases b
   ·repeat' (first
 |simp (disch:=try exact Dj) only[Kj,in_set,i1,i2,ci,cr,seval,reduceCtorEq]
 |(with_reducible apply condC_d)<;>intro _
 |with_reducible refine e8 ?_
 |(refine⟨(x+1,y+1,_),rfl,⟨?_,?_,?_,hin2⟩,?_⟩ <;> simp only[List.length_set] <;> omega)
 |(refine fin_o [] ?_;simp (disch:=try exact Dj) only[Kj,in_set,i1,i2,ci,cr,wh,seval,reduceCtorEq];refine⟨_,rfl,?_,?_⟩;(first|rfl|simp (disch:=try exact Dj) only[Kj,in_set,i1,i2,ci,cr,wh,seval,reduceCtorEq]);first|exact⟨_,rfl⟩|fail)
 |fail)
   ·repeat' (first
 |simp (disch:=try exact Dj) only[Kj,in_set,i1,i2,ci,cr,seval,reduceCtorEq]
 |(with_reducible apply condC_d)<;>intro _
 |with_reducible refine e8 ?_
 |(refine⟨(x,y+1,_),rfl,⟨?_,?_,?_,hin⟩,?_⟩ <;> simp only <;> omega)
 |(refine fin_o [] ?_;simp (disch:=try exact Dj) only[Kj,in_set,i1,i2,ci,cr,wh,seval,reduceCtorEq];refine⟨_,rfl,?_,?_⟩;(first|rfl|simp (disch:=try exact Dj) only[Kj,in_set,i1,i2,ci,cr,wh,seval,reduceCtorEq]);first|exact⟨_,rfl⟩|fail)
 |fail)
  ·obtain ⟨m2,hm2,hml2,hmx⟩:∃ m2:List Int,(m.map (AV.int .i64)).take x ++(List.replicate (l.length - x) (.int .i64 0) ++(m.map (AV.int .i64)).drop (x +(l.length - x)))=m2.map (AV.int .i64)∧m2.length=l.length∧m2.take x=m.take x:=by
    refine⟨m.take x ++(List.replicate (l.length - x) 0 ++ m.drop (x +(l.length - x))),by simp [List.map_take,List.map_drop],by simp; omega,?_⟩
    rw [List.take_append_of_le_length (by simp; omega),List.take_take,Nat.min_self]
   simp (disch:=try exact Dj) only[Kj,seval,reduceCtorEq]
   refine⟨by omega,?_⟩
   refine e_clear (ty:=3) (es:=m.map (AV.int .i64)) rfl (by simp; omega) ?_
   rw [hm2]
   have h5:((m2.take x).map (AV.int .i64)) =(m2.map (AV.int .i64)).take x:=by rw [List.map_take]
   have h6:(m2.take x).length≤l.length:=by simp; omega
   repeat' (first
 |simp (disch:=try exact Dj) only[Kj,i3,i4,← h5,Nat.sub_zero,seval,reduceCtorEq]
 |(with_reducible apply condC_d)<;>intro _
 |with_reducible refine e8 ?_
 |(refine fin_o [[.own 1 3]] ?_;simp (disch:=try exact Dj) only[Kj,i3,i4,← h5,Nat.sub_zero,wo,seval,reduceCtorEq];refine⟨_,rfl,?_,?_⟩;(first|rfl|simp (disch:=try exact Dj) only[Kj,i3,i4,← h5,Nat.sub_zero,wo,seval,reduceCtorEq]);first|exact⟨m2.take x,rfl,h6,fun z hz=>hin z (List.mem_of_mem_take (hmx ▸ hz))⟩|exact⟨_,rfl⟩|fail)
 |fail)
end Go.Proofs
namespace Go.Pv
section
variable {hp:Hp} {n:Nat} {r:List Nat}
theorem Dv.im{l:List Dv}:(l.map Dv.v).flatMap (idsOf hp (n+2))=[]:=ids_map Dv.pl
theorem Dv.rm{l:List Dv}:(l.map Dv.v).map (renX r (n+2))=l.map Dv.v:=ren_map Dv.pl
theorem Dv.sm{l:List Dv}:mapO (snap hp (n+2)) (l.map Dv.v)=some (l.map Dv.v):=mapO_map Dv.nr1
theorem Dv.wm{l:List Dv}:(l.map Dv.v).flatMap (rows hp (n+2))=[]:=rows_map Dv.nr1
theorem Dv.st{l:List Dv}{i:Nat}{x:Dv}:(l.map Dv.v).set i x.v =(l.set i x).map Dv.v:=by rw [List.map_set]
theorem Dv.sn{l:List Dv}{x:Dv}:l.map Dv.v ++ [x.v] =(l ++ [x]).map Dv.v:=by simp
theorem Pt.im{l:List Pt}:(l.map Pt.v).flatMap (idsOf hp (n+2))=[]:=ids_map Pt.pl
theorem Pt.rm{l:List Pt}:(l.map Pt.v).map (renX r (n+2))=l.map Pt.v:=ren_map Pt.pl
theorem Pt.sm{l:List Pt}:mapO (snap hp (n+2)) (l.map Pt.v)=some (l.map Pt.v):=mapO_map Pt.nr1
theorem Pt.wm{l:List Pt}:(l.map Pt.v).flatMap (rows hp (n+2))=[]:=rows_map Pt.nr1
theorem Pt.st{l:List Pt}{i:Nat}{x:Pt}:(l.map Pt.v).set i x.v =(l.set i x).map Pt.v:=by rw [List.map_set]
theorem Pt.sn{l:List Pt}{x:Pt}:l.map Pt.v ++ [x.v] =(l ++ [x]).map Pt.v:=by simp
theorem Lk.im{l:List Lk}:(l.map Lk.v).flatMap (idsOf hp (n+2))=[]:=ids_map Lk.pl
theorem Lk.rm{l:List Lk}:(l.map Lk.v).map (renX r (n+2))=l.map Lk.v:=ren_map Lk.pl
theorem Lk.sm{l:List Lk}:mapO (snap hp (n+2)) (l.map Lk.v)=some (l.map Lk.v):=mapO_map Lk.nr1
theorem Lk.wm{l:List Lk}:(l.map Lk.v).flatMap (rows hp (n+2))=[]:=rows_map Lk.nr1
theorem Lk.st{l:List Lk}{i:Nat}{x:Lk}:(l.map Lk.v).set i x.v =(l.set i x).map Lk.v:=by rw [List.map_set]
theorem Lk.sn{l:List Lk}{x:Lk}:l.map Lk.v ++ [x.v] =(l ++ [x]).map Lk.v:=by simp
theorem Dm.im{l:List Dm}:(l.map Dm.v).flatMap (idsOf hp (n+2))=[]:=ids_map Dm.pl
theorem Dm.rm{l:List Dm}:(l.map Dm.v).map (renX r (n+2))=l.map Dm.v:=ren_map Dm.pl
theorem Dm.sm{l:List Dm}:mapO (snap hp (n+2)) (l.map Dm.v)=some (l.map Dm.v):=mapO_map Dm.nr1
theorem Dm.wm{l:List Dm}:(l.map Dm.v).flatMap (rows hp (n+2))=[]:=rows_map Dm.nr1
theorem Dm.st{l:List Dm}{i:Nat}{x:Dm}:(l.map Dm.v).set i x.v =(l.set i x).map Dm.v:=by rw [List.map_set]
theorem Dm.sn{l:List Dm}{x:Dm}:l.map Dm.v ++ [x.v] =(l ++ [x]).map Dm.v:=by simp
theorem Fl.im{l:List Fl}:(l.map Fl.v).flatMap (idsOf hp (n+2))=[]:=ids_map Fl.pl
theorem Fl.rm{l:List Fl}:(l.map Fl.v).map (renX r (n+2))=l.map Fl.v:=ren_map Fl.pl
theorem Fl.sm{l:List Fl}:mapO (snap hp (n+2)) (l.map Fl.v)=some (l.map Fl.v):=mapO_map Fl.nr1
theorem Fl.wm{l:List Fl}:(l.map Fl.v).flatMap (rows hp (n+2))=[]:=rows_map Fl.nr1
theorem Fl.st{l:List Fl}{i:Nat}{x:Fl}:(l.map Fl.v).set i x.v =(l.set i x).map Fl.v:=by rw [List.map_set]
theorem Fl.sn{l:List Fl}{x:Fl}:l.map Fl.v ++ [x.v] =(l ++ [x]).map Fl.v:=by simp
theorem Sc.im{l:List Sc}:(l.map Sc.v).flatMap (idsOf hp (n+2))=[]:=ids_map Sc.pl
theorem Sc.rm{l:List Sc}:(l.map Sc.v).map (renX r (n+2))=l.map Sc.v:=ren_map Sc.pl
theorem Sc.sm{l:List Sc}:mapO (snap hp (n+2)) (l.map Sc.v)=some (l.map Sc.v):=mapO_map Sc.nr1
theorem Sc.wm{l:List Sc}:(l.map Sc.v).flatMap (rows hp (n+2))=[]:=rows_map Sc.nr1
theorem Sc.st{l:List Sc}{i:Nat}{x:Sc}:(l.map Sc.v).set i x.v =(l.set i x).map Sc.v:=by rw [List.map_set]
theorem Sc.sn{l:List Sc}{x:Sc}:l.map Sc.v ++ [x.v] =(l ++ [x]).map Sc.v:=by simp
theorem Vf.im{l:List Vf}:(l.map Vf.v).flatMap (idsOf hp (n+2))=[]:=ids_map Vf.pl
theorem Vf.rm{l:List Vf}:(l.map Vf.v).map (renX r (n+2))=l.map Vf.v:=ren_map Vf.pl
theorem Vf.sm{l:List Vf}:mapO (snap hp (n+2)) (l.map Vf.v)=some (l.map Vf.v):=mapO_map Vf.nr1
theorem Vf.wm{l:List Vf}:(l.map Vf.v).flatMap (rows hp (n+2))=[]:=rows_map Vf.nr1
theorem Vf.st{l:List Vf}{i:Nat}{x:Vf}:(l.map Vf.v).set i x.v =(l.set i x).map Vf.v:=by rw [List.map_set]
theorem Vf.sn{l:List Vf}{x:Vf}:l.map Vf.v ++ [x.v] =(l ++ [x]).map Vf.v:=by simp
theorem Ib.im{l:List Ib}:(l.map Ib.v).flatMap (idsOf hp (n+2))=[]:=ids_map Ib.pl
theorem Ib.rm{l:List Ib}:(l.map Ib.v).map (renX r (n+2))=l.map Ib.v:=ren_map Ib.pl
theorem Ib.sm{l:List Ib}:mapO (snap hp (n+2)) (l.map Ib.v)=some (l.map Ib.v):=mapO_map Ib.nr1
theorem Ib.wm{l:List Ib}:(l.map Ib.v).flatMap (rows hp (n+2))=[]:=rows_map Ib.nr1
theorem Ib.st{l:List Ib}{i:Nat}{x:Ib}:(l.map Ib.v).set i x.v =(l.set i x).map Ib.v:=by rw [List.map_set]
theorem Ib.sn{l:List Ib}{x:Ib}:l.map Ib.v ++ [x.v] =(l ++ [x]).map Ib.v:=by simp
theorem Qd.im{l:List Qd}:(l.map Qd.v).flatMap (idsOf hp (n+2))=[]:=ids_map Qd.pl
theorem Qd.rm{l:List Qd}:(l.map Qd.v).map (renX r (n+2))=l.map Qd.v:=ren_map Qd.pl
theorem Qd.sm{l:List Qd}:mapO (snap hp (n+2)) (l.map Qd.v)=some (l.map Qd.v):=mapO_map Qd.nr1
theorem Qd.wm{l:List Qd}:(l.map Qd.v).flatMap (rows hp (n+2))=[]:=rows_map Qd.nr1
theorem Qd.st{l:List Qd}{i:Nat}{x:Qd}:(l.map Qd.v).set i x.v =(l.set i x).map Qd.v:=by rw [List.map_set]
theorem Qd.sn{l:List Qd}{x:Qd}:l.map Qd.v ++ [x.v] =(l ++ [x]).map Qd.v:=by simp
theorem En.im{l:List En}:(l.map En.v).flatMap (idsOf hp (n+2))=[]:=ids_map En.pl
theorem En.rm{l:List En}:(l.map En.v).map (renX r (n+2))=l.map En.v:=ren_map En.pl
theorem En.sm{l:List En}:mapO (snap hp (n+2)) (l.map En.v)=some (l.map En.v):=mapO_map En.nr1
theorem En.wm{l:List En}:(l.map En.v).flatMap (rows hp (n+2))=[]:=rows_map En.nr1
theorem En.st{l:List En}{i:Nat}{x:En}:(l.map En.v).set i x.v =(l.set i x).map En.v:=by rw [List.map_set]
theorem En.sn{l:List En}{x:En}:l.map En.v ++ [x.v] =(l ++ [x]).map En.v:=by simp
theorem Se.im{l:List Se}:(l.map Se.v).flatMap (idsOf hp (n+2))=[]:=ids_map Se.pl
theorem Se.rm{l:List Se}:(l.map Se.v).map (renX r (n+2))=l.map Se.v:=ren_map Se.pl
theorem Se.sm{l:List Se}:mapO (snap hp (n+2)) (l.map Se.v)=some (l.map Se.v):=mapO_map Se.nr1
theorem Se.wm{l:List Se}:(l.map Se.v).flatMap (rows hp (n+2))=[]:=rows_map Se.nr1
theorem Se.st{l:List Se}{i:Nat}{x:Se}:(l.map Se.v).set i x.v =(l.set i x).map Se.v:=by rw [List.map_set]
theorem Se.sn{l:List Se}{x:Se}:l.map Se.v ++ [x.v] =(l ++ [x]).map Se.v:=by simp
theorem Ou.im{l:List Ou}:(l.map Ou.v).flatMap (idsOf hp (n+2))=[]:=ids_map Ou.pl
theorem Ou.rm{l:List Ou}:(l.map Ou.v).map (renX r (n+2))=l.map Ou.v:=ren_map Ou.pl
theorem Ou.sm{l:List Ou}:mapO (snap hp (n+2)) (l.map Ou.v)=some (l.map Ou.v):=mapO_map Ou.nr1
theorem Ou.wm{l:List Ou}:(l.map Ou.v).flatMap (rows hp (n+2))=[]:=rows_map Ou.nr1
theorem Ou.st{l:List Ou}{i:Nat}{x:Ou}:(l.map Ou.v).set i x.v =(l.set i x).map Ou.v:=by rw [List.map_set]
theorem Ou.sn{l:List Ou}{x:Ou}:l.map Ou.v ++ [x.v] =(l ++ [x]).map Ou.v:=by simp
theorem Re.im{l:List Re}:(l.map Re.v).flatMap (idsOf hp (n+2))=[]:=ids_map Re.pl
theorem Re.rm{l:List Re}:(l.map Re.v).map (renX r (n+2))=l.map Re.v:=ren_map Re.pl
theorem Re.sm{l:List Re}:mapO (snap hp (n+2)) (l.map Re.v)=some (l.map Re.v):=mapO_map Re.nr1
theorem Re.wm{l:List Re}:(l.map Re.v).flatMap (rows hp (n+2))=[]:=rows_map Re.nr1
theorem Re.st{l:List Re}{i:Nat}{x:Re}:(l.map Re.v).set i x.v =(l.set i x).map Re.v:=by rw [List.map_set]
theorem Re.sn{l:List Re}{x:Re}:l.map Re.v ++ [x.v] =(l ++ [x]).map Re.v:=by simp
theorem Ve.im{l:List Ve}:(l.map Ve.v).flatMap (idsOf hp (n+2))=[]:=ids_map Ve.pl
theorem Ve.rm{l:List Ve}:(l.map Ve.v).map (renX r (n+2))=l.map Ve.v:=ren_map Ve.pl
theorem Ve.sm{l:List Ve}:mapO (snap hp (n+2)) (l.map Ve.v)=some (l.map Ve.v):=mapO_map Ve.nr1
theorem Ve.wm{l:List Ve}:(l.map Ve.v).flatMap (rows hp (n+2))=[]:=rows_map Ve.nr1
theorem Ve.st{l:List Ve}{i:Nat}{x:Ve}:(l.map Ve.v).set i x.v =(l.set i x).map Ve.v:=by rw [List.map_set]
theorem Ve.sn{l:List Ve}{x:Ve}:l.map Ve.v ++ [x.v] =(l ++ [x]).map Ve.v:=by simp
theorem Ln.im{l:List Ln}:(l.map Ln.v).flatMap (idsOf hp (n+2))=[]:=ids_map Ln.pl
theorem Ln.rm{l:List Ln}:(l.map Ln.v).map (renX r (n+2))=l.map Ln.v:=ren_map Ln.pl
theorem Ln.sm{l:List Ln}:mapO (snap hp (n+2)) (l.map Ln.v)=some (l.map Ln.v):=mapO_map Ln.nr1
theorem Ln.wm{l:List Ln}:(l.map Ln.v).flatMap (rows hp (n+2))=[]:=rows_map Ln.nr1
theorem Ln.st{l:List Ln}{i:Nat}{x:Ln}:(l.map Ln.v).set i x.v =(l.set i x).map Ln.v:=by rw [List.map_set]
theorem Ln.sn{l:List Ln}{x:Ln}:l.map Ln.v ++ [x.v] =(l ++ [x]).map Ln.v:=by simp
theorem Sp.im{l:List Sp}:(l.map Sp.v).flatMap (idsOf hp (n+2))=[]:=ids_map Sp.pl
theorem Sp.rm{l:List Sp}:(l.map Sp.v).map (renX r (n+2))=l.map Sp.v:=ren_map Sp.pl
theorem Sp.sm{l:List Sp}:mapO (snap hp (n+2)) (l.map Sp.v)=some (l.map Sp.v):=mapO_map Sp.nr1
theorem Sp.wm{l:List Sp}:(l.map Sp.v).flatMap (rows hp (n+2))=[]:=rows_map Sp.nr1
theorem Sp.st{l:List Sp}{i:Nat}{x:Sp}:(l.map Sp.v).set i x.v =(l.set i x).map Sp.v:=by rw [List.map_set]
theorem Sp.sn{l:List Sp}{x:Sp}:l.map Sp.v ++ [x.v] =(l ++ [x]).map Sp.v:=by simp
theorem nth_set{α:Type}[Inhabited α]{l:List α}{k:Nat}{x:α}(h:k < l.length):nth (l.set k x) k=x:=by
 have h2:=nth_get (l:=l.set k x) (k:=k) (by rw [List.length_set]; exact h)
 rw [List.getElem?_set_self h] at h2
 exact(Option.some.inj h2).symm
end
def mp0:=And.intro @Dv.im <| And.intro @Dv.rm <| And.intro @Dv.sm <| And.intro @Dv.wm <| And.intro @Dv.st <| And.intro @Dv.sn <| And.intro @Pt.im <| And.intro @Pt.rm <| And.intro @Pt.sm <| And.intro @Pt.wm <| And.intro @Pt.st <| And.intro @Pt.sn <| And.intro @Lk.im <| And.intro @Lk.rm <| And.intro @Lk.sm <| And.intro @Lk.wm <| And.intro @Lk.sn <| And.intro @Dm.im <| And.intro @Dm.rm <| And.intro @Dm.sm <| And.intro @Dm.wm <| And.intro @Dm.st <| And.intro @Dm.sn <| And.intro @Fl.im <| And.intro @Fl.rm <| And.intro @Fl.sm <| And.intro @Fl.wm <| And.intro @Fl.st <| And.intro @Fl.sn <| And.intro @Sc.im <| And.intro @Sc.rm <| And.intro @Sc.sm <| And.intro @Sc.wm <| And.intro @Sc.sn <| And.intro @Vf.im <| And.intro @Vf.rm <| And.intro @Vf.sm <| @Vf.wm
def mp1:=And.intro @Vf.st <| And.intro @Vf.sn <| And.intro @Ib.im <| And.intro @Ib.rm <| And.intro @Ib.sm <| And.intro @Ib.wm <| And.intro @Ib.sn <| And.intro @Re.st <| And.intro @Re.sn <| And.intro @Ve.im <| @Ve.rm
def mp2:=And.intro @Ve.sm <| And.intro @Ve.wm <| @Ve.sn
def mp:=And.intro @nth_set <| And.intro @List.set_set.{0} <| And.intro @mp0 <| And.intro @mp1 <| @mp2
theorem Dv.off{l:List Dv}(h:l.length≤140737488355328):(.sl 5 (l.map Dv.v) false:AV) =(SL.of l h:SL Dv Dv.v 5).v:=SL.ofe
theorem Pt.off{l:List Pt}(h:l.length≤140737488355328):(.sl 7 (l.map Pt.v) false:AV) =(SL.of l h:SL Pt Pt.v 7).v:=SL.ofe
theorem Lk.off{l:List Lk}(h:l.length≤140737488355328):(.sl 3 (l.map Lk.v) false:AV) =(SL.of l h:SL Lk Lk.v 3).v:=SL.ofe
theorem Dm.off{l:List Dm}(h:l.length≤140737488355328):(.sl 6 (l.map Dm.v) false:AV) =(SL.of l h:SL Dm Dm.v 6).v:=SL.ofe
theorem Fl.off{l:List Fl}(h:l.length≤140737488355328):(.sl 4 (l.map Fl.v) false:AV) =(SL.of l h:SL Fl Fl.v 4).v:=SL.ofe
theorem Sc.off{l:List Sc}(h:l.length≤140737488355328):(.sl 4 (l.map Sc.v) false:AV) =(SL.of l h:SL Sc Sc.v 4).v:=SL.ofe
theorem Vf.off{l:List Vf}(h:l.length≤140737488355328):(.sl 5 (l.map Vf.v) false:AV) =(SL.of l h:SL Vf Vf.v 5).v:=SL.ofe
theorem Ib.off{l:List Ib}(h:l.length≤140737488355328):(.sl 5 (l.map Ib.v) false:AV) =(SL.of l h:SL Ib Ib.v 5).v:=SL.ofe
theorem Qd.off{l:List Qd}(h:l.length≤140737488355328):(.sl 7 (l.map Qd.v) false:AV) =(SL.of l h:SL Qd Qd.v 7).v:=SL.ofe
theorem En.off{l:List En}(h:l.length≤140737488355328):(.sl 3 (l.map En.v) false:AV) =(SL.of l h:SL En En.v 3).v:=SL.ofe
theorem Se.off{l:List Se}(h:l.length≤140737488355328):(.sl 3 (l.map Se.v) false:AV) =(SL.of l h:SL Se Se.v 3).v:=SL.ofe
theorem Ou.off{l:List Ou}(h:l.length≤140737488355328):(.sl 9 (l.map Ou.v) false:AV) =(SL.of l h:SL Ou Ou.v 9).v:=SL.ofe
theorem in_off{l:List Int}(h:l.length≤140737488355328):(.sl 1 (l.map (AV.int .i64)) false:AV) =(SL.of l h:IL).v:=SL.ofe
def mo:=And.intro @Dv.off <| And.intro @Pt.off <| And.intro @Lk.off <| And.intro @Dm.off <| And.intro @Fl.off <| And.intro @Sc.off <| And.intro @Vf.off <| And.intro @Ib.off <| @in_off
end Go.Pv
namespace Go.Proofs
open Go Go.Pv Go.Proofs.Tx
variable [Lq]
open W
def Kk:=And.intro @wk <| And.intro @wq <| And.intro @wz <| And.intro @zd <| And.intro @mk <| And.intro @bz <| And.intro @tt <| And.intro @wi <| @mp
theorem Dk{p:Prop}(h:p:=by first | assumption | omega | (simp only[wd,zl,wq,wz,zd,mk,bz,tt,wi,mp]; done) | (simp only[List.length_append,List.length_set,List.length_cons,List.length_nil,List.length_map,List.length_take,List.length_drop,List.length_replicate]; omega) | fail):p:=h
theorem Ak{P:Program}{f:FuncId}{args:List AV}{hp:Hp}{E:AV→Hp→Prop}{Q:AV→Prop}{dr fm:Bool}{no:List TypeId}(h:∃ r,Run P f args r∧Q r)(hk:∀ r,Q r→vLay r hp E)(hn:args.all AV.nr1=true:=by first | (simp only[wd,wq,wz,zd,mk,bz,tt,wi,mp]; done) | fail):wCall P f args hp dr fm no E:=call_nr h hn hk
theorem Fk{hp:Hp}{x:AV}{Q:AV→Prop}(h:Q x)(hn:nrR x=true:=by first | (simp only[wd,wq,wz,zd,mk,bz,tt,wi,mp]; done) | fail):fin (some x) Q hp:=fin_nr hn h
end Go.Proofs
set_option maxHeartbeats 4000000
set_option maxRecDepth 100000
namespace Go.Proofs
open Go Go.Pv Go.Proofs.Tx
variable [Lq]
open W
open Classical
def cpI(u:IL):IL:=SL.of u.l u.n
def cpPt(p:Pt):Pt:={ p with tagged:=cpI p.tagged }
def cpDm(d:Dm):Dm:={ d with peers:=cpI d.peers }
def cpFl(f:Fl):Fl:={ f with addrs:=SL.of f.addrs.l f.addrs.n }
def cpVf(v:Vf):Vf:={ v with imports:=cpI v.imports,exports:=cpI v.exports }
def cpA(D:List Dv)(P:List Pt)(L:List Lk)(M:List Dm)(S:List Sc)(F:List Fl)(V:List Vf)(I:List Ib):AV :=
 .agg [.own 5 133 (D.map Dv.v),.own 7 136 (P.map Pt.v),.own 3 129 (L.map Lk.v),.own 6 140 (M.map Dm.v),.own 4 143 (S.map Sc.v),.own 4 146 (F.map Fl.v),.own 5 149 (V.map Vf.v),.own 5 154 (I.map Ib.v)]
def cpU{α:Type}(f:α→α)(l:List α)(k:Nat):List α:=(l.take k).map f ++ l.drop k
theorem cpU_0{α:Type}{f:α→α}{l:List α}:cpU f l 0=l:=by simp [cpU]
theorem cpU_all{α:Type}{f:α→α}{l:List α}{k:Nat}(h:l.length≤k):cpU f l k=l.map f:=by
 unfold cpU; rw [List.take_of_length_le h,List.drop_of_length_le h,List.append_nil]
theorem cpU_len{α:Type}{f:α→α}{l:List α}{k:Nat}:(cpU f l k).length=l.length:=by simp [cpU]; omega
theorem cpU_nth{α:Type}[Inhabited α]{f:α→α}{l:List α}{k:Nat}(h:k < l.length):nth (cpU f l k) k=nth l k:=by
 have h1:(cpU f l k)[k]?=l[k]?:=by
  unfold cpU
  rw [List.getElem?_append_right (by simp; omega)]
  simp [show min k l.length=k by omega]
 have h2:=nth_get (l:=cpU f l k) (k:=k) (by rw [cpU_len]; exact h)
 have h3:=nth_get h
 rw [h1,h3] at h2
 exact(Option.some.inj h2).symm
theorem cpU_s{α:Type}[Inhabited α]{f:α→α}{l:List α}{k:Nat}(h:k < l.length):cpU f l (k+1) =(cpU f l k).set k (f (nth l k)):=by
 have h3:=nth_get h
 rw [List.getElem?_eq_getElem h] at h3
 have e:=Option.some.inj h3
 unfold cpU
 rw [List.take_succ_eq_append_getElem h,List.map_append,List.map_cons,List.map_nil,e,List.set_append_right _ _ (by simp; omega)]
 have e2:List.drop k l=l[k] :: List.drop (k+1) l:=List.drop_eq_getElem_cons h
 have e3:(List.drop k l).set 0 (f (nth l k))=f (nth l k) :: List.drop (k+1) l:=by rw [e2]; rfl
 simp [show min k l.length=k by omega,e3]
def cpH(N:Nt)(P:List Pt)(M:List Dm)(F:List Fl)(V:List Vf):Hp :=
 [some ⟨40,[(default:Nt).v],true⟩,some ⟨40,[.agg [.vec 2 5 0 N.devs.l.length,.vec 3 7 0 N.ports.l.length,.vec 4 3 0 N.links.l.length,.vec 5 6 0 N.doms.l.length,.vec 6 4 0 N.stats.l.length,.vec 7 4 0 N.floods.l.length,.vec 8 5 0 N.vrfs.l.length,.vec 9 5 0 N.irbs.l.length]],true⟩,
  some ⟨133,N.devs.l.map Dv.v,true⟩,some ⟨136,P.map Pt.v,true⟩,some ⟨129,N.links.l.map Lk.v,true⟩,some ⟨140,M.map Dm.v,true⟩,some ⟨143,N.stats.l.map Sc.v,true⟩,some ⟨146,F.map Fl.v,true⟩,some ⟨149,V.map Vf.v,true⟩,some ⟨154,N.irbs.l.map Ib.v,true⟩]
theorem s20(N:Nt)(hg:Good N):∃ r,Run Tryz.prog 20 [N.v] r∧r=cpA N.devs.l (N.ports.l.map cpPt) N.links.l (N.doms.l.map cpDm) N.stats.l (N.floods.l.map cpFl) (N.vrfs.l.map cpVf) N.irbs.l:=by
 obtain ⟨f1,f2,f3,f4,f5,f6,f7,f8⟩:=hg.few
 refine run_w (c:=c20 true) [.c 2 8 true] 1 (by kernel_rfl) (by kernel_rfl) (Nat.le_refl 1) (by simp only[wd]) ?_
 unfold c20
 repeat' (first
 |simp (disch:=try exact Dk) only[Kk,seval,reduceCtorEq]
 |with_reducible refine e8 ?_
 |(refine Ak (o41 _ (by omega)) ?_;rintro _ rfl;all_goals simp only[vl,ts,wb])
 |(refine Ak (o42 _ (by omega)) ?_;rintro _ rfl;all_goals simp only[vl,ts,wb])
 |(refine Ak (o43 _ (by omega)) ?_;rintro _ rfl;all_goals simp only[vl,ts,wb])
 |(refine Ak (o44 _ (by omega)) ?_;rintro _ rfl;all_goals simp only[vl,ts,wb])
 |(refine Ak (o45 _ (by omega)) ?_;rintro _ rfl;all_goals simp only[vl,ts,wb])
 |(refine Ak (o46 _ (by omega)) ?_;rintro _ rfl;all_goals simp only[vl,ts,wb])
 |(refine Ak (o47 _ (by omega)) ?_;rintro _ rfl;all_goals simp only[vl,ts,wb])
 |(refine Ak (o48 _ (by omega)) ?_;rintro _ rfl;all_goals simp only[vl,ts,wb])
 |(refine fin_o [] ?_;simp (disch:=try exact Dk) only[Kk,wh,seval,reduceCtorEq];refine⟨_,rfl,?_,?_⟩;(first|rfl|simp (disch:=try exact Dk) only[Kk,wh,seval,reduceCtorEq]);first|exact⟨_,rfl⟩|fail)
 |fail)
 refine d_lo (fun k:Nat=>⟨[(2,.eptr 0 0 0),(3,.eptr 1 0 0),(36,.int .i64 N.ports.l.length),(37,.int .i64 k)],cpH N (cpU cpPt N.ports.l k) N.doms.l N.floods.l N.vrfs.l⟩) (fun k=>k≤N.ports.l.length) (fun k=>N.ports.l.length - k) ?_ ?_
 ·simp (disch:=try exact Dk) only[Kk,seval,reduceCtorEq]
  exact⟨0,by simp only[cpU_0,cpU_all (Nat.le_refl _)]; rfl,Nat.zero_le _⟩
 intro k hk
 simp only at hk ⊢
 unfold c20b0 cpH
 have hL:(cpU cpPt N.ports.l k).length=N.ports.l.length:=cpU_len
 by_cases hlt:k < N.ports.l.length
 ·have hn:=cpU_nth (f:=cpPt) hlt
  have ht:=rsg_len (hg.ports k hlt).2.2.2.1
  generalize hU:cpU cpPt N.ports.l k=U at hL hn
  repeat' (first
 |simp (disch:=try exact Dk) only[Kk,hn,hL,seval,reduceCtorEq]
 |with_reducible refine e8 ?_
 |(refine Ak (r49 _ (by omega)) ?_;rintro _ rfl;all_goals simp only[vl,ts,wb])
 |(refine fin_o [] ?_;simp (disch:=try exact Dk) only[Kk,hn,hL,wh,seval,reduceCtorEq];refine⟨_,rfl,?_,?_⟩;(first|rfl|simp (disch:=try exact Dk) only[Kk,hn,hL,wh,seval,reduceCtorEq]);first|exact⟨_,rfl⟩|fail)
 |fail)
  exact⟨k+1,by simp only[cpU_s hlt,hU]; rfl,by omega,by omega⟩
 obtain rfl:k=N.ports.l.length:=by omega
 clear hlt hk hL
 simp (disch:=try exact Dk) only[Kk,seval,reduceCtorEq]
 refine d_lo (fun k:Nat=>⟨[(2,.eptr 0 0 0),(3,.eptr 1 0 0),(55,.int .i64 N.doms.l.length),(56,.int .i64 k)],cpH N (N.ports.l.map cpPt) (cpU cpDm N.doms.l k) N.floods.l N.vrfs.l⟩) (fun k=>k≤N.doms.l.length) (fun k=>N.doms.l.length - k) ?_ ?_
 ·simp (disch:=try exact Dk) only[Kk,seval,reduceCtorEq]
  exact⟨0,by simp only[cpU_0,cpU_all (Nat.le_refl _)]; rfl,Nat.zero_le _⟩
 intro k hk
 simp only at hk ⊢
 unfold c20b1 cpH
 have hL:(cpU cpDm N.doms.l k).length=N.doms.l.length:=cpU_len
 by_cases hlt:k < N.doms.l.length
 ·have hn:=cpU_nth (f:=cpDm) hlt
  have ht:=peers_len hg (k:=k) ⟨by omega,by omega⟩
  simp only[Int.toNat_natCast] at ht
  generalize hU:cpU cpDm N.doms.l k=U at hL hn
  repeat' (first
 |simp (disch:=try exact Dk) only[Kk,hn,hL,seval,reduceCtorEq]
 |with_reducible refine e8 ?_
 |(refine Ak (r49 _ (by omega)) ?_;rintro _ rfl;all_goals simp only[vl,ts,wb])
 |(refine fin_o [] ?_;simp (disch:=try exact Dk) only[Kk,hn,hL,wh,seval,reduceCtorEq];refine⟨_,rfl,?_,?_⟩;(first|rfl|simp (disch:=try exact Dk) only[Kk,hn,hL,wh,seval,reduceCtorEq]);first|exact⟨_,rfl⟩|fail)
 |fail)
  exact⟨k+1,by simp only[cpU_s hlt,hU]; rfl,by omega,by omega⟩
 obtain rfl:k=N.doms.l.length:=by omega
 clear hlt hk hL
 simp (disch:=try exact Dk) only[Kk,seval,reduceCtorEq]
 refine d_lo (fun k:Nat=>⟨[(2,.eptr 0 0 0),(3,.eptr 1 0 0),(74,.int .i64 N.floods.l.length),(75,.int .i64 k)],cpH N (N.ports.l.map cpPt) (N.doms.l.map cpDm) (cpU cpFl N.floods.l k) N.vrfs.l⟩) (fun k=>k≤N.floods.l.length) (fun k=>N.floods.l.length - k) ?_ ?_
 ·simp (disch:=try exact Dk) only[Kk,seval,reduceCtorEq]
  exact⟨0,by simp only[cpU_0,cpU_all (Nat.le_refl _)]; rfl,Nat.zero_le _⟩
 intro k hk
 simp only at hk ⊢
 unfold c20b2 cpH
 have hL:(cpU cpFl N.floods.l k).length=N.floods.l.length:=cpU_len
 by_cases hlt:k < N.floods.l.length
 ·have hn:=cpU_nth (f:=cpFl) hlt
  have ht:=(hg.floods k hlt).2
  generalize hU:cpU cpFl N.floods.l k=U at hL hn
  repeat' (first
 |simp (disch:=try exact Dk) only[Kk,hn,hL,seval,reduceCtorEq]
 |with_reducible refine e8 ?_
 |(refine Ak (r50 _ (by omega)) ?_;rintro _ rfl;all_goals simp only[vl,ts,wb])
 |(refine fin_o [] ?_;simp (disch:=try exact Dk) only[Kk,hn,hL,wh,seval,reduceCtorEq];refine⟨_,rfl,?_,?_⟩;(first|rfl|simp (disch:=try exact Dk) only[Kk,hn,hL,wh,seval,reduceCtorEq]);first|exact⟨_,rfl⟩|fail)
 |fail)
  exact⟨k+1,by simp only[cpU_s hlt,hU]; rfl,by omega,by omega⟩
 obtain rfl:k=N.floods.l.length:=by omega
 clear hlt hk hL
 simp (disch:=try exact Dk) only[Kk,seval,reduceCtorEq]
 refine d_lo (fun k:Nat=>⟨[(2,.eptr 0 0 0),(3,.eptr 1 0 0),(93,.int .i64 N.vrfs.l.length),(94,.int .i64 k)],cpH N (N.ports.l.map cpPt) (N.doms.l.map cpDm) (N.floods.l.map cpFl) (cpU cpVf N.vrfs.l k)⟩) (fun k=>k≤N.vrfs.l.length) (fun k=>N.vrfs.l.length - k) ?_ ?_
 ·simp (disch:=try exact Dk) only[Kk,seval,reduceCtorEq]
  exact⟨0,by simp only[cpU_0,cpU_all (Nat.le_refl _)]; rfl,Nat.zero_le _⟩
 intro k hk
 simp only at hk ⊢
 unfold c20b3 cpH
 have hL:(cpU cpVf N.vrfs.l k).length=N.vrfs.l.length:=cpU_len
 by_cases hlt:k < N.vrfs.l.length
 ·have hn:=cpU_nth (f:=cpVf) hlt
  have ht:=rsg_len (hg.vrfs k hlt).2.1
  have ht2:=rsg_len (hg.vrfs k hlt).2.2
  generalize hU:cpU cpVf N.vrfs.l k=U at hL hn
  repeat' (first
 |simp (disch:=try exact Dk) only[Kk,hn,hL,seval,reduceCtorEq]
 |with_reducible refine e8 ?_
 |(refine Ak (r49 _ (by omega)) ?_;rintro _ rfl;all_goals simp only[vl,ts,wb])
 |(refine fin_o [] ?_;simp (disch:=try exact Dk) only[Kk,hn,hL,wh,seval,reduceCtorEq];refine⟨_,rfl,?_,?_⟩;(first|rfl|simp (disch:=try exact Dk) only[Kk,hn,hL,wh,seval,reduceCtorEq]);first|exact⟨_,rfl⟩|fail)
 |fail)
  exact⟨k+1,by simp only[cpU_s hlt,hU]; rfl,by omega,by omega⟩
 obtain rfl:k=N.vrfs.l.length:=by omega
 clear hlt hk hL
 simp (disch:=try exact Dk) only[Kk,seval,reduceCtorEq]
 have eP:(N.ports.l.map cpPt).length=N.ports.l.length:=List.length_map ..
 have eM:(N.doms.l.map cpDm).length=N.doms.l.length:=List.length_map ..
 have eF:(N.floods.l.map cpFl).length=N.floods.l.length:=List.length_map ..
 have eV:(N.vrfs.l.map cpVf).length=N.vrfs.l.length:=List.length_map ..
 rw [cpU_all (Nat.le_refl _)]
 repeat' (first
 |simp (disch:=try exact Dk) only[Kk,take_map_all,eP,eM,eF,eV,Nat.le_refl,hand_agg,handA_2,seval,reduceCtorEq]
 |with_reducible refine e8 ?_
 |(refine fin_o [[.own 5 133,.own 7 136,.own 3 129,.own 6 140,.own 4 143,.own 4 146,.own 5 149,.own 5 154]] ?_;simp (disch:=try exact Dk) only[Kk,take_map_all,eP,eM,eF,eV,Nat.le_refl,hand_agg,handA_2,wo,seval,reduceCtorEq];refine⟨_,rfl,?_,?_⟩;(first|rfl|simp (disch:=try exact Dk) only[Kk,take_map_all,eP,eM,eF,eV,Nat.le_refl,hand_agg,handA_2,wo,seval,reduceCtorEq]);first|rfl|exact⟨_,rfl⟩|fail)
 |fail)
 trace_state
end Go.Proofs
set_option maxHeartbeats 4000000
set_option maxRecDepth 100000
namespace Go.Proofs
open Go Go.Pv Go.Proofs.Tx
variable [Lq]
open W
open Classical
theorem s345(a b c:Int):∃ r,Run Tryz.prog 345 [.int .i64 a,.int .i64 b,.int .i64 c] r∧r=.bool (decide (b≤a∧a≤c)):=by
 refine run_w (c:=c345 true) [.t 6] 3 (by kernel_rfl) (by kernel_rfl) (Nat.le_refl 3) (by simp only[wd]) ?_
 unfold c345
 repeat' (first
 |simp (disch:=try exact Dg) only[Kg,seval,reduceCtorEq]
 |(with_reducible apply gC_d1)<;>intro _
 |with_reducible refine e8 ?_
 |(refine Fg ?_;first|exact e9|fail)
 |fail)
theorem s346(u:IL)(b:Int):∃ r,Run Tryz.prog 346 [u.v,.int .i64 b] r∧r=.bool (decide (Rsg u.l b)):=by
 refine run_w (c:=c346 true) [.t 4] 2 (by kernel_rfl) (by kernel_rfl) (Nat.le_refl 2) (by simp only[wd]) ?_
 unfold c346
 unfold Rsg
 repeat' (first
 |simp (disch:=try exact Dg) only[Kg,seval,reduceCtorEq]
 |(with_reducible apply gC_d0)<;>intro _
 |with_reducible refine e8 ?_
 |(refine Ag (s248 _ _ _) ?_;rintro _ rfl;all_goals simp only[vl,ts,wb])
 |(refine Fg ?_;first|exact e9|fail)
 |fail)
theorem s347(u:UL):∃ r,Run Tryz.prog 347 [u.v] r∧∃ b,r=.bool b ∧(b=true→u.l.length≤16):=by
 have hu:=u.n
 refine run_w (c:=c347 true) [.t 2] 1 (by kernel_rfl) (by kernel_rfl) (Nat.le_refl 1) (by simp only[wd]) ?_
 unfold c347
 simp (disch:=try exact Dg) only[Kg,seval,reduceCtorEq]
 refine d_lo (fun k:Nat=>⟨[(0,u.v),(5,u.v),(6,.int .i64 u.l.length),(7,.int .i64 k)],[]⟩) (fun k=>k≤u.l.length) (fun k=>u.l.length - k) ?_ ?_
 ·simp (disch:=try exact Dg) only[Kg,seval,reduceCtorEq]
  exact⟨0,rfl,by omega⟩
 rintro k hk
 unfold c347b0
 repeat' (first
 |simp (disch:=try exact Dg) only[Kg,seval,reduceCtorEq]
 |(with_reducible first|apply condC_d|apply gC_d0|apply gC_d1)<;>intro _
 |with_reducible refine e8 ?_
 |(refine⟨k+1,rfl,?_,?_⟩ <;> omega)
 |(refine Fg ?_;first|(refine⟨_,rfl,fun h=>absurd h Bool.false_ne_true⟩)|(refine⟨_,rfl,fun h=>?_⟩; have:=of_decide_eq_true h; omega)|exact e9|fail)
 |fail)
theorem s292(m:Int):∃ r,Run Tryz.prog 292 [.int .u64 m] r∧∃ a b,r=.tup [.int .u32 a,.bool b]:=by
 refine run_w (c:=c292 true) [.t 2,.t 3] 1 (by kernel_rfl) (by kernel_rfl) (Nat.le_refl 1) (by simp only[wd]) ?_
 unfold c292
 repeat' (first
 |simp (disch:=try exact Dg) only[Kg,seval,reduceCtorEq]
 |(with_reducible apply condC_d)<;>intro _
 |with_reducible refine e8 ?_
 |(refine Fg ?_;first|exact⟨_,_,rfl⟩|exact e9|fail)
 |fail)
theorem s204(m:Int):∃ r,Run Tryz.prog 204 [.int .u64 m] r∧∃ b,r=.bool b:=by
 refine run_w (c:=c204 true) [.t 2] 1 (by kernel_rfl) (by kernel_rfl) (Nat.le_refl 1) (by simp only[wd]) ?_
 unfold c204
 repeat' (first
 |simp (disch:=try exact Dg) only[Kg,seval,reduceCtorEq]
 |(with_reducible apply gC_d1)<;>intro _
 |with_reducible refine e8 ?_
 |(refine Ag (s292 _) ?_;rintro _ ⟨a,_ | _,rfl⟩;all_goals simp only[vl,ts,wb])
 |(refine Ag (s83 _) ?_;rintro _ ⟨_ | _,rfl⟩;all_goals simp only[vl,ts,wb])
 |(refine Fg ?_;first|exact e9|fail)
 |fail)
theorem s205(l:Ln):∃ r,Run Tryz.prog 205 [l.v] r∧∃ b,r=.bool b:=by
 refine run_w (c:=c205 true) [.t 2] 1 (by kernel_rfl) (by kernel_rfl) (Nat.le_refl 1) (by simp only[wd]) ?_
 unfold c205
 repeat' (first
 |simp (disch:=try exact Dg) only[Kg,seval,reduceCtorEq]
 |(with_reducible first|apply gC_d0|apply gC_d1)<;>intro _
 |with_reducible refine e8 ?_
 |(refine Ag (s40 _ _) ?_;rintro _ rfl;all_goals simp only[vl,ts,wb])
 |(refine Fg ?_;first|exact e9|fail)
 |fail)
theorem s201(s:List UInt8)(hs:s.length≤140737488355328):∃ r,Run Tryz.prog 201 [.str s] r∧∃ b,r=.bool b:=by
 refine run_w (c:=c201 true) [.t 2] 1 (by kernel_rfl) (by kernel_rfl) (Nat.le_refl 1) (by simp only[wd]) ?_
 unfold c201
 simp (disch:=try exact Dg) only[Kg,seval,reduceCtorEq]
 refine d_lo (fun k:Nat=>⟨[(0,.str s),(7,.int .i64 s.length),(8,.int .i64 k)],[]⟩) (fun k=>k≤s.length) (fun k=>s.length - k) ?_ ?_
 ·simp (disch:=try exact Dg) only[Kg,seval,reduceCtorEq]
  exact⟨0,rfl,by omega⟩
 rintro k hk
 unfold c201b0
 repeat' (first
 |simp (disch:=try exact Dg) only[Kg,seval,reduceCtorEq]
 |(with_reducible first|apply condC_d|apply gC_d0|apply gC_d1)<;>intro _
 |with_reducible refine e8 ?_
 |(refine⟨k+1,rfl,?_,?_⟩ <;> omega)
 |(refine Fg ?_;first|exact e9|fail)
 |fail)
end Go.Proofs
set_option maxHeartbeats 4000000
set_option maxRecDepth 100000
namespace Go.Proofs
open Go Go.Pv Go.Proofs.Tx
variable [Lq]
open W
open Classical
theorem s296'(p:Px):∃ r,Run Tryz.prog 296 [p.v] r∧r=.bool (decide (0≤p.bits∧p.bits≤32)):=by
 refine run_w (c:=c296 true) [.t 2] 1 (by kernel_rfl) (by kernel_rfl) (Nat.le_refl 1) (by simp only[wd]) ?_
 unfold c296
 repeat' (first
 |simp (disch:=try exact Dg) only[Kg,seval,reduceCtorEq]
 |(with_reducible apply gC_d1)<;>intro _
 |with_reducible refine e8 ?_
 |(refine Fg ?_;first|exact e9|fail)
 |fail)
theorem s297'(p:Px)(h:0≤p.bits∧p.bits≤32):∃ r,Run Tryz.prog 297 [p.v] r∧∃ a,r=.int .u32 a:=by
 refine run_w (c:=c297 true) [.t 2] 1 (by kernel_rfl) (by kernel_rfl) (Nat.le_refl 1) (by simp only[wd]) ?_
 unfold c297
 repeat' (first
 |simp (disch:=try exact Dg) only[Kg,seval,reduceCtorEq]
 |with_reducible refine e8 ?_
 |(refine Fg ?_;first|exact e9|fail)
 |fail)
theorem s210(p:Px):∃ r,Run Tryz.prog 210 [p.v] r∧∃ a,r=.int .u32 a:=by
 refine run_w (c:=c210 true) [.t 2] 1 (by kernel_rfl) (by kernel_rfl) (Nat.le_refl 1) (by simp only[wd]) ?_
 unfold c210
 repeat' (first
 |simp (disch:=try exact Dg) only[Kg,seval,reduceCtorEq]
 |(with_reducible apply condC_d)<;>intro _
 |with_reducible refine e8 ?_
 |(refine Ag (s296' _) ?_;rintro _ rfl;all_goals simp only[vl,ts,wb])
 |(refine Ag (s297' _ (Decidable.of_not_not (by assumption))) ?_;rintro _ ⟨x,rfl⟩;all_goals simp only[vl,ts,wb])
 |(refine Fg ?_;first|exact e9|fail)
 |fail)
theorem s211(p:Px):∃ r,Run Tryz.prog 211 [p.v] r∧∃ a,r=.int .u32 a:=by
 refine run_w (c:=c211 true) [.t 2] 1 (by kernel_rfl) (by kernel_rfl) (Nat.le_refl 1) (by simp only[wd]) ?_
 unfold c211
 repeat' (first
 |simp (disch:=try exact Dg) only[Kg,seval,reduceCtorEq]
 |(with_reducible apply condC_d)<;>intro _
 |with_reducible refine e8 ?_
 |(refine Ag (s296' _) ?_;rintro _ rfl;all_goals simp only[vl,ts,wb])
 |(refine Ag (s297' _ (Decidable.of_not_not (by assumption))) ?_;rintro _ ⟨x,rfl⟩;all_goals simp only[vl,ts,wb])
 |(refine Fg ?_;first|exact e9|fail)
 |fail)
theorem s121(p:Px):∃ r,Run Tryz.prog 121 [p.v] r∧∃ b,r=.bool b:=by
 refine run_w (c:=c121 true) [.t 2] 1 (by kernel_rfl) (by kernel_rfl) (Nat.le_refl 1) (by simp only[wd]) ?_
 unfold c121
 repeat' (first
 |simp (disch:=try exact Dg) only[Kg,seval,reduceCtorEq]
 |(with_reducible apply gC_d1)<;>intro _
 |with_reducible refine e8 ?_
 |(refine Ag (s210 _) ?_;rintro _ ⟨x,rfl⟩;all_goals simp only[vl,ts,wb])
 |(refine Ag (s211 _) ?_;rintro _ ⟨y,rfl⟩;all_goals simp only[vl,ts,wb])
 |(refine Fg ?_;first|exact e9|fail)
 |fail)
theorem s348(u w:IL):∃ r,Run Tryz.prog 348 [u.v,w.v] r∧∃ b,r=.bool b:=by
 have hu:=u.n
 have hw:=w.n
 refine run_w (c:=c348 true) [.t 4] 2 (by kernel_rfl) (by kernel_rfl) (Nat.le_refl 2) (by simp only[wd]) ?_
 unfold c348
 simp (disch:=try exact Dg) only[Kg,seval,reduceCtorEq]
 refine condC_d (fun hne=>?_) (fun he=>?_)
 ·repeat' (first
 |simp (disch:=try exact Dg) only[Kg,seval,reduceCtorEq]
 |(with_reducible apply condC_d)<;>intro _
 |with_reducible refine e8 ?_
 |(refine Fg ?_;first|exact e9|fail)
 |fail)
 ·simp (disch:=try exact Dg) only[Kg,seval,reduceCtorEq]
  refine d_lo (fun k:Nat=>⟨[(0,u.v),(1,w.v),(12,.int .i64 u.l.length),(13,.int .i64 k)],[]⟩) (fun k=>k≤u.l.length) (fun k=>u.l.length - k) ?_ ?_
  ·simp (disch:=try exact Dg) only[Kg,seval,reduceCtorEq]
   exact⟨0,rfl,by omega⟩
  rintro k hk
  unfold c348b0
  repeat' (first
 |simp (disch:=try exact Dg) only[Kg,seval,reduceCtorEq]
 |(with_reducible apply condC_d)<;>intro _
 |with_reducible refine e8 ?_
 |(refine⟨k+1,rfl,?_,?_⟩ <;> omega)
 |(refine Fg ?_;first|exact e9|fail)
 |fail)
theorem s349(u w:UL):∃ r,Run Tryz.prog 349 [u.v,w.v] r∧∃ b,r=.bool b:=by
 have hu:=u.n
 have hw:=w.n
 refine run_w (c:=c349 true) [.t 4] 2 (by kernel_rfl) (by kernel_rfl) (Nat.le_refl 2) (by simp only[wd]) ?_
 unfold c349
 simp (disch:=try exact Dg) only[Kg,seval,reduceCtorEq]
 refine condC_d (fun hne=>?_) (fun he=>?_)
 ·repeat' (first
 |simp (disch:=try exact Dg) only[Kg,seval,reduceCtorEq]
 |(with_reducible apply condC_d)<;>intro _
 |with_reducible refine e8 ?_
 |(refine Fg ?_;first|exact e9|fail)
 |fail)
 ·simp (disch:=try exact Dg) only[Kg,seval,reduceCtorEq]
  refine d_lo (fun k:Nat=>⟨[(0,u.v),(1,w.v),(12,.int .i64 u.l.length),(13,.int .i64 k)],[]⟩) (fun k=>k≤u.l.length) (fun k=>u.l.length - k) ?_ ?_
  ·simp (disch:=try exact Dg) only[Kg,seval,reduceCtorEq]
   exact⟨0,rfl,by omega⟩
  rintro k hk
  unfold c349b0
  repeat' (first
 |simp (disch:=try exact Dg) only[Kg,seval,reduceCtorEq]
 |(with_reducible apply condC_d)<;>intro _
 |with_reducible refine e8 ?_
 |(refine⟨k+1,rfl,?_,?_⟩ <;> omega)
 |(refine Fg ?_;first|exact e9|fail)
 |fail)
theorem s313(a b:Ln):∃ r,Run Tryz.prog 313 [a.v,b.v] r∧∃ c,r=.bool c:=by
 refine run_w (c:=c313 true) [.t 4] 2 (by kernel_rfl) (by kernel_rfl) (Nat.le_refl 2) (by simp only[wd]) ?_
 unfold c313
 repeat' (first
 |simp (disch:=try exact Dg) only[Kg,seval,reduceCtorEq]
 |(with_reducible apply gC_d1)<;>intro _
 |with_reducible refine e8 ?_
 |(refine Ag (s348 _ _) ?_;rintro _ ⟨_ | _,rfl⟩;all_goals simp only[vl,ts,wb])
 |(refine Ag (s349 _ _) ?_;rintro _ ⟨_ | _,rfl⟩;all_goals simp only[vl,ts,wb])
 |(refine Fg ?_;first|exact e9|fail)
 |fail)
def LnS(l:Ln):Prop:=l.dev.length≤1000∧l.port.length≤1000∧l.peer.length≤1000∧l.far.length≤1000∧l.name.length≤1000
structure LnOk(l:Ln):Prop where
 cost:l.kind=2→1≤l.cost∧l.cost≤65535
 tagged:l.kind=2→l.tagged.l.length≤16
 addrs:l.kind=7→l.addrs.l.length≤16
 imports:l.kind=8→l.imports.l.length≤16∧l.exports.l.length≤16
end Go.Proofs
set_option maxHeartbeats 4000000
set_option maxRecDepth 100000
namespace Go.Proofs
open Go Go.Pv Go.Proofs.Tx
variable [Lq]
open W
open Classical
theorem Ln.mk0{a b:Int}{c:List UInt8}:(.agg [.int .i64 a,.int .i64 b,.str c,.str [],.str [],.str [],.str [],.int .u64 0,.int .u32 0,.int .i64 0,.int .i64 0,.int .i64 0,.int .i64 0,.sl 0 [] true,.sl 0 [] true,.sl 0 [] true,.sl 0 [] true]:AV)=Ln.v ⟨a,b,c,[],[],[],[],0,0,0,0,0,0,SL.nil,SL.nil,SL.nil,SL.nil⟩:=by
 rw [Ln.e]; simp only[← SL.nile]
theorem s312(l:Ln)(hS:LnS l):∃ r,Run Tryz.prog 312 [l.v] r∧∃ u:Ln,∃ b,r=.tup [u.v,.bool b] ∧(b=true→LnOk l):=by
 obtain ⟨hs1,hs2,hs3,hs4,hs5⟩:=hS
 refine run_w (c:=c312 true) [.c 2 17 true,.t 3] 1 (by kernel_rfl) (by kernel_rfl) (Nat.le_refl 1) (by simp only[wd]) ?_
 unfold c312
 repeat' (first
 |simp (disch:=try exact Dg) only[Kg,Ln.mk0,seval,reduceCtorEq]
 |(with_reducible first|apply condC_d|apply gC_d1)<;>intro _
 |with_reducible refine e8 ?_
 |(refine Ag (s345 _ _ _) ?_;rintro _ rfl;all_goals simp only[vl,ts,wb])
 |(refine Ag (s346 _ _) ?_;rintro _ rfl;all_goals simp only[vl,ts,wb])
 |(refine Ag (s347 _) ?_;rintro _ ⟨_ | _,rfl,hA⟩; all_goals (try replace hA:=hA rfl);all_goals simp only[vl,ts,wb])
 |(refine Ag (s204 _) ?_;rintro _ ⟨_ | _,rfl⟩;all_goals simp only[vl,ts,wb])
 |(refine Ag (s205 _) ?_;rintro _ ⟨_ | _,rfl⟩;all_goals simp only[vl,ts,wb])
 |(refine Ag (s201 _ (by omega)) ?_;rintro _ ⟨_ | _,rfl⟩;all_goals simp only[vl,ts,wb])
 |(refine Ag (s121 _) ?_;rintro _ ⟨_ | _,rfl⟩;all_goals simp only[vl,ts,wb])
 |(refine Fg ?_;first|exact⟨_,_,rfl,fun h=>absurd h Bool.false_ne_true⟩|(refine⟨_,_,rfl,fun hb=>⟨fun hk=>?_,fun hk=>?_,fun hk=>?_,fun hk=>?_⟩⟩ <;> first | omega | (refine rsg_len (b:=4094) ?_; assumption) | (refine⟨rsg_len (b:=65535) ?_,rsg_len (of_decide_eq_true hb)⟩; assumption))|exact e9|fail)
 |fail)
theorem s222(l:Ln)(hS:LnS l):∃ r,Run Tryz.prog 222 [l.v] r∧∃ b,r=.bool b ∧(b=true→LnOk l):=by
 have h1:=hS.1
 refine run_w (c:=c222 true) [.t 2] 1 (by kernel_rfl) (by kernel_rfl) (Nat.le_refl 1) (by simp only[wd]) ?_
 unfold c222
 repeat' (first
 |simp (disch:=try exact Dg) only[Kg,seval,reduceCtorEq]
 |with_reducible refine e8 ?_
 |(refine Ag (s312 _ hS) ?_;rintro _ ⟨u,_ | _,rfl,hu⟩; all_goals (try replace hu:=hu rfl);all_goals simp only[vl,ts,wb])
 |(refine Ag (s201 _ (by omega)) ?_;rintro _ ⟨_ | _,rfl⟩;all_goals simp only[vl,ts,wb])
 |(refine Ag (s313 _ _) ?_;rintro _ ⟨_ | _,rfl⟩;all_goals simp only[vl,ts,wb])
 |(refine Fg ?_;first|exact⟨_,rfl,fun h=>absurd h Bool.false_ne_true⟩|exact⟨_,rfl,fun _=>hu⟩|exact e9|fail)
 |fail)
end Go.Proofs
