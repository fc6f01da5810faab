/- Part 27 of a proof that a step of one domain changes nothing of another: the machine of plain values, and what the program's functions do. -/
import Derived.Test.YtdgcdnnmodnkjaaGreatDoorG26
set_option linter.all false
set_option linter.unusedVariables false
set_option linter.unusedSectionVars false
set_option linter.unusedSimpArgs false
set_option linter.defProp false
set_option maxHeartbeats 4000000
set_option maxRecDepth 100000
namespace Go.Proofs
open Go Go.Pv Go.Proofs.Tx
variable [Lq]
open W
open Classical
theorem good_irb{N:Nt}(h:Good N){k:Int}(hk:Pl N.irbs.l k):Pl N.doms.l (nth N.irbs.l k.toNat).dom∧Pl N.vrfs.l (nth N.irbs.l k.toNat).vrf:=by
 have:=h.irbs k.toNat (by omega)
 exact⟨this.1,this.2.1⟩
theorem s267(N:Nt)(k:Int)(hg:Good N)(hk:Pl N.irbs.l k):∃ r,Run Tryz.prog 267 [N.v,.int .i64 k] r∧∃ d,r=.int .i64 d:=by
 refine run_w (c:=c267 true) [.t 4] 2 (by kernel_rfl) (by kernel_rfl) (Nat.le_refl 2) (by simp only[wd]) ?_
 unfold c267
 have h2:=(good_irb hg hk).1
 repeat' (first
 |simp (disch:=try exact Dj) only[Kj,seval,reduceCtorEq]
 |with_reducible refine e8 ?_
 |(refine Fj ?_;first|exact e9|fail)
 |fail)
theorem s296(p:Px):∃ r,Run Tryz.prog 296 [p.v] r∧r=.bool (decide (0≤p.bits∧p.bits≤32)):=by
 refine run_w (c:=c296 true) [.t 2] 1 (by kernel_rfl) (by kernel_rfl) (Nat.le_refl 1) (by simp only[wd]) ?_
 unfold c296
 repeat' (first
 |simp (disch:=try exact Dj) only[Kj,seval,reduceCtorEq]
 |(with_reducible apply gC_d1)<;>intro _
 |with_reducible refine e8 ?_
 |(refine Fj ?_;first|exact e9|fail)
 |fail)
theorem s297(p:Px)(h:0≤p.bits∧p.bits≤32):∃ r,Run Tryz.prog 297 [p.v] r∧∃ a,r=.int .u32 a:=by
 refine run_w (c:=c297 true) [.t 2] 1 (by kernel_rfl) (by kernel_rfl) (Nat.le_refl 1) (by simp only[wd]) ?_
 unfold c297
 repeat' (first
 |simp (disch:=try exact Dj) only[Kj,seval,reduceCtorEq]
 |with_reducible refine e8 ?_
 |(refine Fj ?_;first|exact e9|fail)
 |fail)
theorem s268(p:Px)(a:Int):∃ r,Run Tryz.prog 268 [p.v,.int .u32 a] r∧∃ b,r=.bool b:=by
 refine run_w (c:=c268 true) [.t 4] 2 (by kernel_rfl) (by kernel_rfl) (Nat.le_refl 2) (by simp only[wd]) ?_
 unfold c268
 repeat' (first
 |simp (disch:=try exact Dj) only[Kj,seval,reduceCtorEq]
 |(with_reducible apply gC_d1)<;>intro _
 |with_reducible refine e8 ?_
 |(refine callv_nr (s296 _) (by simp only[wd,seval,not_false_eq_true]) ?_; rintro _ rfl; all_goals simp only[vl,ts,wb])
 |(refine Aj (s297 _ (by assumption)) ?_;rintro _ ⟨x,rfl⟩;all_goals simp only[vl,ts,wb])
 |(refine Fj ?_;first|exact e9|fail)
 |fail)
theorem s326(N:Nt)(a b:Int):∃ r,Run Tryz.prog 326 [N.v,.int .i64 a,.int .i64 b] r∧∃ c,r=.bool c:=by
 refine run_w (c:=c326 true) [.t 6] 3 (by kernel_rfl) (by kernel_rfl) (Nat.le_refl 3) (by simp only[wd]) ?_
 unfold c326
 repeat' (first
 |simp (disch:=try exact Dj) only[Kj,seval,reduceCtorEq]
 |(with_reducible first|apply condC_d|apply gC_d0|apply gC_d1)<;>intro _
 |with_reducible refine e8 ?_
 |(refine Aj (s72 _) ?_;rintro _ rfl;all_goals simp only[vl,ts,wb])
 |(refine call_rn (by simp (disch:=try exact Dj) only[Kj,wp,seval,reduceCtorEq]; rfl) (by simp (disch:=try exact Dj) only[Kj,wp,seval,reduceCtorEq]) (s354 _ (k353 _)) ?_; rintro _ ⟨_ | _,rfl,hb⟩; all_goals simp only[vl,wp,ts,wb])
 |(refine Fj ?_;first|exact e9|fail)
 |fail)
theorem s269(N:Nt)(a b:Int)(hg:Good N)(ha:Pl N.irbs.l a)(hb:Pl N.irbs.l b):∃ r,Run Tryz.prog 269 [N.v,.int .i64 a,.int .i64 b] r∧∃ c,r=.bool c:=by
 refine run_w (c:=c269 true) [.t 6] 3 (by kernel_rfl) (by kernel_rfl) (Nat.le_refl 3) (by simp only[wd]) ?_
 unfold c269
 repeat' (first
 |simp (disch:=try exact Dj) only[Kj,seval,reduceCtorEq]
 |(with_reducible apply gC_d1)<;>intro _
 |with_reducible refine e8 ?_
 |(refine Aj (s267 _ a hg ha) ?_;rintro _ ⟨x,rfl⟩;all_goals simp only[vl,ts,wb])
 |(refine callv_nr (s267 _ b hg hb) (by simp only[wd,seval,not_false_eq_true]) ?_; rintro _ ⟨y,rfl⟩; all_goals simp only[vl,ts,wb])
 |(refine callv_nr (s326 _ _ _) (by simp only[wd,seval,not_false_eq_true]) ?_; rintro _ ⟨_ | _,rfl⟩; all_goals simp only[vl,ts,wb])
 |(refine Fj ?_;first|exact e9|fail)
 |fail)
theorem s270(N:Nt)(a i:Int)(ha:Pl N.irbs.l a)(hi:Pl N.irbs.l i):∃ r,Run Tryz.prog 270 [.int .i64 a,.rptr N.v 0,.rptr (.int .i64 i) 0] r∧∃ n,r=.int .i64 n∧0≤n∧n≤1:=by
 refine run_w (c:=c270 true) [.t 4] 3 (by kernel_rfl) (by kernel_rfl) (Nat.le_refl 3) (by simp only[wd]) ?_
 unfold c270
 repeat' (first
 |simp (disch:=try exact Dj) only[Kj,seval,reduceCtorEq]
 |(with_reducible apply condC_d)<;>intro _
 |with_reducible refine e8 ?_
 |(refine Fj ?_;first|(refine⟨_,rfl,?_⟩; omega)|exact e9|fail)
 |fail)
theorem s271(u:IL)(hu:0 < u.l.length){g:FuncId}{caps:List AV}(hg:g < ifB)(hnr:caps.all AV.nr1=true)(h:∀ a b,a∈u.l→b∈u.l→∃ r,Run Tryz.prog (fnId g) (fnArgs g [.int .i64 a,.int .i64 b] caps) r∧∃ n,r=.int .i64 n) :
  ∃ r,Run Tryz.prog 271 [u.v,.fn g caps] r∧∃ x,r=.int .i64 x∧x∈u.l:=by
 have hn:=u.n
 have ci:∀ hp n,caps.flatMap (idsOf hp (n+2))=[]:=fun hp n=>capI hnr
 have cr:∀ l n,caps.map (renX l (n+2))=caps:=fun l n=>capR hnr
 refine run_w (c:=c271 true) [.t 4] 2 (by kernel_rfl) (by kernel_rfl) (Nat.le_refl 2) (by simp only[wd]) ?_
 unfold c271
 simp (disch:=try exact Dj) only[Kj,seval,reduceCtorEq]
 refine⟨by omega,?_⟩
 refine d_lo (fun p:Nat × Int=>⟨[(0,u.v),(1,.fn g caps),(5,.int .i64 p.2),(6,.int .i64 p.1)],[]⟩) (fun p=>p.1≤u.l.length∧p.2∈u.l) (fun p=>u.l.length - p.1) ?_ ?_
 ·simp (disch:=try exact Dj) only[Kj,ci,cr,seval,reduceCtorEq]
  exact⟨(1,_),rfl,by simp only; omega,nth_mem hu⟩
 rintro ⟨k,m⟩ ⟨hk,hm⟩
 simp only at hk hm ⊢
 unfold c271b0
 simp (disch:=try exact Dj) only[Kj,seval,reduceCtorEq]
 refine condC_d (fun h2=>?_) (fun h2=>?_)
 ·simp (disch:=try exact Dj) only[Kj,seval,reduceCtorEq]
  refine⟨by omega,?_⟩
  have hy:=nth_mem (l:=u.l) (k:=k) (by omega)
  refine callv_nr (h _ _ hy hm) (fnA_nr (by simp only[wd]) hnr) ?_ hg
  rintro _ ⟨n,rfl⟩
  simp only[vl]
  repeat' (first
 |simp (disch:=try exact Dj) only[Kj,ci,cr,seval,reduceCtorEq]
 |(with_reducible apply condC_d)<;>intro _
 |with_reducible refine e8 ?_
 |(refine⟨(k+1,_),rfl,⟨?_,?_⟩,?_⟩;(simp only; omega);(first | exact hy | exact hm);(simp only; omega))
 |(refine Fj ?_;first|exact e9|fail)
 |fail)
 ·repeat' (first
 |simp (disch:=try exact Dj) only[Kj,seval,reduceCtorEq]
 |(with_reducible apply condC_d)<;>intro _
 |with_reducible refine e8 ?_
 |(refine Fj ?_;first|exact⟨_,rfl,hm⟩|exact e9|fail)
 |fail)
theorem s272(N:Nt)(a b i:Int)(ha:Pl N.irbs.l a)(hb:Pl N.irbs.l b)(hi:Pl N.irbs.l i):∃ r,Run Tryz.prog 272 [.int .i64 a,.int .i64 b,.rptr N.v 0,.rptr (.fn 270 [.rptr N.v 0,.rptr (.int .i64 i) 0]) 0] r∧∃ n,r=.int .i64 n:=by
 have ha':0≤a∧a < N.irbs.l.length:=ha
 have hb':0≤b∧b < N.irbs.l.length:=hb
 refine run_w (c:=c272 true) [.t 6] 4 (by kernel_rfl) (by kernel_rfl) (Nat.le_refl 4) (by simp only[wd]) ?_
 unfold c272
 repeat' (first
 |simp (disch:=try exact Dj) only[Kj,seval,reduceCtorEq]
 |(with_reducible apply condC_d)<;>intro _
 |with_reducible refine e8 ?_
 |(refine callv_nr (s270 N _ i ha hi) (by simp only[wd,seval,not_false_eq_true]) ?_; rintro _ ⟨x,rfl,hx0,hx1⟩; all_goals simp only[vl,ts,wb])
 |(refine callv_nr (s270 N _ i hb hi) (by simp only[wd,seval,not_false_eq_true]) ?_; rintro _ ⟨y,rfl,hy0,hy1⟩; all_goals simp only[vl,ts,wb])
 |(refine Fj ?_;first|exact⟨_,rfl⟩|exact e9|fail)
 |fail)
theorem s185(N:Nt)(i a:Int)(hg:Good N)(hi:Pl N.irbs.l i):∃ r,Run Tryz.prog 185 [N.v,.int .i64 i,.int .u32 a] r∧∃ x b,r=.tup [.int .i64 x,.bool b] ∧(b=true→Pl N.irbs.l x):=by
 have hn:=N.irbs.n
 have h48:=hg.few.2.2.2.2.2.2.2
 refine run_w (c:=c185 true) [.t 6,.t 7] 3 (by kernel_rfl) (by kernel_rfl) (Nat.le_refl 3) (by simp only[wd]) ?_
 unfold c185
 simp (disch:=try exact Dj) only[Kj,seval,reduceCtorEq]
 refine d_lo (fun p:Nat × List Int=>⟨[(2,.int .u32 a),(3,.eptr 0 0 0),(4,.eptr 1 0 0),(8,.vec 2 1 0 p.2.length),(13,N.irbs.v),(14,.int .i64 N.irbs.l.length),(15,.int .i64 p.1)],[some ⟨40,[N.v],true⟩,some ⟨3,[.int .i64 i],true⟩,some ⟨3,p.2.map (AV.int .i64),true⟩]⟩) (fun p=>p.1≤N.irbs.l.length∧p.2.length≤p.1∧∀ x,x∈p.2→Pl N.irbs.l x) (fun p=>N.irbs.l.length - p.1) ?_ ?_
 ·simp (disch:=try exact Dj) only[Kj,seval,reduceCtorEq]
  exact⟨(0,[]),rfl,by simp⟩
 rintro ⟨k,out⟩ ⟨hk,ho,hall⟩
 simp only at hk ho hall ⊢
 unfold c185b0
 simp (disch:=try exact Dj) only[Kj,seval,reduceCtorEq]
 refine condC_d (fun h2=>?_) (fun h2=>?_)
 ·repeat' (first
 |simp (disch:=try exact Dj) only[Kj,seval,reduceCtorEq]
 |(with_reducible first|apply condC_d|apply gC_d1)<;>intro _
 |with_reducible refine e8 ?_
 |with_reducible refine e_app_vec ?_
 |(refine Aj (s267 _ (k:Int) hg ⟨by omega,by omega⟩) ?_;rintro _ ⟨x,rfl⟩;all_goals simp only[vl,ts,wb])
 |(refine callv_nr (s267 _ i hg hi) (by simp only[wd,seval,not_false_eq_true]) ?_; rintro _ ⟨y,rfl⟩; all_goals simp only[vl,ts,wb])
 |(refine Aj (s268 _ _) ?_;rintro _ ⟨_ | _,rfl⟩;all_goals simp only[vl,ts,wb])
 |(refine Aj (s269 _ i (k:Int) hg hi ⟨by omega,by omega⟩) ?_;rintro _ ⟨_ | _,rfl⟩;all_goals simp only[vl,ts,wb])
 |(refine Fj ?_;first|exact⟨_,_,rfl,fun h=>absurd h Bool.false_ne_true⟩|exact e9|fail)
 |fail)
  all_goals (try (refine⟨(k+1,out),rfl,⟨?_,?_,hall⟩,?_⟩ <;> simp only <;> omega))
  all_goals (
   refine⟨(k+1,out ++ [(k:Int)]),by simp,⟨by simp only; omega,by simp; omega,fun x hx=>?_⟩,by simp only; omega⟩
   rcases List.mem_append.1 hx with hx | hx
   ·exact hall x hx
   ·rw [List.mem_singleton.1 hx]; exact⟨by omega,by omega⟩)
 ·by_cases h0:out.length=0
  ·repeat' (first
 |simp (disch:=try exact Dj) only[Kj,h0,seval,reduceCtorEq]
 |(with_reducible first|apply condC_d|apply gC_d1)<;>intro _
 |with_reducible refine e8 ?_
 |with_reducible refine e_app_vec ?_
 |(refine Fj ?_;first|exact⟨_,_,rfl,fun h=>absurd h Bool.false_ne_true⟩|exact e9|fail)
 |fail)
  ·have h271:=s271 (SL.of out (by omega)) (by rw [SL.of_l]; omega) (g:=272) (caps:=[.rptr N.v 0,.rptr (.fn 270 [.rptr N.v 0,.rptr (.int .i64 i) 0]) 0]) (by decide) (by simp only[wd]) (fun x y hx hy=>s272 N x y i (hall x hx) (hall y hy) hi)
   rw [← SL.ofe] at h271
   simp only[SL.of_l] at h271
   have i5:∀(l:List Int) hp,mapO (snap hp 5) (l.map (AV.int .i64))=some (l.map (AV.int .i64)):=fun l hp=>mapO_map fun _=>rfl
   have i6:∀(l:List Int) hp,(l.map (AV.int .i64)).flatMap (rows hp 5)=[]:=fun l hp=>rows_map fun _=>rfl
   have h0':¬(out.length:Int)=0:=by omega
   repeat' (first
 |simp (disch:=try exact Dj) only[Kj,i5,i6,map_take_len,seval,reduceCtorEq]
 |(with_reducible first|apply condC_d|apply gC_d1)<;>intro _
 |with_reducible refine e8 ?_
 |with_reducible refine e_app_vec ?_
 |(refine call_rn (by simp (disch:=try exact Dj) only[Kj,i5,i6,map_take_len,wp,seval,reduceCtorEq]; rfl) (by simp (disch:=try exact Dj) only[Kj,i5,i6,map_take_len,wp,seval,reduceCtorEq]) h271 ?_; rintro _ ⟨x,rfl,hx⟩; all_goals simp only[vl,wp,ts,wb])
 |(refine Fj ?_;first|exact⟨_,_,rfl,fun _=>hall _ hx⟩|exact e9|fail)
 |fail)
theorem s91(N:Nt)(i:Int)(f:Fm):∃ r,Run Tryz.prog 91 [N.v,.int .i64 i,f.v] r∧∃ d,∃ g:Fm,∃ e,r=.tup [.int .i64 d,g.v,.int .i64 e]∧okE e∧g.body.l.length≤1500 ∧(e=0→Good N∧Pl N.doms.l d):=by
 have ok:∀ e:Int,0≤e∧e < 64→okE e:=fun e h=>h
 refine run_w (c:=c91 true) [.t 6,.c 7 4 true,.t 8] 3 (by kernel_rfl) (by kernel_rfl) (Nat.le_refl 3) (by simp only[wd]) ?_
 unfold c91
 repeat' (first
 |simp (disch:=try exact Dj) only[Kj,seval,reduceCtorEq]
 |(with_reducible first|apply condC_d|apply gC_d0)<;>intro _
 |with_reducible refine e8 ?_
 |(refine Aj (s72 _) ?_;rintro _ rfl;all_goals simp only[vl,ts,wb])
 |(refine Aj (s183 _) ?_;rintro _ ⟨p,e,rfl,he,hp⟩;all_goals simp only[vl,ts,wb])
 |(refine Aj (s184 _) ?_;rintro _ ⟨q,e2,rfl,he2,hq⟩;all_goals simp only[vl,ts,wb])
 |(refine Aj (s185 _ i _ (Decidable.of_not_not (by assumption)) ⟨by omega,by omega⟩) ?_;rintro _ ⟨x,_ | _,rfl,hx⟩; all_goals (try replace hx:=hx rfl);all_goals simp only[vl,ts,wb])
 |(refine Aj (s186 _) ?_;rintro _ ⟨b,e3,rfl,he3,hb⟩;all_goals simp only[vl,ts,wb])
 |(refine Aj (s182 _) ?_;rintro _ ⟨m,rfl⟩;all_goals simp only[vl,ts,wb])
 |(refine Fj ?_;first|(refine⟨_,_,_,rfl,ok _ (by omega),Nat.zero_le _,fun h=>?_⟩; omega)|exact⟨_,_,_,rfl,ok _ (by omega),hb,fun _=>⟨Decidable.of_not_not (by assumption),(good_irb (Decidable.of_not_not (by assumption)) hx).1⟩⟩|exact e9|fail)
 |fail)
theorem s90(N:Nt)(d m:Int):∃ r,Run Tryz.prog 90 [N.v,.int .i64 d,.int .u64 m] r∧∃ i b,r=.tup [.int .i64 i,.bool b]:=by
 refine run_w (c:=c90 true) [.t 6,.t 7] 3 (by kernel_rfl) (by kernel_rfl) (Nat.le_refl 3) (by simp only[wd]) ?_
 unfold c90
 have h2:Good N→∀ k,k < N.doms.l.length →(nth N.doms.l k).irb=-1∨Pl N.irbs.l (nth N.doms.l k).irb:=fun h k hk=>by
  have:=(h.bare k hk).2.2.2.2.2.1
  rcases this with h | h
  ·exact .inl h
  ·exact .inr h.1
 repeat' (first
 |simp (disch:=try exact Dj) only[Kj,seval,reduceCtorEq]
 |(with_reducible first|apply condC_d|apply gC_d0)<;>intro _
 |with_reducible refine e8 ?_
 |(refine Aj (s72 _) ?_;rintro _ rfl;all_goals simp only[vl,ts,wb])
 |(refine Aj (s182 _) ?_;rintro _ ⟨x,rfl⟩;all_goals simp only[vl,ts,wb])
 |(refine Fj ?_;first|exact⟨_,_,rfl⟩|exact e9|fail)
 |fail)
end Go.Proofs
set_option maxHeartbeats 4000000
set_option maxRecDepth 100000
namespace Go.Proofs
open Go Go.Pv Go.Proofs.Tx
variable [Lq]
open W
open Classical
theorem s89(t:SL En En.v 3)(q:Qd)(n:Int)(hu:t.l.length≤1000):∃ r,Run Tryz.prog 89 [t.v,q.v,.int .i64 n] r∧∃ w:SL En En.v 3,r=w.v∧w.l.length≤max t.l.length 8:=by
 have h0:=Nat.le_max_left t.l.length 8
 refine run_w (c:=c89 true) [.t 6] 3 (by kernel_rfl) (by kernel_rfl) (Nat.le_refl 3) (by simp only[wd]) ?_
 unfold c89
 repeat' (first
 |simp (disch:=try exact Dj) only[Kj,seval,reduceCtorEq]
 |(with_reducible apply condC_d)<;>intro _
 |with_reducible refine e8 ?_
 |(refine Aj (r27 _ (by omega)) ?_;rintro _ rfl;all_goals simp only[vl,ts,wb])
 |(refine Aj (s181 _ _ _ _ hu) ?_;rintro _ ⟨w,rfl,hw⟩;all_goals simp only[vl,ts,wb])
 |(refine Fj ?_;first|exact⟨_,rfl,h0⟩|exact⟨_,rfl,hw⟩|exact e9|fail)
 |fail)
structure OuOk(N:Nt)(o:Ou):Prop where
 bytes:o.bytes.l.length≤2000
 body:o.frame.body.l.length≤2000
 err:okE o.err
 dom:o.kind=4→Pl N.doms.l o.dom
def oX:List Ou→AV
 | []=>.sl 0 [] true
 | o :: l=>.vec 3 9 0 (l.length+1)
def oH:List Ou→Hp
 | []=>[]
 | o :: l=>[some ⟨167,(o :: l).map Ou.v,true⟩]
theorem Ou.mk0{k p d e:Int}:(.agg [.int .i64 k,.int .i64 p,.int .i64 d,.sl 0 [] true,.int .u64 0,.int .u64 0,.int .i64 0,.sl 0 [] true,.int .i64 e]:AV)=Ou.v ⟨k,p,d,SL.nil,⟨0,0,0,SL.nil⟩,e⟩:=by
 rw [Ou.e]; simp only[← SL.nile]
theorem Ou.mk1{k p d e a b c:Int}{w:BL}:(.agg [.int .i64 k,.int .i64 p,.int .i64 d,.sl 0 [] true,.int .u64 a,.int .u64 b,.int .i64 c,w.v,.int .i64 e]:AV)=Ou.v ⟨k,p,d,SL.nil,⟨a,b,c,w⟩,e⟩:=by
 rw [Ou.e]; simp only[← SL.nile]
theorem Ou.s0(x:Ou):setCells x.v (.sl 0 [] true) 3 1=some (Ou.v { x with bytes:=SL.nil }):=by
 rw [@SL.nile UInt8 bv 1]; exact Ou.s_bytes x SL.nil
theorem ou_sn{l:List Ou}{x:Ou}:l.map Ou.v ++ [x.v] =(l ++ [x]).map Ou.v:=by simp
theorem s92(A B:Option Ent)(o:Ou)(u:BL)(e:Int)(outs:List Ou)(hl:outs.length≤100000) :
  ∃ r H',Gen Tryz.prog 92 [o.v,u.v,.int .i64 e,.eptr 2 0 0] (A :: B :: some ⟨161,[oX outs],true⟩ :: oH outs) r H' ∧
   (r=.tup []∧∃ o':Ou,∃ j x,H'=A :: B :: some ⟨161,[.vec j 9 0 (outs.length+1)],true⟩ :: x∧ent H' j=some ⟨167,(outs ++ [o']).map Ou.v,true⟩∧3≤j ∧(oH outs).length≤x.length∧o'.frame=o.frame∧o'.dom=o.dom ∧(o'.err=e∨o'.err=o.err)∧o'.bytes.l.length≤u.l.length ∧(o'.kind=o.kind∨o'.kind=5)):=by
 refine gen_w (c:=c92 false) [] 4 (by kernel_rfl) (by kernel_rfl) (Nat.le_refl 4) ?_
 unfold c92
 cases outs with
 | nil =>
  unfold oX oH
  simp (disch:=try exact Dj) only[Kj,seval,reduceCtorEq]
  refine condC_d (fun h0=>?_) (fun h0=>?_)
  ·simp (disch:=try exact Dj) only[Kj,Ou.s0,seval,reduceCtorEq]
   exact⟨_,_,_,rfl,rfl,Nat.le_of_ble_eq_true rfl,Nat.le_of_ble_eq_true rfl,rfl,rfl,.inl rfl,Nat.zero_le _,.inr rfl⟩
  ·simp (disch:=try exact Dj) only[Kj,Ou.s0,seval,reduceCtorEq]
   exact⟨_,_,_,rfl,rfl,Nat.le_of_ble_eq_true rfl,Nat.le_of_ble_eq_true rfl,rfl,rfl,.inr rfl,Nat.le_refl _,.inl rfl⟩
 | cons o1 l =>
  have hl':l.length+1≤100000:=hl
  unfold oX oH
  simp (disch:=try exact Dj) only[Kj,seval,reduceCtorEq]
  refine condC_d (fun h0=>?_) (fun h0=>?_)
  ·simp (disch:=try exact Dj) only[Kj,Ou.s0,seval,reduceCtorEq]
   refine e_app_vec ?_
   simp (disch:=try exact Dj) only[Kj,ou_sn,seval,reduceCtorEq]
   refine⟨by omega,?_⟩
   exact⟨_,_,_,rfl,rfl,Nat.le_of_ble_eq_true rfl,Nat.le_of_ble_eq_true rfl,rfl,rfl,.inl rfl,Nat.zero_le _,.inr rfl⟩
  ·simp (disch:=try exact Dj) only[Kj,Ou.s0,seval,reduceCtorEq]
   refine e_app_vec ?_
   simp (disch:=try exact Dj) only[Kj,ou_sn,seval,reduceCtorEq]
   refine⟨by omega,?_⟩
   exact⟨_,_,_,rfl,rfl,Nat.le_of_ble_eq_true rfl,Nat.le_of_ble_eq_true rfl,rfl,rfl,.inr rfl,Nat.le_refl _,.inl rfl⟩
end Go.Proofs
set_option maxHeartbeats 4000000
set_option maxRecDepth 100000
namespace Go.Proofs
open Go Go.Pv Go.Proofs.Tx
variable [Lq]
open W
open Classical
section
variable {hp:Hp} {i:Nat} {x:Si} {g:Sg} {ta:List EL} {qs:List QL}
theorem s56(h:SimAt hp i x g ta qs)(o:Ou)(ho:OuOk x.n o)(a:Int):∃ r H',Gen Tryz.prog 56 [.eptr i 0 0,o.v,.int .i64 a] hp r H' ∧((r=.sl 0 [] true∨∃ id y,r=.vec id 3 0 1∧hp.length≤id∧ent H' id=some ⟨67,[y],true⟩)∧Nxt No No hp H' i x ta qs):=by
 have hs:=fun l=>ent_ap h.s l
 have hil:=entlt h.s
 refine gen_w (c:=c56 false) [.t 6] 3 (by kernel_rfl) (by kernel_rfl) (Nat.le_refl 3) ?_
 unfold c56
 simp (disch:=try exact Dn) only[Kn,Fm.flat_e,seval,reduceCtorEq]
 refine condC_d (fun h1=>?_) (fun h1=>?_)
 ·simp (disch:=try exact Dn) only[Kn,seval,reduceCtorEq]
  exact⟨.inr ⟨_,_,rfl,by omega,ent_apn.trans rfl⟩,x,g,ta,qs,h.ap _,Fx.ap Fx.refl _,Rl.refl⟩
 have fx:∀ {H' l:Hp} {x':Si},Fx (hp ++ l) H' i x x'→Fx hp H' i x x':=fun f=>(Fx.ap Fx.refl _).trans f
 have pl:∀ d,Pl x.n.doms.l d→0≤d∧d < x.k:=fun d hd=>by
  have:=hd.1
  have:=hd.2
  have:=h.k
  exact⟨by omega,by omega⟩
 have hby:=ho.bytes
 simp (disch:=try exact Dn) only[Kn,seval,reduceCtorEq]
 refine condC_d (fun h2=>?_) (fun h2=>?_)
 ·simp (disch:=try exact Dn) only[Kn,hs,seval,reduceCtorEq]
  refine An (s98 x.n o.port o.bytes) ?_
  rintro _ ⟨t,d,f,e,rfl,he,hf,hg⟩
  simp only[vl,ts,wb]
  simp (disch:=try exact Dn) only[Kn,hs,Nat.add_assoc,seval,reduceCtorEq]
  refine⟨by omega,?_⟩
  refine call_genQ (s52 (h.ap _) d ⟨t,0,a,f⟩ e he (fun h0=>pl d (hg h0).2) (by simp only; omega)) ?_
  rintro _ H1 ⟨rfl,x1,g1,ts1,qs1,a1,a2,a3⟩
  simp (disch:=try exact Dn) only[Kn,seval,reduceCtorEq]
  exact⟨.inl trivial,x1,g1,ts1,qs1,a1,fx a2,a3⟩
 simp (disch:=try exact Dn) only[Kn,seval,reduceCtorEq]
 refine condC_d (fun h3=>?_) (fun h3=>?_)
 ·simp (disch:=try exact Dn) only[Kn,hs,seval,reduceCtorEq]
  refine An (s99 x.n o.bytes) ?_
  rintro _ ⟨t,d,f,e,rfl,he,hf,hg⟩
  simp only[vl,ts,wb]
  simp (disch:=try exact Dn) only[Kn,hs,Nat.add_assoc,seval,reduceCtorEq]
  refine⟨by omega,?_⟩
  refine call_genQ (s52 (h.ap _) d ⟨-1,t,a,f⟩ e he (fun h0=>pl d (hg h0).2) (by simp only; omega)) ?_
  rintro _ H1 ⟨rfl,x1,g1,ts1,qs1,a1,a2,a3⟩
  simp (disch:=try exact Dn) only[Kn,seval,reduceCtorEq]
  exact⟨.inl trivial,x1,g1,ts1,qs1,a1,fx a2,a3⟩
 simp (disch:=try exact Dn) only[Kn,seval,reduceCtorEq]
 refine condC_d (fun h4=>?_) (fun h4=>?_)
 ·simp (disch:=try exact Dn) only[Kn,hs,seval,reduceCtorEq]
  have hbo:=ho.body
  refine call_genQ (s52 (h.ap _) o.dom ⟨-2,0,a,o.frame⟩ 0 ⟨by decide,by decide⟩ (fun _=>pl _ (ho.dom h4)) (by simp only; omega)) ?_
  rintro _ H1 ⟨rfl,x1,g1,ts1,qs1,a1,a2,a3⟩
  simp (disch:=try exact Dn) only[Kn,seval,reduceCtorEq]
  exact⟨.inl trivial,x1,g1,ts1,qs1,a1,fx a2,a3⟩
 ·simp (disch:=try exact Dn) only[Kn,hs,seval,reduceCtorEq]
  refine call_genQ (s55 (h.ap _) o.err ho.err) ?_
  rintro _ H1 ⟨rfl,x1,g1,ts1,qs1,a1,a2,a3⟩
  simp (disch:=try exact Dn) only[Kn,seval,reduceCtorEq]
  exact⟨.inl trivial,x1,g1,ts1,qs1,a1,fx a2,a3⟩
end
end Go.Proofs
namespace Go.Proofs
open Go Go.Pv Go.Proofs.Tx
variable [Lq]
open W
def Kl:=And.intro @wk <| And.intro @wq <| And.intro @wz <| And.intro @zd <| And.intro @mk <| And.intro @bz <| And.intro @tt <| And.intro @wg <| @mp
theorem Dl{p:Prop}(h:p:=by first | assumption | omega | (simp only[wd,zl,wq,wz,zd,mk,bz,tt,wg,mp]; done) | (simp only[List.length_append,List.length_set,List.length_cons,List.length_nil,List.length_map,List.length_take,List.length_drop,List.length_replicate]; omega) | fail):p:=h
theorem Al{P:Program}{f:FuncId}{args:List AV}{hp:Hp}{E:AV→Hp→Prop}{Q:AV→Prop}{dr fm:Bool}{no:List TypeId}(h:∃ r,Run P f args r∧Q r)(hk:∀ r,Q r→vLay r hp E)(hn:args.all AV.nr1=true:=by first | (simp only[wd,wq,wz,zd,mk,bz,tt,wg,mp]; done) | fail):wCall P f args hp dr fm no E:=call_nr h hn hk
theorem Fq{hp:Hp}{x:AV}{Q:AV→Prop}(h:Q x)(hn:nrR x=true:=by first | (simp only[wd,wq,wz,zd,mk,bz,tt,wg,mp]; done) | fail):fin (some x) Q hp:=fin_nr hn h
end Go.Proofs
set_option maxHeartbeats 4000000
set_option maxRecDepth 100000
namespace Go.Proofs
open Go Go.Pv Go.Proofs.Tx
variable [Lq]
open W
open Classical
theorem s252(a:Int):∃ r,Run Tryz.prog 252 [.int .i64 a] r∧r=.bool false:=by
 refine run_w (c:=c252 true) [.t 2] 1 (by kernel_rfl) (by kernel_rfl) (Nat.le_refl 1) (by simp only[wd]) ?_
 unfold c252
 repeat' (first
 |simp (disch:=try exact Dl) only[Kl,seval,reduceCtorEq]
 |with_reducible refine e8 ?_
 |(refine Fq ?_;first|(refine congrArg AV.bool ?_; simp)|exact e9|fail)
 |fail)
theorem s253(a:Int):∃ r,Run Tryz.prog 253 [.int .u64 a] r∧r=.bool false:=by
 refine run_w (c:=c253 true) [.t 2] 1 (by kernel_rfl) (by kernel_rfl) (Nat.le_refl 1) (by simp only[wd]) ?_
 unfold c253
 repeat' (first
 |simp (disch:=try exact Dl) only[Kl,seval,reduceCtorEq]
 |with_reducible refine e8 ?_
 |(refine Fq ?_;first|(refine congrArg AV.bool ?_; simp)|exact e9|fail)
 |fail)
theorem s166(a b:Int):∃ r,Run Tryz.prog 166 [.int .i64 a,.int .i64 b] r∧∃ n,r=.int .i64 n:=by
 refine run_w (c:=c166 true) [.t 4] 2 (by kernel_rfl) (by kernel_rfl) (Nat.le_refl 2) (by simp only[wd]) ?_
 unfold c166
 repeat' (first
 |simp (disch:=try exact Dl) only[Kl,seval,reduceCtorEq]
 |(with_reducible apply condC_d)<;>intro _
 |with_reducible refine e8 ?_
 |(refine Al (s252 _) ?_;rintro _ rfl;all_goals simp only[vl,ts,wb])
 |(refine Fq ?_;first|exact e9|fail)
 |fail)
theorem s167(a b:Int):∃ r,Run Tryz.prog 167 [.int .u64 a,.int .u64 b] r∧∃ n,r=.int .i64 n:=by
 refine run_w (c:=c167 true) [.t 4] 2 (by kernel_rfl) (by kernel_rfl) (Nat.le_refl 2) (by simp only[wd]) ?_
 unfold c167
 repeat' (first
 |simp (disch:=try exact Dl) only[Kl,seval,reduceCtorEq]
 |(with_reducible apply condC_d)<;>intro _
 |with_reducible refine e8 ?_
 |(refine Al (s253 _) ?_;rintro _ rfl;all_goals simp only[vl,ts,wb])
 |(refine Fq ?_;first|exact e9|fail)
 |fail)
theorem s165(u:IL):∃ r,Run Tryz.prog 165 [u.v] r∧∃ n,r=.int .i64 n:=by
 have hu:=u.n
 refine run_w (c:=c165 true) [.t 2] 1 (by kernel_rfl) (by kernel_rfl) (Nat.le_refl 1) (by simp only[wd]) ?_
 unfold c165
 simp (disch:=try exact Dl) only[Kl,seval,reduceCtorEq]
 refine d_lo (fun k:Nat=>⟨[(3,.int .i64 0),(6,u.v),(7,.int .i64 u.l.length),(8,.int .i64 k)],[]⟩) (fun k=>k≤u.l.length) (fun k=>u.l.length - k) ?_ ?_
 ·simp (disch:=try exact Dl) only[Kl,seval,reduceCtorEq]
  exact⟨0,rfl,by omega⟩
 rintro k hk
 unfold c165b0
 repeat' (first
 |simp (disch:=try exact Dl) only[Kl,seval,reduceCtorEq]
 |(with_reducible apply condC_d)<;>intro _
 |with_reducible refine e8 ?_
 |exact⟨k+1,rfl,by omega,by omega⟩
 |(refine Fq ?_;first|exact e9|fail)
 |fail)
theorem s165'(a b:Int):∃ r,Run Tryz.prog 165 [.sl 1 [.int .i64 a,.int .i64 b] false] r∧∃ n,r=.int .i64 n:=by
 have:=s165 (SL.of [a,b] (Nat.le_of_ble_eq_true rfl))
 rwa [← SL.ofe] at this
theorem s164(N:Nt)(a b:Int)(ha:Pl N.devs.l a)(hb:Pl N.devs.l b):∃ r,Run Tryz.prog 164 [.int .i64 a,.int .i64 b,.rptr N.v 0] r∧∃ n,r=.int .i64 n:=by
 refine run_w (c:=c164 true) [.t 5] 3 (by kernel_rfl) (by kernel_rfl) (Nat.le_refl 3) (by simp only[wd]) ?_
 unfold c164
 repeat' (first
 |simp (disch:=try exact Dl) only[Kl,seval,reduceCtorEq]
 |with_reducible refine e8 ?_
 |(refine Al (s166 _ _) ?_;rintro _ ⟨x,rfl⟩;all_goals simp only[vl,ts,wb])
 |(refine callv_nr (s167 _ _) (by simp only[wd,seval,not_false_eq_true]) ?_; rintro _ ⟨y,rfl⟩; all_goals simp only[vl,ts,wb])
 |(refine callv_pl (by simp (disch:=try exact Dl) only[Kl,wp,seval,reduceCtorEq]; rfl) (by simp (disch:=try exact Dl) only[Kl,wp,seval,reduceCtorEq]) (s165' _ _) (by rintro _ ⟨n,rfl⟩ <;> rfl) ?_; rintro _ ⟨n,rfl⟩; all_goals simp only[vl,wp,ts,wb])
 |(refine Fq ?_;first|exact e9|fail)
 |fail)
theorem s73(N:Nt):∃ r,Run Tryz.prog 73 [N.v] r∧∃ b,r=.bool b ∧(b=true↔∀ p,p∈N.ports.l→1≤p.cost∧p.cost≤65535):=by
 have hk:Clo Pt Pt.v (fun p=>p.cost < 1∨65535 < p.cost) N.ports.l 162 []:=clo_of fun p=>s162 p
 refine run_w (c:=c73 true) [.t 2] 1 (by kernel_rfl) (by kernel_rfl) (Nat.le_refl 1) (by simp only[wd]) ?_
 unfold c73
 repeat' (first
 |simp (disch:=try exact Dl) only[Kl,seval,reduceCtorEq]
 |with_reducible refine e8 ?_
 |(refine call_rn (by simp (disch:=try exact Dl) only[Kl,wp,seval,reduceCtorEq]; rfl) (by simp (disch:=try exact Dl) only[Kl,wp,seval,reduceCtorEq]) (s161 _ hk) ?_; rintro _ ⟨b,rfl,hb⟩; all_goals simp only[vl,wp,ts,wb])
 |(refine Fq ?_;first|exact e9|fail)
 |fail)
 all_goals trace_state
def DOk(N:Nt)(L:List Int)(n:Nat):Prop:=L.length=n∧∀ x,x∈L→Pl N.devs.l x
theorem DOk.at{N:Nt}{L:List Int}{n k:Nat}(h:DOk N L n)(hk:k < n):Pl N.devs.l (nth L k):=h.2 _ (nth_mem (by rw [h.1]; exact hk))
theorem DOk.set{N:Nt}{L:List Int}{n k:Nat}{x:Int}(h:DOk N L n)(hx:Pl N.devs.l x):DOk N (L.set k x) n:=⟨by rw [List.length_set]; exact h.1,fun y hy=>by
 rcases List.mem_or_eq_of_mem_set hy with h1 | h1
 ·exact h.2 y h1
 ·rw [h1]; exact hx⟩
theorem s323(N:Nt)(L:List Int)(n:Nat)(hL:DOk N L n)(hn:n≤1000):∃ r H',Gen Tryz.prog 323 [.vec 1 1 0 n,.int .i64 0,.int .i64 n,.fn 164 [.eptr 0 0 0]] [some ⟨40,[N.v],true⟩,some ⟨3,L.map (AV.int .i64),true⟩] r H' ∧
  (r=.tup []∧∃ L2:List Int,∃ ext,H'=some ⟨40,[N.v],true⟩ :: some ⟨3,L2.map (AV.int .i64),true⟩ :: ext∧DOk N L2 n):=by
 refine gen_w (c:=c323 false) [] 4 (by kernel_rfl) (by kernel_rfl) (Nat.le_refl 4) ?_
 unfold c323
 simp (disch:=try exact Dl) only[Kl,seval,reduceCtorEq]
 refine d_lo (fun p:Nat × List Int × Hp=>⟨[(0,.vec 1 1 0 n),(1,.int .i64 0),(2,.int .i64 n),(3,.fn 164 [.eptr 0 0 0]),(8,.int .i64 (p.1+1))],some ⟨40,[N.v],true⟩ :: some ⟨3,p.2.1.map (AV.int .i64),true⟩ :: p.2.2⟩) (fun p=>p.1≤n∧DOk N p.2.1 n) (fun p=>n - p.1) ?_ ?_
 ·simp (disch:=try exact Dl) only[Kl,seval,reduceCtorEq]
  exact⟨(0,L,[]),rfl,Nat.zero_le _,hL⟩
 rintro ⟨i,G,ext⟩ ⟨hi,hG⟩
 simp only at hi hG ⊢
 unfold c323b0
 by_cases hlt:i+1 < n
 ·repeat' (first
 |simp (disch:=try exact Dl) only[Kl,seval,reduceCtorEq]
 |(with_reducible apply condC_d)<;>intro _
 |with_reducible refine e8 ?_
 |fail)
  refine d_lo (fun p:Nat × List Int × Hp=>⟨[(0,.vec 1 1 0 n),(1,.int .i64 0),(2,.int .i64 n),(3,.fn 164 [.eptr 0 0 0]),(8,.int .i64 (i+1)),(9,.int .i64 p.1)],some ⟨40,[N.v],true⟩ :: some ⟨3,p.2.1.map (AV.int .i64),true⟩ :: p.2.2⟩) (fun p=>p.1 < n∧DOk N p.2.1 n) (fun p=>p.1) ?_ ?_
  ·simp (disch:=try exact Dl) only[Kl,seval,reduceCtorEq]
   exact⟨(i+1,G,ext),rfl,hlt,hG⟩
  clear hG
  rintro ⟨j,G,ext⟩ ⟨hj,hG⟩
  simp only at hj hG ⊢
  unfold c323b1
  have hGl:=hG.1
  by_cases h0:0 < j
  ·have h1:((j:Int) - 1) =((j - 1:Nat):Int):=by omega
   have d1:=hG.at hj
   have d2:=hG.at (k:=j - 1) (by omega)
   repeat' (first
 |simp (disch:=try exact Dl) only[Kl,hGl,h1,seval,reduceCtorEq]
 |(with_reducible apply condC_d)<;>intro _
 |with_reducible refine e8 ?_
 |(refine callv_pl (by simp (disch:=try exact Dl) only[Kl,hGl,h1,wp,seval,reduceCtorEq]; rfl) (by simp (disch:=try exact Dl) only[Kl,hGl,h1,wp,seval,reduceCtorEq]) (s164 N _ _ d1 d2) (by rintro _ ⟨x,rfl⟩ <;> rfl) ?_; rintro _ ⟨x,rfl⟩; all_goals simp only[vl,wp,ts,wb])
 |fail)
   all_goals first
    | exact⟨(j - 1,_,_),rfl,⟨by simp only; omega,(hG.set d2).set d1⟩,by simp only; omega⟩
    | exact⟨(i+1,G,_),by simp only[Int.natCast_add,Int.cast_ofNat_Int]; rfl,⟨by simp only; omega,hG⟩,by simp only; omega⟩
    | trace_state
  ·obtain rfl:j=0:=by omega
   repeat' (first
 |simp (disch:=try exact Dl) only[Kl,seval,reduceCtorEq]
 |(with_reducible apply condC_d)<;>intro _
 |with_reducible refine e8 ?_
 |fail)
   exact⟨(i+1,G,_),by simp only[Int.natCast_add,Int.cast_ofNat_Int]; rfl,⟨by simp only; omega,hG⟩,by simp only; omega⟩
 ·repeat' (first
 |simp (disch:=try exact Dl) only[Kl,seval,reduceCtorEq]
 |(with_reducible apply condC_d)<;>intro _
 |with_reducible refine e8 ?_
 |fail)
  exact⟨G,_,rfl,hG⟩
theorem s251(N:Nt)(L:List Int)(n:Nat)(hL:DOk N L n)(hn:n≤19):∃ r H',Gen Tryz.prog 251 [.vec 1 1 0 n,.int .i64 n,.fn 164 [.eptr 0 0 0]] [some ⟨40,[N.v],true⟩,some ⟨3,L.map (AV.int .i64),true⟩] r H' ∧
  (r=.tup []∧∃ L2:List Int,∃ ext,H'=some ⟨40,[N.v],true⟩ :: some ⟨3,L2.map (AV.int .i64),true⟩ :: ext∧DOk N L2 n):=by
 refine gen_w (c:=c251 false) [] 3 (by kernel_rfl) (by kernel_rfl) (Nat.le_refl 3) ?_
 unfold c251
 simp (disch:=try exact Dl) only[Kl,seval,reduceCtorEq]
 refine d_lo (fun(p:Unit)=>⟨[(0,.vec 1 1 0 n),(1,.int .i64 n),(2,.fn 164 [.eptr 0 0 0]),(6,.int .i64 20),(7,.int .i64 0),(8,.int .i64 20)],[some ⟨40,[N.v],true⟩,some ⟨3,L.map (AV.int .i64),true⟩]⟩) (fun _=>True) (fun _=>0) ⟨(),rfl,trivial⟩ ?_
 rintro p -
 unfold c251b0
 repeat' (first
 |simp (disch:=try exact Dl) only[Kl,seval,reduceCtorEq]
 |with_reducible refine e8 ?_
 |fail)
 refine call_genQ (s323 N L n hL (by omega)) ?_
 rintro _ _ ⟨rfl,L2,ext,rfl,hL2⟩
 simp (disch:=try exact Dl) only[Kl,seval,reduceCtorEq]
 refine d_lo (fun(p:Unit)=>⟨[(0,.vec 1 1 0 n),(1,.int .i64 n),(2,.fn 164 [.eptr 0 0 0]),(6,.int .i64 20)],some ⟨40,[N.v],true⟩ :: some ⟨3,L2.map (AV.int .i64),true⟩ :: ext⟩) (fun _=>True) (fun _=>0) ⟨(),rfl,trivial⟩ ?_
 rintro p -
 unfold c251b1
 repeat' (first
 |simp (disch:=try exact Dl) only[Kl,seval,reduceCtorEq]
 |with_reducible refine e8 ?_
 |fail)
 exact⟨L2,_,rfl,hL2⟩
theorem s163(N:Nt)(L:List Int)(n:Nat)(hL:DOk N L n)(hn:n≤19):∃ r H',Gen Tryz.prog 163 [.vec 1 1 0 n,.fn 164 [.eptr 0 0 0]] [some ⟨40,[N.v],true⟩,some ⟨3,L.map (AV.int .i64),true⟩] r H' ∧
  (r=.tup []∧∃ L2:List Int,∃ ext,H'=some ⟨40,[N.v],true⟩ :: some ⟨3,L2.map (AV.int .i64),true⟩ :: ext∧DOk N L2 n):=by
 refine gen_w (c:=c163 false) [] 2 (by kernel_rfl) (by kernel_rfl) (Nat.le_refl 2) ?_
 unfold c163
 simp (disch:=try exact Dl) only[Kl,seval,reduceCtorEq]
 refine call_genQ (s251 N L n hL (by omega)) ?_
 rintro _ _ ⟨rfl,L2,ext,rfl,hL2⟩
 simp (disch:=try exact Dl) only[Kl,seval,reduceCtorEq]
 exact⟨L2,_,rfl,hL2⟩
theorem s74(N:Nt):∃ r,Run Tryz.prog 74 [N.v] r∧∃ u:IL,r=u.v ∧(Good N→u.l.length=N.devs.l.length∧∀ x,x∈u.l→0≤x):=by
 refine run_w (c:=c74 true) [.t 2] 1 (by kernel_rfl) (by kernel_rfl) (Nat.le_refl 1) (by simp only[wd]) ?_
 unfold c74
 by_cases hg:Good N
 ·have hdev:=hg.few.1
  repeat' (first
 |simp (disch:=try exact Dl) only[Kl,hg,seval,reduceCtorEq]
 |with_reducible refine e8 ?_
 |with_reducible refine e_app_vec ?_
 |(refine Al (s72 _) ?_;rintro _ rfl;all_goals simp only[vl,ts,wb])
 |(refine Fq ?_;first|exact e9|fail)
 |(refine fin_o [] ?_;simp (disch:=try exact Dl) only[Kl,hg,wh,seval,reduceCtorEq];refine⟨_,rfl,?_,?_⟩;(first|rfl|simp (disch:=try exact Dl) only[Kl,hg,wh,seval,reduceCtorEq]);first|exact⟨_,rfl⟩|fail)
 |fail)
  refine d_lo (fun p:List Int=>⟨[(1,.eptr 0 0 0),(3,.vec 1 1 0 p.length),(13,.int .i64 N.devs.l.length),(14,.int .i64 p.length)],[some ⟨40,[N.v],true⟩,some ⟨3,p.map (AV.int .i64),true⟩]⟩) (fun p=>p.length≤N.devs.l.length∧DOk N p p.length) (fun p=>N.devs.l.length - p.length) ?_ ?_
  ·simp (disch:=try exact Dl) only[Kl,seval,reduceCtorEq]
   exact⟨[],rfl,Nat.zero_le _,rfl,fun x hx=>absurd hx List.not_mem_nil⟩
  rintro p ⟨hp,hL⟩
  unfold c74b0
  by_cases hlt:p.length < N.devs.l.length
  ·repeat' (first
 |simp (disch:=try exact Dl) only[Kl,seval,reduceCtorEq]
 |with_reducible refine e8 ?_
 |with_reducible refine e_app_vec ?_
 |(refine Fq ?_;first|exact e9|fail)
 |(refine fin_o [] ?_;simp (disch:=try exact Dl) only[Kl,wh,seval,reduceCtorEq];refine⟨_,rfl,?_,?_⟩;(first|rfl|simp (disch:=try exact Dl) only[Kl,wh,seval,reduceCtorEq]);first|exact⟨_,rfl⟩|fail)
 |fail)
   refine⟨p ++ [(p.length:Int)],by simp only[List.map_append,List.length_append,List.length_cons,List.length_nil,List.map_cons,List.map_nil,Int.natCast_add,Int.cast_ofNat_Int,Nat.zero_add],⟨by simp; omega,by simp,?_⟩,by simp; omega⟩
   ·intro x hx
    rcases List.mem_append.1 hx with h | h
    ·exact hL.2 x h
    ·rw [List.mem_singleton.1 h]; exact⟨by omega,by omega⟩
  ·obtain ⟨n,hn⟩:∃ n:Nat,n=p.length:=⟨_,rfl⟩
   have hn2:n=N.devs.l.length:=by omega
   have hn8:n≤8:=by have:=hg.few.1; omega
   rw [← hn] at hL
   repeat' (first
 |simp (disch:=try exact Dl) only[Kl,← hn,seval,reduceCtorEq]
 |with_reducible refine e8 ?_
 |with_reducible refine e_app_vec ?_
 |(refine Fq ?_;first|exact e9|fail)
 |(refine fin_o [] ?_;simp (disch:=try exact Dl) only[Kl,← hn,wh,seval,reduceCtorEq];refine⟨_,rfl,?_,?_⟩;(first|rfl|simp (disch:=try exact Dl) only[Kl,← hn,wh,seval,reduceCtorEq]);first|exact⟨_,rfl⟩|fail)
 |fail)
   refine call_genQ (s163 N p n hL (by have:=hg.few; omega)) ?_
   rintro _ _ ⟨rfl,L2,ext,rfl,hL2⟩
   simp (disch:=try exact Dl) only[Kl,seval,reduceCtorEq]
   refine⟨by have:=hg.few.1; omega,?_⟩
   obtain ⟨Z,hZ,hZl,hZ0⟩:∃ Z:List Int,List.replicate n (AV.int .i64 0)=Z.map (AV.int .i64)∧Z.length=n∧∀ x,x∈Z→0≤x:=⟨List.replicate n 0,by simp,by simp,fun x hx=>by rw [List.eq_of_mem_replicate hx]; omega⟩
   rw [hZ]
   refine d_lo (fun p:Nat × List Int=>⟨[(5,.vec 0 1 0 n),(28,.vec 1 1 0 n),(29,.int .i64 n),(30,.int .i64 p.1)],[some ⟨3,p.2.map (AV.int .i64),true⟩,some ⟨3,L2.map (AV.int .i64),true⟩]⟩) (fun p=>p.1≤n∧p.2.length=n∧∀ x,x∈p.2→0≤x) (fun p=>n - p.1) ?_ ?_
   ·simp (disch:=try exact Dl) only[Kl,seval,reduceCtorEq]
    exact⟨(0,Z),rfl,Nat.zero_le _,hZl,hZ0⟩
   rintro ⟨k,G⟩ ⟨hk,hGl,hG⟩
   simp only at hk hGl hG ⊢
   unfold c74b1
   by_cases hlt:k < n
   ·have d:=hL2.at hlt
    have hl2:=hL2.1
    repeat' (first
 |simp (disch:=try exact Dl) only[Kl,hl2,seval,reduceCtorEq]
 |with_reducible refine e8 ?_
 |with_reducible refine e_app_vec ?_
 |(refine Fq ?_;first|exact e9|fail)
 |(refine fin_o [] ?_;simp (disch:=try exact Dl) only[Kl,hl2,wh,seval,reduceCtorEq];refine⟨_,rfl,?_,?_⟩;(first|rfl|simp (disch:=try exact Dl) only[Kl,hl2,wh,seval,reduceCtorEq]);first|exact⟨_,rfl⟩|fail)
 |fail)
    refine⟨(k+1,_),rfl,⟨by simp only; omega,by simp only[List.length_set]; omega,fun x hx=>?_⟩,by simp only; omega⟩
    rcases List.mem_or_eq_of_mem_set hx with h | h
    ·exact hG x h
    ·rw [h]; omega
   ·have hGl':G.length≤140737488355328:=Nat.le_trans (by omega:G.length≤8) (Nat.le_of_ble_eq_true rfl)
    subst hGl
    repeat' (first
 |simp (disch:=try exact Dl) only[Kl,seval,reduceCtorEq]
 |with_reducible refine e8 ?_
 |with_reducible refine e_app_vec ?_
 |(refine Fq ?_;first|exact⟨SL.of G hGl',SL.ofe,fun _=>⟨by show G.length=_; omega,hG⟩⟩|exact e9|fail)
 |(refine fin_o [] ?_;simp (disch:=try exact Dl) only[Kl,wh,seval,reduceCtorEq];refine⟨_,rfl,?_,?_⟩;(first|rfl|simp (disch:=try exact Dl) only[Kl,wh,seval,reduceCtorEq]);first|exact⟨SL.of G hGl',SL.ofe,fun _=>⟨by show G.length=_; omega,hG⟩⟩|exact⟨_,rfl⟩|fail)
 |fail)
 ·repeat' (first
 |simp (disch:=try exact Dl) only[Kl,hg,seval,reduceCtorEq]
 |with_reducible refine e8 ?_
 |with_reducible refine e_app_vec ?_
 |(refine Al (s72 _) ?_;rintro _ rfl;all_goals simp only[vl,ts,wb])
 |(refine Fq ?_;first|exact e9|fail)
 |(refine fin_o [] ?_;simp (disch:=try exact Dl) only[Kl,hg,wh,seval,reduceCtorEq];refine⟨_,rfl,?_,?_⟩;(first|rfl|simp (disch:=try exact Dl) only[Kl,hg,wh,seval,reduceCtorEq]);first|exact⟨_,rfl⟩|fail)
 |fail)
  exact fin_nr (by simp only[wd]) ⟨SL.nil,SL.nile,fun h=>h.elim⟩
end Go.Proofs
set_option maxHeartbeats 4000000
set_option maxRecDepth 100000
namespace Go.Proofs
open Go Go.Pv Go.Proofs.Tx
variable [Lq]
open W
open Classical
theorem s165e(a b c d e:Int):∃ r,Run Tryz.prog 165 [.sl 1 [.int .i64 a,.int .i64 b,.int .i64 c,.int .i64 d,.int .i64 e] false] r∧∃ n,r=.int .i64 n:=by
 have:=s165 (SL.of [a,b,c,d,e] (Nat.le_of_ble_eq_true rfl))
 rwa [← SL.ofe] at this
def vq(x y:Ve):Bool:=(x.root == y.root) && ((x.cost == y.cost) && ((x.bridge == y.bridge) && ((x.port == y.port) && ((x.own == y.own) && true))))
theorem Ve.eqS{C:AV→Prop}{x y:Ve}:vP (.eqS false [0,0,0,0,0] (.c x.v) (.c y.v)) C=C (.bool (decide (vq x y=true))):=by
 rw [Ve.e,Ve.e,v_eqS (b:=vq x y) rfl,Bool.decide_eq_true]
 rfl
theorem s256(a c:Ve):∃ r,Run Tryz.prog 256 [a.v,c.v] r∧∃ x,r=.bool x:=by
 refine run_w (c:=c256 true) [.t 4] 2 (by kernel_rfl) (by kernel_rfl) (Nat.le_refl 2) (by simp only[wd]) ?_
 unfold c256
 simp (disch:=try exact Dl) only[Kl,Ve.eqS,seval,reduceCtorEq]
 cases vq a c
 ·repeat' (first
 |simp (disch:=try exact Dl) only[Kl,seval,reduceCtorEq]
 |with_reducible refine e8 ?_
 |(refine Al (s166 _ _) ?_;rintro _ ⟨x,rfl⟩;all_goals simp only[vl,ts,wb])
 |(refine callv_nr (s166 _ _) (by simp only[wd,seval,not_false_eq_true]) ?_; rintro _ ⟨y,rfl⟩; all_goals simp only[vl,ts,wb])
 |(refine callv_pl (by simp (disch:=try exact Dl) only[Kl,wp,seval,reduceCtorEq]; rfl) (by simp (disch:=try exact Dl) only[Kl,wp,seval,reduceCtorEq]) (s165e _ _ _ _ _) (by rintro _ ⟨n,rfl⟩ <;> rfl) ?_; rintro _ ⟨n,rfl⟩; all_goals simp only[vl,wp,ts,wb])
 |(refine Fq ?_;first|exact e9|fail)
 |fail)
 ·repeat' (first
 |simp (disch:=try exact Dl) only[Kl,seval,reduceCtorEq]
 |with_reducible refine e8 ?_
 |(refine Fq ?_;first|exact e9|fail)
 |fail)
theorem s171(u:SL Ve Ve.v 5):∃ r,Run Tryz.prog 171 [u.v] r∧∃ x b,r=.tup [Ve.v x,.bool b] ∧(b=true→x∈u.l):=by
 have hu:=u.n
 refine run_w (c:=c171 true) [.c 2 5 true,.t 3] 1 (by kernel_rfl) (by kernel_rfl) (Nat.le_refl 1) (by simp only[wd]) ?_
 unfold c171
 repeat' (first
 |simp (disch:=try exact Dl) only[Kl,seval,reduceCtorEq]
 |(with_reducible apply condC_d)<;>intro _
 |with_reducible refine e8 ?_
 |(refine Fq ?_;first|(refine⟨_,_,rfl,fun h=>absurd h (by decide)⟩)|exact e9|fail)
 |fail)
 have hmem:nth u.l 0∈u.l:=nth_mem (by omega)
 refine d_lo (fun p:Nat × Ve=>⟨[(2,.eptr 0 0 0),(4,.eptr 1 0 0),(14,u.v),(15,.int .i64 u.l.length),(16,.int .i64 p.1)],[some ⟨288,[Ve.v default],true⟩,some ⟨288,[p.2.v],true⟩]⟩) (fun p=>p.1≤u.l.length∧p.2∈u.l) (fun p=>u.l.length - p.1) ?_ ?_
 ·simp (disch:=try exact Dl) only[Kl,seval,reduceCtorEq]
  exact⟨(0,nth u.l 0),rfl,Nat.zero_le _,hmem⟩
 rintro ⟨k,w⟩ ⟨hk,hw⟩
 simp only at hk hw ⊢
 unfold c171b0
 by_cases hlt:k < u.l.length
 ·have hm:nth u.l k∈u.l:=nth_mem hlt
  repeat' (first
 |simp (disch:=try exact Dl) only[Kl,seval,reduceCtorEq]
 |(with_reducible apply condC_d)<;>intro _
 |with_reducible refine e8 ?_
 |(refine Al (s256 _ _) ?_;rintro _ ⟨_ | _,rfl⟩;all_goals simp only[vl,ts,wb])
 |(refine Fq ?_;first|exact e9|fail)
 |fail)
  ·exact⟨(k+1,w),rfl,⟨by simp only; omega,hw⟩,by simp only; omega⟩
  ·exact⟨(k+1,_),rfl,⟨by simp only; omega,hm⟩,by simp only; omega⟩
 ·repeat' (first
 |simp (disch:=try exact Dl) only[Kl,seval,reduceCtorEq]
 |(with_reducible apply condC_d)<;>intro _
 |with_reducible refine e8 ?_
 |(refine Fq ?_;first|exact⟨_,_,rfl,fun _=>hw⟩|exact e9|fail)
 |fail)
end Go.Proofs
