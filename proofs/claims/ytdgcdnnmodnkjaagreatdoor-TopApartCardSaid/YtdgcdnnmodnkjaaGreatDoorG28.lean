/- Part 28 of a proof that a step of one domain changes nothing of another: the machine of plain values, and what the program's functions do. -/
import Derived.Test.YtdgcdnnmodnkjaaGreatDoorG27
set_option linter.all false
set_option linter.unusedVariables false
set_option linter.unusedSectionVars false
set_option linter.unusedSimpArgs false
set_option linter.defProp false
set_option maxHeartbeats 4000000
set_option maxRecDepth 100000
namespace Go.Proofs
open Go Go.Pv Go.Proofs.Tx
variable [Lq]
open W
open Classical
theorem s131(N:Nt)(l:Ln)(hS:LnS l):∃ r,Run Tryz.prog 131 [N.v,l.v] r∧∃ M:Nt,∃ e,r=.tup [M.v,.int .i64 e]∧okE e ∧(CostOk N→CostOk M):=by
 have ok:∀ e:Int,0≤e∧e < 64→okE e:=fun e h=>h
 refine run_w (c:=c131 true) [.c 4 8 true,.t 5] 2 (by kernel_rfl) (by kernel_rfl) (Nat.le_refl 2) (by simp only[wd]) ?_
 unfold c131
 simp (disch:=try exact Dk) only[Kk,seval,reduceCtorEq]
 refine Ak (s225 N l _ hS) ?_
 rintro _ ⟨d,e,rfl,he,hd⟩
 simp only[vl,ts,wb]
 simp (disch:=try exact Dk) only[Kk,seval,reduceCtorEq]
 by_cases h0:e=0
 ·obtain ⟨hg,hl,hk,hdp⟩:=hd h0
  obtain ⟨f1,f2,f3,f4,f5,f6,f7,f8⟩:=hg.few
  subst h0
  repeat' (first
 |simp (disch:=try exact Dk) only[Kk,cpA,take_map_all,mo,seval,reduceCtorEq]
 |(with_reducible first|apply condC_d|apply gC_d0)<;>intro _
 |with_reducible refine e8 ?_
 |(refine Ak (s85 _ _ _) ?_;rintro _ ⟨i,rfl,hi⟩; have hi':=hi.lt;all_goals simp only[vl,ts,wb])
 |(refine Ak (s137 _ _ _) ?_;rintro _ ⟨j,rfl,hj⟩;all_goals simp only[vl,ts,wb])
 |(refine Ak (s20 _ hg) ?_;rintro _ rfl; simp only[cpA];all_goals simp only[vl,ts,wb])
 |(refine Fk ?_;first|exact⟨_,_,rfl,ok _ (by omega),fun _=>cok0⟩|exact⟨_,_,rfl,ok _ (by omega),fun hc=>cost_cp hc⟩|exact e9|fail)
 |(refine fin_o [] ?_;simp (disch:=try exact Dk) only[Kk,cpA,take_map_all,mo,wh,seval,reduceCtorEq];refine⟨_,rfl,?_,?_⟩;(first|rfl|simp (disch:=try exact Dk) only[Kk,cpA,take_map_all,mo,wh,seval,reduceCtorEq]);first|exact⟨_,_,rfl,ok _ (by omega),fun _=>cok0⟩|exact⟨_,_,rfl,ok _ (by omega),fun hc=>cost_cp hc⟩|exact⟨_,rfl⟩|fail)
 |fail)
 ·repeat' (first
 |simp (disch:=try exact Dk) only[Kk,h0,not_false_eq_true,seval,reduceCtorEq]
 |(with_reducible first|apply condC_d|apply gC_d0)<;>intro _
 |with_reducible refine e8 ?_
 |(refine Fk ?_;first|exact⟨_,_,rfl,he,fun _=>cok0⟩|exact e9|fail)
 |(refine fin_o [] ?_;simp (disch:=try exact Dk) only[Kk,h0,not_false_eq_true,wh,seval,reduceCtorEq];refine⟨_,rfl,?_,?_⟩;(first|rfl|simp (disch:=try exact Dk) only[Kk,h0,not_false_eq_true,wh,seval,reduceCtorEq]);first|exact⟨_,_,rfl,he,fun _=>cok0⟩|exact⟨_,rfl⟩|fail)
 |fail)
theorem s132(N:Nt)(l:Ln)(hS:LnS l):∃ r,Run Tryz.prog 132 [N.v,l.v] r∧∃ M:Nt,∃ e,r=.tup [M.v,.int .i64 e]∧okE e ∧(CostOk N→CostOk M):=by
 have ok:∀ e:Int,0≤e∧e < 64→okE e:=fun e h=>h
 refine run_w (c:=c132 true) [.c 4 8 true,.t 5] 2 (by kernel_rfl) (by kernel_rfl) (Nat.le_refl 2) (by simp only[wd]) ?_
 unfold c132
 simp (disch:=try exact Dk) only[Kk,seval,reduceCtorEq]
 refine Ak (s225 N l _ hS) ?_
 rintro _ ⟨d,e,rfl,he,hd⟩
 simp only[vl,ts,wb]
 simp (disch:=try exact Dk) only[Kk,seval,reduceCtorEq]
 by_cases h0:e=0
 ·obtain ⟨hg,hl,hk,hdp⟩:=hd h0
  obtain ⟨f1,f2,f3,f4,f5,f6,f7,f8⟩:=hg.few
  have ha:=hl.addrs hk
  subst h0
  repeat' (first
 |simp (disch:=try exact Dk) only[Kk,cpA,take_map_all,mo,seval,reduceCtorEq]
 |(with_reducible apply condC_d)<;>intro _
 |with_reducible refine e8 ?_
 |with_reducible refine e_app_vec ?_
 |(refine Ak (s137 _ _ _) ?_;rintro _ ⟨i,rfl,hi⟩;all_goals simp only[vl,ts,wb])
 |(refine Ak (s136 _ _ _) ?_;rintro _ ⟨j,rfl,hj⟩;all_goals simp only[vl,ts,wb])
 |(refine callv_nr (s226 _ _) (by simp only[wd,seval,not_false_eq_true]) ?_; rintro _ rfl; all_goals simp only[vl,ts,wb])
 |(refine Ak (r50 _ (by omega)) ?_;rintro _ rfl;all_goals simp only[vl,ts,wb])
 |(refine Ak (s20 _ hg) ?_;rintro _ rfl; simp only[cpA];all_goals simp only[vl,ts,wb])
 |(refine Fk ?_;first|exact⟨_,_,rfl,ok _ (by omega),fun _=>cok0⟩|exact⟨_,_,rfl,ok _ (by omega),fun hc=>cost_cp hc⟩|exact e9|fail)
 |(refine fin_o [] ?_;simp (disch:=try exact Dk) only[Kk,cpA,take_map_all,mo,wh,seval,reduceCtorEq];refine⟨_,rfl,?_,?_⟩;(first|rfl|simp (disch:=try exact Dk) only[Kk,cpA,take_map_all,mo,wh,seval,reduceCtorEq]);first|exact⟨_,_,rfl,ok _ (by omega),fun _=>cok0⟩|exact⟨_,_,rfl,ok _ (by omega),fun hc=>cost_cp hc⟩|exact⟨_,rfl⟩|fail)
 |fail)
 ·repeat' (first
 |simp (disch:=try exact Dk) only[Kk,h0,not_false_eq_true,seval,reduceCtorEq]
 |(with_reducible apply condC_d)<;>intro _
 |with_reducible refine e8 ?_
 |with_reducible refine e_app_vec ?_
 |(refine Fk ?_;first|exact⟨_,_,rfl,he,fun _=>cok0⟩|exact e9|fail)
 |(refine fin_o [] ?_;simp (disch:=try exact Dk) only[Kk,h0,not_false_eq_true,wh,seval,reduceCtorEq];refine⟨_,rfl,?_,?_⟩;(first|rfl|simp (disch:=try exact Dk) only[Kk,h0,not_false_eq_true,wh,seval,reduceCtorEq]);first|exact⟨_,_,rfl,he,fun _=>cok0⟩|exact⟨_,rfl⟩|fail)
 |fail)
theorem s133(N:Nt)(l:Ln)(hS:LnS l):∃ r,Run Tryz.prog 133 [N.v,l.v] r∧∃ M:Nt,∃ e,r=.tup [M.v,.int .i64 e]∧okE e ∧(CostOk N→CostOk M):=by
 have ok:∀ e:Int,0≤e∧e < 64→okE e:=fun e h=>h
 refine run_w (c:=c133 true) [.c 4 8 true,.t 5] 2 (by kernel_rfl) (by kernel_rfl) (Nat.le_refl 2) (by simp only[wd]) ?_
 unfold c133
 simp (disch:=try exact Dk) only[Kk,seval,reduceCtorEq]
 refine Ak (s227 N l _ hS) ?_
 rintro _ ⟨d,e,rfl,he,hd⟩
 simp only[vl,ts,wb]
 simp (disch:=try exact Dk) only[Kk,seval,reduceCtorEq]
 by_cases h0:e=0
 ·obtain ⟨hg,hl,hk,hdp⟩:=hd h0
  obtain ⟨f1,f2,f3,f4,f5,f6,f7,f8⟩:=hg.few
  have ha:=(hl.imports hk).1
  have hb:=(hl.imports hk).2
  subst h0
  repeat' (first
 |simp (disch:=try exact Dk) only[Kk,cpA,take_map_all,mo,seval,reduceCtorEq]
 |(with_reducible apply condC_d)<;>intro _
 |with_reducible refine e8 ?_
 |with_reducible refine e_app_vec ?_
 |(refine Ak (s228 _ _ _) ?_;rintro _ ⟨i,rfl,hi⟩;all_goals simp only[vl,ts,wb])
 |(refine Ak (r49 _ (by omega)) ?_;rintro _ rfl;all_goals simp only[vl,ts,wb])
 |(refine Ak (s20 _ hg) ?_;rintro _ rfl; simp only[cpA];all_goals simp only[vl,ts,wb])
 |(refine Fk ?_;first|exact⟨_,_,rfl,ok _ (by omega),fun _=>cok0⟩|exact⟨_,_,rfl,ok _ (by omega),fun hc=>cost_cp hc⟩|exact e9|fail)
 |(refine fin_o [] ?_;simp (disch:=try exact Dk) only[Kk,cpA,take_map_all,mo,wh,seval,reduceCtorEq];refine⟨_,rfl,?_,?_⟩;(first|rfl|simp (disch:=try exact Dk) only[Kk,cpA,take_map_all,mo,wh,seval,reduceCtorEq]);first|exact⟨_,_,rfl,ok _ (by omega),fun _=>cok0⟩|exact⟨_,_,rfl,ok _ (by omega),fun hc=>cost_cp hc⟩|exact⟨_,rfl⟩|fail)
 |fail)
 ·repeat' (first
 |simp (disch:=try exact Dk) only[Kk,h0,not_false_eq_true,seval,reduceCtorEq]
 |(with_reducible apply condC_d)<;>intro _
 |with_reducible refine e8 ?_
 |with_reducible refine e_app_vec ?_
 |(refine Fk ?_;first|exact⟨_,_,rfl,he,fun _=>cok0⟩|exact e9|fail)
 |(refine fin_o [] ?_;simp (disch:=try exact Dk) only[Kk,h0,not_false_eq_true,wh,seval,reduceCtorEq];refine⟨_,rfl,?_,?_⟩;(first|rfl|simp (disch:=try exact Dk) only[Kk,h0,not_false_eq_true,wh,seval,reduceCtorEq]);first|exact⟨_,_,rfl,he,fun _=>cok0⟩|exact⟨_,rfl⟩|fail)
 |fail)
theorem s231(N:Nt)(x:Ib)(d:Int)(p:Px)(hx:Pl N.vrfs.l x.vrf):∃ r,Run Tryz.prog 231 [N.v,x.v,.int .i64 d,p.v] r∧∃ b,r=.bool b:=by
 refine run_w (c:=c231 true) [.t 8] 4 (by kernel_rfl) (by kernel_rfl) (Nat.le_refl 4) (by simp only[wd]) ?_
 unfold c231
 repeat' (first
 |simp (disch:=try exact Dk) only[Kk,seval,reduceCtorEq]
 |(with_reducible first|apply gC_d0|apply gC_d1)<;>intro _
 |with_reducible refine e8 ?_
 |(refine Ak (s268 _ _) ?_;rintro _ ⟨_ | _,rfl⟩;all_goals simp only[vl,ts,wb])
 |(refine Fk ?_;first|exact e9|fail)
 |fail)
theorem s230(N:Nt)(x:Ib)(d:Int)(l:Ln)(hx:Pl N.vrfs.l x.vrf):∃ r,Run Tryz.prog 230 [x.v,.rptr N.v 0,.rptr (.int .i64 d) 0,.rptr l.v 0] r∧∃ b,r=.bool b:=by
 refine run_w (c:=c230 true) [.t 5] 4 (by kernel_rfl) (by kernel_rfl) (Nat.le_refl 4) (by simp only[wd]) ?_
 unfold c230
 repeat' (first
 |simp (disch:=try exact Dk) only[Kk,seval,reduceCtorEq]
 |with_reducible refine e8 ?_
 |(refine Ak (s231 _ _ _ _ hx) ?_;rintro _ ⟨b,rfl⟩;all_goals simp only[vl,ts,wb])
 |(refine Fk ?_;first|exact e9|fail)
 |fail)
theorem s229'(N:Nt)(d:Int)(l:Ln)(hg:Good N):∃ r,Run Tryz.prog 229 [N.irbs.v,.fn 230 [.rptr N.v 0,.rptr (.int .i64 d) 0,.rptr l.v 0]] r∧∃ b,r=.bool b:=by
 have hk:Clo Ib Ib.v (fun x=>∃ r,Run Tryz.prog 230 [x.v,.rptr N.v 0,.rptr (.int .i64 d) 0,.rptr l.v 0] r∧r=.bool true) N.irbs.l 230 [.rptr N.v 0,.rptr (.int .i64 d) 0,.rptr l.v 0]:=⟨by decide,by simp only[wd],fun x hx=>by
  obtain ⟨k,hk,rfl⟩:=nth_of hx
  have hv:=(hg.irbs k hk).2.1
  obtain ⟨_,h1,b,rfl⟩:=s230 N (nth N.irbs.l k) d l hv
  cases b with
  | true=>exact⟨_,h1,true,rfl,fun _=>⟨_,h1,rfl⟩,fun _=>rfl⟩
  | false =>
   by_cases hq:∃ r,Run Tryz.prog 230 [(nth N.irbs.l k).v,.rptr N.v 0,.rptr (.int .i64 d) 0,.rptr l.v 0] r∧r=.bool true
   ·obtain ⟨_,h2,rfl⟩:=hq
    exact⟨_,h2,true,rfl,fun _=>⟨_,h2,rfl⟩,fun _=>rfl⟩
   ·exact⟨_,h1,false,rfl,fun h=>absurd h Bool.false_ne_true,fun h=>absurd h hq⟩⟩
 obtain ⟨_,h1,b,rfl,_⟩:=s229 N.irbs hk
 exact⟨_,h1,b,rfl⟩
theorem s134(N:Nt)(l:Ln)(hS:LnS l):∃ r,Run Tryz.prog 134 [N.v,l.v] r∧∃ M:Nt,∃ e,r=.tup [M.v,.int .i64 e]∧okE e ∧(CostOk N→CostOk M):=by
 have ok:∀ e:Int,0≤e∧e < 64→okE e:=fun e h=>h
 refine run_w (c:=c134 true) [.c 4 8 true,.t 5] 2 (by kernel_rfl) (by kernel_rfl) (Nat.le_refl 2) (by simp only[wd]) ?_
 unfold c134
 simp (disch:=try exact Dk) only[Kk,seval,reduceCtorEq]
 refine Ak (s227 N l _ hS) ?_
 rintro _ ⟨d,e,rfl,he,hd⟩
 simp only[vl,ts,wb]
 simp (disch:=try exact Dk) only[Kk,seval,reduceCtorEq]
 by_cases h0:e=0
 ·obtain ⟨hg,hl,hk,hdp⟩:=hd h0
  obtain ⟨f1,f2,f3,f4,f5,f6,f7,f8⟩:=hg.few
  subst h0
  repeat' (first
 |simp (disch:=try exact Dk) only[Kk,cpA,take_map_all,mo,Px.flat_e,seval,reduceCtorEq]
 |(with_reducible first|apply condC_d|apply gC_d0)<;>intro _
 |with_reducible refine e8 ?_
 |with_reducible refine e_app_vec ?_
 |(refine Ak (s228 _ _ _) ?_;rintro _ ⟨i,rfl,hi⟩; have hi':=hi.lt;all_goals simp only[vl,ts,wb])
 |(refine callv_nr (s85 _ _ _) (by simp only[wd,seval,not_false_eq_true]) ?_; rintro _ ⟨j,rfl,hj⟩; have hj':=hj.lt; all_goals simp only[vl,ts,wb])
 |(refine call_rn (by simp (disch:=try exact Dk) only[Kk,cpA,take_map_all,mo,Px.flat_e,wp,seval,reduceCtorEq]; rfl) (by simp (disch:=try exact Dk) only[Kk,cpA,take_map_all,mo,Px.flat_e,wp,seval,reduceCtorEq]) (s229' N d l hg) ?_; rintro _ ⟨_ | _,rfl⟩; all_goals simp only[vl,wp,ts,wb])
 |(refine Ak (s20 _ hg) ?_;rintro _ rfl; simp only[cpA];all_goals simp only[vl,ts,wb])
 |(refine Fk ?_;first|exact⟨_,_,rfl,ok _ (by omega),fun _=>cok0⟩|exact⟨_,_,rfl,ok _ (by omega),fun hc=>cost_cp hc⟩|exact e9|fail)
 |(refine fin_o [] ?_;simp (disch:=try exact Dk) only[Kk,cpA,take_map_all,mo,Px.flat_e,wh,seval,reduceCtorEq];refine⟨_,rfl,?_,?_⟩;(first|rfl|simp (disch:=try exact Dk) only[Kk,cpA,take_map_all,mo,Px.flat_e,wh,seval,reduceCtorEq]);first|exact⟨_,_,rfl,ok _ (by omega),fun _=>cok0⟩|exact⟨_,_,rfl,ok _ (by omega),fun hc=>cost_cp hc⟩|exact⟨_,rfl⟩|fail)
 |fail)
 ·repeat' (first
 |simp (disch:=try exact Dk) only[Kk,h0,not_false_eq_true,seval,reduceCtorEq]
 |(with_reducible first|apply condC_d|apply gC_d0)<;>intro _
 |with_reducible refine e8 ?_
 |with_reducible refine e_app_vec ?_
 |(refine Fk ?_;first|exact⟨_,_,rfl,he,fun _=>cok0⟩|exact e9|fail)
 |(refine fin_o [] ?_;simp (disch:=try exact Dk) only[Kk,h0,not_false_eq_true,wh,seval,reduceCtorEq];refine⟨_,rfl,?_,?_⟩;(first|rfl|simp (disch:=try exact Dk) only[Kk,h0,not_false_eq_true,wh,seval,reduceCtorEq]);first|exact⟨_,_,rfl,he,fun _=>cok0⟩|exact⟨_,rfl⟩|fail)
 |fail)
end Go.Proofs
set_option maxHeartbeats 4000000
set_option maxRecDepth 100000
namespace Go.Proofs
open Go Go.Pv Go.Proofs.Tx
variable [Lq]
open W
open Classical
theorem s129(N:Nt)(l:Ln)(hS:LnS l):∃ r,Run Tryz.prog 129 [N.v,l.v] r∧∃ M:Nt,∃ e,r=.tup [M.v,.int .i64 e]∧okE e ∧(CostOk N→CostOk M):=by
 have ok:∀ e:Int,0≤e∧e < 64→okE e:=fun e h=>h
 refine run_w (c:=c129 true) [.c 4 8 true,.t 5] 2 (by kernel_rfl) (by kernel_rfl) (Nat.le_refl 2) (by simp only[wd]) ?_
 unfold c129
 by_cases hg:Good N
 ·obtain ⟨f1,f2,f3,f4,f5,f6,f7,f8⟩:=hg.few
  repeat' (first
 |simp (disch:=try exact Dk) only[Kk,cpA,take_map_all,mo,hg,seval,reduceCtorEq]
 |(with_reducible first|apply condC_d|apply gC_d0)<;>intro _
 |with_reducible refine e8 ?_
 |with_reducible refine e_app_vec ?_
 |(refine Ak (s222 _ hS) ?_;rintro _ ⟨_ | _,rfl,hl⟩;all_goals simp only[vl,ts,wb])
 |(refine Ak (s72 _) ?_;rintro _ rfl;all_goals simp only[vl,ts,wb])
 |(refine Ak (s219 _ _) ?_;rintro _ ⟨i,rfl,hi⟩; have hi':=hi.lt;all_goals simp only[vl,ts,wb])
 |(refine Ak (s220 _ _ _) ?_;rintro _ ⟨p,rfl,hp⟩; have hp':=hp.lt;all_goals simp only[vl,ts,wb])
 |(refine callv_nr (s85 _ _ _) (by simp only[wd,seval,not_false_eq_true]) ?_; rintro _ ⟨j,rfl,hj⟩; have hj':=hj.lt; all_goals simp only[vl,ts,wb])
 |(refine callv_nr (s190 _ _) (by simp only[wd,seval,not_false_eq_true]) ?_; rintro _ rfl; all_goals simp only[vl,ts,wb])
 |(refine Ak (s224 _ _ _) ?_;rintro _ ⟨x,rfl,hx⟩;all_goals simp only[vl,ts,wb])
 |(refine Ak (s20 _ hg) ?_;rintro _ rfl; simp only[cpA];all_goals simp only[vl,ts,wb])
 |(refine Fk ?_;first|exact⟨_,_,rfl,ok _ (by omega),fun _=>cok0⟩|exact⟨_,_,rfl,ok _ (by omega),fun hc=>cost_cp hc⟩|exact e9|fail)
 |(refine fin_o [] ?_;simp (disch:=try exact Dk) only[Kk,cpA,take_map_all,mo,hg,wh,seval,reduceCtorEq];refine⟨_,rfl,?_,?_⟩;(first|rfl|simp (disch:=try exact Dk) only[Kk,cpA,take_map_all,mo,hg,wh,seval,reduceCtorEq]);first|exact⟨_,_,rfl,ok _ (by omega),fun _=>cok0⟩|exact⟨_,_,rfl,ok _ (by omega),fun hc=>cost_cp hc⟩|exact⟨_,rfl⟩|fail)
 |fail)
 ·repeat' (first
 |simp (disch:=try exact Dk) only[Kk,hg,seval,reduceCtorEq]
 |(with_reducible first|apply condC_d|apply gC_d0)<;>intro _
 |with_reducible refine e8 ?_
 |with_reducible refine e_app_vec ?_
 |(refine Ak (s222 _ hS) ?_;rintro _ ⟨_ | _,rfl,hl⟩;all_goals simp only[vl,ts,wb])
 |(refine Ak (s72 _) ?_;rintro _ rfl;all_goals simp only[vl,ts,wb])
 |(refine Fk ?_;first|exact⟨_,_,rfl,ok _ (by omega),fun _=>cok0⟩|exact e9|fail)
 |(refine fin_o [] ?_;simp (disch:=try exact Dk) only[Kk,hg,wh,seval,reduceCtorEq];refine⟨_,rfl,?_,?_⟩;(first|rfl|simp (disch:=try exact Dk) only[Kk,hg,wh,seval,reduceCtorEq]);first|exact⟨_,_,rfl,ok _ (by omega),fun _=>cok0⟩|exact⟨_,rfl⟩|fail)
 |fail)
theorem s128(N:Nt)(l:Ln)(hS:LnS l):∃ r,Run Tryz.prog 128 [N.v,l.v] r∧∃ M:Nt,∃ e,r=.tup [M.v,.int .i64 e]∧okE e ∧(CostOk N→CostOk M):=by
 have ok:∀ e:Int,0≤e∧e < 64→okE e:=fun e h=>h
 refine run_w (c:=c128 true) [.c 4 8 true,.t 5] 2 (by kernel_rfl) (by kernel_rfl) (Nat.le_refl 2) (by simp only[wd]) ?_
 unfold c128
 by_cases hg:Good N
 ·obtain ⟨f1,f2,f3,f4,f5,f6,f7,f8⟩:=hg.few
  repeat' (first
 |simp (disch:=try exact Dk) only[Kk,hg,seval,reduceCtorEq]
 |(with_reducible first|apply condC_d|apply gC_d0)<;>intro _
 |with_reducible refine e8 ?_
 |with_reducible refine e_app_vec ?_
 |(refine Ak (s222 _ hS) ?_;rintro _ ⟨_ | _,rfl,_⟩;all_goals simp only[vl,ts,wb])
 |(refine Ak (s72 _) ?_;rintro _ rfl;all_goals simp only[vl,ts,wb])
 |(refine Ak (s223 _ _ _) ?_;rintro _ ⟨_,rfl,_⟩;all_goals simp only[vl,ts,wb])
 |(refine Fk ?_;first|exact⟨_,_,rfl,ok _ (by omega),fun _=>cok0⟩|exact e9|fail)
 |(refine fin_o [] ?_;simp (disch:=try exact Dk) only[Kk,hg,wh,seval,reduceCtorEq];refine⟨_,rfl,?_,?_⟩;(first|rfl|simp (disch:=try exact Dk) only[Kk,hg,wh,seval,reduceCtorEq]);first|exact⟨_,_,rfl,ok _ (by omega),fun _=>cok0⟩|exact⟨_,rfl⟩|fail)
 |fail)
  rename_i a ha b hb
  refine d_lo (fun k:Nat=>⟨[(2,.eptr 0 0 0),(3,.eptr 1 0 0),(4,.eptr 2 0 0),(6,.eptr 3 0 0),(41,.agg [.int .i64 a,.int .i64 b]),(42,.int .i64 k)],[some ⟨40,[N.v],true⟩,some ⟨72,[l.v],true⟩,some ⟨40,[(default:Nt).v],true⟩,some ⟨355,[.agg [.int .i64 a,.int .i64 b]],true⟩]⟩) (fun k=>k≤2 ∧(0 < k→0≤a) ∧(1 < k→0≤b)) (fun k=>2 - k) ?_ ?_
  ·simp (disch:=try exact Dk) only[Kk,seval,reduceCtorEq]
   exact⟨0,rfl,by simp⟩
  rintro k ⟨hk,hka,hkb⟩
  simp only at hk ⊢
  unfold c128b0
  by_cases h4:k < 2
  ·obtain rfl | rfl:k=0∨k=1:=by omega
   all_goals repeat' (first
 |simp (disch:=try exact Dk) only[Kk,cast0,cast1,cast2,one_mul',seval,reduceCtorEq]
 |(with_reducible first|apply condC_d|apply gC_d0)<;>intro _
 |with_reducible refine e8 ?_
 |with_reducible refine e_app_vec ?_
 |(refine⟨_,rfl,⟨?_,?_,?_⟩,?_⟩ <;> omega)
 |(refine Fk ?_;first|exact⟨_,_,rfl,ok _ (by omega),fun _=>cok0⟩|exact e9|fail)
 |(refine fin_o [] ?_;simp (disch:=try exact Dk) only[Kk,cast0,cast1,cast2,one_mul',wh,seval,reduceCtorEq];refine⟨_,rfl,?_,?_⟩;(first|rfl|simp (disch:=try exact Dk) only[Kk,cast0,cast1,cast2,one_mul',wh,seval,reduceCtorEq]);first|exact⟨_,_,rfl,ok _ (by omega),fun _=>cok0⟩|exact⟨_,rfl⟩|fail)
 |fail)
   ·exact⟨1,rfl,⟨by omega,fun _=>by omega,fun h=>by omega⟩,by simp⟩
   ·exact⟨2,rfl,⟨by omega,fun _=>hka (by omega),fun _=>by omega⟩,by simp⟩
  ·obtain rfl:k=2:=by omega
   have ha0:=hka (by omega)
   have hb0:=hkb (by omega)
   clear hka hkb h4 hk
   repeat' (first
 |simp (disch:=try exact Dk) only[Kk,cpA,seval,reduceCtorEq]
 |(with_reducible first|apply condC_d|apply gC_d0)<;>intro _
 |with_reducible refine e8 ?_
 |with_reducible refine e_app_vec ?_
 |(refine Ak (s20 _ hg) ?_;rintro _ rfl; simp only[cpA];all_goals simp only[vl,ts,wb])
 |(refine Fk ?_;first|exact⟨_,_,rfl,ok _ (by omega),fun _=>cok0⟩|exact e9|fail)
 |(refine fin_o [] ?_;simp (disch:=try exact Dk) only[Kk,cpA,wh,seval,reduceCtorEq];refine⟨_,rfl,?_,?_⟩;(first|rfl|simp (disch:=try exact Dk) only[Kk,cpA,wh,seval,reduceCtorEq]);first|exact⟨_,_,rfl,ok _ (by omega),fun _=>cok0⟩|exact⟨_,rfl⟩|fail)
 |fail)
   refine d_lo (fun p:Nat × List Pt=>⟨[(3,.eptr 0 0 0),(4,.eptr 1 0 0),(6,.eptr 2 0 0),(11,.eptr 3 0 0),(86,.agg [.int .i64 a,.int .i64 b]),(87,.int .i64 p.1)],[some ⟨72,[l.v],true⟩,some ⟨40,[(default:Nt).v],true⟩,some ⟨355,[.agg [.int .i64 a,.int .i64 b]],true⟩,
    some ⟨40,[.agg [.vec 4 5 0 N.devs.l.length,.vec 5 7 0 N.ports.l.length,.vec 6 3 0 N.links.l.length,.vec 7 6 0 N.doms.l.length,.vec 8 4 0 N.stats.l.length,.vec 9 4 0 N.floods.l.length,.vec 10 5 0 N.vrfs.l.length,.vec 11 5 0 N.irbs.l.length]],true⟩,
    some ⟨133,N.devs.l.map Dv.v,true⟩,some ⟨136,p.2.map Pt.v,true⟩,some ⟨129,N.links.l.map Lk.v,true⟩,some ⟨140,(N.doms.l.map cpDm).map Dm.v,true⟩,some ⟨143,N.stats.l.map Sc.v,true⟩,some ⟨146,(N.floods.l.map cpFl).map Fl.v,true⟩,some ⟨149,(N.vrfs.l.map cpVf).map Vf.v,true⟩,some ⟨154,N.irbs.l.map Ib.v,true⟩]⟩)
    (fun p=>p.1≤2∧p.2.length=N.ports.l.length ∧(CostOk N→∀ q,q∈p.2→1≤q.cost∧q.cost≤65535)) (fun p=>2 - p.1) ?_ ?_
   ·simp (disch:=try exact Dk) only[Kk,seval,reduceCtorEq]
    exact⟨(0,N.ports.l.map cpPt),rfl,⟨by simp,by simp,cost_cp⟩⟩
   rintro ⟨k,P⟩ ⟨hk,hP,hc⟩
   simp only at hk hP hc ⊢
   unfold c128b1
   have set':∀(i:Nat) (q:Pt),i < P.length→q.cost =(nth P i).cost→CostOk N→∀ x,x∈P.set i q→1≤x.cost∧x.cost≤65535:=fun i q hi hq hC x hx=>by
    rcases List.mem_or_eq_of_mem_set hx with h | h
    ·exact hc hC x h
    ·rw [h,hq]; exact hc hC _ (nth_mem hi)
   by_cases h4:k < 2
   ·obtain rfl | rfl:k=0∨k=1:=by omega
    ·repeat' (first
 |simp (disch:=try exact Dk) only[Kk,cast0,cast1,cast2,one_mul',hP,seval,reduceCtorEq]
 |(with_reducible first|apply condC_d|apply gC_d0)<;>intro _
 |with_reducible refine e8 ?_
 |with_reducible refine e_app_vec ?_
 |(refine Fk ?_;first|exact e9|fail)
 |(refine fin_o [] ?_;simp (disch:=try exact Dk) only[Kk,cast0,cast1,cast2,one_mul',hP,wh,seval,reduceCtorEq];refine⟨_,rfl,?_,?_⟩;(first|rfl|simp (disch:=try exact Dk) only[Kk,cast0,cast1,cast2,one_mul',hP,wh,seval,reduceCtorEq]);first|exact⟨_,rfl⟩|fail)
 |fail)
     exact⟨(1,_),rfl,⟨by simp only; omega,by simp only[List.length_set]; exact hP,set' _ _ (by omega) rfl⟩,by simp⟩
    ·repeat' (first
 |simp (disch:=try exact Dk) only[Kk,cast0,cast1,cast2,one_mul',hP,seval,reduceCtorEq]
 |(with_reducible first|apply condC_d|apply gC_d0)<;>intro _
 |with_reducible refine e8 ?_
 |with_reducible refine e_app_vec ?_
 |(refine Fk ?_;first|exact e9|fail)
 |(refine fin_o [] ?_;simp (disch:=try exact Dk) only[Kk,cast0,cast1,cast2,one_mul',hP,wh,seval,reduceCtorEq];refine⟨_,rfl,?_,?_⟩;(first|rfl|simp (disch:=try exact Dk) only[Kk,cast0,cast1,cast2,one_mul',hP,wh,seval,reduceCtorEq]);first|exact⟨_,rfl⟩|fail)
 |fail)
     exact⟨(2,_),rfl,⟨by simp only; omega,by simp only[List.length_set]; exact hP,set' _ _ (by omega) rfl⟩,by simp⟩
   ·obtain rfl:k=2:=by omega
    clear h4 hk
    repeat' (first
 |simp (disch:=try exact Dk) only[Kk,hP,cast2,take_map_all,mo,Lk.mk_v,z6_Lk,seval,reduceCtorEq]
 |(with_reducible first|apply condC_d|apply gC_d0)<;>intro _
 |with_reducible refine e8 ?_
 |with_reducible refine e_app_vec ?_
 |(refine Fk ?_;first|exact⟨_,_,rfl,ok _ (by omega),fun h=>hc h⟩|exact e9|fail)
 |(refine fin_o [] ?_;simp (disch:=try exact Dk) only[Kk,hP,cast2,take_map_all,mo,Lk.mk_v,z6_Lk,wh,seval,reduceCtorEq];refine⟨_,rfl,?_,?_⟩;(first|rfl|simp (disch:=try exact Dk) only[Kk,hP,cast2,take_map_all,mo,Lk.mk_v,z6_Lk,wh,seval,reduceCtorEq]);first|exact⟨_,_,rfl,ok _ (by omega),fun h=>hc h⟩|exact⟨_,rfl⟩|fail)
 |fail)
 ·repeat' (first
 |simp (disch:=try exact Dk) only[Kk,hg,seval,reduceCtorEq]
 |(with_reducible first|apply condC_d|apply gC_d0)<;>intro _
 |with_reducible refine e8 ?_
 |with_reducible refine e_app_vec ?_
 |(refine Ak (s222 _ hS) ?_;rintro _ ⟨_ | _,rfl,hl⟩;all_goals simp only[vl,ts,wb])
 |(refine Ak (s72 _) ?_;rintro _ rfl;all_goals simp only[vl,ts,wb])
 |(refine Fk ?_;first|exact⟨_,_,rfl,ok _ (by omega),fun _=>cok0⟩|exact e9|fail)
 |(refine fin_o [] ?_;simp (disch:=try exact Dk) only[Kk,hg,wh,seval,reduceCtorEq];refine⟨_,rfl,?_,?_⟩;(first|rfl|simp (disch:=try exact Dk) only[Kk,hg,wh,seval,reduceCtorEq]);first|exact⟨_,_,rfl,ok _ (by omega),fun _=>cok0⟩|exact⟨_,rfl⟩|fail)
 |fail)
end Go.Proofs
set_option maxHeartbeats 4000000
set_option maxRecDepth 100000
namespace Go.Proofs
open Go Go.Pv Go.Proofs.Tx
variable [Lq]
open W
open Classical
theorem s216(N:Nt)(l:Ln)(k:Int)(hS:LnS l)(A B C:Option Ent):∃ r H',Gen Tryz.prog 216 [N.v,l.v,.int .i64 k] [A,B,C] r H' ∧
  ((r=.tup [.lit (.pointer none),.bool false]∧H'=[A,B,C,some ⟨40,[N.v],true⟩,some ⟨72,[l.v],true⟩]) ∨
   (Good N∧LnOk l∧l.kind=k∧r=.tup [.eptr 13 0 0,.bool true]∧H'=[A,B,C,some ⟨40,[N.v],true⟩,some ⟨72,[l.v],true⟩,some ⟨133,N.devs.l.map Dv.v,true⟩,some ⟨136,(N.ports.l.map cpPt).map Pt.v,true⟩,some ⟨129,N.links.l.map Lk.v,true⟩,some ⟨140,(N.doms.l.map cpDm).map Dm.v,true⟩,some ⟨143,N.stats.l.map Sc.v,true⟩,some ⟨146,(N.floods.l.map cpFl).map Fl.v,true⟩,some ⟨149,(N.vrfs.l.map cpVf).map Vf.v,true⟩,some ⟨154,N.irbs.l.map Ib.v,true⟩,
     some ⟨348,[.agg [.vec 5 5 0 N.devs.l.length,.vec 6 7 0 N.ports.l.length,.vec 7 3 0 N.links.l.length,.vec 8 6 0 N.doms.l.length,.vec 9 4 0 N.stats.l.length,.vec 10 4 0 N.floods.l.length,.vec 11 5 0 N.vrfs.l.length,.vec 12 5 0 N.irbs.l.length]],true⟩])):=by
 refine gen_w (c:=c216 false) [.t 6,.t 7] 3 (by kernel_rfl) (by kernel_rfl) (Nat.le_refl 3) ?_
 unfold c216
 by_cases hg:Good N
 ·repeat' (first
 |simp (disch:=try exact Dk) only[Kk,hg,seval,reduceCtorEq]
 |(with_reducible apply gC_d0)<;>intro _
 |with_reducible refine e8 ?_
 |(refine Ak (s222 _ hS) ?_;rintro _ ⟨_ | _,rfl,hl⟩; all_goals (try replace hl:=hl rfl);all_goals simp only[vl,ts,wb])
 |(refine Ak (s72 _) ?_;rintro _ rfl;all_goals simp only[vl,ts,wb])
 |(refine Ak (s20 _ hg) ?_;rintro _ rfl; simp only[cpA];all_goals simp only[vl,ts,wb])
 |fail)
  all_goals first | exact .inl trivial | (rename_i h1 _; exact .inr ⟨hl,Decidable.of_not_not h1⟩) | (rename_i h1; exact .inr ⟨hl,Decidable.of_not_not h1⟩) | exact .inr ⟨hl,Decidable.of_not_not (by assumption)⟩
 ·repeat' (first
 |simp (disch:=try exact Dk) only[Kk,hg,seval,reduceCtorEq]
 |(with_reducible apply gC_d0)<;>intro _
 |with_reducible refine e8 ?_
 |(refine Ak (s222 _ hS) ?_;rintro _ ⟨_ | _,rfl,hl⟩;all_goals simp only[vl,ts,wb])
 |(refine Ak (s72 _) ?_;rintro _ rfl;all_goals simp only[vl,ts,wb])
 |fail)
  all_goals exact .inl trivial
theorem s217'(l:List Dv)(h:l.length≤1000)(x:Ln):∃ r,Run Tryz.prog 217 [.sl 5 (l.map Dv.v) false,.fn 218 [.rptr x.v 0]] r∧∃ b,r=.bool b:=by
 have:=s217 (SL.of l (by omega)) (k218 x)
 rw [← SL.ofe] at this
 obtain ⟨_,h1,b,rfl,_⟩:=this
 exact⟨_,h1,b,rfl⟩
theorem s126(N:Nt)(l:Ln)(hS:LnS l):∃ r,Run Tryz.prog 126 [N.v,l.v] r∧∃ M:Nt,∃ e,r=.tup [M.v,.int .i64 e]∧okE e ∧(CostOk N→CostOk M):=by
 have ok:∀ e:Int,0≤e∧e < 64→okE e:=fun e h=>h
 refine run_w (c:=c126 true) [.c 4 8 true,.t 5] 2 (by kernel_rfl) (by kernel_rfl) (Nat.le_refl 2) (by simp only[wd]) ?_
 unfold c126
 simp (disch:=try exact Dk) only[Kk,seval,reduceCtorEq]
 refine call_genQ (s216 N l 1 hS _ _ _) ?_
 rintro _ _ (⟨rfl,rfl⟩ | ⟨hg,hl,hk,rfl,rfl⟩)
 ·repeat' (first
 |simp (disch:=try exact Dk) only[Kk,seval,reduceCtorEq]
 |(with_reducible apply condC_d)<;>intro _
 |with_reducible refine e8 ?_
 |with_reducible refine e_app_vec ?_
 |(refine Fk ?_;first|exact⟨_,_,rfl,ok _ (by omega),fun _=>cok0⟩|exact e9|fail)
 |(refine fin_o [] ?_;simp (disch:=try exact Dk) only[Kk,wh,seval,reduceCtorEq];refine⟨_,rfl,?_,?_⟩;(first|rfl|simp (disch:=try exact Dk) only[Kk,wh,seval,reduceCtorEq]);first|exact⟨_,_,rfl,ok _ (by omega),fun _=>cok0⟩|exact⟨_,rfl⟩|fail)
 |fail)
 ·obtain ⟨f1,f2,f3,f4,f5,f6,f7,f8⟩:=hg.few
  repeat' (first
 |simp (disch:=try exact Dk) only[Kk,map_take_len,take_map_all,mo,seval,reduceCtorEq]
 |(with_reducible apply condC_d)<;>intro _
 |with_reducible refine e8 ?_
 |with_reducible refine e_app_vec ?_
 |(refine call_pl (by simp (disch:=try exact Dk) only[Kk,map_take_len,take_map_all,mo,wp,seval,reduceCtorEq]; rfl) (by simp (disch:=try exact Dk) only[Kk,map_take_len,take_map_all,mo,wp,seval,reduceCtorEq]) (s217' N.devs.l (by omega) l) (by rintro _ ⟨_ | _,rfl⟩ <;> rfl) ?_; rintro _ ⟨_ | _,rfl⟩; all_goals simp only[vl,wp,ts,wb])
 |(refine Fk ?_;first|exact⟨_,_,rfl,ok _ (by omega),fun _=>cok0⟩|exact⟨_,_,rfl,ok _ (by omega),fun hc=>cost_cp hc⟩|exact e9|fail)
 |(refine fin_o [] ?_;simp (disch:=try exact Dk) only[Kk,map_take_len,take_map_all,mo,wh,seval,reduceCtorEq];refine⟨_,rfl,?_,?_⟩;(first|rfl|simp (disch:=try exact Dk) only[Kk,map_take_len,take_map_all,mo,wh,seval,reduceCtorEq]);first|exact⟨_,_,rfl,ok _ (by omega),fun _=>cok0⟩|exact⟨_,_,rfl,ok _ (by omega),fun hc=>cost_cp hc⟩|exact⟨_,rfl⟩|fail)
 |fail)
end Go.Proofs
set_option maxHeartbeats 4000000
set_option maxRecDepth 100000
namespace Go.Proofs
open Go Go.Pv Go.Proofs.Tx
variable [Lq]
open W
open Classical
theorem Dm.mk0{a b c d e:Int}:(.agg [.int .i64 a,.int .i64 b,.int .i64 c,.int .i64 d,.int .i64 e,.sl 0 [] true]:AV)=Dm.v ⟨a,b,c,d,e,SL.nil⟩:=by
 rw [Dm.e]; simp only[← SL.nile]
theorem s310'(l:List Dm)(h:l.length≤1000)(a b:Int):∃ r,Run Tryz.prog 310 [.sl 6 (l.map Dm.v) false,.fn 311 [.rptr (.int .i64 a) 0,.rptr (.int .i64 b) 0]] r∧∃ c,r=.bool c:=by
 have:=s310 (SL.of l (by omega)) (k311 a b)
 rw [← SL.ofe] at this
 obtain ⟨_,h1,b,rfl,_⟩:=this
 exact⟨_,h1,b,rfl⟩
theorem s221a(L O:Option Ent)(R0 R1 R2 R4 R5 R6 R7:Option Ent)(n0 n1 n2 n4 n5 n6 n7:Nat)(M:List Dm)(hM:M.length≤1000)(d v:Int) :
  ∃ r H',Gen Tryz.prog 221 [.eptr 2 0 0,.int .i64 d,.int .i64 v] [L,O,some ⟨348,[.agg [.vec 3 5 0 n0,.vec 4 7 0 n1,.vec 5 3 0 n2,.vec 6 6 0 M.length,.vec 7 4 0 n4,.vec 8 4 0 n5,.vec 9 5 0 n6,.vec 10 5 0 n7]],true⟩,R0,R1,R2,some ⟨140,M.map Dm.v,true⟩,R4,R5,R6,R7] r H' ∧
   (r=.tup []∧∃ M2:List Dm,∃ j X ext,H'=L :: O :: some ⟨348,[.agg [.vec 3 5 0 n0,.vec 4 7 0 n1,.vec 5 3 0 n2,.vec j 6 0 M2.length,.vec 7 4 0 n4,.vec 8 4 0 n5,.vec 9 5 0 n6,.vec 10 5 0 n7]],true⟩ :: R0 :: R1 :: R2 :: X :: R4 :: R5 :: R6 :: R7 :: ext∧ent H' j=some ⟨140,M2.map Dm.v,true⟩ ∧(j=6∨11≤j)∧M2.length≤M.length+1):=by
 refine gen_w (c:=c221 false) [] 3 (by kernel_rfl) (by kernel_rfl) (Nat.le_refl 3) ?_
 unfold c221
 have h310:=s310' M hM d v
 repeat' (first
 |simp (disch:=try exact Dk) only[Kk,map_take_len,Dm.mk0,seval,reduceCtorEq]
 |(with_reducible apply gC_d1)<;>intro _
 |with_reducible refine e8 ?_
 |with_reducible refine e_app_vec ?_
 |(refine call_pl (by simp (disch:=try exact Dk) only[Kk,map_take_len,Dm.mk0,wp,seval,reduceCtorEq]; rfl) (by simp (disch:=try exact Dk) only[Kk,map_take_len,Dm.mk0,wp,seval,reduceCtorEq]) h310 (by rintro _ ⟨_ | _,rfl⟩ <;> rfl) ?_; rintro _ ⟨_ | _,rfl⟩; all_goals simp only[vl,wp,ts,wb])
 |fail)
 all_goals first
  | exact⟨M,6,_,_,rfl,rfl,.inl rfl,by omega⟩
  | (refine⟨M ++ [⟨d,v,0,-1,0,SL.nil⟩],23,_,_,by rw [List.length_append]; rfl,rfl,.inr (Nat.le_of_ble_eq_true rfl),by simp⟩)
  | trace_state
theorem s221b(O:Option Ent)(R0 R1 R2 R4 R5 R6 R7:Option Ent)(n0 n1 n2 n4 n5 n6 n7:Nat)(M:List Dm)(hM:M.length≤1000)(d v:Int) :
  ∃ r H',Gen Tryz.prog 221 [.eptr 1 0 0,.int .i64 d,.int .i64 v] [O,some ⟨348,[.agg [.vec 2 5 0 n0,.vec 3 7 0 n1,.vec 4 3 0 n2,.vec 5 6 0 M.length,.vec 6 4 0 n4,.vec 7 4 0 n5,.vec 8 5 0 n6,.vec 9 5 0 n7]],true⟩,R0,R1,R2,some ⟨140,M.map Dm.v,true⟩,R4,R5,R6,R7] r H' ∧
   (r=.tup []∧∃ M2:List Dm,∃ j X ext,H'=O :: some ⟨348,[.agg [.vec 2 5 0 n0,.vec 3 7 0 n1,.vec 4 3 0 n2,.vec j 6 0 M2.length,.vec 6 4 0 n4,.vec 7 4 0 n5,.vec 8 5 0 n6,.vec 9 5 0 n7]],true⟩ :: R0 :: R1 :: R2 :: X :: R4 :: R5 :: R6 :: R7 :: ext∧ent H' j=some ⟨140,M2.map Dm.v,true⟩ ∧(j=5∨10≤j)∧M2.length≤M.length+1):=by
 refine gen_w (c:=c221 false) [] 3 (by kernel_rfl) (by kernel_rfl) (Nat.le_refl 3) ?_
 unfold c221
 have h310:=s310' M hM d v
 repeat' (first
 |simp (disch:=try exact Dk) only[Kk,map_take_len,Dm.mk0,seval,reduceCtorEq]
 |(with_reducible apply gC_d1)<;>intro _
 |with_reducible refine e8 ?_
 |with_reducible refine e_app_vec ?_
 |(refine call_pl (by simp (disch:=try exact Dk) only[Kk,map_take_len,Dm.mk0,wp,seval,reduceCtorEq]; rfl) (by simp (disch:=try exact Dk) only[Kk,map_take_len,Dm.mk0,wp,seval,reduceCtorEq]) h310 (by rintro _ ⟨_ | _,rfl⟩ <;> rfl) ?_; rintro _ ⟨_ | _,rfl⟩; all_goals simp only[vl,wp,ts,wb])
 |fail)
 all_goals first
  | exact⟨M,5,_,_,rfl,rfl,.inl rfl,by omega⟩
  | (refine⟨M ++ [⟨d,v,0,-1,0,SL.nil⟩],22,_,_,by rw [List.length_append]; rfl,rfl,.inr (Nat.le_of_ble_eq_true rfl),by simp⟩)
  | trace_state
end Go.Proofs
set_option maxHeartbeats 4000000
set_option maxRecDepth 100000
namespace Go.Proofs
open Go Go.Pv Go.Proofs.Tx
variable [Lq]
open W
open Classical
theorem s127(N:Nt)(l:Ln)(hS:LnS l):∃ r,Run Tryz.prog 127 [N.v,l.v] r∧∃ M:Nt,∃ e,r=.tup [M.v,.int .i64 e]∧okE e ∧(CostOk N→CostOk M):=by
 have ok:∀ e:Int,0≤e∧e < 64→okE e:=fun e h=>h
 refine run_w (c:=c127 true) [.c 4 8 true,.t 5] 2 (by kernel_rfl) (by kernel_rfl) (Nat.le_refl 2) (by simp only[wd]) ?_
 unfold c127
 simp (disch:=try exact Dk) only[Kk,seval,reduceCtorEq]
 refine call_genQ (s216 N l 2 hS _ _ _) ?_
 rintro _ _ (⟨rfl,rfl⟩ | ⟨hg,hl,hk,rfl,rfl⟩)
 ·repeat' (first
 |simp (disch:=try exact Dk) only[Kk,seval,reduceCtorEq]
 |(with_reducible apply condC_d)<;>intro _
 |with_reducible refine e8 ?_
 |with_reducible refine e_app_vec ?_
 |(refine Fk ?_;first|exact⟨_,_,rfl,ok _ (by omega),fun _=>cok0⟩|exact e9|fail)
 |(refine fin_o [] ?_;simp (disch:=try exact Dk) only[Kk,wh,seval,reduceCtorEq];refine⟨_,rfl,?_,?_⟩;(first|rfl|simp (disch:=try exact Dk) only[Kk,wh,seval,reduceCtorEq]);first|exact⟨_,_,rfl,ok _ (by omega),fun _=>cok0⟩|exact⟨_,rfl⟩|fail)
 |fail)
 ·obtain ⟨f1,f2,f3,f4,f5,f6,f7,f8⟩:=hg.few
  have ht:=hl.tagged hk
  repeat' (first
 |simp (disch:=try exact Dk) only[Kk,map_take_len,take_map_all,seval,reduceCtorEq]
 |(with_reducible apply condC_d)<;>intro _
 |with_reducible refine e8 ?_
 |with_reducible refine e_app_vec ?_
 |(refine Ak (s219 _ _) ?_;rintro _ ⟨d,rfl,hd⟩; have hd':=hd.lt;all_goals simp only[vl,ts,wb])
 |(refine Ak (s220 _ _ _) ?_;rintro _ ⟨p,rfl,hp⟩; have hp':=hp.lt;all_goals simp only[vl,ts,wb])
 |(refine Ak (r49 _ (by omega)) ?_;rintro _ rfl;all_goals simp only[vl,ts,wb])
 |(refine Fk ?_;first|exact⟨_,_,rfl,ok _ (by omega),fun _=>cok0⟩|exact e9|fail)
 |(refine fin_o [] ?_;simp (disch:=try exact Dk) only[Kk,map_take_len,take_map_all,wh,seval,reduceCtorEq];refine⟨_,rfl,?_,?_⟩;(first|rfl|simp (disch:=try exact Dk) only[Kk,map_take_len,take_map_all,wh,seval,reduceCtorEq]);first|exact⟨_,_,rfl,ok _ (by omega),fun _=>cok0⟩|exact⟨_,rfl⟩|fail)
 |fail)
  obtain ⟨M0,hM0,hMl⟩:∃ M0:List Dm,M0=N.doms.l.map cpDm∧M0.length=N.doms.l.length:=⟨_,rfl,List.length_map ..⟩
  rw [← hM0,← hMl]
  refine callv_genQ (s221a _ _ _ _ _ _ _ _ _ _ _ _ _ _ _ _ M0 (by omega) _ _) ?_ ?_
  ·rintro _ _ ⟨_,M2,j,X,ext,rfl,_⟩; simp
  rintro _ _ ⟨rfl,M2,j,X,ext,rfl,hj,hj2,hM2⟩
  have hc:CostOk N→∀ p,p∈N.ports.l.map cpPt ++ [⟨l.row,d,l.vlan,l.cost,-1,l.port,SL.of l.tagged.l l.tagged.n⟩]→1≤p.cost∧p.cost≤65535:=fun h p hp=>by
   rcases List.mem_append.1 hp with h1 | h1
   ·exact cost_cp h p h1
   ·rw [List.mem_singleton.1 h1]; exact hl.cost hk
  obtain ⟨P,hP⟩:∃ P:List Pt,P=N.ports.l.map cpPt ++ [⟨l.row,d,l.vlan,l.cost,-1,l.port,SL.of l.tagged.l l.tagged.n⟩]:=⟨_,rfl⟩
  have hPl:P.length=N.ports.l.length+1:=by rw [hP]; simp
  rw [← hP] at hc hj ⊢
  clear hP
  simp (disch:=try exact Dk) only[Kk,seval,reduceCtorEq]
  refine d_lo (fun a:Nat × List Dm=>⟨[(4,.eptr 0 0 0),(6,.eptr 1 0 0),(8,.int .i64 d),(9,.fn 221 []),(77,l.tagged.v),(78,.int .i64 l.tagged.l.length),(79,.int .i64 a.1)],
   [some ⟨40,[(default:Nt).v],true⟩,some ⟨348,[.agg [.vec 2 5 0 N.devs.l.length,.vec 3 7 0 (N.ports.l.length+1),.vec 4 3 0 N.links.l.length,.vec 5 6 0 a.2.length,.vec 6 4 0 N.stats.l.length,.vec 7 4 0 N.floods.l.length,.vec 8 5 0 N.vrfs.l.length,.vec 9 5 0 N.irbs.l.length]],true⟩,
    some ⟨133,N.devs.l.map Dv.v,true⟩,some ⟨136,P.map Pt.v,true⟩,some ⟨129,N.links.l.map Lk.v,true⟩,some ⟨140,a.2.map Dm.v,true⟩,some ⟨143,N.stats.l.map Sc.v,true⟩,some ⟨146,(N.floods.l.map cpFl).map Fl.v,true⟩,some ⟨149,(N.vrfs.l.map cpVf).map Vf.v,true⟩,some ⟨154,N.irbs.l.map Ib.v,true⟩]⟩)
   (fun a=>a.1≤l.tagged.l.length∧a.2.length≤49+a.1) (fun a=>l.tagged.l.length - a.1) ?_ ?_
  ·rcases hj2 with rfl | hj2
   ·have hX:X=some ⟨140,M2.map Dm.v,true⟩:=hj
    subst hX
    simp (disch:=try exact Dk) only[Kk,seval,reduceCtorEq]
    exact⟨(0,M2),rfl,by simp only; omega,by simp only; omega⟩
   ·have b1:∀ k,k < 11 →(j == k)=false:=fun k hk=>by simp; omega
    have b2:∀ k,k < 11 →(k == j)=false:=fun k hk=>by simp; omega
    have b3:∀ k,k < 11→¬ k=j:=fun k hk=>by omega
    have b4:∀ k,k < 11→¬ j=k:=fun k hk=>by omega
    simp (disch:=try exact Dk) only[Kk,hj,b1,b2,b3,b4,seval,reduceCtorEq]
    exact⟨(0,M2),rfl,by simp only; omega,by simp only; omega⟩
  clear hj hj2 hM2 ext X
  rintro ⟨k,M⟩ ⟨hk,hM⟩
  simp only at hk hM ⊢
  unfold c127b0
  by_cases h2:k < l.tagged.l.length
  ·repeat' (first
 |simp (disch:=try exact Dk) only[Kk,seval,reduceCtorEq]
 |(with_reducible apply condC_d)<;>intro _
 |with_reducible refine e8 ?_
 |with_reducible refine e_app_vec ?_
 |(refine Fk ?_;first|exact e9|fail)
 |(refine fin_o [] ?_;simp (disch:=try exact Dk) only[Kk,wh,seval,reduceCtorEq];refine⟨_,rfl,?_,?_⟩;(first|rfl|simp (disch:=try exact Dk) only[Kk,wh,seval,reduceCtorEq]);first|exact⟨_,rfl⟩|fail)
 |fail)
   refine callv_genQ (s221b _ _ _ _ _ _ _ _ _ _ _ _ _ _ _ M (by omega) _ _) ?_ ?_
   ·rintro _ _ ⟨_,M2,j,X,ext,rfl,_⟩; simp
   rintro _ _ ⟨rfl,M2,j,X,ext,rfl,hj,hj2,hM2⟩
   rcases hj2 with rfl | hj2
   ·have hX:X=some ⟨140,M2.map Dm.v,true⟩:=hj
    subst hX
    simp (disch:=try exact Dk) only[Kk,seval,reduceCtorEq]
    exact⟨(k+1,M2),rfl,⟨by simp only; omega,by simp only; omega⟩,by simp only; omega⟩
   ·have b1:∀ k,k < 10 →(j == k)=false:=fun k hk=>by simp; omega
    have b2:∀ k,k < 10 →(k == j)=false:=fun k hk=>by simp; omega
    have b3:∀ k,k < 10→¬ k=j:=fun k hk=>by omega
    have b4:∀ k,k < 10→¬ j=k:=fun k hk=>by omega
    simp (disch:=try exact Dk) only[Kk,hj,b1,b2,b3,b4,seval,reduceCtorEq]
    exact⟨(k+1,M2),rfl,⟨by simp only; omega,by simp only; omega⟩,by simp only; omega⟩
  ·obtain rfl:k=l.tagged.l.length:=by omega
   repeat' (first
 |simp (disch:=try exact Dk) only[Kk,map_take_len,take_map_all,mo,seval,reduceCtorEq]
 |(with_reducible apply condC_d)<;>intro _
 |with_reducible refine e8 ?_
 |with_reducible refine e_app_vec ?_
 |(refine Fk ?_;first|exact⟨_,_,rfl,ok _ (by omega),fun _=>cok0⟩|exact⟨_,_,rfl,ok _ (by omega),hc⟩|exact e9|fail)
 |(refine fin_o [] ?_;simp (disch:=try exact Dk) only[Kk,map_take_len,take_map_all,mo,wh,seval,reduceCtorEq];refine⟨_,rfl,?_,?_⟩;(first|rfl|simp (disch:=try exact Dk) only[Kk,map_take_len,take_map_all,mo,wh,seval,reduceCtorEq]);first|exact⟨_,_,rfl,ok _ (by omega),fun _=>cok0⟩|exact⟨_,_,rfl,ok _ (by omega),hc⟩|exact⟨_,rfl⟩|fail)
 |fail)
end Go.Proofs
set_option maxHeartbeats 4000000
set_option maxRecDepth 100000
namespace Go.Proofs
open Go Go.Pv Go.Proofs.Tx
variable [Lq]
open W
open Classical
theorem s67(N:Nt)(l:Ln)(hS:LnS l):∃ r,Run Tryz.prog 67 [N.v,l.v] r∧∃ M:Nt,∃ e,r=.tup [M.v,.int .i64 e]∧okE e ∧(CostOk N→CostOk M):=by
 have ok:∀ e:Int,0≤e∧e < 64→okE e:=fun e h=>h
 refine run_w (c:=c67 true) [.c 4 8 true,.t 5] 2 (by kernel_rfl) (by kernel_rfl) (Nat.le_refl 2) (by simp only[wd]) ?_
 unfold c67
 repeat' (first
 |simp (disch:=try exact Dk) only[Kk,seval,reduceCtorEq]
 |(with_reducible apply condC_d)<;>intro _
 |with_reducible refine e8 ?_
 |(refine Ak (s126 _ _ hS) ?_;rintro _ ⟨M,e,rfl,he,hc⟩;all_goals simp only[vl,ts,wb])
 |(refine Ak (s127 _ _ hS) ?_;rintro _ ⟨M,e,rfl,he,hc⟩;all_goals simp only[vl,ts,wb])
 |(refine Ak (s128 _ _ hS) ?_;rintro _ ⟨M,e,rfl,he,hc⟩;all_goals simp only[vl,ts,wb])
 |(refine Ak (s129 _ _ hS) ?_;rintro _ ⟨M,e,rfl,he,hc⟩;all_goals simp only[vl,ts,wb])
 |(refine Ak (s130 _ _ hS) ?_;rintro _ ⟨M,e,rfl,he,hc⟩;all_goals simp only[vl,ts,wb])
 |(refine Ak (s131 _ _ hS) ?_;rintro _ ⟨M,e,rfl,he,hc⟩;all_goals simp only[vl,ts,wb])
 |(refine Ak (s132 _ _ hS) ?_;rintro _ ⟨M,e,rfl,he,hc⟩;all_goals simp only[vl,ts,wb])
 |(refine Ak (s133 _ _ hS) ?_;rintro _ ⟨M,e,rfl,he,hc⟩;all_goals simp only[vl,ts,wb])
 |(refine Ak (s134 _ _ hS) ?_;rintro _ ⟨M,e,rfl,he,hc⟩;all_goals simp only[vl,ts,wb])
 |(refine Fk ?_;first|exact⟨_,_,rfl,he,hc⟩|exact⟨_,_,rfl,ok _ (by omega),fun _=>cok0⟩|exact e9|fail)
 |fail)
theorem s135(N:Nt)(f:Fl)(hg:Good N)(hf:Pl N.devs.l f.dev):∃ r,Run Tryz.prog 135 [N.v,f.v] r∧∃ b,r=.bool b:=by
 have hn:=f.addrs.n
 refine run_w (c:=c135 true) [.t 4] 2 (by kernel_rfl) (by kernel_rfl) (Nat.le_refl 2) (by simp only[wd]) ?_
 unfold c135
 simp (disch:=try exact Dk) only[Kk,seval,reduceCtorEq]
 refine⟨by omega,?_⟩
 refine Ak (s137 N f.dev f.vni) ?_
 rintro _ ⟨i0,rfl,hi0⟩
 simp only[vl,ts,wb]
 simp (disch:=try exact Dk) only[Kk,seval,reduceCtorEq]
 refine d_lo (fun a:Nat × Bool=>⟨[(2,.eptr 0 0 0),(3,.eptr 1 0 0),(5,.int .u32 (nth N.devs.l f.dev.toNat).vtep),(6,.bool a.2),(28,f.addrs.v),(29,.int .i64 f.addrs.l.length),(30,.int .i64 a.1)],[some ⟨40,[N.v],true⟩,some ⟨146,[f.v],true⟩]⟩) (fun a=>a.1≤f.addrs.l.length) (fun a=>f.addrs.l.length - a.1) ?_ ?_
 ·simp (disch:=try exact Dk) only[Kk,seval,reduceCtorEq]
  exact⟨(0,_),rfl,by simp⟩
 rintro ⟨k,b⟩ hk
 simp only at hk ⊢
 unfold c135b0
 by_cases hlt:k < f.addrs.l.length
 ·cases b
  ·repeat' (first
 |simp (disch:=try exact Dk) only[Kk,seval,reduceCtorEq]
 |(with_reducible first|apply condC_d|apply gC_d0|apply gC_d1)<;>intro _
 |with_reducible refine e8 ?_
 |(refine Ak (s138 _ _) ?_;rintro _ ⟨d,rfl,hd⟩;all_goals simp only[vl,ts,wb])
 |(refine Fk ?_;first|exact e9|fail)
 |fail)
  ·repeat' (first
 |simp (disch:=try exact Dk) only[Kk,seval,reduceCtorEq]
 |(with_reducible first|apply condC_d|apply gC_d0|apply gC_d1)<;>intro _
 |with_reducible refine e8 ?_
 |(refine Ak (s138 _ _) ?_;rintro _ ⟨d,rfl,hd⟩; have hd':=hd.lt;all_goals simp only[vl,ts,wb])
 |(refine Ak (s137 _ _ _) ?_;rintro _ ⟨e,rfl,he⟩;all_goals simp only[vl,ts,wb])
 |(refine Ak (s136 _ _ _) ?_;rintro _ ⟨j,rfl,hj⟩; have hjn:=hj.nn; have hjl:=hj.lt;all_goals simp only[vl,ts,wb])
 |(refine Ak (s226 _ _) ?_;rintro _ rfl;all_goals simp only[vl,ts,wb])
 |(refine Fk ?_;first|exact e9|fail)
 |fail)
   refine d_lo (fun a:Nat × Bool=>⟨[(2,.eptr 0 0 0),(3,.eptr 1 0 0),(5,.int .u32 (nth N.devs.l f.dev.toNat).vtep),(6,.bool a.2),(8,.int .u32 (nth f.addrs.l k)),(10,(nth N.floods.l j.toNat).addrs.v),(28,f.addrs.v),(29,.int .i64 f.addrs.l.length),(30,.int .i64 k),(78,f.addrs.v),(79,.int .i64 f.addrs.l.length),(80,.int .i64 a.1)],[some ⟨40,[N.v],true⟩,some ⟨146,[f.v],true⟩]⟩) (fun a=>a.1≤f.addrs.l.length) (fun a=>f.addrs.l.length - a.1) ?_ ?_
   ·simp (disch:=try exact Dk) only[Kk,seval,reduceCtorEq]
    exact⟨(0,_),rfl,by simp⟩
   rintro ⟨m,b⟩ hm
   simp only at hm ⊢
   unfold c135b1
   by_cases hlt2:m < f.addrs.l.length
   ·cases b
    all_goals repeat' (first
 |simp (disch:=try exact Dk) only[Kk,seval,reduceCtorEq]
 |(with_reducible first|apply condC_d|apply gC_d0|apply gC_d1)<;>intro _
 |with_reducible refine e8 ?_
 |(refine Ak (s226 _ _) ?_;rintro _ rfl;all_goals simp only[vl,ts,wb])
 |exact⟨(m+1,_),rfl,by simp only; omega,by simp only; omega⟩
 |(refine Fk ?_;first|exact e9|fail)
 |fail)
   ·repeat' (first
 |simp (disch:=try exact Dk) only[Kk,seval,reduceCtorEq]
 |(with_reducible first|apply condC_d|apply gC_d0|apply gC_d1)<;>intro _
 |with_reducible refine e8 ?_
 |(refine Fk ?_;first|exact e9|fail)
 |fail)
    exact⟨(k+1,b),rfl,by simp only; omega,by simp only; omega⟩
 ·repeat' (first
 |simp (disch:=try exact Dk) only[Kk,seval,reduceCtorEq]
 |(with_reducible first|apply condC_d|apply gC_d0|apply gC_d1)<;>intro _
 |with_reducible refine e8 ?_
 |(refine Fk ?_;first|exact e9|fail)
 |fail)
end Go.Proofs
