/- Part 25 of a proof that a step of one domain changes nothing of another: the machine of plain values, and what the program's functions do. -/
import Derived.Test.YtdgcdnnmodnkjaaGreatDoorG24
import Derived.ChangeAlike
import Derived.Defers
import Derived.KernelRfl
import Derived.Laws.LoneSync
import Derived.Laws.Pointers
import Derived.RegionCalls
import Derived.RegionTactic
import Derived.Tactics
import Derived.Tactics2
import Derived.Test.YtdgcdnnmodnkjaaGreatDoorProg
set_option linter.all false
set_option linter.unusedVariables false
set_option linter.unusedSectionVars false
set_option linter.unusedSimpArgs false
set_option linter.defProp false
set_option maxHeartbeats 4000000
set_option maxRecDepth 100000
namespace Go.Proofs
open Go Go.Pv Go.Proofs.Tx
variable [Lq]
open W
open Classical
def CostOk(N:Nt):Prop:=∀ p,p∈N.ports.l→1≤p.cost∧p.cost≤65535
theorem cok0:CostOk default:=fun p h=>absurd h List.not_mem_nil
theorem cost_cp{N:Nt}(h:CostOk N):∀ p,p∈N.ports.l.map cpPt→1≤p.cost∧p.cost≤65535:=fun p hp=>by
 obtain ⟨q,hq,rfl⟩:=List.mem_map.1 hp
 exact h q hq
theorem s225(N:Nt)(l:Ln)(k:Int)(hS:LnS l):∃ r,Run Tryz.prog 225 [N.v,l.v,.int .i64 k] r∧∃ d e,r=.tup [.int .i64 d,.int .i64 e]∧okE e ∧(e=0→Good N∧LnOk l∧l.kind=k∧Pl N.devs.l d):=by
 have ok:∀ e:Int,0≤e∧e < 64→okE e:=fun e h=>h
 refine run_w (c:=c225 true) [.t 6,.t 7] 3 (by kernel_rfl) (by kernel_rfl) (Nat.le_refl 3) (by simp only[wd]) ?_
 unfold c225
 repeat' (first
 |simp (disch:=try exact Dk) only[Kk,seval,reduceCtorEq]
 |(with_reducible first|apply condC_d|apply gC_d0)<;>intro _
 |with_reducible refine e8 ?_
 |(refine Ak (s222 _ hS) ?_;rintro _ ⟨_ | _,rfl,hl⟩; all_goals (try replace hl:=hl rfl);all_goals simp only[vl,ts,wb])
 |(refine Ak (s72 _) ?_;rintro _ rfl;all_goals simp only[vl,ts,wb])
 |(refine Ak (s219 _ _) ?_;rintro _ ⟨i,rfl,hi⟩; have hi':=hi.lt;all_goals simp only[vl,ts,wb])
 |(refine Fk ?_;first|(refine⟨_,_,rfl,ok _ (by omega),fun h=>?_⟩; omega)|(refine⟨_,_,rfl,ok _ (by omega),fun _=>⟨Decidable.of_not_not (by assumption),hl,Decidable.of_not_not (by assumption),by omega,by omega⟩⟩)|exact e9|fail)
 |fail)
theorem s227(N:Nt)(l:Ln)(k:Int)(hS:LnS l):∃ r,Run Tryz.prog 227 [N.v,l.v,.int .i64 k] r∧∃ d e,r=.tup [.int .i64 d,.int .i64 e]∧okE e ∧(e=0→Good N∧LnOk l∧l.kind=k∧Pl N.devs.l d):=by
 have ok:∀ e:Int,0≤e∧e < 64→okE e:=fun e h=>h
 refine run_w (c:=c227 true) [.t 6,.t 7] 3 (by kernel_rfl) (by kernel_rfl) (Nat.le_refl 3) (by simp only[wd]) ?_
 unfold c227
 repeat' (first
 |simp (disch:=try exact Dk) only[Kk,seval,reduceCtorEq]
 |(with_reducible first|apply condC_d|apply gC_d0)<;>intro _
 |with_reducible refine e8 ?_
 |(refine Ak (s222 _ hS) ?_;rintro _ ⟨_ | _,rfl,hl⟩; all_goals (try replace hl:=hl rfl);all_goals simp only[vl,ts,wb])
 |(refine Ak (s72 _) ?_;rintro _ rfl;all_goals simp only[vl,ts,wb])
 |(refine Ak (s219 _ _) ?_;rintro _ ⟨i,rfl,hi⟩; have hi':=hi.lt;all_goals simp only[vl,ts,wb])
 |(refine Fk ?_;first|(refine⟨_,_,rfl,ok _ (by omega),fun h=>?_⟩; omega)|(refine⟨_,_,rfl,ok _ (by omega),fun _=>⟨Decidable.of_not_not (by assumption),hl,Decidable.of_not_not (by assumption),by omega,by omega⟩⟩)|exact e9|fail)
 |fail)
theorem s138(N:Nt)(a:Int):∃ r,Run Tryz.prog 138 [N.v,.int .u32 a] r∧∃ i,r=.int .i64 i∧IsIdx (fun d:Dv=>d.vtep=a) N.devs.l i:=by
 refine run_w (c:=c138 true) [.t 4] 2 (by kernel_rfl) (by kernel_rfl) (Nat.le_refl 2) (by simp only[wd]) ?_
 unfold c138
 repeat' (first
 |simp (disch:=try exact Dk) only[Kk,seval,reduceCtorEq]
 |with_reducible refine e8 ?_
 |(refine call_rn (by simp (disch:=try exact Dk) only[Kk,wp,seval,reduceCtorEq]; rfl) (by simp (disch:=try exact Dk) only[Kk,wp,seval,reduceCtorEq]) (s236 _ (k237 _)) ?_; rintro _ ⟨i,rfl,hi⟩; all_goals simp only[vl,wp,ts,wb])
 |(refine Fk ?_;first|exact⟨_,rfl,hi⟩|exact e9|fail)
 |fail)
theorem s137(N:Nt)(a b:Int):∃ r,Run Tryz.prog 137 [N.v,.int .i64 a,.int .i64 b] r∧∃ i,r=.int .i64 i∧IsIdx (fun d:Dm=>d.dev=a∧d.vni=b∧b≠0) N.doms.l i:=by
 refine run_w (c:=c137 true) [.t 6] 3 (by kernel_rfl) (by kernel_rfl) (Nat.le_refl 3) (by simp only[wd]) ?_
 unfold c137
 repeat' (first
 |simp (disch:=try exact Dk) only[Kk,seval,reduceCtorEq]
 |with_reducible refine e8 ?_
 |(refine call_rn (by simp (disch:=try exact Dk) only[Kk,wp,seval,reduceCtorEq]; rfl) (by simp (disch:=try exact Dk) only[Kk,wp,seval,reduceCtorEq]) (s234 _ (k235 _ _)) ?_; rintro _ ⟨i,rfl,hi⟩; all_goals simp only[vl,wp,ts,wb])
 |(refine Fk ?_;first|exact⟨_,rfl,hi⟩|exact e9|fail)
 |fail)
theorem s136(N:Nt)(a b:Int):∃ r,Run Tryz.prog 136 [N.v,.int .i64 a,.int .i64 b] r∧∃ i,r=.int .i64 i∧IsIdx (fun d:Fl=>d.dev=a∧d.vni=b) N.floods.l i:=by
 refine run_w (c:=c136 true) [.t 6] 3 (by kernel_rfl) (by kernel_rfl) (Nat.le_refl 3) (by simp only[wd]) ?_
 unfold c136
 repeat' (first
 |simp (disch:=try exact Dk) only[Kk,seval,reduceCtorEq]
 |with_reducible refine e8 ?_
 |(refine call_rn (by simp (disch:=try exact Dk) only[Kk,wp,seval,reduceCtorEq]; rfl) (by simp (disch:=try exact Dk) only[Kk,wp,seval,reduceCtorEq]) (s232 _ (k233 _ _)) ?_; rintro _ ⟨i,rfl,hi⟩; all_goals simp only[vl,wp,ts,wb])
 |(refine Fk ?_;first|exact⟨_,rfl,hi⟩|exact e9|fail)
 |fail)
theorem s130(N:Nt)(l:Ln)(hS:LnS l):∃ r,Run Tryz.prog 130 [N.v,l.v] r∧∃ M:Nt,∃ e,r=.tup [M.v,.int .i64 e]∧okE e ∧(CostOk N→CostOk M):=by
 have ok:∀ e:Int,0≤e∧e < 64→okE e:=fun e h=>h
 refine run_w (c:=c130 true) [.c 4 8 true,.t 5] 2 (by kernel_rfl) (by kernel_rfl) (Nat.le_refl 2) (by simp only[wd]) ?_
 unfold c130
 simp (disch:=try exact Dk) only[Kk,seval,reduceCtorEq]
 refine Ak (s225 N l _ hS) ?_
 rintro _ ⟨d,e,rfl,he,hd⟩
 simp only[vl,ts,wb]
 simp (disch:=try exact Dk) only[Kk,seval,reduceCtorEq]
 by_cases h0:e=0
 ·obtain ⟨hg,hl,hk,hdp⟩:=hd h0
  obtain ⟨f1,f2,f3,f4,f5,f6,f7,f8⟩:=hg.few
  subst h0
  repeat' (first
 |simp (disch:=try exact Dk) only[Kk,cpA,take_map_all,mo,seval,reduceCtorEq]
 |(with_reducible first|apply condC_d|apply gC_d0)<;>intro _
 |with_reducible refine e8 ?_
 |(refine Ak (s138 _ _) ?_;rintro _ ⟨i,rfl,hi⟩;all_goals simp only[vl,ts,wb])
 |(refine Ak (s20 _ hg) ?_;rintro _ rfl; simp only[cpA];all_goals simp only[vl,ts,wb])
 |(refine Fk ?_;first|exact⟨_,_,rfl,ok _ (by omega),fun _=>cok0⟩|exact⟨_,_,rfl,ok _ (by omega),fun hc=>cost_cp hc⟩|exact e9|fail)
 |(refine fin_o [] ?_;simp (disch:=try exact Dk) only[Kk,cpA,take_map_all,mo,wh,seval,reduceCtorEq];refine⟨_,rfl,?_,?_⟩;(first|rfl|simp (disch:=try exact Dk) only[Kk,cpA,take_map_all,mo,wh,seval,reduceCtorEq]);first|exact⟨_,_,rfl,ok _ (by omega),fun _=>cok0⟩|exact⟨_,_,rfl,ok _ (by omega),fun hc=>cost_cp hc⟩|exact⟨_,rfl⟩|fail)
 |fail)
 ·repeat' (first
 |simp (disch:=try exact Dk) only[Kk,h0,not_false_eq_true,seval,reduceCtorEq]
 |(with_reducible first|apply condC_d|apply gC_d0)<;>intro _
 |with_reducible refine e8 ?_
 |(refine Fk ?_;first|exact⟨_,_,rfl,he,fun _=>cok0⟩|exact e9|fail)
 |(refine fin_o [] ?_;simp (disch:=try exact Dk) only[Kk,h0,not_false_eq_true,wh,seval,reduceCtorEq];refine⟨_,rfl,?_,?_⟩;(first|rfl|simp (disch:=try exact Dk) only[Kk,h0,not_false_eq_true,wh,seval,reduceCtorEq]);first|exact⟨_,_,rfl,he,fun _=>cok0⟩|exact⟨_,rfl⟩|fail)
 |fail)
end Go.Proofs
namespace Go.Pv
structure Sn where
 n:Nt
 up:TL
 rank:IL
 root:IL
 cost:IL
instance:Inhabited Sn:=⟨⟨default,default,default,default,default⟩⟩
@[irreducible] def Sn.v (x:Sn):AV:=.agg [x.n.devs.v,x.n.ports.v,x.n.links.v,x.n.doms.v,x.n.stats.v,x.n.floods.v,x.n.vrfs.v,x.n.irbs.v,x.up.v,x.rank.v,x.root.v,x.cost.v]
theorem Sn.e(x:Sn):x.v=.agg [x.n.devs.v,x.n.ports.v,x.n.links.v,x.n.doms.v,x.n.stats.v,x.n.floods.v,x.n.vrfs.v,x.n.irbs.v,x.up.v,x.rank.v,x.root.v,x.cost.v]:=by rw [Sn.v]
theorem Sn.fl(x:Sn):x.v.flat.length=12:=by rw [Sn.e]; rfl
theorem Sn.on(x:Sn):x.v.ones=true:=by rw [Sn.e]; simp [AV.ones,AV.flat,SL.e,AV.one]
theorem Sn.nr1(x:Sn):x.v.nr1=true:=by rw [Sn.e]; simp [AV.nr1,SL.e,AV.nr0]
theorem Sn.pl(x:Sn):x.v.pl=true:=by rw [Sn.e]; simp [AV.pl,SL.e,AV.pl0]
theorem Sn.la{hp:Hp}(x:Sn):layA hp x.v =(x.v,hp):=layA_nr x.nr1
theorem Sn.ca(x:Sn):cells x.v 0 12 true=some x.v:=by rw [Sn.e]; rfl
theorem Sn.c_n(x:Sn):cells x.v 0 8 true=some x.n.v:=by rw [Sn.e,Nt.e]; rfl
theorem Sn.c_n_devs(x:Sn):cells x.v 0 1 false=some (x.n.devs.v):=by rw [Sn.e]; rfl
theorem Sn.c_n_ports(x:Sn):cells x.v 1 1 false=some (x.n.ports.v):=by rw [Sn.e]; rfl
theorem Sn.c_n_links(x:Sn):cells x.v 2 1 false=some (x.n.links.v):=by rw [Sn.e]; rfl
theorem Sn.c_n_doms(x:Sn):cells x.v 3 1 false=some (x.n.doms.v):=by rw [Sn.e]; rfl
theorem Sn.c_up(x:Sn):cells x.v 8 1 false=some (x.up.v):=by rw [Sn.e]; rfl
theorem Sn.c_rank(x:Sn):cells x.v 9 1 false=some (x.rank.v):=by rw [Sn.e]; rfl
theorem Sn.c_root(x:Sn):cells x.v 10 1 false=some (x.root.v):=by rw [Sn.e]; rfl
theorem Sn.c_cost(x:Sn):cells x.v 11 1 false=some (x.cost.v):=by rw [Sn.e]; rfl
theorem Sn.s_cost(x:Sn)(a:IL):setCells x.v (a.v) 11 1=some (Sn.v { x with cost:=a }):=by rw [Sn.e,Sn.e]; simp [setCells,AV.ones,AV.flat,SL.e,AV.one]
theorem Sn.sa{cs:List AV}(x:Sn)(h:cs.length=12):setCells (.agg cs) x.v 0 12=some x.v:=by rw [Sn.e]; exact setCells_all h (by have:=x.on; rw [Sn.e] at this; exact this) rfl
theorem Sn.sb(y x:Sn):setCells y.v x.v 0 12=some x.v:=by rw [Sn.e y]; exact Sn.sa x rfl
theorem Sn.af(x:Sn):(.agg x.v.flat:AV)=x.v:=by rw [Sn.e]; rfl
theorem Sn.s_n(x:Sn)(y:Nt):setCells x.v y.v 0 8=some (Sn.v { x with n:=y }):=by rw [Sn.e,Sn.e,Nt.e]; simp [setCells,AV.ones,AV.flat,SL.e,AV.one]
theorem Sn.mk_v{n_devs:SL Dv Dv.v 5}{n_ports:SL Pt Pt.v 7}{n_links:SL Lk Lk.v 3}{n_doms:SL Dm Dm.v 6}{n_stats:SL Sc Sc.v 4}{n_floods:SL Fl Fl.v 4}{n_vrfs:SL Vf Vf.v 5}{n_irbs:SL Ib Ib.v 5}{up:TL}{rank:IL}{root:IL}{cost:IL}:(.agg [n_devs.v,n_ports.v,n_links.v,n_doms.v,n_stats.v,n_floods.v,n_vrfs.v,n_irbs.v,up.v,rank.v,root.v,cost.v]:AV)=Sn.v ⟨⟨n_devs,n_ports,n_links,n_doms,n_stats,n_floods,n_vrfs,n_irbs⟩,up,rank,root,cost⟩:=by rw [Sn.e]
def t3 :=
 And.intro @Sn.c_n_devs <| And.intro @Sn.c_n_ports <| And.intro @Sn.c_n_links <| And.intro @Sn.c_up <| And.intro @Sn.c_rank <| And.intro @Sn.c_root <| @Sn.c_cost
end Go.Pv
set_option maxRecDepth 100000
set_option maxHeartbeats 4000000
namespace Go.Pv
structure Si where
 n:Nt
 sp:Nat
 ti:Nat
 qi:Nat
 k:Nat
 now:Int
 inj:Int
 D:List Int
def Si.cs(x:Si):List AV:=x.n.devs.v :: x.n.ports.v :: x.n.links.v :: x.n.doms.v :: x.n.stats.v :: x.n.floods.v :: x.n.vrfs.v :: x.n.irbs.v :: .eptr x.sp 0 0 :: .vec x.ti 1 0 x.k :: .vec x.qi 1 0 x.k :: .int .i64 x.now :: .int .i64 x.inj :: x.D.map (AV.int .i64)
@[irreducible] def Si.v (x:Si):AV:=.agg x.cs
theorem Si.e(x:Si):x.v=.agg x.cs:=by rw [Si.v]
theorem Si.c_n(x:Si):cells x.v 0 8 true=some x.n.v:=by rw [Si.e,Nt.e]; rfl
theorem Si.c_devs(x:Si):cells x.v 0 1 false=some x.n.devs.v:=by rw [Si.e]; rfl
theorem Si.c_ports(x:Si):cells x.v 1 1 false=some x.n.ports.v:=by rw [Si.e]; rfl
theorem Si.c_links(x:Si):cells x.v 2 1 false=some x.n.links.v:=by rw [Si.e]; rfl
theorem Si.c_doms(x:Si):cells x.v 3 1 false=some x.n.doms.v:=by rw [Si.e]; rfl
theorem Si.c_sp(x:Si):cells x.v 8 1 false=some (.eptr x.sp 0 0):=by rw [Si.e]; rfl
theorem Si.c_ti(x:Si):cells x.v 9 1 false=some (.vec x.ti 1 0 x.k):=by rw [Si.e]; rfl
theorem Si.c_qi(x:Si):cells x.v 10 1 false=some (.vec x.qi 1 0 x.k):=by rw [Si.e]; rfl
theorem Si.c_now(x:Si):cells x.v 11 1 false=some (.int .i64 x.now):=by rw [Si.e]; rfl
theorem Si.c_inj(x:Si):cells x.v 12 1 false=some (.int .i64 x.inj):=by rw [Si.e]; rfl
theorem Si.c_D(x:Si){k:Nat}(h:k < x.D.length):cells x.v (13+k) 1 false=some (.int .i64 (nth x.D k)):=by
 rw [Si.e]
 show x.cs[13+k]?=_
 unfold Si.cs
 rw [show 13+k=k+13 by omega]
 simp only[List.getElem?_cons_succ,List.getElem?_map,nth_get h,Option.map_some]
theorem Si.set1(x:Si){v:AV}{k:Nat}(hv:v.one=true)(hf:v.flat=[v])(h:k < x.cs.length):setCells x.v v k 1=some (.agg (x.cs.set k v)):=by
 rw [Si.e]
 have h2:k+1≤x.cs.length:=h
 have:x.cs.set k v=x.cs.take k ++ v :: x.cs.drop (k+1):=by rw [List.set_eq_take_append_cons_drop,if_pos h]
 rw [this]
 simp [setCells,AV.ones,hf,hv,h2]
theorem Si.len(x:Si):x.cs.length=13+x.D.length:=by unfold Si.cs; simp only[List.length_cons,List.length_map]; omega
theorem Si.s_sp(x:Si)(a:Nat):setCells x.v (.eptr a 0 0) 8 1=some (Si.v { x with sp:=a }):=by rw [Si.set1 x rfl rfl (by rw [Si.len]; omega),Si.e]; rfl
theorem Si.s_now(x:Si)(a:Int):setCells x.v (.int .i64 a) 11 1=some (Si.v { x with now:=a }):=by rw [Si.set1 x rfl rfl (by rw [Si.len]; omega),Si.e]; rfl
theorem Si.s_inj(x:Si)(a:Int):setCells x.v (.int .i64 a) 12 1=some (Si.v { x with inj:=a }):=by rw [Si.set1 x rfl rfl (by rw [Si.len]; omega),Si.e]; rfl
theorem Si.s_D(x:Si)(a:Int){k:Nat}(h:k < x.D.length):setCells x.v (.int .i64 a) (13+k) 1=some (Si.v { x with D:=x.D.set k a }):=by
 rw [Si.set1 x rfl rfl (by rw [Si.len]; omega),Si.e]
 congr 2
 unfold Si.cs
 rw [show 13+k=k+13 by omega]
 simp only[List.set_cons_succ,List.map_set]
theorem Si.ids(x:Si){hp:Hp}{n:Nat}:idsOf hp (n+2) x.v=idsOf hp (n+1) (.eptr x.sp 0 0) ++(idsOf hp (n+1) (.vec x.ti 1 0 x.k) ++ idsOf hp (n+1) (.vec x.qi 1 0 x.k)):=by
 rw [Si.e]
 show x.cs.flatMap (idsOf hp (n+1))=_
 have hD:(x.D.map (AV.int .i64)).flatMap (idsOf hp (n+1))=[]:=by
  rw [List.flatMap_eq_nil_iff]; intro y hy; obtain ⟨z,_,rfl⟩:=List.mem_map.1 hy; rfl
 unfold Si.cs
 have e4:∀ a:Int,idsOf hp (n+1) (.int .i64 a)=[]:=fun _=>rfl
 simp only[List.flatMap_cons,SL.ids,List.nil_append,List.append_nil,hD,e4]
@[irreducible] def Si.raw (x:Si) (A B C:AV):AV:=.agg (x.n.devs.v :: x.n.ports.v :: x.n.links.v :: x.n.doms.v :: x.n.stats.v :: x.n.floods.v :: x.n.vrfs.v :: x.n.irbs.v :: A :: B :: C :: .int .i64 x.now :: .int .i64 x.inj :: x.D.map (AV.int .i64))
theorem Si.fold(x:Si){a b c:Nat}:Si.raw x (.eptr a 0 0) (.vec b 1 0 x.k) (.vec c 1 0 x.k)=Si.v { x with sp:=a,ti:=b,qi:=c }:=by rw [Si.raw,Si.e]; rfl
theorem Si.ren(x:Si){l:List Nat}{n:Nat}:renX l (n+2) x.v=Si.raw x (renX l (n+1) (.eptr x.sp 0 0)) (renX l (n+1) (.vec x.ti 1 0 x.k)) (renX l (n+1) (.vec x.qi 1 0 x.k)):=by
 rw [Si.e,Si.raw]
 show AV.agg (x.cs.map (renX l (n+1)))=_
 have hD:(x.D.map (AV.int .i64)).map (renX l (n+1))=x.D.map (AV.int .i64):=by rw [List.map_map]; rfl
 have e4:∀ a:Int,renX l (n+1) (.int .i64 a)=.int .i64 a:=fun _=>rfl
 unfold Si.cs
 simp only[List.map_cons,SL.ren,hD,e4]
structure Sg where
 up:TL
 d:Int
 m:Int
 z:Int
 fw:TL
@[irreducible] def Sg.v (x:Sg):AV:=.agg [x.up.v,.int .u32 x.d,.int .i32 x.m,.int .u32 x.z,x.fw.v]
theorem Sg.e(x:Sg):x.v=.agg [x.up.v,.int .u32 x.d,.int .i32 x.m,.int .u32 x.z,x.fw.v]:=by rw [Sg.v]
theorem Sg.c_up(x:Sg):cells x.v 0 1 false=some x.up.v:=by rw [Sg.e]; rfl
theorem Sg.c_d(x:Sg):cells x.v 1 1 false=some (.int .u32 x.d):=by rw [Sg.e]; rfl
theorem Sg.c_m(x:Sg):cells x.v 2 1 false=some (.int .i32 x.m):=by rw [Sg.e]; rfl
theorem Sg.c_fw(x:Sg):cells x.v 4 1 false=some x.fw.v:=by rw [Sg.e]; rfl
theorem Sg.s_fw(x:Sg)(a:TL):setCells x.v a.v 4 1=some (Sg.v { x with fw:=a }):=by rw [Sg.e,Sg.e]; simp [setCells,AV.ones,AV.flat,SL.e,AV.one]
theorem Sg.s_d(x:Sg)(a:Int):setCells x.v (.int .u32 a) 1 1=some (Sg.v { x with d:=a }):=by rw [Sg.e,Sg.e]; simp [setCells,AV.ones,AV.flat,SL.e,AV.one]
theorem Sg.s_m(x:Sg)(a:Int):setCells x.v (.int .i32 a) 2 1=some (Sg.v { x with m:=a }):=by rw [Sg.e,Sg.e]; simp [setCells,AV.ones,AV.flat,SL.e,AV.one]
theorem Sg.nr1(x:Sg):x.v.nr1=true:=by rw [Sg.e]; simp [AV.nr1,SL.e,AV.nr0]
theorem Sg.pl(x:Sg):x.v.pl=true:=by rw [Sg.e]; simp [AV.pl,SL.e,AV.pl0]
structure Su where
 d:Int
 m:Int
 z:Int
 lines:SL Ln Ln.v 17
 n:Nt
 row:Int
 e:Int
@[irreducible] def Su.v (x:Su):AV:=.agg [.int .u32 x.d,.int .i32 x.m,.int .u32 x.z,x.lines.v,x.n.devs.v,x.n.ports.v,x.n.links.v,x.n.doms.v,x.n.stats.v,x.n.floods.v,x.n.vrfs.v,x.n.irbs.v,.int .i64 x.row,.int .i64 x.e]
theorem Su.ee(x:Su):x.v=.agg [.int .u32 x.d,.int .i32 x.m,.int .u32 x.z,x.lines.v,x.n.devs.v,x.n.ports.v,x.n.links.v,x.n.doms.v,x.n.stats.v,x.n.floods.v,x.n.vrfs.v,x.n.irbs.v,.int .i64 x.row,.int .i64 x.e]:=by rw [Su.v]
theorem Su.c_d(x:Su):cells x.v 0 1 false=some (.int .u32 x.d):=by rw [Su.ee]; rfl
theorem Su.c_m(x:Su):cells x.v 1 1 false=some (.int .i32 x.m):=by rw [Su.ee]; rfl
theorem Su.c_lines(x:Su):cells x.v 3 1 false=some x.lines.v:=by rw [Su.ee]; rfl
theorem Su.c_n(x:Su):cells x.v 4 8 true=some x.n.v:=by rw [Su.ee,Nt.e]; rfl
theorem Su.c_row(x:Su):cells x.v 12 1 false=some (.int .i64 x.row):=by rw [Su.ee]; rfl
theorem Su.c_e(x:Su):cells x.v 13 1 false=some (.int .i64 x.e):=by rw [Su.ee]; rfl
theorem Su.s_d(x:Su)(a:Int):setCells x.v (.int .u32 a) 0 1=some (Su.v { x with d:=a }):=by rw [Su.ee,Su.ee]; simp [setCells,AV.ones,AV.flat,SL.e,AV.one]
theorem Su.s_m(x:Su)(a:Int):setCells x.v (.int .i32 a) 1 1=some (Su.v { x with m:=a }):=by rw [Su.ee,Su.ee]; simp [setCells,AV.ones,AV.flat,SL.e,AV.one]
theorem Su.s_n(x:Su)(y:Nt):setCells x.v y.v 4 8=some (Su.v { x with n:=y }):=by rw [Su.ee,Su.ee,Nt.e]; simp [setCells,AV.ones,AV.flat,SL.e,AV.one]
theorem Su.s_row(x:Su)(a:Int):setCells x.v (.int .i64 a) 12 1=some (Su.v { x with row:=a }):=by rw [Su.ee,Su.ee]; simp [setCells,AV.ones,AV.flat,SL.e,AV.one]
theorem Su.s_e(x:Su)(a:Int):setCells x.v (.int .i64 a) 13 1=some (Su.v { x with e:=a }):=by rw [Su.ee,Su.ee]; simp [setCells,AV.ones,AV.flat,SL.e,AV.one]
theorem Su.nr1(x:Su):x.v.nr1=true:=by rw [Su.ee]; simp [AV.nr1,SL.e,AV.nr0]
theorem Su.pl(x:Su):x.v.pl=true:=by rw [Su.ee]; simp [AV.pl,SL.e,AV.pl0]
section
variable {α:Type} {enc:α→AV} {k:Nat} {hp:Hp} {n:Nat} {r:List Nat}
theorem slm_ids{l:List (SL α enc k)}:(l.map SL.v).flatMap (idsOf hp (n+1))=[]:=by
 rw [List.flatMap_eq_nil_iff]; intro y hy; obtain ⟨z,_,rfl⟩:=List.mem_map.1 hy; exact z.ids
theorem slm_ren{l:List (SL α enc k)}:(l.map SL.v).map (renX r (n+1))=l.map SL.v:=by
 rw [List.map_map]; exact List.map_congr_left fun z _=>z.ren
theorem slm_set{l:List (SL α enc k)}{i:Nat}{x:SL α enc k}:(l.map SL.v).set i x.v =(l.set i x).map SL.v:=List.map_set.symm
theorem slm_sn{l:List (SL α enc k)}{x:SL α enc k}:l.map SL.v ++ [x.v] =(l ++ [x]).map SL.v:=by simp
end
def ss:=And.intro @Si.c_n <| And.intro @Si.c_ports <| And.intro @Si.c_links <| And.intro @Si.c_sp <| And.intro @Si.c_ti <| And.intro @Si.c_qi <| And.intro @Si.c_now <| And.intro @Si.c_inj <| And.intro @Si.s_sp <| And.intro @Si.s_now <| And.intro @Si.s_inj <| And.intro @Si.ids <| And.intro @Si.ren <| And.intro @Si.fold <| And.intro @slm_ids <| And.intro @slm_ren <| And.intro @Sg.c_up <| And.intro @Sg.c_d <| And.intro @Sg.c_m <| And.intro @Sg.c_fw <| And.intro @Sg.s_fw <| And.intro @Sg.s_d <| And.intro @Sg.s_m <| And.intro @Sg.pl <| And.intro @Su.c_d <| And.intro @Su.c_m <| And.intro @Su.c_lines <| And.intro @Su.c_n <| And.intro @Su.c_row <| And.intro @Su.c_e <| And.intro @Su.s_d <| And.intro @Su.s_m <| And.intro @Su.s_n <| And.intro @Su.s_row <| And.intro @Su.s_e <| And.intro @slm_set <| @slm_sn
end Go.Pv
set_option maxRecDepth 100000
namespace Go.Proofs
open Go Go.Pv
abbrev EL:=SL En En.v 3
abbrev QL:=SL Qd Qd.v 7
def qk(q:Qd):Int × Int × Int × Int × Int × Int × List UInt8:=(q.frm,q.peer,q.origin,q.frame.dst,q.frame.src,q.frame.typ,q.frame.body.l)
theorem qk_cp(q:Qd):qk (cpQ q)=qk q:=rfl
theorem qk_iff{a b:Qd}:QdS a b↔qk a=qk b:=by
 unfold QdS qk
 simp only[Prod.mk.injEq]
theorem qs_iff{l m:List Qd}:QsS l m↔l.map qk=m.map qk:=by
 constructor
 ·rintro ⟨h1,h2⟩
  refine List.ext_getElem (by simpa using h1) fun i a b=>?_
  simp only[List.length_map] at a b
  have:=qk_iff.1 (h2 i a)
  have e1:=nth_get a
  have e2:=nth_get b
  rw [List.getElem?_eq_getElem a] at e1
  rw [List.getElem?_eq_getElem b] at e2
  simp only[List.getElem_map,Option.some.inj e1,Option.some.inj e2,this]
 ·intro h
  have hl:l.length=m.length:=by have:=congrArg List.length h; simpa using this
  refine⟨hl,fun j hj=>qk_iff.2 ?_⟩
  have h1:(l.map qk)[j]? =(m.map qk)[j]?:=by rw [h]
  rw [List.getElem?_map,List.getElem?_map,nth_get hj,nth_get (hl ▸ hj)] at h1
  simpa using h1
def Ext(a b:List Qd):Prop:=a.map qk <+: b.map qk
theorem Ext.refl(a:List Qd):Ext a a:=List.prefix_rfl
theorem Ext.trans{a b c:List Qd}(h:Ext a b)(h2:Ext b c):Ext a c:=List.IsPrefix.trans h h2
theorem Ext.cp(a:List Qd):Ext a (a.map cpQ):=by
 unfold Ext
 rw [List.map_map]
 have:(qk ∘ cpQ)=qk:=funext qk_cp
 rw [this]
 exact List.prefix_rfl
theorem Ext.put(a:List Qd)(q:Qd):Ext a (a.map cpQ ++ [q]):=by
 have h:=Ext.cp a
 unfold Ext at *
 rw [List.map_append]
 exact h.trans (List.prefix_append _ _)
theorem Ext.same{a b:List Qd}(h:Ext a b):(a.map cpQ).length ≤(b.map cpQ).length∧QsS ((b.map cpQ).take (a.map cpQ).length) (a.map cpQ):=by
 have hc:∀ l:List Qd,(l.map cpQ).map qk=l.map qk:=fun l=>by rw [List.map_map]; exact congrArg (fun f=>l.map f) (funext qk_cp)
 refine⟨?_,?_⟩
 ·have:=h.length_le; simpa using this
 ·rw [qs_iff,List.map_take,hc,hc,List.length_map]
  have:=List.prefix_iff_eq_take.1 h
  rw [List.length_map] at this
  exact this.symm
structure Rl(T Q:Nat→Prop)(ts:List EL)(qs:List QL)(ts':List EL)(qs':List QL):Prop where
 tl:ts'.length=ts.length
 ql:qs'.length=qs.length
 t:∀ d,d < ts.length→¬ T d →(nth ts' d).l =(nth ts d).l
 q:∀ d,d < qs.length→¬ Q d→Ext (nth qs d).l (nth qs' d).l
section
variable {T Q:Nat→Prop} {ts ts' ts'':List EL} {qs qs' qs'':List QL}
theorem Rl.refl:Rl T Q ts qs ts qs:=⟨rfl,rfl,fun _ _ _=>rfl,fun _ _ _=>Ext.refl _⟩
theorem Rl.trans(h:Rl T Q ts qs ts' qs')(h2:Rl T Q ts' qs' ts'' qs''):Rl T Q ts qs ts'' qs'' :=
 ⟨h2.tl.trans h.tl,h2.ql.trans h.ql,fun d hd hT=>(h2.t d (by rw [h.tl]; exact hd) hT).trans (h.t d hd hT),fun d hd hQ=>(h.q d hd hQ).trans (h2.q d (by rw [h.ql]; exact hd) hQ)⟩
theorem Rl.mono{T' Q':Nat→Prop}(h:Rl T Q ts qs ts' qs')(h1:∀ d,T d→T' d)(h2:∀ d,Q d→Q' d):Rl T' Q' ts qs ts' qs' :=
 ⟨h.tl,h.ql,fun d hd hT=>h.t d hd fun h'=>hT (h1 d h'),fun d hd hQ=>h.q d hd fun h'=>hQ (h2 d h')⟩
theorem nth_set_ne{α:Type}[Inhabited α]{l:List α}{i j:Nat}{x:α}(h:i≠j):nth (l.set i x) j=nth l j:=by
 simp [nth,List.getElem!_eq_getElem?_getD,List.getElem?_set_ne h]
theorem Rl.setQ{d:Nat}{w:QL}(h:Q d∨Ext (nth qs d).l w.l):Rl T Q ts qs ts (qs.set d w):=by
 refine⟨rfl,List.length_set,fun _ _ _=>rfl,fun k hk hQ=>?_⟩
 by_cases e:d=k
 ·subst e
  rw [nth_set hk]
  exact h.resolve_left hQ
 ·rw [nth_set_ne e]; exact Ext.refl _
theorem Rl.setT{d:Nat}{w:EL}(h:T d∨w.l =(nth ts d).l):Rl T Q ts qs (ts.set d w) qs:=by
 refine⟨List.length_set,rfl,fun k hk hT=>?_,fun _ _ _=>Ext.refl _⟩
 by_cases e:d=k
 ·subst e
  rw [nth_set hk]
  exact h.resolve_left hT
 ·rw [nth_set_ne e]
end
structure SimAt(hp:Hp)(i:Nat)(x:Si)(g:Sg)(ts:List EL)(qs:List QL):Prop where
 s:ent hp i=some ⟨100,[x.v],true⟩
 p:ent hp x.sp=some ⟨94,[g.v],true⟩
 t:ent hp x.ti=some ⟨52,ts.map SL.v,true⟩
 q:ent hp x.qi=some ⟨54,qs.map SL.v,true⟩
 n1:i≠x.sp
 n2:i≠x.ti
 n3:i≠x.qi
 n4:x.sp≠x.ti
 n5:x.sp≠x.qi
 n6:x.ti≠x.qi
 m:g.m=0
 D:x.D.length=64
 tl:ts.length=x.k
 ql:qs.length=x.k
 k:x.k=x.n.doms.l.length
 k1:x.k≤48
 cost:CostOk x.n
 tb:∀ t,t∈ts→t.l.length≤1000
 qb:∀ q,q∈qs→QSh q.l∧q.l.length≤1000
section
variable {hp l:Hp} {i:Nat} {x x':Si} {g g':Sg} {ts ts':List EL} {qs qs':List QL}
theorem SimAt.ap(h:SimAt hp i x g ts qs)(l:Hp):SimAt (hp ++ l) i x g ts qs :=
 { h with s:=ent_ap h.s l,p:=ent_ap h.p l,t:=ent_ap h.t l,q:=ent_ap h.q l }
theorem SimAt.setS(h:SimAt hp i x g ts qs)(hs:x'.sp=x.sp)(ht:x'.ti=x.ti)(hq:x'.qi=x.qi)(hk:x'.k=x.k)(hn:x'.n=x.n)(hD:x'.D.length=64):SimAt (hp.set i (some ⟨100,[x'.v],true⟩)) i x' g ts qs where
 s:=entset (entlt h.s)
 p:=by rw [hs,ent_setn h.n1]; exact h.p
 t:=by rw [ht,ent_setn h.n2]; exact h.t
 q:=by rw [hq,ent_setn h.n3]; exact h.q
 n1:=by rw [hs]; exact h.n1
 n2:=by rw [ht]; exact h.n2
 n3:=by rw [hq]; exact h.n3
 n4:=by rw [hs,ht]; exact h.n4
 n5:=by rw [hs,hq]; exact h.n5
 n6:=by rw [ht,hq]; exact h.n6
 m:=h.m
 D:=hD
 tl:=by rw [hk]; exact h.tl
 ql:=by rw [hk]; exact h.ql
 k:=by rw [hk,hn]; exact h.k
 k1:=by rw [hk]; exact h.k1
 cost:=by rw [hn]; exact h.cost
 tb:=h.tb
 qb:=h.qb
theorem SimAt.newP(h:SimAt hp i x g ts qs){j:Nat}(hj:ent hp j=some ⟨94,[g'.v],true⟩)(hm:g'.m=0)(h1:j≠i)(h2:j≠x.ti)(h3:j≠x.qi):SimAt (hp.set i (some ⟨100,[Si.v { x with sp:=j }],true⟩)) i { x with sp:=j } g' ts qs where
 s:=entset (entlt h.s)
 p:=by rw [ent_setn h1.symm]; exact hj
 t:=by rw [ent_setn h.n2]; exact h.t
 q:=by rw [ent_setn h.n3]; exact h.q
 n1:=h1.symm
 n2:=h.n2
 n3:=h.n3
 n4:=h2
 n5:=h3
 n6:=h.n6
 m:=hm
 D:=h.D
 tl:=h.tl
 ql:=h.ql
 k:=h.k
 k1:=h.k1
 cost:=h.cost
 tb:=h.tb
 qb:=h.qb
theorem SimAt.setP(h:SimAt hp i x g ts qs)(hm:g'.m=0):SimAt (hp.set x.sp (some ⟨94,[g'.v],true⟩)) i x g' ts qs :=
 { h with s:=by rw [ent_setn h.n1.symm]; exact h.s,p:=entset (entlt h.p),t:=by rw [ent_setn h.n4]; exact h.t,q:=by rw [ent_setn h.n5]; exact h.q,m:=hm }
theorem SimAt.setT(h:SimAt hp i x g ts qs)(hl:ts'.length=ts.length)(hb:∀ t,t∈ts'→t.l.length≤1000):SimAt (hp.set x.ti (some ⟨52,ts'.map SL.v,true⟩)) i x g ts' qs :=
 { h with s:=by rw [ent_setn h.n2.symm]; exact h.s,p:=by rw [ent_setn h.n4.symm]; exact h.p,t:=entset (entlt h.t),q:=by rw [ent_setn h.n6]; exact h.q,tl:=hl.trans h.tl,tb:=hb }
theorem SimAt.setQ(h:SimAt hp i x g ts qs)(hl:qs'.length=qs.length)(hb:∀ q,q∈qs'→QSh q.l∧q.l.length≤1000):SimAt (hp.set x.qi (some ⟨54,qs'.map SL.v,true⟩)) i x g ts qs' :=
 { h with s:=by rw [ent_setn h.n3.symm]; exact h.s,p:=by rw [ent_setn h.n5.symm]; exact h.p,t:=by rw [ent_setn h.n6.symm]; exact h.t,q:=entset (entlt h.q),ql:=hl.trans h.ql,qb:=hb }
structure Fx(hp H':Hp)(i:Nat)(x x':Si):Prop where
 len:hp.length≤H'.length
 fr:∀ j,j < hp.length→j≠i→j≠x.sp→j≠x.ti→j≠x.qi→ent H' j=ent hp j
 n:x'.n=x.n
 ti:x'.ti=x.ti
 qi:x'.qi=x.qi
 k:x'.k=x.k
 sp:x'.sp=x.sp∨hp.length≤x'.sp
theorem Fx.refl:Fx hp hp i x x:=⟨Nat.le_refl _,fun _ _ _ _ _ _=>rfl,rfl,rfl,rfl,rfl,.inl rfl⟩
theorem Fx.trans{H1 H2:Hp}{x1 x2:Si}(h:Fx hp H1 i x x1)(h2:Fx H1 H2 i x1 x2):Fx hp H2 i x x2 where
 len:=Nat.le_trans h.len h2.len
 fr:=fun j hj h1 hs ht hq=>(h2.fr j (Nat.lt_of_lt_of_le hj h.len) h1 (by rcases h.sp with e | e; rw [e]; exact hs; omega) (by rw [h.ti]; exact ht) (by rw [h.qi]; exact hq)).trans (h.fr j hj h1 hs ht hq)
 n:=h2.n.trans h.n
 ti:=h2.ti.trans h.ti
 qi:=h2.qi.trans h.qi
 k:=h2.k.trans h.k
 sp:=by
  rcases h2.sp with e | e
  ·rw [e]; exact h.sp
  ·exact .inr (Nat.le_trans h.len e)
theorem Fx.ap{H1:Hp}(h:Fx hp H1 i x x')(l:Hp):Fx hp (H1 ++ l) i x x' :=
 { h with len:=by rw [List.length_append]; exact Nat.le_trans h.len (Nat.le_add_right _ _),fr:=fun j hj h1 hs ht hq=>by rw [ent_apl (Nat.lt_of_lt_of_le hj h.len)]; exact h.fr j hj h1 hs ht hq }
theorem Fx.set{H1:Hp}{j:Nat}{e:Option Ent}(h:Fx hp H1 i x x')(hj:j=i∨j=x.sp∨j=x.ti∨j=x.qi∨hp.length≤j):Fx hp (H1.set j e) i x x':=by
 refine { h with len:=?_,fr:=?_ }
 ·rw [List.length_set]; exact h.len
 ·intro k hk h1 hs ht hq
  have:j≠k:=by rcases hj with e | e | e | e | e <;> omega
  rw [ent_setn this]; exact h.fr k hk h1 hs ht hq
theorem Fx.to{H1:Hp}{x2:Si}(h:Fx hp H1 i x x')(hn:x2.n=x'.n)(ht:x2.ti=x'.ti)(hq:x2.qi=x'.qi)(hk:x2.k=x'.k)(hs:x2.sp=x'.sp∨hp.length≤x2.sp):Fx hp H1 i x x2:=by
 refine { h with n:=hn.trans h.n,ti:=ht.trans h.ti,qi:=hq.trans h.qi,k:=hk.trans h.k,sp:=?_ }
 rcases hs with e | e
 ·rw [e]; exact h.sp
 ·exact .inr e
end
def Nxt(T Q:Nat→Prop)(hp H':Hp)(i:Nat)(x:Si)(ts:List EL)(qs:List QL):Prop:=∃ x' g' ts' qs',SimAt H' i x' g' ts' qs'∧Fx hp H' i x x'∧Rl T Q ts qs ts' qs'
def No(k:Nat):Prop:=False
end Go.Proofs
set_option maxRecDepth 100000
set_option maxHeartbeats 2000000
namespace Go.Proofs.Onc
open Go
theorem disable(w:World):(callFunc 298 #[]).run Tryz.prog w=.ok (.value (.tuple #[])) w:=run_call_mark0 Tryz.func298 (by kernel_rfl) (by kernel_rfl) (by kernel_rfl) .disable (by kernel_rfl) w
theorem enable(w:World):(callFunc 300 #[]).run Tryz.prog w=.ok (.value (.tuple #[])) w:=run_call_mark0 Tryz.func300 (by kernel_rfl) (by kernel_rfl) (by kernel_rfl) .enable (by kernel_rfl) w
theorem acquire(a:Addr)(w:World):(callFunc 301 #[.pointer (some a)]).run Tryz.prog w=.ok (.value (.tuple #[])) w:=run_call_marked Tryz.func301 (by kernel_rfl) (by kernel_rfl) (by kernel_rfl) .acquire (by kernel_rfl) a w
theorem releaseMerge(a:Addr)(w:World):(callFunc 303 #[.pointer (some a)]).run Tryz.prog w=.ok (.value (.tuple #[])) w:=run_call_marked Tryz.func303 (by kernel_rfl) (by kernel_rfl) (by kernel_rfl) .releaseMerge (by kernel_rfl) a w
theorem store_deferred(a:Addr)(x:Value)(u:FrameMode)(w:World)(hc:w.cell? a=some x)(hz:w.frozen? a=false) :
  CallsD Tryz.prog 125 #[.pointer (some a),.bool true] u w fun e u' w'=>u'=u ∧(e=.returned (.tuple #[])∧w'=w.drew.setCell a (.int .u32 1)):=by
 have hc':w.drew.cell? a=some x:=by go_simp
 have hz':w.drew.frozen? a=false:=by go_simp
 have hst:=run_call_store (P:=Tryz.prog) Tryz.func214 (by kernel_rfl) (by kernel_rfl) (by kernel_rfl) (by kernel_rfl) (k:=.u32) (y:=1) hc' hz'
 go_enter_d Tryz.func125,Tryz.ntmps125
 go_wp2
 go_region_calls
 all_goals (go_end0; exact⟨rfl,rfl⟩)
theorem unlock_deferred(a:Addr)(u:FrameMode)(w:World)(hc:w.cell? a=some (.int .i32 1))(hz:w.frozen? a=false) :
  CallsD Tryz.prog 124 #[.pointer (some a)] u w fun e u' w'=>u'=u ∧(e=.returned (.tuple #[])∧w'=w.setCell a (.int .i32 0)):=by
 have hd:=disable
 have he:=enable
 have hr:=releaseMerge
 have hadd:=run_call_add (P:=Tryz.prog) Tryz.func304 (by kernel_rfl) (by kernel_rfl) (by kernel_rfl) .i32 (by kernel_rfl) (y:=-1) (s:=0) hc hz (by simp [go_sem]; rfl)
 have hcv:=run_convert_to_unsafe (P:=Tryz.prog) (src:=418) (dst:=422) Tryz.underlying418 Tryz.underlying422 (by kernel_rfl) hc
 go_enter_d Tryz.func124,Tryz.ntmps124
 go_wp2
 go_end0
 go_wp2
 go_end0
 exact⟨rfl,rfl⟩
theorem lock_free(a:Addr)(w:World)(hc:w.cell? a=some (.int .i32 0))(hz:w.frozen? a=false) :
  Calls Tryz.prog 123 #[.pointer (some a)] w fun e w'=>e=.returned (.tuple #[])∧w'=w.setCell a (.int .i32 1):=by
 have hd:=disable
 have he:=enable
 have ha:=acquire
 have hcas:=run_call_cas_hit (P:=Tryz.prog) Tryz.func299 (by kernel_rfl) (by kernel_rfl) (by kernel_rfl) .i32 (by kernel_rfl) (y:=1) hc hz
 have hc':(w.setCell a (.int .i32 1)).cell? a=some (.int .i32 1):=World.cell?_setCell_same w a _ hc
 have hcv:=run_convert_to_unsafe (P:=Tryz.prog) (src:=418) (dst:=422) Tryz.underlying418 Tryz.underlying422 (by kernel_rfl) hc'
 go_enter Tryz.func123,Tryz.ntmps123
 go_wp2
 first | go_end0 | (simp only[Exit.inBlock,Exit.then]; refine bodyPost_ret (results_none rfl _ _ _) rfl ?_) | refine bodyPost_ret (results_none rfl _ _ _) rfl ?_
 go_wp2
 go_end0
 exact⟨rfl,rfl⟩
end Go.Proofs.Onc
set_option maxRecDepth 100000
set_option maxHeartbeats 2000000
namespace Go.Proofs.Onc
open Go
theorem slow_any(b off:Nat)(g:FuncId)(fs cs:Array Value)(w:World)(h0:w.cell? ⟨b,off,none⟩=some (.int .u32 0))(h1:w.cell? ⟨b,off+1,none⟩=some (.int .i32 0))
  (f0:w.frozen? ⟨b,off,none⟩=false) (f1:w.frozen? ⟨b,off+1,none⟩=false) (hcan:Pv.Can Tryz.prog g) (R:World→Prop)
  (hcl:Calls Tryz.prog g (fs ++ cs) (w.setCell ⟨b,off+1,none⟩ (.int .i32 1)) fun e w'=>(∃ v,e=.returned v)∧R w')
  (hR:∀ w',R w'→w'.cell? ⟨b,off,none⟩=some (.int .u32 0)∧w'.cell? ⟨b,off+1,none⟩=some (.int .i32 1)∧w'.frozen? ⟨b,off,none⟩=false∧w'.frozen? ⟨b,off+1,none⟩=false) :
  Calls Tryz.prog 66 #[.pointer (some ⟨b,off,none⟩),.func (.func g) fs cs] w fun e w'=>e=.returned (.tuple #[]) ∧
   ∃ w2,R w2∧w' =(w2.drew.setCell ⟨b,off,none⟩ (.int .u32 1)).setCell ⟨b,off+1,none⟩ (.int .i32 0):=by
 have hl:=run_call_load (P:=Tryz.prog) Tryz.func122 (by kernel_rfl) (by kernel_rfl) (by kernel_rfl) .u32 (by kernel_rfl) (w:=w.setCell ⟨b,off+1,none⟩ (.int .i32 1)) (a:=⟨b,off,none⟩) (x:=0) ((World.cell?_setCell_other _ ⟨b,off+1,none⟩ ⟨b,off,none⟩ _ (by simp)).trans h0)
 have hnot:∀(x:Bool) (w:World),(Op.unary .not (.bool x)).run Tryz.prog w=.ok (.bool (!x)) w:=fun _ _=>rfl
 have hc:=hcan (fs ++ cs) (w.setCell ⟨b,off+1,none⟩ (.int .i32 1))
 go_enter_defers Tryz.func66,Tryz.ntmps66
 go_wp2_with (go_at_call 123; refine(lock_free ⟨b,off+1,none⟩ _ (by go_simp) (by go_simp)).mono ?_; rintro e w' ⟨rfl,rfl⟩)
 go_wp2
 refine hcl.mono ?_
 rintro e w2 ⟨⟨v,rfl⟩,hr⟩
 obtain ⟨c0,c1,z0,z1⟩:=hR w2 hr
 go_wp2
 refine leaves_cons (f:=125) (args:=#[.pointer (some ⟨b,off,none⟩),.bool true]) (by simp) (by simp [go_sem]) ?_
 refine(store_deferred ⟨b,off,none⟩ (.int .u32 0) .returning _ c0 z0).mono ?_
 rintro e u' w'' ⟨rfl,rfl,rfl⟩
 refine leaves_cons (f:=124) (args:=#[.pointer (some ⟨b,off+1,none⟩)]) (by simp [settle]) (by simp [go_sem]) ?_
 refine(unlock_deferred ⟨b,off+1,none⟩ _ _ ?_ (by simp [z1])).mono ?_
 ·refine(World.cell?_setCell_other _ ⟨b,off,none⟩ ⟨b,off+1,none⟩ _ (by simp)).trans ?_
  rw [World.cell?_drew]; exact c1
 rintro e u' w'' ⟨rfl,rfl,rfl⟩
 simp [Leaves,settle,results,Tryz.results66]
 exact⟨w2,hr,rfl⟩
theorem do_first(b off:Nat)(g:FuncId)(fs cs:Array Value)(w:World)(h0:w.cell? ⟨b,off,none⟩=some (.int .u32 0))(h1:w.cell? ⟨b,off+1,none⟩=some (.int .i32 0))
  (f0:w.frozen? ⟨b,off,none⟩=false) (f1:w.frozen? ⟨b,off+1,none⟩=false) (hcan:Pv.Can Tryz.prog g) (R:World→Prop)
  (hcl:Calls Tryz.prog g (fs ++ cs) (w.setCell ⟨b,off+1,none⟩ (.int .i32 1)) fun e w'=>(∃ v,e=.returned v)∧R w')
  (hR:∀ w',R w'→w'.cell? ⟨b,off,none⟩=some (.int .u32 0)∧w'.cell? ⟨b,off+1,none⟩=some (.int .i32 1)∧w'.frozen? ⟨b,off,none⟩=false∧w'.frozen? ⟨b,off+1,none⟩=false) :
  Calls Tryz.prog 35 #[.pointer (some ⟨b,off,none⟩),.func (.func g) fs cs] w fun e w'=>e=.returned (.tuple #[]) ∧
   ∃ w2,R w2∧w' =(w2.drew.setCell ⟨b,off,none⟩ (.int .u32 1)).setCell ⟨b,off+1,none⟩ (.int .i32 0):=by
 have hl:=run_call_load (P:=Tryz.prog) Tryz.func122 (by kernel_rfl) (by kernel_rfl) (by kernel_rfl) .u32 (by kernel_rfl) h0
 have hnot:∀(x:Bool) (w:World),(Op.unary .not (.bool x)).run Tryz.prog w=.ok (.bool (!x)) w:=fun _ _=>rfl
 have hs:=slow_any b off g fs cs w h0 h1 f0 f1 hcan R hcl hR
 clear hcl
 go_enter Tryz.func35,Tryz.ntmps35
 go_wp2_with (first | (go_at_call 66; refine hs.mono ?_; rintro e w' ⟨rfl,w2,hr,rfl⟩) | (go_at_call 65; go_in))
 go_end0
 exact⟨rfl,w2,hr,rfl⟩
theorem do_done(a:Addr)(d:Int)(hd:¬ d=0)(fv:Value)(w:World)(h0:w.cell? a=some (.int .u32 d)) :
  Calls Tryz.prog 35 #[.pointer (some a),fv] w fun e w'=>e=.returned (.tuple #[])∧w'=w:=by
 have hl:=run_call_load (P:=Tryz.prog) Tryz.func122 (by kernel_rfl) (by kernel_rfl) (by kernel_rfl) .u32 (by kernel_rfl) h0
 have hnot:∀(x:Bool) (w:World),(Op.unary .not (.bool x)).run Tryz.prog w=.ok (.bool (!x)) w:=fun _ _=>rfl
 have hd':(d != 0)=true:=by simp [hd]
 go_enter Tryz.func35,Tryz.ntmps35
 go_wp2
 go_end0
 exact⟨rfl,rfl⟩
end Go.Proofs.Onc
set_option maxRecDepth 100000
namespace Go.Proofs.Onc
open Go Go.Pv
variable [Lq]
section
variable {w w':World} {γ γ':Gh} {H H':Hp}
theorem cell_at(hh:HRel γ H w){id i off g:Nat}{ge:GE}(hm:γ.m id=some ge)(hg:ge.blk=some g){k:IntKind}{n:Int}(h:cellAt H id i off=some (.int k n)) :
  w.cell? ⟨g,i * ge.sz+off,none⟩=some (.int k n)∧w.frozen? ⟨g,i * ge.sz+off,none⟩=false:=by
 unfold cellAt at h
 obtain ⟨e,he,h⟩:=Option.bind_eq_some_iff.1 h
 cases hwr:e.wr with
 | false=>rw [hwr] at h; cases h
 | true =>
 rw [hwr] at h
 simp only[cond_true,evR,AX.ev,he,Option.bind_some] at h
 obtain ⟨x,hx,h⟩:=Option.bind_eq_some_iff.1 h
 simp only[cells,Bool.false_eq_true,if_false] at h
 obtain ⟨ge',hm',hok⟩:=hh.ok id e he
 rw [hm] at hm'; cases hm'
 obtain ⟨cs,fz,hw,hs,hfz,hle,hrow⟩:=placed hok hwr hg
 obtain ⟨u,hu,_,hsu⟩:=(hrow i x hx).2 off _ h
 have e1:=int_inv hsu
 subst e1
 rw [Array.getElem?_toList] at hu
 have hlt:i * ge.sz+off < cs.size:=(Array.getElem?_eq_some_iff.1 hu).1
 exact⟨by simp [World.cell?,hw,hu],blk_froz hw hfz hlt⟩
theorem put_cell(hh:HRel γ H w){id i off g:Nat}{ge:GE}(hm:γ.m id=some ge)(hg:ge.blk=some g){k:IntKind}{n:Int}(h:putAt H id i off (.int k n)=some H')
  {y:Value} (hc:w.cell? ⟨g,i * ge.sz+off,none⟩=some y) (hf:w.frozen? ⟨g,i * ge.sz+off,none⟩=false) :
  ∃ γ',HRel γ' H' (w.setCell ⟨g,i * ge.sz+off,none⟩ (.int k n))∧Step γ γ' w (w.setCell ⟨g,i * ge.sz+off,none⟩ (.int k n))∧Ids γ γ':=by
 unfold putAt at h
 obtain ⟨⟨x,H1⟩,hq,e⟩:=Option.map_eq_some_iff.1 h
 subst e
 let a:Act:={ tmps:=#[.pointer (some ⟨g,i * ge.sz+off,none⟩),.int k n],defers:=[] }
 have hfr:FrR w γ [(0,.eptr id i off),(1,.int k n)] a.tmps:=by
  intro t
  match t with
  | 0=>exact .eptr id i off g ge hm hg
  | 1=>exact .int k n
  | t+2=>exact .undef _
 have e3:(Tryz.prog.cellsOf 3)=1:=by kernel_rfl
 have ht:tyOk Tryz.prog 3=true:=by kernel_rfl
 obtain ⟨w1,γ1,hr,_,h1,h2,h3⟩:=store_eff (P:=Tryz.prog) (X:=.tmp 0) (V:=.tmp 1) (base:=0) (r:=none) (x:=x) (H':=H1) hh hfr ht (by rw [e3]; exact hq)
 have hw:w1=w.setCell ⟨g,i * ge.sz+off,none⟩ (.int k n):=by
  have hsz:(sizeOf 3).run Tryz.prog w=.ok 1 w:=by have:=Pv.run_sizeOf (P:=Tryz.prog) (w:=w) ht; rwa [e3] at this
  have:(Instr.storeAt 3 (.pointer (some ⟨g,i * ge.sz+off,none⟩)) (.int k n)).run Tryz.prog w=.ok () (w.setCell ⟨g,i * ge.sz+off,none⟩ (.int k n)):=by
   simp [Instr.storeAt,Instr.sureAddr,storeVar,hsz,Value.cells,storeCells,go_sem,hc,hf]
  rw [show(Act.eval a (.tmp 0))=Value.pointer (some ⟨g,i * ge.sz+off,none⟩) from rfl,show(Act.eval a (.tmp 1))=Value.int k n from rfl,this] at hr
  cases hr; rfl
 subst hw
 exact⟨γ1,h1,h2,h3⟩
end
end Go.Proofs.Onc
set_option maxRecDepth 100000
namespace Go.Proofs.Onc
open Go Go.Pv
variable [Lq]
theorem hrel_drew{γ:Gh}{H:Hp}{w:World}(hh:HRel γ H w):HRel γ H w.drew∧Step γ γ w w.drew :=
 hrel_change (γ':=γ) hh ⟨rfl,rfl,rfl,Nat.le_refl _,fun _ _ _=>rfl⟩ rfl (Ids.refl γ) (fun _ h=>.inl h) hh.inj (fun _ _ h _=>h) fun id=>.inl ⟨rfl,rfl,fun _ _ _ _ _=>rfl⟩
theorem drew_cell{w:World}{a:Addr}:w.drew.cell? a=w.cell? a∧w.drew.frozen? a=w.frozen? a:=⟨World.cell?_drew ..,rfl⟩
theorem spOnce_ok{cl:Cl}(hc:ClOk Tryz.prog cl){xs:List AV}{hp:Hp}{r:AV}{H':Hp}(h:spOnce cl xs hp=some (r,H')):Gen Tryz.prog 35 xs hp r H':=by
 unfold spOnce at h
 split at h
 case h_2=>cases h
 rename_i id i off f caps
 cases hb:Nat.blt f ifB with
 | false=>rw [hb] at h; cases h
 | true =>
 have hf:f < ifB:=of_eq_true (by rw [← Nat.blt_eq]; simp [hb])
 rw [hb] at h
 change (match cellAt hp id i off,cellAt hp id i (off+1) with | some (.int .u32 d),some (.int .i32 0)=>_ | _,_=>none)=_ at h
 split at h
 case h_2=>cases h
 rename_i d c0 c1
 refine⟨can_of Tryz.func35 (by kernel_rfl) (by kernel_rfl),fun w γ args hq hh hl hs=>?_⟩
 obtain ⟨v0,v1,rfl⟩:∃ v0 v1,args=#[v0,v1]:=by
  obtain ⟨l⟩:=args
  match l,hl with
  | [a,b],_=>exact⟨a,b,rfl⟩
 have s0:=hs 0 _ _ rfl rfl
 have s1:=hs 1 _ _ rfl rfl
 cases s0 with
 | eptr _ _ _ g ge hm hg =>
 cases s1 with
 | ifc t=>exact absurd hf (Nat.not_lt.2 (Nat.le_add_right _ _))
 | fn _ g' _ fs cs hfv hz hsc =>
 obtain ⟨h0,f0⟩:=cell_at hh hm hg c0
 obtain ⟨h1,f1⟩:=cell_at hh hm hg c1
 have unit:∀(γ':Gh) (W:World),Sim W γ' (.tup []) (.tuple #[]):=fun γ' W=>.tup [] #[] rfl fun i x v h=>by cases h
 split at h
 case isFalse hd =>
  cases h
  refine(do_done _ d hd _ w h0).mono ?_
  rintro e W ⟨rfl,rfl⟩
  exact⟨_,γ,rfl,unit _ _,hh,Step.refl _ _,Ids.refl _⟩
 rename_i hd
 subst hd
 obtain ⟨hp1,hput,h⟩:=Option.bind_eq_some_iff.1 h
 obtain ⟨⟨r2,hp2⟩,hcl,h⟩:=Option.bind_eq_some_iff.1 h
 obtain ⟨hgen,_,_⟩:=hc.2 _ _ _ _ _ _ hcl
 dsimp only at h
 split at h
 case h_2=>cases h
 rename_i d0 d1
 obtain ⟨hp4,h,e4⟩:=Option.map_eq_some_iff.1 h
 cases e4
 obtain ⟨hp3,hput3,hput4⟩:=Option.bind_eq_some_iff.1 h
 obtain ⟨γ1,hh1,st1,ids1⟩:=put_cell hh hm hg hput h1 f1
 obtain ⟨st,hm1⟩:=ids1 id ge hm
 have hid:fnId f=g':=by
  unfold fnId
  rcases hfv with ⟨rfl,_,hl⟩ | ⟨rfl,_⟩
  ·rw [if_pos hl]
  ·exact(if_neg (Nat.not_lt.2 (Nat.le_add_left _ _))).trans (Nat.add_sub_cancel _ _)
 have hargs:fnArgs f [] caps=caps:=by
  unfold fnArgs
  split <;> simp
 rw [hid,hargs] at hgen
 have hadv:=st1.adv ids1 hh.imm
 have hcall:=hgen.2 (w.setCell ⟨g,i * ge.sz +(off+1),none⟩ (.int .i32 1)) γ1 (fs ++ cs) (st1.q hh.imm hq) hh1 hz fun j x v hx hv=>(hsc j x v hx hv).adv hadv
 have cellsR:∀(γ2:Gh) (W:World),HRel γ2 hp2 W→Ids γ1 γ2→∃ st',γ2.m id=some { ge with st:=st' } ∧(W.cell? ⟨g,i * ge.sz+off,none⟩=some (.int .u32 0)∧W.cell? ⟨g,i * ge.sz+off+1,none⟩=some (.int .i32 1)∧W.frozen? ⟨g,i * ge.sz+off,none⟩=false∧W.frozen? ⟨g,i * ge.sz+off+1,none⟩=false):=by
  intro γ2 W h2 i2
  obtain ⟨st',hm2⟩:=i2 id _ hm1
  obtain ⟨q0,z0⟩:=cell_at (ge:={ ge with st:=st' }) h2 hm2 hg d0
  obtain ⟨q1,z1⟩:=cell_at (ge:={ ge with st:=st' }) h2 hm2 hg d1
  exact⟨st',hm2,q0,q1,z0,z1⟩
 refine(do_first g (i * ge.sz+off) g' fs cs w h0 h1 f0 f1 hgen.1 (fun W=>∃ γ2,HRel γ2 hp2 W∧Step γ1 γ2 (w.setCell ⟨g,i * ge.sz +(off+1),none⟩ (.int .i32 1)) W∧Ids γ1 γ2) (hcall.mono ?_) ?_).mono ?_
 ·rintro e W ⟨v,γ2,rfl,_,k1,k2,k3⟩
  exact⟨⟨v,rfl⟩,γ2,k1,k2,k3⟩
 ·rintro W ⟨γ2,k1,k2,k3⟩
  obtain ⟨_,_,k⟩:=cellsR γ2 W k1 k3
  exact k
 ·rintro e W ⟨rfl,w2,⟨γ2,k1,k2,k3⟩,rfl⟩
  obtain ⟨st2,hm2,q0,q1,z0,z1⟩:=cellsR γ2 w2 k1 k3
  obtain ⟨e1,e2⟩:=hrel_drew k1
  obtain ⟨γ3,u1,u2,u3⟩:=put_cell (ge:={ ge with st:=st2 }) e1 hm2 hg hput3 (drew_cell.1.trans q0) (drew_cell.2.trans z0)
  obtain ⟨st3,hm3⟩:=u3 id _ hm2
  have y1:(w2.drew.setCell ⟨g,i * ge.sz+off,none⟩ (.int .u32 1)).cell? ⟨g,i * ge.sz +(off+1),none⟩=some (.int .i32 1) :=
   (World.cell?_setCell_other _ ⟨g,i * ge.sz+off,none⟩ ⟨g,i * ge.sz +(off+1),none⟩ _ (by simp)).trans (drew_cell.1.trans q1)
  have y2:(w2.drew.setCell ⟨g,i * ge.sz+off,none⟩ (.int .u32 1)).frozen? ⟨g,i * ge.sz +(off+1),none⟩=false:=by
   simpa using (show w2.frozen? ⟨g,i * ge.sz +(off+1),none⟩=false from z1)
  obtain ⟨γ4,t1,t2,t3⟩:=put_cell (ge:={ ge with st:=st3 }) u1 hm3 hg hput4 y1 y2
  exact⟨_,γ4,rfl,unit _ _,t1,(((st1.trans k2).trans e2).trans u2).trans t2,((ids1.trans k3).trans u3).trans t3⟩
theorem add_calls(a:Addr)(n d:Int)(w:World)(hc:w.cell? a=some (.int .i64 n))(hz:w.frozen? a=false) :
  Calls Tryz.prog 97 #[.pointer (some a),.int .i64 d] w fun e w'=>e=.returned (.int .i64 (IntKind.i64.wrap (n+d)))∧w'=w.setCell a (.int .i64 (IntKind.i64.wrap (n+d))):=by
 obtain ⟨s,hs⟩:∃ s,s=IntKind.i64.wrap (n+d):=⟨_,rfl⟩
 have hsum:(Op.intArith .add .i64 n d).run Tryz.prog w=.ok (.int .i64 s) w:=by rw [hs]; simp [go_sem]
 rw [← hs]
 clear hs
 have hadd:=run_call_add (P:=Tryz.prog) Tryz.func194 (by kernel_rfl) (by kernel_rfl) (by kernel_rfl) .i64 (by kernel_rfl) (y:=d) (s:=s) hc hz hsum
 go_enter Tryz.func97,Tryz.ntmps97
 go_wp2
 go_ret
 exact⟨rfl,rfl⟩
theorem spAdd_ok{cl:Cl}{xs:List AV}{hp:Hp}{r:AV}{H':Hp}(h:spAdd cl xs hp=some (r,H')):Gen Tryz.prog 97 xs hp r H':=by
 unfold spAdd at h
 split at h
 case h_2=>cases h
 rename_i id i off d
 split at h
 case h_2=>cases h
 rename_i n hc
 obtain ⟨hp1,hput,h⟩:=Option.map_eq_some_iff.1 h
 cases h
 refine⟨can_of Tryz.func97 (by kernel_rfl) (by kernel_rfl),fun w γ args hq hh hl hs=>?_⟩
 obtain ⟨v0,v1,rfl⟩:∃ v0 v1,args=#[v0,v1]:=by
  obtain ⟨l⟩:=args
  match l,hl with
  | [a,b],_=>exact⟨a,b,rfl⟩
 have s0:=hs 0 _ _ rfl rfl
 have s1:=hs 1 _ _ rfl rfl
 have e1:=int_inv s1
 subst e1
 cases s0 with
 | eptr _ _ _ g ge hm hg =>
 obtain ⟨h0,f0⟩:=cell_at hh hm hg hc
 obtain ⟨γ1,u1,u2,u3⟩:=put_cell hh hm hg hput h0 f0
 refine(add_calls _ n d w h0 f0).mono ?_
 rintro e W ⟨rfl,rfl⟩
 exact⟨_,γ1,rfl,.int _ _,u1,u2,u3⟩
end Go.Proofs.Onc
