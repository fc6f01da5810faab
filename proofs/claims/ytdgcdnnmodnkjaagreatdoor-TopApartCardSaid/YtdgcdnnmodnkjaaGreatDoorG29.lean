/- Part 29 of a proof that a step of one domain changes nothing of another: the machine of plain values, and what the program's functions do. -/
import Derived.Test.YtdgcdnnmodnkjaaGreatDoorG28
set_option linter.all false
set_option linter.unusedVariables false
set_option linter.unusedSectionVars false
set_option linter.unusedSimpArgs false
set_option linter.defProp false
set_option maxHeartbeats 4000000
set_option maxRecDepth 100000
namespace Go.Pv
theorem mapO_set{f:AV→Option AV}{x y:AV}:∀ {l:List AV} {k:Nat},mapO f l=some l→f x=some y→mapO f (l.set k x)=some (l.set k y)
 | [],k,h,hx=>rfl
 | a :: l,0,h,hx=>by
  obtain ⟨b,hb,h⟩:=Option.bind_eq_some_iff.1 h
  obtain ⟨m,hm,h⟩:=Option.map_eq_some_iff.1 h
  cases h
  show((f x).bind fun y=>(mapO f l).map fun ys=>y :: ys)=_
  rw [hx,hm]; rfl
 | a :: l,k+1,h,hx=>by
  obtain ⟨b,hb,h⟩:=Option.bind_eq_some_iff.1 h
  obtain ⟨m,hm,h⟩:=Option.map_eq_some_iff.1 h
  cases h
  show((f a).bind fun y=>(mapO f (l.set k x)).map fun ys=>y :: ys)=_
  rw [hb,mapO_set hm hx]; rfl
theorem flat_set{f:AV→List Nat}{x:AV}:∀ {l:List AV} {k:Nat},l.flatMap f=[]→k < l.length →(l.set k x).flatMap f=f x
 | a :: l,0,h,hk=>by
  rw [List.flatMap_cons,List.append_eq_nil_iff] at h
  show((x :: l).flatMap f)=_
  rw [List.flatMap_cons,h.2,List.append_nil]
 | a :: l,k+1,h,hk=>by
  rw [List.flatMap_cons,List.append_eq_nil_iff] at h
  show((a :: l.set k x).flatMap f)=_
  rw [List.flatMap_cons,h.1,List.nil_append]
  exact flat_set h.2 (by simpa using hk)
theorem nil1_fld{N:Kf}{fr:Fr}{hp:Hp}{i id z off n s fld:Nat}{ty:TypeId}{wr:Bool}{cs es:List AV}{e:Ent}{l:List Nat}(h1:ent hp i=some ⟨ty,[.agg cs],wr⟩)(h2:cs.getD fld .undef=.vec id z off n)(h3:ent hp id=some e)
  (h4:mapO (snap hp 6) e.es=some es) (h5:e.es.flatMap (rows hp 6)=l) (h6:l.contains id=false):nil1 (.eptr i 0 0) (s,1000001,fld) N fr hp=N fr (still (hp.set id (some { e with es:=es })) l):=by
 have e1:frzFld ⟨fr,hp⟩ fld (.eptr i 0 0) =⟨fr,still (hp.set id (some { e with es:=es })) l⟩:=by
  show(match (ent hp i).bind fun e=>e.es[0]? with | some (.agg cs)=>frzSlot ⟨fr,hp⟩ (cs.getD fld .undef) | _=>⟨fr,hp⟩)=_
  rw [h1]
  show frzSlot ⟨fr,hp⟩ (cs.getD fld .undef)=_
  rw [h2]
  show frzRow ⟨fr,hp⟩ id=_
  unfold frzRow
  simp only[h3]
  have h4':mapO (snap hp deep) e.es=some es:=h4
  have h5':e.es.flatMap (rows hp deep)=l:=h5
  rw [h4']
  simp only[h5',h6]
  rfl
 simp only[nil1]
 rw [if_neg (by decide),if_pos trivial,e1]; rfl
end Go.Pv
namespace Go.Proofs
open Go Go.Pv
variable [Lq]
theorem run_c{f:FuncId}{fn:Func}{c:Code}{c':AC}{rs:List RV}{xs:List AV}{Q:AV→Prop}(hf:Tryz.prog.funcs[f]?=some fn)(hb:fn.body=some c)(hr:rvsOk Tryz.prog rs fn.results.toList=true)(hc:bareC c'=comp Tryz.prog c)(ho:okC fn.ntmps false c'=true)(hlen:xs.length≤fn.ntmps)
  (hn:xs.all noOwnC=true) (hx:aD Tryz.prog c' (endC rs Q) (frs 0 xs) []):∃ r,Run Tryz.prog f xs r∧Q r:=by
 have hx2:awD Tryz.prog c' (EndsQ (rvs rs) Q) (entry xs):=by
  rw [entry_no hn]
  refine awD_mono _ _ _ _ ?_ (aD_sound _ _ _ _ hx)
  intro e σ hx
  have key:∀ e:AE,e=.normal∨e=.ret→fin (rvs rs σ) Q σ.hp→EndsQ (rvs rs) Q e σ:=by
   rintro e he ⟨x,h1,r,ms,H1,l,h2,h3,h4⟩
   refine⟨r,h4,?_⟩
   rcases he with rfl | rfl <;> exact⟨x,h1,ms,H1,l,h2,h3⟩
  cases e with
  | normal=>exact key _ (.inl rfl) hx
  | ret=>exact key _ (.inr rfl) hx
  | exit i=>exact hx.elim
 obtain ⟨e,σ,⟨r,hq,he⟩,h2⟩:=awD_det _ _ _ hx2
 exact⟨r,run_ofC (fun _ _=>drawOk progOk.mixed) hf hb (progOk.names f fn hf) hr hc ho hlen (h2 _ he),hq⟩
end Go.Proofs
set_option maxHeartbeats 4000000
set_option maxRecDepth 100000
namespace Go.Proofs
open Go Go.Pv Go.Proofs.Tx
variable [Lq]
open W
open Classical
def c68f:AC:=q (R [1,2] [bx 1 40 0,al 2 40 (.agg z1),n 3 0,n 4 0]) (q (q (R [1,2,15] [la 13 8 1,ca 14 72 [13],nt 15 14]) (i 15 (q (R [2,3,4] [p 16 (.build z1 []),st 8 2 16,n 3 0,n 4 2]) (r)) (s))) (q (q (R [1,2,18,19,20] [fa 17 5 1,ld 18 1 17,l 19 18,n 20 0]) (bl 0 (lo true [1,2,18,19,20] [] (c68b0 true)))) (q (R [1,2] [la 32 8 1,ca 33 20 [32],st 8 2 33]) (q (q (R [1,2,35,36,37] [fa 34 3 1,ld 35 1 34,l 36 35,n 37 0]) (bl 2 (lo true [1,2,35,36,37] [(2,1000001,3)] (c68b1 true)))) (q (q (R [2,86] [la 84 8 2,ca 85 72 [84],nt 86 85]) (i 86 (q (R [2,3,4] [p 87 (.build z1 []),st 8 2 87,n 3 0,n 4 36]) (r)) (s))) (q (R [2,3,4] [la 88 8 2,st 8 2 88,n 3 0,n 4 0]) (r)))))))
theorem Dm.s5(x:Dm){v:AV}(h:stc v=true)(h2:v.one=true):setCells x.v v 5 1=some (.agg [.int .i64 x.dev,.int .i64 x.vlan,.int .i64 x.vni,.int .i64 x.irb,.int .i64 x.row,v]):=by rw [Dm.e,set_agg h h2]; rfl
theorem Dm.s50(x:Dm):setCells x.v (.sl 0 [] true) 5 1=some (Dm.v { x with peers:=SL.nil }):=by
 rw [@SL.nile Int (AV.int .i64) 1]; exact Dm.s_peers x SL.nil
def mhH(N:Nt)(M:List Dm):Hp :=
 [some ⟨40,[N.v],true⟩,some ⟨40,[.agg [.vec 2 5 0 N.devs.l.length,.vec 3 7 0 N.ports.l.length,.vec 4 3 0 N.links.l.length,.vec 5 6 0 N.doms.l.length,.vec 6 4 0 N.stats.l.length,.vec 7 4 0 N.floods.l.length,.vec 8 5 0 N.vrfs.l.length,.vec 9 5 0 N.irbs.l.length]],true⟩,
  some ⟨133,N.devs.l.map Dv.v,true⟩,some ⟨136,(N.ports.l.map cpPt).map Pt.v,true⟩,some ⟨129,N.links.l.map Lk.v,true⟩,some ⟨140,M.map Dm.v,true⟩,some ⟨143,N.stats.l.map Sc.v,true⟩,some ⟨146,(N.floods.l.map cpFl).map Fl.v,true⟩,some ⟨149,(N.vrfs.l.map cpVf).map Vf.v,true⟩,some ⟨154,N.irbs.l.map Ib.v,true⟩]
theorem s68(N:Nt):∃ r,Run Tryz.prog 68 [N.v] r∧∃ M:Nt,∃ a e,r=.tup [M.v,.int .i64 a,.int .i64 e]∧okE e ∧(e=0→Good M) ∧(CostOk N→CostOk M):=by
 have ok:∀ e:Int,0≤e∧e < 64→okE e:=fun e h=>h
 refine run_c (c':=c68f) (rs:=[.c 2 8 true,.t 3,.t 4]) Tryz.func68 rfl (by kernel_rfl) (by kernel_rfl) (by kernel_rfl) (by show(1:Nat)≤Tryz.f68.ntmps; decide) (by simp only[wd]) ?_
 unfold c68f
 by_cases hg:Good N
 ·obtain ⟨f1,f2,f3,f4,f5,f6,f7,f8⟩:=hg.few
  repeat' (first
 |simp (disch:=try exact Dk) only[Kk,hg,seval,reduceCtorEq]
 |(with_reducible first|apply condC_d|apply gC_d1)<;>intro _
 |with_reducible refine e8 ?_
 |with_reducible refine e_app_vec ?_
 |(refine Ak (s72 _) ?_;rintro _ rfl;all_goals simp only[vl,ts,wb])
 |(refine Fk ?_;first|exact e9|fail)
 |(refine fin_o [] ?_;simp (disch:=try exact Dk) only[Kk,hg,wh,seval,reduceCtorEq];refine⟨_,rfl,?_,?_⟩;(first|rfl|simp (disch:=try exact Dk) only[Kk,hg,wh,seval,reduceCtorEq]);first|exact⟨_,rfl⟩|fail)
 |fail)
  refine d_lo (fun k:Nat=>⟨[(1,.eptr 0 0 0),(2,.eptr 1 0 0),(18,N.floods.v),(19,.int .i64 N.floods.l.length),(20,.int .i64 k)],[some ⟨40,[N.v],true⟩,some ⟨40,[(default:Nt).v],true⟩]⟩) (fun k=>k≤N.floods.l.length) (fun k=>N.floods.l.length - k) ?_ ?_
  ·simp (disch:=try exact Dk) only[Kk,seval,reduceCtorEq]
   exact⟨0,rfl,Nat.zero_le _⟩
  intro k hk
  simp only at hk ⊢
  unfold c68b0
  by_cases hlt:k < N.floods.l.length
  ·have hfd:=(hg.floods k hlt).1
   repeat' (first
 |simp (disch:=try exact Dk) only[Kk,seval,reduceCtorEq]
 |(with_reducible first|apply condC_d|apply gC_d1)<;>intro _
 |with_reducible refine e8 ?_
 |with_reducible refine e_app_vec ?_
 |(refine Ak (s135 N _ hg hfd) ?_;rintro _ ⟨_ | _,rfl⟩;all_goals simp only[vl,ts,wb])
 |exact⟨k+1,rfl,by omega,by omega⟩
 |(refine Fk ?_;first|(refine⟨_,_,_,rfl,ok _ (by omega),fun h=>?_,fun _=>cok0⟩; omega)|exact e9|fail)
 |(refine fin_o [] ?_;simp (disch:=try exact Dk) only[Kk,wh,seval,reduceCtorEq];refine⟨_,rfl,?_,?_⟩;(first|rfl|simp (disch:=try exact Dk) only[Kk,wh,seval,reduceCtorEq]);first|(refine⟨_,_,_,rfl,ok _ (by omega),fun h=>?_,fun _=>cok0⟩; omega)|exact⟨_,rfl⟩|fail)
 |fail)
  ·repeat' (first
 |simp (disch:=try exact Dk) only[Kk,seval,reduceCtorEq]
 |(with_reducible first|apply condC_d|apply gC_d1)<;>intro _
 |with_reducible refine e8 ?_
 |with_reducible refine e_app_vec ?_
 |(refine Ak (s20 _ hg) ?_;rintro _ rfl; simp only[cpA];all_goals simp only[vl,ts,wb])
 |(refine Fk ?_;first|exact e9|fail)
 |(refine fin_o [] ?_;simp (disch:=try exact Dk) only[Kk,wh,seval,reduceCtorEq];refine⟨_,rfl,?_,?_⟩;(first|rfl|simp (disch:=try exact Dk) only[Kk,wh,seval,reduceCtorEq]);first|exact⟨_,rfl⟩|fail)
 |fail)
   refine d_lo (fun p:Nat × List Dm=>⟨[(1,.eptr 0 0 0),(2,.eptr 1 0 0),(35,N.doms.v),(36,.int .i64 N.doms.l.length),(37,.int .i64 p.1)],mhH N p.2⟩) (fun p=>p.1≤N.doms.l.length∧p.2.length=N.doms.l.length) (fun p=>N.doms.l.length - p.1) ?_ ?_
   ·simp (disch:=try exact Dk) only[Kk,seval,reduceCtorEq]
    rw [nil1_fld (es:=(N.doms.l.map cpDm).map Dm.v) (l:=[]) rfl rfl rfl Dm.sm Dm.wm rfl]
    simp (disch:=try exact Dk) only[Kk,seval,reduceCtorEq]
    exact⟨(0,N.doms.l.map cpDm),rfl,Nat.zero_le _,List.length_map ..⟩
   clear hlt hk
   rintro ⟨k,M⟩ ⟨hk,hM⟩
   simp only at hk hM ⊢
   unfold c68b1 mhH
   by_cases hlt:k < N.doms.l.length
   ·repeat' (first
 |simp (disch:=try exact Dk) only[Kk,Dm.s50,hM,seval,reduceCtorEq]
 |(with_reducible first|apply condC_d|apply gC_d1)<;>intro _
 |with_reducible refine e8 ?_
 |with_reducible refine e_app_vec ?_
 |(refine Ak (s136 _ _ _) ?_;rintro _ ⟨a,rfl,ha⟩; have ha':=ha.lt;all_goals simp only[vl,ts,wb])
 |(refine Fk ?_;first|exact e9|fail)
 |(refine fin_o [] ?_;simp (disch:=try exact Dk) only[Kk,Dm.s50,hM,wh,seval,reduceCtorEq];refine⟨_,rfl,?_,?_⟩;(first|rfl|simp (disch:=try exact Dk) only[Kk,Dm.s50,hM,wh,seval,reduceCtorEq]);first|exact⟨_,rfl⟩|fail)
 |fail)
    ·refine d_lo (fun p:Nat × List Int=>⟨[(1,.eptr 0 0 0),(2,.eptr 1 0 0),(7,.int .i64 k),(8,.eptr 10 0 0),(9,.vec 11 1 0 p.2.length),(35,N.doms.v),(36,.int .i64 N.doms.l.length),(37,.int .i64 k),(60,(nth N.floods.l a.toNat).addrs.v),(61,.int .i64 (nth N.floods.l a.toNat).addrs.l.length),(62,.int .i64 p.1)],mhH N M ++ [some ⟨140,[(nth N.doms.l k).v],true⟩,some ⟨3,p.2.map (AV.int .i64),true⟩]⟩) (fun p=>p.1 ≤(nth N.floods.l a.toNat).addrs.l.length∧p.2.length≤p.1) (fun p=>(nth N.floods.l a.toNat).addrs.l.length - p.1) ?_ ?_
     ·simp (disch:=try exact Dk) only[Kk,seval,reduceCtorEq]
      exact⟨(0,[]),rfl,Nat.zero_le _,Nat.le_refl _⟩
     rintro ⟨m,L⟩ ⟨hm,hL⟩
     simp only at hm hL ⊢
     unfold c68b2 mhH
     have h16:=(hg.floods a.toNat (by omega)).2
     by_cases hlt2:m <(nth N.floods.l a.toNat).addrs.l.length
     ·repeat' (first
 |simp (disch:=try exact Dk) only[Kk,seval,reduceCtorEq]
 |(with_reducible first|apply condC_d|apply gC_d1)<;>intro _
 |with_reducible refine e8 ?_
 |with_reducible refine e_app_vec ?_
 |(refine Ak (s138 _ _) ?_;rintro _ ⟨d,rfl,hd⟩;all_goals simp only[vl,ts,wb])
 |(refine Ak (s137 _ _ _) ?_;rintro _ ⟨e,rfl,he⟩;all_goals simp only[vl,ts,wb])
 |(refine Fk ?_;first|exact e9|fail)
 |(refine fin_o [] ?_;simp (disch:=try exact Dk) only[Kk,wh,seval,reduceCtorEq];refine⟨_,rfl,?_,?_⟩;(first|rfl|simp (disch:=try exact Dk) only[Kk,wh,seval,reduceCtorEq]);first|exact⟨_,rfl⟩|fail)
 |fail)
      exact⟨(m+1,L ++ [e]),by simp,⟨by simp only; omega,by simp; omega⟩,by simp only; omega⟩
     ·repeat' (first
 |simp (disch:=try exact Dk) only[Kk,Dm.s5,hM,seval,reduceCtorEq]
 |(with_reducible first|apply condC_d|apply gC_d1)<;>intro _
 |with_reducible refine e8 ?_
 |with_reducible refine e_app_vec ?_
 |(refine Fk ?_;first|exact e9|fail)
 |(refine fin_o [] ?_;simp (disch:=try exact Dk) only[Kk,Dm.s5,hM,wh,seval,reduceCtorEq];refine⟨_,rfl,?_,?_⟩;(first|rfl|simp (disch:=try exact Dk) only[Kk,Dm.s5,hM,wh,seval,reduceCtorEq]);first|exact⟨_,rfl⟩|fail)
 |fail)
      have hn:L.length≤140737488355328:=by omega
      obtain ⟨D2,hD⟩:∃ D2:Dm,D2 =⟨(nth M k).dev,(nth M k).vlan,(nth M k).vni,(nth M k).irb,(nth M k).row,SL.of L hn⟩:=⟨_,rfl⟩
      refine Eq.mpr (nil1_fld (l:=[11]) (es:=(M.set k D2).map Dm.v) rfl rfl rfl ?_ ?_ rfl) ?_
      ·rw [← Dm.st]
       refine mapO_set Dm.sm ?_
       rw [hD]
       simp (disch:=try exact Dk) only[Kk,wp,map_take_len,in_off,seval,reduceCtorEq]
      ·refine(flat_set Dm.wm (by simp; omega)).trans ?_
       simp (disch:=try exact Dk) only[Kk,wp,map_take_len,seval,reduceCtorEq]
      simp (disch:=try exact Dk) only[Kk,seval,reduceCtorEq]
      exact⟨(k+1,M.set k D2),rfl,⟨by simp only; omega,by simp only[List.length_set]; exact hM⟩,by simp only; omega⟩
    all_goals (
     rw [nil1_fld (l:=[]) rfl rfl rfl Dm.sm Dm.wm rfl]
     simp (disch:=try exact Dk) only[Kk,seval,reduceCtorEq]
     exact⟨(k+1,_),rfl,⟨by simp only; omega,by simp only[List.length_set]; exact hM⟩,by simp only; omega⟩)
   ·repeat' (first
 |simp (disch:=try exact Dk) only[Kk,map_take_len,take_map_all,mo,hM,seval,reduceCtorEq]
 |(with_reducible first|apply condC_d|apply gC_d1)<;>intro _
 |with_reducible refine e8 ?_
 |with_reducible refine e_app_vec ?_
 |(refine call_pl (by simp (disch:=try exact Dk) only[Kk,map_take_len,take_map_all,mo,hM,wp,seval,reduceCtorEq]; rfl) (by simp (disch:=try exact Dk) only[Kk,map_take_len,take_map_all,mo,hM,wp,seval,reduceCtorEq]) (s72 _) (by rintro _ rfl <;> rfl) ?_; rintro _ rfl; all_goals simp only[vl,wp,ts,wb])
 |(refine Fk ?_;first|(refine⟨_,_,_,rfl,ok _ (by omega),fun h=>?_,fun _=>cok0⟩; omega)|exact⟨_,_,_,rfl,ok _ (by omega),fun _=>Decidable.of_not_not (by assumption),fun h=>cost_cp h⟩|exact e9|fail)
 |(refine fin_o [] ?_;simp (disch:=try exact Dk) only[Kk,map_take_len,take_map_all,mo,hM,wh,seval,reduceCtorEq];refine⟨_,rfl,?_,?_⟩;(first|rfl|simp (disch:=try exact Dk) only[Kk,map_take_len,take_map_all,mo,hM,wh,seval,reduceCtorEq]);first|(refine⟨_,_,_,rfl,ok _ (by omega),fun h=>?_,fun _=>cok0⟩; omega)|exact⟨_,_,_,rfl,ok _ (by omega),fun _=>Decidable.of_not_not (by assumption),fun h=>cost_cp h⟩|exact⟨_,rfl⟩|fail)
 |fail)
 ·repeat' (first
 |simp (disch:=try exact Dk) only[Kk,hg,seval,reduceCtorEq]
 |(with_reducible first|apply condC_d|apply gC_d1)<;>intro _
 |with_reducible refine e8 ?_
 |with_reducible refine e_app_vec ?_
 |(refine Ak (s72 _) ?_;rintro _ rfl;all_goals simp only[vl,ts,wb])
 |(refine Fk ?_;first|(refine⟨_,_,_,rfl,ok _ (by omega),fun h=>?_,fun _=>cok0⟩; omega)|exact e9|fail)
 |(refine fin_o [] ?_;simp (disch:=try exact Dk) only[Kk,hg,wh,seval,reduceCtorEq];refine⟨_,rfl,?_,?_⟩;(first|rfl|simp (disch:=try exact Dk) only[Kk,hg,wh,seval,reduceCtorEq]);first|(refine⟨_,_,_,rfl,ok _ (by omega),fun h=>?_,fun _=>cok0⟩; omega)|exact⟨_,rfl⟩|fail)
 |fail)
end Go.Proofs
namespace Go.Proofs
open Go Go.Pv Go.Proofs.Tx
variable [Lq]
open W
def Km:=And.intro @wk <| And.intro @wq <| And.intro @wz <| And.intro @zd <| And.intro @mk <| And.intro @bz <| And.intro @tt <| And.intro @wg <| And.intro @mp <| @t3
theorem Dw{p:Prop}(h:p:=by first | assumption | omega | (simp only[wd,zl,wq,wz,zd,mk,bz,tt,wg,mp,t3]; done) | (simp only[List.length_append,List.length_set,List.length_cons,List.length_nil,List.length_map,List.length_take,List.length_drop,List.length_replicate]; omega) | fail):p:=h
theorem Am{P:Program}{f:FuncId}{args:List AV}{hp:Hp}{E:AV→Hp→Prop}{Q:AV→Prop}{dr fm:Bool}{no:List TypeId}(h:∃ r,Run P f args r∧Q r)(hk:∀ r,Q r→vLay r hp E)(hn:args.all AV.nr1=true:=by first | (simp only[wd,wq,wz,zd,mk,bz,tt,wg,mp,t3]; done) | fail):wCall P f args hp dr fm no E:=call_nr h hn hk
theorem Fw{hp:Hp}{x:AV}{Q:AV→Prop}(h:Q x)(hn:nrR x=true:=by first | (simp only[wd,wq,wz,zd,mk,bz,tt,wg,mp,t3]; done) | fail):fin (some x) Q hp:=fin_nr hn h
end Go.Proofs
set_option maxHeartbeats 4000000
set_option maxRecDepth 100000
namespace Go.Proofs
open Go Go.Pv Go.Proofs.Tx
variable [Lq]
open W
open Classical
structure SnOk(x:Sn):Prop where
 g:Good x.n
 up:x.up.l.length=x.n.links.l.length
 rank:x.rank.l.length=x.n.devs.l.length
 rank0:∀ y,y∈x.rank.l→0≤y
 root:x.root.l.length=x.n.devs.l.length
 cost:x.cost.l.length=x.n.devs.l.length
theorem good_far{N:Nt}(hg:Good N){i:Int}(hi:Pl N.ports.l i)(h:¬(nth N.ports.l i.toNat).link < 0) :
  Pl N.links.l (nth N.ports.l i.toNat).link∧Pl N.ports.l (nth N.links.l (nth N.ports.l i.toNat).link.toNat).a∧Pl N.ports.l (nth N.links.l (nth N.ports.l i.toNat).link.toNat).b∧Pl N.ports.l ((nth N.links.l (nth N.ports.l i.toNat).link.toNat).a +(nth N.links.l (nth N.ports.l i.toNat).link.toNat).b - i):=by
 have h1:=hg.ports i.toNat (by have:=hi.2; have:=hi.1; omega)
 have e:((i.toNat:Nat):Int)=i:=by have:=hi.1; omega
 rw [e] at h1
 obtain ⟨_,_,_,_,_,_,_,_,h2⟩:=h1
 rcases h2 with h2 | ⟨h2,h3⟩
 ·omega
 ·refine⟨h2,?_⟩
  have h4:=hg.links (nth N.ports.l i.toNat).link.toNat (by have:=h2.2; have:=h2.1; omega)
  obtain ⟨⟨a1,a2⟩,⟨b1,b2⟩,_⟩:=h4
  rcases h3 with h3 | h3
  ·exact⟨⟨a1,a2⟩,⟨b1,b2⟩,by omega,by omega⟩
  ·exact⟨⟨a1,a2⟩,⟨b1,b2⟩,by omega,by omega⟩
theorem s76(x:Sn)(hx:SnOk x)(i:Int)(hi:Pl x.n.ports.l i):∃ r,Run Tryz.prog 76 [.rptr x.v 0,.int .i64 i] r∧∃ j,r=.int .i64 j ∧(0≤j→Pl x.n.ports.l j):=by
 have hi0:=hi.1
 have hi1:=hi.2
 have hup:=hx.up
 have h40:=hx.g.few.2.1
 refine run_w (c:=c76 true) [.t 4] 2 (by kernel_rfl) (by kernel_rfl) (Nat.le_refl 2) (by simp only[wd]) ?_
 unfold c76
 by_cases h:(nth x.n.ports.l i.toNat).link < 0
 ·repeat' (first
 |simp (disch:=try exact Dw) only[Km,seval,reduceCtorEq]
 |with_reducible refine e8 ?_
 |(refine Fw ?_;first|exact⟨_,rfl,fun h=>absurd h (by decide)⟩|exact e9|fail)
 |fail)
 ·obtain ⟨⟨l0,l1⟩,⟨a0,a1⟩,⟨b0,b1⟩,⟨l2,l3⟩⟩:=good_far hx.g hi h
  simp (disch:=try exact Dw) only[Km,seval,reduceCtorEq]
  cases nth x.up.l (nth x.n.ports.l i.toNat).link.toNat
  ·repeat' (first
 |simp (disch:=try exact Dw) only[Km,seval,reduceCtorEq]
 |with_reducible refine e8 ?_
 |(refine Fw ?_;first|exact⟨_,rfl,fun h=>absurd h (by decide)⟩|exact e9|fail)
 |fail)
  ·repeat' (first
 |simp (disch:=try exact Dw) only[Km,seval,reduceCtorEq]
 |with_reducible refine e8 ?_
 |(refine Fw ?_;first|exact⟨_,rfl,fun _=>⟨l2,l3⟩⟩|exact e9|fail)
 |fail)
theorem s77(x:Sn)(hx:SnOk x)(i j:Int)(hi:Pl x.n.ports.l i)(hj:Pl x.n.ports.l j):∃ r,Run Tryz.prog 77 [.rptr x.v 0,.int .i64 i,.int .i64 j] r∧∃ b,r=.bool b:=by
 have hi0:=hi.1
 have hi1:=hi.2
 have hj0:=hj.1
 have hj1:=hj.2
 have d1:=(hx.g.ports i.toNat (by omega)).1
 have d2:=(hx.g.ports j.toNat (by omega)).1
 have r1:=hx.rank
 have r2:=hx.root
 have r3:=hx.cost
 refine run_w (c:=c77 true) [.t 6] 3 (by kernel_rfl) (by kernel_rfl) (Nat.le_refl 3) (by simp only[wd]) ?_
 unfold c77
 repeat' (first
 |simp (disch:=try exact Dw) only[Km,seval,reduceCtorEq]
 |(with_reducible first|apply gC_d0|apply gC_d1)<;>intro _
 |with_reducible refine e8 ?_
 |(refine Fw ?_;first|exact e9|fail)
 |fail)
structure VeOk(x:Sn)(w:Ve):Prop where
 own:Pl x.n.ports.l w.own
theorem s78(x:Sn)(hx:SnOk x)(hc:CostOk x.n)(d:Int)(hd:Pl x.n.devs.l d):∃ r,Run Tryz.prog 78 [.rptr x.v 0,.int .i64 d] r∧∃ j,r=.int .i64 j ∧(0≤j→Pl x.n.ports.l j):=by
 have hd0:=hd.1
 have hd1:=hd.2
 have r1:=hx.rank
 have r2:=hx.root
 have r3:=hx.cost
 have h8:=hx.g.few.1
 have h40:=hx.g.few.2.1
 refine run_w (c:=c78 true) [.t 4] 2 (by kernel_rfl) (by kernel_rfl) (Nat.le_refl 2) (by simp only[wd]) ?_
 unfold c78
 simp (disch:=try exact Dw) only[Km,seval,reduceCtorEq]
 refine d_lo (fun p:Nat × List Ve=>⟨[(0,.rptr x.v 0),(1,.int .i64 d),(5,.vec 0 5 0 p.2.length),(16,x.n.ports.v),(17,.int .i64 x.n.ports.l.length),(18,.int .i64 p.1)],[some ⟨288,p.2.map Ve.v,true⟩]⟩) (fun p=>p.1≤x.n.ports.l.length∧p.2.length≤p.1∧∀ w,w∈p.2→VeOk x w) (fun p=>x.n.ports.l.length - p.1) ?_ ?_
 ·simp (disch:=try exact Dw) only[Km,seval,reduceCtorEq]
  exact⟨(0,[]),rfl,Nat.zero_le _,Nat.le_refl _,fun _ h=>absurd h List.not_mem_nil⟩
 rintro ⟨k,G⟩ ⟨hk,hGl,hG⟩
 simp only at hk hGl hG ⊢
 unfold c78b0
 by_cases hlt:k < x.n.ports.l.length
 ·have hpk:Pl x.n.ports.l k:=⟨by omega,by omega⟩
  have hdv:∀ f,Pl x.n.ports.l f→Pl x.n.devs.l (nth x.n.ports.l f.toNat).dev:=fun f hf=>(hx.g.ports f.toNat (by have:=hf.1; have:=hf.2; omega)).1
  repeat' (first
 |simp (disch:=try exact Dw) only[Km,seval,reduceCtorEq]
 |(with_reducible first|apply condC_d|apply gC_d1)<;>intro _
 |with_reducible refine e8 ?_
 |with_reducible refine e_app_vec ?_
 |(refine call_pl (by simp (disch:=try exact Dw) only[Km,wp,seval,reduceCtorEq]; rfl) (by simp (disch:=try exact Dw) only[Km,wp,seval,reduceCtorEq]) (s76 x hx _ hpk) (by rintro _ ⟨f,rfl,hf⟩ <;> rfl) ?_; rintro _ ⟨f,rfl,hf⟩; all_goals simp only[vl,wp,ts,wb])
 |(refine Fw ?_;first|exact e9|fail)
 |fail)
  ·have hf2:=hf (by omega)
   have hv:=hdv f hf2
   have q0:=hv.1
   have q1:=hv.2
   refine⟨(k+1,G ++ [_]),by simp only[List.map_append,List.length_append,List.length_cons,List.length_nil,List.map_cons,List.map_nil,Int.natCast_add,Int.cast_ofNat_Int,Nat.zero_add]; rfl,⟨by simp only; omega,by simp only[List.length_append,List.length_cons,List.length_nil]; omega,fun w hw=>?_⟩,by simp only; omega⟩
   rcases List.mem_append.1 hw with h | h
   ·exact hG w h
   ·rw [List.mem_singleton.1 h]; exact⟨hpk⟩
  ·exact⟨(k+1,G),rfl,⟨by simp only; omega,by simp only; omega,hG⟩,by simp only; omega⟩
  ·exact⟨(k+1,G),rfl,⟨by simp only; omega,by simp only; omega,hG⟩,by simp only; omega⟩
 ·have hb:G.length≤140737488355328:=Nat.le_trans (by omega:G.length≤40) (Nat.le_of_ble_eq_true rfl)
  have e0:=SL.ofe (k:=5) (enc:=Ve.v) (n:=hb)
  have fin':∀(w:Ve) (b:Bool),(b=true→w ∈(SL.of G hb:SL Ve Ve.v 5).l)→¬(b=false) →(0≤w.own→Pl x.n.ports.l w.own):=fun w b h h2 _=>(hG w (h (by cases b <;> simp_all))).own
  repeat' (first
 |simp (disch:=try exact Dw) only[Km,e0,seval,reduceCtorEq]
 |(with_reducible first|apply condC_d|apply gC_d1)<;>intro _
 |with_reducible refine e8 ?_
 |with_reducible refine e_app_vec ?_
 |(refine call_rn (by simp (disch:=try exact Dw) only[Km,e0,wp,seval,reduceCtorEq]; rfl) (by simp (disch:=try exact Dw) only[Km,e0,wp,seval,reduceCtorEq]) (s171 (SL.of G hb)) ?_; rintro _ ⟨w,b,rfl,hw⟩; have hw1:=fin' w b hw; clear hw; cases b; all_goals simp only[not_true_eq_false,not_false_eq_true,reduceCtorEq,true_implies,false_implies,Bool.false_eq_true] at hw1; all_goals simp only[vl,wp,ts,wb])
 |(refine Fw ?_;first|exact⟨_,rfl,fun h=>absurd h (by decide)⟩|exact⟨_,rfl,hw1⟩|exact e9|fail)
 |fail)
end Go.Proofs
set_option maxHeartbeats 4000000
set_option maxRecDepth 100000
namespace Go.Proofs
open Go Go.Pv Go.Proofs.Tx
variable [Lq]
open W
open Classical
theorem s39(x:Sn)(hx:SnOk x)(hc:CostOk x.n):∃ r,Run Tryz.prog 39 [.rptr x.v 0] r∧∃ u:IL,r=u.v∧u.l.length=x.n.ports.l.length:=by
 have h8:=hx.g.few.1
 have h40:=hx.g.few.2.1
 obtain ⟨n,hn⟩:∃ n:Nat,n=x.n.ports.l.length:=⟨_,rfl⟩
 refine run_w (c:=c39 true) [.t 2] 1 (by kernel_rfl) (by kernel_rfl) (Nat.le_refl 1) (by simp only[wd]) ?_
 unfold c39
 simp (disch:=try exact Dw) only[Km,← hn,seval,reduceCtorEq]
 refine⟨by omega,?_⟩
 obtain ⟨Z,hZ,hZl⟩:∃ Z:List Int,List.replicate n (AV.int .i64 0)=Z.map (AV.int .i64)∧Z.length=n:=⟨List.replicate n 0,by simp,by simp⟩
 rw [hZ]
 refine d_lo (fun p:Nat × List Int=>⟨[(0,.rptr x.v 0),(3,.vec 0 1 0 n),(20,.int .i64 n),(21,.int .i64 p.1)],[some ⟨3,p.2.map (AV.int .i64),true⟩]⟩) (fun p=>p.1≤n∧p.2.length=n) (fun p=>n - p.1) ?_ ?_
 ·simp (disch:=try exact Dw) only[Km,seval,reduceCtorEq]
  exact⟨(0,Z),rfl,Nat.zero_le _,hZl⟩
 clear hZ hZl
 rintro ⟨k,G⟩ ⟨hk,hGl⟩
 simp only at hk hGl ⊢
 unfold c39b0
 by_cases hlt:k < n
 ·have hpk:Pl x.n.ports.l k:=⟨by omega,by omega⟩
  repeat' (first
 |simp (disch:=try exact Dw) only[Km,hGl,seval,reduceCtorEq]
 |(with_reducible apply condC_d)<;>intro _
 |with_reducible refine e8 ?_
 |(refine call_pl (by simp (disch:=try exact Dw) only[Km,hGl,wp,seval,reduceCtorEq]; rfl) (by simp (disch:=try exact Dw) only[Km,hGl,wp,seval,reduceCtorEq]) (s76 x hx _ hpk) (by rintro _ ⟨f,rfl,hf⟩ <;> rfl) ?_; rintro _ ⟨f,rfl,hf⟩; all_goals simp only[vl,wp,ts,wb])
 |(refine call_pl (by simp (disch:=try exact Dw) only[Km,hGl,wp,seval,reduceCtorEq]; rfl) (by simp (disch:=try exact Dw) only[Km,hGl,wp,seval,reduceCtorEq]) (s77 x hx _ _ hpk (hf (by omega))) (by rintro _ ⟨_ | _,rfl⟩ <;> rfl) ?_; rintro _ ⟨_ | _,rfl⟩; all_goals simp only[vl,wp,ts,wb])
 |(refine fin_o [] ?_;simp (disch:=try exact Dw) only[Km,hGl,wh,seval,reduceCtorEq];refine⟨_,rfl,?_,?_⟩;(first|rfl|simp (disch:=try exact Dw) only[Km,hGl,wh,seval,reduceCtorEq]);first|exact⟨_,rfl⟩|fail)
 |fail)
  all_goals exact⟨(k+1,_),rfl,⟨by simp only; omega,by simp only[List.length_set]; omega⟩,by simp only; omega⟩
 ·have hkn:k=n:=by omega
  subst hkn
  repeat' (first
 |simp (disch:=try exact Dw) only[Km,hGl,seval,reduceCtorEq]
 |(with_reducible apply condC_d)<;>intro _
 |with_reducible refine e8 ?_
 |(refine fin_o [] ?_;simp (disch:=try exact Dw) only[Km,hGl,wh,seval,reduceCtorEq];refine⟨_,rfl,?_,?_⟩;(first|rfl|simp (disch:=try exact Dw) only[Km,hGl,wh,seval,reduceCtorEq]);first|exact⟨_,rfl⟩|fail)
 |fail)
  clear hlt
  refine d_lo (fun p:Nat × List Int=>⟨[(0,.rptr x.v 0),(3,.vec 0 1 0 k),(47,.int .i64 x.n.devs.l.length),(48,.int .i64 p.1)],[some ⟨3,p.2.map (AV.int .i64),true⟩]⟩) (fun p=>p.1≤x.n.devs.l.length∧p.2.length=k) (fun p=>x.n.devs.l.length - p.1) ?_ ?_
  ·simp (disch:=try exact Dw) only[Km,seval,reduceCtorEq]
   exact⟨(0,G),rfl,Nat.zero_le _,hGl⟩
  clear hGl G
  rintro ⟨j,G⟩ ⟨hj,hGl⟩
  simp only at hj hGl ⊢
  unfold c39b1
  by_cases hlt:j < x.n.devs.l.length
  ·have hpj:Pl x.n.devs.l j:=⟨by omega,by omega⟩
   repeat' (first
 |simp (disch:=try exact Dw) only[Km,hGl,seval,reduceCtorEq]
 |(with_reducible apply condC_d)<;>intro _
 |with_reducible refine e8 ?_
 |(refine call_pl (by simp (disch:=try exact Dw) only[Km,hGl,wp,seval,reduceCtorEq]; rfl) (by simp (disch:=try exact Dw) only[Km,hGl,wp,seval,reduceCtorEq]) (s78 x hx hc _ hpj) (by rintro _ ⟨f,rfl,hf⟩ <;> rfl) ?_; rintro _ ⟨f,rfl,hf⟩; all_goals simp only[vl,wp,ts,wb])
 |(refine fin_o [] ?_;simp (disch:=try exact Dw) only[Km,hGl,wh,seval,reduceCtorEq];refine⟨_,rfl,?_,?_⟩;(first|rfl|simp (disch:=try exact Dw) only[Km,hGl,wh,seval,reduceCtorEq]);first|exact⟨_,rfl⟩|fail)
 |fail)
   all_goals exact⟨(j+1,_),rfl,⟨by simp only; omega,by simp only[List.length_set]; omega⟩,by simp only; omega⟩
  ·have hb:G.length≤140737488355328:=Nat.le_trans (by omega:G.length≤40) (Nat.le_of_ble_eq_true rfl)
   have hG2:=hGl.trans hn
   clear hn
   subst hGl
   repeat' (first
 |simp (disch:=try exact Dw) only[Km,seval,reduceCtorEq]
 |(with_reducible apply condC_d)<;>intro _
 |with_reducible refine e8 ?_
 |(refine fin_o [] ?_;simp (disch:=try exact Dw) only[Km,wh,seval,reduceCtorEq];refine⟨_,rfl,?_,?_⟩;(first|rfl|simp (disch:=try exact Dw) only[Km,wh,seval,reduceCtorEq]);first|exact⟨SL.of G hb,SL.ofe,rfl⟩|exact⟨_,rfl⟩|fail)
 |fail)
end Go.Proofs
set_option maxHeartbeats 4000000
set_option maxRecDepth 100000
namespace Go.Proofs
open Go Go.Pv Go.Proofs.Tx
variable [Lq]
open W
open Classical
theorem asIx{z y:AV}{C:AV→Prop}:vP (.asI 283 z (.c (.fn 2000283 [y]))) C=C (.tup [y,.bool true]):=by rw [v_asI (by decide),if_pos (by decide)]
section
variable {hp:Hp} {q id n:Nat} {L:List Re}
theorem s380(h:ent hp id=some ⟨283,L.map Re.v,true⟩)(hn:n≤L.length)(i j:Int)(hi:0≤i∧i < n)(hj:0≤j∧j < n):∃ r H',Gen Tryz.prog 380 [.vec id 3 0 n,.int .i64 i,.int .i64 j] hp r H' ∧(∃ b ext,r=.bool b∧H'=hp ++ ext):=by
 have hl:=entlt h
 have h':=fun l=>ent_ap h l
 obtain ⟨i0,i1⟩:=hi
 obtain ⟨j0,j1⟩:=hj
 refine gen_w (c:=c380 false) [.t 6] 3 (by kernel_rfl) (by kernel_rfl) (Nat.le_refl 3) ?_
 unfold c380
 repeat' (first
 |simp (disch:=try exact Dw) only[Km,h,h',asIx,seval,reduceCtorEq]
 |(with_reducible first|apply gC_d0|apply gC_d1)<;>intro _
 |with_reducible refine e8 ?_
 |fail)
 all_goals exact⟨_,_,rfl,rfl⟩
theorem s383(h:ent hp id=some ⟨283,L.map Re.v,true⟩)(hn:n≤L.length)(i j:Int)(hi:0≤i∧i < n)(hj:0≤j∧j < n):∃ r H',Gen Tryz.prog 383 [.vec id 3 0 n,.int .i64 i,.int .i64 j] hp r H' ∧(r=.tup []∧∃ L2:List Re,∃ ext,H'=hp.set id (some ⟨283,L2.map Re.v,true⟩) ++ ext∧L2.length=L.length∧∀ x,x∈L2→x∈L):=by
 have hl:=entlt h
 have h':=fun l=>ent_ap h l
 obtain ⟨i0,i1⟩:=hi
 obtain ⟨j0,j1⟩:=hj
 refine gen_w (c:=c383 false) [] 3 (by kernel_rfl) (by kernel_rfl) (Nat.le_refl 3) ?_
 unfold c383
 repeat' (first
 |simp (disch:=try exact Dw) only[Km,h,h',asIx,seval,reduceCtorEq]
 |with_reducible refine e8 ?_
 |fail)
 refine⟨_,_,rfl,by rw [List.length_set,List.length_set],fun y hy=>?_⟩
 rcases List.mem_or_eq_of_mem_set hy with h1 | h1
 ·rcases List.mem_or_eq_of_mem_set h1 with h2 | h2
  ·exact h2
  ·rw [h2]; exact nth_mem (by omega)
 ·rw [h1]; exact nth_mem (by omega)
theorem s169(hn:n≤1000000000):∃ r H',Gen Tryz.prog 169 [.vec id 3 0 n] hp r H' ∧(r=.int .i64 n∧H'=hp):=by
 refine gen_w (c:=c169 false) [.t 2] 1 (by kernel_rfl) (by kernel_rfl) (Nat.le_refl 1) ?_
 unfold c169
 repeat' (first
 |simp (disch:=try exact Dw) only[Km,seval,reduceCtorEq]
 |with_reducible refine e8 ?_
 |fail)
theorem s382(hq:ent hp q=some ⟨280,[.vec id 3 0 n],true⟩)(h:ent hp id=some ⟨283,L.map Re.v,true⟩)(hn:n≤L.length)(hL:L.length≤1000)(hne:q≠id)(x:Re):∃ r H',Gen Tryz.prog 382 [.eptr q 0 0,.fn 2000283 [x.v]] hp r H' ∧(r=.tup [] ∧
  ((n < L.length∧∃ L2:List Re,∃ ext,H' =(hp.set id (some ⟨283,L2.map Re.v,true⟩)).set q (some ⟨280,[.vec id 3 0 (n+1)],true⟩) ++ ext∧L2.length=L.length∧∀ y,y∈L2→y∈L∨y=x) ∨
   (n=L.length∧∃ L2:List Re,∃ e1 e2,H' =(hp.set id (some ⟨283,[],false⟩)).set q (some ⟨280,[.vec (hp.length+e1.length) 3 0 (n+1)],true⟩) ++(e1 ++ some ⟨283,L2.map Re.v,true⟩ :: e2)∧L2.length=n+1∧∀ y,y∈L2→y∈L∨y=x))):=by
 have hlq:=entlt hq
 have hq':=fun l=>ent_ap hq l
 have hl:=entlt h
 have h':=fun l=>ent_ap h l
 have e16:hp.length+1+5=hp.length+6:=rfl
 have e17:hp.length+1+6=hp.length+7:=rfl
 have e18:hp.length+1+8=hp.length+9:=rfl
 refine gen_w (c:=c382 false) [] 2 (by kernel_rfl) (by kernel_rfl) (Nat.le_refl 2) ?_
 unfold c382
 have hqs:∀(o:Option Ent) (l:Hp),ent (hp.set id o ++ l) q=some ⟨280,[.vec id 3 0 n],true⟩:=fun o l=>by rw [ent_apl (by rw [len_set]; exact hlq),ent_setn hne.symm,hq]
 have hlq2:∀ o,q <(hp.set id o).length:=fun o=>by rw [len_set]; exact hlq
 by_cases hlt:n < L.length
 ·simp (disch:=try exact Dw) only[Km,hq,h,hq',h',asIx,e16,e17,e18,seval,reduceCtorEq]
  refine⟨by omega,?_⟩
  refine e_app_in (ys:=[x.v]) rfl (by show(ent _ _).bind _=_; rw [ent_apn]; rfl) (h' _) (by simp only[List.length_map,List.length_cons,List.length_nil]; omega) (by rw [List.length_map]; exact hlt) ?_
  simp (disch:=try exact Dw) only[Km,hq,h,hq',h',asIx,e16,e17,e18,hqs,hlq2,seval,reduceCtorEq]
  exact Or.inl ⟨hlt,L.take n ++ x :: L.drop (n+1),_,by simp [List.map_append,List.map_take,List.map_drop,List.map_cons]; rfl,by simp only[List.length_append,List.length_cons,List.length_take,List.length_drop]; omega,fun y hy=>by
   rcases List.mem_append.1 hy with h1 | h1
   ·exact Or.inl (List.mem_of_mem_take h1)
   ·rcases List.mem_cons.1 h1 with h2 | h2
    ·exact Or.inr h2
    ·exact Or.inl (List.mem_of_mem_drop h2)⟩
 ·obtain rfl:n=L.length:=by omega
  repeat' (first
 |simp (disch:=try exact Dw) only[Km,hq,h,hq',h',asIx,e16,e17,e18,hqs,hlq2,seval,reduceCtorEq]
 |with_reducible refine e8 ?_
 |with_reducible refine e_app_vec ?_
 |fail)
  exact Or.inr ⟨L ++ [x],[some ⟨283,[x.v],true⟩,none,none,none,none,none,some ⟨283,[x.v],true⟩],[none,none],rfl,by rw [List.length_append]; rfl,fun y hy=>(List.mem_append.1 hy).imp (fun h=>h) fun h=>List.mem_singleton.1 h⟩
theorem s381(hq:ent hp q=some ⟨280,[.vec id 3 0 n],true⟩)(h:ent hp id=some ⟨283,L.map Re.v,true⟩)(hn:n≤L.length)(hL:L.length≤1000)(hne:q≠id)(h0:0 < n):∃ r H',Gen Tryz.prog 381 [.eptr q 0 0] hp r H' ∧(∃ x:Re,∃ ext,r=.fn 2000283 [x.v]∧x∈L∧H'=hp.set q (some ⟨280,[.vec id 3 0 (n - 1)],true⟩) ++ ext):=by
 have hlq:=entlt hq
 have hq':=fun l=>ent_ap hq l
 have hl:=entlt h
 have h':=fun l=>ent_ap h l
 refine gen_w (c:=c381 false) [.t 2] 1 (by kernel_rfl) (by kernel_rfl) (Nat.le_refl 1) ?_
 unfold c381
 repeat' (first
 |simp (disch:=try exact Dw) only[Km,hq,h,hq',h',asIx,seval,reduceCtorEq]
 |with_reducible refine e8 ?_
 |fail)
 exact⟨_,_,rfl,nth_mem (by omega),by rw [show((n:Int) - 1).toNat - 0=n - 1 by omega]⟩
end
end Go.Proofs
set_option maxHeartbeats 4000000
set_option maxRecDepth 100000
namespace Go.Proofs
open Go Go.Pv Go.Proofs.Tx
variable [Lq]
open W
open Classical
section
variable {hp:Hp} {q id n:Nat} {L:List Re}
theorem recv_v{m:String}{f:FuncId}(h:methI Tryz.prog m 278=some (f,false))(hq:ent hp q=some ⟨280,[.vec id 3 0 n],true⟩):recvI Tryz.prog m hp (.fn 2000278 [.eptr q 0 0])=some (f,.vec id 3 0 n):=by
 have e1:Tryz.prog.underlying 278=some (.pointer 280):=by kernel_rfl
 have e2:tyOk Tryz.prog 280=true:=by kernel_rfl
 have e3:Tryz.prog.cellsOf 280=1:=by kernel_rfl
 have e4:isAg Tryz.prog 280=false:=by kernel_rfl
 show(methI Tryz.prog m 278).bind (recvT Tryz.prog hp 278 (.eptr q 0 0))=_
 rw [h]
 show recvT Tryz.prog hp 278 (.eptr q 0 0) (f,false)=_
 unfold recvT
 rw [e1]
 show(if tyOk Tryz.prog 280=true then((evR [] hp (.load (Tryz.prog.cellsOf 280) (isAg Tryz.prog 280) (.c (.eptr q 0 0)))).map fun v=>(f,v)) else none)=_
 rw [if_pos e2,e3,e4]
 show(((ent hp q).bind fun e=>(e.es[0]?).bind fun x=>cells x 0 1 false).map fun v=>(f,v))=_
 rw [hq]
 rfl
theorem recv_p{m:String}{f:FuncId}(h:methI Tryz.prog m 278=some (f,true)):recvI Tryz.prog m hp (.fn 2000278 [.eptr q 0 0])=some (f,.eptr q 0 0):=by
 have e1:Tryz.prog.underlying 278=some (.pointer 280):=by kernel_rfl
 show(methI Tryz.prog m 278).bind (recvT Tryz.prog hp 278 (.eptr q 0 0))=_
 rw [h]
 show recvT Tryz.prog hp 278 (.eptr q 0 0) (f,true)=_
 unfold recvT
 rw [e1]
 rfl
theorem call_i{P:Program}{m:String}{x y:AV}{f:FuncId}{ys:List AV}{Q E:AV→Hp→Prop}(hr:recvI P m hp x=some (f,y))(h:∃ r H',Gen P f (y :: ys) hp r H'∧Q r H')(hl:∀ r H',Q r H'→hp.length≤H'.length)(hk:∀ r H',Q r H'→E r H'):wCalli P (recvI P m hp x) ys hp E:=by
 obtain ⟨r,H',h1,h2⟩:=h
 rw [hr]
 exact⟨r,H',h1,hl _ _ h2,hk _ _ h2⟩
theorem mLess:methI Tryz.prog "Less" 278=some (380,false):=by kernel_rfl
theorem mSwap:methI Tryz.prog "Swap" 278=some (383,false):=by kernel_rfl
theorem mLen:methI Tryz.prog "Len" 278=some (169,false):=by kernel_rfl
theorem mPush:methI Tryz.prog "Push" 278=some (382,true):=by kernel_rfl
theorem mPop:methI Tryz.prog "Pop" 278=some (381,true):=by kernel_rfl
theorem s254(hq:ent hp q=some ⟨280,[.vec id 3 0 n],true⟩)(h:ent hp id=some ⟨283,L.map Re.v,true⟩)(hn:n≤L.length)(hL:L.length≤1000)(hne:q≠id)(j:Nat)(hj:j < n):∃ r H',Gen Tryz.prog 254 [.fn 2000278 [.eptr q 0 0],.int .i64 j] hp r H' ∧(r=.tup []∧∃ L2:List Re,∃ ext,H'=hp.set id (some ⟨283,L2.map Re.v,true⟩) ++ ext∧L2.length=L.length∧∀ x,x∈L2→x∈L):=by
 have hlq:=entlt hq
 have hl:=entlt h
 refine gen_w (c:=c254 false) [] 2 (by kernel_rfl) (by kernel_rfl) (Nat.le_refl 2) ?_
 unfold c254
 refine d_lo (fun p:Nat × List Re × Hp=>⟨[(0,.fn 2000278 [.eptr q 0 0]),(1,.int .i64 p.1)],hp.set id (some ⟨283,p.2.1.map Re.v,true⟩) ++ p.2.2⟩) (fun p=>p.1 < n∧p.2.1.length=L.length∧∀ x,x∈p.2.1→x∈L) (fun p=>p.1) ?_ ?_
 ·simp (disch:=try exact Dw) only[Km,seval,reduceCtorEq]
  exact⟨(j,L,[]),by simp only[ent_same h,List.append_nil],hj,rfl,fun x h=>h⟩
 rintro ⟨i,G,ext⟩ ⟨hi,hGl,hG⟩
 simp only at hi hGl hG ⊢
 unfold c254b0
 have hqs:∀(o:Option Ent) (l:Hp),ent (hp.set id o ++ l) q=some ⟨280,[.vec id 3 0 n],true⟩:=fun o l=>by rw [ent_apl (by rw [len_set]; exact hlq),ent_setn hne.symm,hq]
 by_cases h0:i=0
 ·subst h0
  repeat' (first
 |simp (disch:=try exact Dw) only[Km,seval,reduceCtorEq]
 |with_reducible refine e8 ?_
 |fail)
  exact⟨G,_,rfl,hGl,hG⟩
 ·obtain ⟨m,hm⟩:∃ m:Nat,m =(i - 1) / 2:=⟨_,rfl⟩
  have ht:((i:Int) - 1).tdiv 2 =(m:Int):=by
   rw [show(i:Int) - 1 =((i - 1:Nat):Int) by omega,hm]; rfl
  simp (disch:=try exact Dw) only[Km,ht,o_oi,List.map_cons,List.map_nil,seval,reduceCtorEq]
  refine call_i (recv_v mLess (hqs _ _)) (s380 (ent_sap hl) (by omega) _ _ ⟨by omega,by omega⟩ ⟨by omega,by omega⟩) (by rintro _ _ ⟨b,e,rfl,rfl⟩; simp only[List.length_append,List.length_set]; omega) ?_
  rintro _ _ ⟨b,e,rfl,rfl⟩
  cases b
  ·simp (disch:=try exact Dw) only[Km,ht,o_oi,List.map_cons,List.map_nil,seval,reduceCtorEq]
   exact⟨G,_,rfl,hGl,hG⟩
  ·simp (disch:=try exact Dw) only[Km,ht,o_oi,List.map_cons,List.map_nil,seval,reduceCtorEq]
   refine call_i (recv_v mSwap (hqs _ _)) (s383 (ent_sap hl) (by omega) _ _ ⟨by omega,by omega⟩ ⟨by omega,by omega⟩) (by rintro _ _ ⟨rfl,L2,e,rfl,_⟩; simp only[List.length_append,List.length_set]; omega) ?_
   rintro _ _ ⟨rfl,L2,e,rfl,hl2,hL2⟩
   simp (disch:=try exact Dw) only[Km,ht,o_oi,List.map_cons,List.map_nil,seval,reduceCtorEq]
   exact⟨(m,L2,_),rfl,⟨by simp only; omega,hl2.trans hGl,fun x hx=>hG x (hL2 x hx)⟩,by simp only; omega⟩
theorem s255(hq:ent hp q=some ⟨280,[.vec id 3 0 n],true⟩)(h:ent hp id=some ⟨283,L.map Re.v,true⟩)(hn:n≤L.length)(hL:L.length≤1000)(hne:q≠id)(k:Nat)(hk:k≤n):∃ r H',Gen Tryz.prog 255 [.fn 2000278 [.eptr q 0 0],.int .i64 0,.int .i64 k] hp r H' ∧(∃ b,r=.bool b∧∃ L2:List Re,∃ ext,H'=hp.set id (some ⟨283,L2.map Re.v,true⟩) ++ ext∧L2.length=L.length∧∀ x,x∈L2→x∈L):=by
 have hlq:=entlt hq
 have hl:=entlt h
 refine gen_w (c:=c255 false) [.t 6] 3 (by kernel_rfl) (by kernel_rfl) (Nat.le_refl 3) ?_
 unfold c255
 simp (disch:=try exact Dw) only[Km,seval,reduceCtorEq]
 refine d_lo (fun p:Nat × List Re × Hp=>⟨[(0,.fn 2000278 [.eptr q 0 0]),(1,.int .i64 0),(2,.int .i64 k),(7,.int .i64 p.1)],hp.set id (some ⟨283,p.2.1.map Re.v,true⟩) ++ p.2.2⟩) (fun p=>p.1≤n∧p.2.1.length=L.length∧∀ x,x∈p.2.1→x∈L) (fun p=>n - p.1) ?_ ?_
 ·simp (disch:=try exact Dw) only[Km,seval,reduceCtorEq]
  exact⟨(0,L,[]),by simp only[ent_same h,List.append_nil]; rfl,Nat.zero_le _,rfl,fun x h=>h⟩
 rintro ⟨i,G,ext⟩ ⟨hi,hGl,hG⟩
 simp only at hi hGl hG ⊢
 unfold c255b0
 have hqs:∀(o:Option Ent) (l:Hp),ent (hp.set id o ++ l) q=some ⟨280,[.vec id 3 0 n],true⟩:=fun o l=>by rw [ent_apl (by rw [len_set]; exact hlq),ent_setn hne.symm,hq]
 by_cases h1:2 * i+1 < k
 ·have e1:(2:Int) *(i:Int)+1 =((2 * i+1:Nat):Int):=by omega
  have e2:(2:Int) *(i:Int)+2 =((2 * i+2:Nat):Int):=by omega
  by_cases h2:2 * i+2 < k
  ·simp (disch:=try exact Dw) only[Km,o_oi,List.map_cons,List.map_nil,seval,reduceCtorEq]
   refine call_i (recv_v mLess (hqs _ _)) (s380 (ent_sap hl) (by omega) _ _ ⟨by omega,by omega⟩ ⟨by omega,by omega⟩) (by rintro _ _ ⟨b,e,rfl,rfl⟩; simp only[List.length_append,List.length_set]; omega) ?_
   rintro _ _ ⟨b,e,rfl,rfl⟩
   cases b
   ·simp (disch:=try exact Dw) only[Km,o_oi,List.map_cons,List.map_nil,seval,reduceCtorEq]
    refine call_i (recv_v mLess (hqs _ _)) (s380 (ent_sap hl) (by omega) _ _ ⟨by omega,by omega⟩ ⟨by omega,by omega⟩) (by rintro _ _ ⟨b,e,rfl,rfl⟩; simp only[List.length_append,List.length_set]; omega) ?_
    rintro _ _ ⟨b,e,rfl,rfl⟩
    cases b
    ·simp (disch:=try exact Dw) only[Km,o_oi,List.map_cons,List.map_nil,seval,reduceCtorEq]
     exact⟨_,rfl,G,_,rfl,hGl,hG⟩
    ·simp (disch:=try exact Dw) only[Km,o_oi,List.map_cons,List.map_nil,seval,reduceCtorEq]
     refine call_i (recv_v mSwap (hqs _ _)) (s383 (ent_sap hl) (by omega) _ _ ⟨by omega,by omega⟩ ⟨by omega,by omega⟩) (by rintro _ _ ⟨rfl,L2,e,rfl,_⟩; simp only[List.length_append,List.length_set]; omega) ?_
     rintro _ _ ⟨rfl,L2,e,rfl,hl2,hL2⟩
     simp (disch:=try exact Dw) only[Km,o_oi,List.map_cons,List.map_nil,seval,reduceCtorEq]
     exact⟨(2 * i+1,L2,_),rfl,⟨by simp only; omega,hl2.trans hGl,fun x hx=>hG x (hL2 x hx)⟩,by simp only; omega⟩
   ·simp (disch:=try exact Dw) only[Km,o_oi,List.map_cons,List.map_nil,seval,reduceCtorEq]
    refine call_i (recv_v mLess (hqs _ _)) (s380 (ent_sap hl) (by omega) _ _ ⟨by omega,by omega⟩ ⟨by omega,by omega⟩) (by rintro _ _ ⟨b,e,rfl,rfl⟩; simp only[List.length_append,List.length_set]; omega) ?_
    rintro _ _ ⟨b,e,rfl,rfl⟩
    cases b
    ·simp (disch:=try exact Dw) only[Km,o_oi,List.map_cons,List.map_nil,seval,reduceCtorEq]
     exact⟨_,rfl,G,_,rfl,hGl,hG⟩
    ·simp (disch:=try exact Dw) only[Km,o_oi,List.map_cons,List.map_nil,seval,reduceCtorEq]
     refine call_i (recv_v mSwap (hqs _ _)) (s383 (ent_sap hl) (by omega) _ _ ⟨by omega,by omega⟩ ⟨by omega,by omega⟩) (by rintro _ _ ⟨rfl,L2,e,rfl,_⟩; simp only[List.length_append,List.length_set]; omega) ?_
     rintro _ _ ⟨rfl,L2,e,rfl,hl2,hL2⟩
     simp (disch:=try exact Dw) only[Km,o_oi,List.map_cons,List.map_nil,seval,reduceCtorEq]
     exact⟨(2 * i+2,L2,_),rfl,⟨by simp only; omega,hl2.trans hGl,fun x hx=>hG x (hL2 x hx)⟩,by simp only; omega⟩
  ·simp (disch:=try exact Dw) only[Km,o_oi,List.map_cons,List.map_nil,seval,reduceCtorEq]
   refine call_i (recv_v mLess (hqs _ _)) (s380 (ent_sap hl) (by omega) _ _ ⟨by omega,by omega⟩ ⟨by omega,by omega⟩) (by rintro _ _ ⟨b,e,rfl,rfl⟩; simp only[List.length_append,List.length_set]; omega) ?_
   rintro _ _ ⟨b,e,rfl,rfl⟩
   cases b
   ·simp (disch:=try exact Dw) only[Km,o_oi,List.map_cons,List.map_nil,seval,reduceCtorEq]
    exact⟨_,rfl,G,_,rfl,hGl,hG⟩
   ·simp (disch:=try exact Dw) only[Km,o_oi,List.map_cons,List.map_nil,seval,reduceCtorEq]
    refine call_i (recv_v mSwap (hqs _ _)) (s383 (ent_sap hl) (by omega) _ _ ⟨by omega,by omega⟩ ⟨by omega,by omega⟩) (by rintro _ _ ⟨rfl,L2,e,rfl,_⟩; simp only[List.length_append,List.length_set]; omega) ?_
    rintro _ _ ⟨rfl,L2,e,rfl,hl2,hL2⟩
    simp (disch:=try exact Dw) only[Km,o_oi,List.map_cons,List.map_nil,seval,reduceCtorEq]
    exact⟨(2 * i+1,L2,_),rfl,⟨by simp only; omega,hl2.trans hGl,fun x hx=>hG x (hL2 x hx)⟩,by simp only; omega⟩
 ·repeat' (first
 |simp (disch:=try exact Dw) only[Km,seval,reduceCtorEq]
 |with_reducible refine e8 ?_
 |fail)
  all_goals exact⟨_,rfl,G,_,rfl,hGl,hG⟩
end
end Go.Proofs
