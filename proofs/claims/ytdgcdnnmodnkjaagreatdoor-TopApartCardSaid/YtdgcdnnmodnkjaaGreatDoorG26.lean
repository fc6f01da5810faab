/- Part 26 of a proof that a step of one domain changes nothing of another: the machine of plain values, and what the program's functions do. -/
import Derived.Test.YtdgcdnnmodnkjaaGreatDoorG25
set_option linter.all false
set_option linter.unusedVariables false
set_option linter.unusedSectionVars false
set_option linter.unusedSimpArgs false
set_option linter.defProp false
set_option maxRecDepth 100000
namespace Go.Proofs.Onc
open Go Go.Pv
variable [Lq]
open Classical in
noncomputable def cl1(f0:FuncId)(a0:List AV)(h0:Hp)(r:AV)(H':Hp):Cl:=(Tryz.prog,fun f a h o=>if f=f0∧a=a0∧h=h0∧o =⟨none,none,.bad,false,[]⟩ then some (r,H') else none)
noncomputable def cl0:Cl:=(Tryz.prog,fun _ _ _ _=>none)
theorem cl1_ok{f0:FuncId}{a0:List AV}{h0:Hp}{r:AV}{H':Hp}(hg:Gen Tryz.prog f0 a0 h0 r H')(hl:h0.length≤H'.length):ClOk Tryz.prog (cl1 f0 a0 h0 r H'):=by
 refine⟨rfl,fun f xs hp o r' H'' h=>?_⟩
 unfold cl1 at h
 simp only at h
 split at h
 ·rename_i hh
  obtain ⟨rfl,rfl,rfl,rfl⟩:=hh
  cases h
  exact⟨hg,hl,fun h=>by cases h⟩
 ·cases h
theorem cell_at1{hp:Hp}{id off:Nat}{ty:TypeId}{x y:AV}(h:ent hp id=some ⟨ty,[x],true⟩)(c:cells x off 1 false=some y):cellAt hp id 0 off=some y:=by
 unfold cellAt
 rw [h]
 show evR [] hp (.load 1 false (.c (.eptr id 0 off)))=_
 simp only[evR,AX.ev,h]
 simpa using c
theorem put_at1{hp:Hp}{id off:Nat}{ty:TypeId}{x y z:AV}(h:ent hp id=some ⟨ty,[x],true⟩)(c:setCells x y off 1=some z):putAt hp id 0 off y=some (hp.set id (some ⟨ty,[z],true⟩)):=by
 unfold putAt
 simp only[evE,AX.ev,h]
 simp [c]
theorem once_do{hp H2:Hp}{id off:Nat}{ty:TypeId}{x x1 x2 x3 x4 r2:AV}{f:FuncId}{caps:List AV}(hf:f < ifB)(h0:ent hp id=some ⟨ty,[x],true⟩)(c0:cells x off 1 false=some (.int .u32 0))(c1:cells x (off+1) 1 false=some (.int .i32 0))(s1:setCells x (.int .i32 1) (off+1) 1=some x1)
  (hg:Gen Tryz.prog (fnId f) (fnArgs f [] caps) (hp.set id (some ⟨ty,[x1],true⟩)) r2 H2) (hl:hp.length≤H2.length) (h2:ent H2 id=some ⟨ty,[x2],true⟩) (d0:cells x2 off 1 false=some (.int .u32 0)) (d1:cells x2 (off+1) 1 false=some (.int .i32 1))
  (s3:setCells x2 (.int .u32 1) off 1=some x3) (s4:setCells x3 (.int .i32 0) (off+1) 1=some x4):Gen Tryz.prog 35 [.eptr id 0 off,.fn f caps] hp (.tup []) (H2.set id (some ⟨ty,[x4],true⟩)):=by
 refine spOnce_ok (cl1_ok hg (by rw [List.length_set]; exact hl)) ?_
 have hb:Nat.blt f ifB=true:=by rw [Nat.blt_eq]; exact hf
 have e2:ent (H2.set id (some ⟨ty,[x3],true⟩)) id=some ⟨ty,[x3],true⟩:=entset (entlt h2)
 unfold spOnce
 simp only[hb,Bool.not_true,cond_false,cell_at1 h0 c0,cell_at1 h0 c1,put_at1 h0 s1,Option.bind_some,if_true]
 have hcl:(cl1 (fnId f) (fnArgs f [] caps) (hp.set id (some ⟨ty,[x1],true⟩)) r2 H2).2 (fnId f) (fnArgs f [] caps) (hp.set id (some ⟨ty,[x1],true⟩)) ⟨none,none,.bad,false,[]⟩=some (r2,H2):=by
  unfold cl1; simp
 rw [hcl]
 simp only[Option.bind_some,cell_at1 h2 d0,cell_at1 h2 d1,put_at1 h2 s3,put_at1 e2 s4,Option.map_some,List.set_set]
theorem once_no{hp:Hp}{id off:Nat}{ty:TypeId}{x:AV}{d:Int}{f:FuncId}{caps:List AV}(hf:f < ifB)(hd:d≠0)(h0:ent hp id=some ⟨ty,[x],true⟩)(c0:cells x off 1 false=some (.int .u32 d))(c1:cells x (off+1) 1 false=some (.int .i32 0)):Gen Tryz.prog 35 [.eptr id 0 off,.fn f caps] hp (.tup []) hp:=by
 refine spOnce_ok (cl:=cl0) ⟨rfl,fun f xs hp o r' H'' h=>by cases h⟩ ?_
 have hb:Nat.blt f ifB=true:=by rw [Nat.blt_eq]; exact hf
 unfold spOnce
 simp only[hb,Bool.not_true,cond_false,cell_at1 h0 c0,cell_at1 h0 c1,if_neg hd]
theorem add_at{hp:Hp}{id off:Nat}{ty:TypeId}{x x':AV}{n d:Int}(h0:ent hp id=some ⟨ty,[x],true⟩)(c0:cells x off 1 false=some (.int .i64 n))(s0:setCells x (.int .i64 (IntKind.i64.wrap (n+d))) off 1=some x'):Gen Tryz.prog 97 [.eptr id 0 off,.int .i64 d] hp (.int .i64 (IntKind.i64.wrap (n+d))) (hp.set id (some ⟨ty,[x'],true⟩)):=by
 refine spAdd_ok (cl:=cl0) ?_
 unfold spAdd
 simp only[cell_at1 h0 c0,put_at1 h0 s0,Option.map_some]
end Go.Proofs.Onc
namespace Go.Proofs
open Go Go.Pv Go.Proofs.Tx
variable [Lq]
open W
def Kn:=And.intro @wk <| And.intro @wq <| And.intro @wz <| And.intro @zd <| And.intro @mk <| And.intro @bz <| And.intro @tt <| And.intro @wg <| And.intro @mp <| And.intro @t3 <| @ss
theorem Dn{p:Prop}(h:p:=by first | assumption | omega | (simp only[wd,zl,wq,wz,zd,mk,bz,tt,wg,mp,t3,ss]; done) | (simp only[List.length_append,List.length_set,List.length_cons,List.length_nil,List.length_map,List.length_take,List.length_drop,List.length_replicate]; omega) | fail):p:=h
theorem An{P:Program}{f:FuncId}{args:List AV}{hp:Hp}{E:AV→Hp→Prop}{Q:AV→Prop}{dr fm:Bool}{no:List TypeId}(h:∃ r,Run P f args r∧Q r)(hk:∀ r,Q r→vLay r hp E)(hn:args.all AV.nr1=true:=by first | (simp only[wd,wq,wz,zd,mk,bz,tt,wg,mp,t3,ss]; done) | fail):wCall P f args hp dr fm no E:=call_nr h hn hk
theorem Fn{hp:Hp}{x:AV}{Q:AV→Prop}(h:Q x)(hn:nrR x=true:=by first | (simp only[wd,wq,wz,zd,mk,bz,tt,wg,mp,t3,ss]; done) | fail):fin (some x) Q hp:=fin_nr hn h
end Go.Proofs
set_option maxHeartbeats 4000000
set_option maxRecDepth 100000
namespace Go.Proofs
open Go Go.Pv Go.Proofs.Tx
variable [Lq]
open W
open Classical
theorem mem_set{α:Type}{p:α→Prop}{l:List α}{k:Nat}{y:α}(h:∀ z,z∈l→p z)(hy:p y):∀ z,z∈l.set k y→p z:=fun z hz=>by
 rcases List.mem_or_eq_of_mem_set hz with h1 | h1
 ·exact h z h1
 ·rw [h1]; exact hy
theorem qsh_cp{l:List Qd}(h:QSh l):QSh (l.map cpQ):=fun z hz=>by
 obtain ⟨y,hy,rfl⟩:=List.mem_map.1 hz
 exact h y hy
section
variable {hp:Hp} {i:Nat} {x:Si} {g:Sg} {ta:List EL} {qs:List QL}
theorem s26(h:SimAt hp i x g ta qs)(d:Int):∃ r H',Gen Tryz.prog 26 [.eptr i 0 0,.int .i64 d] hp r H' ∧(r=.bool (decide (0≤d∧d < x.k))∧H'=hp):=by
 have hs:=h.s
 refine gen_w (c:=c26 false) [.t 4] 2 (by kernel_rfl) (by kernel_rfl) (Nat.le_refl 2) ?_
 unfold c26
 by_cases h1:0≤d
 ·by_cases h2:d < x.k
  ·simp (disch:=try exact Dn) only[Kn,hs,h1,h2,and_self,decide_true,seval,reduceCtorEq]
  ·simp (disch:=try exact Dn) only[Kn,hs,h1,h2,and_false,decide_false,seval,reduceCtorEq]
 ·simp (disch:=try exact Dn) only[Kn,hs,h1,false_and,decide_false,seval,reduceCtorEq]
theorem s10(h:SimAt hp i x g ta qs)(d:Int)(hd:0≤d∧d < x.k):∃ r H',Gen Tryz.prog 10 [.eptr i 0 0,.int .i64 d] hp r H' ∧(∃ w:EL,r=w.v∧w.l =(nth ta d.toNat).l∧H'=hp):=by
 have hs:=h.s
 have ht:=h.t
 have hl:=h.tl
 have hb:=h.tb _ (nth_mem (l:=ta) (k:=d.toNat) (by omega))
 refine gen_w (c:=c10 false) [.t 4] 2 (by kernel_rfl) (by kernel_rfl) (Nat.le_refl 2) ?_
 unfold c10
 simp (disch:=try exact Dn) only[Kn,seval,reduceCtorEq]
 refine call_genQ (s26 h d) ?_
 rintro _ _ ⟨rfl,rfl⟩
 simp (disch:=try exact Dn) only[Kn,hs,ht,hd,seval,reduceCtorEq]
 refine⟨by omega,?_⟩
 refine An (r27 (nth ta d.toNat) (by omega)) ?_
 rintro _ rfl
 simp only[vl,ts,wb]
 simp (disch:=try exact Dn) only[Kn,seval,reduceCtorEq]
 exact⟨_,rfl,rfl⟩
theorem s11(h:SimAt hp i x g ta qs)(d:Int)(hd:0≤d∧d < x.k):∃ r H',Gen Tryz.prog 11 [.eptr i 0 0,.int .i64 d] hp r H' ∧(∃ w:QL,r=w.v∧w.l =(nth qs d.toNat).l.map cpQ∧∃ e,H'=hp ++ [e]):=by
 have hs:=h.s
 have hq:=h.q
 have hl:=h.ql
 obtain ⟨hb1,hb2⟩:=h.qb _ (nth_mem (l:=qs) (k:=d.toNat) (by omega))
 refine gen_w (c:=c11 false) [.t 4] 2 (by kernel_rfl) (by kernel_rfl) (Nat.le_refl 2) ?_
 unfold c11
 simp (disch:=try exact Dn) only[Kn,seval,reduceCtorEq]
 refine call_genQ (s26 h d) ?_
 rintro _ _ ⟨rfl,rfl⟩
 simp (disch:=try exact Dn) only[Kn,hs,hq,hd,seval,reduceCtorEq]
 refine⟨by omega,?_⟩
 refine An (s28_n (nth qs d.toNat) (-1) hb1 (by omega) (by omega)) ?_
 rintro _ ⟨q,w,b,rfl,hw,hw2⟩
 simp only[vl,ts,wb]
 simp (disch:=try exact Dn) only[Kn,seval,reduceCtorEq]
 cases b
 ·exact⟨w,rfl,hw rfl,_,rfl⟩
 ·exact absurd (hw2 rfl).1.1 (by omega)
theorem s55(h:SimAt hp i x g ta qs)(e:Int)(he:okE e):∃ r H',Gen Tryz.prog 55 [.eptr i 0 0,.int .i64 e] hp r H' ∧(r=.tup []∧Nxt No No hp H' i x ta qs):=by
 have hs:=h.s
 have hD:=h.D
 obtain ⟨e0,e1⟩:=he
 obtain ⟨k,rfl⟩:∃ k:Nat,e=k:=⟨e.toNat,by omega⟩
 refine gen_w (c:=c55 false) [] 2 (by kernel_rfl) (by kernel_rfl) (Nat.le_refl 2) ?_
 unfold c55
 simp (disch:=try exact Dn) only[Kn,hs,seval,reduceCtorEq]
 refine⟨⟨by omega,by omega⟩,?_⟩
 rw [Nat.mul_one]
 refine call_gen (Onc.add_at (d:=1) hs (Si.c_D x (k:=k) (by omega)) (Si.s_D x _ (by omega))) ?_
 simp (disch:=try exact Dn) only[Kn,seval,reduceCtorEq]
 exact⟨_,g,ta,qs,h.setS rfl rfl rfl rfl rfl (by simp only[List.length_set]; exact hD),Fx.refl.set (.inl rfl) |>.to rfl rfl rfl rfl (.inl rfl),Rl.refl⟩
theorem s52(h:SimAt hp i x g ta qs)(d:Int)(q:Qd)(e:Int)(he:okE e)(hd:e=0→0≤d∧d < x.k)(hb:q.frame.body.l.length≤100000):∃ r H',Gen Tryz.prog 52 [.eptr i 0 0,.int .i64 d,q.v,.int .i64 e] hp r H' ∧(r=.tup []∧Nxt No No hp H' i x ta qs):=by
 have hs:=fun l=>ent_ap h.s l
 have hq:=fun l=>ent_ap h.q l
 have hql:=entlt h.q
 have hl:=h.ql
 refine gen_w (c:=c52 false) [] 4 (by kernel_rfl) (by kernel_rfl) (Nat.le_refl 4) ?_
 unfold c52
 simp (disch:=try exact Dn) only[Kn,seval,reduceCtorEq]
 refine condC_d (fun h0=>?_) (fun h0=>?_)
 ·simp (disch:=try exact Dn) only[Kn,seval,reduceCtorEq]
  refine call_genQ (s55 (h.ap _) e he) ?_
  rintro _ H1 ⟨rfl,x1,g1,ts1,qs1,a1,a2,a3⟩
  simp (disch:=try exact Dn) only[Kn,seval,reduceCtorEq]
  refine⟨x1,g1,ts1,qs1,a1,?_,a3⟩
  exact(Fx.ap Fx.refl _).trans a2
 ·have hdd:=hd (Decidable.of_not_not h0)
  obtain ⟨hb1,hb2⟩:=h.qb _ (nth_mem (l:=qs) (k:=d.toNat) (by omega))
  simp (disch:=try exact Dn) only[Kn,hs,hq,hdd,seval,reduceCtorEq]
  refine⟨by omega,?_⟩
  refine callv_nr (s86 (nth qs d.toNat) q hb1 hb (by omega)) (by simp only[wd,seval,not_false_eq_true,wq,wz,zd,mk,bz,tt,wg,mp,t3,ss]) ?_
  rintro _ ⟨w,b,rfl,hw,hw2⟩
  simp only[vl,ts,wb]
  cases b
  ·simp (disch:=try exact Dn) only[Kn,seval,reduceCtorEq]
   refine call_genQ (s55 (h.ap _) 3 ⟨by decide,by decide⟩) ?_
   rintro _ H1 ⟨rfl,x1,g1,ts1,qs1,a1,a2,a3⟩
   simp (disch:=try exact Dn) only[Kn,seval,reduceCtorEq]
   refine⟨x1,g1,ts1,qs1,a1,?_,a3⟩
   exact(Fx.ap Fx.refl _).trans a2
  ·obtain ⟨hw3,hw4⟩:=hw2 rfl
   simp (disch:=try exact Dn) only[Kn,hs,hq,hdd,hql,seval,reduceCtorEq]
   refine⟨by omega,?_⟩
   refine⟨x,g,ta,qs.set d.toNat w,?_,?_,Rl.setQ (.inr ?_)⟩
   ·refine(h.setQ (List.length_set ..) (mem_set h.qb ?_)).ap _
    ·rw [hw3]
     refine⟨fun z hz=>?_,by simp only[List.length_append,List.length_map,List.length_cons,List.length_nil]; omega⟩
     rcases List.mem_append.1 hz with h2 | h2
     ·obtain ⟨z',hz',rfl⟩:=List.mem_map.1 h2; exact hb1 z' hz'
     ·rw [List.mem_singleton.1 h2]; exact hb
   ·exact(Fx.refl.set (.inr (.inr (.inr (.inl rfl))))).ap _
   ·rw [hw3]; exact Ext.put _ _
theorem s23(h:SimAt hp i x g ta qs)(d a:Int):∃ r H',Gen Tryz.prog 23 [.eptr i 0 0,.int .i64 d,.int .i64 a] hp r H' ∧(∃ q:Qd,∃ b,r=.tup [q.v,.bool b] ∧(b=true→q.frame.body.l.length≤100000∧0≤d∧d < x.k)∧Nxt No (fun k=>(k:Int)=d) hp H' i x ta qs):=by
 have hs:=fun l=>ent_ap h.s l
 have hq:=fun l=>ent_ap h.q l
 have hql:=entlt h.q
 have hl:=h.ql
 refine gen_w (c:=c23 false) [.c 6 7 true,.t 7] 3 (by kernel_rfl) (by kernel_rfl) (Nat.le_refl 3) ?_
 unfold c23
 simp (disch:=try exact Dn) only[Kn,seval,reduceCtorEq]
 refine call_genQ (s26 (h.ap _) d) ?_
 rintro _ _ ⟨rfl,rfl⟩
 by_cases hdd:0≤d∧d < x.k
 ·obtain ⟨hb1,hb2⟩:=h.qb _ (nth_mem (l:=qs) (k:=d.toNat) (by omega))
  simp (disch:=try exact Dn) only[Kn,hs,hq,hdd,seval,reduceCtorEq]
  refine⟨by omega,?_⟩
  refine An (s28 (nth qs d.toNat) a hb1 (by omega)) ?_
  rintro _ ⟨q,w,b,rfl,hw,hw2⟩
  simp only[vl,ts,wb]
  simp (disch:=try exact Dn) only[Kn,seval,reduceCtorEq]
  simp (disch:=try exact Dn) only[Kn,hs,hq,hdd,hql,seval,reduceCtorEq]
  have hwb:QSh w.l∧w.l.length≤1000:=by
   cases b
   ·rw [hw rfl]; exact⟨qsh_cp hb1,by rw [List.length_map]; exact hb2⟩
   ·rw [(hw2 rfl).2.2]
    refine⟨qsh_cp fun z hz=>hb1 z ?_,by simp only[List.length_map,List.length_append,List.length_take,List.length_drop]; omega⟩
    rcases List.mem_append.1 hz with h | h
    ·exact List.mem_of_mem_take h
    ·exact List.mem_of_mem_drop h
  refine⟨by omega,q,b,rfl,fun hb=>?_,x,g,ta,qs.set d.toNat w,?_,?_,Rl.setQ (.inl ?_)⟩
  ·obtain ⟨h1,h2,_⟩:=hw2 hb
   rw [h2]
   exact hb1 (nth (nth qs d.toNat).l a.toNat) (nth_mem (by omega))
  ·exact(h.setQ (List.length_set ..) (mem_set h.qb hwb)).ap _
  ·exact(Fx.refl.set (.inr (.inr (.inr (.inl rfl))))).ap _
  ·omega
 ·simp (disch:=try exact Dn) only[Kn,hs,hq,hdd,seval,reduceCtorEq]
  exact⟨_,_,rfl,fun h=>(Bool.false_ne_true h).elim,x,g,ta,qs,h.ap _,Fx.ap Fx.refl _,Rl.refl⟩
end
end Go.Proofs
set_option maxHeartbeats 4000000
set_option maxRecDepth 100000
namespace Go.Proofs
open Go Go.Pv Go.Proofs.Tx
variable [Lq]
open W
open Classical
section
variable {hp:Hp} {i:Nat} {x:Si} {g:Sg} {ta:List EL} {qs:List QL}
theorem s21(h:SimAt hp i x g ta qs)(p:Int)(u:BL)(hu:u.l.length≤100000):∃ r H',Gen Tryz.prog 21 [.eptr i 0 0,.int .i64 p,u.v] hp r H' ∧(r=.tup []∧Nxt No No hp H' i x ta qs):=by
 have hs:=h.s
 have hil:=entlt h.s
 have e0:Nxt No No hp hp i x ta qs:=⟨x,g,ta,qs,h,Fx.refl,Rl.refl⟩
 refine gen_w (c:=c21 false) [] 3 (by kernel_rfl) (by kernel_rfl) (Nat.le_refl 3) ?_
 unfold c21
 by_cases h1:p < 0
 ·simp (disch:=try exact Dn) only[Kn,hs,h1,seval,reduceCtorEq]
  exact e0
 by_cases h2:(x.n.ports.l.length:Int)≤p
 ·simp (disch:=try exact Dn) only[Kn,hs,h1,h2,seval,reduceCtorEq]
  exact e0
 simp (disch:=try exact Dn) only[Kn,hs,h1,h2,seval,reduceCtorEq]
 refine⟨by omega,?_⟩
 by_cases h3:0 ≤(nth x.n.ports.l p.toNat).link
 ·simp (disch:=try exact Dn) only[Kn,hs,h1,h2,h3,seval,reduceCtorEq]
  exact e0
 simp (disch:=try exact Dn) only[Kn,hs,h1,h2,h3,hil,seval,reduceCtorEq]
 have hS:=h.setS (x':={ x with inj:=IntKind.i64.wrap (x.inj+1) }) rfl rfl rfl rfl rfl h.D
 have hs2:=fun l=>ent_ap hS.s l
 have hx1:Fx hp (hp.set i (some ⟨100,[Si.v { x with inj:=IntKind.i64.wrap (x.inj+1) }],true⟩)) i x { x with inj:=IntKind.i64.wrap (x.inj+1) }:=(Fx.refl.set (.inl rfl)).to rfl rfl rfl rfl (.inl rfl)
 refine An (s51 x.n p u) ?_
 rintro _ ⟨d,f,e,rfl,he,hf,hg⟩
 simp only[vl,ts,wb]
 simp (disch:=try exact Dn) only[Kn,hs2,Fm.flat_e,seval,reduceCtorEq]
 refine callv_genQ (s52 (hS.ap _) d ⟨p,0,IntKind.i64.wrap (x.inj+1),f⟩ e he (fun h0=>?_) (Nat.le_trans hf hu)) (fun _ _ ⟨_,_,_,_,_,_,f2,_⟩=>f2.len) ?_
 ·have h5:=(hg h0).2
  have:=h5.1
  have:=h5.2
  have:=h.k
  exact⟨by omega,by simp only; omega⟩
 rintro _ H1 ⟨rfl,x1,g1,ts1,qs1,a1,a2,a3⟩
 simp (disch:=try exact Dn) only[Kn,seval,reduceCtorEq]
 exact⟨x1,g1,ts1,qs1,a1,(hx1.ap _).trans a2,a3⟩
theorem s24(h:SimAt hp i x g ta qs):∃ r H',Gen Tryz.prog 24 [.eptr i 0 0] hp r H' ∧(r=.tup []∧Nxt (fun _=>True) No hp H' i x ta qs):=by
 have hs:=h.s
 have hil:=entlt h.s
 refine gen_w (c:=c24 false) [] 1 (by kernel_rfl) (by kernel_rfl) (Nat.le_refl 1) ?_
 unfold c24
 simp (disch:=try exact Dn) only[Kn,hs,hil,seval,reduceCtorEq]
 have hS:=h.setS (x':={ x with now:=min (IntKind.i64.wrap (x.now+1)) 1099511627776 }) rfl rfl rfl rfl rfl h.D
 have hx1:Fx hp (hp.set i (some ⟨100,[Si.v { x with now:=min (IntKind.i64.wrap (x.now+1)) 1099511627776 }],true⟩)) i x { x with now:=min (IntKind.i64.wrap (x.now+1)) 1099511627776 }:=(Fx.refl.set (.inl rfl)).to rfl rfl rfl rfl (.inl rfl)
 refine d_lo (fun p:Nat × Hp=>⟨[(0,.eptr i 0 0),(16,.vec x.ti 1 0 x.k),(17,.int .i64 x.k),(18,.int .i64 p.1)],p.2⟩) (fun p=>p.1≤x.k∧∃ ta',SimAt p.2 i { x with now:=min (IntKind.i64.wrap (x.now+1)) 1099511627776 } g ta' qs∧Fx hp p.2 i x { x with now:=min (IntKind.i64.wrap (x.now+1)) 1099511627776 }) (fun p=>x.k - p.1) ?_ ?_
 ·simp (disch:=try exact Dn) only[Kn,seval,reduceCtorEq]
  exact⟨(0,_),rfl,Nat.zero_le _,ta,hS,hx1⟩
 clear hs hil hS hx1
 rintro ⟨k,H⟩ ⟨hk,ta1,h1,f1⟩
 simp only at hk h1 f1 ⊢
 unfold c24b0
 have hs1:=fun l=>ent_ap h1.s l
 have ht1:=fun l=>ent_ap h1.t l
 have ht0:=h1.t
 have htl:=entlt h1.t
 have hl:=h1.tl
 have hk48:=h.k1
 simp only at hl ht1 ht0 htl
 have hrl:Rl (fun _=>True) No ta qs ta1 qs:=⟨by rw [h1.tl,h.tl],rfl,fun _ _ h=>(h trivial).elim,fun _ _ _=>Ext.refl _⟩
 by_cases hlt:k < x.k
 ·have hb:=h1.tb _ (nth_mem (l:=ta1) (k:=k) (by omega))
  simp (disch:=try exact Dn) only[Kn,hs1,ht1,ht0,seval,reduceCtorEq]
  refine⟨⟨by omega,by omega⟩,by omega,?_⟩
  refine An (s57 (nth ta1 k) _ hb) ?_
  rintro _ ⟨w,rfl,hw⟩
  simp only[vl,ts,wb]
  simp (disch:=try exact Dn) only[Kn,hs1,ht1,htl,seval,reduceCtorEq]
  refine⟨⟨by omega,by omega⟩,by omega,?_⟩
  exact⟨(k+1,_),rfl,⟨by simp only; omega,ta1.set k w,(h1.setT (List.length_set ..) (mem_set h1.tb (Nat.le_trans hw hb))).ap _,(f1.set (.inr (.inr (.inl rfl)))).ap _⟩,by simp only; omega⟩
 ·simp (disch:=try exact Dn) only[Kn,seval,reduceCtorEq]
  exact⟨_,g,ta1,qs,h1,f1,hrl⟩
end
end Go.Proofs
set_option maxHeartbeats 4000000
set_option maxRecDepth 100000
namespace Go.Proofs
open Go Go.Pv Go.Proofs.Tx
variable [Lq]
open W
open Classical
def usab(N:Nt)(f:List Bool)(p:Int):Prop:=(nth N.ports.l p.toNat).link < 0∨nth f (nth N.ports.l p.toNat).link.toNat=true
theorem good_link{N:Nt}(h:Good N){p:Int}(hp:Pl N.ports.l p):(nth N.ports.l p.toNat).link=-1∨Pl N.links.l (nth N.ports.l p.toNat).link:=by
 have:=(h.ports p.toNat (by omega)).2.2.2.2.2.2.2.2
 rcases this with h | h
 ·exact .inl h
 ·exact .inr h.1
theorem bd_e{b:Bool}{q:Prop}{j:Decidable q}(h:b=true↔q):AV.bool b=AV.bool (@decide q j):=by
 cases b
 ·exact bd_f fun hq=>absurd (h.2 hq) Bool.false_ne_true
 ·exact bd_t (h.1 rfl)
theorem s259(N:Nt)(u:TL)(p:Int)(hg:Good N)(hp:Pl N.ports.l p)(hu:u.l.length=N.links.l.length):∃ r,Run Tryz.prog 259 [N.v,u.v,.int .i64 p] r∧r=.bool (decide (usab N u.l p)):=by
 refine run_w (c:=c259 true) [.t 6] 3 (by kernel_rfl) (by kernel_rfl) (Nat.le_refl 3) (by simp only[wd]) ?_
 unfold c259
 have h2:=good_link hg hp
 unfold usab
 repeat' (first
 |simp (disch:=try exact Dj) only[Kj,seval,reduceCtorEq]
 |(with_reducible apply gC_d0)<;>intro _
 |with_reducible refine e8 ?_
 |(refine Fj ?_;first|(refine bd_e ?_; grind)|exact e9|fail)
 |fail)
theorem s258(R:Rm)(p:Int)(hg:Good R.n)(hp:Pl R.n.ports.l p)(hu:R.forward.l.length=R.n.links.l.length):∃ r,Run Tryz.prog 258 [.int .i64 p,.rptr (.rptr R.v 0) 0] r∧r=.bool (decide (p=R.frm∨¬ usab R.n R.forward.l p)):=by
 refine run_w (c:=c258 true) [.t 3] 2 (by kernel_rfl) (by kernel_rfl) (Nat.le_refl 2) (by simp only[wd]) ?_
 unfold c258
 repeat' (first
 |simp (disch:=try exact Dj) only[Kj,seval,reduceCtorEq]
 |(with_reducible apply gC_d0)<;>intro _
 |with_reducible refine e8 ?_
 |(refine callv_nr (s259 _ _ _ hg hp hu) (by simp only[wd,seval,not_false_eq_true]) ?_; rintro _ rfl; all_goals simp only[vl,ts,wb])
 |(refine Fj ?_;first|exact e9|fail)
 |fail)
theorem s224(N:Nt)(d m:Int):∃ r,Run Tryz.prog 224 [N.v,.int .i64 d,.int .u64 m] r∧∃ i,r=.int .i64 i∧IsIdx (fun s:Sc=>s.dom=d∧s.mac=m) N.stats.l i:=by
 refine run_w (c:=c224 true) [.t 6] 3 (by kernel_rfl) (by kernel_rfl) (Nat.le_refl 3) (by simp only[wd]) ?_
 unfold c224
 repeat' (first
 |simp (disch:=try exact Dj) only[Kj,seval,reduceCtorEq]
 |with_reducible refine e8 ?_
 |(refine call_rn (by simp (disch:=try exact Dj) only[Kj,wp,seval,reduceCtorEq]; rfl) (by simp (disch:=try exact Dj) only[Kj,wp,seval,reduceCtorEq]) (s314 _ (k315 _ _)) ?_; rintro _ ⟨i,rfl,hi⟩; all_goals simp only[vl,wp,ts,wb])
 |(refine Fj ?_;first|exact⟨_,rfl,hi⟩|exact e9|fail)
 |fail)
theorem s276(N:Nt)(d m:Int):∃ r,Run Tryz.prog 276 [N.v,.int .i64 d,.int .u64 m] r∧∃ i,r=.int .i64 i ∧(0≤i→Good N∧Pl N.ports.l i):=by
 refine run_w (c:=c276 true) [.t 6] 3 (by kernel_rfl) (by kernel_rfl) (Nat.le_refl 3) (by simp only[wd]) ?_
 unfold c276
 repeat' (first
 |simp (disch:=try exact Dj) only[Kj,seval,reduceCtorEq]
 |(with_reducible first|apply condC_d|apply gC_d0)<;>intro _
 |with_reducible refine e8 ?_
 |(refine Aj (s224 _ _ _) ?_;rintro _ ⟨i,rfl,hi⟩; have hi':=hi.lt;all_goals simp only[vl,ts,wb])
 |(refine Aj (s72 _) ?_;rintro _ rfl;all_goals simp only[vl,ts,wb])
 |(refine Fj ?_;first|exact⟨_,rfl,fun h=>absurd h (by decide)⟩|exact⟨_,rfl,fun _=>⟨Decidable.of_not_not (by assumption),((Decidable.of_not_not (by assumption):Good N).stats i.toNat (by omega)).2.1⟩⟩|exact e9|fail)
 |fail)
end Go.Proofs
set_option maxHeartbeats 4000000
set_option maxRecDepth 100000
namespace Go.Proofs
open Go Go.Pv Go.Proofs.Tx
variable [Lq]
open W
open Classical
structure RmOk(R:Rm):Prop where
 good:Good R.n
 pos:Pl R.n.doms.l R.at_
 fw:R.forward.l.length=R.n.links.l.length
 mem:∀ x,x∈R.members.l→Pl R.n.ports.l x
 len:R.members.l.length≤40
theorem s177(R:Rm)(u:IL)(hR:RmOk R)(hx:∀ x,x∈u.l→Pl R.n.ports.l x)(hl:u.l.length≤1000):∃ r,Run Tryz.prog 177 [.rptr R.v 0,u.v] r∧∃ w:IL,r=w.v ∧(∀ x,x∈w.l→x∈u.l)∧w.l.length≤u.l.length:=by
 have hk:Clo Int (AV.int .i64) (fun p=>p=R.frm∨¬ usab R.n R.forward.l p) u.l 258 [.rptr (.rptr R.v 0) 0]:=⟨by decide,by simp only[wd],fun x h=>by
  obtain ⟨_,h1,rfl⟩:=s258 R x hR.good (hx x h) hR.fw; exact⟨_,h1,_,rfl,by simp⟩⟩
 have i3:∀(l:List Int) hp,mapO (snap hp 6) (l.map (AV.int .i64))=some (l.map (AV.int .i64)):=fun l hp=>mapO_map fun _=>rfl
 have i4:∀(l:List Int) hp,(l.map (AV.int .i64)).flatMap (rows hp 6)=[]:=fun l hp=>rows_map fun _=>rfl
 have i5:∀(l:List Int) hp,mapO (snap hp 5) (l.map (AV.int .i64))=some (l.map (AV.int .i64)):=fun l hp=>mapO_map fun _=>rfl
 have i6:∀(l:List Int) hp,(l.map (AV.int .i64)).flatMap (rows hp 5)=[]:=fun l hp=>rows_map fun _=>rfl
 refine run_w (c:=c177 true) [.t 4] 2 (by kernel_rfl) (by kernel_rfl) (Nat.le_refl 2) (by simp only[wd]) ?_
 unfold c177
 repeat' (first
 |simp (disch:=try exact Dj) only[Kj,i3,i4,i5,i6,in_of,take_map_all,map_take_len,seval,reduceCtorEq]
 |with_reducible refine e8 ?_
 |(refine Aj (o49 _ (by omega)) ?_;rintro _ rfl;all_goals simp only[vl,ts,wb])
 |(refine call_ms [.own 1 3] (by simp (disch:=try exact Dj) only[Kj,i3,i4,i5,i6,in_of,take_map_all,map_take_len,wo,wp,seval,reduceCtorEq]; rfl) (by simp (disch:=try exact Dj) only[Kj,i3,i4,i5,i6,in_of,take_map_all,map_take_len,wo,wp,seval,reduceCtorEq]) (s260 u.l hl hk) ?_; rintro _ ⟨m,rfl,hm1,hm2⟩; all_goals simp only[vl,wp,ts,wb])
 |(refine fin_o [] ?_;simp (disch:=try exact Dj) only[Kj,i3,i4,i5,i6,in_of,take_map_all,map_take_len,wh,seval,reduceCtorEq];refine⟨_,rfl,?_,?_⟩;(first|rfl|simp (disch:=try exact Dj) only[Kj,i3,i4,i5,i6,in_of,take_map_all,map_take_len,wh,seval,reduceCtorEq]);first|exact⟨_,rfl,hm2,hm1⟩|exact⟨_,rfl⟩|fail)
 |fail)
theorem s178(R:Rm)(hR:RmOk R):∃ r,Run Tryz.prog 178 [.rptr R.v 0] r∧∃ w:IL,r=w.v∧w.l.length≤48:=by
 have h1:=hR.pos
 have h2:=peers_len hR.good h1
 refine run_w (c:=c178 true) [.t 2] 1 (by kernel_rfl) (by kernel_rfl) (Nat.le_refl 1) (by simp only[wd]) ?_
 unfold c178
 repeat' (first
 |simp (disch:=try exact Dj) only[Kj,seval,reduceCtorEq]
 |(with_reducible apply condC_d)<;>intro _
 |with_reducible refine e8 ?_
 |(refine callv_nr (r49 _ (by omega)) (by simp only[wd,seval,not_false_eq_true]) ?_; rintro _ rfl; all_goals simp only[vl,ts,wb])
 |(refine Fj ?_;first|exact⟨_,SL.nile,Nat.zero_le _⟩|exact⟨_,rfl,h2⟩|exact e9|fail)
 |fail)
theorem s177'(R:Rm)(i:Int)(hR:RmOk R)(hx:Pl R.n.ports.l i):∃ r,Run Tryz.prog 177 [.rptr R.v 0,.sl 1 [.int .i64 i] false] r∧∃ w:IL,r=w.v ∧(∀ x,x∈w.l→Pl R.n.ports.l x)∧w.l.length≤1:=by
 have:=s177 R (SL.of [i] (Nat.le_of_ble_eq_true rfl)) hR (fun x h=>by rw [SL.of_l,List.mem_singleton] at h; rw [h]; exact hx) (Nat.le_of_ble_eq_true rfl)
 rw [← SL.ofe] at this
 obtain ⟨_,h1,w,rfl,h2,h3⟩:=this
 exact⟨_,h1,w,rfl,fun x h=>by have:=h2 x h; rw [SL.of_l,List.mem_singleton] at this; rw [this]; exact hx,h3⟩
theorem in_of1{a:Int}:(.sl 1 [.int .i64 a] false:AV) =(SL.of [a] (Nat.le_of_ble_eq_true rfl):IL).v:=by rw [← SL.ofe]; rfl
theorem s187(R:Rm)(t:SL En En.v 3)(m:Int)(hR:RmOk R):∃ r,Run Tryz.prog 187 [.rptr R.v 0,t.v,.int .u64 m] r∧∃ a b:IL,∃ c,r=.tup [a.v,b.v,.bool c] ∧(∀ x,x∈a.l→Pl R.n.ports.l x)∧a.l.length≤48∧b.l.length≤48:=by
 have h1:=hR.pos
 have h148:1≤48:=by decide
 have n1:∀ x,x ∈(SL.nil:IL).l→Pl R.n.ports.l x:=fun x h=>absurd h List.not_mem_nil
 have n3:(.tup [.sl 0 [] true,.sl 0 [] true,.bool false]:AV)=.tup [(SL.nil:IL).v,(SL.nil:IL).v,.bool false]:=by rw [← SL.nile]
 have n4:(.tup [.sl 0 [] true,.sl 0 [] true,.bool true]:AV)=.tup [(SL.nil:IL).v,(SL.nil:IL).v,.bool true]:=by rw [← SL.nile]
 refine run_w (c:=c187 true) [.t 6,.t 7,.t 8] 3 (by kernel_rfl) (by kernel_rfl) (Nat.le_refl 3) (by simp only[wd]) ?_
 unfold c187
 repeat' (first
 |simp (disch:=try exact Dj) only[Kj,in_of1,seval,reduceCtorEq]
 |(with_reducible first|apply condC_d|apply gC_d1)<;>intro _
 |with_reducible refine e8 ?_
 |(refine callv_nr (s276 _ _ _) (by simp only[wd,seval,not_false_eq_true]) ?_; rintro _ ⟨i,rfl,hi⟩; all_goals simp only[vl,ts,wb])
 |(refine call_rn (by simp (disch:=try exact Dj) only[Kj,in_of1,wp,seval,reduceCtorEq]; rfl) (by simp (disch:=try exact Dj) only[Kj,in_of1,wp,seval,reduceCtorEq]) (s177' R i hR (by have:=hi (by assumption); grind)) ?_; rintro _ ⟨w,rfl,hw⟩; all_goals simp only[vl,wp,ts,wb])
 |(refine Aj (s277 _ _) ?_;rintro _ ⟨x,_ | _,rfl⟩;all_goals simp only[vl,ts,wb])
 |(refine Aj (s40 _ _) ?_;rintro _ rfl;all_goals simp only[vl,ts,wb])
 |(refine callv_nr (s40 _ _) (by simp only[wd,seval,not_false_eq_true]) ?_; rintro _ rfl; all_goals simp only[vl,ts,wb])
 |(refine call_rn (by simp (disch:=try exact Dj) only[Kj,in_of1,wp,seval,reduceCtorEq]; rfl) (by simp (disch:=try exact Dj) only[Kj,in_of1,wp,seval,reduceCtorEq]) (s177' R x hR (hR.mem x (by assumption))) ?_; rintro _ ⟨w,rfl,hw⟩; all_goals simp only[vl,wp,ts,wb])
 |(refine Fj ?_;first|exact⟨_,_,_,n3,n1,Nat.zero_le _,Nat.zero_le _⟩|exact⟨_,_,_,n4,n1,Nat.zero_le _,Nat.zero_le _⟩|exact⟨_,SL.nil,_,congrArg (fun x=>AV.tup [_,x,_]) SL.nile,hw.1,Nat.le_trans hw.2 h148,Nat.zero_le _⟩|exact⟨SL.nil,_,_,congrArg (fun x=>AV.tup [x,_,_]) SL.nile,n1,Nat.zero_le _,h148⟩|exact e9|fail)
 |(refine fin_o [] ?_;simp (disch:=try exact Dj) only[Kj,in_of1,wh,seval,reduceCtorEq];refine⟨_,rfl,?_,?_⟩;(first|rfl|simp (disch:=try exact Dj) only[Kj,in_of1,wh,seval,reduceCtorEq]);first|exact⟨_,_,_,n3,n1,Nat.zero_le _,Nat.zero_le _⟩|exact⟨_,_,_,n4,n1,Nat.zero_le _,Nat.zero_le _⟩|exact⟨_,SL.nil,_,congrArg (fun x=>AV.tup [_,x,_]) SL.nile,hw.1,Nat.le_trans hw.2 h148,Nat.zero_le _⟩|exact⟨SL.nil,_,_,congrArg (fun x=>AV.tup [x,_,_]) SL.nile,n1,Nat.zero_le _,h148⟩|exact⟨_,rfl⟩|fail)
 |fail)
theorem s176(N:Nt)(u:TL)(d a:Int):∃ r,Run Tryz.prog 176 [N.v,u.v,.int .i64 d,.int .i64 a] r ∧((∃ R:Rm,∃ b,r=.tup [.rptr R.v 0,.bool b]∧RmOk R∧R.n=N∧R.at_=d)∨r=.tup [.lit (.pointer none),.bool false]):=by
 refine run_w (c:=c176 true) [.t 8,.t 9] 4 (by kernel_rfl) (by kernel_rfl) (Nat.le_refl 4) (by simp only[wd]) ?_
 unfold c176
 repeat' (first
 |simp (disch:=try exact Dj) only[Kj,Nt.flat_e,Rm.mk_v,seval,reduceCtorEq]
 |(with_reducible first|apply condC_d|apply gC_d0)<;>intro _
 |with_reducible refine e8 ?_
 |(refine Aj (s72 _) ?_;rintro _ rfl;all_goals simp only[vl,ts,wb])
 |(refine Aj (s257 _ _) ?_;rintro _ ⟨m,rfl,⟨_,hm2⟩,hm3⟩; have hok:RmOk ⟨N,u,d,a,m⟩:=⟨Decidable.of_not_not (by assumption),⟨(by omega:0≤d),(by omega:d < N.doms.l.length)⟩,by show u.l.length=N.links.l.length; omega,fun x h=>(hm2 x h).1,hm3⟩;all_goals simp only[vl,ts,wb])
 |(refine Aj (s40 _ _) ?_;rintro _ rfl;all_goals simp only[vl,ts,wb])
 |(refine Fj ?_;first|exact .inr rfl|exact .inl ⟨⟨N,u,d,a,m⟩,_,rfl,hok,rfl,rfl⟩|exact e9|fail)
 |(refine fin_o [] ?_;simp (disch:=try exact Dj) only[Kj,Nt.flat_e,Rm.mk_v,wh,seval,reduceCtorEq];refine⟨_,rfl,?_,?_⟩;(first|rfl|simp (disch:=try exact Dj) only[Kj,Nt.flat_e,Rm.mk_v,wh,seval,reduceCtorEq]);first|exact .inr rfl|exact .inl ⟨⟨N,u,d,a,m⟩,_,rfl,hok,rfl,rfl⟩|exact⟨_,rfl⟩|fail)
 |fail)
end Go.Proofs
set_option maxHeartbeats 4000000
set_option maxRecDepth 100000
namespace Go.Proofs
open Go Go.Pv Go.Proofs.Tx
variable [Lq]
open W
open Classical
theorem s87(N:Nt)(u:TL)(d a:Int):∃ r,Run Tryz.prog 87 [N.v,u.v,.int .i64 d,.int .i64 a] r∧∃ p q:IL,∃ e,r=.tup [p.v,q.v,.int .i64 e]∧okE e ∧(e=0→Good N∧Pl N.doms.l d):=by
 have ok:∀ e:Int,0≤e∧e < 64→okE e:=fun e h=>h
 have n3:(.tup [.sl 0 [] true,.sl 0 [] true,.int .i64 2]:AV)=.tup [(SL.nil:IL).v,(SL.nil:IL).v,.int .i64 2]:=by rw [← SL.nile]
 refine run_w (c:=c87 true) [.t 8,.t 9,.t 10] 4 (by kernel_rfl) (by kernel_rfl) (Nat.le_refl 4) (by simp only[wd]) ?_
 unfold c87
 simp (disch:=try exact Dj) only[Kj,seval,reduceCtorEq]
 refine Aj (s176 N u d a) ?_
 rintro _ (⟨R,b,rfl,hR,rfl,rfl⟩ | rfl)
 ·cases b
  all_goals simp only[vl,ts,wb]
  ·repeat' (first
 |simp (disch:=try exact Dj) only[Kj,seval,reduceCtorEq]
 |with_reducible refine e8 ?_
 |(refine Fj ?_;first|exact⟨_,_,_,n3,ok _ (by omega),fun h=>absurd h (by decide)⟩|exact e9|fail)
 |fail)
  ·repeat' (first
 |simp (disch:=try exact Dj) only[Kj,seval,reduceCtorEq]
 |with_reducible refine e8 ?_
 |(refine call_rn (by simp (disch:=try exact Dj) only[Kj,wp,seval,reduceCtorEq]; rfl) (by simp (disch:=try exact Dj) only[Kj,wp,seval,reduceCtorEq]) (s177 R _ hR hR.mem (by have:=hR.len; omega)) ?_; rintro _ ⟨w,rfl,hw⟩; all_goals simp only[vl,wp,ts,wb])
 |(refine call_rn (by simp (disch:=try exact Dj) only[Kj,wp,seval,reduceCtorEq]; rfl) (by simp (disch:=try exact Dj) only[Kj,wp,seval,reduceCtorEq]) (s178 R hR) ?_; rintro _ ⟨w2,rfl,hw2⟩; all_goals simp only[vl,wp,ts,wb])
 |(refine Fj ?_;first|exact⟨_,_,_,rfl,ok _ (by omega),fun _=>⟨hR.good,hR.pos⟩⟩|exact e9|fail)
 |fail)
 ·simp only[vl,ts,wb]
  repeat' (first
 |simp (disch:=try exact Dj) only[Kj,seval,reduceCtorEq]
 |with_reducible refine e8 ?_
 |(refine Fj ?_;first|exact⟨_,_,_,n3,ok _ (by omega),fun h=>absurd h (by decide)⟩|exact e9|fail)
 |fail)
theorem s93(N:Nt)(u:TL)(t:SL En En.v 3)(d a m:Int):∃ r,Run Tryz.prog 93 [N.v,u.v,t.v,.int .i64 d,.int .i64 a,.int .u64 m] r∧∃ p q:IL,∃ e,r=.tup [p.v,q.v,.int .i64 e] ∧(∀ x,x∈p.l→Pl N.ports.l x)∧p.l.length≤48∧q.l.length≤48:=by
 have n1:∀ x,x ∈(SL.nil:IL).l→Pl N.ports.l x:=fun x h=>absurd h List.not_mem_nil
 have n3:(.tup [.sl 0 [] true,.sl 0 [] true,.int .i64 2]:AV)=.tup [(SL.nil:IL).v,(SL.nil:IL).v,.int .i64 2]:=by rw [← SL.nile]
 have h40:40≤48:=by decide
 refine run_w (c:=c93 true) [.t 12,.t 13,.t 14] 6 (by kernel_rfl) (by kernel_rfl) (Nat.le_refl 6) (by simp only[wd]) ?_
 unfold c93
 simp (disch:=try exact Dj) only[Kj,seval,reduceCtorEq]
 refine Aj (s176 N u d a) ?_
 rintro _ (⟨R,b,rfl,hR,rfl,rfl⟩ | rfl)
 ·cases b
  all_goals simp only[vl,ts,wb]
  ·repeat' (first
 |simp (disch:=try exact Dj) only[Kj,seval,reduceCtorEq]
 |with_reducible refine e8 ?_
 |(refine Fj ?_;first|exact⟨_,_,_,n3,n1,Nat.zero_le _,Nat.zero_le _⟩|exact e9|fail)
 |fail)
  ·repeat' (first
 |simp (disch:=try exact Dj) only[Kj,seval,reduceCtorEq]
 |with_reducible refine e8 ?_
 |(refine Aj (s83 _) ?_;rintro _ ⟨_ | _,rfl⟩;all_goals simp only[vl,ts,wb])
 |(refine call_rn (by simp (disch:=try exact Dj) only[Kj,wp,seval,reduceCtorEq]; rfl) (by simp (disch:=try exact Dj) only[Kj,wp,seval,reduceCtorEq]) (s187 R _ _ hR) ?_; rintro _ ⟨x,y,_ | _,rfl,hx⟩; all_goals simp only[vl,wp,ts,wb])
 |(refine call_rn (by simp (disch:=try exact Dj) only[Kj,wp,seval,reduceCtorEq]; rfl) (by simp (disch:=try exact Dj) only[Kj,wp,seval,reduceCtorEq]) (s177 R _ hR hR.mem (by have:=hR.len; omega)) ?_; rintro _ ⟨w,rfl,hw⟩; all_goals simp only[vl,wp,ts,wb])
 |(refine call_rn (by simp (disch:=try exact Dj) only[Kj,wp,seval,reduceCtorEq]; rfl) (by simp (disch:=try exact Dj) only[Kj,wp,seval,reduceCtorEq]) (s178 R hR) ?_; rintro _ ⟨w2,rfl,hw2⟩; all_goals simp only[vl,wp,ts,wb])
 |(refine Fj ?_;first|exact⟨_,_,_,rfl,hx⟩|exact⟨_,_,_,rfl,fun x h=>hR.mem x (hw.1 x h),Nat.le_trans hw.2 (Nat.le_trans hR.len h40),hw2⟩|exact e9|fail)
 |fail)
 ·simp only[vl,ts,wb]
  repeat' (first
 |simp (disch:=try exact Dj) only[Kj,seval,reduceCtorEq]
 |with_reducible refine e8 ?_
 |(refine Fj ?_;first|exact⟨_,_,_,n3,n1,Nat.zero_le _,Nat.zero_le _⟩|exact e9|fail)
 |fail)
end Go.Proofs
