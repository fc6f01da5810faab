/- Part 22 of a proof that a step of one domain changes nothing of another: the machine of plain values, and what the program's functions do. -/
import Derived.Test.YtdgcdnnmodnkjaaGreatDoorG21
set_option linter.all false
set_option linter.unusedVariables false
set_option linter.unusedSectionVars false
set_option linter.unusedSimpArgs false
set_option linter.defProp false
set_option maxHeartbeats 4000000
set_option maxRecDepth 100000
namespace Go.Proofs
open Go Go.Pv
variable [Lq]
section
variable {α:Type} {enc:α→AV} {sz lm:Nat} {ty:TypeId} {z:AV} {f:FuncId} {fn:Func} {c:Code}
theorem clR(hf:Tryz.prog.funcs[f]?=some fn)(hb:fn.body=some c)(hr:rvsOk Tryz.prog [.t 2] fn.results.toList=true)(hc:bareC (cloneC sz ty lm z)=comp Tryz.prog c)(ho:okC fn.ntmps false (cloneC sz ty lm z)=true)(hn:1≤fn.ntmps)
  (he:∀ x:α,(enc x).nr1=true) (u:SL α enc sz) (hl:u.l.length≤lm):∃ r,Run Tryz.prog f [u.v] r∧r =(SL.of u.l u.n:SL α enc sz).v:=by
 refine⟨_,?_,rfl⟩
 rw [SL.e u,← SL.ofe]
 exact clone_okS progOk hf hb hr hc ho hn (by rcases u.h with h | h <;> simp [h]) (by simpa using hl) (by simp [he])
theorem clO(hf:Tryz.prog.funcs[f]?=some fn)(hb:fn.body=some c)(hr:rvsOk Tryz.prog [.t 2] fn.results.toList=true)(hc:bareC (cloneC sz ty lm z)=comp Tryz.prog c)(ho:okC fn.ntmps false (cloneC sz ty lm z)=true)(hn:1≤fn.ntmps)
  (he:∀ x:α,(enc x).nr1=true) (u:SL α enc sz) (hl:u.l.length≤lm):∃ r,Run Tryz.prog f [u.v] r∧r=.own sz ty (u.l.map enc):=by
 refine⟨_,?_,rfl⟩
 rw [SL.e u]
 refine clone_ok progOk hf hb hr hc ho hn _ _ ?_
 have h1:(Nat.beq u.z sz || (u.l.map enc).isEmpty)=true:=by rcases u.h with h | h <;> simp [h]
 have h2:(Nat.ble (u.l.map enc).length lm && (u.l.map enc).all AV.nr1)=true:=by simp [he]; exact hl
 simp only[cloneR,h1,h2,Bool.and_self,cond_true]
end
theorem r25(u:TL):∃ r,Run Tryz.prog 25 [u.v] r∧r =(SL.of u.l u.n:TL).v:=clR (lm:=140737488355328) (ty:=4) (z:=(.bool false)) Tryz.func25 rfl (by kernel_rfl) (by kernel_rfl) (by kernel_rfl) (by decide) (fun _=>rfl) u u.n
theorem r27(u:SL En En.v 3)(h:u.l.length≤1000000000):∃ r,Run Tryz.prog 27 [u.v] r∧r =(SL.of u.l u.n:SL En En.v 3).v:=clR (lm:=1000000000) (ty:=111) (z:=(.agg [(.int .u64 0),(.int .i64 0),(.int .i64 0)])) Tryz.func27 rfl (by kernel_rfl) (by kernel_rfl) (by kernel_rfl) (by decide) En.nr1 u h
theorem o27(u:SL En En.v 3)(h:u.l.length≤1000000000):∃ r,Run Tryz.prog 27 [u.v] r∧r=.own 3 111 (u.l.map En.v):=clO (lm:=1000000000) (z:=(.agg [(.int .u64 0),(.int .i64 0),(.int .i64 0)])) Tryz.func27 rfl (by kernel_rfl) (by kernel_rfl) (by kernel_rfl) (by decide) En.nr1 u h
theorem o41(u:SL Dv Dv.v 5)(h:u.l.length≤1000000000):∃ r,Run Tryz.prog 41 [u.v] r∧r=.own 5 133 (u.l.map Dv.v):=clO (lm:=1000000000) (z:=(.agg [(.int .i64 0),(.int .i64 0),(.str []),(.int .u64 0),(.int .u32 0)])) Tryz.func41 rfl (by kernel_rfl) (by kernel_rfl) (by kernel_rfl) (by decide) Dv.nr1 u h
theorem o42(u:SL Pt Pt.v 7)(h:u.l.length≤1000000000):∃ r,Run Tryz.prog 42 [u.v] r∧r=.own 7 136 (u.l.map Pt.v):=clO (lm:=1000000000) (z:=(.agg [(.int .i64 0),(.int .i64 0),(.int .i64 0),(.int .i64 0),(.int .i64 0),(.str []),(.sl 0 [] true)])) Tryz.func42 rfl (by kernel_rfl) (by kernel_rfl) (by kernel_rfl) (by decide) Pt.nr1 u h
theorem o43(u:SL Lk Lk.v 3)(h:u.l.length≤1000000000):∃ r,Run Tryz.prog 43 [u.v] r∧r=.own 3 129 (u.l.map Lk.v):=clO (lm:=1000000000) (z:=(.agg [(.int .i64 0),(.int .i64 0),(.int .i64 0)])) Tryz.func43 rfl (by kernel_rfl) (by kernel_rfl) (by kernel_rfl) (by decide) Lk.nr1 u h
theorem o44(u:SL Dm Dm.v 6)(h:u.l.length≤1000000000):∃ r,Run Tryz.prog 44 [u.v] r∧r=.own 6 140 (u.l.map Dm.v):=clO (lm:=1000000000) (z:=(.agg [(.int .i64 0),(.int .i64 0),(.int .i64 0),(.int .i64 0),(.int .i64 0),(.sl 0 [] true)])) Tryz.func44 rfl (by kernel_rfl) (by kernel_rfl) (by kernel_rfl) (by decide) Dm.nr1 u h
theorem o45(u:SL Sc Sc.v 4)(h:u.l.length≤1000000000):∃ r,Run Tryz.prog 45 [u.v] r∧r=.own 4 143 (u.l.map Sc.v):=clO (lm:=1000000000) (z:=(.agg [(.int .i64 0),(.int .i64 0),(.int .i64 0),(.int .u64 0)])) Tryz.func45 rfl (by kernel_rfl) (by kernel_rfl) (by kernel_rfl) (by decide) Sc.nr1 u h
theorem o46(u:SL Fl Fl.v 4)(h:u.l.length≤1000000000):∃ r,Run Tryz.prog 46 [u.v] r∧r=.own 4 146 (u.l.map Fl.v):=clO (lm:=1000000000) (z:=(.agg [(.int .i64 0),(.int .i64 0),(.int .i64 0),(.sl 0 [] true)])) Tryz.func46 rfl (by kernel_rfl) (by kernel_rfl) (by kernel_rfl) (by decide) Fl.nr1 u h
theorem o47(u:SL Vf Vf.v 5)(h:u.l.length≤1000000000):∃ r,Run Tryz.prog 47 [u.v] r∧r=.own 5 149 (u.l.map Vf.v):=clO (lm:=1000000000) (z:=(.agg [(.int .i64 0),(.int .i64 0),(.str []),(.sl 0 [] true),(.sl 0 [] true)])) Tryz.func47 rfl (by kernel_rfl) (by kernel_rfl) (by kernel_rfl) (by decide) Vf.nr1 u h
theorem o48(u:SL Ib Ib.v 5)(h:u.l.length≤1000000000):∃ r,Run Tryz.prog 48 [u.v] r∧r=.own 5 154 (u.l.map Ib.v):=clO (lm:=1000000000) (z:=(.agg [(.int .i64 0),(.int .i64 0),(.int .i64 0),(.int .u32 0),(.int .i64 0)])) Tryz.func48 rfl (by kernel_rfl) (by kernel_rfl) (by kernel_rfl) (by decide) Ib.nr1 u h
theorem r49(u:IL)(h:u.l.length≤1000000000):∃ r,Run Tryz.prog 49 [u.v] r∧r =(SL.of u.l u.n:IL).v:=clR (lm:=1000000000) (ty:=3) (z:=(.int .i64 0)) Tryz.func49 rfl (by kernel_rfl) (by kernel_rfl) (by kernel_rfl) (by decide) (fun _=>rfl) u h
theorem o49(u:IL)(h:u.l.length≤1000000000):∃ r,Run Tryz.prog 49 [u.v] r∧r=.own 1 3 (u.l.map (AV.int .i64)):=clO (lm:=1000000000) (z:=(.int .i64 0)) Tryz.func49 rfl (by kernel_rfl) (by kernel_rfl) (by kernel_rfl) (by decide) (fun _=>rfl) u h
theorem r50(u:UL)(h:u.l.length≤1000000000):∃ r,Run Tryz.prog 50 [u.v] r∧r =(SL.of u.l u.n:UL).v:=clR (lm:=1000000000) (ty:=68) (z:=(.int .u32 0)) Tryz.func50 rfl (by kernel_rfl) (by kernel_rfl) (by kernel_rfl) (by decide) (fun _=>rfl) u h
theorem r173(u:BL):∃ r,Run Tryz.prog 173 [u.v] r∧r =(SL.of u.l u.n:BL).v:=clR (lm:=140737488355328) (ty:=5) (z:=(.int .u8 0)) Tryz.func173 rfl (by kernel_rfl) (by kernel_rfl) (by kernel_rfl) (by decide) (fun _=>rfl) u u.n
end Go.Proofs
namespace Go.Proofs
open Go Go.Pv Go.Proofs.Tx
variable [Lq]
open W
def Ki:=And.intro @wk <| And.intro @wq <| And.intro @wz <| And.intro @zd <| And.intro @mk <| And.intro @bz <| @tt
theorem Di{p:Prop}(h:p:=by first | assumption | omega | (simp only[wd,zl,wq,wz,zd,mk,bz,tt]; done) | (simp only[List.length_append,List.length_set,List.length_cons,List.length_nil,List.length_map,List.length_take,List.length_drop,List.length_replicate]; omega) | fail):p:=h
theorem Ai{P:Program}{f:FuncId}{args:List AV}{hp:Hp}{E:AV→Hp→Prop}{Q:AV→Prop}{dr fm:Bool}{no:List TypeId}(h:∃ r,Run P f args r∧Q r)(hk:∀ r,Q r→vLay r hp E)(hn:args.all AV.nr1=true:=by first | (simp only[wd,wq,wz,zd,mk,bz,tt]; done) | fail):wCall P f args hp dr fm no E:=call_nr h hn hk
theorem Fi{hp:Hp}{x:AV}{Q:AV→Prop}(h:Q x)(hn:nrR x=true:=by first | (simp only[wd,wq,wz,zd,mk,bz,tt]; done) | fail):fin (some x) Q hp:=fin_nr hn h
end Go.Proofs
set_option maxHeartbeats 4000000
set_option maxRecDepth 100000
namespace Go.Proofs
open Go Go.Pv Go.Proofs.Tx
variable [Lq]
open W
open Classical
theorem s100(n:Int):∃ r,Run Tryz.prog 100 [.int .i64 n] r∧r=.bool (decide (0≤n∧n≤1099511627776)):=by
 refine run_w (c:=c100 true) [.t 2] 1 (by kernel_rfl) (by kernel_rfl) (Nat.le_refl 1) (by simp only[wd]) ?_
 unfold c100
 repeat' (first
 |simp (disch:=try exact Di) only[Ki,seval,reduceCtorEq]
 |(with_reducible apply gC_d1)<;>intro _
 |with_reducible refine e8 ?_
 |(refine Fi ?_;first|exact e9|fail)
 |fail)
theorem s179(n:Int):∃ r,Run Tryz.prog 179 [.int .u64 n] r∧∃ b,r=.bool b:=by
 refine run_w (c:=c179 true) [.t 2] 1 (by kernel_rfl) (by kernel_rfl) (Nat.le_refl 1) (by simp only[wd]) ?_
 unfold c179
 repeat' (first
 |simp (disch:=try exact Di) only[Ki,seval,reduceCtorEq]
 |(with_reducible apply gC_d1)<;>intro _
 |with_reducible refine e8 ?_
 |(refine Ai (s83 _) ?_;rintro _ ⟨_ | _,rfl⟩;all_goals simp only[vl,ts,wb])
 |(refine Fi ?_;first|exact e9|fail)
 |fail)
theorem s180(u:SL En En.v 3)(m:Int):∃ r,Run Tryz.prog 180 [u.v,.int .u64 m] r∧∃ i,r=.int .i64 i∧IsIdx (fun e:En=>e.mac=m) u.l i:=by
 refine run_w (c:=c180 true) [.t 4] 2 (by kernel_rfl) (by kernel_rfl) (Nat.le_refl 2) (by simp only[wd]) ?_
 unfold c180
 repeat' (first
 |simp (disch:=try exact Di) only[Ki,seval,reduceCtorEq]
 |with_reducible refine e8 ?_
 |(refine call_rn (by simp (disch:=try exact Di) only[Ki,wp,seval,reduceCtorEq]; rfl) (by simp (disch:=try exact Di) only[Ki,wp,seval,reduceCtorEq]) (s198 _ (k261 m)) ?_; rintro _ ⟨i,rfl,hi⟩; all_goals simp only[vl,wp,ts,wb])
 |(refine Fi ?_;first|exact⟨_,rfl,hi⟩|exact e9|fail)
 |fail)
theorem s88(u:SL En En.v 3):∃ r,Run Tryz.prog 88 [u.v] r∧∃ b,r=.bool b ∧(b=true→u.l.length≤8):=by
 have hu:=u.n
 refine run_w (c:=c88 true) [.t 2] 1 (by kernel_rfl) (by kernel_rfl) (Nat.le_refl 1) (by simp only[wd]) ?_
 unfold c88
 simp (disch:=try exact Di) only[Ki,seval,reduceCtorEq]
 refine condC_d (fun h8=>?_) (fun h8=>?_)
 ·repeat' (first
 |simp (disch:=try exact Di) only[Ki,seval,reduceCtorEq]
 |(with_reducible first|apply condC_d|apply gC_d0)<;>intro _
 |with_reducible refine e8 ?_
 |(refine Fi ?_;first|(refine⟨_,rfl,fun h=>absurd h Bool.false_ne_true⟩)|exact e9|fail)
 |fail)
 ·simp (disch:=try exact Di) only[Ki,seval,reduceCtorEq]
  refine d_lo (fun k:Nat=>⟨[(0,u.v),(8,u.v),(9,.int .i64 u.l.length),(10,.int .i64 k)],[]⟩) (fun k=>k≤u.l.length) (fun k=>u.l.length - k) ?_ ?_
  ·simp (disch:=try exact Di) only[Ki,seval,reduceCtorEq]
   exact⟨0,rfl,by omega⟩
  rintro k hk
  unfold c88b0
  repeat' (first
 |simp (disch:=try exact Di) only[Ki,seval,reduceCtorEq]
 |(with_reducible first|apply condC_d|apply gC_d0)<;>intro _
 |with_reducible refine e8 ?_
 |(refine Ai (s179 _) ?_;rintro _ ⟨_ | _,rfl⟩;all_goals simp only[vl,ts,wb])
 |(refine Ai (s100 _) ?_;rintro _ rfl;all_goals simp only[vl,ts,wb])
 |(refine Ai (s180 _ _) ?_;rintro _ ⟨i,rfl,hi⟩;all_goals simp only[vl,ts,wb])
 |(refine⟨k+1,rfl,?_,?_⟩ <;> omega)
 |(refine Fi ?_;first|(refine⟨_,rfl,fun h=>absurd h Bool.false_ne_true⟩)|(refine⟨_,rfl,fun _=>?_⟩; omega)|exact e9|fail)
 |fail)
theorem s262(u:SL En En.v 3)(h:0 < u.l.length):∃ r,Run Tryz.prog 262 [u.v] r∧∃ i,r=.int .i64 i∧Pl u.l i:=by
 have hu:=u.n
 refine run_w (c:=c262 true) [.t 2] 1 (by kernel_rfl) (by kernel_rfl) (Nat.le_refl 1) (by simp only[wd]) ?_
 unfold c262
 simp (disch:=try exact Di) only[Ki,seval,reduceCtorEq]
 refine d_lo (fun p:Nat × Nat=>⟨[(0,u.v),(3,.int .i64 p.2),(6,u.v),(7,.int .i64 u.l.length),(8,.int .i64 p.1)],[]⟩) (fun p=>p.1≤u.l.length∧p.2 < u.l.length) (fun p=>u.l.length - p.1) ?_ ?_
 ·simp (disch:=try exact Di) only[Ki,seval,reduceCtorEq]
  exact⟨(0,0),rfl,by simp only; omega⟩
 rintro ⟨k,j⟩ ⟨hk,hj⟩
 simp only at hk hj ⊢
 unfold c262b0
 repeat' (first
 |simp (disch:=try exact Di) only[Ki,seval,reduceCtorEq]
 |(with_reducible apply condC_d)<;>intro _
 |with_reducible refine e8 ?_
 |(refine⟨(k+1,_),rfl,?_,?_⟩ <;> simp only <;> omega)
 |(refine Fi ?_;first|(refine⟨_,rfl,?_⟩; omega)|exact e9|fail)
 |fail)
theorem s277(u:SL En En.v 3)(m:Int):∃ r,Run Tryz.prog 277 [u.v,.int .u64 m] r∧∃ w b,r=.tup [.int .i64 w,.bool b]:=by
 refine run_w (c:=c277 true) [.t 4,.t 5] 2 (by kernel_rfl) (by kernel_rfl) (Nat.le_refl 2) (by simp only[wd]) ?_
 unfold c277
 repeat' (first
 |simp (disch:=try exact Di) only[Ki,seval,reduceCtorEq]
 |(with_reducible apply condC_d)<;>intro _
 |with_reducible refine e8 ?_
 |(refine Ai (s180 _ _) ?_;rintro _ ⟨i,rfl,hi⟩; have hi':=hi.lt;all_goals simp only[vl,ts,wb])
 |(refine Fi ?_;first|exact⟨_,_,rfl⟩|exact e9|fail)
 |fail)
theorem En.eqS{C:AV→Prop}{x y:En}:vP (.eqS true [0,0,0] (.c x.v) (.c y.v)) C=C (.bool (decide (¬ x=y))):=by
 have e:(!((x.mac == y.mac) && ((x.wh == y.wh) && ((x.seen == y.seen) && true))))=decide (¬ x=y):=by
  obtain ⟨a,b,c⟩:=x
  obtain ⟨a',b',c'⟩:=y
  simp only[En.mk.injEq]
  by_cases h1:a=a' <;> by_cases h2:b=b' <;> by_cases h3:c=c' <;> simp [h1,h2,h3]
 rw [En.e,En.e,v_eqS (b:=(x.mac == y.mac) && ((x.wh == y.wh) && ((x.seen == y.seen) && true))) rfl,if_pos rfl,e]
theorem ext_nth{α:Type}[Inhabited α]{l m:List α}(h:l.length=m.length)(h2:∀ j,j < l.length→nth l j=nth m j):l=m:=by
 refine List.ext_getElem h fun j h3 h4=>?_
 have e1:=nth_get h3
 have e2:=nth_get h4
 rw [List.getElem?_eq_getElem h3] at e1
 rw [List.getElem?_eq_getElem h4] at e2
 have:=h2 j h3
 rw [Option.some.inj e1,Option.some.inj e2,this]
theorem s29(u w:SL En En.v 3):∃ r,Run Tryz.prog 29 [u.v,w.v] r∧r=.bool (decide (u.l=w.l)):=by
 have hu:=u.n
 have hw:=w.n
 refine run_w (c:=c29 true) [.t 4] 2 (by kernel_rfl) (by kernel_rfl) (Nat.le_refl 2) (by simp only[wd]) ?_
 unfold c29
 simp (disch:=try exact Di) only[Ki,seval,reduceCtorEq]
 refine condC_d (fun hne=>?_) (fun he=>?_)
 ·repeat' (first
 |simp (disch:=try exact Di) only[Ki,seval,reduceCtorEq]
 |(with_reducible apply condC_d)<;>intro _
 |with_reducible refine e8 ?_
 |(refine Fi ?_;first|(refine bd_f ?_; exact fun h=>hne (by rw [h]))|exact e9|fail)
 |fail)
 ·simp (disch:=try exact Di) only[Ki,seval,reduceCtorEq]
  refine d_lo (fun k:Nat=>⟨[(0,u.v),(1,w.v),(12,.int .i64 u.l.length),(13,.int .i64 k)],[]⟩) (fun k=>k≤u.l.length∧∀ j,j < k→nth u.l j=nth w.l j) (fun k=>u.l.length - k) ?_ ?_
  ·simp (disch:=try exact Di) only[Ki,seval,reduceCtorEq]
   exact⟨0,rfl,by omega,fun j hj=>by omega⟩
  rintro k ⟨hk,hall⟩
  unfold c29b0
  have hT:¬((k:Int) <(u.l.length:Int))→u.l=w.l:=fun h=>ext_nth (by omega) fun j hj=>hall j (by omega)
  repeat' (first
 |simp (disch:=try exact Di) only[Ki,En.eqS,seval,reduceCtorEq]
 |(with_reducible apply condC_d)<;>intro _
 |with_reducible refine e8 ?_
 |(refine Fi ?_;first|(refine bd_t (hT ?_); assumption)|(refine bd_f ?_; rename_i h1 h2; exact fun h=>h2 (by rw [h]))|exact e9|fail)
 |fail)
  rename_i h1 h2
  refine⟨k+1,rfl,⟨by omega,fun j hj=>?_⟩,by omega⟩
  by_cases e:j=k
  ·rw [e]; exact Classical.not_not.1 h2
  ·exact hall j (by omega)
theorem s12(u w:SL En En.v 3):∃ r,Run Tryz.prog 12 [u.v,w.v] r∧r=.bool (decide (u.l=w.l)):=by
 refine run_w (c:=c12 true) [.t 4] 2 (by kernel_rfl) (by kernel_rfl) (Nat.le_refl 2) (by simp only[wd]) ?_
 unfold c12
 repeat' (first
 |simp (disch:=try exact Di) only[Ki,seval,reduceCtorEq]
 |with_reducible refine e8 ?_
 |(refine Ai (s29 _ _) ?_;rintro _ rfl;all_goals simp only[vl,ts,wb])
 |(refine Fi ?_;first|exact e9|fail)
 |fail)
end Go.Proofs
namespace Go.Pv
section
variable {E:AV→Hp→Prop} {hp:Hp} {base:Nat} {r:Option Nat} {C:AV→Prop}
theorem e_app_in{ty:TypeId}{sz lm id n:Nat}{y:AV}{es ys:List AV}(h1:szOk sz y=true)(h2:elems hp y=some ys)(h3:ent hp id=some ⟨ty,es,true⟩)(h4:n+ys.length≤es.length)(h5:n < es.length)
  (hk:E (.vec id sz 0 (n+ys.length)) (hp.set id (some ⟨ty,es.take n ++(ys ++ es.drop (n+ys.length)),true⟩))):vOE (evE base r [] hp (.append ty sz lm (.c (.vec id sz 0 n)) (.c y))) E:=by
 show vOE (if szOk sz y=true then(elems hp y).bind fun ys=>(ent hp id).bind fun e=>if e.wr∧sz=sz∧ty=e.ty∧0=0∧n=e.es.length∧n+ys.length≤lm then
    newVec base r (hp.set id (some { e with es:=[],wr:=false })) sz ty (e.es ++ ys) else if e.wr∧sz=sz∧ty=e.ty∧0=0∧n+ys.length≤e.es.length then
    some (.vec id sz 0 (n+ys.length),hp.set id (some { e with es:=e.es.take n ++(ys ++ e.es.drop (n+ys.length)) })) else none else none) E
 rw [if_pos h1,h2,h3,Option.bind_some,Option.bind_some,if_neg (by intro h; have:=h.2.2.2.2.1; simp only at this; omega),if_pos ⟨rfl,rfl,rfl,rfl,h4⟩]
 exact hk
theorem e_clear{ty:TypeId}{sz id off n:Nat}{z:AV}{es:List AV}(h3:ent hp id=some ⟨ty,es,true⟩)(h4:off+n≤es.length)
  (hk:E .undef (hp.set id (some ⟨ty,es.take off ++(List.replicate n z ++ es.drop (off+n)),true⟩))):vOE (evE base r [] hp (.clear sz z (.c (.vec id sz off n)))) E:=by
 show vOE ((ent hp id).bind fun e=>if e.wr∧sz=sz∧off+n≤e.es.length then
    some (.undef,hp.set id (some { e with es:=e.es.take off ++(List.replicate n z ++ e.es.drop (off+n)) })) else none) E
 rw [h3,Option.bind_some,if_pos ⟨rfl,rfl,h4⟩]
 exact hk
theorem v_ve3{sz z id off n:Nat}{k k' k'':IntKind}{l h m:Int}:vP (.slicev sz (.c (.vec id z off n)) (some (.c (.int k l))) (some (.c (.int k' h))) (some (.c (.int k'' m)))) C =(sz=z ∧(0≤l∧l≤h∧h≤m∧m≤n)∧C .undef):=by
 simp only[vP,evP,AX.ev,Option.map_some,boundO,bound_some]
 by_cases h1:sz=z
 ·rw [if_pos h1]
  by_cases h2:0≤m∧m≤n
  ·rw [if_pos h2,Option.bind_some]
   simp only[Option.bind_some,bound_some]
   by_cases h3:0≤h∧h≤m.toNat
   ·rw [if_pos h3,Option.bind_some]
    by_cases h4:0≤l∧l≤h.toNat
    ·rw [if_pos h4]
     have:0≤l∧l≤h∧h≤m∧m≤n:=by omega
     simp [h1,this,vO]
    ·rw [if_neg h4]
     have:¬(0≤l∧l≤h∧h≤m∧m≤n):=by omega
     simp [this,vO]
   ·rw [if_neg h3]
    have:¬(0≤l∧l≤h∧h≤m∧m≤n):=by omega
    simp [this,vO]
  ·rw [if_neg h2]
   have:¬(0≤l∧l≤h∧h≤m∧m≤n):=by omega
   simp [this,vO]
 ·rw [if_neg h1]; simp [h1,vO]
theorem v_cutv{sz id n:Nat}{ty:TypeId}{es:List AV}{k k':IntKind}{l h:Int}(h3:ent hp id=some ⟨ty,es,true⟩)(h0:(n:Int) < h)(h1:h≤es.length)(h2:0≤l∧l≤h)(hc:C (.vec id sz l.toNat (h.toNat - l.toNat))):vO (evR [] hp (.cut sz (.c (.vec id sz 0 n)) (.c (.int k l)) (.c (.int k' h)))) C:=by
 have e1:evP [] (.slicev sz (.c (.vec id sz 0 n)) (some (.c (.int k l))) (some (.c (.int k' h))) none)=none:=by
  simp only[evP,AX.ev,Option.map_some,boundO,bound_some,if_true]
  rw [if_neg (by omega)]; rfl
 have e2:evR [] hp (.cut sz (.c (.vec id sz 0 n)) (.c (.int k l)) (.c (.int k' h)))=some (.vec id sz l.toNat (h.toNat - l.toNat)):=by
  simp only[evR,e1,AX.ev,h3,Option.bind_some,bound_some]
  rw [if_pos (by simp),if_pos (by omega),Option.bind_some,if_pos (by omega)]; rfl
 rw [e2]; exact hc
end
def wi:=And.intro @v_ve3 <| @v_ve3
end Go.Pv
namespace Go.Proofs
open Go Go.Pv Go.Proofs.Tx
variable [Lq]
open W
def Kj:=And.intro @wk <| And.intro @wq <| And.intro @wz <| And.intro @zd <| And.intro @mk <| And.intro @bz <| And.intro @tt <| @wi
theorem Dj{p:Prop}(h:p:=by first | assumption | omega | (simp only[wd,zl,wq,wz,zd,mk,bz,tt,wi]; done) | (simp only[List.length_append,List.length_set,List.length_cons,List.length_nil,List.length_map,List.length_take,List.length_drop,List.length_replicate]; omega) | fail):p:=h
theorem Aj{P:Program}{f:FuncId}{args:List AV}{hp:Hp}{E:AV→Hp→Prop}{Q:AV→Prop}{dr fm:Bool}{no:List TypeId}(h:∃ r,Run P f args r∧Q r)(hk:∀ r,Q r→vLay r hp E)(hn:args.all AV.nr1=true:=by first | (simp only[wd,wq,wz,zd,mk,bz,tt,wi]; done) | fail):wCall P f args hp dr fm no E:=call_nr h hn hk
theorem Fj{hp:Hp}{x:AV}{Q:AV→Prop}(h:Q x)(hn:nrR x=true:=by first | (simp only[wd,wq,wz,zd,mk,bz,tt,wi]; done) | fail):fin (some x) Q hp:=fin_nr hn h
end Go.Proofs
set_option maxHeartbeats 4000000
set_option maxRecDepth 100000
namespace Go.Proofs
open Go Go.Pv Go.Proofs.Tx
variable [Lq]
open W
open Classical
theorem s263(l:List En)(hl:l.length≤1000)(i:Nat)(hi:i < l.length):∃ r,Run Tryz.prog 263 [.own 3 111 (l.map En.v),.int .i64 i,.int .i64 (i+1)] r∧∃ m:List En,r=.own 3 111 (m.map En.v)∧m.length+1=l.length:=by
 refine rv [.t 6] 3 (by kernel_rfl) rfl (Nat.le_refl 3) ?_
 rw [shal_eq,show cod Tryz.prog true [] 263=c263 true from by kernel_rfl]
 unfold c263
 have i1:∀(l:List En) hp,(l.map En.v).flatMap (idsOf hp 5)=[]:=fun l hp=>ids_map En.pl
 have i2:∀(l:List En) r,(l.map En.v).map (renX r 6)=l.map En.v:=fun l r=>ren_map En.pl
 have i3:∀(l:List En) hp,mapO (snap hp 6) (l.map En.v)=some (l.map En.v):=fun l hp=>mapO_map En.nr1
 have i4:∀(l:List En) hp,(l.map En.v).flatMap (rows hp 6)=[]:=fun l hp=>rows_map En.nr1
 simp (disch:=try exact Dj) only[Kj,entry,vl,List.zipIdx_cons,List.zipIdx_nil,seval,reduceCtorEq]
 refine⟨by omega,by omega,by omega,?_⟩
 rw [Nat.sub_zero]
 have hn:((i:Int)+1).toNat=i+1:=by omega
 rw [hn]
 refine e_app_in (ys:=(l.drop (i+1)).map En.v) rfl ?_ rfl ?_ ?_ ?_
 ·rw [elems_vec]
  show(if i+1 +(l.length - (i+1)) ≤(l.map En.v).length then _ else none)=_
  rw [if_pos (by simp; omega),← List.map_drop,List.take_of_length_le (by simp)]
 ·simp; omega
 ·simp; omega
 obtain ⟨m,hm,hml⟩:∃ m:List En,(l.map En.v).take i ++((l.drop (i+1)).map En.v ++(l.map En.v).drop (i +((l.drop (i+1)).map En.v).length))=m.map En.v∧m.length=l.length:=by
  refine⟨l.take i ++(l.drop (i+1) ++ l.drop (i +(l.drop (i+1)).length)),by simp [List.map_take,List.map_drop],by simp; omega⟩
 rw [hm]
 have hn2:i +((l.drop (i+1)).map En.v).length=l.length - 1:=by simp; omega
 rw [hn2]
 simp (disch:=try exact Dj) only[Kj,i1,i2,seval,reduceCtorEq]
 refine v_cutv (es:=m.map En.v) (ty:=111) rfl (by omega) (by simp; omega) (by omega) ?_
 simp (disch:=try exact Dj) only[Kj,seval,reduceCtorEq]
 refine e_clear (ty:=111) (es:=m.map En.v) rfl (by simp; omega) ?_
 obtain ⟨m2,hm2,hml2⟩:∃ m2:List En,(m.map En.v).take (l.length - 1) ++(List.replicate (l.length - (l.length - 1)) (default:En).v ++(m.map En.v).drop ((l.length - 1) +(l.length - (l.length - 1))))=m2.map En.v∧m2.length=l.length:=by
  refine⟨m.take (l.length - 1) ++(List.replicate (l.length - (l.length - 1)) default ++ m.drop ((l.length - 1) +(l.length - (l.length - 1)))),by simp [List.map_take,List.map_drop],by simp; omega⟩
 have h5:((m2.take (l.length - 1)).map En.v) =(m2.map En.v).take (l.length - 1):=by rw [List.map_take]
 have h6:(m2.take (l.length - 1)).length+1=l.length:=by simp; omega
 rw [hm2]
 repeat' (first
 |simp (disch:=try exact Dj) only[Kj,i3,i4,← h5,seval,reduceCtorEq]
 |with_reducible refine e8 ?_
 |(refine fin_o [[.own 3 111]] ?_;simp (disch:=try exact Dj) only[Kj,i3,i4,← h5,wo,seval,reduceCtorEq];refine⟨_,rfl,?_,?_⟩;(first|rfl|simp (disch:=try exact Dj) only[Kj,i3,i4,← h5,wo,seval,reduceCtorEq]);first|exact⟨m2.take (l.length - 1),rfl,h6⟩|exact⟨_,rfl⟩|fail)
 |fail)
theorem en_set{l:List En}{i:Nat}{x:En}:(l.map En.v).set i x.v =(l.set i x).map En.v:=by rw [List.map_set]
theorem en_sn{l:List En}{x:En}:l.map En.v ++ [x.v] =(l ++ [x]).map En.v:=by simp
theorem en_of{l:List En}(n:l.length≤140737488355328):(.sl 3 (l.map En.v) false:AV) =(SL.of l n:SL En En.v 3).v:=SL.ofe
theorem lcf{hp:Hp}{g:FuncId}{cs:List AV}:layC hp (.fn g cs) =(.fn g cs,hp):=rfl
theorem s262'(l:List En)(hl:l.length≤1000)(h:0 < l.length):∃ r,Run Tryz.prog 262 [.sl 3 (l.map En.v) false] r∧∃ i,r=.int .i64 i∧Pl l i:=by
 have:=s262 (SL.of l (by omega)) h
 rwa [← SL.ofe] at this
theorem s181(u:SL En En.v 3)(m w n:Int)(hu:u.l.length≤1000):∃ r,Run Tryz.prog 181 [u.v,.int .u64 m,.int .i64 w,.int .i64 n] r∧∃ x:SL En En.v 3,r=x.v∧x.l.length≤max u.l.length 8:=by
 have i3:∀(l:List En) hp,mapO (snap hp 6) (l.map En.v)=some (l.map En.v):=fun l hp=>mapO_map En.nr1
 have i4:∀(l:List En) hp,(l.map En.v).flatMap (rows hp 6)=[]:=fun l hp=>rows_map En.nr1
 have i5:∀(l:List En) hp,mapO (snap hp 5) (l.map En.v)=some (l.map En.v):=fun l hp=>mapO_map En.nr1
 have i6:∀(l:List En) hp,(l.map En.v).flatMap (rows hp 5)=[]:=fun l hp=>rows_map En.nr1
 refine run_w (c:=c181 true) [.t 8] 4 (by kernel_rfl) (by kernel_rfl) (Nat.le_refl 4) (by simp only[wd]) ?_
 unfold c181
 repeat' (first
 |simp (disch:=try exact Dj) only[Kj,en_of,en_set,en_sn,take_map_all,i3,i4,i5,i6,seval,reduceCtorEq]
 |(with_reducible apply condC_d)<;>intro _
 |with_reducible refine e8 ?_
 |with_reducible refine e_app_vec ?_
 |(refine Aj (o27 _ (by omega)) ?_;rintro _ rfl;all_goals simp only[vl,ts,wb])
 |(refine Aj (s88 _) ?_;rintro _ ⟨_ | _,rfl,hb⟩; all_goals (try replace hb:=hb rfl);all_goals simp only[vl,ts,wb])
 |(refine Aj (s179 _) ?_;rintro _ ⟨_ | _,rfl⟩;all_goals simp only[vl,ts,wb])
 |(refine Aj (s100 _) ?_;rintro _ rfl;all_goals simp only[vl,ts,wb])
 |(refine Aj (s180 _ _) ?_;rintro _ ⟨i,rfl,hi⟩; have hi':=hi.lt;all_goals simp only[vl,ts,wb])
 |(refine call_pl (by simp (disch:=try exact Dj) only[Kj,en_of,en_set,en_sn,take_map_all,i3,i4,i5,i6,wp,seval,reduceCtorEq]; rfl) (by simp (disch:=try exact Dj) only[Kj,en_of,en_set,en_sn,take_map_all,i3,i4,i5,i6,wp,seval,reduceCtorEq]) (s262' u.l hu (by omega)) (by rintro _ ⟨j,rfl,hj⟩ <;> rfl) ?_; rintro _ ⟨j,rfl,hj⟩; obtain ⟨k,rfl⟩:=Int.eq_ofNat_of_zero_le hj.1; all_goals simp only[vl,wp,ts,wb])
 |(refine call_ms [.own 3 111] (by simp (disch:=try exact Dj) only[Kj,en_of,en_set,en_sn,take_map_all,i3,i4,i5,i6,wo,wp,seval,reduceCtorEq]; rfl) (by simp (disch:=try exact Dj) only[Kj,en_of,en_set,en_sn,take_map_all,i3,i4,i5,i6,wo,wp,seval,reduceCtorEq]) (s263 u.l hu k (by have:=hj.2; omega)) ?_; rintro _ ⟨m2,rfl,hm2⟩; all_goals simp only[vl,wp,ts,wb])
 |(refine fin_o [] ?_;simp (disch:=try exact Dj) only[Kj,en_of,en_set,en_sn,take_map_all,i3,i4,i5,i6,wh,seval,reduceCtorEq];refine⟨_,rfl,?_,?_⟩;(first|rfl|simp (disch:=try exact Dj) only[Kj,en_of,en_set,en_sn,take_map_all,i3,i4,i5,i6,wh,seval,reduceCtorEq]);first|(refine⟨_,rfl,?_⟩; simp only[SL.of_l,List.length_append,List.length_cons,List.length_nil,List.length_set]; omega)|exact⟨_,rfl⟩|fail)
 |fail)
theorem s102(e:En)(n:Int)(hn:0≤n∧n≤1099511627776):∃ r,Run Tryz.prog 102 [e.v,.rptr (.int .i64 n) 0] r∧r=.bool (decide (e.seen < n - 4)):=by
 refine run_w (c:=c102 true) [.t 3] 2 (by kernel_rfl) (by kernel_rfl) (Nat.le_refl 2) (by simp only[wd]) ?_
 unfold c102
 repeat' (first
 |simp (disch:=try exact Dj) only[Kj,seval,reduceCtorEq]
 |with_reducible refine e8 ?_
 |(refine Fj ?_;first|exact e9|fail)
 |fail)
theorem k102(n:Int)(hn:0≤n∧n≤1099511627776){u:List En}:Clo En En.v (fun e=>e.seen < n - 4) u 102 [.rptr (.int .i64 n) 0]:=clo_of fun e=>s102 e n hn
theorem s101(l:List En)(hl:l.length≤1000){g:FuncId}{caps:List AV}{φ:En→Prop}(h:∀ l,Clo En En.v φ l g caps):∃ r,Run Tryz.prog 101 [.own 3 111 (l.map En.v),.fn g caps] r∧∃ m:List En,r=.own 3 111 (m.map En.v)∧m.length≤l.length:=by
 have hg:=(h l).lt
 have hnr:=(h l).nr
 refine rv [.t 4] 2 (by kernel_rfl) rfl (Nat.le_refl 2) ?_
 rw [shal_eq,show cod Tryz.prog true [] 101=c101 true from by kernel_rfl]
 unfold c101
 have i1:∀(l:List En) hp,(l.map En.v).flatMap (idsOf hp 5)=[]:=fun l hp=>ids_map En.pl
 have i2:∀(l:List En) r,(l.map En.v).map (renX r 6)=l.map En.v:=fun l r=>ren_map En.pl
 have i3:∀(l:List En) hp,mapO (snap hp 6) (l.map En.v)=some (l.map En.v):=fun l hp=>mapO_map En.nr1
 have i4:∀(l:List En) hp,(l.map En.v).flatMap (rows hp 6)=[]:=fun l hp=>rows_map En.nr1
 have i5:∀(l:List En) hp,mapO (snap hp 5) (l.map En.v)=some (l.map En.v):=fun l hp=>mapO_map En.nr1
 have i6:∀(l:List En) hp,(l.map En.v).flatMap (rows hp 5)=[]:=fun l hp=>rows_map En.nr1
 have ci:∀ hp n,caps.flatMap (idsOf hp (n+2))=[]:=fun hp n=>capI hnr
 have cr:∀ l n,caps.map (renX l (n+2))=caps:=fun l n=>capR hnr
 have cs:∀ hp n,mapO (snap hp (n+2)) caps=some caps:=fun hp n=>mapO_id fun x hx=>snap_nr1 (List.all_eq_true.1 hnr x hx)
 have cw:∀ hp n,caps.flatMap (rows hp (n+2))=[]:=fun hp n=>by rw [List.flatMap_eq_nil_iff]; exact fun x hx=>rows_nr1 (List.all_eq_true.1 hnr x hx)
 have h198:=s198 (SL.of l (by omega)) (h l)
 rw [← SL.ofe] at h198
 simp (disch:=try exact Dj) only[Kj,entry,vl,List.zipIdx_cons,List.zipIdx_nil,lcf,seval,reduceCtorEq]
 refine call_pl (by simp (disch:=try exact Dj) only[Kj,wp,i3,i4,i5,i6,cs,cw,map_take_len,seval,reduceCtorEq]; rfl) (by simp (disch:=try exact Dj) only[Kj,wp,seval,reduceCtorEq]) h198 (by rintro _ ⟨i,rfl,hi⟩; rfl) ?_
 rintro _ ⟨i,rfl,hi⟩
 have hi':=hi.lt
 simp only[SL.of_l] at hi'
 simp only[vl,ts,wb]
 simp (disch:=try exact Dj) only[Kj,seval,reduceCtorEq]
 refine condC_d (fun h1=>?_) (fun h1=>?_)
 ·repeat' (first
 |simp (disch:=try exact Dj) only[Kj,i3,i4,map_take_len,seval,reduceCtorEq]
 |(with_reducible apply condC_d)<;>intro _
 |with_reducible refine e8 ?_
 |(refine fin_o [[.own 3 111]] ?_;simp (disch:=try exact Dj) only[Kj,i3,i4,map_take_len,wo,seval,reduceCtorEq];refine⟨_,rfl,?_,?_⟩;(first|rfl|simp (disch:=try exact Dj) only[Kj,i3,i4,map_take_len,wo,seval,reduceCtorEq]);first|exact⟨_,rfl,Nat.le_refl _⟩|exact⟨_,rfl⟩|fail)
 |fail)
 ·obtain ⟨a,rfl⟩:=Int.eq_ofNat_of_zero_le (a:=i) (by omega)
  simp (disch:=try exact Dj) only[Kj,seval,reduceCtorEq]
  refine d_lo (fun p:Nat × Nat × List En=>⟨[(0,.vec 0 3 0 l.length),(1,.fn g caps),(5,.int .i64 p.1),(6,.int .i64 p.2.1)],[some ⟨111,p.2.2.map En.v,true⟩]⟩) (fun p=>p.1 < p.2.1∧p.2.1≤l.length∧p.2.2.length=l.length) (fun p=>l.length - p.2.1) ?_ ?_
  ·simp (disch:=try exact Dj) only[Kj,i1,i2,ci,cr,seval,reduceCtorEq]
   exact⟨(a,a+1,l),by simp,Nat.lt_succ_self _,by show a+1≤l.length; omega,rfl⟩
  rintro ⟨x,y,m⟩ ⟨hx,hy,hm⟩
  simp only at hx hy hm ⊢
  unfold c101b0
  simp (disch:=try exact Dj) only[Kj,seval,reduceCtorEq]
  refine condC_d (fun h2=>?_) (fun h2=>?_)
  ·simp (disch:=try exact Dj) only[Kj,seval,reduceCtorEq]
   refine⟨by omega,by omega,?_⟩
   obtain ⟨_,hr,b,rfl,hb⟩:=(h m).run _ (nth_mem (l:=m) (k:=y) (by omega))
   refine callv_nr (Q:=fun r=>r=.bool b) ⟨_,hr,rfl⟩ (fnA_nr (by simp only[wd]) hnr) ?_ hg
   rintro _ rfl
   simp only[vl]
   cases b
   ·repeat' (first
 |simp (disch:=try exact Dj) only[Kj,en_set,i1,i2,ci,cr,seval,reduceCtorEq]
 |(with_reducible apply condC_d)<;>intro _
 |with_reducible refine e8 ?_
 |(refine⟨(x+1,y+1,_),rfl,⟨?_,?_,?_⟩,?_⟩ <;> simp only[List.length_set] <;> omega)
 |(refine fin_o [] ?_;simp (disch:=try exact Dj) only[Kj,en_set,i1,i2,ci,cr,wh,seval,reduceCtorEq];refine⟨_,rfl,?_,?_⟩;(first|rfl|simp (disch:=try exact Dj) only[Kj,en_set,i1,i2,ci,cr,wh,seval,reduceCtorEq]);first|exact⟨_,rfl⟩|fail)
 |fail)
   ·repeat' (first
 |simp (disch:=try exact Dj) only[Kj,en_set,i1,i2,ci,cr,seval,reduceCtorEq]
 |(with_reducible apply condC_d)<;>intro _
 |with_reducible refine e8 ?_
 |(refine⟨(x,y+1,_),rfl,⟨?_,?_,?_⟩,?_⟩ <;> simp only <;> omega)
 |(refine fin_o [] ?_;simp (disch:=try exact Dj) only[Kj,en_set,i1,i2,ci,cr,wh,seval,reduceCtorEq];refine⟨_,rfl,?_,?_⟩;(first|rfl|simp (disch:=try exact Dj) only[Kj,en_set,i1,i2,ci,cr,wh,seval,reduceCtorEq]);first|exact⟨_,rfl⟩|fail)
 |fail)
  ·obtain ⟨m2,hm2,hml2⟩:∃ m2:List En,(m.map En.v).take x ++(List.replicate (l.length - x) (default:En).v ++(m.map En.v).drop (x +(l.length - x)))=m2.map En.v∧m2.length=l.length:=by
    refine⟨m.take x ++(List.replicate (l.length - x) default ++ m.drop (x +(l.length - x))),by simp [List.map_take,List.map_drop],by simp; omega⟩
   simp (disch:=try exact Dj) only[Kj,seval,reduceCtorEq]
   refine⟨by omega,?_⟩
   refine e_clear (ty:=111) (es:=m.map En.v) rfl (by simp; omega) ?_
   rw [hm2]
   have h5:((m2.take x).map En.v) =(m2.map En.v).take x:=by rw [List.map_take]
   have h6:(m2.take x).length≤l.length:=by simp; omega
   repeat' (first
 |simp (disch:=try exact Dj) only[Kj,i3,i4,← h5,Nat.sub_zero,seval,reduceCtorEq]
 |(with_reducible apply condC_d)<;>intro _
 |with_reducible refine e8 ?_
 |(refine fin_o [[.own 3 111]] ?_;simp (disch:=try exact Dj) only[Kj,i3,i4,← h5,Nat.sub_zero,wo,seval,reduceCtorEq];refine⟨_,rfl,?_,?_⟩;(first|rfl|simp (disch:=try exact Dj) only[Kj,i3,i4,← h5,Nat.sub_zero,wo,seval,reduceCtorEq]);first|exact⟨m2.take x,rfl,h6⟩|exact⟨_,rfl⟩|fail)
 |fail)
theorem s57(u:SL En En.v 3)(n:Int)(hu:u.l.length≤1000):∃ r,Run Tryz.prog 57 [u.v,.int .i64 n] r∧∃ x:SL En En.v 3,r=x.v∧x.l.length≤u.l.length:=by
 have i3:∀(l:List En) hp,mapO (snap hp 6) (l.map En.v)=some (l.map En.v):=fun l hp=>mapO_map En.nr1
 have i4:∀(l:List En) hp,(l.map En.v).flatMap (rows hp 6)=[]:=fun l hp=>rows_map En.nr1
 have i5:∀(l:List En) hp,mapO (snap hp 5) (l.map En.v)=some (l.map En.v):=fun l hp=>mapO_map En.nr1
 have i6:∀(l:List En) hp,(l.map En.v).flatMap (rows hp 5)=[]:=fun l hp=>rows_map En.nr1
 refine run_w (c:=c57 true) [.t 4] 2 (by kernel_rfl) (by kernel_rfl) (Nat.le_refl 2) (by simp only[wd]) ?_
 unfold c57
 repeat' (first
 |simp (disch:=try exact Dj) only[Kj,en_of,en_set,en_sn,take_map_all,i3,i4,i5,i6,seval,reduceCtorEq]
 |(with_reducible apply condC_d)<;>intro _
 |with_reducible refine e8 ?_
 |(refine Aj (o27 _ (by omega)) ?_;rintro _ rfl;all_goals simp only[vl,ts,wb])
 |(refine Aj (s88 _) ?_;rintro _ ⟨_ | _,rfl,hb⟩;all_goals simp only[vl,ts,wb])
 |(refine Aj (s100 _) ?_;rintro _ rfl;all_goals simp only[vl,ts,wb])
 |(refine call_ms [.own 3 111] (by simp (disch:=try exact Dj) only[Kj,en_of,en_set,en_sn,take_map_all,i3,i4,i5,i6,wo,wp,seval,reduceCtorEq]; rfl) (by simp (disch:=try exact Dj) only[Kj,en_of,en_set,en_sn,take_map_all,i3,i4,i5,i6,wo,wp,seval,reduceCtorEq]) (s101 u.l hu (fun l=>k102 n (Decidable.of_not_not (by assumption)))) ?_; rintro _ ⟨m2,rfl,hm2⟩; all_goals simp only[vl,wp,ts,wb])
 |(refine fin_o [] ?_;simp (disch:=try exact Dj) only[Kj,en_of,en_set,en_sn,take_map_all,i3,i4,i5,i6,wh,seval,reduceCtorEq];refine⟨_,rfl,?_,?_⟩;(first|rfl|simp (disch:=try exact Dj) only[Kj,en_of,en_set,en_sn,take_map_all,i3,i4,i5,i6,wh,seval,reduceCtorEq]);first|(refine⟨_,rfl,?_⟩; simp only[SL.of_l,List.length_append,List.length_cons,List.length_nil,List.length_set]; omega)|exact⟨_,rfl⟩|fail)
 |fail)
end Go.Proofs
namespace Go.Proofs
open Go Go.Pv Go.Proofs.Tx
variable [Lq]
open W
def Kf:=And.intro @wk <| And.intro @wy <| And.intro @wq <| And.intro @wz <| And.intro @zd <| And.intro @mk <| @bz
theorem Df{p:Prop}(h:p:=by first | assumption | omega | (simp only[wd,zl,wy,wq,wz,zd,mk,bz]; done) | (simp only[List.length_append,List.length_set,List.length_cons,List.length_nil,List.length_map,List.length_take,List.length_drop,List.length_replicate]; omega) | fail):p:=h
theorem Af{P:Program}{f:FuncId}{args:List AV}{hp:Hp}{E:AV→Hp→Prop}{Q:AV→Prop}{dr fm:Bool}{no:List TypeId}(h:∃ r,Run P f args r∧Q r)(hk:∀ r,Q r→vLay r hp E)(hn:args.all AV.nr1=true:=by first | (simp only[wd,wy,wq,wz,zd,mk,bz]; done) | fail):wCall P f args hp dr fm no E:=call_nr h hn hk
theorem Ff{hp:Hp}{x:AV}{Q:AV→Prop}(h:Q x)(hn:nrR x=true:=by first | (simp only[wd,wy,wq,wz,zd,mk,bz]; done) | fail):fin (some x) Q hp:=fin_nr hn h
end Go.Proofs
set_option maxHeartbeats 4000000
set_option maxRecDepth 100000
namespace Go.Proofs
open Go Go.Pv Go.Proofs.Tx
variable [Lq]
open W
open Classical
theorem s34n(m:Int):∃ r,Run Tryz.prog 34 [.own 1 5 [],.int .u64 m] r∧∃ bs:List UInt8,r=.own 1 5 (bs.map bv)∧bs.length=6:=s34 [] m (Nat.zero_le _)
theorem s15(f:Fm):∃ r,Run Tryz.prog 15 [f.v] r∧∃ b:BL,∃ e,r=.tup [b.v,.int .i64 e] ∧(0≤e∧e < 64)∧b.l.length≤1518:=by
 refine run_w (c:=c15 true) [.t 2,.t 3] 1 (by kernel_rfl) (by kernel_rfl) (Nat.le_refl 1) (by simp only[wd]) ?_
 unfold c15
 have hu:=f.body.n
 repeat' (first
 |simp (disch:=try exact Df) only[Kf,take_map_all,bl_of,seval,reduceCtorEq]
 |(with_reducible first|apply condC_d|apply gC_d0)<;>intro _
 |with_reducible refine e8 ?_
 |with_reducible refine e_app_vec ?_
 |(refine call_msd [.own 1 5] (by simp (disch:=try exact Df) only[Kf,take_map_all,bl_of,wo,wp,seval,reduceCtorEq]; rfl) (by simp (disch:=try exact Df) only[Kf,take_map_all,bl_of,wo,wp,seval,reduceCtorEq]) (s34n _) ?_; rintro _ ⟨bs,rfl,hbs⟩; all_goals simp only[vl,wp,ts,wb])
 |(refine callv_ms [.own 1 5] (by simp (disch:=try exact Df) only[Kf,take_map_all,bl_of,wo,wp,seval,reduceCtorEq]; rfl) (by simp (disch:=try exact Df) only[Kf,take_map_all,bl_of,wo,wp,seval,reduceCtorEq]) (by first | exact Nat.le_refl _ | simp) (s34 bs _ (by omega)) ?_; rintro _ ⟨cs,rfl,hcs⟩; all_goals simp only[vl,wp,ts,wb])
 |(refine Ff ?_;first|(refine⟨SL.nil,_,congrArg (fun x=>AV.tup [x,_]) SL.nile,by omega,Nat.zero_le _⟩)|(refine⟨_,_,rfl,by omega,?_⟩; simp only[SL.of_l,List.length_append,List.length_cons,List.length_nil]; omega)|exact e9|fail)
 |(refine fin_o [] ?_;simp (disch:=try exact Df) only[Kf,take_map_all,bl_of,wh,seval,reduceCtorEq];refine⟨_,rfl,?_,?_⟩;(first|rfl|simp (disch:=try exact Df) only[Kf,take_map_all,bl_of,wh,seval,reduceCtorEq]);first|(refine⟨SL.nil,_,congrArg (fun x=>AV.tup [x,_]) SL.nile,by omega,Nat.zero_le _⟩)|(refine⟨_,_,rfl,by omega,?_⟩; simp only[SL.of_l,List.length_append,List.length_cons,List.length_nil]; omega)|exact⟨_,rfl⟩|fail)
 |fail)
theorem s82(f:Fm):∃ r,Run Tryz.prog 82 [f.v] r∧∃ g:Fm,∃ a b e,r=.tup [g.v,.int .i64 a,.int .i64 b,.int .i64 e] ∧(0≤e∧e < 64)∧g.body.l.length≤f.body.l.length:=by
 refine run_w (c:=c82 true) [.c 2 4 true,.t 3,.t 4,.t 5] 1 (by kernel_rfl) (by kernel_rfl) (Nat.le_refl 1) (by simp only[wd]) ?_
 unfold c82
 have hu:=f.body.n
 have hd:∀ n,(SL.drop f.body n).l.length≤f.body.l.length:=fun n=>by simp [SL.drop]
 repeat' (first
 |simp (disch:=try exact Df) only[Kf,seval,reduceCtorEq]
 |(with_reducible apply condC_d)<;>intro _
 |with_reducible refine e8 ?_
 |(refine Af (s81 _) ?_;rintro _ rfl;all_goals simp only[vl,ts,wb])
 |(refine Af (r173 _) ?_;rintro _ rfl;all_goals simp only[vl,ts,wb])
 |(refine Ff ?_;first|(refine⟨_,_,_,_,rfl,by omega,Nat.zero_le _⟩)|(refine⟨_,_,_,_,rfl,by omega,hd _⟩)|exact e9|fail)
 |fail)
theorem s278(f:Fm)(a b:Int):∃ r,Run Tryz.prog 278 [f.v,.int .i64 a,.int .i64 b] r∧∃ g:Fm,∃ e,r=.tup [g.v,.int .i64 e] ∧(0≤e∧e < 64):=by
 refine run_w (c:=c278 true) [.c 6 4 true,.t 7] 3 (by kernel_rfl) (by kernel_rfl) (Nat.le_refl 3) (by simp only[wd]) ?_
 unfold c278
 have hu:=f.body.n
 repeat' (first
 |simp (disch:=try exact Df) only[Kf,take_map_all,bl_of4,seval,reduceCtorEq]
 |(with_reducible first|apply condC_d|apply gC_d0)<;>intro _
 |with_reducible refine e8 ?_
 |with_reducible refine e_app_vec ?_
 |(refine Af (s81 _) ?_;rintro _ rfl;all_goals simp only[vl,ts,wb])
 |(refine Ff ?_;first|(refine⟨_,_,rfl,by omega⟩)|exact e9|fail)
 |(refine fin_o [] ?_;simp (disch:=try exact Df) only[Kf,take_map_all,bl_of4,wh,seval,reduceCtorEq];refine⟨_,rfl,?_,?_⟩;(first|rfl|simp (disch:=try exact Df) only[Kf,take_map_all,bl_of4,wh,seval,reduceCtorEq]);first|(refine⟨_,_,rfl,by omega⟩)|exact⟨_,rfl⟩|fail)
 |fail)
theorem s191(N:Nt)(f:Fm)(a:Int):∃ r,Run Tryz.prog 191 [N.v,f.v,.int .i64 a] r∧∃ b:BL,∃ e,r=.tup [b.v,.int .i64 e] ∧(0≤e∧e < 64)∧b.l.length≤1518:=by
 refine run_w (c:=c191 true) [.t 6,.t 7] 3 (by kernel_rfl) (by kernel_rfl) (Nat.le_refl 3) (by simp only[wd]) ?_
 unfold c191
 repeat' (first
 |simp (disch:=try exact Df) only[Kf,seval,reduceCtorEq]
 |with_reducible refine e8 ?_
 |(refine Af (s15 _) ?_;rintro _ ⟨b,e,rfl,he,hb⟩;all_goals simp only[vl,ts,wb])
 |(refine Ff ?_;first|(refine⟨_,_,rfl,he,hb⟩)|exact e9|fail)
 |fail)
theorem s189(N:Nt)(f:Fm)(a:Int):∃ r,Run Tryz.prog 189 [N.v,f.v,.int .i64 a] r∧∃ b:BL,∃ e,r=.tup [b.v,.int .i64 e] ∧(0≤e∧e < 64)∧b.l.length≤1518:=by
 refine run_w (c:=c189 true) [.t 6,.t 7] 3 (by kernel_rfl) (by kernel_rfl) (Nat.le_refl 3) (by simp only[wd]) ?_
 unfold c189
 repeat' (first
 |simp (disch:=try exact Df) only[Kf,seval,reduceCtorEq]
 |(with_reducible apply condC_d)<;>intro _
 |with_reducible refine e8 ?_
 |(refine Af (s278 _ _ _) ?_;rintro _ ⟨g,e,rfl,he⟩;all_goals simp only[vl,ts,wb])
 |(refine Af (s15 _) ?_;rintro _ ⟨b,e,rfl,he,hb⟩;all_goals simp only[vl,ts,wb])
 |(refine Ff ?_;first|(refine⟨_,_,rfl,he,hb⟩)|(refine⟨SL.nil,_,congrArg (fun x=>AV.tup [x,_]) SL.nile,by omega,Nat.zero_le _⟩)|exact e9|fail)
 |fail)
end Go.Proofs
namespace Go.Proofs
open Go Go.Pv Go.Proofs.Tx
variable [Lq]
open W
def Kd:=And.intro @wk <| And.intro @wy <| And.intro @wq <| @wz
theorem Dd{p:Prop}(h:p:=by first | assumption | omega | (simp only[wd,zl,wy,wq,wz]; done) | fail):p:=h
theorem Ad{P:Program}{f:FuncId}{args:List AV}{hp:Hp}{E:AV→Hp→Prop}{Q:AV→Prop}{dr fm:Bool}{no:List TypeId}(h:∃ r,Run P f args r∧Q r)(hk:∀ r,Q r→vLay r hp E)(hn:args.all AV.nr1=true:=by first | (simp only[wd,wy,wq,wz]; done) | fail):wCall P f args hp dr fm no E:=call_nr h hn hk
theorem Fd{hp:Hp}{x:AV}{Q:AV→Prop}(h:Q x)(hn:nrR x=true:=by first | (simp only[wd,wy,wq,wz]; done) | fail):fin (some x) Q hp:=fin_nr hn h
end Go.Proofs
