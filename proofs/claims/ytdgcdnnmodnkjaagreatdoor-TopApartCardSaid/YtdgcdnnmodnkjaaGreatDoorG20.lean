/- Part 20 of a proof that a step of one domain changes nothing of another: the machine of plain values, and what the program's functions do. -/
import Derived.Test.YtdgcdnnmodnkjaaGreatDoorG19
set_option linter.all false
set_option linter.unusedVariables false
set_option linter.unusedSectionVars false
set_option linter.unusedSimpArgs false
set_option linter.defProp false
set_option maxHeartbeats 4000000
set_option maxRecDepth 100000
namespace Go.Proofs
open Go Go.Pv Go.Proofs.Tx
variable [Lq]
open W
open Classical
theorem good_mem{N:Nt}(h:Good N){k v:Int}(hk:Pl N.ports.l k)(hm:Mem (nth N.ports.l k.toNat) v):HasD N (nth N.ports.l k.toNat).dev v:=by
 obtain ⟨h1,h2,h3,h4,h5,h6,h7,h8,h9⟩:=h.ports k.toNat (by omega)
 rcases hm with ⟨h0,rfl | hm⟩
 ·exact h8 (by omega)
 ·obtain ⟨a,ha,rfl⟩:=nth_of hm
  exact h7 a ha
theorem fnd_has{N:Nt}{a b i:Int}(h:Fnd N (fun d:Dm=>d.dev=a∧d.vlan=b) N.doms.l i)(hg:Good N):0≤i↔HasD N a b:=by
 rcases h with ⟨_,h⟩ | ⟨h,_⟩
 ·exact h.nn
 ·exact absurd hg h
theorem s320(N:Nt)(p v:Int):∃ r,Run Tryz.prog 320 [N.v,.int .i64 p,.int .i64 v] r∧∃ f t b,r=.tup [.int .i64 f,.int .i64 t,.bool b] ∧(b=true→Good N∧Pl N.ports.l p∧Pl N.ports.l f∧Mem (nth N.ports.l p.toNat) v∧Mem (nth N.ports.l f.toNat) t):=by
 refine run_w (c:=c320 true) [.t 6,.t 7,.t 8] 3 (by kernel_rfl) (by kernel_rfl) (Nat.le_refl 3) (by simp only[wd]) ?_
 unfold c320
 have h0:∀ q:Pt,Mem q v→v≠0:=fun q h=>h.1
 have h1:∀ q:Pt,q.native≠0→Mem q q.native:=fun q h=>⟨h,.inl rfl⟩
 have h2:∀ q:Pt,v≠0→v∈q.tagged.l→Mem q v:=fun q h h'=>⟨h,.inr h'⟩
 repeat' (first
 |simp (disch:=try exact Da) only[Ka,seval,reduceCtorEq]
 |(with_reducible first|apply condC_d|apply gC_d0)<;>intro _
 |with_reducible refine e8 ?_
 |(refine Aa (s195 _ _) ?_;rintro _ ⟨f,rfl,hf⟩;all_goals simp only[vl,ts,wb])
 |(refine Aa (s190 _ _) ?_;rintro _ rfl;all_goals simp only[vl,ts,wb])
 |(refine Aa (s40 _ _) ?_;rintro _ rfl;all_goals simp only[vl,ts,wb])
 |(refine Fa ?_;first|exact⟨_,_,_,rfl,fun h=>absurd h Bool.false_ne_true⟩|(refine⟨_,_,_,rfl,fun _=>?_⟩; grind)|exact e9|fail)
 |fail)
theorem s238(N:Nt)(p v:Int):∃ r,Run Tryz.prog 238 [N.v,.int .i64 p,.int .i64 v] r∧∃ d b,r=.tup [.int .i64 d,.bool b] ∧(b=true→Good N∧Pl N.doms.l d∧Pl N.ports.l p∧Mem (nth N.ports.l p.toNat) v):=by
 refine run_w (c:=c238 true) [.t 6,.t 7] 3 (by kernel_rfl) (by kernel_rfl) (Nat.le_refl 3) (by simp only[wd]) ?_
 unfold c238
 repeat' (first
 |simp (disch:=try exact Da) only[Ka,forall_const,seval,reduceCtorEq]
 |with_reducible refine e8 ?_
 |(refine Aa (s320 _ _ _) ?_;rintro _ ⟨f,t,_ | _,rfl,hf⟩;all_goals simp only[vl,ts,wb])
 |(refine callv_nr (s85 _ _ _) (by simp only[wd,seval,not_false_eq_true]) ?_; rintro _ ⟨d,rfl,hd⟩; all_goals simp only[vl,ts,wb])
 |(refine Fa ?_;first|exact⟨_,_,rfl,fun h=>absurd h Bool.false_ne_true⟩|(refine⟨_,_,rfl,fun _=>?_⟩; obtain ⟨g1,g2,g3,g4,g5⟩:=hf rfl; have this_1:=(fnd_has hd g1).2 (good_mem g1 g3 g5); have:=hd.lt; refine⟨g1,⟨this_1,?_⟩,g2,g4⟩; omega)|exact e9|fail)
 |fail)
theorem fin_o{hp:Hp}{x:AV}{Q:AV→Prop}(ms:List (List Pv.Mode))(h:∃ p,hand hp ms x=some p∧liveB p.2.1 p.2.2=true∧Q p.1):fin (some x) Q hp:=by
 obtain ⟨⟨r,H1,l⟩,h1,h2,h3⟩:=h
 exact⟨x,rfl,r,ms,H1,l,h1,h2,h3⟩
def MemP(N:Nt)(d x:Int):Prop:=Pl N.ports.l x ∧(nth N.ports.l x.toNat).dev =(nth N.doms.l d.toNat).dev∧Mem (nth N.ports.l x.toNat) (nth N.doms.l d.toNat).vlan
theorem s257(N:Nt)(d:Int):∃ r,Run Tryz.prog 257 [N.v,.int .i64 d] r∧∃ u:IL,r=u.v ∧((u.l=[]∨Good N∧Pl N.doms.l d)∧∀ x,x∈u.l→MemP N d x)∧u.l.length≤40:=by
 refine run_w (c:=c257 true) [.t 4] 2 (by kernel_rfl) (by kernel_rfl) (Nat.le_refl 2) (by simp only[wd]) ?_
 unfold c257
 have hu:=N.ports.n
 repeat' (first
 |simp (disch:=try exact Da) only[Ka,seval,reduceCtorEq]
 |(with_reducible first|apply condC_d|apply gC_d0|apply gC_d1)<;>intro _
 |with_reducible refine e8 ?_
 |with_reducible refine e_app_vec ?_
 |(refine Aa (s72 _) ?_;rintro _ rfl;all_goals simp only[vl,ts,wb])
 |(refine Aa (s247 _ _) ?_;rintro _ rfl;all_goals simp only[vl,ts,wb])
 |(refine Fa ?_;first|(refine⟨SL.nil,SL.nile,⟨.inl rfl,fun x hx=>absurd hx List.not_mem_nil⟩,Nat.zero_le _⟩)|exact e9|fail)
 |(refine fin_o [] ?_;simp (disch:=try exact Da) only[Ka,wh,seval,reduceCtorEq];refine⟨_,rfl,?_,?_⟩;(first|rfl|simp (disch:=try exact Da) only[Ka,wh,seval,reduceCtorEq]);first|(refine⟨SL.nil,SL.nile,⟨.inl rfl,fun x hx=>absurd hx List.not_mem_nil⟩,Nat.zero_le _⟩)|exact⟨_,rfl⟩|fail)
 |fail)
 rename_i hg hd
 have hg:=Decidable.of_not_not hg
 have hd:=Decidable.of_not_not hd
 have h40:=hg.few.2.1
 refine d_lo (fun p:Nat × List Int=>⟨[(1,.int .i64 d),(2,.eptr 0 0 0),(5,.vec 1 1 0 p.2.length),(19,N.ports.v),(20,.int .i64 N.ports.l.length),(21,.int .i64 p.1)],[some ⟨40,[N.v],true⟩,some ⟨3,p.2.map (AV.int .i64),true⟩]⟩) (fun p=>p.1≤N.ports.l.length∧p.2.length≤p.1∧∀ x,x∈p.2→MemP N d x) (fun p=>N.ports.l.length - p.1) ?_ ?_
 ·simp (disch:=try exact Da) only[Ka,seval,reduceCtorEq]
  exact⟨(0,[]),rfl,by simp⟩
 rintro ⟨k,out⟩ ⟨hk,ho,hall⟩
 simp only at hk ho hall ⊢
 unfold c257b0
 repeat' (first
 |simp (disch:=try exact Da) only[Ka,seval,reduceCtorEq]
 |(with_reducible first|apply condC_d|apply gC_d0|apply gC_d1)<;>intro _
 |with_reducible refine e8 ?_
 |with_reducible refine e_app_vec ?_
 |(refine callv_nr (s190 _ _) (by simp only[wd,seval,not_false_eq_true]) ?_; rintro _ rfl; all_goals simp only[vl,ts,wb])
 |(refine Fa ?_;first|(refine⟨SL.of out (by omega),SL.ofe,⟨.inr ⟨hg,hd⟩,hall⟩,?_⟩; rw [SL.of_l]; omega)|exact e9|fail)
 |(refine fin_o [] ?_;simp (disch:=try exact Da) only[Ka,wh,seval,reduceCtorEq];refine⟨_,rfl,?_,?_⟩;(first|rfl|simp (disch:=try exact Da) only[Ka,wh,seval,reduceCtorEq]);first|(refine⟨SL.of out (by omega),SL.ofe,⟨.inr ⟨hg,hd⟩,hall⟩,?_⟩; rw [SL.of_l]; omega)|exact⟨_,rfl⟩|fail)
 |fail)
 all_goals (try (refine⟨(k+1,out),rfl,⟨?_,?_,hall⟩,?_⟩ <;> simp only <;> omega))
 refine⟨(k+1,out ++ [(k:Int)]),by simp,⟨by simp only; omega,by simp; omega,fun x hx=>?_⟩,by simp only; omega⟩
 rcases List.mem_append.1 hx with hx | hx
 ·exact hall x hx
 ·rw [List.mem_singleton.1 hx]; exact⟨⟨by omega,by omega⟩,by simpa using (by assumption),by simpa using (by assumption)⟩
end Go.Proofs
namespace Go.Pv
def toB(a:Int):UInt8:=UInt8.ofNat (a % 256).toNat
theorem bv_toB(a:Int):AV.int .u8 (IntKind.u8.wrap a)=bv (toB a):=by
 rw [wrap_u8]
 unfold bv toB
 have h1:=Int.emod_nonneg a (by decide:(256:Int)≠0)
 have h2:=Int.emod_lt_of_pos a (by decide:(0:Int) < 256)
 have e:(UInt8.ofNat (a % 256).toNat).toNat =(a % 256).toNat:=by
  rw [UInt8.toNat_ofNat']; omega
 rw [e]; congr 1; omega
section
variable {C:AV→Prop} {k:IntKind} {a:Int} {b c:UInt8} {o:BinOp} {x:AV} {l:List UInt8}
theorem v_cvb:vP (.convI k (.c (bv b))) C=C (.int k (k.wrap b.toNat)):=(rfl)
theorem v_bbx:vP (.bin o (.c (bv b)) (.c x)) C=vP (.bin o (.c (.int .u8 b.toNat)) (.c x)) C:=(rfl)
theorem bv_stc:stc (bv b)=true:=rfl
theorem bv_one:(bv b).one=true:=rfl
theorem bv_nr1:(bv b).nr1=true:=rfl
theorem bv_pl:(bv b).pl=true:=rfl
theorem bv_cl:cells (bv b) 0 1 false=some (bv b):=rfl
theorem bv_s1:l.map bv ++ [bv b] =(l ++ [b]).map bv:=by simp
theorem bv_s2:l.map bv ++ [bv b,bv c] =(l ++ [b,c]).map bv:=by simp
theorem ids_bv{hp:Hp}{n:Nat}:(l.map bv).flatMap (idsOf hp (n+1))=[]:=by
 rw [List.flatMap_eq_nil_iff]; intro x hx; obtain ⟨y,_,rfl⟩:=List.mem_map.1 hx; rfl
theorem ren_bv{r:List Nat}{n:Nat}:(l.map bv).map (renX r (n+1))=l.map bv:=by
 rw [List.map_map]; apply List.map_congr_left; intro x _; rfl
theorem snap_bv{hp:Hp}{n:Nat}:mapO (snap hp (n+1)) (l.map bv)=some (l.map bv):=mapO_id fun x hx=>by obtain ⟨y,_,rfl⟩:=List.mem_map.1 hx; rfl
theorem rows_bv{hp:Hp}{n:Nat}:(l.map bv).flatMap (rows hp (n+1))=[]:=by
 rw [List.flatMap_eq_nil_iff]; intro x hx; obtain ⟨y,_,rfl⟩:=List.mem_map.1 hx; rfl
end
theorem bv_mod{a:Int}:AV.int .u8 (a % 256)=bv (toB a):=by rw [← wrap_u8,bv_toB]
def wy:=And.intro @bv_mod <| And.intro @bv_toB <| And.intro @v_cvb <| And.intro @v_bbx <| And.intro @bv_stc <| And.intro @bv_one <| And.intro @bv_nr1 <| And.intro @bv_pl <| And.intro @bv_cl <| And.intro @bv_s1 <| And.intro @bv_s2 <| And.intro @ids_bv <| And.intro @ren_bv <| And.intro @snap_bv <| @rows_bv
section
variable [Lq] {P:Program} {f:FuncId} {hp H1:Hp} {args ys:List AV} {l:List Nat} {ms:List Mode} {E:AV→Hp→Prop} {Q:AV→Prop}
theorem call_ms{fm:Bool}{no:List TypeId}(ms:List Mode)(hp':pass hp ms args=some (ys,H1,l))(hv:liveB H1 l=true)(h:∃ r,Run P f ys r∧Q r)(hk:∀ r,Q r→vLay r (still H1 l) E):wCall P f args hp false fm no E:=by
 obtain ⟨r,hr,hq⟩:=h
 exact⟨_,_,gen_still hr hp' hv,(fun h=>by cases h),hk r hq⟩
theorem call_msd{fm:Bool}{no:List TypeId}(ms:List Mode)(hp':pass hp ms args=some (ys,hp,l))(hv:liveB hp l=true)(h:∃ r,Run P f ys r∧Q r)(hk:∀ r,Q r→vLay r (still hp l) E):wCall P f args hp true fm no E:=by
 obtain ⟨r,hr,hq⟩:=h
 refine⟨_,_,gen_still hr hp' hv,fun _=>⟨?_,fun _=>framed_pass hr hp' hv⟩,hk r hq⟩
 obtain ⟨l',hl'⟩:=lay_app (still hp l) r
 rw [hl']
 exact grow_more (grow_still _ _) _
theorem callv_ms{g:FuncId}{caps:List AV}(ms:List Mode)(hp':pass hp ms (fnArgs g args caps)=some (ys,H1,l))(hv:liveB H1 l=true)(hl:hp.length≤H1.length)(h:∃ r,Run P (fnId g) ys r∧Q r)(hk:∀ r,Q r→vLay r (still H1 l) E)(hg:g < ifB:=by decide):wCallv P (.fn g caps) args hp E:=by
 obtain ⟨r,hr,hq⟩:=h
 refine⟨hg,_,_,gen_still hr hp' hv,?_,hk r hq⟩
 exact Nat.le_trans hl (Nat.le_trans (Nat.le_of_eq (still_len l H1).symm) (lay_len2 _ _))
end
def wo:=And.intro @passOne_ownv <| And.intro @passOne_ownn <| And.intro @hand_vec <| And.intro @pass_cons <| And.intro @and_self <| @wh
section
variable {E:AV→Hp→Prop} {hp:Hp} {base:Nat} {r:Option Nat}
def cpC(hp:Hp)(sz id z off n:Nat)(e:Option Ent)(E:AV→Hp→Prop)(ys:List AV):Prop:=match e with
 | some e=>(e.wr=true∧sz=z∧off+n≤e.es.length)∧E (.int .i64 (min (ys.length:Int) n)) (hp.set id (some { e with es:=e.es.take off ++(ys.take n ++ e.es.drop (off+min ys.length n)) }))
 | none=>False
theorem cpC_s{sz id z off n:Nat}{ty:TypeId}{es ys:List AV}{wr:Bool}:cpC hp sz id z off n (some ⟨ty,es,wr⟩) E ys =((wr=true∧sz=z∧off+n≤es.length)∧E (.int .i64 (min (ys.length:Int) n)) (hp.set id (some ⟨ty,es.take off ++(ys.take n ++ es.drop (off+min ys.length n)),wr⟩))):=(rfl)
theorem e_copy{sz id z off n:Nat}{y:AV}:vOE (evE base r [] hp (.copy sz (.c (.vec id z off n)) (.c y))) E =((szOk sz y=true∧notStr y=true)∧vEls hp y (cpC hp sz id z off n (ent hp id) E)):=by
 show vOE (if szOk sz y=true∧notStr y=true then(elems hp y).bind fun ys=>(ent hp id).bind fun e=>if e.wr=true∧sz=z∧off+n≤e.es.length then
    some (.int .i64 (min (ys.length:Int) n),hp.set id (some { e with es:=e.es.take off ++(ys.take n ++ e.es.drop (off+min ys.length n)) })) else none else none) E=_
 simp only[vEls]
 by_cases h:szOk sz y=true∧notStr y=true
 ·rw [if_pos h]
  simp only[h,and_self,true_and]
  cases elems hp y with
  | none=>rfl
  | some ys =>
   simp only[Option.bind_some,cpC]
   cases ent hp id with
   | none=>rfl
   | some e =>
    simp only[Option.bind_some]
    by_cases h2:e.wr=true∧sz=z∧off+n≤e.es.length
    ·rw [if_pos h2]; simp only[h2,and_self,true_and,vOE]
    ·rw [if_neg h2]; simp only[h2,false_and,vOE]
 ·rw [if_neg h]; simp only[h,false_and,vOE]
theorem cp_all{es ys:List AV}{n:Nat}(h1:ys.length=n)(h2:es.length=n):es.take 0 ++(ys.take n ++ es.drop (0+min ys.length n))=ys:=by
 subst h1; simp [List.drop_of_length_le,h2]
end
def rvG(hp:Hp)(n:Nat)(g:Bool)(x:AV):Option AV:=evR [] hp (.load n g (.c x))
theorem rvX_c{fr:Fr}{hp:Hp}{n sz:Nat}{g:Bool}:rvX fr hp (.c n sz g)=rvG hp sz g (getF fr n):=by
 simp only[rvX,rvG,evR,AX.ev,getF_eq]
theorem rvG_e{hp:Hp}{n id i off:Nat}{g:Bool}:rvG hp n g (.eptr id i off) =(ent hp id).bind fun e=>(e.es[i]?).bind fun x=>cells x off n g:=(rfl)
theorem lim_e:lim=1000000000:=rfl
def wq:=And.intro @rvX_c <| And.intro @rvG_e <| And.intro @lim_e <| And.intro @setCells_all <| And.intro @e_copy <| And.intro @cpC_s <| And.intro @List.length_replicate.{0} <| And.intro @SL.szOk <| And.intro @SL.notStr <| @and_self
theorem fm_mk{d s t:Int}{l:List UInt8}(n:l.length≤140737488355328):AV.agg [.int .u64 d,.int .u64 s,.int .i64 t,.sl 1 (l.map bv) false]=Fm.v ⟨d,s,t,SL.of l n⟩:=by rw [Fm.e,← SL.ofe]
theorem fm_sx{f:Fm}{v:AV}(h:stc v=true)(h2:v.one=true):setCells f.v v 3 1=some (.agg [.int .u64 f.dst,.int .u64 f.src,.int .i64 f.typ,v]):=by rw [Fm.e,set_agg h h2]; rfl
theorem qd_sf(q:Qd)(f:Fm):setCells q.v f.v 3 4=some (Qd.v { q with frame:=f }):=by
 rw [Qd.e,Qd.e,Fm.e]; simp [setCells,AV.ones,AV.flat,SL.e,AV.one]
section
variable {E:AV→Hp→Prop} {hp:Hp} {base:Nat} {r:Option Nat} {C:AV→Prop}
theorem e_app_sl{ty:TypeId}{sz lm z:Nat}{es ys:List AV}{y:AV}(h0:sz=z∨es=[])(h1:szOk sz y=true)(h2:elems hp y=some ys)(h3:es.length+ys.length≤lm)
  (ha:¬(es≠[]∧ys=[])→vNew base r hp ⟨ty,es ++ ys,true⟩ (rwC sz (es ++ ys).length E)) (hb:es≠[]→ys=[]→E (.sl z es true) hp):vOE (evE base r [] hp (.append ty sz lm (.c (.sl z es true)) (.c y))) E:=by
 cases es with
 | nil =>
  rw [e_app_nil]
  refine⟨h1,?_⟩
  simp only[vEls,h2,apN]
  refine⟨by simpa using h3,by simpa using ha (by simp)⟩
 | cons e es =>
  have hz:sz=z:=by rcases h0 with h | h; exact h; cases h
  show vOE (if szOk sz y=true then(elems hp y).bind fun ys=>if sz=z∧ys≠[]∧es.length+1+ys.length≤lm then newVec base r hp sz ty (e :: es ++ ys) else if sz=z∧ys=[] then some (.sl z (e :: es) true,hp) else none else none) E
  rw [if_pos h1,h2,Option.bind_some]
  by_cases h:ys=[]
  ·rw [if_neg (by simp [h]),if_pos ⟨hz,h⟩]
   exact hb (by simp) h
  ·rw [if_pos ⟨hz,h,by simpa using h3⟩,newVec_v]
   exact ha fun hh=>h hh.2
def SL.takeF{α:Type}{enc:α→AV}{sz:Nat}(s:SL α enc sz)(n:Nat):SL α enc sz:=⟨s.l.take n,true,s.z,by rcases s.h with h | h <;> simp [h],Nat.le_trans (by simp; omega) s.n⟩
theorem v_SL3{α:Type}{enc:α→AV}{sz:Nat}{s:SL α enc sz}{k:IntKind}{h:Int}:vP (.slicev sz (.c s.v) none (some (.c (.int k h))) (some (.c (.int k h)))) C =((0≤h∧h≤s.l.length)∧C (s.takeF h.toNat).v):=by
 rw [SL.e,SL.e]
 simp only[vP,evP,AX.ev,Option.map_none,Option.map_some,boundO,bound_some,Option.bind_some,SL.takeF]
 rw [if_pos (SL.zk s),List.length_map]
 by_cases h2:0≤h∧h≤s.l.length
 ·rw [if_pos h2,Option.bind_some,if_pos (by omega),Option.bind_some]
  simp [h2,vO,List.map_take]
 ·rw [if_neg h2]; simp [h2,vO]
end
end Go.Pv
namespace Go.Proofs
open Go Go.Pv Go.Proofs.Tx
variable [Lq]
open W
def Kb:=And.intro @wk <| @wy
theorem Db{p:Prop}(h:p:=by first | assumption | omega | (simp only[wd,zl,wy]; done) | fail):p:=h
theorem Ab{P:Program}{f:FuncId}{args:List AV}{hp:Hp}{E:AV→Hp→Prop}{Q:AV→Prop}{dr fm:Bool}{no:List TypeId}(h:∃ r,Run P f args r∧Q r)(hk:∀ r,Q r→vLay r hp E)(hn:args.all AV.nr1=true:=by first | (simp only[wd,wy]; done) | fail):wCall P f args hp dr fm no E:=call_nr h hn hk
theorem Fb{hp:Hp}{x:AV}{Q:AV→Prop}(h:Q x)(hn:nrR x=true:=by first | (simp only[wd,wy]; done) | fail):fin (some x) Q hp:=fin_nr hn h
end Go.Proofs
set_option maxHeartbeats 4000000
set_option maxRecDepth 100000
namespace Go.Proofs
open Go Go.Pv Go.Proofs.Tx
variable [Lq]
open W
open Classical
theorem s64(i:Int)(h:0≤i∧i < 6):∃ r,Run Tryz.prog 64 [.int .i64 i] r∧r=.int .u64 (8 *(5 - i)):=by
 refine run_w (c:=c64 true) [.t 2] 1 (by kernel_rfl) (by kernel_rfl) (Nat.le_refl 1) (by simp only[wd]) ?_
 unfold c64
 have h1:(8 *(5 - i)) % 18446744073709551616=8 *(5 - i):=Int.emod_eq_of_lt (by omega) (by omega)
 repeat' (first
 |simp (disch:=try exact Db) only[Kb,h1,seval,reduceCtorEq]
 |with_reducible refine e8 ?_
 |(refine Fb ?_;first|exact e9|fail)
 |fail)
theorem s83(m:Int):∃ r,Run Tryz.prog 83 [.int .u64 m] r∧∃ b,r=.bool b:=by
 refine run_w (c:=c83 true) [.t 2] 1 (by kernel_rfl) (by kernel_rfl) (Nat.le_refl 1) (by simp only[wd]) ?_
 unfold c83
 repeat' (first
 |simp (disch:=try exact Db) only[Kb,seval,reduceCtorEq]
 |with_reducible refine e8 ?_
 |(refine Fb ?_;first|exact e9|fail)
 |fail)
theorem s182(m:Int):∃ r,Run Tryz.prog 182 [.int .u32 m] r∧∃ b,r=.int .u64 b:=by
 refine run_w (c:=c182 true) [.t 2] 1 (by kernel_rfl) (by kernel_rfl) (Nat.le_refl 1) (by simp only[wd]) ?_
 unfold c182
 repeat' (first
 |simp (disch:=try exact Db) only[Kb,seval,reduceCtorEq]
 |with_reducible refine e8 ?_
 |(refine Fb ?_;first|exact e9|fail)
 |fail)
theorem s81(f:Fm):∃ r,Run Tryz.prog 81 [f.v] r∧r=.bool (decide (f.typ=33024)):=by
 refine run_w (c:=c81 true) [.t 2] 1 (by kernel_rfl) (by kernel_rfl) (Nat.le_refl 1) (by simp only[wd]) ?_
 unfold c81
 repeat' (first
 |simp (disch:=try exact Db) only[Kb,seval,reduceCtorEq]
 |with_reducible refine e8 ?_
 |(refine Fb ?_;first|exact e9|fail)
 |fail)
theorem s172(u:BL)(a:Int):∃ r,Run Tryz.prog 172 [u.v,.int .i64 a] r∧∃ m b,r=.tup [.int .u64 m,.bool b]:=by
 refine run_w (c:=c172 true) [.t 4,.t 5] 2 (by kernel_rfl) (by kernel_rfl) (Nat.le_refl 2) (by simp only[wd]) ?_
 unfold c172
 have hu:=u.n
 repeat' (first
 |simp (disch:=try exact Db) only[Kb,seval,reduceCtorEq]
 |(with_reducible first|apply condC_d|apply gC_d0)<;>intro _
 |with_reducible refine e8 ?_
 |(refine Fb ?_;first|exact⟨_,_,rfl⟩|exact e9|fail)
 |fail)
 all_goals (
  refine d_lo (fun p:Nat × Int=>⟨[(0,u.v),(1,.int .i64 a),(6,.int .u64 p.2),(17,.int .i64 p.1)],[]⟩) (fun p=>p.1≤6) (fun p=>6 - p.1) ?_ ?_
  ·simp (disch:=try exact Db) only[Kb,seval,reduceCtorEq]
   exact⟨(0,0),rfl,by simp⟩
  rintro ⟨k,m⟩ hk
  simp only at hk ⊢
  unfold c172b0
  repeat' (first
 |simp (disch:=try exact Db) only[Kb,seval,reduceCtorEq]
 |(with_reducible first|apply condC_d|apply gC_d0)<;>intro _
 |with_reducible refine e8 ?_
 |(refine⟨(k+1,_),rfl,?_,?_⟩ <;> simp only <;> omega)
 |(refine Fb ?_;first|exact⟨_,_,rfl⟩|exact e9|fail)
 |fail))
end Go.Proofs
set_option maxHeartbeats 4000000
set_option maxRecDepth 100000
namespace Go.Proofs
open Go Go.Pv Go.Proofs.Tx
variable [Lq]
open W
open Classical
theorem s84(p:Pt)(t:Bool)(v:Int):∃ r,Run Tryz.prog 84 [p.v,.bool t,.int .i64 v] r∧∃ w b,r=.tup [.int .i64 w,.bool b] ∧(b=true→Mem p w):=by
 refine run_w (c:=c84 true) [.t 6,.t 7] 3 (by kernel_rfl) (by kernel_rfl) (Nat.le_refl 3) (by simp only[wd]) ?_
 unfold c84
 have h1:p.native≠0→Mem p p.native:=fun h=>⟨h,.inl rfl⟩
 have h2:v≠0→v∈p.tagged.l→Mem p v:=fun h h'=>⟨h,.inr h'⟩
 cases t
 all_goals repeat' (first
 |simp (disch:=try exact Db) only[Kb,seval,reduceCtorEq]
 |(with_reducible apply condC_d)<;>intro _
 |with_reducible refine e8 ?_
 |(refine Ab (s40 _ _) ?_;rintro _ rfl;all_goals simp only[vl,ts,wb])
 |(refine Fb ?_;first|exact⟨_,_,rfl,fun h=>absurd h Bool.false_ne_true⟩|exact⟨_,_,rfl,fun h=>h1 (of_decide_eq_true h)⟩|(refine⟨_,_,rfl,fun _=>?_⟩; grind)|exact e9|fail)
 |fail)
theorem s34(l:List UInt8)(m:Int)(hl:l.length≤1000):∃ r,Run Tryz.prog 34 [.own 1 5 (l.map bv),.int .u64 m] r∧∃ bs:List UInt8,r=.own 1 5 (bs.map bv)∧bs.length=l.length+6:=by
 refine rv [.t 4] 2 (by kernel_rfl) rfl (Nat.le_refl 2) ?_
 rw [shal_eq,show cod Tryz.prog true [] 34=c34 true from by kernel_rfl]
 unfold c34
 simp (disch:=try exact Db) only[Kb,entry,vl,List.zipIdx_cons,List.zipIdx_nil,seval,reduceCtorEq]
 refine d_lo (fun p:Nat × Nat × List UInt8=>⟨[(0,.vec 0 1 0 p.2.1),(1,.int .u64 m),(6,.int .i64 p.1)],[some ⟨5,p.2.2.map bv,true⟩]⟩) (fun p=>p.1≤6∧p.2.1=l.length+p.1∧p.2.2.length=p.2.1) (fun p=>6 - p.1) ?_ ?_
 ·simp (disch:=try exact Db) only[Kb,seval,reduceCtorEq]
  exact⟨(0,l.length,l),rfl,by simp⟩
 rintro ⟨k,n,bs⟩ ⟨hk,hn,hb⟩
 simp only at hk hb hn ⊢
 unfold c34b0
 repeat' (first
 |simp (disch:=try exact Db) only[Kb,hb,take_map_all,seval,reduceCtorEq]
 |(with_reducible apply condC_d)<;>intro _
 |with_reducible refine e8 ?_
 |with_reducible refine e_app_vec ?_
 |(refine Ab (s64 _ (by omega)) ?_;rintro _ rfl;all_goals simp only[vl,ts,wb])
 |(refine⟨(k+1,n+1,_),rfl,⟨?_,?_,?_⟩,?_⟩ <;> simp only[List.length_append,List.length_cons,List.length_nil] <;> omega)
 |(refine fin_o [[.own 1 5]] ?_;simp (disch:=try exact Db) only[Kb,hb,take_map_all,wo,seval,reduceCtorEq];refine⟨_,rfl,?_,?_⟩;(first|rfl|simp (disch:=try exact Db) only[Kb,hb,take_map_all,wo,seval,reduceCtorEq]);first|(refine⟨bs,rfl,?_⟩; omega)|exact⟨_,rfl⟩|fail)
 |fail)
end Go.Proofs
namespace Go.Proofs
open Go Go.Pv Go.Proofs.Tx
variable [Lq]
open W
def Kc:=And.intro @wk <| And.intro @wy <| @wq
theorem Dc{p:Prop}(h:p:=by first | assumption | omega | (simp only[wd,zl,wy,wq]; done) | fail):p:=h
theorem Ac{P:Program}{f:FuncId}{args:List AV}{hp:Hp}{E:AV→Hp→Prop}{Q:AV→Prop}{dr fm:Bool}{no:List TypeId}(h:∃ r,Run P f args r∧Q r)(hk:∀ r,Q r→vLay r hp E)(hn:args.all AV.nr1=true:=by first | (simp only[wd,wy,wq]; done) | fail):wCall P f args hp dr fm no E:=call_nr h hn hk
theorem Fc{hp:Hp}{x:AV}{Q:AV→Prop}(h:Q x)(hn:nrR x=true:=by first | (simp only[wd,wy,wq]; done) | fail):fin (some x) Q hp:=fin_nr hn h
end Go.Proofs
set_option maxHeartbeats 4000000
set_option maxRecDepth 100000
namespace Go.Proofs
open Go Go.Pv Go.Proofs.Tx
variable [Lq]
open W
open Classical
theorem s80(u:BL):∃ r,Run Tryz.prog 80 [u.v] r∧∃ f:Fm,∃ e,r=.tup [f.v,.int .i64 e]∧0≤e∧e < 64∧f.body.l.length≤u.l.length:=by
 refine run_w (c:=c80 true) [.c 2 4 true,.t 3] 1 (by kernel_rfl) (by kernel_rfl) (Nat.le_refl 1) (by simp only[wd]) ?_
 unfold c80
 have hu:=u.n
 have hz:(AV.agg z7)=Fm.v ⟨0,0,0,SL.nil⟩:=by rw [Fm.e]; simp only[← SL.nile]; rfl
 by_cases h14:u.l.length < 14
 ·repeat' (first
 |simp (disch:=try exact Dc) only[Kc,z7,seval,reduceCtorEq]
 |(with_reducible apply condC_d)<;>intro _
 |with_reducible refine e8 ?_
 |(refine Fc ?_;first|(refine⟨_,_,congrArg (fun x=>AV.tup [x,_]) hz,?_,?_,Nat.zero_le _⟩ <;> omega)|exact e9|fail)
 |(refine fin_o [] ?_;simp (disch:=try exact Dc) only[Kc,z7,wh,seval,reduceCtorEq];refine⟨_,rfl,?_,?_⟩;(first|rfl|simp (disch:=try exact Dc) only[Kc,z7,wh,seval,reduceCtorEq]);first|(refine⟨_,_,congrArg (fun x=>AV.tup [x,_]) hz,?_,?_,Nat.zero_le _⟩ <;> omega)|exact⟨_,rfl⟩|fail)
 |fail)
 have hd:(SL.drop u 14).l.length≤u.l.length:=by simp [SL.drop]
 have hn:((u.l.length:Int) - 14).toNat =(SL.drop u 14).l.length:=by simp [SL.drop]; omega
 have hc:(List.map bv (SL.drop u 14).l).take (SL.drop u 14).l.length ++ List.drop (min (SL.drop u 14).l.length (SL.drop u 14).l.length) (List.replicate (SL.drop u 14).l.length (AV.int .u8 0)) =(SL.drop u 14).l.map bv:=by
  have:=@cp_all (List.replicate (SL.drop u 14).l.length (AV.int .u8 0)) (List.map bv (SL.drop u 14).l) (SL.drop u 14).l.length (by simp) (by simp)
  simpa using this
 have hc2:(SL.drop u 14).l.map bv ++ List.drop (min (SL.drop u 14).l.length (SL.drop u 14).l.length) (List.replicate (SL.drop u 14).l.length (AV.int .u8 0)) =(SL.drop u 14).l.map bv:=by simp [List.drop_of_length_le]
 repeat' (first
 |simp (disch:=try exact Dc) only[Kc,hn,hc,hc2,buildC.eq_2,z7,seval,reduceCtorEq]
 |(with_reducible apply condC_d)<;>intro _
 |with_reducible refine e8 ?_
 |(refine Ac (s172 _ _) ?_;rintro _ ⟨m,b,rfl⟩;all_goals simp only[vl,ts,wb])
 |(refine Fc ?_;first|(refine⟨_,_,congrArg (fun x=>AV.tup [x,_]) hz,?_,?_,Nat.zero_le _⟩ <;> omega)|(refine⟨_,_,congrArg (fun x=>AV.tup [x,_]) (fm_mk (SL.drop u 14).n),?_,?_,hd⟩ <;> omega)|exact e9|fail)
 |(refine fin_o [] ?_;simp (disch:=try exact Dc) only[Kc,hn,hc,hc2,buildC.eq_2,z7,wh,seval,reduceCtorEq];refine⟨_,rfl,?_,?_⟩;(first|rfl|simp (disch:=try exact Dc) only[Kc,hn,hc,hc2,buildC.eq_2,z7,wh,seval,reduceCtorEq]);first|(refine⟨_,_,congrArg (fun x=>AV.tup [x,_]) hz,?_,?_,Nat.zero_le _⟩ <;> omega)|(refine⟨_,_,congrArg (fun x=>AV.tup [x,_]) (fm_mk (SL.drop u 14).n),?_,?_,hd⟩ <;> omega)|exact⟨_,rfl⟩|fail)
 |fail)
end Go.Proofs
set_option maxHeartbeats 4000000
set_option maxRecDepth 100000
namespace Go.Proofs
open Go Go.Pv Go.Proofs.Tx
variable [Lq]
open W
open Classical
theorem s103(f:Fm)(hf:f.body.l.length≤1000000000):∃ r,Run Tryz.prog 103 [f.v] r∧r=Fm.v { f with body:=SL.of f.body.l f.body.n }:=by
 refine run_w (c:=c103 true) [.c 2 4 true] 1 (by kernel_rfl) (by kernel_rfl) (Nat.le_refl 1) (by simp only[wd]) ?_
 unfold c103
 have hc2:f.body.l.map bv ++ List.drop (min f.body.l.length f.body.l.length) (List.replicate f.body.l.length (AV.int .u8 0))=f.body.l.map bv:=by simp [List.drop_of_length_le]
 repeat' (first
 |simp (disch:=try exact Dc) only[Kc,hc2,fm_sx,seval,reduceCtorEq]
 |with_reducible refine e8 ?_
 |(refine fin_o [] ?_;simp (disch:=try exact Dc) only[Kc,hc2,fm_sx,wh,seval,reduceCtorEq];refine⟨_,rfl,?_,?_⟩;(first|rfl|simp (disch:=try exact Dc) only[Kc,hc2,fm_sx,wh,seval,reduceCtorEq]);first|exact fm_mk f.body.n|exact⟨_,rfl⟩|fail)
 |fail)
theorem s32(a b:Fm):∃ r,Run Tryz.prog 32 [a.v,b.v] r∧r=.bool (decide (a.dst=b.dst∧a.src=b.src∧a.typ=b.typ∧a.body.l=b.body.l)):=by
 refine run_w (c:=c32 true) [.t 4] 2 (by kernel_rfl) (by kernel_rfl) (Nat.le_refl 2) (by simp only[wd]) ?_
 unfold c32
 repeat' (first
 |simp (disch:=try exact Dc) only[Kc,seval,reduceCtorEq]
 |(with_reducible apply gC_d1)<;>intro _
 |with_reducible refine e8 ?_
 |(refine Fc ?_;first|exact e9|fail)
 |fail)
end Go.Proofs
set_option maxHeartbeats 4000000
set_option maxRecDepth 100000
namespace Go.Proofs
open Go Go.Pv Go.Proofs.Tx
variable [Lq]
open W
open Classical
def cpQ(q:Qd):Qd:={ q with frame:={ q.frame with body:=SL.of q.frame.body.l q.frame.body.n } }
def QdS(a b:Qd):Prop:=a.frm=b.frm∧a.peer=b.peer∧a.origin=b.origin∧a.frame.dst=b.frame.dst∧a.frame.src=b.frame.src∧a.frame.typ=b.frame.typ∧a.frame.body.l=b.frame.body.l
theorem s31(a b:Qd):∃ r,Run Tryz.prog 31 [a.v,b.v] r∧r=.bool (decide (QdS a b)):=by
 refine run_w (c:=c31 true) [.t 4] 2 (by kernel_rfl) (by kernel_rfl) (Nat.le_refl 2) (by simp only[wd]) ?_
 unfold c31
 unfold QdS
 repeat' (first
 |simp (disch:=try exact Dc) only[Kc,seval,reduceCtorEq]
 |(with_reducible apply gC_d1)<;>intro _
 |with_reducible refine e8 ?_
 |(refine Ac (s32 _ _) ?_;rintro _ rfl;all_goals simp only[vl,ts,wb])
 |(refine Fc ?_;first|exact e9|fail)
 |fail)
theorem s59(q:Qd)(hf:q.frame.body.l.length≤1000000000):∃ r,Run Tryz.prog 59 [q.v] r∧r =(cpQ q).v:=by
 refine run_w (c:=c59 true) [.c 2 7 true] 1 (by kernel_rfl) (by kernel_rfl) (Nat.le_refl 1) (by simp only[wd]) ?_
 unfold c59
 repeat' (first
 |simp (disch:=try exact Dc) only[Kc,qd_sf,seval,reduceCtorEq]
 |with_reducible refine e8 ?_
 |(refine Ac (s103 _ hf) ?_;rintro _ rfl;all_goals simp only[vl,ts,wb])
 |(refine Fc ?_;first|exact e9|fail)
 |fail)
end Go.Proofs
set_option maxHeartbeats 4000000
set_option maxRecDepth 100000
namespace Go.Proofs
open Go Go.Pv Go.Proofs.Tx
variable [Lq]
open W
open Classical
def QSh(l:List Qd):Prop:=∀ q,q∈l→q.frame.body.l.length≤100000
theorem take_snoc{u:List Qd}{k:Nat}(h:k < u.length):((u.take k).map cpQ).map Qd.v ++ [(cpQ (nth u k)).v] =((u.take (k+1)).map cpQ).map Qd.v:=by
 have:u.take (k+1)=u.take k ++ [nth u k]:=by
  have h2:=nth_get h
  rw [List.getElem?_eq_getElem h] at h2
  rw [List.take_succ_eq_append_getElem h,Option.some.inj h2]
 rw [this]; simp
theorem s58(u:SL Qd Qd.v 7)(hq:QSh u.l)(hn:u.l.length≤1000000):∃ r,Run Tryz.prog 58 [u.v] r∧r=.own 7 104 ((u.l.map cpQ).map Qd.v):=by
 have hu:=u.n
 have i1:∀(l:List Qd) hp,(l.map Qd.v).flatMap (idsOf hp 5)=[]:=fun l hp=>ids_map Qd.pl
 have i2:∀(l:List Qd) r,(l.map Qd.v).map (renX r 6)=l.map Qd.v:=fun l r=>ren_map Qd.pl
 refine run_w (c:=c58 true) [.t 2] 1 (by kernel_rfl) (by kernel_rfl) (Nat.le_refl 1) (by simp only[wd]) ?_
 unfold c58
 simp (disch:=try exact Dc) only[Kc,seval,reduceCtorEq]
 refine d_lo (fun k:Nat=>⟨[(3,.vec 0 7 0 k),(6,u.v),(7,.int .i64 u.l.length),(8,.int .i64 k)],[some ⟨104,((u.l.take k).map cpQ).map Qd.v,true⟩]⟩) (fun k=>k≤u.l.length) (fun k=>u.l.length - k) ?_ ?_
 ·simp (disch:=try exact Dc) only[Kc,seval,reduceCtorEq]
  exact⟨0,rfl,by omega⟩
 rintro k hk
 have h1:(u.l.take k).length=k:=by simp; omega
 unfold c58b0
 by_cases hk2:k < u.l.length
 ·have h2:=@take_snoc _ u.l k hk2
  have h3:=hq _ (nth_mem hk2)
  have hlen:(((u.l.take (k+1)).map cpQ).map Qd.v).length=k+1:=by simp; omega
  repeat' (first
 |simp (disch:=try exact Dc) only[Kc,h1,h2,i1,i2,hlen,seval,reduceCtorEq]
 |with_reducible refine e8 ?_
 |with_reducible refine e_app_vec ?_
 |(refine Ac (s59 _ (by omega)) ?_;rintro _ rfl;all_goals simp only[vl,ts,wb])
 |(refine⟨k+1,rfl,?_,?_⟩ <;> omega)
 |(refine fin_o [] ?_;simp (disch:=try exact Dc) only[Kc,h1,h2,i1,i2,hlen,wh,seval,reduceCtorEq];refine⟨_,rfl,?_,?_⟩;(first|rfl|simp (disch:=try exact Dc) only[Kc,h1,h2,i1,i2,hlen,wh,seval,reduceCtorEq]);first|exact⟨_,rfl⟩|fail)
 |fail)
 ·obtain rfl:k=u.l.length:=by omega
  have i3:∀(l:List Qd) hp,mapO (snap hp 6) (l.map Qd.v)=some (l.map Qd.v):=fun l hp=>mapO_map Qd.nr1
  have i4:∀(l:List Qd) hp,(l.map Qd.v).flatMap (rows hp 6)=[]:=fun l hp=>rows_map Qd.nr1
  have h5:((u.l.map cpQ).map Qd.v).take u.l.length =(u.l.map cpQ).map Qd.v:=List.take_of_length_le (by simp)
  repeat' (first
 |simp (disch:=try exact Dc) only[Kc,h1,i3,i4,List.take_length,h5,seval,reduceCtorEq]
 |with_reducible refine e8 ?_
 |with_reducible refine e_app_vec ?_
 |(refine fin_o [[.own 7 104]] ?_;simp (disch:=try exact Dc) only[Kc,h1,i3,i4,List.take_length,h5,wo,seval,reduceCtorEq];refine⟨_,rfl,?_,?_⟩;(first|rfl|simp (disch:=try exact Dc) only[Kc,h1,i3,i4,List.take_length,h5,wo,seval,reduceCtorEq]);first|rfl|exact⟨_,rfl⟩|fail)
 |fail)
end Go.Proofs
set_option maxHeartbeats 4000000
set_option maxRecDepth 100000
namespace Go.Proofs
open Go Go.Pv Go.Proofs.Tx
variable [Lq]
open W
open Classical
theorem s86(u:SL Qd Qd.v 7)(q:Qd)(hq:QSh u.l)(hq2:q.frame.body.l.length≤100000)(hn:u.l.length≤1000000):∃ r,Run Tryz.prog 86 [u.v,q.v] r∧∃ w:SL Qd Qd.v 7,∃ b,r=.tup [w.v,.bool b] ∧(b=false→w.l=u.l.map cpQ) ∧(b=true→w.l=u.l.map cpQ ++ [cpQ q]∧u.l.length < 64):=by
 have hu:=u.n
 have i3:∀(l:List Qd) hp,mapO (snap hp 5) (l.map Qd.v)=some (l.map Qd.v):=fun l hp=>mapO_map Qd.nr1
 have i4:∀(l:List Qd) hp,(l.map Qd.v).flatMap (rows hp 5)=[]:=fun l hp=>rows_map Qd.nr1
 have h1:(u.l.map cpQ).map Qd.v ++ [(cpQ q).v] =(u.l.map cpQ ++ [cpQ q]).map Qd.v:=by simp
 have h5:((u.l.map cpQ).map Qd.v).take u.l.length =(u.l.map cpQ).map Qd.v:=List.take_of_length_le (by simp)
 have h6:((u.l.map cpQ ++ [cpQ q]).map Qd.v).take (u.l.length+1) =(u.l.map cpQ ++ [cpQ q]).map Qd.v:=List.take_of_length_le (by simp)
 have n1:(u.l.map cpQ).length≤140737488355328:=by simp; omega
 have n2:(u.l.map cpQ ++ [cpQ q]).length≤140737488355328:=by simp; omega
 have e1:=@SL.ofe _ Qd.v 7 _ n1
 have e2:=@SL.ofe _ Qd.v 7 _ n2
 refine run_w (c:=c86 true) [.t 4,.t 5] 2 (by kernel_rfl) (by kernel_rfl) (Nat.le_refl 2) (by simp only[wd]) ?_
 unfold c86
 repeat' (first
 |simp (disch:=try exact Dc) only[Kc,h1,i3,i4,h5,h6,seval,reduceCtorEq]
 |(with_reducible apply condC_d)<;>intro _
 |with_reducible refine e8 ?_
 |with_reducible refine e_app_vec ?_
 |(refine Ac (s58 _ hq hn) ?_;rintro _ rfl;all_goals simp only[vl,ts,wb])
 |(refine Ac (s59 _ (by omega)) ?_;rintro _ rfl;all_goals simp only[vl,ts,wb])
 |(refine fin_o [] ?_;simp (disch:=try exact Dc) only[Kc,h1,i3,i4,h5,h6,wh,seval,reduceCtorEq];refine⟨_,rfl,?_,?_⟩;(first|rfl|simp (disch:=try exact Dc) only[Kc,h1,i3,i4,h5,h6,wh,seval,reduceCtorEq]);first|exact⟨_,_,congrArg (fun x=>AV.tup [x,_]) e1,fun _=>rfl,fun h=>absurd h Bool.false_ne_true⟩|(refine⟨_,_,congrArg (fun x=>AV.tup [x,_]) e2,fun h=>absurd h.symm Bool.false_ne_true,fun _=>⟨rfl,?_⟩⟩; omega)|exact⟨_,rfl⟩|fail)
 |fail)
 all_goals trace_state
end Go.Proofs
set_option maxHeartbeats 4000000
set_option maxRecDepth 100000
namespace Go.Proofs
open Go Go.Pv Go.Proofs.Tx
variable [Lq]
open W
open Classical
theorem e_app_tf{E:AV→Hp→Prop}{hp:Hp}{base:Nat}{r:Option Nat}{α:Type}{enc:α→AV}{z:Nat}{ty:TypeId}{lm n:Nat}{s t:SL α enc z}(h:(s.l.take n).length+t.l.length≤lm)
  (ha:vNew base r hp ⟨ty,(s.l.take n ++ t.l).map enc,true⟩ (rwC z (s.l.take n ++ t.l).length E)) (hb:s.l.take n≠[]→t.l=[]→E (s.takeF n).v hp):vOE (evE base r [] hp (.append ty z lm (.c (s.takeF n).v) (.c t.v))) E:=by
 have e1:(s.takeF n).v=.sl s.z ((s.l.take n).map enc) true:=by rw [SL.e]; rfl
 have e2:elems hp t.v=some (t.l.map enc):=by rw [SL.e]; rfl
 rw [e1] at hb ⊢
 refine e_app_sl (ys:=t.l.map enc) ?_ t.szOk e2 (by simpa using h) (fun _=>?_) (fun a b=>hb (by simpa using a) (by simpa using b))
 ·rcases s.h with h | h
  ·exact .inl h.symm
  ·right; simp [h]
 ·rw [← List.map_append,List.length_map]; exact ha
theorem s28_y(u:SL Qd Qd.v 7)(a:Int)(hq:QSh u.l)(hn:u.l.length≤1000000)(ha:0≤a∧a < u.l.length):∃ r,Run Tryz.prog 28 [u.v,.int .i64 a] r∧∃ q:Qd,∃ w:SL Qd Qd.v 7,∃ b,r=.tup [q.v,w.v,.bool b] ∧(b=false→w.l=u.l.map cpQ) ∧(b=true →(0≤a∧a < u.l.length)∧q=cpQ (nth u.l a.toNat)∧w.l =(u.l.take a.toNat ++ u.l.drop (a.toNat+1)).map cpQ):=by
 have hu:=u.n
 have i1:∀(l:List Qd) hp,(l.map Qd.v).flatMap (idsOf hp 5)=[]:=fun l hp=>ids_map Qd.pl
 have i2:∀(l:List Qd) r,(l.map Qd.v).map (renX r 6)=l.map Qd.v:=fun l r=>ren_map Qd.pl
 have i3:∀(l:List Qd) hp,mapO (snap hp 5) (l.map Qd.v)=some (l.map Qd.v):=fun l hp=>mapO_map Qd.nr1
 have i4:∀(l:List Qd) hp,(l.map Qd.v).flatMap (rows hp 5)=[]:=fun l hp=>rows_map Qd.nr1
 have h5:((u.l.map cpQ).map Qd.v).take u.l.length =(u.l.map cpQ).map Qd.v:=List.take_of_length_le (by simp)
 have n1:(u.l.map cpQ).length≤140737488355328:=by simp; omega
 have e1:=@SL.ofe _ Qd.v 7 _ n1
 have hz:(AV.agg z5)=Qd.v ⟨0,0,0,⟨0,0,0,SL.nil⟩⟩:=by rw [Qd.e]; simp only[← SL.nile]; rfl
 have hq1:=hq _ (nth_mem (l:=u.l) (k:=a.toNat) (by omega))
 generalize hL:u.l.take a.toNat ++ u.l.drop (a.toNat+1)=L
 have hL1:L.length≤1000000:=by rw [← hL]; simp; omega
 have hL2:QSh L:=fun q hq'=>hq q (by rw [← hL] at hq'; rcases List.mem_append.1 hq' with h | h; exact List.mem_of_mem_take h; exact List.mem_of_mem_drop h)
 refine run_w (c:=c28 true) [.c 4 7 true,.t 5,.t 6] 2 (by kernel_rfl) (by kernel_rfl) (Nat.le_refl 2) (by simp only[wd]) ?_
 unfold c28
 repeat' (first
 |simp (disch:=try exact Dc) only[Kc,v_SL3,seval,reduceCtorEq]
 |with_reducible refine e8 ?_
 |(refine Ac (s59 _ (by omega)) ?_;rintro _ rfl;all_goals simp only[vl,ts,wb])
 |(refine fin_o [] ?_;simp (disch:=try exact Dc) only[Kc,v_SL3,wh,seval,reduceCtorEq];refine⟨_,rfl,?_,?_⟩;(first|rfl|simp (disch:=try exact Dc) only[Kc,v_SL3,wh,seval,reduceCtorEq]);first|exact⟨_,rfl⟩|fail)
 |fail)
 have h6:((L.map cpQ).map Qd.v).take L.length =(L.map cpQ).map Qd.v:=List.take_of_length_le (by simp)
 have n2:(L.map cpQ).length≤140737488355328:=by simp; omega
 have e2:=@SL.ofe _ Qd.v 7 _ n2
 refine e_app_tf ?_ ?_ ?_
 ·simp [SL.drop]; omega
 ·rw [show(u.drop (a+1).toNat).l=u.l.drop (a.toNat+1) by(show u.l.drop _=_; congr 1; omega),hL]
  have h58:=s58 (SL.of L (by omega)) hL2 hL1
  rw [← SL.ofe] at h58
  simp only[SL.of_l] at h58
  repeat' (first
 |simp (disch:=try exact Dc) only[Kc,i1,i2,i3,i4,h6,hz,seval,reduceCtorEq]
 |with_reducible refine e8 ?_
 |(refine callv_ms [] (by simp (disch:=try exact Dc) only[Kc,i1,i2,i3,i4,h6,hz,wp,seval,reduceCtorEq]; rfl) (by simp (disch:=try exact Dc) only[Kc,i1,i2,i3,i4,h6,hz,wp,seval,reduceCtorEq]) (Nat.le_refl _) h58 ?_; rintro _ rfl; all_goals simp only[vl,wp,ts,wb])
 |(refine fin_o [] ?_;simp (disch:=try exact Dc) only[Kc,i1,i2,i3,i4,h6,hz,wh,seval,reduceCtorEq];refine⟨_,rfl,?_,?_⟩;(first|rfl|simp (disch:=try exact Dc) only[Kc,i1,i2,i3,i4,h6,hz,wh,seval,reduceCtorEq]);first|(refine⟨_,_,_,congrArg (fun x=>AV.tup [_,x,_]) e2,fun h=>absurd h.symm Bool.false_ne_true,fun _=>⟨ha,rfl,rfl⟩⟩)|exact⟨_,rfl⟩|fail)
 |fail)
 ·intro h1 h2
  have h3:(u.takeF a.toNat).l=L:=by
   rw [show(u.drop (a+1).toNat).l=u.l.drop (a.toNat+1) by(show u.l.drop _=_; congr 1; omega)] at h2
   rw [← hL,h2]; simp [SL.takeF]
  have h58:=s58 (u.takeF a.toNat) (by rw [h3]; exact hL2) (by rw [h3]; exact hL1)
  rw [h3] at h58
  repeat' (first
 |simp (disch:=try exact Dc) only[Kc,i1,i2,i3,i4,h6,hz,seval,reduceCtorEq]
 |with_reducible refine e8 ?_
 |(refine callv_nr h58 (by simp only[wd,seval,not_false_eq_true]) ?_; rintro _ rfl; all_goals simp only[vl,ts,wb])
 |(refine fin_o [] ?_;simp (disch:=try exact Dc) only[Kc,i1,i2,i3,i4,h6,hz,wh,seval,reduceCtorEq];refine⟨_,rfl,?_,?_⟩;(first|rfl|simp (disch:=try exact Dc) only[Kc,i1,i2,i3,i4,h6,hz,wh,seval,reduceCtorEq]);first|(refine⟨_,_,_,congrArg (fun x=>AV.tup [_,x,_]) e2,fun h=>absurd h.symm Bool.false_ne_true,fun _=>⟨ha,rfl,rfl⟩⟩)|exact⟨_,rfl⟩|fail)
 |fail)
theorem s28_n(u:SL Qd Qd.v 7)(a:Int)(hq:QSh u.l)(hn:u.l.length≤1000000)(ha:¬(0≤a∧a < u.l.length)):∃ r,Run Tryz.prog 28 [u.v,.int .i64 a] r∧∃ q:Qd,∃ w:SL Qd Qd.v 7,∃ b,r=.tup [q.v,w.v,.bool b] ∧(b=false→w.l=u.l.map cpQ) ∧(b=true →(0≤a∧a < u.l.length)∧q=cpQ (nth u.l a.toNat)∧w.l =(u.l.take a.toNat ++ u.l.drop (a.toNat+1)).map cpQ):=by
 have hu:=u.n
 have i1:∀(l:List Qd) hp,(l.map Qd.v).flatMap (idsOf hp 5)=[]:=fun l hp=>ids_map Qd.pl
 have i2:∀(l:List Qd) r,(l.map Qd.v).map (renX r 6)=l.map Qd.v:=fun l r=>ren_map Qd.pl
 have i3:∀(l:List Qd) hp,mapO (snap hp 5) (l.map Qd.v)=some (l.map Qd.v):=fun l hp=>mapO_map Qd.nr1
 have i4:∀(l:List Qd) hp,(l.map Qd.v).flatMap (rows hp 5)=[]:=fun l hp=>rows_map Qd.nr1
 have h5:((u.l.map cpQ).map Qd.v).take u.l.length =(u.l.map cpQ).map Qd.v:=List.take_of_length_le (by simp)
 have n1:(u.l.map cpQ).length≤140737488355328:=by simp; omega
 have e1:=@SL.ofe _ Qd.v 7 _ n1
 have hz:(AV.agg z5)=Qd.v ⟨0,0,0,⟨0,0,0,SL.nil⟩⟩:=by rw [Qd.e]; simp only[← SL.nile]; rfl
 refine run_w (c:=c28 true) [.c 4 7 true,.t 5,.t 6] 2 (by kernel_rfl) (by kernel_rfl) (Nat.le_refl 2) (by simp only[wd]) ?_
 unfold c28
 repeat' (first
 |simp (disch:=try exact Dc) only[Kc,i3,i4,h5,hz,seval,reduceCtorEq]
 |(with_reducible apply gC_d0)<;>intro _
 |with_reducible refine e8 ?_
 |(refine Ac (s58 _ hq hn) ?_;rintro _ rfl;all_goals simp only[vl,ts,wb])
 |(refine fin_o [] ?_;simp (disch:=try exact Dc) only[Kc,i3,i4,h5,hz,wh,seval,reduceCtorEq];refine⟨_,rfl,?_,?_⟩;(first|rfl|simp (disch:=try exact Dc) only[Kc,i3,i4,h5,hz,wh,seval,reduceCtorEq]);first|(refine⟨_,_,_,congrArg (fun x=>AV.tup [_,x,_]) e1,fun _=>rfl,fun h=>absurd h Bool.false_ne_true⟩)|exact⟨_,rfl⟩|fail)
 |fail)
theorem s28(u:SL Qd Qd.v 7)(a:Int)(hq:QSh u.l)(hn:u.l.length≤1000000):∃ r,Run Tryz.prog 28 [u.v,.int .i64 a] r∧∃ q:Qd,∃ w:SL Qd Qd.v 7,∃ b,r=.tup [q.v,w.v,.bool b] ∧(b=false→w.l=u.l.map cpQ) ∧(b=true →(0≤a∧a < u.l.length)∧q=cpQ (nth u.l a.toNat)∧w.l =(u.l.take a.toNat ++ u.l.drop (a.toNat+1)).map cpQ):=by
 by_cases ha:0≤a∧a < u.l.length
 ·exact s28_y u a hq hn ha
 ·exact s28_n u a hq hn ha
end Go.Proofs
set_option maxHeartbeats 4000000
set_option maxRecDepth 100000
namespace Go.Proofs
open Go Go.Pv Go.Proofs.Tx
variable [Lq]
open W
open Classical
def QsS(l m:List Qd):Prop:=l.length=m.length∧∀ j,j < l.length→QdS (nth l j) (nth m j)
theorem s30(u w:SL Qd Qd.v 7):∃ r,Run Tryz.prog 30 [u.v,w.v,.fn 31 []] r∧r=.bool (decide (QsS u.l w.l)):=by
 have hu:=u.n
 have hw:=w.n
 refine run_w (c:=c30 true) [.t 6] 3 (by kernel_rfl) (by kernel_rfl) (Nat.le_refl 3) (by simp only[wd]) ?_
 unfold c30
 simp (disch:=try exact Dc) only[Kc,seval,reduceCtorEq]
 refine condC_d (fun hne=>?_) (fun he=>?_)
 ·repeat' (first
 |simp (disch:=try exact Dc) only[Kc,seval,reduceCtorEq]
 |(with_reducible apply condC_d)<;>intro _
 |with_reducible refine e8 ?_
 |(refine Fc ?_;first|(refine bd_f ?_; exact fun h=>hne (congrArg Int.ofNat h.1))|exact e9|fail)
 |fail)
 ·simp (disch:=try exact Dc) only[Kc,seval,reduceCtorEq]
  refine d_lo (fun k:Nat=>⟨[(1,w.v),(2,.fn 31 []),(15,u.v),(16,.int .i64 u.l.length),(17,.int .i64 k)],[]⟩) (fun k=>k≤u.l.length∧∀ j,j < k→QdS (nth u.l j) (nth w.l j)) (fun k=>u.l.length - k) ?_ ?_
  ·simp (disch:=try exact Dc) only[Kc,seval,reduceCtorEq]
   exact⟨0,rfl,by omega,fun j hj=>by omega⟩
  rintro k ⟨hk,hall⟩
  unfold c30b0
  have hT:¬((k:Int) <(u.l.length:Int))→QsS u.l w.l:=fun h=>⟨by omega,fun j hj=>hall j (by omega)⟩
  have hF:(k:Int) <(u.l.length:Int)→¬ QdS (nth u.l k) (nth w.l k)→¬ QsS u.l w.l:=fun h h' h2=>h' (h2.2 k (by omega))
  repeat' (first
 |simp (disch:=try exact Dc) only[Kc,seval,reduceCtorEq]
 |(with_reducible apply condC_d)<;>intro _
 |with_reducible refine e8 ?_
 |(refine callv_nr (s31 _ _) (by simp only[wd,seval,not_false_eq_true]) ?_; rintro _ rfl; all_goals simp only[vl,ts,wb])
 |(refine Fc ?_;first|(refine bd_t (hT ?_); assumption)|(refine bd_f (hF ?_ ?_); assumption; assumption)|exact e9|fail)
 |fail)
  rename_i h1 h2
  refine⟨k+1,rfl,⟨by omega,fun j hj=>?_⟩,by omega⟩
  by_cases e:j=k
  ·rw [e]; exact Classical.not_not.1 h2
  ·exact hall j (by omega)
theorem s13(u w:SL Qd Qd.v 7):∃ r,Run Tryz.prog 13 [u.v,w.v] r∧r=.bool (decide (QsS u.l w.l)):=by
 refine run_w (c:=c13 true) [.t 4] 2 (by kernel_rfl) (by kernel_rfl) (Nat.le_refl 2) (by simp only[wd]) ?_
 unfold c13
 repeat' (first
 |simp (disch:=try exact Dc) only[Kc,seval,reduceCtorEq]
 |with_reducible refine e8 ?_
 |(refine call_rn (by simp (disch:=try exact Dc) only[Kc,wp,seval,reduceCtorEq]; rfl) (by simp (disch:=try exact Dc) only[Kc,wp,seval,reduceCtorEq]) (s30 _ _) ?_; rintro _ rfl; all_goals simp only[vl,wp,ts,wb])
 |(refine Fc ?_;first|exact e9|fail)
 |fail)
end Go.Proofs
