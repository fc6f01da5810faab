/- Part 7 of a proof that a step of one domain changes nothing of another: the machine of plain values, and what the program's functions do. -/
import Derived.Test.YtdgcdnnmodnkjaaGreatDoorG6
import Derived.Orders
import Derived.Scope
set_option linter.all false
set_option linter.unusedVariables false
set_option linter.unusedSectionVars false
set_option linter.unusedSimpArgs false
set_option linter.defProp false
namespace Go.Pv
variable [Lq]
inductive AE where
 | normal
 | exit (id:Nat)
 | ret
def St.put(σ:St)(d:Option Nat)(x:AV):St:=⟨putO σ.fr d x,σ.hp⟩
structure Grow(no:List TypeId)(H H':Hp):Prop where
 len:H.length≤H'.length
 still:∀ id e,ent H id=some e→∃ e',ent H' id=some e'
 some:∀ id e,ent H id=some e→no.contains e.ty=false→∃ wr,ent H' id=some { e with wr:=wr }
 none:∀ id,id < H.length→ent H id=none→ent H' id=none
def noLoad(no:List TypeId)(fr:Fr)(hp:Hp):OpR→Bool
 | .load _ _ x=>match x.ev fr with
  | .eptr id _ _=>match ent hp id with
   | some e=>!no.contains e.ty
   | none=>true
  | _=>true
 | _=>true
def setAll(hp:Hp)(L:List (Nat × Ent)):Hp:=L.foldl (fun h p=>h.set p.1 (some p.2)) hp
def Framed(P:Program)(f:FuncId)(xs:List AV)(hp:Hp)(r:AV)(H':Hp):Prop :=
 ∀ L:List (Nat × Ent),(∀ p∈L,ent hp p.1=none∧p.1 < hp.length∧p.2.wr=true)→Gen P f xs (setAll hp L) r (setAll H' L)
def notBool:Value→Bool
 | .bool _=>false
 | _=>true
def aw1(P:Program)(base:Nat)(o:Op2)(σ:St)(K:St→Prop):Prop :=
 match o.op with
 | .p q=>match evP σ.fr q with
  | some x=>K (σ.put o.dst x)
  | none=>False
 | .r q=>match evR σ.fr σ.hp q with
  | some x=>noLoad o.no σ.fr σ.hp q=true∧K (σ.put o.dst x)
  | none=>False
 | .e q r=>match evE base r σ.fr σ.hp q with
  | some p=>K ⟨putO σ.fr o.dst p.1,p.2⟩
  | none=>False
 | .call f xs d=>∃ r H',Gen P f (xs.map (·.ev σ.fr)) σ.hp r H' ∧(d=true→Grow o.no σ.hp H' ∧(o.fm=true→Framed P f (xs.map (·.ev σ.fr)) σ.hp r H'))∧K ⟨putO σ.fr o.dst r,H'⟩
 | .callv x xs=>match x.ev σ.fr with
  | .fn f caps=>f < ifB∧∃ r H',Gen P (fnId f) (fnArgs f (xs.map (·.ev σ.fr)) caps) σ.hp r H'∧σ.hp.length≤H'.length∧K ⟨putO σ.fr o.dst r,H'⟩
  | _=>False
 | .calli m x xs=>match recvI P m σ.hp (x.ev σ.fr) with
  | some (f,y)=>∃ r H',Gen P f (y :: xs.map (·.ev σ.fr)) σ.hp r H'∧σ.hp.length≤H'.length∧K ⟨putO σ.fr o.dst r,H'⟩
  | none=>False
 | .bad=>False
def aw2(P:Program)(base:Nat)(o:Op2)(σ:St)(K:St→Prop):Prop :=
 match o.guard with
 | none=>aw1 P base o σ K
 | some (t,want)=>match get σ.fr t with
  | .bool b=>if b=want then aw1 P base o σ K else K (σ.put o.dst (.lit Go.undef))
  | .lit v=>notBool v=true∧K (σ.put o.dst (.lit Go.undef))
  | _=>False
def awOps(P:Program)(base:Nat):List Op2→St →(St→Prop)→Prop
 | [],σ,K=>K σ
 | o :: r,σ,K=>aw2 P base o σ fun σ=>awOps P base r σ K
def inBlk(id:Nat)(K:AE→St→Prop):AE→St→Prop
 | .exit id',σ=>if id'=id then K .normal σ else K (.exit id') σ
 | e,σ=>K e σ
def andThen(N:St→Prop)(K:AE→St→Prop):AE→St→Prop
 | .normal,σ=>N σ
 | e,σ=>K e σ
def aw(P:Program):AC →(AE→St→Prop)→St→Prop
 | .skip,K,σ=>K .normal σ
 | .region n ops tr,K,σ=>awOps P σ.hp.length ops ⟨σ.fr,σ.hp ++ List.replicate n none⟩ fun σ=>K .normal (trim tr σ)
 | .regionA n ops ps tr,K,σ=>awOps P σ.hp.length ops ⟨σ.fr,σ.hp ++ List.replicate n none⟩ fun σ=>apB ps σ.fr=true∧K .normal (trim tr σ)
 | .seq a b,K,σ=>aw P a (andThen (aw P b K) K) σ
 | .cond c x y,K,σ=>match c.ev σ.fr with
  | .bool b=>(b=true→aw P x K σ) ∧(b=false→aw P y K σ)
  | .anyb=>aw P x K σ∧aw P y K σ
  | _=>False
 | .block id b,K,σ=>aw P b (inBlk id K) σ
 | .loop tr b,K,σ=>∃ I:Nat→St→Prop,(∃ n,I n (trim tr σ))∧∀ n σ,I n σ→aw P b (andThen (fun σ'=>∃ m,m < n∧I m (trim tr σ')) K) σ
 | .exit id,K,σ=>K (.exit id) σ
 | .ret,K,σ=>K .ret σ
 | .scope b,K,σ=>aw P b K σ
 | .bad,_,_=>False
structure Dq where
 ds:List Deferred
 pv:List (Nat × Value)
def Dq.no:Dq:=⟨[],[]⟩
def Dq.pin(D:Dq)(t:Nat):Bool:=(D.pv.map (·.1)).contains t
structure SR(D:Dq)(n:Nat)(k:Bool)(γ0:Gh)(w0:World)(γ:Gh)(σ:St)(a:Act)(w:World):Prop where
 fr:FrR w γ σ.fr a.tmps
 hp:HRel γ σ.hp w
 st:Step γ0 γ w0 w
 df:a.defers=D.ds
 sz:a.tmps.size=n∧∀ p∈D.pv,a.tmps.getD p.1 Go.undef=p.2
 ids:k=true→Ids γ0 γ
 lq:Lq.q w γ.imm
def Up(D:Dq)(n:Nat)(k:Bool)(γ0:Gh)(w0:World)(K:St→Prop)(a:Act)(w:World):Prop:=∃ γ σ,SR D n k γ0 w0 γ σ a w∧K σ
def LiftK(D:Dq)(n:Nat)(k:Bool)(γ0:Gh)(w0:World)(K:AE→St→Prop):Exit→Act→World→Prop
 | .normal,a,w=>Up D n k γ0 w0 (K .normal) a w
 | .exit id,a,w=>Up D n k γ0 w0 (K (.exit id)) a w
 | .ret,a,w=>Up D n k γ0 w0 (K .ret) a w
 | _,_,_=>False
def dstOk(ps:List Nat)(n:Nat)(o:Op2):Bool:=match o.dst with | some d=>decide (d < n) && !ps.contains d | none=>true
def okT(k:Bool):Option Trim→Bool
 | none=>true
 | some t=>!(k && t.gc)
def okCp(ps:List Nat)(n:Nat)(k:Bool):AC→Bool
 | .region _ ops tr=>ops.all (dstOk ps n) && okT k tr
 | .regionA _ ops _ tr=>ops.all (dstOk ps n) && okT k tr
 | .seq a b=>okCp ps n k a && okCp ps n k b
 | .cond _ x y=>okCp ps n k x && okCp ps n k y
 | .block _ b=>okCp ps n k b
 | .loop tr b=>okCp ps n k b && okT k tr
 | .scope b=>okCp ps n k b
 | _=>true
abbrev okC(n:Nat)(k:Bool)(c:AC):Bool:=okCp [] n k c
section
variable {P:Program} {n:Nat} {k:Bool} {γ0 γ:Gh} {w0 w:World} {σ:St} {a:Act} {D:Dq}
theorem put_size(a:Act)(d:Option Nat)(v:Value):(a.put d v).tmps.size=a.tmps.size:=by cases d <;> simp [Act.put]
theorem put_defers(a:Act)(d:Option Nat)(v:Value):(a.put d v).defers=a.defers:=by cases d <;> rfl
theorem put_pin{a:Act}{d:Option Nat}{v:Value}{t:Nat}(h:d≠some t):(a.put d v).tmps.getD t Go.undef=a.tmps.getD t Go.undef:=by
 cases d with
 | none=>rfl
 | some d =>
  have:d≠t:=fun e=>h (by rw [e])
  simp [Act.put,Array.getD_eq_getD_getElem?,Array.getElem?_setIfInBounds_ne this]
theorem SR.put(h:SR D n k γ0 w0 γ σ a w){γ':Gh}{w':World}{H':Hp}{x:AV}{v:Value}{d:Option Nat}(hd:∀ t,d=some t→t < n∧D.pin t=false)(hs:Sim w' γ' x v)(hh:HRel γ' H' w')(st:Step γ γ' w w')(ids:Ids γ γ'):SR D n k γ0 w0 γ' ⟨putO σ.fr d x,H'⟩ (a.put d v) w' :=
 ⟨(h.fr.adv (st.adv ids h.hp.imm)).put hs (fun t ht=>by rw [h.sz.1]; exact(hd t ht).1),hh,h.st.trans st,by rw [put_defers]; exact h.df,by rw [put_size]; exact⟨h.sz.1,fun p hp=>(put_pin fun hdp=>by have:=(hd _ hdp).2; unfold Dq.pin at this; rw [List.contains_iff_mem.2 (List.mem_map.2 ⟨p,hp,rfl⟩)] at this; cases this).trans (h.sz.2 p hp)⟩,fun hk=>(h.ids hk).trans ids,st.q h.hp.imm h.lq⟩
theorem SR.put'(h:SR D n k γ0 w0 γ σ a w){x:AV}{v:Value}{d:Option Nat}(hd:∀ t,d=some t→t < n∧D.pin t=false)(hs:Sim w γ x v):SR D n k γ0 w0 γ (σ.put d x) (a.put d v) w :=
 h.put hd hs h.hp (Step.refl _ _) (Ids.refl _)
theorem args_sim(h:SR D n k γ0 w0 γ σ a w)(args:Array Operand):((args.toList.map cx).map (·.ev σ.fr)).length =(args.map a.eval).size ∧
  ∀(i:Nat) (x:AV) (v:Value),((args.toList.map cx).map (·.ev σ.fr))[i]?=some x →(args.map a.eval)[i]?=some v→Sim w γ x v:=by
 refine⟨by simp,fun i x v hx hv=>?_⟩
 simp only[List.getElem?_map,Array.getElem?_map] at hx hv
 rw [← Array.getElem?_toList] at hv
 cases hi:args.toList[i]? with
 | none=>rw [hi] at hx; cases hx
 | some y =>
  rw [hi] at hx hv
  simp only[Option.map_some,Option.some.injEq] at hx hv
  subst hx hv
  exact cx_sim h.fr y
theorem call_run(f:FuncId)(hc:Can P f)(args:Array Value)(w:World):(invoke (.fn (.func f) #[]) args).run P w=.ok (.enter f args) w:=by
 simp only[invoke,Array.append_empty]
 exact hc args w
theorem call_inv{d:Bool}{r:Option Nat}{o:Oper}{f:FuncId}{xs:List AX}{d':Bool}(hc:compOp P d r o=.call f xs d'):∃ args ts,o.op=.call { callee:=.value (.func f),args:=args,argTypes:=ts }∧xs=args.toList.map cx:=by
 obtain ⟨dst,op,ty,pos,after,guard⟩:=o
 cases op with
 | call c =>
  obtain ⟨callee,args,ts⟩:=c
  cases callee with
  | builtin b=>simp only[compOp] at hc; repeat' (first | (cases hc; done) | split at hc)
  | invoke=>cases hc
  | value g =>
   cases g <;> try (cases hc; done)
   simp only[compOp] at hc
   split at hc
   ·split at hc <;> cases hc
   ·cases hc; exact⟨args,ts,rfl,rfl⟩
 | typeAssert y xt t ok=>cases ok <;> simp only[compOp] at hc <;> repeat' (first | (cases hc; done) | split at hc)
 | makeFunc fn first caps=>cases fn <;> simp only[compOp] at hc <;> repeat' (first | (cases hc; done) | split at hc)
 | _=>first | (cases hc; done) | (simp only[compOp] at hc; repeat' (first | (cases hc; done) | split at hc))
theorem callv_inv{d:Bool}{r:Option Nat}{o:Oper}{x:AX}{xs:List AX}(hc:compOp P d r o=.callv x xs):∃ g args ts,o.op=.call { callee:=.value g,args:=args,argTypes:=ts }∧x=cx g∧xs=args.toList.map cx:=by
 obtain ⟨dst,op,ty,pos,after,guard⟩:=o
 cases op with
 | call c =>
  obtain ⟨callee,args,ts⟩:=c
  cases callee with
  | builtin b=>simp only[compOp] at hc; repeat' (first | (cases hc; done) | split at hc)
  | invoke=>cases hc
  | value g =>
   refine⟨g,args,ts,rfl,?_⟩
   cases g <;> first | (cases hc; exact⟨rfl,rfl⟩) | (simp only[compOp] at hc; split at hc <;>(try split at hc) <;> cases hc)
 | typeAssert y xt t ok=>cases ok <;> simp only[compOp] at hc <;> repeat' (first | (cases hc; done) | split at hc)
 | makeFunc fn first caps=>cases fn <;> simp only[compOp] at hc <;> repeat' (first | (cases hc; done) | split at hc)
 | _=>first | (cases hc; done) | (simp only[compOp] at hc; repeat' (first | (cases hc; done) | split at hc))
theorem recvI_run{H:Hp}(hh:HRel γ H w){m:String}{X y:AV}{x:Value}{f:FuncId}(hx:Sim w γ X x)(h:recvI P m H X=some (f,y)) :
  ∃ t u rv,x=.iface t u ∧(∀ k,(method (k+1) t u m).run P w=.ok (f,rv) w)∧Sim w γ y rv:=by
 cases X <;> try (cases h; done)
 rename_i F CS
 cases CS with
 | nil=>cases h
 | cons Y r =>
 cases r with
 | cons _ _=>cases h
 | nil =>
 simp only[recvI] at h
 split at h
 ·cases h
 rename_i hF
 cases hx with
 | fn _ g _ fs cs hfv hz hs =>
  exfalso
  rcases hfv with ⟨h1,_,h⟩ | ⟨h1,_,h⟩
  ·rw [h1] at hF; exact hF (Nat.lt_of_lt_of_le h (Nat.le_trans (by decide) ifB_ge))
  ·rw [h1] at hF; exact hF (Nat.lt_of_lt_of_le (Nat.add_lt_add_right h 1000000) ifB_ge)
 | ifc t _ u hs =>
 have hT:ifB+t - ifB=t:=Nat.add_sub_cancel_left ifB t
 rw [hT] at h
 obtain ⟨⟨g,b⟩,hm,h⟩:=Option.bind_eq_some_iff.1 h
 unfold methI at hm
 obtain ⟨i,hi,hm⟩:=Option.bind_eq_some_iff.1 hm
 obtain ⟨k,hk,hm⟩:=Option.bind_eq_some_iff.1 hm
 unfold recvT at h
 split at h
 case h_2=>cases h
 rename_i e ht
 dsimp only at h
 split at hm
 case isFalse=>cases hm
 rename_i hpath
 have hp:k.path=#[]:=by simpa using hpath
 cases b with
 | true =>
  simp only[if_true] at h
  cases h
  refine⟨t,u,u,rfl,fun n=>?_,hs⟩
  simp [method,typeInfo,hi,hk,hp,hm,follow,receiverAt,run_underlying ht,Place.get]
 | false =>
  simp only[Bool.false_eq_true,if_false] at h
  split at h
  case isFalse=>cases h
  rename_i hok
  obtain ⟨v,hv,h⟩:=Option.map_eq_some_iff.1 h
  cases h
  obtain ⟨rv,hrv,hsv⟩:=load_run (fr:=[]) (X:=.c Y) hh hok hs hv
  obtain ⟨A,rfl⟩:∃ A,u=.pointer (some A):=by
   simp only[evR,AX.ev] at hv
   cases Y <;> try (cases hv; done)
   ·cases hs; exact⟨_,rfl⟩
   ·cases hs; exact⟨_,rfl⟩
  refine⟨t,_,rv,rfl,fun n=>?_,hsv⟩
  have hw:∀(s q:ByteArray),(Builtin.ssaWrapNilChk_ #[t] t #[.pointer (some A),.string s,.string q]).run P w=.ok (.pointer (some A)) w:=fun s q=>rfl
  have hrv':(loadVar e A).run P w=.ok rv w:=by simpa [Instr.loadAt,Instr.sureAddr] using hrv
  simp [method,typeInfo,hi,hk,hp,hm,follow,receiverAt,run_underlying ht,Place.get,hw,strVal,asAddr,hrv']
theorem calli_inv{d:Bool}{r:Option Nat}{o:Oper}{m:String}{x:AX}{xs:List AX}(hc:compOp P d r o=.calli m x xs):∃ g args ts,o.op=.call { callee:=.invoke g m,args:=args,argTypes:=ts }∧x=cx g∧xs=args.toList.map cx:=by
 obtain ⟨dst,op,ty,pos,after,guard⟩:=o
 cases op with
 | call c =>
  obtain ⟨callee,args,ts⟩:=c
  cases callee with
  | builtin b=>simp only[compOp] at hc; repeat' (first | (cases hc; done) | split at hc)
  | invoke g m=>cases hc; exact⟨_,_,_,rfl,rfl,rfl⟩
  | value g=>cases g <;> first | (cases hc; done) | (simp only[compOp] at hc; split at hc <;>(try split at hc) <;> cases hc)
 | makeFunc fn first caps=>cases fn <;> simp only[compOp] at hc <;> repeat' (first | (cases hc; done) | split at hc)
 | typeAssert y xt t ok=>cases ok <;> simp only[compOp] at hc <;> repeat' (first | (cases hc; done) | split at hc)
 | _=>first | (cases hc; done) | (simp only[compOp] at hc; repeat' (first | (cases hc; done) | split at hc))
theorem aw1_sound{o:Oper}{o2:Op2}{d:Bool}{r:Option Nat}{base:Nat}{K:St→Prop}{Q:Exit→Act→World→Prop}(h:SR D n k γ0 w0 γ σ a w)(hop:o2.op=compOp P d r o)(hdst:o2.dst=o.dst)(hd:∀ t,o.dst=some t→t < n∧D.pin t=false)
  (hx:aw1 P base o2 σ K):o.wp P a w (Up D n k γ0 w0 K) Q:=by
 unfold aw1 at hx
 unfold Oper.wp
 rw [hop,hdst] at hx
 cases hc:compOp P d r o with
 | p q =>
  rw [hc] at hx
  dsimp only at hx
  split at hx
  ·rename_i x he
   obtain ⟨v,hr,hs⟩:=evP_sound h.fr hc he
   rw [hr]
   exact⟨γ,_,h.put' hd hs,hx⟩
  ·exact hx.elim
 | r q =>
  rw [hc] at hx
  dsimp only at hx
  split at hx
  ·rename_i x he
   obtain ⟨v,hr,hs⟩:=evR_sound h.fr h.hp hc he
   rw [hr]
   exact⟨γ,_,h.put' hd hs,hx.2⟩
  ·exact hx.elim
 | e q r' =>
  rw [hc] at hx
  dsimp only at hx
  split at hx
  ·rename_i p he
   obtain ⟨x,H'⟩:=p
   obtain ⟨nx,w',γ',hr,hv,hh,st,ids⟩:=evE_sound h.fr h.hp hc he
   rw [hr]
   rcases hv with ⟨v,rfl,hs⟩ | ⟨rfl,rfl⟩
   ·exact⟨γ',_,h.put hd hs hh st ids,hx⟩
   ·exact⟨γ',_,h.put hd (.undef _) hh st ids,hx⟩
  ·exact hx.elim
 | bad=>rw [hc] at hx; exact hx.elim
 | calli m x xs =>
  rw [hc] at hx
  dsimp only at hx
  split at hx
  case h_2=>exact hx.elim
  rename_i f y hev
  obtain ⟨r',H',⟨hcan,hg⟩,_,hK⟩:=hx
  obtain ⟨g,args,ts,ho,rfl,rfl⟩:=calli_inv hc
  obtain ⟨t,u,rv,hgv,hmeth,hsy⟩:=recvI_run h.hp (cx_sim h.fr g (γ:=γ)) hev
  obtain ⟨h1,h2⟩:=args_sim h args
  have hrun:(execOp a.eval o).run P w=.ok (.enter f (#[rv] ++ args.map a.eval)) w:=by
   have e1:(#[Value.iface t u] ++ args.map a.eval).extract 1 (#[Value.iface t u] ++ args.map a.eval).size=args.map a.eval:=by
    apply Array.ext'
    simp [List.take_of_length_le]
   have e0:(#[Value.iface t u] ++ args.map a.eval)[0]?=some (.iface t u):=by rw [Array.getElem?_append_left (by simp)]; rfl
   have hd:∃ k,P.types.size+Made.depth=k+1:=⟨P.types.size +(Made.depth - 1),by unfold Made.depth; omega⟩
   obtain ⟨k,hk⟩:=hd
   have hcan':=hcan (#[rv] ++ args.map a.eval) w
   have hm:(callMethod (.iface t u) m (args.map a.eval)).run P w=.ok (.enter f (#[rv] ++ args.map a.eval)) w:=by
    simp only[callMethod,Sem.run_bind,run_program,Result.andThen_ok,hk,hmeth]
    exact hcan'
   have hi:(invoke (.fn (.method m) #[]) (#[Value.iface t u] ++ args.map a.eval))=callMethod (.iface t u) m (args.map a.eval):=by
    rw [← e1]
    simp only[invoke,e0,e1]
   have hex:execOp a.eval o =(do let d ← (pure { target:=.fn (.method m) #[],args:=#[a.eval g] ++ args.map a.eval }:Sem Deferred); invoke d.target d.args):=by simp only[execOp,ho,resolve]
   rw [hex]
   simp only[Sem.run_bind,Sem.run_pure,Result.andThen_ok,hgv]
   rw [hi,hm]
  rw [hrun]
  have hboth:((y :: (args.toList.map cx).map (·.ev σ.fr)).length =(#[rv] ++ args.map a.eval).size)∧∀(i:Nat) (x:AV) (v:Value),(y :: (args.toList.map cx).map (·.ev σ.fr))[i]?=some x →(#[rv] ++ args.map a.eval)[i]?=some v→Sim w γ x v:=by
   refine⟨by simp [Nat.add_comm],fun i x v hx hv=>?_⟩
   cases i with
   | zero =>
    rw [Array.getElem?_append_left (by simp)] at hv
    simp at hx hv; subst hx hv; exact hsy
   | succ i =>
    refine h2 i x v (by simpa using hx) ?_
    rw [Array.getElem?_append_right (by simp)] at hv
    simpa using hv
  refine Calls.mono (hg w γ _ h.lq h.hp hboth.1 hboth.2) ?_
  rintro e W ⟨v,γ',rfl,hs,hh,st,ids⟩
  exact⟨γ',_,h.put hd hs hh st ids,hK⟩
 | call f xs d' =>
  rw [hc] at hx
  obtain ⟨y,H',⟨hcan,hg⟩,_,hK⟩:=hx
  obtain ⟨args,ts,ho,rfl⟩:=call_inv hc
  obtain ⟨h1,h2⟩:=args_sim h args
  have hrun:(execOp a.eval o).run P w=.ok (.enter f (args.map a.eval)) w:=by
   have:=call_run (P:=P) f hcan (args.map a.eval) w
   simpa [execOp,ho,resolve,Deferred.ofValue,Act.eval] using this
  rw [hrun]
  refine Calls.mono (hg w γ _ h.lq h.hp h1 h2) ?_
  rintro e W ⟨v,γ',rfl,hs,hh,st,ids⟩
  exact⟨γ',_,h.put hd hs hh st ids,hK⟩
 | callv x xs =>
  rw [hc] at hx
  dsimp only at hx
  split at hx
  case h_2=>exact hx.elim
  rename_i f caps hev
  obtain ⟨hf2,y,H',⟨hcan,hg⟩,_,hK⟩:=hx
  obtain ⟨g,args,ts,ho,rfl,rfl⟩:=callv_inv hc
  have hsim:=cx_sim h.fr g (γ:=γ)
  rw [hev] at hsim
  generalize hv:a.eval g=gv at hsim
  cases hsim with
  | ifc t=>exact absurd hf2 (Nat.not_lt.2 (Nat.le_add_right _ _))
  | fn _ g' _ fs cs hfv hz hsc =>
  obtain ⟨h1,h2⟩:=args_sim h args
  have hrun:(execOp a.eval o).run P w=.ok (.enter (fnId f) (fs ++(args.map a.eval ++ cs))) w:=by
   have e:fnId f=g':=by
    unfold fnId
    rcases hfv with ⟨rfl,_,hl⟩ | ⟨rfl,_⟩
    ·rw [if_pos hl]
    ·exact(if_neg (Nat.not_lt.2 (Nat.le_add_left _ _))).trans (Nat.add_sub_cancel _ _)
   rw [e] at hcan ⊢
   have:=hcan (fs ++(args.map a.eval ++ cs)) w
   simpa [execOp,ho,resolve,Deferred.ofValue,hv,invoke] using this
  rw [hrun]
  have hboth:(fnArgs f ((args.toList.map cx).map (·.ev σ.fr)) caps).length =(fs ++(args.map a.eval ++ cs)).size∧∀(i:Nat) (x:AV) (v:Value),(fnArgs f ((args.toList.map cx).map (·.ev σ.fr)) caps)[i]?=some x →(fs ++(args.map a.eval ++ cs))[i]?=some v→Sim w γ x v:=by
   unfold fnArgs
   rcases hfv with ⟨rfl,rfl,hl⟩ | ⟨rfl,rfl,_⟩
   ·rw [if_pos hl,Array.empty_append]
    rw [Array.empty_append] at hz hsc
    refine⟨by rw [List.length_append,Array.size_append,h1,hz],?_⟩
    intro i x v hx hv
    rw [Array.getElem?_append] at hv
    by_cases hi:i <(args.map a.eval).size
    ·rw [if_pos hi] at hv
     rw [List.getElem?_append_left (by rw [h1]; exact hi)] at hx
     exact h2 i x v hx hv
    ·rw [if_neg hi] at hv
     rw [List.getElem?_append_right (by rw [h1]; omega)] at hx
     rw [h1] at hx
     exact hsc _ x v hx hv
   ·rw [if_neg (Nat.not_lt.2 (Nat.le_add_left _ _)),Array.append_empty]
    rw [Array.append_empty] at hz hsc
    refine⟨by rw [List.length_append,Array.size_append,h1,hz],?_⟩
    intro i x v hx hv
    rw [Array.getElem?_append] at hv
    by_cases hi:i < fs.size
    ·rw [if_pos hi] at hv
     rw [List.getElem?_append_left (by rw [hz]; exact hi)] at hx
     exact hsc i x v hx hv
    ·rw [if_neg hi] at hv
     rw [List.getElem?_append_right (by rw [hz]; omega)] at hx
     rw [hz] at hx
     exact h2 _ x v hx hv
  refine Calls.mono (hg w γ _ h.lq h.hp hboth.1 hboth.2) ?_
  rintro e W ⟨v,γ',rfl,hs,hh,st,ids⟩
  exact⟨γ',_,h.put hd hs hh st ids,hK⟩
end
end Go.Pv
namespace Go.Pv
variable [Lq]
section
variable {P:Program} {n:Nat} {k:Bool} {γ0 γ γ':Gh} {w0 w:World} {σ:St} {a:Act} {H H':Hp} {D:Dq}
theorem wanted_of{ops:Array Oper}{j t:Nat}{want b:Bool}(hj:(ops[j]?).bind (·.dst)=some t){tmps:Array Value}(ht:tmps.getD t Go.undef=.bool b):(yielded ops tmps j == some want) =(b == want):=by
 have:tmps[t]?=some (.bool b):=by
  rw [Array.getD_eq_getD_getElem?] at ht
  cases h:tmps[t]? with
  | none=>rw [h] at ht; cases ht
  | some v=>rw [h] at ht; simp at ht; rw [ht]
 simp only[yielded,hj,Option.bind_some,this]
 cases b <;> cases want <;> rfl
theorem aw1_fix{ops:Array Oper}{i:Nat}{o:Oper}{o2:Op2}{d:Bool}{r:Option Nat}{base:Nat}{K:St→Prop}{Q:Exit→Act→World→Prop}(h:SR D n k γ0 w0 γ σ a w)(hop:o2.op=fixCall d ops i (compOp P d r o))(hdst:o2.dst=o.dst)(hd:∀ t,o.dst=some t→t < n∧D.pin t=false)
  (hx:aw1 P base o2 σ K):o.wp P a w (Up D n k γ0 w0 K) Q:=by
 rcases fixCall_cases d ops i (compOp P d r o) with e | ⟨f,xs,hf,e,e'⟩
 ·exact aw1_sound h (hop.trans e) hdst hd hx
 ·rw [e'] at hop
  obtain ⟨args,ts,ho,rfl⟩:=call_inv e
  have hc':compOp P false r o=.call f (args.toList.map cx) false:=by
   obtain ⟨dst,op,ty,pos,after,guard⟩:=o
   dsimp only at ho
   subst ho
   simp only[compOp] at e ⊢
   split at e
   ·split at e <;> cases e
   ·rename_i hi; rw [if_neg hi]
  refine aw1_sound (base:=base) (o2:={ o2 with op:=.call f (args.toList.map cx) false }) (d:=false) (r:=r) h hc'.symm hdst hd ?_
  unfold aw1 at hx ⊢
  rw [hop] at hx
  dsimp only[AX.ev] at hx ⊢
  obtain ⟨_,y,H',hg,_,hk⟩:=hx
  have e1:fnId f=f:=if_pos hf
  have e2:∀ xs:List AV,fnArgs f xs []=xs:=fun xs=>by unfold fnArgs; rw [if_pos hf,List.append_nil]
  rw [e1,e2] at hg
  exact⟨y,H',hg,(fun h=>by cases h),hk⟩
theorem aw2_sound{ops:Array Oper}{i:Nat}{o:Oper}{d:Bool}{base:Nat}{K:St→Prop}{Q:Exit→Act→World→Prop}(h:SR D n k γ0 w0 γ σ a w)(ho:ops[i]?=some o)(hd:∀ t,o.dst=some t→t < n∧D.pin t=false)
  (hx:aw2 P base (comp2 P ops d i o) σ K):wpOp P ops Q i (Up D n k γ0 w0 K) a w:=by
 unfold wpOp
 simp only[ho]
 unfold aw2 at hx
 cases hg:o.guard with
 | none =>
  have e1:(comp2 P ops d i o).guard=none:=by simp [comp2,hg]
  have e2:(comp2 P ops d i o).op=fixCall d ops i (compOp P d (if d then some i else none) o):=by simp [comp2,hg]
  rw [e1] at hx
  rw [if_pos (by simp [Region.wanted,hg])]
  exact .inl (aw1_fix h e2 rfl hd hx)
 | some p =>
  obtain ⟨j,want⟩:=p
  cases hj:(ops[j]?).bind (·.dst) with
  | none =>
   have e1:(comp2 P ops d i o).guard=none:=by simp only[comp2,hg,hj]
   have e2:(comp2 P ops d i o).op=.bad:=by simp only[comp2,hg,hj]
   rw [e1] at hx
   simp only[aw1,e2] at hx
  | some t =>
   have e1:(comp2 P ops d i o).guard=some (t,want):=by simp only[comp2,hg,hj]
   have e2:(comp2 P ops d i o).op=fixCall d ops i (compOp P d (if d then some i else none) o):=by simp only[comp2,hg,hj]
   rw [e1] at hx
   dsimp only at hx
   split at hx
   case h_3=>exact hx.elim
   ·rename_i b hb
    have hs:=h.fr t
    rw [hb] at hs
    have hw:=wanted_of (want:=want) hj (bool_inv hs)
    have hw':Region.wanted o (yielded ops a.tmps) =(b == want):=by simp only[Region.wanted,hg]; exact hw
    rw [hw']
    by_cases hbw:b=want
    ·rw [if_pos hbw] at hx
     rw [if_pos (by simpa using hbw)]
     exact .inl (aw1_fix h e2 rfl hd hx)
    ·rw [if_neg hbw] at hx
     rw [if_neg (by simpa using hbw)]
     exact⟨γ,_,h.put' hd (.lit _),hx⟩
   ·rename_i v hb
    have hs:=h.fr t
    rw [hb] at hs
    have hv:a.tmps.getD t Go.undef=v:=by
     generalize a.tmps.getD t Go.undef=u at hs
     cases hs; rfl
    have hw':Region.wanted o (yielded ops a.tmps)=false:=by
     simp only[Region.wanted,hg]
     have hy:yielded ops a.tmps j=none:=by
      simp only[yielded,hj,Option.bind_some]
      cases hq:a.tmps[t]? with
      | none=>rfl
      | some u =>
       rw [Array.getD_eq_getD_getElem?,hq] at hv
       simp only[Option.getD_some] at hv
       subst hv
       cases u <;> first | rfl | cases hx.1
     rw [hy]; rfl
    rw [hw',if_neg (by simp)]
    exact⟨γ,_,h.put' hd (.lit _),hx.2⟩
theorem comp2_dst(ops:Array Oper)(d:Bool)(i:Nat)(o:Oper):(comp2 P ops d i o).dst=o.dst:=rfl
theorem awOps_sound{ops:Array Oper}{base:Nat}{K:St→Prop}{Q:Exit→Act→World→Prop}(hQ:∀ a w,Up D n k γ0 w0 K a w→Q .normal a w):∀(l:List Oper) (q:Nat) (γ:Gh) (σ:St) (a:Act) (w:World),
  (∀ j,l[j]?=ops[q+j]?) →(∀ o∈l,∀ t,o.dst=some t→t < n∧D.pin t=false)→SR D n k γ0 w0 γ σ a w→awOps P base ((l.zipIdx q).map fun p=>comp2 P ops false p.2 p.1) σ K→wpOps P ops Q (List.range' q l.length) a w
 | [],q,γ,σ,a,w,_,_,h,hx=>hQ a w ⟨γ,σ,h,hx⟩
 | o :: l,q,γ,σ,a,w,hl,hd,h,hx=>by
  have ho:ops[q]?=some o:=by have:=hl 0; simpa using this.symm
  simp only[List.zipIdx_cons,List.map_cons,awOps] at hx
  rw [List.length_cons,List.range'_succ,wpOps_cons]
  refine wpOp_mono ?_ (aw2_sound h ho (hd o (by simp)) hx)
  rintro a' w' ⟨γ',σ',h',hx'⟩
  exact awOps_sound hQ l (q+1) γ' σ' a' w' (fun j=>by have:=hl (j+1); simpa [Nat.add_assoc,Nat.add_comm 1] using this) (fun o ho=>hd o (by simp [ho])) h' hx'
theorem get_map(fr:Fr):∀(ks:List Nat) (t:Nat),get (ks.map fun k=>(k,get fr k)) t=get fr t∨get (ks.map fun k=>(k,get fr k)) t=.undef
 | [],t=>.inr rfl
 | k :: ks,t=>by
  simp only[List.map_cons,get]
  by_cases h:k=t
  ·rw [if_pos h,h]; exact .inl rfl
  ·rw [if_neg h]; exact get_map fr ks t
theorem mapO_len{f:AV→Option AV}:∀ {xs ys:List AV},mapO f xs=some ys→ys.length=xs.length
 | [],ys,h=>by simp only[mapO,Option.some.injEq] at h; subst h; rfl
 | x :: xs,ys,h=>by
  simp only[mapO] at h
  obtain ⟨y,_,h⟩:=Option.bind_eq_some_iff.1 h
  obtain ⟨zs,hz,rfl⟩:=Option.map_eq_some_iff.1 h
  simp [mapO_len hz]
theorem mapO_at{f:AV→Option AV}:∀ {xs ys:List AV},mapO f xs=some ys→∀(i:Nat) (y:AV),ys[i]?=some y→∃ x,xs[i]?=some x∧f x=some y
 | [],ys,h,i,y,hy=>by simp only[mapO,Option.some.injEq] at h; subst h; simp at hy
 | x :: xs,ys,h,i,y,hy=>by
  simp only[mapO] at h
  obtain ⟨z,hz0,h⟩:=Option.bind_eq_some_iff.1 h
  obtain ⟨zs,hz,rfl⟩:=Option.map_eq_some_iff.1 h
  cases i with
  | zero=>simp at hy; subst hy; exact⟨x,rfl,hz0⟩
  | succ i=>exact mapO_at hz i y (by simpa using hy)
theorem frzRow_sound(h:SR D n k γ0 w0 γ σ a w)(id:Nat):∃ γ',SR D n k γ0 w0 γ' (frzRow σ id) a w:=by
 unfold frzRow
 split
 case h_2=>exact⟨γ,h⟩
 rename_i e he
 split
 case h_2=>exact⟨γ,h⟩
 rename_i es hes
 split
 case isTrue=>exact⟨γ,h⟩
 rename_i hni
 generalize hl:e.es.flatMap (rows σ.hp deep)=l at hni ⊢
 have hid:id ∉ l:=by simpa using hni
 have hh:=h.hp
 let J:Nat→Prop:=fun b=>γ.imm b∨∃ i∈l,∃ ge,γ.m i=some ge∧ge.st≠0∧ge.blk=some b
 have adv:Adv γ (γ.still l J) w w:=⟨Nat.le_refl _,fun b hb=>⟨.inl hb,fun _=>rfl⟩,fun i ge hm=>by
  simp only[Gh.still,hm,Option.map_some]
  split
  ·exact⟨1,rfl⟩
  ·exact⟨ge.st,rfl⟩⟩
 have advJ:Adv (bareG J) (γ.still l J) w w:=⟨Nat.le_refl _,fun b hb=>⟨hb,fun _=>rfl⟩,fun i ge hm=>by cases hm⟩
 have hset:∀ j,Pv.ent (σ.hp.set id (some { e with es:=es })) j=if j=id then some { e with es:=es } else Pv.ent σ.hp j:=fun j=>ent_set (e':={ e with es:=es }) he j
 have hR:HRel (γ.still l J) (still (σ.hp.set id (some { e with es:=es })) l) w:=by
  refine⟨?_,?_,?_,?_,?_⟩
  ·intro i hi
   rw [still_ent,hset] at hi
   by_cases hj:i=id
   ·rw [if_pos hj] at hi; cases hi
   ·rw [if_neg hj] at hi
    have:Pv.ent σ.hp i=none:=by
     cases h:Pv.ent σ.hp i with
     | none=>rfl
     | some e=>rw [h] at hi; cases hi
    simp [Gh.still,hh.none i this]
  ·intro i e1 hi
   rw [still_ent,hset] at hi
   by_cases hj:i=id
   ·subst hj
    rw [if_pos rfl] at hi
    simp only[Option.map_some,Option.some.injEq,if_neg hid] at hi
    subst hi
    obtain ⟨ge,hm,hok⟩:=hh.ok i e he
    refine⟨ge,by simp [Gh.still,hm,hid],?_⟩
    have hlen:=mapO_len hes
    rcases hok with h0 | h0
    ·refine .inl ⟨h0.1,h0.2.1,?_⟩
     have:=h0.2.2
     rw [this] at hlen
     exact List.eq_nil_of_length_eq_zero (by simpa using hlen)
    ·have hok2:EntOk w γ e ge:=.inr h0
     refine .inr ⟨h0.1,?_⟩
     rcases h0.2 with h1 | ⟨g,cs,fr,h1,h2,h3,h4,h5,h6⟩
     ·refine .inl ⟨h1.1,?_,h1.2.2⟩
      rw [h1.2.1] at hlen
      exact List.eq_nil_of_length_eq_zero (by simpa using hlen)
     ·refine .inr ⟨g,cs,fr,h1,h2,h3,h4,by rw [hlen]; exact h5,fun q x hx=>?_⟩
      obtain ⟨x0,hx0,hsn⟩:=mapO_at hes q x hx
      have hHold:Holds γ (rows σ.hp deep x0) J:=by
       intro i2 hi2 ge2 b2 g1 g2 g3
       refine .inr ⟨i2,?_,ge2,g1,g2,g3⟩
       rw [← hl]
       exact List.mem_flatMap.2 ⟨x0,List.mem_of_getElem? hx0,hi2⟩
      obtain ⟨p1,p2⟩:=elem_snap hh (fun b hb=>Or.inl hb) hok2 h1 hx0 hsn hHold
      refine⟨p1,fun j y hy=>?_⟩
      obtain ⟨u,c1,c2,c3⟩:=p2 j y hy
      refine⟨u,?_,c2,c3.adv advJ⟩
      simpa [World.cell?,h2] using c1
   ·rw [if_neg hj] at hi
    obtain ⟨e0,he0,rfl⟩:=Option.map_eq_some_iff.1 hi
    obtain ⟨ge,hm,hok⟩:=hh.ok i e0 he0
    have hokW:=hok.adv adv fun g _ _=>rfl
    refine⟨(if i∈l∧ge.st≠0 then { ge with st:=1 } else ge),by simp only[Gh.still,hm,Option.map_some],?_⟩
    by_cases hid':i∈l
    ·rw [if_pos hid']
     by_cases h0:ge.st=0
     ·rw [if_neg (fun h=>h.2 h0)]
      rcases hokW with h | h
      ·exact .inl ⟨h.1,rfl,h.2.2⟩
      ·exfalso
       have:=h.1
       rw [h0] at this
       split at this <;> cases this
     ·rw [if_pos ⟨hid',h0⟩]
      rcases hokW with h | h
      ·exact absurd h.1 h0
      ·exact .inr ⟨rfl,h.2⟩
    ·rw [if_neg hid',if_neg (fun h=>hid' h.1)]
     exact hokW
  ·intro i j x y b hi hj hx hy hbx hby
   obtain ⟨x0,h1,h2,h3,_⟩:=still_look hi
   obtain ⟨y0,k1,k2,k3,_⟩:=still_look hj
   exact hh.inj i j x0 y0 b h1 k1 (fun h=>hx (h3.2 h)) (fun h=>hy (k3.2 h)) (by rw [← h2]; exact hbx) (by rw [← k2]; exact hby)
  ·intro b hb
   refine⟨?_,?_⟩
   ·rcases hb with hb | ⟨i,_,ge,h1,h2,h3⟩
    ·exact(hh.imm b hb).1
    ·exact hh.blkLt h1 h2 h3
   ·rintro ⟨i,ge,hm,hst2,hb2⟩
    obtain ⟨x,h1,h2,_,h4,_⟩:=still_look hm
    obtain ⟨h5,h6⟩:=h4 hst2
    have hx0:x.st≠0:=by rw [h6]; decide
    have hxb:x.blk=some b:=by rw [← h2]; exact hb2
    rcases hb with hb | ⟨i',hi',ge',hm',hst',hb'⟩
    ·exact(hh.imm b hb).2 ⟨i,x,h1,h6,hxb⟩
    ·have e:=hh.inj i' i ge' x b hm' h1 hst' hx0 hb' hxb
     subst e
     exact h5 hi'
  ·intro i ge b hm hst1 hb
   obtain ⟨x,h1,h2,_,_,h5⟩:=still_look hm
   have hxb:x.blk=some b:=by rw [← h2]; exact hb
   rcases h5 hst1 with h | ⟨h,h0⟩
   ·exact .inl (hh.stl i x b h1 h hxb)
   ·exact .inr ⟨i,h,x,h1,h0,hxb⟩
 have hids:Ids γ (γ.still l J):=adv.id
 have hst:Step γ (γ.still l J) w w:=⟨rfl,rfl,rfl,Nat.le_refl _,fun _ _ _=>rfl,fun b ⟨i,ge,h1,h2,h3⟩=>by
   obtain ⟨x,k1,k2,_,k4,_⟩:=still_look h1
   exact .inl ⟨i,x,k1,(k4 h2).2,by rw [← k2]; exact h3⟩,fun b hb=>.inl hb,fun b hb=>by
   rcases hb with hb | ⟨i,_,ge,h1,h2,h3⟩
   ·exact .inl hb
   ·rcases st_cases hh h1 with h | h | h
    ·exact absurd h h2
    ·exact .inl (hh.stl i ge b h1 h h3)
    ·exact .inr (.inl ⟨i,ge,h1,h,h3⟩)⟩
 exact⟨_,fun t=>(h.fr t).adv adv,hR,h.st.trans hst,h.df,h.sz,fun hk=>(h.ids hk).trans hids,hst.q h.hp.imm h.lq⟩
theorem frzSlot_sound(h:SR D n k γ0 w0 γ σ a w)(x:AV):∃ γ',SR D n k γ0 w0 γ' (frzSlot σ x) a w:=by
 unfold frzSlot
 split
 ·exact frzRow_sound h _
 ·exact frzRow_sound h _
 ·exact⟨γ,h⟩
theorem frzFld_sound(h:SR D n k γ0 w0 γ σ a w)(f:Nat)(x:AV):∃ γ',SR D n k γ0 w0 γ' (frzFld σ f x) a w:=by
 unfold frzFld
 split
 ·split
  ·exact frzSlot_sound h _
  ·exact⟨γ,h⟩
 ·exact⟨γ,h⟩
theorem rowOne_sound(h:SR D n k γ0 w0 γ σ a w)(r:Nat × Nat × TypeId):∃ γ',SR D n k γ0 w0 γ' (rowOne σ r) a w:=by
 unfold rowOne
 split
 ·exact frzSlot_sound h _
 split
 ·exact frzFld_sound h _ _
 split
 ·rename_i sz hg
  have hs:=h.fr r.1
  rw [hg] at hs
  have hn:new 0 none σ.hp ⟨r.2.2,[],true⟩=some (σ.hp.length,σ.hp ++ [some ⟨r.2.2,[],true⟩]):=rfl
  obtain ⟨h1,h2,h3⟩:=hrel_new h.hp hn (w':=w) (ge:=⟨none,r.2.1,0,2⟩) rfl ⟨rfl,rfl,rfl,Nat.le_refl _,fun _ _ _=>rfl⟩ (fun _ _=>rfl) (fun g hg=>by cases hg) (fun _=>.inr ⟨rfl,.inl ⟨rfl,rfl,rfl⟩⟩)
  refine⟨_,?_,h1,h.st.trans h2,h.df,h.sz,fun hk=>(h.ids hk).trans h3,h2.q h.hp.imm h.lq⟩
  intro t
  rw [get_put]
  by_cases ht:r.1=t
  ·rw [if_pos ht,← ht]
   generalize a.tmps.getD r.1 Go.undef=v at hs
   cases hs with
   | sl _ _ _ _ _ _ _ hp=>simp at hp
   | sl0 _ _ A cap hc =>
    rw [hc rfl]
    exact .vec _ _ 0 0 A 0 _ (Gh.add_same _ _ _) rfl (Nat.le_refl _) rfl (fun _=>rfl) (fun g hg _=>by cases hg)
  ·rw [if_neg ht]
   exact(h.fr t).adv (h2.adv h3 h.hp.imm)
 ·exact⟨γ,h⟩
theorem rows_sound:∀(l:List (Nat × Nat × TypeId)) (γ:Gh) (σ:St),SR D n k γ0 w0 γ σ a w→∃ γ',SR D n k γ0 w0 γ' (l.foldl rowOne σ) a w
 | [],γ,σ,h=>⟨γ,h⟩
 | r :: l,γ,σ,h=>by
  obtain ⟨γ1,h1⟩:=rowOne_sound h r
  exact rows_sound l γ1 _ h1
theorem dedup_nodup:∀(l acc:List Nat),acc.Nodup →(dedup acc l).Nodup
 | [],acc,h=>by
  simp only[dedup,List.Nodup,List.pairwise_reverse]
  exact h.imp fun h e=>h e.symm
 | x :: l,acc,h=>by
  simp only[dedup]
  split
  ·exact dedup_nodup l acc h
  ·rename_i hx
   exact dedup_nodup l (x :: acc) (List.nodup_cons.2 ⟨by simpa using hx,h⟩)
theorem place_get:∀(l:List Nat) (id i:Nat),place l id=some i→l[i]?=some id
 | [],_,_,h=>by cases h
 | x :: l,id,i,h=>by
  simp only[place] at h
  split at h
  ·rename_i hx; cases h; simp [hx]
  ·obtain ⟨j,hj,rfl⟩:=Option.map_eq_some_iff.1 h
   simpa using place_get l id j hj
def Gh.only(γ:Gh)(l:List Nat):Gh:=⟨fun i=>(l[i]?).bind γ.m,γ.imm⟩
theorem Sim.ren{l:List Nat}:∀(k:Nat) {x:AV} {v:Value},Sim w γ x v→Sim w (γ.only l) (renX l k x) v
 | 0,x,v,_=>.undef v
 | k+1,x,v,h=>by
  cases h with
  | undef v=>exact .undef v
  | bool b=>exact .bool b
  | anyb b=>exact .anyb b
  | int k n=>exact .int k n
  | str s=>exact .str s
  | lit v=>exact .lit v
  | sl0 sz full A cap hc=>exact .sl0 sz full A cap hc
  | sl sz es full b off cap U hp hc hf hb hi hz hcell hs=>exact .sl sz es full b off cap U hp hc hf hb hi hz hcell hs
  | rptr x off b o U hb hi hcell hs=>exact .rptr x off b o U hb hi hcell hs
  | vec id sz off len A cap ge hm hz hlC hcC hN hA =>
   simp only[renX]
   split
   ·rename_i i hi
    exact .vec i sz off len A cap ge (by simp [Gh.only,place_get l id i hi,hm]) hz hlC hcC hN hA
   ·exact .undef _
  | eptr id i off g ge hm hg =>
   simp only[renX]
   split
   ·rename_i j hj
    exact .eptr j i off g ge (by simp [Gh.only,place_get l id j hj,hm]) hg
   ·exact .undef _
  | fn f g xs fs cs hv' hz hs =>
   refine .fn f g _ fs cs hv' (by simpa using hz) fun i x v hx hv=>?_
   rw [List.getElem?_map] at hx
   obtain ⟨y,hy,rfl⟩:=Option.map_eq_some_iff.1 hx
   exact Sim.ren k (hs i y v hy hv)
  | ifc t x v hs=>exact .ifc t _ v (Sim.ren k hs)
  | agg xs cs hz hs =>
   refine .agg _ cs (by simpa using hz) fun i x v hx hv=>?_
   rw [List.getElem?_map] at hx
   obtain ⟨y,hy,rfl⟩:=Option.map_eq_some_iff.1 hx
   exact Sim.ren k (hs i y v hy hv)
  | tup xs cs hz hs =>
   refine .tup _ cs (by simpa using hz) fun i x v hx hv=>?_
   rw [List.getElem?_map] at hx
   obtain ⟨y,hy,rfl⟩:=Option.map_eq_some_iff.1 hx
   exact Sim.ren k (hs i y v hy hv)
theorem ren_flat(l:List Nat)(k:Nat)(x:AV):∃ q,(renX l (k+1) x).flat=x.flat.map (renX l q):=by
 by_cases hx:∃ cs,x=.agg cs
 ·obtain ⟨cs,rfl⟩:=hx
  exact⟨k,rfl⟩
 ·have hx':∀ cs,x≠.agg cs:=fun cs e=>hx ⟨cs,e⟩
  refine⟨k+1,?_⟩
  rw [flat_one hx']
  have:∀ cs,renX l (k+1) x≠.agg cs:=by
   intro cs e
   cases x <;> simp only[renX] at e <;> try (cases e; done)
   ·split at e <;> cases e
   ·split at e <;> cases e
   ·exact hx' _ rfl
  rw [flat_one this]; rfl
theorem get_mapv(f:AV→AV)(hf:f .undef=.undef):∀(fr:Fr) (t:Nat),get (fr.map fun p=>(p.1,f p.2)) t=f (get fr t)
 | [],t=>by simp [get,hf]
 | (k,x) :: r,t=>by
  simp only[List.map_cons,get]
  split
  ·rfl
  ·exact get_mapv f hf r t
theorem gc_sound(h:SR D n k γ0 w0 γ σ a w)(hk:k=false):∃ γ',SR D n k γ0 w0 γ' (gcSt σ) a w:=by
 unfold gcSt
 generalize hl:dedup [] (σ.fr.flatMap fun p=>idsOf σ.hp deep p.2)=l
 have hnd:l.Nodup:=by rw [← hl]; exact dedup_nodup _ _ List.nodup_nil
 have hown:∀ b,(γ.only l).owns b→γ.owns b:=by
  rintro b ⟨i,ge,h1,h2,h3⟩
  simp only[Gh.only] at h1
  obtain ⟨id,_,hm⟩:=Option.bind_eq_some_iff.1 h1
  exact⟨id,ge,hm,h2,h3⟩
 have hent:∀ i,ent (l.map fun id=>renE l (ent σ.hp id)) i =((l[i]?).bind fun id=>ent σ.hp id).map fun e=>{ e with es:=e.es.map (renX l deep) }:=by
  intro i
  simp only[ent,List.getElem?_map]
  cases l[i]? with
  | none=>rfl
  | some id=>simp [renE,ent]
 refine⟨γ.only l,?_,⟨?_,?_,?_,?_,?_⟩,?_,h.df,h.sz,fun h=>(by rw [hk] at h; cases h),h.lq⟩
 ·intro t
  rw [get_mapv (renX l deep) rfl]
  exact(h.fr t).ren deep
 ·intro i hi
  rw [hent] at hi
  simp only[Gh.only]
  cases hli:l[i]? with
  | none=>rfl
  | some id =>
   rw [hli] at hi
   simp only[Option.bind_some,Option.map_eq_none_iff] at hi
   exact h.hp.none id hi
 ·intro i e hi
  rw [hent] at hi
  obtain ⟨e0,he0,rfl⟩:=Option.map_eq_some_iff.1 hi
  obtain ⟨id,hid,he0⟩:=Option.bind_eq_some_iff.1 he0
  obtain ⟨ge,hm,hok⟩:=h.hp.ok id e0 he0
  refine⟨ge,by simp [Gh.only,hid,hm],?_⟩
  rcases hok with ⟨h1,h2,h3⟩ | ⟨h1,h2⟩
  ·exact .inl ⟨h1,h2,by simp [h3]⟩
  ·refine .inr ⟨h1,?_⟩
   rcases h2 with ⟨k1,k2,k3⟩ | ⟨g,cs,fr,k1,k2,k3,k4,k5,k6⟩
   ·exact .inl ⟨k1,by simp [k2],k3⟩
   ·refine .inr ⟨g,cs,fr,k1,k2,k3,k4,by simpa using k5,fun j x hx=>?_⟩
    rw [List.getElem?_map] at hx
    obtain ⟨y,hy,rfl⟩:=Option.map_eq_some_iff.1 hx
    obtain ⟨q,hq⟩:=ren_flat l 5 y
    have hq':(renX l deep y).flat=y.flat.map (renX l q):=hq
    rw [hq']
    refine⟨by simpa using (k6 j y hy).1,fun j' z hz=>?_⟩
    rw [List.getElem?_map] at hz
    obtain ⟨z0,hz0,rfl⟩:=Option.map_eq_some_iff.1 hz
    obtain ⟨u,u1,u2,u3⟩:=(k6 j y hy).2 j' z0 hz0
    exact⟨u,u1,u2,u3.ren q⟩
 ·intro i j x y b hi hj hx hy hbx hby
  simp only[Gh.only] at hi hj
  obtain ⟨id,h1,h2⟩:=Option.bind_eq_some_iff.1 hi
  obtain ⟨id',k1,k2⟩:=Option.bind_eq_some_iff.1 hj
  have e:=h.hp.inj id id' x y b h2 k2 hx hy hbx hby
  subst e
  obtain ⟨l1,l2⟩:=List.getElem?_eq_some_iff.1 h1
  obtain ⟨m1,m2⟩:=List.getElem?_eq_some_iff.1 k1
  exact(List.getElem_inj hnd).1 (l2.trans m2.symm)
 ·intro b hb
  exact⟨(h.hp.imm b hb).1,fun h1=>(h.hp.imm b hb).2 (hown b h1)⟩
 ·intro i ge b hi hs hb
  simp only[Gh.only] at hi
  obtain ⟨id,_,h2⟩:=Option.bind_eq_some_iff.1 hi
  exact h.hp.stl id ge b h2 hs hb
 ·exact⟨h.st.os,h.st.tape,h.st.output,h.st.size,h.st.keep,fun b hb=>h.st.own b (hown b hb),h.st.immk,h.st.immn⟩
theorem trim_sound(h:SR D n k γ0 w0 γ σ a w)(tr:Option Trim)(ht:okT k tr=true):∃ γ',SR D n k γ0 w0 γ' (trim tr σ) a w:=by
 cases tr with
 | none=>exact⟨γ,h⟩
 | some t =>
  simp only[trim]
  have h1:SR D n k γ0 w0 γ ⟨t.ks.map fun k=>(k,get σ.fr k),σ.hp⟩ a w:=⟨fun u=>by
   rcases get_map σ.fr t.ks u with e | e
   ·rw [e]; exact h.fr u
   ·rw [e]; exact .undef _,h.hp,h.st,h.df,h.sz,h.ids,h.lq⟩
  obtain ⟨γ1,h2⟩:=rows_sound t.nils γ _ h1
  split
  ·rename_i hg
   refine gc_sound h2 ?_
   cases k with
   | false=>rfl
   | true=>simp [okT,hg] at ht
  ·exact⟨γ1,h2⟩
end
end Go.Pv
