/- Part 3 of a proof that a step of one domain changes nothing of another: the machine of plain values, and what the program's functions do. -/
import Derived.Test.YtdgcdnnmodnkjaaGreatDoorG2
import Derived.Deep.AppendSrc
import Derived.Laws.MakeOwn
import Derived.Lib.ConvBytes
import Derived.Lib.SlBytesConst
set_option linter.all false
set_option linter.unusedVariables false
set_option linter.unusedSectionVars false
set_option linter.unusedSimpArgs false
set_option linter.defProp false
namespace Go.Pv
section
variable {P:Program} {w:World} {γ:Gh} {fr:Fr} {a:Act} {H:Hp}
theorem Sim.ofBare{x:AV}{v:Value}(h:Sim w γ.bare x v):Sim w γ x v :=
 h.adv ⟨Nat.le_refl _,fun _ hb=>⟨hb,fun _=>rfl⟩,fun _ _ hi=>by cases hi⟩
def Lies(w:World)(γ:Gh)(y:AV)(b o:Nat):Prop:=∀(j:Nat) (z:AV),y.flat[j]?=some z→∃ u,w.cell? ⟨b,o+j,none⟩=some u∧u.oneCell'=true∧Sim w γ z u
theorem load_lies{t:TypeId}(ht:tyOk P t=true){y z:AV}{b o off:Nat}(hl:Lies w γ y b o)(h:cells y off (P.cellsOf t) (isAg P t)=some z) :
  ∃ v,(loadVar t ⟨b,o+off,none⟩).run P w=.ok v w∧Sim w γ z v:=by
 unfold cells at h
 simp only[loadVar,Sem.run_bind,run_isAgg ht,Result.andThen_ok]
 by_cases ha:isAg P t=true
 ·rw [if_pos ha] at h ⊢
  split at h
  ·rename_i hlen
   cases h
   simp only[Sem.run_bind,run_sizeOf ht,Result.andThen_ok]
   have hn:off+P.cellsOf t≤y.flat.length∨P.cellsOf t=0:=by simp at hlen; omega
   have key:∀ j,j < P.cellsOf t→∃ z u,y.flat[off+j]?=some z∧w.cell? ⟨b,o +(off+j),none⟩=some u∧Sim w γ z u:=by
    intro j hj
    have hlt:off+j < y.flat.length:=by omega
    obtain ⟨u,h1,_,h3⟩:=hl (off+j) _ (List.getElem?_eq_getElem hlt)
    exact⟨_,u,List.getElem?_eq_getElem hlt,h1,h3⟩
   have hld:=run_loadCells (P:=P) w ⟨b,o+off,none⟩ (P.cellsOf t) (fun j=>(w.cell? ⟨b,o +(off+j),none⟩).getD Go.undef) (fun j hj=>by
    obtain ⟨z,u,_,h2,_⟩:=key j hj
    rw [Addr.add_lit,Nat.add_assoc,h2]; rfl)
   rw [hld]
   refine⟨_,rfl,.agg _ _ (by simpa using hlen) ?_⟩
   intro i x v hx hv
   rw [List.getElem?_take] at hx
   split at hx
   ·rename_i hi
    obtain ⟨z,u,h1,h2,h3⟩:=key i hi
    rw [List.getElem?_drop,h1] at hx
    cases hx
    simp only[List.getElem?_toArray,List.getElem?_map,List.getElem?_range hi,Option.map_some] at hv
    rw [h2] at hv
    cases hv
    exact h3
   ·cases hx
  ·cases h
 ·rw [if_neg ha] at h ⊢
  obtain ⟨u,h1,_,h3⟩:=hl off z h
  exact⟨u,by simp [h1],h3⟩
theorem EntOk.lies{e:Ent}{ge:GE}{g i:Nat}{y:AV}(h:EntOk w γ e ge)(hg:ge.blk=some g)(hy:e.es[i]?=some y):Lies w γ y g (i * ge.sz):=by
 rcases (h.live (.inr (by intro hn; rw [hn] at hy; simp at hy))).2 with ⟨h1,_⟩ | ⟨g',cs,fr,h1,h2,h3,h4,h5,h6⟩
 ·rw [h1] at hg; cases hg
 ·rw [h1] at hg; cases hg
  intro j z hz
  obtain ⟨u,hu,ho,hs⟩:=(h6 i y hy).2 j z hz
  refine⟨u,?_,ho,hs⟩
  simp [World.cell?,h2,hu]
theorem load_run(hh:HRel γ H w){t:TypeId}(ht:tyOk P t=true){X:AX}{x:Value}{z:AV}(hx:Sim w γ (X.ev fr) x)(h:evR fr H (.load (P.cellsOf t) (isAg P t) X)=some z) :
  ∃ v,(Instr.loadAt t x).run P w=.ok v w∧Sim w γ z v:=by
 simp only[evR] at h
 generalize X.ev fr=XX at *
 cases XX <;> try (cases h; done)
 ·rename_i id i off
  obtain ⟨e,he,h⟩:=Option.bind_eq_some_iff.1 h
  obtain ⟨y,hy,h⟩:=Option.bind_eq_some_iff.1 h
  cases hx with
  | eptr _ _ _ g ge hm hg =>
   obtain ⟨ge',hm',hok⟩:=hh.ok id e he
   rw [hm] at hm'; cases hm'
   obtain ⟨v,hv,hs⟩:=load_lies ht (hok.lies hg hy) h
   exact⟨v,by simp [Instr.loadAt,Instr.sureAddr,hv],hs⟩
 ·rename_i y off
  cases hx with
  | rptr _ _ b o U hb hi hcell hs =>
   obtain ⟨v,hv,hs⟩:=load_lies (o:=o) ht (γ:=γ) (fun j z hz=>⟨U j,(hcell j z hz).1,(hcell j z hz).2,(hs j z hz).ofBare⟩) h
   exact⟨v,by simp [Instr.loadAt,Instr.sureAddr,hv],hs⟩
def LiesL(w:World)(γ:Gh)(sz:Nat)(es:List AV)(b o:Nat):Prop:=∀(i:Nat) (x:AV),es[i]?=some x→x.flat.length=sz∧Lies w γ x b (o+i * sz)
theorem elems_lies(hh:HRel γ H w){X:AV}{x:Value}{es:List AV}(hx:Sim w γ X x)(h:elems H X=some es) :
  (∃ s,X=.str s∧es=s.map bv)∨∃ A cap,x=.slice A es.length cap∧es.length≤cap ∧
    (es=[]∨∃ sz b o,A=some ⟨b,o,none⟩∧LiesL w γ sz es b o ∧((∃ id off len,X=.vec id sz off len)∨∃ full,X=.sl sz es full)):=by
 cases X <;> try (cases h; done)
 ·cases h; exact .inl ⟨_,rfl,rfl⟩
 ·rename_i sz es' full
  cases h
  right
  cases hx with
  | sl0 _ _ A cap h=>exact⟨A,cap,rfl,Nat.zero_le _,.inl rfl⟩
  | sl _ _ _ b off cap U hp hc hf hb hi hz hcell hs =>
   refine⟨_,cap,rfl,hc,.inr ⟨sz,b,off,rfl,fun i y hy=>⟨hz y (List.mem_of_getElem? hy),fun j z hz=>⟨U i j,(hcell i y j z hy hz).1,(hcell i y j z hy hz).2,(hs i y j z hy hz).ofBare⟩⟩,.inr ⟨full,rfl⟩⟩⟩
 ·rename_i id sz off len
  right
  simp only[elems] at h
  obtain ⟨e,he,h⟩:=Option.bind_eq_some_iff.1 h
  split at h
  case isFalse=>cases h
  rename_i hle
  cases h
  cases hx with
  | vec _ _ _ _ A cap ge hm hz hl hc hN hA =>
   obtain ⟨ge',hm',hok⟩:=hh.ok id e he
   rw [hm] at hm'; cases hm'
   have hlen:((e.es.drop off).take len).length=len:=by simp; omega
   refine⟨A,cap,by rw [hlen],by omega,?_⟩
   by_cases h0:len=0
   ·left
    exact List.eq_nil_of_length_eq_zero (by omega)
   ·right
    cases hg:ge.blk with
    | none=>have:=hN hg; omega
    | some g =>
     have:=hA g hg (.inl (by omega))
     refine⟨sz,g,off * sz,this,fun i y hy=>?_,.inl ⟨id,off,len,rfl⟩⟩
     rw [List.getElem?_take] at hy
     split at hy
     ·rw [List.getElem?_drop] at hy
      have h1:=hok.lies hg hy
      rw [hz,Nat.add_mul] at h1
      refine⟨?_,h1⟩
      rcases (hok.live (.inr (by intro hn; rw [hn] at hy; simp at hy))).2 with ⟨h2,_⟩ | ⟨g',cs,fr,_,_,_,_,_,h6⟩
      ·rw [h2] at hg; cases hg
      ·rw [← hz]; exact(h6 _ y hy).1
     ·cases hy
theorem toBytes_map{es:List AV}{l:List UInt8}(h:toBytes es=some l):∃ ns:List Int,es=ns.map (AV.int .u8)∧ns.map (fun n=>UInt8.ofNat n.toNat)=l:=by
 induction es generalizing l with
 | nil=>cases h; exact⟨[],rfl,rfl⟩
 | cons x xs ih =>
  cases x <;> try (simp [toBytes] at h; done)
  rename_i k n
  cases k <;> try (simp [toBytes] at h; done)
  simp only[toBytes] at h
  split at h
  ·obtain ⟨l',hl',rfl⟩:=Option.map_eq_some_iff.1 h
   obtain ⟨ns,rfl,rfl⟩:=ih hl'
   exact⟨n :: ns,rfl,rfl⟩
  ·cases h
theorem foldl_push(ns:List Int):∀(l:List UInt8),ns.foldl (fun(r:ByteArray) n=>r.push (UInt8.ofNat n.toNat)) ⟨l.toArray⟩ =⟨(l ++ ns.map (fun n=>UInt8.ofNat n.toNat)).toArray⟩:=by
 induction ns with
 | nil=>intro l; simp
 | cons n ns ih =>
  intro l
  simp only[List.foldl_cons,List.map_cons]
  have e:(ByteArray.mk l.toArray).push (UInt8.ofNat n.toNat) =⟨(l ++ [UInt8.ofNat n.toNat]).toArray⟩:=by
   apply ByteArray.ext
   simp [ByteArray.push]
  rw [e,ih]
  simp
theorem cut_run(hh:HRel γ H w)(hf:FrR w γ fr a.tmps){t el:TypeId}(ht:P.underlying t=some (.slice el))(hok:tyOk P el=true){X:AX}{lo hi:Operand}{z:AV}{x:Value}(hx:Sim w γ (X.ev fr) x)
  (he:evR fr H (.cut (P.cellsOf el) X (cx lo) (cx hi))=some z):∃ v,(Instr.sliceAt t x (some (a.eval lo)) (some (a.eval hi)) none).run P w=.ok v w∧Sim w γ z v:=by
 simp only[evR] at he
 split at he
 ·rename_i v hv
  cases he
  exact slicev_run (lo:=some lo) (hi:=some hi) (mx:=none) ht hok hf hx hv
 ·generalize X.ev fr=XX at *
  cases XX <;> try (cases he; done)
  rename_i id sz off len
  dsimp only at he
  obtain ⟨e,hen,hq⟩:=Option.bind_eq_some_iff.1 he
  clear he
  split at hq
  case isFalse=>cases hq
  rename_i hc
  obtain ⟨hsz,rfl⟩:=hc
  obtain ⟨hn,h1,hq⟩:=Option.bind_eq_some_iff.1 hq
  obtain ⟨ln,h2,hq⟩:=Option.map_eq_some_iff.1 hq
  subst hq
  have hxx:∃ A cap,x=.slice A len cap∧e.es.length≤cap:=by
   cases hx with
   | vec _ _ _ _ A cap ge hm hz hl hcC hN hA =>
    obtain ⟨ge',hm',hok'⟩:=hh.ok id e hen
    rw [hm] at hm'; cases hm'
    refine⟨A,cap,rfl,?_⟩
    by_cases h0:e.es=[]
    ·rw [h0]; exact Nat.zero_le _
    ·rcases (hok'.live (.inr h0)).2 with ⟨_,h2,_⟩ | ⟨g',cs,fz,_,_,_,_,h6,_⟩
     ·exact absurd h2 h0
     ·omega
  obtain ⟨A,cap,rfl,hcap⟩:=hxx
  have h1':=bound_le (cx_sim hf hi) h1 hcap .sliceAcap (P:=P)
  have h2':=bound_le (cx_sim hf lo) h2 (Nat.le_refl _) .sliceB (P:=P)
  have e':(Instr.sliceBounds true len cap (some (a.eval lo)) (some (a.eval hi)) none).run P w=.ok (ln,hn,cap) w:=by
   unfold Instr.sliceBounds
   simp [h2'.1,h1'.1]
  refine⟨.slice (if cap=ln then A else A.map (·.add (ln * P.cellsOf el))) (hn - ln) (cap - ln),?_,?_⟩
  ·simp [Instr.sliceAt,Instr.slice,run_underlying ht,e',run_sizeOf hok]
  ·rw [hsz]; exact vec_cut0 hx h2'.2 (by omega)
theorem b2s_run(hh:HRel γ H w){s d e:TypeId}(hs:P.underlying s=some (.slice e))(hu:P.underlying e=some (.int .u8))(hd:P.underlying d=some .string){X:AX}{x:Value}{z:AV}(hx:Sim w γ (X.ev fr) x)
  (h:evR fr H (.b2s X)=some z):∃ v,(convert s d x).run P w=.ok v w∧Sim w γ z v:=by
 have main:∀(es:List AV) (XX:AV),Sim w γ XX x→elems H XX=some es →(∃ id off len,XX=.vec id 1 off len) ∨(∃ sz full,XX=.sl sz es full ∧(sz=1∨es=[])) →(toBytes es).map .str=some z→∃ v,(convert s d x).run P w=.ok v w∧Sim w γ z v:=by
  intro es XX hx he hsz h
  obtain ⟨l,hl,rfl⟩:=Option.map_eq_some_iff.1 h
  obtain ⟨ns,rfl,rfl⟩:=toBytes_map hl
  rcases elems_lies hh hx he with ⟨s,rfl,_⟩ | ⟨A,cap,rfl,hcap,hA⟩
  ·rcases hsz with ⟨_,_,_,h⟩ | ⟨_,_,h,_⟩ <;> cases h
  ·rw [run_convert_bytes_string w s d e A _ cap hs hu hd]
   rcases hA with h0 | ⟨sz,b,o,rfl,hlies,hX⟩
   ·have:ns=[]:=by simpa using h0
    subst this
    refine⟨.string .empty,?_,.str []⟩
    cases A with
    | none=>rfl
    | some ad =>
     have:=run_bytesToString (P:=P) w ad 0 cap [] (by rfl)
     simpa using this
   ·by_cases hnil:ns=[]
    ·subst hnil
     have:=run_bytesToString (P:=P) w ⟨b,o,none⟩ 0 cap [] (by rfl)
     exact⟨.string .empty,by simpa using this,.str []⟩
    ·have hsz1:sz=1:=by
      rcases hsz with ⟨id,off,len,rfl⟩ | ⟨sz',full,rfl,h1⟩
      ·rcases hX with ⟨_,_,_,hX⟩ | ⟨_,hX⟩ <;> cases hX; rfl
      ·rcases hX with ⟨_,_,_,hX⟩ | ⟨_,hX⟩ <;> cases hX
       rcases h1 with h1 | h1
       ·exact h1
       ·simp at h1; exact absurd h1 hnil
     subst hsz1
     have hld:(loadCells ⟨b,o,none⟩ (ns.map (AV.int .u8)).length).run P w=.ok (ns.map (Value.int .u8)).toArray w:=by
      have:=run_loadCells_list (P:=P) w ⟨b,o,none⟩ (ns.map (Value.int .u8)) (fun j v hj=>by
       rw [List.getElem?_map] at hj
       obtain ⟨n,hn,rfl⟩:=Option.map_eq_some_iff.1 hj
       obtain ⟨_,hl⟩:=hlies j (.int .u8 n) (by rw [List.getElem?_map,hn]; rfl)
       obtain ⟨u,hu,_,hs⟩:=hl 0 _ rfl
       rw [Addr.add_lit]
       cases int_inv hs
       simpa using hu)
      simpa using this
     have:=run_bytesToString (P:=P) w ⟨b,o,none⟩ _ cap ns hld
     refine⟨_,this,?_⟩
     rw [show ByteArray.empty =⟨([]:List UInt8).toArray⟩ from rfl,foldl_push]
     exact .str _
 simp only[evR] at h
 generalize X.ev fr=XX at *
 cases XX <;> try (cases h; done)
 ·rename_i sz es full
  dsimp only at h
  split at h
  ·rename_i hsz
   exact main es _ hx rfl (.inr ⟨sz,full,rfl,hsz⟩) h
  ·cases h
 ·rename_i id sz off len
  dsimp only at h
  split at h
  ·rename_i hsz
   subst hsz
   obtain ⟨es,he,h⟩:=Option.bind_eq_some_iff.1 h
   exact main es _ hx he (.inl ⟨id,off,len,rfl⟩) h
  ·cases h
theorem evR_sound(hf:FrR w γ fr a.tmps)(hh:HRel γ H w){o:Oper}{d:Bool}{r:Option Nat}{q:OpR}(hc:compOp P d r o=.r q){x:AV}(hx:evR fr H q=some x) :
  ∃ v,(execOp a.eval o).run P w=.ok (.value v) w∧Sim w γ x v:=by
 obtain ⟨dst,op,ty,pos,after,guard⟩:=o
 have S:=fun y=>cx_sim hf y (γ:=γ)
 have lift:∀ {s:Sem Value} {z:AV},(∃ v,s.run P w=.ok v w∧Sim w γ z v)→∃ v,(do pure (.value (← s)):Sem Next).run P w=.ok (.value v) w∧Sim w γ z v:=by
  rintro s z ⟨v,hv,hs⟩
  exact⟨v,by simp [hv],hs⟩
 cases op with
 | load t y =>
  simp only[compOp] at hc
  split at hc
  ·rename_i hok
   cases hc
   exact lift (load_run hh hok (S y) hx)
  ·cases hc
 | slice t y lo hi mx =>
  simp only[compOp] at hc
  split at hc
  ·split at hc <;> cases hc
  ·rename_i e ht
   split at hc
   ·rename_i hok
    split at hc
    ·rename_i l h
     cases hc
     exact lift (cut_run hh hf ht hok (S y) hx)
    ·cases hc
   ·cases hc
  ·cases hc
 | convert s d y =>
  simp only[compOp] at hc
  split at hc
  ·cases hc
  ·cases hc
  ·rename_i e hs hd
   split at hc
   ·rename_i hu
    cases hc
    have hu':P.underlying e=some (.int .u8):=by
     unfold isU8 at hu
     split at hu
     ·assumption
     ·cases hu
    exact lift (b2s_run hh hs hu' hd (S y) hx)
   ·cases hc
  ·split at hc <;> cases hc
  ·split at hc <;> cases hc
  ·cases hc
 | call c =>
  obtain ⟨callee,args,ts⟩:=c
  cases callee with
  | value f=>cases f <;> simp only[compOp] at hc <;> repeat' (first | (cases hc; done) | split at hc)
  | invoke=>cases hc
  | builtin b =>
   simp only[compOp] at hc
   repeat' (first | (cases hc; done) | split at hc)
 | typeAssert y xt t ok=>cases ok <;> simp only[compOp] at hc <;> repeat' (first | (cases hc; done) | split at hc)
 | makeFunc fn first caps=>cases fn <;> simp only[compOp] at hc <;> repeat' (first | (cases hc; done) | split at hc)
 | _=>first | (cases hc; done) | (simp only[compOp] at hc; repeat' (first | (cases hc; done) | split at hc))
end
end Go.Pv
namespace Go.Pv
section
variable {P:Program} {w w':World} {γ γ':Gh} {H H':Hp}
structure Old(γ:Gh)(w w':World):Prop where
 os:w'.os=w.os
 tape:w'.tape=w.tape
 output:w'.output=w.output
 size:w.heap.size≤w'.heap.size
 keep:∀ b,b < w.heap.size→¬ γ.owns b→w'.heap[b]?=w.heap[b]?
theorem hrel_change(hh:HRel γ H w)(ho:Old γ w w')(himm:γ'.imm=γ.imm)(hids:Ids γ γ')
  (hown:∀ b,γ'.owns b→γ.owns b∨w.heap.size≤b)
  (hinj:∀ id id' ge ge' b,γ'.m id=some ge→γ'.m id'=some ge'→ge.st≠0→ge'.st≠0→ge.blk=some b→ge'.blk=some b→id=id')
  (hstl:∀ id ge,γ'.m id=some ge→ge.st=1→γ.m id=some ge)
  (hent:∀ id,(ent H' id=ent H id∧γ'.m id=γ.m id∧∀ ge g,γ.m id=some ge→ge.st≠0→ge.blk=some g→w'.heap[g]?=w.heap[g]?) ∨
    ∃ e ge,ent H' id=some e∧γ'.m id=some ge ∧(Adv γ γ' w w'→EntOk w' γ' e ge)):HRel γ' H' w'∧Step γ γ' w w':=by
 have hs:Step γ γ' w w':=⟨ho.os,ho.tape,ho.output,ho.size,ho.keep,hown,fun b hb=>by rw [himm]; exact hb,fun b hb=>.inl (by rw [himm] at hb; exact hb)⟩
 have ha:Adv γ γ' w w':=hs.adv hids hh.imm
 refine⟨⟨?_,?_,hinj,?_,fun id ge b h1 h2 h3=>by rw [himm]; exact hh.stl id ge b (hstl id ge h1 h2) h2 h3⟩,hs⟩
 ·intro id hid
  rcases hent id with ⟨h1,h2,_⟩ | ⟨e,ge,h1,_⟩
  ·rw [h2]; exact hh.none id (h1 ▸ hid)
  ·rw [h1] at hid; cases hid
 ·intro id e hid
  rcases hent id with ⟨h1,h2,h3⟩ | ⟨e',ge,h1,h2,h3⟩
  ·obtain ⟨ge,hm,hok⟩:=hh.ok id e (h1 ▸ hid)
   exact⟨ge,by rw [h2]; exact hm,hok.adv ha fun g hst hg=>h3 ge g hm hst hg⟩
  ·rw [h1] at hid; cases hid
   exact⟨ge,h2,h3 ha⟩
 ·intro b hb
  rw [himm] at hb
  obtain ⟨h1,h2⟩:=hh.imm b hb
  exact⟨Nat.lt_of_lt_of_le h1 ho.size,fun h=>(hown b h).elim h2 (fun h=>by omega)⟩
def Gh.add(γ:Gh)(id:Nat)(ge:GE):Gh:=⟨fun i=>if i=id then some ge else γ.m i,γ.imm⟩
theorem Gh.add_same(γ:Gh)(id:Nat)(ge:GE):(γ.add id ge).m id=some ge:=if_pos rfl
theorem Gh.add_other(γ:Gh)(id:Nat)(ge:GE){i:Nat}(h:i≠id):(γ.add id ge).m i=γ.m i:=if_neg h
theorem ent_set{id:Nat}{e e':Ent}(h:ent H id=some e)(j:Nat):ent (H.set id (some e')) j=if j=id then some e' else ent H j:=by
 have hlt:=ent_lt h
 unfold ent
 by_cases hj:j=id
 ·subst hj; simp [hlt]
 ·rw [if_neg hj,List.getElem?_set_ne (fun h=>hj h.symm)]
theorem new_ent{base:Nat}{r:Option Nat}{e:Ent}{id:Nat}(h:new base r H e=some (id,H')):ent H id=none∧∀ j,ent H' j=if j=id then some e else ent H j:=by
 cases r with
 | none =>
  simp only[new,Option.some.injEq,Prod.mk.injEq] at h
  obtain ⟨rfl,rfl⟩:=h
  refine⟨by simp [ent],fun j=>?_⟩
  unfold ent
  by_cases hj:j=H.length
  ·subst hj; simp
  ·rw [if_neg hj]
   rcases Nat.lt_or_ge j H.length with h' | h'
   ·rw [List.getElem?_append_left h']
   ·rw [List.getElem?_eq_none h',List.getElem?_eq_none (by simp; omega)]
 | some k =>
  simp only[new] at h
  split at h
  ·rename_i hk
   simp only[Option.some.injEq,Prod.mk.injEq] at h
   obtain ⟨rfl,rfl⟩:=h
   refine⟨by simpa using hk.2,fun j=>?_⟩
   unfold ent
   by_cases hj:j=base+k
   ·subst hj; simp [hk.1]
   ·rw [if_neg hj,List.getElem?_set_ne (fun h=>hj h.symm)]
  ·cases h
theorem Gh.add_ids{id:Nat}{ge:GE}(h:γ.m id=none∨∃ st,γ.m id=some { ge with st:=st }):Ids γ (γ.add id ge):=fun i ge' hi=>by
 by_cases e:i=id
 ·subst e
  rcases h with h | ⟨st,h⟩
  ·rw [h] at hi; cases hi
  ·rw [h] at hi; cases hi
   exact⟨ge.st,Gh.add_same _ _ _⟩
 ·exact⟨ge'.st,by rw [Gh.add_other _ _ _ e]; exact hi⟩
theorem hrel_new(hh:HRel γ H w){base:Nat}{r:Option Nat}{e:Ent}{id:Nat}(hn:Pv.new base r H e=some (id,H')){ge:GE}(hst:ge.st=2)(ho:Old γ w w')(hk:∀ b,b < w.heap.size→w'.heap[b]?=w.heap[b]?)
  (hb:∀ g,ge.blk=some g→w.heap.size≤g) (hok:Adv γ (γ.add id ge) w w'→EntOk w' (γ.add id ge) e ge):HRel (γ.add id ge) H' w'∧Step γ (γ.add id ge) w w'∧Ids γ (γ.add id ge):=by
 obtain ⟨h0,h1⟩:=new_ent hn
 have hm:=hh.none id h0
 have hids:=Gh.add_ids (ge:=ge) (.inl hm)
 have hc:=hrel_change (γ':=γ.add id ge) (H':=H') hh ho rfl hids ?_ ?_ ?_ ?_
 ·exact⟨hc.1,hc.2,hids⟩
 ·rintro b ⟨i,ge',hi,hst',hb'⟩
  by_cases e:i=id
  ·subst e
   rw [Gh.add_same] at hi; cases hi
   exact .inr (hb b hb')
  ·rw [Gh.add_other _ _ _ e] at hi
   exact .inl ⟨i,ge',hi,hst',hb'⟩
 ·intro i j ge1 ge2 b hi hj hs1 hs2 hb1 hb2
  by_cases ei:i=id <;> by_cases ej:j=id
  ·omega
  ·subst ei
   rw [Gh.add_same] at hi; cases hi
   rw [Gh.add_other _ _ _ ej] at hj
   have:=hh.blkLt hj hs2 hb2
   have:=hb b hb1
   omega
  ·subst ej
   rw [Gh.add_same] at hj; cases hj
   rw [Gh.add_other _ _ _ ei] at hi
   have:=hh.blkLt hi hs1 hb1
   have:=hb b hb2
   omega
  ·rw [Gh.add_other _ _ _ ei] at hi
   rw [Gh.add_other _ _ _ ej] at hj
   exact hh.inj i j ge1 ge2 b hi hj hs1 hs2 hb1 hb2
 ·intro i x hi hs
  by_cases e:i=id
  ·subst e
   rw [Gh.add_same] at hi; cases hi
   rw [hst] at hs; cases hs
  ·rw [Gh.add_other _ _ _ e] at hi; exact hi
 ·intro i
  by_cases e:i=id
  ·subst e
   exact .inr ⟨_,ge,by rw [h1,if_pos rfl],Gh.add_same _ _ _,hok⟩
  ·exact .inl ⟨by rw [h1,if_neg e],Gh.add_other _ _ _ e,fun ge' g hm' hst' hg=>hk g (hh.blkLt hm' hst' hg)⟩
theorem hrel_upd(hh:HRel γ H w){id g:Nat}{e e':Ent}{ge:GE}(he:ent H id=some e)(hm:γ.m id=some ge)(hst:ge.st=2)(hg:ge.blk=some g)(ho:Old γ w w')(hk:∀ b,b≠g→w'.heap[b]?=w.heap[b]?)
  (hok:Adv γ γ w w'→EntOk w' γ e' ge):HRel γ (H.set id (some e')) w'∧Step γ γ w w':=by
 refine hrel_change (γ':=γ) hh ho rfl (Ids.refl γ) (fun b h=>.inl h) hh.inj (fun _ _ h _=>h) fun i=>?_
 by_cases ei:i=id
 ·subst ei
  exact .inr ⟨e',ge,by rw [ent_set he,if_pos rfl],hm,hok⟩
 ·refine .inl ⟨by rw [ent_set he,if_neg ei],rfl,fun ge' g' hm' hst' hg'=>hk g' fun e=>ei ?_⟩
  subst e
  exact hh.inj i id ge' ge _ hm' hm hst' (by rw [hst]; decide) hg' hg
theorem hrel_renew(hh:HRel γ H w){base:Nat}{r:Option Nat}{id id':Nat}{e e':Ent}{ge ge':GE}(he:ent H id=some e)(hm:γ.m id=some ge)(hst:ge.st=2)
  (hn:Pv.new base r (H.set id (some { e with es:=[],wr:=false })) e'=some (id',H')) (hst':ge'.st=2) (ho:Old γ w w') (hk:∀ b,b < w.heap.size →(ge.blk≠some b∨ge'.blk≠some b)→w'.heap[b]?=w.heap[b]?)
  (hb:∀ g,ge'.blk=some g→w.heap.size≤g∨ge.blk=some g)
  (hok:Adv γ ((γ.add id { ge with st:=0 }).add id' ge') w w'→EntOk w' ((γ.add id { ge with st:=0 }).add id' ge') e' ge') :
  HRel ((γ.add id { ge with st:=0 }).add id' ge') H' w'∧Step γ ((γ.add id { ge with st:=0 }).add id' ge') w w'∧Ids γ ((γ.add id { ge with st:=0 }).add id' ge'):=by
 obtain ⟨h0,h1⟩:=new_ent hn
 have hne:id'≠id:=by
  rintro rfl
  rw [ent_set he,if_pos rfl] at h0
  cases h0
 have h0':ent H id'=none:=by rw [ent_set he,if_neg hne] at h0; exact h0
 have hm':=hh.none id' h0'
 have hids1:Ids γ (γ.add id { ge with st:=0 }):=Gh.add_ids (.inr ⟨ge.st,hm⟩)
 have hids2:Ids (γ.add id { ge with st:=0 }) ((γ.add id { ge with st:=0 }).add id' ge'):=Gh.add_ids (.inl (by rw [Gh.add_other _ _ _ hne]; exact hm'))
 have hids:=hids1.trans hids2
 have look:∀ i x,((γ.add id { ge with st:=0 }).add id' ge').m i=some x→x.st≠0 →(i=id'∧x=ge') ∨(i≠id'∧i≠id∧γ.m i=some x):=by
  intro i x hx hs
  by_cases e1:i=id'
  ·subst e1; rw [Gh.add_same] at hx; cases hx; exact .inl ⟨rfl,rfl⟩
  ·rw [Gh.add_other _ _ _ e1] at hx
   by_cases e2:i=id
   ·subst e2; rw [Gh.add_same] at hx; cases hx; exact absurd rfl hs
   ·rw [Gh.add_other _ _ _ e2] at hx; exact .inr ⟨e1,e2,hx⟩
 have hst2:ge.st≠0:=by rw [hst]; decide
 have hc:=hrel_change (γ':=(γ.add id { ge with st:=0 }).add id' ge') (H':=H') hh ho rfl hids ?_ ?_ ?_ ?_
 ·exact⟨hc.1,hc.2,hids⟩
 ·rintro b ⟨i,x,hi,hs,hb'⟩
  rcases look i x hi (by rw [hs]; decide) with ⟨_,rfl⟩ | ⟨_,_,hx⟩
  ·rcases hb b hb' with h | h
   ·exact .inr h
   ·exact .inl ⟨id,ge,hm,hst,h⟩
  ·exact .inl ⟨i,x,hx,hs,hb'⟩
 ·intro i j x y b hi hj hx hy hbx hby
  rcases look i x hi hx with ⟨rfl,rfl⟩ | ⟨i1,i2,hi'⟩ <;> rcases look j y hj hy with ⟨rfl,rfl⟩ | ⟨j1,j2,hj'⟩
  ·rfl
  ·rcases hb b hbx with h | h
   ·have:=hh.blkLt hj' hy hby; omega
   ·exact absurd (hh.inj j id y ge b hj' hm hy hst2 hby h) j2
  ·rcases hb b hby with h | h
   ·have:=hh.blkLt hi' hx hbx; omega
   ·exact absurd (hh.inj i id x ge b hi' hm hx hst2 hbx h) i2
  ·exact hh.inj i j x y b hi' hj' hx hy hbx hby
 ·intro i x hi hs
  rcases look i x hi (by rw [hs]; decide) with ⟨_,rfl⟩ | ⟨_,_,hx⟩
  ·rw [hst'] at hs; cases hs
  ·exact hx
 ·intro i
  by_cases e1:i=id'
  ·subst e1
   exact .inr ⟨e',ge',by rw [h1,if_pos rfl],Gh.add_same _ _ _,hok⟩
  ·by_cases e2:i=id
   ·subst e2
    refine .inr ⟨_,{ ge with st:=0 },by rw [h1,if_neg e1,ent_set he,if_pos rfl],by rw [Gh.add_other _ _ _ e1,Gh.add_same],fun _=>.inl ⟨rfl,rfl,rfl⟩⟩
   ·refine .inl ⟨by rw [h1,if_neg e1,ent_set he,if_neg e2],by rw [Gh.add_other _ _ _ e1,Gh.add_other _ _ _ e2],fun x g hx hs hg=>hk g (hh.blkLt hx hs hg) (.inl fun hg'=>e2 ?_)⟩
    exact hh.inj i id x ge g hx hm hs hst2 hg hg'
def RowC(w:World)(γ:Gh)(sz:Nat)(es:List AV)(cs:List Value):Prop :=
 ∀(i:Nat) (x:AV),es[i]?=some x→x.flat.length=sz∧∀(j:Nat) (y:AV),x.flat[j]?=some y→∃ u,cs[i * sz+j]?=some u∧u.oneCell'=true∧Sim w γ y u
theorem RowC.adv{sz:Nat}{es:List AV}{cs:List Value}(h:RowC w γ sz es cs)(a:Adv γ γ' w w'):RowC w' γ' sz es cs:=fun i x hx=>⟨(h i x hx).1,fun j y hy=>by
 obtain ⟨u,h1,h2,h3⟩:=(h i x hx).2 j y hy
 exact⟨u,h1,h2,h3.adv a⟩⟩
theorem RowC.more{sz:Nat}{es:List AV}{cs:List Value}(h:RowC w γ sz es cs)(ds:List Value):RowC w γ sz es (cs ++ ds):=fun i x hx=>⟨(h i x hx).1,fun j y hy=>by
 obtain ⟨u,h1,h2,h3⟩:=(h i x hx).2 j y hy
 exact⟨u,by rw [List.getElem?_append_left (List.getElem?_eq_some_iff.1 h1).1]; exact h1,h2,h3⟩⟩
theorem RowC.app{sz:Nat}{es fs:List AV}{cs ds:List Value}(h:RowC w γ sz es cs)(k:RowC w γ sz fs ds)(hl:cs.length=es.length * sz):RowC w γ sz (es ++ fs) (cs ++ ds):=by
 intro i x hx
 rcases Nat.lt_or_ge i es.length with hi | hi
 ·rw [List.getElem?_append_left hi] at hx
  exact h.more ds i x hx
 ·rw [List.getElem?_append_right hi] at hx
  refine⟨(k _ x hx).1,fun j y hy=>?_⟩
  obtain ⟨u,h1,h2,h3⟩:=(k _ x hx).2 j y hy
  refine⟨u,?_,h2,h3⟩
  have e:i * sz+j=es.length * sz +((i - es.length) * sz+j):=by
   rw [← Nat.add_assoc,← Nat.add_mul]; congr 2; omega
  rw [e,List.getElem?_append_right (by omega),hl]
  rw [Nat.add_sub_cancel_left]; exact h1
theorem RowC.ok{sz C g:Nat}{ty:TypeId}{es:List AV}{cs:Array Value}{fz:Nat × Nat}(h:RowC w γ sz es cs.toList)(hw:w.heap[g]?=some (.cells cs ty fz))(hs:cs.size=C * sz)(hfz:fz.1=fz.2∨cs.size≤fz.1)(hle:es.length≤C) :
  EntOk w γ ⟨ty,es,true⟩ ⟨some g,sz,C,2⟩ :=
 .inr ⟨rfl,.inr ⟨g,cs,fz,rfl,hw,hs,hfz,hle,fun i x hx=>⟨(h i x hx).1,fun j y hy=>by
  obtain ⟨u,h1,h2,h3⟩:=(h i x hx).2 j y hy
  exact⟨u,by simpa using h1,h2,h3⟩⟩⟩⟩
theorem old_alloc(γ:Gh)(w:World)(o:Obj):Old γ w (w.alloc o):=⟨rfl,rfl,rfl,by simp,fun b hb _=>heap_alloc_old w o hb⟩
def EffV(P:Program)(γ:Gh)(w:World)(s:Sem Value)(x:AV)(H':Hp):Prop :=
 ∃ v w' γ',s.run P w=.ok v w'∧Sim w' γ' x v∧HRel γ' H' w'∧Step γ γ' w w'∧Ids γ γ'
end
end Go.Pv
namespace Go.Pv
section
variable {P:Program} {w w':World} {γ γ':Gh} {fr:Fr} {a:Act} {H H':Hp}
theorem info_of_zero{t:TypeId}{z:Value}(h:zeroOf P t=some z):∃ i,P.info? t=some i∧i.zero=some z∧P.cellsOf t=i.size∧P.bytesOf t=i.bytes:=by
 unfold zeroOf at h
 obtain ⟨i,hi,hz⟩:=Option.bind_eq_some_iff.1 h
 exact⟨i,hi,hz,by simp [Program.cellsOf,hi],by simp [Program.bytesOf,hi]⟩
theorem EffV.of{s:Sem Value}{v:Value}{x:AV}(hr:s.run P w=.ok v w')(hs:Sim w' γ' x v)(h:HRel γ' H' w'∧Step γ γ' w w'∧Ids γ γ'):EffV P γ w s x H':=⟨v,w',γ',hr,hs,h.1,h.2.1,h.2.2⟩
theorem EffV.same{s:Sem Value}{v:Value}{x:AV}(hh:HRel γ H w)(hr:s.run P w=.ok v w)(hs:Sim w γ x v):EffV P γ w s x H:=⟨v,w,γ,hr,hs,hh,Step.refl _ _,Ids.refl _⟩
theorem var_new(hh:HRel γ H w){base:Nat}{r:Option Nat}{ty:TypeId}{X x:AV}(hn:newVar base r H ty X=some (x,H')){s:Sem Value}{cs:Array Value}(hr:s.run P w=.ok (.pointer (some ⟨w.heap.size,0,none⟩)) (w.alloc (.cells cs ty)))
  (hc:CellsR w γ X.flat cs):EffV P γ w s x H':=by
 unfold newVar at hn
 obtain ⟨⟨id,H1⟩,hn1,he⟩:=Option.map_eq_some_iff.1 hn
 simp only[Prod.mk.injEq] at he
 obtain ⟨rfl,rfl⟩:=he
 have hnew:=heap_alloc_new w (.cells cs ty)
 have key:=hrel_new hh hn1 (ge:=⟨some w.heap.size,cs.size,1,2⟩) rfl (old_alloc γ w (.cells cs ty)) (fun b hb=>heap_alloc_old w _ hb) (fun g hg=>by cases hg; exact Nat.le_refl _) (fun ad=>by
  refine RowC.ok (cs:=cs) (fz:=(0,0)) ?_ hnew (by simp) (.inl rfl) (by simp)
  intro i y hy
  cases i with
  | succ i=>simp at hy
  | zero =>
   simp only[List.getElem?_cons_zero,Option.some.injEq] at hy
   subst hy
   refine⟨hc.1.symm,fun j y hy=>?_⟩
   obtain ⟨u,h1,h2,h3⟩:=hc.2 j y hy
   exact⟨u,by simpa using h1,h3,h2.adv ad⟩)
 refine EffV.of hr ?_ key
 have:=Sim.eptr (w:=w.alloc (.cells cs ty)) (γ:=γ.add id ⟨some w.heap.size,cs.size,1,2⟩) id 0 0 w.heap.size _ (Gh.add_same _ _ _) rfl
 simpa using this
theorem ofVal_not_agg(v:Value)(cs:List AV):ofVal v≠.agg cs:=by
 intro h
 cases v <;> simp only[ofVal] at h <;> try (cases h; done)
 ·split at h <;> cases h
 ·split at h
  ·rename_i g _ _ _; cases g <;> dsimp only at h <;>(try split at h) <;> cases h
  ·cases h
theorem flat_one{x:AV}(h:∀ cs,x≠.agg cs):x.flat=[x]:=by cases x <;> first | rfl | exact absurd rfl (h _)
theorem flat_ofZero(z:Value):(ofZero z).flat=z.cells.toList.map ofVal:=by
 cases z <;> try rfl
 ·rename_i a n c; exact flat_one (x:=ofVal (.slice a n c)) (ofVal_not_agg _)
 ·rename_i f a c; exact flat_one (x:=ofVal (.func f a c)) (ofVal_not_agg _)
theorem ofZero_cells{z:Value}(h:z.cells.all oneV=true):CellsR w γ (ofZero z).flat z.cells:=by
 rw [flat_ofZero]
 have h':z.cells.toList.all Value.oneCell'=true:=by
  rw [List.all_eq_true]
  intro x hx
  rw [← oneV_eq]
  exact(Array.all_eq_true_iff_forall_mem.1 h) x (by simpa using hx)
 simpa using ofVals (w:=w) (γ:=γ) z.cells.toList h'
theorem alloc_eff(hh:HRel γ H w){base:Nat}{r:Option Nat}{t:TypeId}{z:Value}{x:AV}(hz:zeroOf P t=some z)(ho:z.cells.all oneV=true)(h:newVar base r H t (ofZero z)=some (x,H')) :
  EffV P γ w (Instr.alloc t true (.tuple #[])) x H' :=
 var_new hh h (cs:=z.cells) (by simp [Instr.alloc,zero_run hz,_root_.Go.newVar,newRow]) (ofZero_cells ho)
theorem box_eff(hh:HRel γ H w){base:Nat}{r:Option Nat}{t:TypeId}{X x:AV}{v:Value}(hs:Sim w γ X v)(ho:X.ones=true)(h:newVar base r H t X=some (x,H')):EffV P γ w (Instr.box t v) x H' :=
 var_new hh h (cs:=v.cells) (by simp [Instr.box,_root_.Go.newVar,newRow]) ⟨(ones_cells hs ho).1,fun i y hy=>(ones_cells hs ho).2 i y hy⟩
theorem row_new(hh:HRel γ H w){base:Nat}{r:Option Nat}{ty:TypeId}{sz C:Nat}{es:List AV}{x:AV}(hn:newVec base r H sz ty es=some (x,H')){s:Sem Value}{cs:Array Value}{fz:Nat × Nat}
  (hr:s.run P w=.ok (.slice (some ⟨w.heap.size,0,none⟩) es.length C) w') (ho:Old γ w w') (hk:∀ b,b < w.heap.size→w'.heap[b]?=w.heap[b]?) (hw:w'.heap[w.heap.size]?=some (.cells cs ty fz))
  (hs:cs.size=C * sz) (hfz:fz.1=fz.2∨cs.size≤fz.1) (hle:es.length≤C) (hc:RowC w γ sz es cs.toList):EffV P γ w s x H':=by
 unfold newVec at hn
 obtain ⟨⟨id,H1⟩,hn1,he⟩:=Option.map_eq_some_iff.1 hn
 simp only[Prod.mk.injEq] at he
 obtain ⟨rfl,rfl⟩:=he
 have key:=hrel_new hh hn1 (ge:=⟨some w.heap.size,sz,C,2⟩) rfl ho hk (fun g hg=>by cases hg; exact Nat.le_refl _) (fun ad=>(hc.adv ad).ok hw hs hfz hle)
 refine EffV.of hr ?_ key
 exact .vec id sz 0 es.length _ C _ (Gh.add_same _ _ _) rfl (by simpa using hle) rfl (fun h=>by cases h) (fun g hg _=>by cases hg; simp)
theorem row_none(hh:HRel γ H w){base:Nat}{r:Option Nat}{ty:TypeId}{sz:Nat}{x:AV}(hn:newVec base r H sz ty []=some (x,H')){s:Sem Value}{A:Option Addr}
  (hr:s.run P w=.ok (.slice A 0 0) w):EffV P γ w s x H':=by
 unfold newVec at hn
 obtain ⟨⟨id,H1⟩,hn1,he⟩:=Option.map_eq_some_iff.1 hn
 simp only[Prod.mk.injEq] at he
 obtain ⟨rfl,rfl⟩:=he
 have key:=hrel_new hh hn1 (ge:=⟨none,sz,0,2⟩) rfl (w':=w) ⟨rfl,rfl,rfl,Nat.le_refl _,fun _ _ _=>rfl⟩ (fun _ _=>rfl) (fun g hg=>by cases hg) (fun ad=>.inr ⟨rfl,.inl ⟨rfl,rfl,rfl⟩⟩)
 refine EffV.of hr ?_ key
 exact .vec id sz 0 0 _ 0 _ (Gh.add_same _ _ _) rfl (Nat.le_refl _) rfl (fun _=>rfl) (fun g hg _=>by cases hg)
theorem zero_row{z:Value}(ho:z.cells.all oneV=true){n m:Nat}(hm:n * z.cells.size≤m):RowC w γ z.cells.size (List.replicate n (ofZero z)) (madeCells z.cells m).toList:=by
 intro i x hx
 rw [List.getElem?_replicate] at hx
 split at hx
 case isFalse=>cases hx
 rename_i hi
 cases hx
 have hc:=ofZero_cells (w:=w) (γ:=γ) ho
 refine⟨hc.1.symm,fun j y hy=>?_⟩
 obtain ⟨u,h1,h2,h3⟩:=hc.2 j y hy
 have hj:j < z.cells.size:=(Array.getElem?_eq_some_iff.1 h1).1
 refine⟨u,?_,h3,h2⟩
 have hlt:i * z.cells.size+j < m:=by
  have:(i+1) * z.cells.size≤n * z.cells.size:=Nat.mul_le_mul_right _ hi
  rw [Nat.add_mul,Nat.one_mul] at this
  omega
 have hmod:(i * z.cells.size+j) % z.cells.size=j:=by
  rw [Nat.add_comm,Nat.add_mul_mod_self_right,Nat.mod_eq_of_lt hj]
 obtain ⟨_,hget⟩:=Array.getElem?_eq_some_iff.1 h1
 simp [madeCells,hlt,hmod,hj,hget]
theorem parts_run{sz:Nat}:∀(ps:List (Nat × Value)) (qs:List (Nat × AV)) (es:List AV) (cs:Array Value) (zs:List AV),
  ps.length=qs.length →(∀(i:Nat) (p:Nat × Value) (q:Nat × AV),ps[i]?=some p→qs[i]?=some q→p.1=q.1∧Sim w γ q.2 p.2) →
  RowC w γ sz es cs.toList→cs.size=es.length * sz→setParts sz es qs=some zs →
  ∃ ds,Instr.fill (fun i=>some (i * sz,sz)) cs ps=some ds∧RowC w γ sz zs ds.toList∧ds.size=zs.length * sz∧zs.length=es.length
 | [],[],es,cs,zs,_,_,hr,hs,h=>by cases h; exact⟨cs,rfl,hr,hs,rfl⟩
 | (i,v) :: ps,(k,V) :: qs,es,cs,zs,hl,hp,hr,hsz,h=>by
  obtain ⟨hp0,hs⟩:=hp 0 _ _ rfl rfl
  dsimp only at hp0 hs
  subst hp0
  simp only[setParts] at h
  split at h
  case isFalse=>cases h
  rename_i hc
  obtain ⟨ho,hn,hle⟩:=hc
  obtain ⟨hvs,hcell⟩:=ones_cells hs ho
  have hlt:i * sz+sz≤cs.size:=by
   have:(i+1) * sz≤es.length * sz:=Nat.mul_le_mul_right _ hle
   rw [Nat.add_mul,Nat.one_mul] at this
   omega
  simp only[Instr.fill]
  rw [if_neg (by simp only[Bool.or_eq_true,decide_eq_true_eq,not_or]; omega)]
  obtain ⟨f1,f2⟩:=foldl_set_arr (i * sz) v.cells cs (by omega)
  obtain ⟨ds,hd1,hd2,hd3,hd4⟩:=parts_run (sz:=sz) ps qs (es.set i V) _ zs (by simpa using hl) (fun j p q h1 h2=>hp (j+1) p q (by simpa using h1) (by simpa using h2)) (by
   intro j x hx
   by_cases hj:j=i
   ·subst hj
    rw [List.getElem?_set_self hle] at hx
    cases hx
    refine⟨hn,fun k y hy=>?_⟩
    obtain ⟨u,h1,h2,h3⟩:=hcell k y hy
    have hk:k < v.cells.size:=(Array.getElem?_eq_some_iff.1 h1).1
    refine⟨u,?_,h3,h2⟩
    rw [Array.getElem?_toList,f2,if_pos (by omega),Nat.add_sub_cancel_left]
    exact h1
   ·rw [List.getElem?_set_ne (fun e=>hj e.symm)] at hx
    refine⟨(hr j x hx).1,fun k y hy=>?_⟩
    obtain ⟨u,h1,h2,h3⟩:=(hr j x hx).2 k y hy
    refine⟨u,?_,h2,h3⟩
    have hk:k < sz:=by
     have:=(List.getElem?_eq_some_iff.1 hy).1
     rw [(hr j x hx).1] at this; exact this
    rw [Array.getElem?_toList] at h1 ⊢
    rw [f2,if_neg ?_]
    ·exact h1
    ·rcases Nat.lt_or_ge j i with hji | hji
     ·have:(j+1) * sz≤i * sz:=Nat.mul_le_mul_right _ hji
      rw [Nat.add_mul,Nat.one_mul] at this
      omega
     ·have:(i+1) * sz≤j * sz:=Nat.mul_le_mul_right _ (by omega)
      rw [Nat.add_mul,Nat.one_mul] at this
      omega) (by rw [f1,hsz]; simp) h
  exact⟨ds,hd1,hd2,hd3,by rw [hd4]; simp⟩
 | [],_ :: _,_,_,_,hl,_,_,_,_=>by simp at hl
 | _ :: _,[],_,_,_,hl,_,_,_,_=>by simp at hl
theorem mks_eff(hh:HRel γ H w)(hf:FrR w γ fr a.tmps){base:Nat}{r:Option Nat}{t e:TypeId}{len:Nat}{z:Value}{parts:Array (Nat × Operand)}{x:AV}(ht:P.underlying t=some (.slice e))(hz:zeroOf P e=some z)
  (hsz:z.cells.size=P.cellsOf e) (ho:z.cells.all oneV=true) (hle:len * P.cellsOf e≤16777216)
  (h:evE base r fr H (.mks e (P.cellsOf e) (ofZero z) len (parts.toList.map fun p=>(p.1,cx p.2)))=some (x,H')) :
  EffV P γ w (Instr.buildSlice t len (parts.map fun p=>(p.1,a.eval p.2))) x H':=by
 simp only[evE] at h
 obtain ⟨es,hes,h⟩:=Option.bind_eq_some_iff.1 h
 rw [List.map_map] at hes
 obtain ⟨i,hi,hzz,hci,_⟩:=info_of_zero hz
 have hrow:=zero_row (w:=w) (γ:=γ) ho (n:=len) (m:=len * z.cells.size) (Nat.le_refl _)
 obtain ⟨ds,hd1,hd2,hd3,hd4⟩:=parts_run (w:=w) (γ:=γ) (parts.toList.map fun p=>(p.1,a.eval p.2)) _ _ _ es (by simp) (by
  intro i p q h1 h2
  rw [List.getElem?_map] at h1 h2
  obtain ⟨p0,hp0,rfl⟩:=Option.map_eq_some_iff.1 h1
  rw [hp0] at h2
  simp only[Option.map_some,Option.some.injEq] at h2
  subst h2
  exact⟨rfl,cx_sim hf p0.2⟩) (hsz ▸ hrow) (by rw [size_madeCells,List.length_replicate,← hsz]) hes
 have hlen:es.length=len:=by rw [hd4,List.length_replicate]
 have hnot:¬ 2 ^ 24 < len * i.size:=by rw [← hci]; omega
 refine row_new hh h (cs:=ds) (fz:=(0,0)) (C:=len) (w':=w.alloc (.cells ds e)) ?_ (old_alloc _ _ _) (fun b hb=>heap_alloc_old w _ hb) (heap_alloc_new w _) (by rw [hd3,hlen]) (.inl rfl) (by omega) hd2
 rw [hlen]
 have hparts:(parts.map fun p=>(p.1,a.eval p.2)).toList=parts.toList.map fun p=>(p.1,a.eval p.2):=by simp
 by_cases h0:len * i.size=0
 ·have hmade:madeCells z.cells (len * z.cells.size)=#[]:=by
   rw [hsz,hci,h0]; simp [madeCells,Array.range_zero']
  rw [← hsz,hmade,hsz,hci] at hd1
  simp [Instr.buildSlice,run_underlying ht,sizeOf,typeInfo,hi,h0,newRow,Array.range_zero',hd1]
 ·rw [hci] at hd1
  unfold madeCells at hd1
  simp [Instr.buildSlice,run_underlying ht,sizeOf,typeInfo,zeroValue,hi,hzz,hnot,h0,newRow,hd1]
theorem bound_inv{hi n:Nat}{X:AV}(h:bound hi X=some n):∃ k z,X=.int k z∧0≤z∧z≤hi∧n=z.toNat:=by
 cases X <;> simp only[bound] at h <;> try (cases h; done)
 rename_i k z
 split at h
 ·rename_i hz
  cases h
  exact⟨k,z,rfl,hz.1,hz.2,rfl⟩
 ·cases h
theorem make_eff(hh:HRel γ H w)(hf:FrR w γ fr a.tmps){base:Nat}{r:Option Nat}{t e:TypeId}{l c:Operand}{z:Value}{x:AV}(ht:P.underlying t=some (.slice e))(hz:zeroOf P e=some z)
  (hsz:z.cells.size=P.cellsOf e) (ho:z.cells.all oneV=true) (hby:P.bytesOf e≤1000)
  (h:evE base r fr H (.make e (P.cellsOf e) (ofZero z) (cx l) (cx c))=some (x,H')):EffV P γ w (Instr.makeSlice t (a.eval l) (a.eval c)) x H':=by
 simp only[evE] at h
 obtain ⟨C,hC,h⟩:=Option.bind_eq_some_iff.1 h
 obtain ⟨n,hn,h⟩:=Option.bind_eq_some_iff.1 h
 obtain ⟨i,hi,hzz,hci,hbi⟩:=info_of_zero hz
 have sl:=cx_sim hf l
 have sc:=cx_sim hf c
 obtain ⟨kc,cn,ec,hc0,hcl,rfl⟩:=bound_inv hC
 obtain ⟨kl,ln,el,hl0,hll,rfl⟩:=bound_inv hn
 rw [ec] at sc
 rw [el] at sl
 rw [int_inv sl,int_inv sc]
 have hlim:(lim:Int)=1000000000:=rfl
 have hb:(i.bytes:Int) * cn≤281474976710656:=by
  have h1:(i.bytes:Int)≤1000:=by rw [← hbi]; omega
  have h2:(i.bytes:Int) * cn≤1000 * cn:=Int.mul_le_mul_of_nonneg_right h1 hc0
  omega
 have hr:=run_make (P:=P) w t e i z ht hi hzz kl kc ln cn hl0 (by omega) hb (by omega)
 refine row_new hh h (cs:=madeCells z.cells (cn.toNat * i.size)) (fz:=(0,0)) (C:=cn.toNat) (by rw [List.length_replicate]; exact hr) (old_alloc _ _ _) (fun b hb=>heap_alloc_old w _ hb) (heap_alloc_new w _) (by rw [size_madeCells,hci]) (.inl rfl) (by simp; omega) ?_
 rw [← hsz]
 exact zero_row ho (by rw [hsz,hci]; exact Nat.mul_le_mul_right _ (by omega))
theorem s2b_eff(hh:HRel γ H w){base:Nat}{r:Option Nat}{s d e:TypeId}(hs:P.underlying s=some .string)(hd:P.underlying d=some (.slice e))(he:P.underlying e=some (.int .u8)){X:AX}{v:Value}{x:AV}(hx:Sim w γ (X.ev fr) v)
  (h:evE base r fr H (.s2b e X)=some (x,H')):EffV P γ w (convert s d v) x H':=by
 simp only[evE] at h
 generalize X.ev fr=XX at *
 cases XX <;> try (cases h; done)
 rename_i s'
 dsimp only at h
 split at h
 case isFalse=>cases h
 rename_i hl
 rw [str_inv hx]
 have hr:=Lib.run_convert_string_bytes (P:=P) w s d e ⟨s'.toArray⟩ hs hd he
 have hsize:(⟨s'.toArray⟩:ByteArray).size=s'.length:=size_mk s'
 have hge:=grownCap_ge w s'.length 0 e
 have hcs:(Lib.bytesCells w e ⟨s'.toArray⟩).size=grownCap w s'.length 0 e:=by
  simp [Lib.bytesCells,hsize]; omega
 refine row_new hh h (w':=Lib.bytesWorld w e ⟨s'.toArray⟩) (cs:=Lib.bytesCells w e ⟨s'.toArray⟩) (fz:=((Lib.bytesCells w e ⟨s'.toArray⟩).size,(Lib.bytesCells w e ⟨s'.toArray⟩).size+1)) (C:=grownCap w s'.length 0 e) (by rw [List.length_map]; rw [hsize] at hr; exact hr) ⟨rfl,rfl,rfl,by rw [Lib.bytesWorld_size]; omega,fun b hb _=>Lib.bytesWorld_at_old w e _ b hb⟩
  (fun b hb=>Lib.bytesWorld_at_old w e _ b hb) (Lib.bytesWorld_at_new w e _) (by rw [hcs,Nat.mul_one]) (.inr (Nat.le_refl _)) (by rw [List.length_map]; exact hge) ?_
 intro i y hy
 rw [List.getElem?_map] at hy
 obtain ⟨b,hb,rfl⟩:=Option.map_eq_some_iff.1 hy
 refine⟨rfl,fun j y hj=>?_⟩
 cases j with
 | succ j=>simp [bv,AV.flat] at hj
 | zero =>
  simp only[bv,AV.flat,List.getElem?_cons_zero,Option.some.injEq] at hj
  subst hj
  refine⟨.int .u8 b.toNat,?_,rfl,.int _ _⟩
  have hi:i < s'.length:=(List.getElem?_eq_some_iff.1 hb).1
  simp [Lib.bytesCells]
  rw [List.getElem?_append_left (by simpa using hi)]
  simp [hb]
end
end Go.Pv
