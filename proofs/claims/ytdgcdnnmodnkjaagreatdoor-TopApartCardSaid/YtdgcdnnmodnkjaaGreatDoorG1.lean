/- Part 1 of a proof that a step of one domain changes nothing of another: the machine of plain values, and what the program's functions do. -/
import Derived.Test.YtdgcdnnmodnkjaaGreatDoorG0
import Derived.WalkKit
import Derived.WalkLawsBesides
set_option linter.all false
set_option linter.unusedVariables false
set_option linter.unusedSectionVars false
set_option linter.unusedSimpArgs false
set_option linter.defProp false
namespace Go.Pv
structure GE where
 blk:Option Nat
 sz:Nat
 C:Nat
 st:Nat        -- 0: gone,1: nobody writes it any more,2: the call's own
structure Gh where
 m:Nat→Option GE
 imm:Nat→Prop
def Gh.bare(γ:Gh):Gh:=⟨fun _=>none,γ.imm⟩
def Gh.owns(γ:Gh)(b:Nat):Prop:=∃ id ge,γ.m id=some ge∧ge.st=2∧ge.blk=some b
inductive Sim(w:World):Gh→AV→Value→Prop
 | undef {γ:Gh} (v:Value):Sim w γ .undef v
 | bool {γ:Gh} (b:Bool):Sim w γ (.bool b) (.bool b)
 | anyb {γ:Gh} (b:Bool):Sim w γ .anyb (.bool b)
 | int {γ:Gh} (k:IntKind) (n:Int):Sim w γ (.int k n) (.int k n)
 | str {γ:Gh} (s:List UInt8):Sim w γ (.str s) (.string ⟨s.toArray⟩)
 | lit {γ:Gh} (v:Value):Sim w γ (.lit v) v
 | sl0 {γ:Gh} (sz:Nat) (full:Bool) (A:Option Addr) (cap:Nat) (h:full=true→cap=0):Sim w γ (.sl sz [] full) (.slice A 0 cap)
 | sl {γ:Gh} (sz:Nat) (es:List AV) (full:Bool) (b off cap:Nat) (U:Nat→Nat→Value) (hp:0 < es.length) (hc:es.length≤cap) (hf:full=true→cap=es.length)
   (hb:b < w.heap.size) (hi:γ.imm b) (hz:∀ x∈es,x.flat.length=sz)
   (hcell:∀(i:Nat) (x:AV) (j:Nat) (y:AV),es[i]?=some x→x.flat[j]?=some y→w.cell? ⟨b,off+i * sz+j,none⟩=some (U i j) ∧(U i j).oneCell'=true)
   (hs:∀(i:Nat) (x:AV) (j:Nat) (y:AV),es[i]?=some x→x.flat[j]?=some y→Sim w γ.bare y (U i j)):Sim w γ (.sl sz es full) (.slice (some ⟨b,off,none⟩) es.length cap)
 | vec {γ:Gh} (id sz off len:Nat) (A:Option Addr) (cap:Nat) (ge:GE) (hm:γ.m id=some ge) (hz:ge.sz=sz) (hl:off+len≤ge.C) (hc:cap+off=ge.C)
   (hN:ge.blk=none→ge.C=0) (hA:∀ g,ge.blk=some g →(0 < len∨off=0)→A=some ⟨g,off * sz,none⟩):Sim w γ (.vec id sz off len) (.slice A len cap)
 | eptr {γ:Gh} (id i off g:Nat) (ge:GE) (hm:γ.m id=some ge) (hg:ge.blk=some g):Sim w γ (.eptr id i off) (.pointer (some ⟨g,i * ge.sz+off,none⟩))
 | rptr {γ:Gh} (x:AV) (off b o:Nat) (U:Nat→Value) (hb:b < w.heap.size) (hi:γ.imm b)
   (hcell:∀(j:Nat) (y:AV),x.flat[j]?=some y→w.cell? ⟨b,o+j,none⟩=some (U j) ∧(U j).oneCell'=true)
   (hs:∀(j:Nat) (y:AV),x.flat[j]?=some y→Sim w γ.bare y (U j)):Sim w γ (.rptr x off) (.pointer (some ⟨b,o+off,none⟩))
 | fn {γ:Gh} (f g:FuncId) (xs:List AV) (fs cs:Array Value) (hv:(f=g∧fs=#[]∧g < 1000000) ∨(f=g+1000000∧cs=#[]∧g < 1000000)) (hz:xs.length =(fs ++ cs).size)
   (hs:∀(i:Nat) (x:AV) (v:Value),xs[i]?=some x →(fs ++ cs)[i]?=some v→Sim w γ x v):Sim w γ (.fn f xs) (.func (.func g) fs cs)
 | ifc {γ:Gh} (t:TypeId) (x:AV) (v:Value) (h:Sim w γ x v):Sim w γ (.fn (ifB+t) [x]) (.iface t v)
 | agg {γ:Gh} (xs:List AV) (cs:Array Value) (hz:xs.length=cs.size)
   (hs:∀(i:Nat) (x:AV) (v:Value),xs[i]?=some x→cs[i]?=some v→Sim w γ x v):Sim w γ (.agg xs) (.agg cs)
 | tup {γ:Gh} (xs:List AV) (cs:Array Value) (hz:xs.length=cs.size)
   (hs:∀(i:Nat) (x:AV) (v:Value),xs[i]?=some x→cs[i]?=some v→Sim w γ x v):Sim w γ (.tup xs) (.tuple cs)
structure Adv(γ γ':Gh)(w w':World):Prop where
 size:w.heap.size≤w'.heap.size
 imm:∀ b,γ.imm b→γ'.imm b ∧(b < w.heap.size→w'.heap[b]?=w.heap[b]?)
 id:∀ id ge,γ.m id=some ge→∃ st,γ'.m id=some { ge with st:=st }
theorem Adv.bare{γ γ':Gh}{w w':World}(h:Adv γ γ' w w'):Adv γ.bare γ'.bare w w':=⟨h.size,h.imm,fun _ _ hi=>by cases hi⟩
theorem cell_same{w w':World}{b o:Nat}(h:w'.heap[b]?=w.heap[b]?):w'.cell? ⟨b,o,none⟩=w.cell? ⟨b,o,none⟩:=World.cell?_of_block (w:=w) (a:=⟨b,o,none⟩) h
theorem Sim.adv{w:World}{γ:Gh}{x:AV}{v:Value}(h:Sim w γ x v):∀ {γ':Gh} {w':World},Adv γ γ' w w'→Sim w' γ' x v:=by
 induction h with
 | undef v=>intro γ' w' _; exact .undef v
 | bool b=>intro γ' w' _; exact .bool b
 | anyb b=>intro γ' w' _; exact .anyb b
 | int k n=>intro γ' w' _; exact .int k n
 | str s=>intro γ' w' _; exact .str s
 | lit v=>intro γ' w' _; exact .lit v
 | sl0 sz full A cap h=>intro γ' w' _; exact .sl0 sz full A cap h
 | sl sz es full b off cap U hp hc hf hb hi hz hcell hs ih =>
  intro γ' w' a
  have he:=(a.imm b hi).2 hb
  exact .sl sz es full b off cap U hp hc hf (Nat.lt_of_lt_of_le hb a.size) (a.imm b hi).1 hz (fun i x j y h1 h2=>by rw [cell_same he]; exact hcell i x j y h1 h2) (fun i x j y h1 h2=>ih i x j y h1 h2 a.bare)
 | vec id sz off len A cap ge hm hz hl hc hN hA =>
  intro γ' w' a
  obtain ⟨st,h2⟩:=a.id id ge hm
  exact .vec id sz off len A cap _ h2 hz hl hc hN hA
 | eptr id i off g ge hm hg =>
  intro γ' w' a
  obtain ⟨st,h2⟩:=a.id id ge hm
  exact .eptr id i off g { ge with st:=st } h2 hg
 | rptr x off b o U hb hi hcell hs ih =>
  intro γ' w' a
  have he:=(a.imm b hi).2 hb
  exact .rptr x off b o U (Nat.lt_of_lt_of_le hb a.size) (a.imm b hi).1 (fun j y h=>by rw [cell_same he]; exact hcell j y h) (fun j y h=>ih j y h a.bare)
 | fn f g xs fs cs hv hz hs ih=>intro γ' w' a; exact .fn f g xs fs cs hv hz fun i x v h1 h2=>ih i x v h1 h2 a
 | ifc t x v h ih=>intro γ' w' a; exact .ifc t x v (ih a)
 | agg xs cs hz hs ih=>intro γ' w' a; exact .agg xs cs hz fun i x v h1 h2=>ih i x v h1 h2 a
 | tup xs cs hz hs ih=>intro γ' w' a; exact .tup xs cs hz fun i x v h1 h2=>ih i x v h1 h2 a
def EntOk(w:World)(γ:Gh)(e:Ent)(ge:GE):Prop :=
 (ge.st=0∧e.wr=false∧e.es=[])∨ge.st =(if e.wr then 2 else 1) ∧((ge.blk=none∧e.es=[]∧ge.C=0) ∨
   ∃ g cs fr,ge.blk=some g∧w.heap[g]?=some (.cells cs e.ty fr)∧cs.size=ge.C * ge.sz ∧(fr.1=fr.2∨cs.size≤fr.1)∧e.es.length≤ge.C ∧
    ∀(i:Nat) (x:AV),e.es[i]?=some x→x.flat.length=ge.sz∧∀(j:Nat) (y:AV),x.flat[j]?=some y→∃ u,cs[i * ge.sz+j]?=some u∧u.oneCell'=true∧Sim w γ y u)
theorem EntOk.adv{w w':World}{γ γ':Gh}{e:Ent}{ge:GE}(h:EntOk w γ e ge)(a:Adv γ γ' w w')(hk:∀ g,ge.st≠0→ge.blk=some g→w'.heap[g]?=w.heap[g]?):EntOk w' γ' e ge:=by
 rcases h with h | h
 ·exact .inl h
 have hst:ge.st≠0:=by rw [h.1]; split <;> decide
 refine .inr ⟨h.1,?_⟩
 rcases h.2 with h | ⟨g,cs,fr,h1,h2,h3,h4,h5,h6⟩
 ·exact .inl h
 ·refine .inr ⟨g,cs,fr,h1,(hk g hst h1).trans h2,h3,h4,h5,fun i x hx=>⟨(h6 i x hx).1,fun j y hy=>?_⟩⟩
  obtain ⟨u,hu,hone,hs⟩:=(h6 i x hx).2 j y hy
  exact⟨u,hu,hone,hs.adv a⟩
structure HRel(γ:Gh)(H:Hp)(w:World):Prop where
 none:∀ id,ent H id=none→γ.m id=none
 ok:∀ id e,ent H id=some e→∃ ge,γ.m id=some ge∧EntOk w γ e ge
 inj:∀ id id' ge ge' b,γ.m id=some ge→γ.m id'=some ge'→ge.st≠0→ge'.st≠0→ge.blk=some b→ge'.blk=some b→id=id'
 imm:∀ b,γ.imm b→b < w.heap.size∧¬ γ.owns b
 stl:∀ id ge b,γ.m id=some ge→ge.st=1→ge.blk=some b→γ.imm b
theorem ent_lt{H:Hp}{id:Nat}{e:Ent}(h:ent H id=some e):id < H.length:=by
 unfold ent at h
 rcases Nat.lt_or_ge id H.length with h' | h'
 ·exact h'
 ·rw [List.getElem?_eq_none h'] at h; cases h
theorem HRel.ent{γ:Gh}{H:Hp}{w:World}(h:HRel γ H w){id:Nat}{ge:GE}(hm:γ.m id=some ge):∃ e,Pv.ent H id=some e∧EntOk w γ e ge:=by
 cases he:Pv.ent H id with
 | none=>rw [h.none id he] at hm; cases hm
 | some e =>
  obtain ⟨ge',h1,h2⟩:=h.ok id e he
  rw [hm] at h1; cases h1
  exact⟨e,rfl,h2⟩
theorem EntOk.blkLt{γ:Gh}{w:World}{e:Ent}{ge:GE}(h2:EntOk w γ e ge)(hs:ge.st≠0){g:Nat}(hg:ge.blk=some g):g < w.heap.size:=by
 rcases h2 with h | h2
 ·exact absurd h.1 hs
 rcases h2.2 with h' | ⟨g',cs,fr,h1,h2,_⟩
 ·rw [h'.1] at hg; cases hg
 ·rw [h1] at hg; cases hg
  exact(Array.getElem?_eq_some_iff.1 h2).1
theorem HRel.blkLt{γ:Gh}{H:Hp}{w:World}(h:HRel γ H w){id:Nat}{ge:GE}{g:Nat}(hm:γ.m id=some ge)(hs:ge.st≠0)(hg:ge.blk=some g):g < w.heap.size:=by
 obtain ⟨e,_,h2⟩:=h.ent hm
 exact h2.blkLt hs hg
theorem EntOk.live{γ:Gh}{w:World}{e:Ent}{ge:GE}(h:EntOk w γ e ge)(hl:e.wr=true∨e.es≠[]):ge.st =(if e.wr then 2 else 1) ∧((ge.blk=none∧e.es=[]∧ge.C=0) ∨
  ∃ g cs fr,ge.blk=some g∧w.heap[g]?=some (.cells cs e.ty fr)∧cs.size=ge.C * ge.sz ∧(fr.1=fr.2∨cs.size≤fr.1)∧e.es.length≤ge.C ∧
   ∀(i:Nat) (x:AV),e.es[i]?=some x→x.flat.length=ge.sz∧∀(j:Nat) (y:AV),x.flat[j]?=some y→∃ u,cs[i * ge.sz+j]?=some u∧u.oneCell'=true∧Sim w γ y u):=by
 rcases h with ⟨_,h1,h2⟩ | h
 ·rcases hl with hl | hl
  ·rw [h1] at hl; cases hl
  ·exact absurd h2 hl
 ·exact h
structure Step(γ γ':Gh)(w w':World):Prop where
 os:w'.os=w.os
 tape:w'.tape=w.tape
 output:w'.output=w.output
 size:w.heap.size≤w'.heap.size
 keep:∀ b,b < w.heap.size→¬ γ.owns b→w'.heap[b]?=w.heap[b]?
 own:∀ b,γ'.owns b→γ.owns b∨w.heap.size≤b
 immk:∀ b,γ.imm b→γ'.imm b
 immn:∀ b,γ'.imm b→γ.imm b∨γ.owns b∨w.heap.size≤b
def Ids(γ γ':Gh):Prop:=∀ id ge,γ.m id=some ge→∃ st,γ'.m id=some { ge with st:=st }
theorem Step.adv{γ γ':Gh}{w w':World}(h:Step γ γ' w w')(hi:Ids γ γ')(himm:∀ b,γ.imm b→b < w.heap.size∧¬ γ.owns b):Adv γ γ' w w' :=
 ⟨h.size,fun b hb=>⟨h.immk b hb,fun hlt=>h.keep b hlt (himm b hb).2⟩,hi⟩
theorem Step.refl(γ:Gh)(w:World):Step γ γ w w:=⟨rfl,rfl,rfl,Nat.le_refl _,fun _ _ _=>rfl,fun _ h=>.inl h,fun _ h=>h,fun _ h=>.inl h⟩
theorem Ids.refl(γ:Gh):Ids γ γ:=fun _ ge h=>⟨ge.st,h⟩
theorem Ids.trans{a b c:Gh}(h:Ids a b)(k:Ids b c):Ids a c:=fun id ge hm=>by
 obtain ⟨st,h1⟩:=h id ge hm
 obtain ⟨st',h2⟩:=k id _ h1
 exact⟨st',h2⟩
theorem Step.trans{a b c:Gh}{w w1 w2:World}(h:Step a b w w1)(k:Step b c w1 w2):Step a c w w2 where
 os:=k.os.trans h.os
 tape:=k.tape.trans h.tape
 output:=k.output.trans h.output
 size:=Nat.le_trans h.size k.size
 keep:=fun x hx hn=>(k.keep x (Nat.lt_of_lt_of_le hx h.size) (fun ho=>(h.own x ho).elim hn (fun hge=>by omega))).trans (h.keep x hx hn)
 own:=fun x hx=>by
  rcases k.own x hx with h1 | h1
  ·exact h.own x h1
  ·exact .inr (Nat.le_trans h.size h1)
 immk:=fun x hx=>k.immk x (h.immk x hx)
 immn:=fun x hx=>by
  rcases k.immn x hx with h1 | h1 | h1
  ·exact h.immn x h1
  ·exact .inr (h.own x h1)
  ·exact .inr (.inr (Nat.le_trans h.size h1))
def FrR(w:World)(γ:Gh)(fr:Fr)(tmps:Array Value):Prop:=∀ t,Sim w γ (get fr t) (tmps.getD t Go.undef)
theorem get_put(fr:Fr)(t u:Nat)(v:AV):get (put fr t v) u=if t=u then v else get fr u:=by
 induction fr with
 | nil=>simp only[put,get]
 | cons p r ih =>
  obtain ⟨k,x⟩:=p
  simp only[put]
  by_cases h:k=t
  ·subst h; simp only[if_true,get]; split <;> rfl
  ·rw [if_neg h]
   split
   ·simp only[get]
   ·simp only[get,ih]
    by_cases h1:k=u
    ·subst h1; rw [if_pos rfl,if_pos rfl,if_neg (fun e=>h e.symm)]
    ·rw [if_neg h1,if_neg h1]
theorem FrR.adv{w w':World}{γ γ':Gh}{fr:Fr}{tmps:Array Value}(h:FrR w γ fr tmps)(a:Adv γ γ' w w'):FrR w' γ' fr tmps:=fun t=>(h t).adv a
theorem FrR.put{w:World}{γ:Gh}{fr:Fr}{a:Act}(h:FrR w γ fr a.tmps){d:Option Nat}{x:AV}{v:Value}(hs:Sim w γ x v)(hd:∀ t,d=some t→t < a.tmps.size):FrR w γ (putO fr d x) (a.put d v).tmps:=by
 cases d with
 | none=>exact h
 | some d =>
  intro t
  simp only[putO,get_put,Act.put]
  by_cases ht:d=t
  ·subst ht
   have:=hd d rfl
   rw [if_pos rfl]
   simpa [Array.getD_eq_getD_getElem?,Array.getElem?_setIfInBounds,this] using hs
  ·rw [if_neg ht]
   have e:(a.tmps.setIfInBounds d v).getD t Go.undef=a.tmps.getD t Go.undef:=by
    simp [Array.getD_eq_getD_getElem?,Array.getElem?_setIfInBounds_ne ht]
   rw [e]; exact h t
theorem ofVal_sim(w:World)(γ:Gh)(v:Value):Sim w γ (ofVal v) v:=by
 cases v with
 | bool b=>exact .bool _
 | int k n=>exact .int _ _
 | string s=>exact .str s.data.toList
 | slice a n c =>
  simp only[ofVal]
  split
  ·rename_i h
   simp at h
   obtain ⟨⟨rfl,rfl⟩,rfl⟩:=h
   exact .sl0 _ _ _ _ (fun _=>rfl)
  ·exact .lit _
 | func g a b =>
  simp only[ofVal]
  split
  ·rename_i h
   simp at h
   obtain ⟨rfl,rfl⟩:=h
   cases g <;> try exact .lit _
   dsimp only
   split
   ·rename_i hf; exact .fn _ _ _ _ _ (.inl ⟨rfl,rfl,hf⟩) rfl (fun i x v h _=>by simp at h)
   ·exact .lit _
  ·exact .lit _
 | _=>exact .lit _
theorem cx_sim{w:World}{γ:Gh}{fr:Fr}{a:Act}(h:FrR w γ fr a.tmps)(x:Operand):Sim w γ ((cx x).ev fr) (a.eval x):=by
 cases x with
 | tmp t=>exact h t
 | const v=>exact ofVal_sim w γ v
 | global g=>exact .lit _
 | func f =>
  simp only[cx,AX.ev]
  split
  ·rename_i hf; exact .fn _ _ _ _ _ (.inl ⟨rfl,rfl,hf⟩) rfl (fun i x v h _=>by simp at h)
  ·exact .lit _
end Go.Pv
namespace Go.Pv
section
variable {P:Program} {w:World} {γ:Gh}
theorem str_inv{s:List UInt8}{v:Value}(h:Sim w γ (.str s) v):v=.string ⟨s.toArray⟩:=by cases h; rfl
theorem int_inv{k:IntKind}{n:Int}{v:Value}(h:Sim w γ (.int k n) v):v=.int k n:=by cases h; rfl
theorem bool_inv{b:Bool}{v:Value}(h:Sim w γ (.bool b) v):v=.bool b:=by cases h; rfl
theorem int2_run{op:BinOp}{k:IntKind}{a b:Int}{z:AV}(h:int2 op k a b=some z)(t:TypeId)(h1:op≠.shl)(h2:op≠.shr) :
  ∃ v,(binOp op t (.int k a) (.int k b)).run P w=.ok v w∧Sim w γ z v:=by
 cases op <;> simp only[int2,Option.some.injEq,reduceCtorEq] at h <;>
  first
   | exact absurd rfl h1
   | exact absurd rfl h2
   | (subst h; exact⟨_,by simp only[binOp]; rw [if_neg (by simp)]; rfl,by constructor⟩)
   | (split at h
      ·cases h
      ·rename_i hb
       cases h
       exact⟨_,by simp [binOp,Op.intDiv,hb]; rfl,by constructor⟩)
theorem size_mk(l:List UInt8):(ByteArray.mk l.toArray).size=l.length:=by simp [ByteArray.size]
theorem append_mk(a b:List UInt8):ByteArray.mk a.toArray ++ ByteArray.mk b.toArray=ByteArray.mk (a ++ b).toArray:=by
 apply ByteArray.ext
 simp
theorem bin_run{op:BinOp}{X Y z:AV}{x y:Value}(hx:Sim w γ X x)(hy:Sim w γ Y y)(h:bin2 op X Y=some z)(t:TypeId) :
  ∃ v,(binOp op t x y).run P w=.ok v w∧Sim w γ z v:=by
 unfold bin2 at h
 split at h
 ·cases int_inv hx; cases int_inv hy
  split at h
  ·split at h
   ·cases h
   ·rename_i hb
    cases h
    exact⟨_,by simp [binOp,Op.shift,hb]; rfl,by constructor⟩
  ·split at h
   ·cases h
   ·rename_i hb
    cases h
    exact⟨_,by simp [binOp,Op.shift,hb]; rfl,by constructor⟩
  ·rename_i h1 h2
   split at h
   ·rename_i hk
    subst hk
    exact int2_run h t h1 h2
   ·cases h
 ·cases str_inv hx; cases str_inv hy
  split at h
  ·split at h
   ·rename_i a b hl
    cases h
    refine⟨_,?_,.str _⟩
    simp only[binOp,Op.stringOp]
    rw [if_neg (by rw [size_mk,size_mk,show IntKind.i64.max=9223372036854775807 from rfl]; unfold lim at hl; omega),append_mk]
    rfl
   ·cases h
  ·cases h
   exact⟨_,by simp [binOp,Op.stringOp]; rfl,by constructor⟩
  ·cases h
   exact⟨_,by simp [binOp,Op.stringOp]; rfl,by constructor⟩
  ·cases h
 ·cases h
theorem eqGuard_run(op:BinOp)(t:TypeId)(x y:Operand)(a b:Value)(h:∀ cs,a≠.agg cs)(h':a≠.nilIface):(eqGuard op t x y a b).run P w=.ok () w:=by
 unfold eqGuard
 cases op <;> first | rfl | (cases a <;> first | rfl | exact absurd rfl h' | exact absurd rfl (h _))
theorem equalIn_bool(d:Nat)(t:TypeId)(ht:P.underlying t=some .bool)(a b:Bool):(Op.equalIn (d+1) t (.bool a) (.bool b)).run P w=.ok (a == b) w:=by
 simp [Op.equalIn,run_underlying ht]
theorem binB_run{op:BinOp}{X Y z:AV}{x y:Value}(hx:Sim w γ X x)(hy:Sim w γ Y y)(h:binB2 op X Y=some z)(t:TypeId)(ht:P.underlying t=some .bool) :
  ∃ v,(binOp op t x y).run P w=.ok v w∧Sim w γ z v:=by
 unfold binB2 at h
 split at h
 ·cases bool_inv hx; cases bool_inv hy
  split at h
  ·cases h
   exact⟨_,by simp only[binOp]; simp [Op.equal,Op.maxDepth,equalIn_bool 9999 t ht]; rfl,by constructor⟩
  ·cases h
   exact⟨_,by simp only[binOp]; simp [Op.equal,Op.maxDepth,equalIn_bool 9999 t ht]; rfl,by constructor⟩
  ·cases h
 ·cases h
theorem un_run{op:UnOp}{X z:AV}{x:Value}(hx:Sim w γ X x)(h:un1 op X=some z):∃ v,(Op.unary op x).run P w=.ok v w∧Sim w γ z v:=by
 unfold un1 at h
 split at h
 ·cases bool_inv hx
  split at h
  ·cases h; exact⟨_,rfl,by constructor⟩
  ·cases h
 ·cases int_inv hx
  split at h
  ·cases h; exact⟨_,rfl,by constructor⟩
  ·cases h
 ·cases h
theorem index_inv{n i:Nat}{X:AV}{x:Value}(hx:Sim w γ X x)(h:index n X=some i):∃ k z,x=.int k z∧0≤z∧z < n∧i=z.toNat∧i < n:=by
 unfold index at h
 split at h
 ·cases int_inv hx
  split at h
  ·rename_i hb
   cases h
   exact⟨_,_,rfl,hb.1,hb.2,rfl,by omega⟩
  ·cases h
 ·cases h
theorem agg_inv{xs:List AV}{v:Value}(h:Sim w γ (.agg xs) v):∃ cs,v=.agg cs∧xs.length=cs.size∧∀(i:Nat) (x:AV) (u:Value),xs[i]?=some x→cs[i]?=some u→Sim w γ x u:=by
 cases h with | agg _ cs hz hs=>exact⟨cs,rfl,hz,hs⟩
theorem tup_inv{xs:List AV}{v:Value}(h:Sim w γ (.tup xs) v):∃ cs,v=.tuple cs∧xs.length=cs.size∧∀(i:Nat) (x:AV) (u:Value),xs[i]?=some x→cs[i]?=some u→Sim w γ x u:=by
 cases h with | tup _ cs hz hs=>exact⟨cs,rfl,hz,hs⟩
theorem info_of_under{t:TypeId}{d:TypeDesc}(h:P.underlying t=some d):∃ i,P.info? t=some i:=by
 unfold Program.underlying at h
 split at h
 ·exact⟨_,by assumption⟩
 ·exact⟨_,by assumption⟩
 ·cases h
theorem tyOk_under{t:TypeId}(h:tyOk P t=true):∃ d,P.underlying t=some d:=Option.isSome_iff_exists.1 h
theorem run_isAgg{t:TypeId}(h:tyOk P t=true):(Go.isAgg t).run P w=.ok (isAg P t) w:=by
 obtain ⟨d,hd⟩:=tyOk_under h
 simp only[Go.isAgg,isAg,Sem.run_bind,run_underlying hd,Result.andThen_ok,hd]
 cases d <;> rfl
theorem run_sizeOf{t:TypeId}(h:tyOk P t=true):(sizeOf t).run P w=.ok (P.cellsOf t) w:=by
 obtain ⟨d,hd⟩:=tyOk_under h
 obtain ⟨i,hi⟩:=info_of_under hd
 simp [sizeOf,typeInfo,hi,Program.cellsOf]
theorem part_run{t:TypeId}{xs:List AV}{cs:Array Value}{off:Nat}{z:AV}(hz:xs.length=cs.size)(hs:∀(i:Nat) (x:AV) (u:Value),xs[i]?=some x→cs[i]?=some u→Sim w γ x u)
  (ht:tyOk P t=true) (h:cells (.agg xs) off (P.cellsOf t) (isAg P t)=some z):∃ v,(part t cs off).run P w=.ok v w∧Sim w γ z v:=by
 unfold cells at h
 simp only[part,Sem.run_bind,run_isAgg ht,Result.andThen_ok]
 by_cases ha:isAg P t=true
 ·rw [if_pos ha] at h ⊢
  split at h
  ·rename_i hl
   cases h
   simp only[Sem.run_bind,run_sizeOf ht,Result.andThen_ok,Sem.run_pure]
   refine⟨_,rfl,.agg _ _ ?_ ?_⟩
   ·rw [hl]
    simp only[AV.flat,List.length_take,List.length_drop] at hl
    simp
    omega
   ·intro i x u hx hu
    simp only[AV.flat] at hx
    rw [List.getElem?_take] at hx
    split at hx
    ·rename_i hi
     rw [List.getElem?_drop] at hx
     rw [Array.getElem?_extract] at hu
     split at hu
     ·exact hs _ x u hx hu
     ·cases hu
    ·cases hx
  ·cases h
 ·rw [if_neg ha] at h ⊢
  simp only[AV.flat] at h
  have hlt:off < xs.length:=(List.getElem?_eq_some_iff.1 h).1
  have hc:cs[off]?=some (cs[off]'(by omega)):=Array.getElem?_eq_getElem (by omega)
  rw [hc]
  exact⟨_,rfl,hs off z _ h hc⟩
theorem bound_le{hi hi' n:Nat}{X:AV}{x:Value}(hx:Sim w γ X x)(h:bound hi X=some n)(hle:hi≤hi')(code:BoundsCode):(Instr.sliceBound x hi' code).run P w=.ok n w∧n≤hi:=by
 unfold bound at h
 split at h
 ·cases int_inv hx
  split at h
  ·rename_i hb
   cases h
   have h2:=hb.1
   have h3:=hb.2
   refine⟨?_,by omega⟩
   simp only[Instr.sliceBound,asIntOf,Sem.run_bind,Sem.run_pure,Result.andThen_ok]
   rw [if_pos ⟨h2,by omega⟩]
   rfl
  ·cases h
 ·cases h
variable {fr:Fr}
theorem pick_run{X A B:AX}{z:AV}{x a b:Value}(hx:Sim w γ (X.ev fr) x)(ha:Sim w γ (A.ev fr) a)(hb:Sim w γ (B.ev fr) b)(h:evP fr (.pick X A B)=some z) :
  ∃ v,(do pure (.value (if ← asBool x then a else b)):Sem Next).run P w=.ok (.value v) w∧Sim w γ z v:=by
 simp only[evP] at h
 generalize X.ev fr=XX at *
 cases XX <;> try (cases h; done)
 cases bool_inv hx
 cases h
 refine⟨_,rfl,?_⟩
 split
 ·exact ha
 ·exact hb
theorem ptr_add{X:AX}{z:AV}{x:Value}(hx:Sim w γ (X.ev fr) x){off:Nat}(h:evP fr (.faddr off X)=some z) :
  ∃ a:Addr,x=.pointer (some a)∧Sim w γ z (.pointer (some (a.add off))):=by
 simp only[evP] at h
 generalize X.ev fr=XX at *
 cases XX <;> try (cases h; done)
 ·cases hx with
  | eptr id i o g ge hm hg =>
   cases h
   refine⟨_,rfl,?_⟩
   rw [Addr.add_lit,Nat.add_assoc]
   exact .eptr _ _ _ g ge hm hg
 ·cases hx with
  | rptr x o b o' U hb hi hc hs =>
   cases h
   refine⟨_,rfl,?_⟩
   rw [Addr.add_lit,Nat.add_assoc]
   exact .rptr _ _ b _ U hb hi hc hs
theorem iaddr_run{t e:TypeId}(ht:P.underlying t=some (.slice e))(he:tyOk P e=true){X I:AX}{z:AV}{x i:Value}(hx:Sim w γ (X.ev fr) x)(hi:Sim w γ (I.ev fr) i)
  (h:evP fr (.iaddr (P.cellsOf e) X I)=some z):∃ v,(Instr.indexAt t x i).run P w=.ok v w∧Sim w γ z v:=by
 simp only[evP] at h
 generalize X.ev fr=XX at *
 cases XX <;> try (cases h; done)
 ·rename_i sz es full
  dsimp only at h
  split at h
  ·rename_i hsz
   obtain ⟨k,hk,h⟩:=Option.bind_eq_some_iff.1 h
   obtain ⟨y,hy,hh⟩:=Option.map_eq_some_iff.1 h
   obtain ⟨ki,zi,rfl,h0,h1,rfl,h2⟩:=index_inv hi hk
   subst hh
   cases hx with
   | sl0=>simp at h2
   | sl sz es full b off cap U hp hc hf hb him hz hcell hs =>
    refine⟨.pointer (some ⟨b,off+zi.toNat * sz+0,none⟩),?_,.rptr y 0 b (off+zi.toNat * sz) (U zi.toNat) hb him (fun j u hj=>hcell _ y j u hy hj) (fun j u hj=>hs _ y j u hy hj)⟩
    simp [Instr.indexAt,asIntOf,run_underlying ht,h0,h1,run_sizeOf he,Addr.add_lit,hsz]
  ·cases h
 ·rename_i id sz off len
  dsimp only at h
  split at h
  ·rename_i hsz
   obtain ⟨k,hk,h⟩:=Option.map_eq_some_iff.1 h
   obtain ⟨ki,zi,rfl,h0,h1,rfl,h2⟩:=index_inv hi hk
   subst h
   cases hx with
   | vec _ _ _ _ A cap ge hm hz hl hc hN hA =>
    cases hg:ge.blk with
    | none=>have:=hN hg; omega
    | some g =>
     have hAe:=hA g hg (.inl (by omega))
     subst hAe
     refine⟨.pointer (some ⟨g,(off+zi.toNat) * ge.sz+0,none⟩),?_,.eptr id _ 0 g ge hm hg⟩
     simp [Instr.indexAt,asIntOf,run_underlying ht,h0,h1,run_sizeOf he,Addr.add_lit,hsz,hz,Nat.add_mul]
  ·cases h
theorem aaddr_run{t e:TypeId}{len:Nat}(ht:P.underlying t=some (.array len e))(he:tyOk P e=true){X I:AX}{z:AV}{x i:Value}(hx:Sim w γ (X.ev fr) x)(hi:Sim w γ (I.ev fr) i)
  (h:evP fr (.aaddr len (P.cellsOf e) X I)=some z):∃ v,(Instr.indexAt t x i).run P w=.ok v w∧Sim w γ z v:=by
 simp only[evP] at h
 generalize X.ev fr=XX at *
 cases XX <;> try (cases h; done)
 ·rename_i id j o
  obtain ⟨k,hk,h⟩:=Option.map_eq_some_iff.1 h
  obtain ⟨ki,zi,rfl,h0,h1,rfl,h2⟩:=index_inv hi hk
  subst h
  cases hx with
  | eptr _ _ _ g ge hm hg =>
   refine⟨.pointer (some ⟨g,_ * ge.sz +(o+zi.toNat * P.cellsOf e),none⟩),?_,.eptr _ _ _ g ge hm hg⟩
   simp [Instr.indexAt,asIntOf,run_underlying ht,h0,h1,run_sizeOf he,Addr.add_lit,Instr.sureAddr,Nat.add_assoc]
 ·rename_i y o
  obtain ⟨k,hk,h⟩:=Option.map_eq_some_iff.1 h
  obtain ⟨ki,zi,rfl,h0,h1,rfl,h2⟩:=index_inv hi hk
  subst h
  cases hx with
  | rptr _ _ b o' U hb him hc hs =>
   refine⟨.pointer (some ⟨b,o' +(o+zi.toNat * P.cellsOf e),none⟩),?_,.rptr _ _ b o' U hb him hc hs⟩
   simp [Instr.indexAt,asIntOf,run_underlying ht,h0,h1,run_sizeOf he,Addr.add_lit,Instr.sureAddr,Nat.add_assoc]
theorem get_mk(s:List UInt8)(k:Nat):(ByteArray.mk s.toArray)[k]?=s[k]?:=by
 by_cases h:k < s.length
 ·rw [List.getElem?_eq_getElem h,getElem?_pos _ _ (by rw [size_mk]; exact h)]
  rfl
 ·rw [List.getElem?_eq_none (by omega),getElem?_neg _ _ (by rw [size_mk]; exact h)]
theorem idxs_run{t:TypeId}(ht:P.underlying t=some .string){X I:AX}{z:AV}{x i:Value}(hx:Sim w γ (X.ev fr) x)(hi:Sim w γ (I.ev fr) i)
  (h:evP fr (.idxs X I)=some z):∃ v,(Instr.index t x i).run P w=.ok v w∧Sim w γ z v:=by
 simp only[evP] at h
 generalize X.ev fr=XX at *
 cases XX <;> try (cases h; done)
 obtain ⟨k,hk,h⟩:=Option.bind_eq_some_iff.1 h
 obtain ⟨y,hy,hh⟩:=Option.map_eq_some_iff.1 h
 obtain ⟨ki,zi,rfl,h0,h1,rfl,h2⟩:=index_inv hi hk
 cases str_inv hx
 subst hh
 exact⟨.int .u8 y.toNat,by simp [Instr.index,asIntOf,run_underlying ht,h0,get_mk,hy],.int _ _⟩
theorem idxa_run{t e:TypeId}{len:Nat}(ht:P.underlying t=some (.array len e))(he:tyOk P e=true){X I:AX}{z:AV}{x i:Value}(hx:Sim w γ (X.ev fr) x)(hi:Sim w γ (I.ev fr) i)
  (h:evP fr (.idxa len (P.cellsOf e) (isAg P e) X I)=some z):∃ v,(Instr.index t x i).run P w=.ok v w∧Sim w γ z v:=by
 simp only[evP] at h
 generalize X.ev fr=XX at *
 cases XX <;> try (cases h; done)
 obtain ⟨k,hk,h⟩:=Option.bind_eq_some_iff.1 h
 obtain ⟨ki,zi,rfl,h0,h1,rfl,h2⟩:=index_inv hi hk
 obtain ⟨cs,rfl,hz,hs⟩:=agg_inv hx
 obtain ⟨v,hv,hsv⟩:=part_run (P:=P) hz hs he h
 exact⟨v,by simp [Instr.index,asIntOf,run_underlying ht,h0,h1,run_sizeOf he,hv],hsv⟩
theorem ext_run{X:AX}{z:AV}{x:Value}(hx:Sim w γ (X.ev fr) x){i:Nat}(h:evP fr (.ext X i)=some z):∃ v,(Instr.extract x i).run P w=.ok v w∧Sim w γ z v:=by
 simp only[evP] at h
 generalize X.ev fr=XX at *
 cases XX <;> try (cases h; done)
 obtain ⟨cs,rfl,hz,hs⟩:=tup_inv hx
 dsimp only at h
 have hl:=(List.getElem?_eq_some_iff.1 h).1
 have hc:cs[i]?=some (cs[i]'(by omega)):=Array.getElem?_eq_getElem (by omega)
 exact⟨_,by simp only[Instr.extract,hc]; rfl,hs i z _ h hc⟩
theorem lenS_run{t:TypeId}{X:AX}{z:AV}{x:Value}(ht:P.underlying t=some .string)(hx:Sim w γ (X.ev fr) x)(ty:TypeId)
  (h:evP fr (.lenS X)=some z):∃ v,(Builtin.len_ #[t] ty #[x]).run P w=.ok v w∧Sim w γ z v:=by
 simp only[evP] at h
 generalize X.ev fr=XX at *
 cases XX <;> try (cases h; done)
 cases str_inv hx
 cases h
 exact⟨.int .i64 _,by simp [Builtin.len_,run_underlying ht,goInt,size_mk],.int _ _⟩
theorem len_run{t e:TypeId}{X:AX}{z:AV}{x:Value}(ht:P.underlying t=some (.slice e))(hx:Sim w γ (X.ev fr) x)(ty:TypeId)
  (h:evP fr (.len X)=some z):∃ v,(Builtin.len_ #[t] ty #[x]).run P w=.ok v w∧Sim w γ z v:=by
 simp only[evP] at h
 generalize X.ev fr=XX at *
 cases XX <;> try (cases h; done)
 ·rename_i sz es full
  cases h
  cases hx with
  | sl0=>exact⟨.int .i64 0,by simp [Builtin.len_,run_underlying ht,goInt],.int _ _⟩
  | sl _ _ _ b off cap U hp hc hf hb him hz hcell hs=>exact⟨.int .i64 es.length,by simp [Builtin.len_,run_underlying ht,goInt],.int _ _⟩
 ·rename_i id sz off len
  cases h
  cases hx with
  | vec _ _ _ _ A cap ge hm hz hl hc hN hA=>exact⟨.int .i64 len,by simp [Builtin.len_,run_underlying ht,goInt],.int _ _⟩
variable {a:Act}
theorem slices_run{t:TypeId}(ht:P.underlying t=some .string){X:AX}{lo hi:Option Operand}{z:AV}{x:Value}(hf:FrR w γ fr a.tmps)(hx:Sim w γ (X.ev fr) x)
  (he:evP fr (.slices X (lo.map cx) (hi.map cx))=some z):∃ v,(Instr.sliceAt t x (lo.map a.eval) (hi.map a.eval) none).run P w=.ok v w∧Sim w γ z v:=by
 simp only[evP] at he
 generalize X.ev fr=XX at *
 cases XX <;> try (cases he; done)
 rename_i s
 cases str_inv hx
 obtain ⟨hn,h1,he⟩:=Option.bind_eq_some_iff.1 he
 obtain ⟨ln,h2,he⟩:=Option.map_eq_some_iff.1 he
 subst he
 refine⟨.string ((ByteArray.mk s.toArray).extract ln hn),?_,?_⟩
 ·have e:(Instr.sliceBounds false s.length s.length (lo.map a.eval) (hi.map a.eval) none).run P w=.ok (ln,hn,s.length) w:=by
   unfold Instr.sliceBounds
   cases hi with
   | none =>
    simp [boundO] at h1
    subst h1
    cases lo with
    | none=>simp [boundO] at h2; subst h2; simp
    | some y =>
     have:=(bound_le (cx_sim hf y) h2 (Nat.le_refl _) .sliceB (P:=P)).1
     simp [this]
   | some y' =>
    have h1':=(bound_le (cx_sim hf y') h1 (Nat.le_refl _) .sliceAlen (P:=P)).1
    cases lo with
    | none=>simp [boundO] at h2; subst h2; simp [h1']
    | some y =>
     have:=(bound_le (cx_sim hf y) h2 (Nat.le_refl _) .sliceB (P:=P)).1
     simp [this,h1']
  simp [Instr.sliceAt,Instr.slice,run_underlying ht,size_mk,e]
 ·have e:(ByteArray.mk s.toArray).extract ln hn=ByteArray.mk ((s.take hn).drop ln).toArray:=by
   apply ByteArray.ext
   simp [List.drop_take]
  rw [e]
  exact .str _
theorem sl_cut{sz:Nat}{es:List AV}{full full':Bool}{A:Option Addr}{len cap l h m:Nat}(hx:Sim w γ (.sl sz es full) (.slice A len cap))(h1:l≤h)(h2:h≤es.length)(h3:h≤m)(hfull:full'=true→m=h) :
  Sim w γ (.sl sz ((es.take h).drop l) full') (.slice (if m=l then A else A.map (·.add (l * sz))) (h - l) (m - l)):=by
 by_cases hl:l=h
 ·subst hl
  have e:(es.take l).drop l=[]:=List.drop_eq_nil_of_le (by simp; omega)
  rw [e,Nat.sub_self]
  exact .sl0 _ _ _ _ (fun hf=>by have:=hfull hf; omega)
 ·have hm:m≠l:=by omega
  rw [if_neg hm]
  cases hx with
  | sl0=>simp at h2; omega
  | sl _ _ _ b off cap U hp hc hf hb him hz hcell hs =>
   have hlen:((es.take h).drop l).length=h - l:=by simp; omega
   have key:∀(i:Nat) (x:AV),((es.take h).drop l)[i]?=some x→es[l+i]?=some x:=by
    intro i x hi
    rw [List.getElem?_drop,List.getElem?_take] at hi
    split at hi
    ·exact hi
    ·cases hi
   simp only[Option.map_some,Addr.add_lit]
   rw [← hlen]
   refine .sl sz _ full' b (off+l * sz) (m - l) (fun i j=>U (l+i) j) (by omega) (by omega) (fun hf=>by have:=hfull hf; omega) hb him ?_ ?_ ?_
   ·intro x hx
    obtain ⟨i,hi⟩:=List.mem_iff_getElem?.1 hx
    exact hz x (List.mem_of_getElem? (key i x hi))
   ·intro i x j y hi hj
    have:=hcell (l+i) x j y (key i x hi) hj
    rw [Nat.add_mul] at this
    rw [show off+l * sz+i * sz+j=off +(l * sz+i * sz)+j by omega]
    exact this
   ·intro i x j y hi hj
    exact hs (l+i) x j y (key i x hi) hj
theorem vec_cut0{id sz n:Nat}{A:Option Addr}{cap l h:Nat}(hx:Sim w γ (.vec id sz 0 n) (.slice A n cap))(h1:l≤h)(h2:h≤cap) :
  Sim w γ (.vec id sz l (h - l)) (.slice (if cap=l then A else A.map (·.add (l * sz))) (h - l) (cap - l)):=by
 cases hx with
 | vec _ _ _ _ A cap ge hm hz hl hc hN hA =>
  refine .vec id sz l (h - l) _ (cap - l) ge hm hz (by omega) (by omega) hN (fun g hg ho=>?_)
  by_cases hcl:cap=l
  ·rw [if_pos hcl]
   have h00:l=0:=by omega
   subst h00
   exact hA g hg (.inr rfl)
  ·rw [if_neg hcl,hA g hg (.inr rfl)]
   simp only[Option.map_some,Addr.add_lit,Nat.zero_mul,Nat.zero_add]
theorem vec_cut{id sz off n:Nat}{A:Option Addr}{cap l h:Nat}(hx:Sim w γ (.vec id sz off n) (.slice A n cap))(h1:l≤h)(h2:h≤n) :
  Sim w γ (.vec id sz (off+l) (h - l)) (.slice (if cap=l then A else A.map (·.add (l * sz))) (h - l) (cap - l)):=by
 cases hx with
 | vec _ _ _ _ A cap ge hm hz hl hc hN hA =>
  refine .vec id sz (off+l) (h - l) _ (cap - l) ge hm hz (by omega) (by omega) hN (fun g hg ho=>?_)
  by_cases hcl:cap=l
  ·rw [if_pos hcl]
   have:h - l=0:=by omega
   have h0:off=0:=by omega
   have h00:l=0:=by omega
   subst h0; subst h00
   exact hA g hg (.inr rfl)
  ·rw [if_neg hcl,hA g hg (by omega)]
   simp only[Option.map_some,Addr.add_lit]
   rw [Nat.add_mul]
end
end Go.Pv
