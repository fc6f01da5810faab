/- Part 5 of a proof that a step of one domain changes nothing of another: the machine of plain values, and what the program's functions do. -/
import Derived.Test.YtdgcdnnmodnkjaaGreatDoorG4
set_option linter.all false
set_option linter.unusedVariables false
set_option linter.unusedSectionVars false
set_option linter.unusedSimpArgs false
set_option linter.defProp false
namespace Go.Pv
section
variable {P:Program} {w w':World} {γ γ':Gh} {fr:Fr} {a:Act} {H H':Hp}
theorem set_self{id:Nat}{e:Ent}(he:ent H id=some e):H.set id (some e)=H:=by
 apply List.ext_getElem?
 intro j
 by_cases hj:j=id
 ·subst hj
  have hlt:=ent_lt he
  rw [List.getElem?_set_self hlt]
  unfold ent at he
  rw [List.getElem?_eq_getElem hlt] at he ⊢
  simpa using he.symm
 ·rw [List.getElem?_set_ne (fun e=>hj e.symm)]
theorem zero_row'{z:Value}(ho:z.cells.all oneV=true)(n:Nat):RowC w γ z.cells.size (List.replicate n (ofZero z)) (Builtin.zeroCells z.cells n).toList∧∀ u ∈(Builtin.zeroCells z.cells n).toList,u.oneCell'=true:=by
 have e:(Builtin.zeroCells z.cells n).toList =(madeCells z.cells (n * z.cells.size)).toList:=rfl
 rw [e]
 refine⟨zero_row ho (Nat.le_refl _),fun u hu=>?_⟩
 obtain ⟨k,hk⟩:=List.mem_iff_getElem?.1 hu
 simp only[madeCells,Array.getElem?_toList,Array.getElem?_map,Option.map_eq_some_iff] at hk
 obtain ⟨j,hj,rfl⟩:=hk
 have hlt:j < n * z.cells.size:=by
  have h1:=(Array.getElem?_eq_some_iff.1 hj)
  obtain ⟨h1,h2⟩:=h1
  simp at h1 h2; omega
 have hpos:0 < z.cells.size:=by
  rcases Nat.eq_zero_or_pos z.cells.size with h0 | h0
  ·rw [h0] at hlt; omega
  ·exact h0
 have hm:=Nat.mod_lt j hpos
 rw [getElem!_pos z.cells _ hm,← oneV_eq]
 exact(Array.all_eq_true_iff_forall_mem.1 ho) _ (Array.getElem_mem hm)
theorem clear_eff(hh:HRel γ H w){base:Nat}{r:Option Nat}{t e ty:TypeId}{z:Value}{X:AX}{vx:Value}{x:AV}(hx:Sim w γ (X.ev fr) vx)
  (ht:P.underlying t=some (.slice e)) (hz:zeroOf P e=some z) (hsz:z.cells.size=P.cellsOf e) (ho:z.cells.all oneV=true)
  (h:evE base r fr H (.clear (P.cellsOf e) (ofZero z) X)=some (x,H')):EffV P γ w (Builtin.clear_ #[t] ty #[vx]) x H':=by
 simp only[evE] at h
 have none0:∀(A:Option Addr) (len cap:Nat),A=none∨len=0 →(Builtin.clear_ #[t] ty #[.slice A len cap]).run P w=.ok (.tuple #[]) w:=by
  intro A len cap h
  rcases h with rfl | rfl
  ·simp [Builtin.clear_,run_underlying ht]
  ·cases A <;> simp [Builtin.clear_,run_underlying ht]
 cases hXX:X.ev fr with
 | sl sz' es full =>
  rw [hXX] at h hx
  cases es with
  | cons _ _=>cases h
  | nil =>
   cases h
   cases hx with
   | sl _ _ _ _ _ _ _ hp=>simp at hp
   | sl0 _ _ B cap hcap=>exact EffV.same hh (none0 _ _ _ (.inr rfl)) (.undef _)
 | vec id sz' off len =>
  rw [hXX] at h hx
  dsimp only at h
  obtain ⟨en,he,hq⟩:=Option.bind_eq_some_iff.1 h
  clear h
  split at hq
  case isFalse=>cases hq
  rename_i hc
  obtain ⟨hwr,hs1,hle⟩:=hc
  simp only[Option.some.injEq,Prod.mk.injEq] at hq
  obtain ⟨rfl,rfl⟩:=hq
  cases hx with
  | vec _ _ _ _ B cap ge hm hzs hlC hcC hN hB =>
  obtain ⟨ge',hm',hok⟩:=hh.ok id en he
  rw [hm] at hm'; cases hm'
  have hst:=wr_live hok hwr
  by_cases h0:len=0
  ·subst h0
   have hes:en.es.take off ++(List.replicate 0 (ofZero z) ++ en.es.drop (off+0))=en.es:=by simp
   rw [hes,show({ ty:=en.ty,es:=en.es,wr:=en.wr }:Ent)=en from rfl,set_self he]
   exact EffV.same hh (none0 _ _ _ (.inr rfl)) (.undef _)
  ·cases hg:ge.blk with
   | none=>have:=hN hg; omega
   | some g =>
    have hBg:=hB g hg (.inl (by omega))
    subst hBg
    obtain ⟨cs,fz,hw,hs,hfz,hle',hro⟩:=placed hok hwr hg
    obtain ⟨hz1,hz2⟩:=zero_row' (w:=w) (γ:=γ) ho len
    rw [hzs,← hs1] at hs hro
    rw [hsz] at hz1
    have hlen:(Builtin.zeroCells z.cells len).toList.length=len * P.cellsOf e:=by rw [Array.length_toList,size_zeroCells,hsz]
    have hfit:off * P.cellsOf e +(Builtin.zeroCells z.cells len).toList.length≤cs.size:=by
     rw [hlen,hs,← Nat.add_mul]; exact Nat.mul_le_mul_right _ (by omega)
    have hst0:=run_storeCells_cells (P:=P) g (off * P.cellsOf e) (Builtin.zeroCells z.cells len).toList 0 w (fun j hj=>blk_cell hw (by omega)) (fun j hj=>blk_froz hw hfz (by omega)) hz2
    simp only[Nat.add_zero] at hst0
    obtain ⟨m,rfl⟩:∃ m,len=m+1:=⟨len - 1,by omega⟩
    have hrun:(Builtin.clear_ #[t] ty #[.slice (some ⟨g,off * sz',none⟩) (m+1) cap]).run P w=.ok (.tuple #[]) (w.setCells g (off * P.cellsOf e) (Builtin.zeroCells z.cells (m+1)).toList):=by
     rw [← hs1]
     simp [Builtin.clear_,run_underlying ht,zero_run hz,hst0]
    obtain ⟨ds,hd1,hd2,hd3⟩:=setCells_blk _ (off * P.cellsOf e) w cs hw hfit
    have hlay:=RowC.lay (k:=off) (ds:=ds.toList) hro hz1 (by rw [hlen]; simp) (by omega) (fun k=>by
     rw [Array.getElem?_toList,hd3,Array.getElem?_toList]; simp)
    rw [List.length_replicate] at hlay
    have key:=hrel_upd (w':=w.setCells g (off * P.cellsOf e) _) (e':={ en with es:=en.es.take off ++(List.replicate (m+1) (ofZero z) ++ en.es.drop (off +(m+1))) }) hh he hm hst hg (old_set hm hst hg _ _) (setCells_same g _ _ w).2.2.2.2 (fun ad=>by
     have:=RowC.ok (hlay.adv ad) hd1 (C:=ge.C) (by rw [hd2,hs]) (by rw [hd2]; exact hfz) (by simp; omega)
     obtain ⟨blk,sz,C,st⟩:=ge
     simp only at hg hst hzs
     rw [← hs1] at hzs
     subst hg hst hzs
     obtain ⟨ety,ees,ewr⟩:=en
     simp only at hwr
     subst hwr
     exact this)
    exact EffV.of hrun (.undef _) ⟨key.1,key.2,Ids.refl _⟩
 | _=>rw [hXX] at h; cases h
theorem freeze_blk{g n:Nat}{cs:Array Value}{t:TypeId}{fz:Nat × Nat}(hw:w.heap[g]?=some (.cells cs t fz)) :
  (w.freeze ⟨g,n,none⟩ 1).heap[g]?=some (.cells cs t (if fz.1 == fz.2 then(n,n+1) else(min fz.1 n,max fz.2 (n+1)))):=by
 obtain ⟨lo,hi⟩:=fz
 unfold World.freeze
 rw [if_neg (by decide)]
 simp only[Array.getElem?_modify,if_true,hw,Option.map_some]
theorem freeze_same(g n:Nat):(w.freeze ⟨g,n,none⟩ 1).os=w.os ∧(w.freeze ⟨g,n,none⟩ 1).tape=w.tape ∧(w.freeze ⟨g,n,none⟩ 1).output=w.output ∧(w.freeze ⟨g,n,none⟩ 1).heap.size=w.heap.size∧∀ b,b≠g →(w.freeze ⟨g,n,none⟩ 1).heap[b]?=w.heap[b]?:=by
 unfold World.freeze
 rw [if_neg (by decide)]
 exact⟨rfl,rfl,rfl,by simp,fun b hb=>by simp only[Array.getElem?_modify]; rw [if_neg (fun e=>hb e.symm)]⟩
theorem mark_eff(hh:HRel γ H w){base:Nat}{r:Option Nat}{t e:TypeId}{X:AX}{vx:Value}{x:AV}(hx:Sim w γ (X.ev fr) vx)
  (ht:P.underlying t=some (.slice e)) (hu:P.underlying e=some (.int .u8))
  (h:evE base r fr H (.mark X)=some (x,H')):EffV P γ w (convert t t vx) x H':=by
 simp only[evE] at h
 cases hXX:X.ev fr with
 | vec id sz' off len =>
  rw [hXX] at h hx
  dsimp only at h
  obtain ⟨en,he,hq⟩:=Option.bind_eq_some_iff.1 h
  clear h
  split at hq
  case isFalse=>cases hq
  rename_i hc
  obtain ⟨hwr,rfl,hne⟩:=hc
  simp only[Option.some.injEq,Prod.mk.injEq] at hq
  obtain ⟨rfl,rfl⟩:=hq
  have hx':=hx
  cases hx with
  | vec _ _ _ _ B cap ge hm hzs hlC hcC hN hB =>
  obtain ⟨ge',hm',hok⟩:=hh.ok id en he
  rw [hm] at hm'; cases hm'
  have hst:=wr_live hok hwr
  have hpos:0 < en.es.length:=List.length_pos_iff.2 hne
  cases hg:ge.blk with
  | none =>
   rcases (hok.live (.inl hwr)).2 with ⟨_,h1,_⟩ | ⟨g,cs,fr,h1,_⟩
   ·exact absurd h1 hne
   ·rw [h1] at hg; cases hg
  | some g =>
   have hBg:=hB g hg (.inr rfl)
   subst hBg
   obtain ⟨cs,fz,hw,hs,hfz,hle',hro⟩:=placed hok hwr hg
   obtain ⟨f1,f2,f3,f4,f5⟩:=freeze_same (w:=w) g cs.size
   have hrun:(convert t t (.slice (some ⟨g,0 * sz',none⟩) len cap)).run P w=.ok (.slice (some ⟨g,0 * sz',none⟩) len cap) (w.freeze ⟨g,cs.size,none⟩ 1):=by
    have hsh:w.shape? g=some (en.ty,cs.size):=by simp [World.shape?,hw]
    simp [convert,run_underlying ht,run_underlying hu,markStringish,hsh]
   have key:=hrel_upd (w':=w.freeze ⟨g,cs.size,none⟩ 1) (e':=en) hh he hm hst hg ⟨f1,f2,f3,by omega,fun b _ hb=>f5 b fun e=>hb (by subst e; exact⟨id,ge,hm,hst,hg⟩)⟩ f5 (fun ad=>by
    have:=RowC.ok (hro.adv ad) (freeze_blk (n:=cs.size) hw) hs (by split <;> simp_all <;> omega) hle'
    obtain ⟨blk,sz,C,st⟩:=ge
    simp only at hg hst hzs
    subst hg hst hzs
    obtain ⟨ety,ees,ewr⟩:=en
    simp only at hwr
    subst hwr
    exact this)
   rw [set_self he] at key
   exact EffV.of hrun (hx'.adv (key.2.adv (Ids.refl _) hh.imm)) ⟨key.1,key.2,Ids.refl _⟩
 | _=>rw [hXX] at h; cases h
def EffN(P:Program)(γ:Gh)(w:World)(s:Sem Next)(x:AV)(H':Hp):Prop :=
 ∃ nx w' γ',s.run P w=.ok nx w' ∧((∃ v,nx=.value v∧Sim w' γ' x v)∨nx=.skip∧x=.undef)∧HRel γ' H' w'∧Step γ γ' w w'∧Ids γ γ'
theorem EffV.next{s:Sem Value}{x:AV}(h:EffV P γ w s x H'):EffN P γ w (do pure (.value (← s)):Sem Next) x H':=by
 obtain ⟨v,w',γ',hr,hs,h⟩:=h
 exact⟨.value v,w',γ',by simp [hr],.inl ⟨v,rfl,hs⟩,h⟩
theorem EffN.congr{s s':Sem Next}{x:AV}(e:s'.run P w=s.run P w)(h:EffN P γ w s x H'):EffN P γ w s' x H':=by
 unfold EffN at h ⊢
 rw [e]; exact h
theorem u8_of{e:TypeId}(hu:isU8 P e=true):P.underlying e=some (.int .u8):=by
 unfold isU8 at hu
 split at hu
 ·assumption
 ·cases hu
theorem evE_sound(hf:FrR w γ fr a.tmps)(hh:HRel γ H w){o:Oper}{d:Bool}{base:Nat}{r r':Option Nat}{q:OpE}(hc:compOp P d r o=.e q r'){x:AV}(hx:evE base r' fr H q=some (x,H')) :
  EffN P γ w (execOp a.eval o) x H':=by
 obtain ⟨dst,op,ty,pos,after,guard⟩:=o
 have S:=fun y=>cx_sim hf y (γ:=γ)
 cases op with
 | alloc t =>
  simp only[compOp] at hc
  split at hc
  ·rename_i z hz
   split at hc
   ·rename_i ho
    cases hc
    exact(alloc_eff hh hz ho hx).next
   ·cases hc
  ·cases hc
 | box t y =>
  cases hc
  simp only[evE] at hx
  split at hx
  ·rename_i ho
   exact(box_eff hh (S y) ho hx).next
  ·cases hx
 | buildSlice t n parts =>
  simp only[compOp] at hc
  split at hc
  ·rename_i e ht
   split at hc
   ·rename_i z hz
    split at hc
    ·rename_i hok
     cases hc
     exact(mks_eff hh hf ht hz hok.1 hok.2.1 hok.2.2 hx).next
    ·cases hc
   ·cases hc
  ·cases hc
 | store t y v =>
  simp only[compOp] at hc
  split at hc
  ·rename_i hok
   cases hc
   obtain ⟨w',γ',hr,hu,h⟩:=store_eff hh hf hok hx
   exact⟨.skip,w',γ',by simp [execOp,hr],.inr ⟨rfl,hu⟩,h⟩
  ·cases hc
 | makeSlice t l c =>
  simp only[compOp] at hc
  split at hc
  ·rename_i e ht
   split at hc
   ·rename_i z hz
    split at hc
    ·rename_i hok
     cases hc
     exact(make_eff hh hf ht hz hok.1 hok.2.1 hok.2.2 hx).next
    ·cases hc
   ·cases hc
  ·cases hc
 | convert s d y =>
  simp only[compOp] at hc
  split at hc
  ·cases hc
  ·cases hc
  ·split at hc <;> cases hc
  ·rename_i e hs hd
   split at hc
   ·rename_i hu
    cases hc
    exact(s2b_eff hh hs hd (u8_of hu) (S y) hx).next
   ·cases hc
  ·rename_i e' e hs hd
   split at hc
   ·rename_i hu
    cases hc
    simp only[Bool.and_eq_true,beq_iff_eq] at hu
    obtain ⟨hu,rfl⟩:=hu
    exact(mark_eff hh (S y) hd (u8_of hu) hx).next
   ·cases hc
  ·cases hc
 | call c =>
  obtain ⟨callee,args,ts⟩:=c
  cases callee with
  | value f=>cases f <;> simp only[compOp] at hc <;> repeat' (first | (cases hc; done) | split at hc)
  | invoke=>cases hc
  | builtin b =>
   have hargs:args =⟨args.toList⟩:=rfl
   have hts:ts =⟨ts.toList⟩:=rfl
   simp only[compOp] at hc
   split at hc
   ·repeat' (first | (cases hc; done) | split at hc)
   ·rename_i y z t t' h1 h2
    rw [h1] at hargs
    rw [h2] at hts
    subst hargs hts
    split at hc
    ·rename_i e e' ht ht'
     split at hc
     ·rename_i hok
      cases hc
      refine EffN.congr ?_ (append_eff (ty:=ty) hh (S y) (S z) ht (.inl ⟨e',ht'⟩) hok.1 hok.2 hx).next; simp [execOp,resolve,invoke,builtin]
     ·cases hc
    ·rename_i e ht ht'
     split at hc
     ·rename_i hok
      cases hc
      refine EffN.congr ?_ (append_eff (ty:=ty) hh (S y) (S z) ht (.inr ht') hok.1 hok.2 hx).next; simp [execOp,resolve,invoke,builtin]
     ·cases hc
    ·cases hc
   ·rename_i y z t t' h1 h2
    rw [h1] at hargs
    rw [h2] at hts
    subst hargs hts
    split at hc
    ·rename_i e e' ht ht'
     split at hc
     ·rename_i hok
      cases hc
      refine EffN.congr ?_ (copy_eff (ty:=ty) hh (S y) (S z) ht ⟨e',ht'⟩ hok hx).next; simp [execOp,resolve,invoke,builtin]
     ·cases hc
    ·cases hc
   ·rename_i y t h1 h2
    rw [h1] at hargs
    rw [h2] at hts
    subst hargs hts
    split at hc
    ·rename_i e ht
     split at hc
     ·rename_i z hz
      split at hc
      ·rename_i hok
       cases hc
       refine EffN.congr ?_ (clear_eff (ty:=ty) hh (S y) ht hz hok.1 hok.2 hx).next; simp [execOp,resolve,invoke,builtin]
      ·cases hc
     ·cases hc
    ·cases hc
   ·cases hc
   ·cases hc
   ·cases hc
 | typeAssert y xt t ok=>cases ok <;> simp only[compOp] at hc <;> repeat' (first | (cases hc; done) | split at hc)
 | makeFunc fn first caps=>cases fn <;> simp only[compOp] at hc <;> repeat' (first | (cases hc; done) | split at hc)
 | _=>first | (cases hc; done) | (simp only[compOp] at hc; repeat' (first | (cases hc; done) | split at hc))
end
end Go.Pv
namespace Go.Pv
def bareG(I:Nat→Prop):Gh:=⟨fun _=>none,I⟩
structure OwnRow(w:World)(I:Nat→Prop)(ge:GE)(sz:Nat)(ty:TypeId)(es:List AV)(v:Value):Prop where
 ok:EntOk w (bareG I) ⟨ty,es,true⟩ ge
 sz:ge.sz=sz
 st:ge.st=2
 le:es.length≤ge.C
 val:∃ A,v=.slice A es.length ge.C∧∀ g,ge.blk=some g→A=some ⟨g,0,none⟩
 no:ge.blk=none→ge.C=0
def OwnC(w:World)(I:Nat→Prop)(os:List GE)(x:AV)(v:Value):Prop :=
 match x with
 | .own sz ty es=>∃ ge,os=[ge]∧OwnRow w I ge sz ty es v
 | x=>os=[]∧Sim w (bareG I) x v
inductive OwnL(R:List GE→AV→Value→Prop):List GE→List AV→List Value→Prop
 | nil:OwnL R [] [] []
 | cons {os os':List GE} {x:AV} {xs:List AV} {v:Value} {vs:List Value}:R os x v→OwnL R os' xs vs→OwnL R (os ++ os') (x :: xs) (v :: vs)
def OwnA(w:World)(I:Nat→Prop)(os:List GE)(x:AV)(v:Value):Prop :=
 match x with
 | .agg xs=>∃ cs:Array Value,v=.agg cs∧OwnL (OwnC w I) os xs cs.toList
 | x=>OwnC w I os x v
def OwnT(w:World)(I:Nat→Prop)(os:List GE)(x:AV)(v:Value):Prop :=
 match x with
 | .tup xs=>∃ cs:Array Value,v=.tuple cs∧OwnL (OwnA w I) os xs cs.toList
 | x=>OwnA w I os x v
def blks(os:List GE)(b:Nat):Prop:=∃ ge∈os,ge.blk=some b
structure OsOk(w:World)(I:Nat→Prop)(os:List GE):Prop where
 imm:∀ b,I b→b < w.heap.size∧¬ blks os b
 lt:∀ b,blks os b→b < w.heap.size
 ap:os.Pairwise fun x y=>∀ b,x.blk=some b→y.blk≠some b
section
variable {P:Program} {w w':World} {γ γ':Gh} {H H':Hp} {I:Nat→Prop}
theorem blks_nil(b:Nat):¬ blks [] b:=fun⟨_,h,_⟩=>by cases h
theorem blks_app{os os':List GE}{b:Nat}:blks (os ++ os') b↔blks os b∨blks os' b:=by
 constructor
 ·rintro ⟨ge,h,hb⟩
  rcases List.mem_append.1 h with h | h
  ·exact .inl ⟨ge,h,hb⟩
  ·exact .inr ⟨ge,h,hb⟩
 ·rintro (⟨ge,h,hb⟩ | ⟨ge,h,hb⟩)
  ·exact⟨ge,List.mem_append_left _ h,hb⟩
  ·exact⟨ge,List.mem_append_right _ h,hb⟩
theorem blks_one{ge:GE}{b:Nat}:blks [ge] b↔ge.blk=some b :=
 ⟨fun⟨x,h,hb⟩=>by simp at h; subst h; exact hb,fun h=>⟨ge,by simp,h⟩⟩
theorem Sim.unbare{x:AV}{v:Value}(h:Sim w (bareG γ.imm) x v):Sim w γ x v :=
 h.adv ⟨Nat.le_refl _,fun _ hb=>⟨hb,fun _=>rfl⟩,fun _ _ hi=>by cases hi⟩
theorem EntOk.unbare{e:Ent}{ge:GE}(h:EntOk w (bareG γ.imm) e ge):EntOk w γ e ge :=
 h.adv ⟨Nat.le_refl _,fun _ hb=>⟨hb,fun _=>rfl⟩,fun _ _ hi=>by cases hi⟩ (fun _ _ _=>rfl)
structure More(γ γ':Gh)(os:List GE):Prop where
 imm:γ'.imm=γ.imm
 ids:∀ id ge,γ.m id=some ge→γ'.m id=some ge
 own:∀ b,γ'.owns b↔γ.owns b∨blks os b
 liv:∀ id ge b,γ'.m id=some ge→ge.st≠0→ge.blk=some b →(∃ id' ge',γ.m id'=some ge'∧ge'.st≠0∧ge'.blk=some b)∨blks os b
theorem More.nil(γ:Gh):More γ γ []:=⟨rfl,fun _ _ h=>h,fun b=>⟨.inl,fun h=>h.elim id (fun h=>absurd h (blks_nil b))⟩,fun id ge b h1 h2 h3=>.inl ⟨id,ge,h1,h2,h3⟩⟩
theorem More.trans{a b c:Gh}{os os':List GE}(h:More a b os)(k:More b c os'):More a c (os ++ os') where
 imm:=k.imm.trans h.imm
 ids:=fun i g hi=>k.ids i g (h.ids i g hi)
 own:=fun x=>by rw [k.own,h.own,blks_app,or_assoc]
 liv:=fun i g x h1 h2 h3=>by
  rcases k.liv i g x h1 h2 h3 with ⟨i',g',h4,h5,h6⟩ | h4
  ·rcases h.liv i' g' x h4 h5 h6 with h | h
   ·exact .inl h
   ·exact .inr (blks_app.2 (.inl h))
  ·exact .inr (blks_app.2 (.inr h4))
theorem More.adv{os:List GE}(h:More γ γ' os)(w:World):Adv γ γ' w w:=⟨Nat.le_refl _,fun b hb=>⟨by rw [h.imm]; exact hb,fun _=>rfl⟩,fun i ge hi=>⟨ge.st,h.ids i ge hi⟩⟩
structure Fresh(w:World)(γ:Gh)(os:List GE):Prop where
 imm:∀ b,blks os b→¬ γ.imm b
 liv:∀ b,blks os b→∀ id ge,γ.m id=some ge→ge.st≠0→ge.blk≠some b
 ap:os.Pairwise fun x y=>∀ b,x.blk=some b→y.blk≠some b
theorem layC_sim(hh:HRel γ H w){os:List GE}{x:AV}{v:Value}(ho:OwnC w γ.imm os x v)(hf:Fresh w γ os) :
  ∃ γ',More γ γ' os∧HRel γ' (layC H x).2 w∧Sim w γ' (layC H x).1 v:=by
 unfold OwnC at ho
 split at ho
 ·rename_i sz ty es
  obtain ⟨ge,rfl,h⟩:=ho
  have hn:new 0 none H ⟨ty,es,true⟩=some (H.length,H ++ [some ⟨ty,es,true⟩]):=rfl
  obtain ⟨h0,h1⟩:=new_ent hn
  have hm:=hh.none _ h0
  have hids:=Gh.add_ids (ge:=ge) (.inl hm)
  have hst:ge.st≠0:=by rw [h.st]; decide
  have hfr:∀ id x b,γ.m id=some x→x.st≠0→x.blk=some b→ge.blk≠some b:=fun id x b h1 h2 h3 h4=>hf.liv b (blks_one.2 h4) id x h1 h2 h3
  have look:∀ i x,(γ.add H.length ge).m i=some x →(i=H.length∧x=ge) ∨(i≠H.length∧γ.m i=some x):=by
   intro i x hx
   by_cases e:i=H.length
   ·subst e; rw [Gh.add_same] at hx; cases hx; exact .inl ⟨rfl,rfl⟩
   ·rw [Gh.add_other _ _ _ e] at hx; exact .inr ⟨e,hx⟩
  have hmore:More γ (γ.add H.length ge) [ge]:=by
   refine⟨rfl,fun i x hi=>?_,fun b=>⟨?_,?_⟩,fun i x b h1 h2 h3=>?_⟩
   ·by_cases e:i=H.length
    ·subst e; rw [hm] at hi; cases hi
    ·rw [Gh.add_other _ _ _ e]; exact hi
   ·rintro ⟨i,x,hi,hs,hb⟩
    rcases look i x hi with ⟨_,rfl⟩ | ⟨_,hi⟩
    ·exact .inr (blks_one.2 hb)
    ·exact .inl ⟨i,x,hi,hs,hb⟩
   ·rintro (⟨i,x,hi,hs,hb⟩ | hb)
    ·refine⟨i,x,?_,hs,hb⟩
     by_cases e:i=H.length
     ·subst e; rw [hm] at hi; cases hi
     ·rw [Gh.add_other _ _ _ e]; exact hi
    ·exact⟨H.length,ge,Gh.add_same _ _ _,h.st,blks_one.1 hb⟩
   ·rcases look i x h1 with ⟨_,rfl⟩ | ⟨_,hi⟩
    ·exact .inr (blks_one.2 h3)
    ·exact .inl ⟨i,x,hi,h2,h3⟩
  refine⟨γ.add H.length ge,hmore,⟨?_,?_,?_,?_,?_⟩,?_⟩
  ·intro id hid
   by_cases e:id=H.length
   ·subst e; change ent (H ++ _) _=none at hid; rw [h1,if_pos rfl] at hid; cases hid
   ·change ent (H ++ _) _=none at hid
    rw [h1,if_neg e] at hid; rw [Gh.add_other _ _ _ e]; exact hh.none id hid
  ·intro id e' hid
   change ent (H ++ _) _=some e' at hid
   by_cases e:id=H.length
   ·subst e
    rw [h1,if_pos rfl] at hid; cases hid
    exact⟨ge,Gh.add_same _ _ _,(EntOk.unbare (γ:=γ) h.ok).adv (hmore.adv (os:=[ge]) w) fun _ _ _=>rfl⟩
   ·rw [h1,if_neg e] at hid
    obtain ⟨x,hx,hok⟩:=hh.ok id e' hid
    exact⟨x,by rw [Gh.add_other _ _ _ e]; exact hx,hok.adv (hmore.adv (os:=[ge]) w) fun _ _ _=>rfl⟩
  ·intro i j x y b hi hj hx hy hbx hby
   rcases look i x hi with ⟨rfl,rfl⟩ | ⟨i1,hi'⟩ <;> rcases look j y hj with ⟨rfl,rfl⟩ | ⟨j1,hj'⟩
   ·rfl
   ·exact absurd hbx (hfr j y b hj' hy hby)
   ·exact absurd hby (hfr i x b hi' hx hbx)
   ·exact hh.inj i j x y b hi' hj' hx hy hbx hby
  ·intro b hb
   refine⟨(hh.imm b hb).1,fun h2=>?_⟩
   rcases (hmore.own b).1 h2 with h2 | h2
   ·exact(hh.imm b hb).2 h2
   ·exact hf.imm b h2 hb
  ·intro i x b hi hs hb
   rcases look i x hi with ⟨_,rfl⟩ | ⟨_,hi'⟩
   ·rw [h.st] at hs; cases hs
   ·exact hh.stl i x b hi' hs hb
  ·obtain ⟨A,rfl,hA⟩:=h.val
   exact .vec _ sz 0 es.length A ge.C ge (Gh.add_same _ _ _) h.sz (by simpa using h.le) rfl h.no (fun g hg _=>by rw [hA g hg]; simp)
 ·rename_i hne
  obtain ⟨rfl,hs⟩:=ho
  have e:layC H x =(x,H):=by
   cases x <;> first | rfl | exact absurd rfl (hne _ _ _)
  rw [e]
  exact⟨γ,More.nil γ,hh,hs.unbare⟩
theorem Fresh.left{os os':List GE}(h:Fresh w γ (os ++ os')):Fresh w γ os :=
 ⟨fun b hb=>h.imm b (blks_app.2 (.inl hb)),fun b hb=>h.liv b (blks_app.2 (.inl hb)),(List.pairwise_append.1 h.ap).1⟩
theorem Fresh.right{os os':List GE}(h:Fresh w γ (os ++ os'))(hm:More γ γ' os):Fresh w γ' os':=by
 obtain ⟨_,h2,h3⟩:=List.pairwise_append.1 h.ap
 refine⟨fun b hb=>by rw [hm.imm]; exact h.imm b (blks_app.2 (.inr hb)),fun b hb i ge hi hs hg=>?_,h2⟩
 rcases hm.liv i ge b hi hs hg with ⟨i',ge',h4,h5,h6⟩ | ⟨x,hx,hxb⟩
 ·exact h.liv b (blks_app.2 (.inr hb)) i' ge' h4 h5 h6
 ·obtain ⟨y,hy,hyb⟩:=hb
  exact h3 x hx y hy b hxb hyb
theorem OwnRow.mono{ge:GE}{sz:Nat}{ty:TypeId}{es:List AV}{v:Value}(h:OwnRow w I ge sz ty es v){I':Nat→Prop}(hI:∀ b,I b→I' b):OwnRow w I' ge sz ty es v :=
 { h with ok:=h.ok.adv (γ':=bareG I') ⟨Nat.le_refl _,fun b hb=>⟨hI b hb,fun _=>rfl⟩,fun _ _ hi=>by cases hi⟩ fun _ _ _=>rfl }
def LayP(w:World)(I:Nat→Prop)(f:Hp→AV→AV × Hp)(R:List GE→AV→Value→Prop):Prop :=
 ∀(γ:Gh) (H:Hp) (os:List GE) (x:AV) (v:Value),γ.imm=I→HRel γ H w→R os x v→Fresh w γ os→∃ γ',More γ γ' os∧HRel γ' (f H x).2 w∧Sim w γ' (f H x).1 v
theorem layC_p:LayP w I layC (OwnC w I):=fun γ H os x v hI hh ho hf=>by subst hI; exact layC_sim hh ho hf
theorem layL_sim{f:Hp→AV→AV × Hp}{R:List GE→AV→Value→Prop}(hf:LayP w I f R){os:List GE}{xs:List AV}{vs:List Value}(ho:OwnL R os xs vs) :
  ∀(γ:Gh) (H:Hp),γ.imm=I→HRel γ H w→Fresh w γ os→∃ γ',More γ γ' os∧HRel γ' (layL f H xs).2 w ∧(layL f H xs).1.length=vs.length ∧
   ∀(i:Nat) (x:AV) (v:Value),(layL f H xs).1[i]?=some x→vs[i]?=some v→Sim w γ' x v:=by
 induction ho with
 | nil=>intro γ H hI hh _; exact⟨γ,More.nil γ,hh,rfl,fun i x v h=>by simp [layL] at h⟩
 | cons h1 h2 ih =>
  rename_i os os' x xs v vs
  intro γ H hI hh hfr
  obtain ⟨γ1,m1,r1,s1⟩:=hf γ H os x v hI hh h1 hfr.left
  obtain ⟨γ2,m2,r2,l2,s2⟩:=ih γ1 (f H x).2 (by rw [m1.imm]; exact hI) r1 (hfr.right m1)
  refine⟨γ2,m1.trans m2,r2,by simp only[layL,List.length_cons,l2],fun i y u hy hu=>?_⟩
  cases i with
  | zero =>
   simp only[layL,List.getElem?_cons_zero,Option.some.injEq] at hy hu
   subst hy hu
   exact s1.adv (m2.adv w)
  | succ i=>exact s2 i y u (by simpa [layL] using hy) (by simpa using hu)
theorem layA_p:LayP w I layA (OwnA w I):=by
 intro γ H os x v hI hh ho hf
 unfold OwnA at ho
 split at ho
 ·rename_i xs
  obtain ⟨cs,rfl,ho⟩:=ho
  obtain ⟨γ',h1,h2,h3,h4⟩:=layL_sim layC_p ho γ H hI hh hf
  exact⟨γ',h1,h2,.agg _ cs (by simpa using h3) fun i x v hx hv=>h4 i x v hx (by simpa using hv)⟩
 ·rename_i hne
  have e:layA H x=layC H x:=by
   cases x <;> first | rfl | exact absurd rfl (hne _)
  rw [e]
  exact layC_p γ H os x v hI hh ho hf
theorem lay_p:LayP w I lay (OwnT w I):=by
 intro γ H os x v hI hh ho hf
 unfold OwnT at ho
 split at ho
 ·rename_i xs
  obtain ⟨cs,rfl,ho⟩:=ho
  obtain ⟨γ',h1,h2,h3,h4⟩:=layL_sim layA_p ho γ H hI hh hf
  exact⟨γ',h1,h2,.tup _ cs (by simpa using h3) fun i x v hx hv=>h4 i x v hx (by simpa using hv)⟩
 ·rename_i hne
  have e:lay H x=layA H x:=by
   cases x <;> first | rfl | exact absurd rfl (hne _)
  rw [e]
  exact layA_p γ H os x v hI hh ho hf
def Holds(γ:Gh)(l:List Nat)(I:Nat→Prop):Prop:=∀ id∈l,∀ ge b,γ.m id=some ge→ge.st≠0→ge.blk=some b→I b
theorem mapO_get{f:AV→Option AV}:∀ {xs ys:List AV},mapO f xs=some ys→xs.length=ys.length∧∀(i:Nat) (y:AV),ys[i]?=some y→∃ x,xs[i]?=some x∧f x=some y
 | [],ys,h=>by cases h; exact⟨rfl,fun i y h=>by simp at h⟩
 | x :: xs,ys,h=>by
  simp only[mapO] at h
  obtain ⟨y,hy,h⟩:=Option.bind_eq_some_iff.1 h
  obtain ⟨ys',hys,rfl⟩:=Option.map_eq_some_iff.1 h
  obtain ⟨h1,h2⟩:=mapO_get hys
  refine⟨by simp [h1],fun i z hz=>?_⟩
  cases i with
  | zero=>simp at hz; subst hz; exact⟨x,rfl,hy⟩
  | succ i=>exact h2 i z (by simpa using hz)
theorem snap_agg{n:Nat}{cs:List AV}{y:AV}(h:snap H (n+1) (.agg cs)=some y):∃ ys,y=.agg ys∧mapO (snap H n) cs=some ys:=by
 simp only[snap] at h
 obtain ⟨ys,hys,rfl⟩:=Option.map_eq_some_iff.1 h
 exact⟨ys,rfl,hys⟩
theorem snap_one{n:Nat}{x y:AV}(h:snap H (n+1) x=some y)(hx:∀ cs,x≠.agg cs):∀ cs,y≠.agg cs:=by
 intro cs e
 subst e
 cases x <;> simp only[snap] at h <;> first
  | (cases h; done)
  | (obtain ⟨_,_,h⟩:=Option.bind_eq_some_iff.1 h; obtain ⟨_,_,h⟩:=Option.map_eq_some_iff.1 h; cases h; done)
  | (obtain ⟨_,_,h⟩:=Option.bind_eq_some_iff.1 h; obtain ⟨_,_,h⟩:=Option.bind_eq_some_iff.1 h; obtain ⟨_,_,h⟩:=Option.map_eq_some_iff.1 h; cases h; done)
  | (obtain ⟨_,_,h⟩:=Option.map_eq_some_iff.1 h; cases h; done)
  | exact absurd rfl (hx _)
theorem snap_flat{n:Nat}{x y:AV}(h:snap H (n+1) x=some y):x.flat.length=y.flat.length∧∀(j:Nat) (z:AV),y.flat[j]?=some z→∃ u k,x.flat[j]?=some u ∧(k=n∨k=n+1)∧snap H k u=some z ∧((∀ cs,x≠.agg cs)→rows H k u=rows H (n+1) x) ∧(∀ id∈rows H k u,id∈rows H (n+1) x):=by
 by_cases hx:∃ cs,x=.agg cs
 ·obtain ⟨cs,rfl⟩:=hx
  obtain ⟨ys,rfl,hys⟩:=snap_agg h
  obtain ⟨h1,h2⟩:=mapO_get hys
  refine⟨h1,fun j z hz=>?_⟩
  obtain ⟨u,hu,hs⟩:=h2 j z hz
  refine⟨u,n,hu,.inl rfl,hs,fun h=>absurd rfl (h cs),fun id hid=>?_⟩
  simp only[rows]
  exact List.mem_flatMap.2 ⟨u,List.mem_of_getElem? hu,hid⟩
 ·have hx':∀ cs,x≠.agg cs:=fun cs e=>hx ⟨cs,e⟩
  rw [flat_one hx',flat_one (snap_one h hx')]
  refine⟨rfl,fun j z hz=>?_⟩
  cases j with
  | succ j=>simp at hz
  | zero =>
   simp at hz; subst hz
   exact⟨x,n+1,rfl,.inr rfl,h,fun _=>rfl,fun _ h=>h⟩
theorem snap_sim(hh:HRel γ H w)(hI0:∀ b,γ.imm b→I b):∀(n:Nat) (x y:AV) (v:Value),Holds γ (rows H n x) I→snap H n x=some y→Sim w γ x v→Sim w (bareG I) y v:=by
 intro n
 induction n using Nat.strongRecOn with
 | _ n0 ih0 =>
 cases n0 with
 | zero=>intro x y v _ h; cases h
 | succ n =>
  have ih:=ih0 n (Nat.lt_succ_self n)
  have elem:∀(e:Ent) (ge:GE) (g i:Nat) (x y:AV),EntOk w γ e ge→ge.blk=some g→e.es[i]?=some x→snap H n x=some y→Holds γ (rows H n x) I →
    y.flat.length=ge.sz∧∀(j:Nat) (z:AV),y.flat[j]?=some z→∃ u,w.cell? ⟨g,i * ge.sz+j,none⟩=some u∧u.oneCell'=true∧Sim w (bareG I) z u:=by
   intro e ge g i x y hok hg hx hs hl
   cases n with
   | zero=>cases hs
   | succ m =>
    obtain ⟨f1,f2⟩:=snap_flat hs
    have hlie:=hok.lies hg hx
    have hlen:x.flat.length=ge.sz:=by
     rcases (hok.live (.inr (by intro hn; rw [hn] at hx; simp at hx))).2 with ⟨h1,_⟩ | ⟨g',cs,fr,_,_,_,_,_,h6⟩
     ·rw [h1] at hg; cases hg
     ·exact(h6 i x hx).1
    refine⟨by rw [← f1]; exact hlen,fun j z hz=>?_⟩
    obtain ⟨u,k,hu,hk,hsu,_,hsub⟩:=f2 j z hz
    obtain ⟨u',c1,c2,c3⟩:=hlie j u hu
    exact⟨u',c1,c2,ih0 k (by omega) u z u' (fun id hid=>hl id (hsub id hid)) hsu c3⟩
  intro x y v hl h hs
  have adv0:Adv γ.bare (bareG I) w w:=⟨Nat.le_refl _,fun b hb=>⟨hI0 b hb,fun _=>rfl⟩,fun _ _ hi=>by cases hi⟩
  cases hs with
  | undef=>cases h
  | bool b=>cases h; exact .bool b
  | anyb b=>cases h; exact .anyb b
  | int k i=>cases h; exact .int k i
  | str s=>cases h; exact .str s
  | lit v=>cases h; exact .lit v
  | sl0 sz full A cap hc=>cases h; exact .sl0 sz full A cap hc
  | sl sz es full b off cap U hp hc hf hb hi hz hcell hs =>
   cases h
   exact .sl sz es full b off cap U hp hc hf hb (hI0 b hi) hz hcell fun i x j y h1 h2=>(hs i x j y h1 h2).adv adv0
  | rptr z off b o U hb hi hcell hs =>
   cases h
   exact .rptr z off b o U hb (hI0 b hi) hcell fun j y h1=>(hs j y h1).adv adv0
  | fn f g xs fs cs hv hz hs =>
   simp only[snap] at h
   obtain ⟨ys,hys,rfl⟩:=Option.map_eq_some_iff.1 h
   obtain ⟨h1,h2⟩:=mapO_get hys
   refine .fn f g ys fs cs hv (by omega) fun i y v hy hv=>?_
   obtain ⟨x,hx,hsx⟩:=h2 i y hy
   exact ih x y v (fun id hid=>hl id (by simp only[rows]; exact List.mem_flatMap.2 ⟨x,List.mem_of_getElem? hx,hid⟩)) hsx (hs i x v hx hv)
  | ifc t x v hs =>
   simp only[snap,mapO] at h
   cases hx:snap H n x with
   | none=>rw [hx] at h; cases h
   | some y =>
    rw [hx] at h
    cases h
    exact .ifc t y v (ih x y v (fun id hid=>hl id (by simp only[rows]; exact List.mem_flatMap.2 ⟨x,by simp,hid⟩)) hx hs)
  | agg xs cs hz hs =>
   obtain ⟨ys,rfl,hys⟩:=snap_agg h
   obtain ⟨h1,h2⟩:=mapO_get hys
   refine .agg ys cs (by omega) fun i y v hy hv=>?_
   obtain ⟨x,hx,hsx⟩:=h2 i y hy
   exact ih x y v (fun id hid=>hl id (by simp only[rows]; exact List.mem_flatMap.2 ⟨x,List.mem_of_getElem? hx,hid⟩)) hsx (hs i x v hx hv)
  | tup xs cs hz hs =>
   simp only[snap] at h
   obtain ⟨ys,hys,rfl⟩:=Option.map_eq_some_iff.1 h
   obtain ⟨h1,h2⟩:=mapO_get hys
   refine .tup ys cs (by omega) fun i y v hy hv=>?_
   obtain ⟨x,hx,hsx⟩:=h2 i y hy
   exact ih x y v (fun id hid=>hl id (by simp only[rows]; exact List.mem_flatMap.2 ⟨x,List.mem_of_getElem? hx,hid⟩)) hsx (hs i x v hx hv)
  | vec id sz off len A cap ge hm hz hlC hcC hN hA =>
   simp only[snap] at h
   obtain ⟨el,hel,h⟩:=Option.bind_eq_some_iff.1 h
   obtain ⟨ys,hys,rfl⟩:=Option.map_eq_some_iff.1 h
   obtain ⟨m1,m2⟩:=mapO_get hys
   have hel':=hel
   simp only[elems] at hel
   obtain ⟨e,he,hel⟩:=Option.bind_eq_some_iff.1 hel
   split at hel
   case isFalse=>cases hel
   rename_i hle
   cases hel
   obtain ⟨ge',hm',hok⟩:=hh.ok id e he
   rw [hm] at hm'; cases hm'
   have hyl:ys.length=len:=by rw [← m1]; simp; omega
   by_cases h0:len=0
   ·have:ys=[]:=List.eq_nil_of_length_eq_zero (by omega)
    subst this
    subst h0
    exact .sl0 sz false A cap (fun h=>by cases h)
   ·have hne:e.es≠[]:=by intro hn; rw [hn] at hle; simp at hle; omega
    have hlive:=hok.live (.inr hne)
    have hst:ge.st≠0:=by rw [hlive.1]; split <;> decide
    cases hg:ge.blk with
    | none=>have:=hN hg; omega
    | some g =>
     have hAg:=hA g hg (.inl (by omega))
     subst hAg
     rw [← hyl]
     have key:∀(i:Nat) (y:AV),ys[i]?=some y→y.flat.length=sz∧∀(j:Nat) (z:AV),y.flat[j]?=some z→∃ u,w.cell? ⟨g,off * sz+i * sz+j,none⟩=some u∧u.oneCell'=true∧Sim w (bareG I) z u:=by
      intro i y hy
      obtain ⟨x,hx,hsx⟩:=m2 i y hy
      have hmem:=List.mem_of_getElem? hx
      rw [List.getElem?_take] at hx
      split at hx
      case isFalse=>cases hx
      rw [List.getElem?_drop] at hx
      have:=elem e ge g (off+i) x y hok hg hx hsx (fun id' hid=>hl id' (by
       simp only[rows]
       refine List.mem_cons_of_mem _ (List.mem_flatMap.2 ⟨x,?_,hid⟩)
       rw [hel']; exact hmem))
      rw [hz,Nat.add_mul] at this
      exact this
     refine .sl sz ys false g (off * sz) cap (fun i j=>(w.cell? ⟨g,off * sz+i * sz+j,none⟩).getD Go.undef) (by omega) (by omega) (fun h=>by cases h) (hok.blkLt hst hg) (hl id (by simp [rows]) ge g hm hst hg) ?_ ?_ ?_
     ·intro y hy
      obtain ⟨i,hi⟩:=List.mem_iff_getElem?.1 hy
      exact(key i y hi).1
     ·intro i y j z hy hz
      obtain ⟨u,h1,h2,h3⟩:=(key i y hy).2 j z hz
      rw [h1]; exact⟨rfl,h2⟩
     ·intro i y j z hy hz
      obtain ⟨u,h1,h2,h3⟩:=(key i y hy).2 j z hz
      simp only[h1,Option.getD_some]; exact h3
  | eptr id i off g ge hm hg =>
   simp only[snap] at h
   obtain ⟨e,he,h⟩:=Option.bind_eq_some_iff.1 h
   obtain ⟨x,hx,h⟩:=Option.bind_eq_some_iff.1 h
   obtain ⟨y',hy',rfl⟩:=Option.map_eq_some_iff.1 h
   obtain ⟨ge',hm',hok⟩:=hh.ok id e he
   rw [hm] at hm'; cases hm'
   have hne:e.es≠[]:=by intro hn; rw [hn] at hx; simp at hx
   have hlive:=hok.live (.inr hne)
   have hst:ge.st≠0:=by rw [hlive.1]; split <;> decide
   have key:=elem e ge g i x y' hok hg hx hy' (fun id' hid=>hl id' (by
    simp only[rows]
    refine List.mem_cons_of_mem _ (List.mem_flatMap.2 ⟨x,?_,hid⟩)
    simp [he,hx]))
   refine .rptr y' off g (i * ge.sz) (fun j=>(w.cell? ⟨g,i * ge.sz+j,none⟩).getD Go.undef) (hok.blkLt hst hg) (hl id (by simp [rows]) ge g hm hst hg) ?_ ?_
   ·intro j z hz
    obtain ⟨u,h1,h2,h3⟩:=key.2 j z hz
    rw [h1]; exact⟨rfl,h2⟩
   ·intro j z hz
    obtain ⟨u,h1,h2,h3⟩:=key.2 j z hz
    simp only[h1,Option.getD_some]; exact h3
end
end Go.Pv
