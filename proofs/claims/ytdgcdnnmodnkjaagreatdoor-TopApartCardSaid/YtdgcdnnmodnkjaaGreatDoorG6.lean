/- Part 6 of a proof that a step of one domain changes nothing of another: the machine of plain values, and what the program's functions do. -/
import Derived.Test.YtdgcdnnmodnkjaaGreatDoorG5
set_option linter.all false
set_option linter.unusedVariables false
set_option linter.unusedSectionVars false
set_option linter.unusedSimpArgs false
set_option linter.defProp false
namespace Go.Pv
section
variable {P:Program} {w w':World} {γ γ':Gh} {H H':Hp} {I:Nat→Prop}
theorem elem_snap(hh:HRel γ H w)(hI0:∀ b,γ.imm b→I b){n:Nat}{e:Ent}{ge:GE}{g i:Nat}{x y:AV}(hok:EntOk w γ e ge)(hg:ge.blk=some g)(hx:e.es[i]?=some x)(hs:snap H n x=some y)(hl:Holds γ (rows H n x) I) :
  y.flat.length=ge.sz∧∀(j:Nat) (z:AV),y.flat[j]?=some z→∃ u,w.cell? ⟨g,i * ge.sz+j,none⟩=some u∧u.oneCell'=true∧Sim w (bareG I) z u:=by
 cases n with
 | zero=>cases hs
 | succ m =>
  obtain ⟨f1,f2⟩:=snap_flat hs
  have hlie:=hok.lies hg hx
  have hlen:x.flat.length=ge.sz:=by
   rcases (hok.live (.inr (by intro hn; rw [hn] at hx; simp at hx))).2 with ⟨h1,_⟩ | ⟨g',cs,fr,_,_,_,_,_,h6⟩
   ·rw [h1] at hg; cases hg
   ·exact(h6 i x hx).1
  refine⟨by rw [← f1]; exact hlen,fun j z hz=>?_⟩
  obtain ⟨u,k,hu,hk,hsu,_,hsub⟩:=f2 j z hz
  obtain ⟨u',c1,c2,c3⟩:=hlie j u hu
  exact⟨u',c1,c2,snap_sim hh hI0 k u z u' (fun id hid=>hl id (hsub id hid)) hsu c3⟩
structure Gone(γ γ1:Gh)(os:List GE):Prop where
 imm:γ1.imm=γ.imm
 ids:∀ id ge,γ.m id=some ge→γ1.m id=some ge∨γ1.m id=some { ge with st:=0 }
 rev:∀ id ge,γ1.m id=some ge→ge.st≠0→γ.m id=some ge
 non:∀ id,γ.m id=none→γ1.m id=none
 own:∀ b,γ1.owns b→γ.owns b
 src:∀ ge∈os,∀ b,ge.blk=some b→∃ id,γ.m id=some ge∧ge.st=2∧γ1.m id=some { ge with st:=0 }
 ap:os.Pairwise fun x y=>∀ b,x.blk=some b→y.blk≠some b
theorem Gone.nil(γ:Gh):Gone γ γ []:=⟨rfl,fun _ _ h=>.inl h,fun _ _ h _=>h,fun _ h=>h,fun _ h=>h,fun _ h=>(by cases h),.nil⟩
theorem Gone.one_none(γ:Gh){ge:GE}(h:ge.blk=none):Gone γ γ [ge] :=
 ⟨rfl,fun _ _ h=>.inl h,fun _ _ h _=>h,fun _ h=>h,fun _ h=>h,fun x hx b hb=>(by simp at hx; subst hx; rw [h] at hb; cases hb),List.pairwise_singleton _ _⟩
theorem Gone.toIds{os:List GE}(h:Gone γ γ' os):Ids γ γ':=fun id ge hi=>(h.ids id ge hi).elim (fun h=>⟨ge.st,h⟩) fun h=>⟨0,h⟩
theorem Gone.adv{os:List GE}(h:Gone γ γ' os)(w:World):Adv γ γ' w w:=⟨Nat.le_refl _,fun b hb=>⟨by rw [h.imm]; exact hb,fun _=>rfl⟩,h.toIds⟩
theorem Gone.trans{a b c:Gh}{os os':List GE}(hh:HRel a H w)(h:Gone a b os)(k:Gone b c os'):Gone a c (os ++ os') where
 imm:=k.imm.trans h.imm
 ids:=fun id ge hi=>by
  rcases h.ids id ge hi with h1 | h1
  ·exact k.ids id ge h1
  ·rcases k.ids id _ h1 with h2 | h2
   ·exact .inr h2
   ·exact .inr h2
 rev:=fun id ge hi hs=>h.rev id ge (k.rev id ge hi hs) hs
 non:=fun id hi=>k.non id (h.non id hi)
 own:=fun x hx=>h.own x (k.own x hx)
 src:=fun ge hge x hx=>by
  rcases List.mem_append.1 hge with hge | hge
  ·obtain ⟨id,h1,h2,h3⟩:=h.src ge hge x hx
   refine⟨id,h1,h2,?_⟩
   rcases k.ids id _ h3 with h4 | h4 <;> exact h4
  ·obtain ⟨id,h1,h2,h3⟩:=k.src ge hge x hx
   exact⟨id,h.rev id ge h1 (by rw [h2]; decide),h2,h3⟩
 ap:=by
  refine List.pairwise_append.2 ⟨h.ap,k.ap,fun x hx y hy b hxb hyb=>?_⟩
  obtain ⟨i,h1,h2,h3⟩:=h.src x hx b hxb
  obtain ⟨j,k1,k2,k3⟩:=k.src y hy b hyb
  have k1':=h.rev j y k1 (by rw [k2]; decide)
  have e:=hh.inj i j x y b h1 k1' (by rw [h2]; decide) (by rw [k2]; decide) hxb hyb
  subst e
  rw [h3] at k1
  cases k1
  cases k2
theorem not_own{sz:Nat}{ty:TypeId}{es:List AV}{v:Value}:¬ Sim w γ (.own sz ty es) v:=fun h=>by cases h
theorem OwnC.val{x:AV}{v:Value}(h:Sim w (bareG I) x v):OwnC w I [] x v:=by
 unfold OwnC
 split
 ·exact absurd h not_own
 ·exact⟨rfl,h⟩
def TakeP{μ:Type}(w:World)(R:(Nat→Prop)→List GE→AV→Value→Prop)(g:Hp→μ→AV→Option (AV × Hp × List Nat)):Prop :=
 ∀(γ:Gh) (H H1:Hp) (m:μ) (x y:AV) (v:Value) (l:List Nat),HRel γ H w→Sim w γ x v→g H m x=some (y,H1,l) →
  ∃ γ1 os,Gone γ γ1 os∧HRel γ1 H1 w∧H1.length=H.length∧∀ I:Nat→Prop,(∀ b,γ.imm b→I b)→Holds γ l I→R I os y v
theorem take_dead(hh:HRel γ H w){id:Nat}{e:Ent}{ge:GE}(he:ent H id=some e)(hm:γ.m id=some ge)(hst:ge.st=2) :
  Gone γ (γ.add id { ge with st:=0 }) [ge]∧HRel (γ.add id { ge with st:=0 }) (H.set id (some { e with es:=[],wr:=false })) w:=by
 have look:∀ i x,(γ.add id { ge with st:=0 }).m i=some x→x.st≠0→i≠id∧γ.m i=some x:=by
  intro i x hx hs
  by_cases e1:i=id
  ·subst e1; rw [Gh.add_same] at hx; cases hx; exact absurd rfl hs
  ·rw [Gh.add_other _ _ _ e1] at hx; exact⟨e1,hx⟩
 have hown:∀ b,(γ.add id { ge with st:=0 }).owns b→γ.owns b:=fun b ⟨i,x,h1,h2,h3⟩=>⟨i,x,(look i x h1 (by rw [h2]; decide)).2,h2,h3⟩
 refine⟨⟨rfl,fun i x hi=>?_,fun i x hi hs=>(look i x hi hs).2,fun i hi=>?_,hown,fun x hx b hb=>?_,List.pairwise_singleton _ _⟩,?_⟩
 ·by_cases e1:i=id
  ·subst e1; rw [hm] at hi; cases hi; exact .inr (Gh.add_same _ _ _)
  ·exact .inl (by rw [Gh.add_other _ _ _ e1]; exact hi)
 ·by_cases e1:i=id
  ·subst e1; rw [hm] at hi; cases hi
  ·rw [Gh.add_other _ _ _ e1]; exact hi
 ·simp at hx; subst hx
  exact⟨id,hm,hst,Gh.add_same _ _ _⟩
 ·refine(hrel_change (γ':=γ.add id { ge with st:=0 }) hh ⟨rfl,rfl,rfl,Nat.le_refl _,fun _ _ _=>rfl⟩ rfl (Gh.add_ids (.inr ⟨ge.st,hm⟩)) (fun b h=>.inl (hown b h)) ?_ ?_ ?_).1
  ·intro i j x y b hi hj hx hy hbx hby
   exact hh.inj i j x y b (look i x hi hx).2 (look j y hj hy).2 hx hy hbx hby
  ·intro i x hi hs
   exact(look i x hi (by rw [hs]; decide)).2
  ·intro i
   by_cases e1:i=id
   ·subst e1
    exact .inr ⟨_,{ ge with st:=0 },by rw [ent_set he,if_pos rfl],Gh.add_same _ _ _,fun _=>.inl ⟨rfl,rfl,rfl⟩⟩
   ·exact .inl ⟨by rw [ent_set he,if_neg e1],Gh.add_other _ _ _ e1,fun _ _ _ _ _=>rfl⟩
theorem passOne_p:TakeP w (OwnC w) passOne:=by
 intro γ H H1 m x y v l hh hs h
 cases m with
 | snap =>
  simp only[passOne] at h
  obtain ⟨z,hz,h⟩:=Option.map_eq_some_iff.1 h
  simp only[Prod.mk.injEq] at h
  obtain ⟨rfl,rfl,rfl⟩:=h
  exact⟨γ,[],Gone.nil γ,hh,rfl,fun I hI hl=>OwnC.val (snap_sim hh hI deep x z v hl hz hs)⟩
 | nil sz full =>
  simp only[passOne] at h
  split at h
  ·rename_i sz' full'
   split at h
   ·rename_i hf
    cases h
    refine⟨γ,[],Gone.nil γ,hh,rfl,fun I hI hl=>OwnC.val ?_⟩
    cases hs with
    | sl _ _ _ _ _ _ _ hp=>simp at hp
    | sl0 _ _ A cap hc=>exact .sl0 sz full A cap fun h=>hc (hf h)
   ·cases h
  ·split at h
   ·rename_i hf
    obtain ⟨rfl,rfl⟩:=hf
    cases h
    refine⟨γ,[],Gone.nil γ,hh,rfl,fun I hI hl=>OwnC.val ?_⟩
    cases hs with
    | vec _ _ _ _ A cap ge hm hz hlC hcC hN hA=>exact .sl0 sz false A cap fun h=>(by cases h)
   ·cases h
  ·cases h
 | own sz ty =>
  simp only[passOne] at h
  split at h
  ·rename_i id sz' off len
   obtain ⟨e,he,hq⟩:=Option.bind_eq_some_iff.1 h
   clear h
   split at hq
   case isFalse=>cases hq
   rename_i hc
   obtain ⟨hwr,rfl,hlen,rfl,rfl⟩:=hc
   obtain ⟨es,hes,hq⟩:=Option.map_eq_some_iff.1 hq
   simp only[Prod.mk.injEq] at hq
   obtain ⟨rfl,rfl,rfl⟩:=hq
   obtain ⟨m1,m2⟩:=mapO_get hes
   rw [List.length_take,Nat.min_eq_left hlen] at m1
   cases hs with
   | vec _ _ _ _ A cap ge hm hz hlC hcC hN hA =>
   obtain ⟨ge',hm',hok⟩:=hh.ok id e he
   rw [hm] at hm'; cases hm'
   have hst:=wr_live hok hwr
   obtain ⟨g1,g2⟩:=take_dead hh he hm hst
   refine⟨_,[ge],g1,g2,by simp,fun I hI hl=>⟨ge,rfl,?_⟩⟩
   simp only[Nat.add_zero] at hcC
   subst hcC
   refine⟨?_,hz,hst,by rw [← m1]; omega,⟨A,by rw [← m1],fun g hg=>by rw [hA g hg (.inr rfl)]; simp⟩,hN⟩
   refine .inr ⟨hst,?_⟩
   cases hg:ge.blk with
   | none =>
    have hC:=hN hg
    refine .inl ⟨rfl,List.eq_nil_of_length_eq_zero (by show es.length=0; omega),hC⟩
   | some g =>
    obtain ⟨cs,fz,hw,hsz,hfz,hle,hro⟩:=placed hok hwr hg
    refine .inr ⟨g,cs,fz,rfl,hw,hsz,hfz,by show es.length≤_; omega,fun i x hx=>?_⟩
    obtain ⟨x0,hx0,hsx⟩:=m2 i x hx
    have hx1:e.es[i]?=some x0:=by
     rw [List.getElem?_take] at hx0
     split at hx0
     ·exact hx0
     ·cases hx0
    obtain ⟨k1,k2⟩:=elem_snap hh hI hok hg hx1 hsx (fun id' hid=>hl id' (List.mem_flatMap.2 ⟨x0,List.mem_of_getElem? hx0,hid⟩))
    refine⟨k1,fun j z hz=>?_⟩
    obtain ⟨u,u1,u2,u3⟩:=k2 j z hz
    refine⟨u,?_,u2,u3⟩
    simpa [World.cell?,hw] using u1
  ·rename_i sz'
   simp only[Option.some.injEq,Prod.mk.injEq] at h
   obtain ⟨rfl,rfl,rfl⟩:=h
   refine⟨γ,[⟨none,sz,0,2⟩],Gone.one_none γ rfl,hh,rfl,fun I hI hl=>⟨_,rfl,?_⟩⟩
   cases hs with
   | sl _ _ _ _ _ _ _ hp=>simp at hp
   | sl0 _ _ A cap hc =>
    rw [hc rfl]
    exact⟨.inr ⟨rfl,.inl ⟨rfl,rfl,rfl⟩⟩,rfl,rfl,Nat.le_refl _,⟨A,rfl,fun g hg=>by cases hg⟩,fun _=>rfl⟩
  ·cases h
theorem Holds.left{l l':List Nat}(h:Holds γ (l ++ l') I):Holds γ l I:=fun id hid=>h id (List.mem_append_left _ hid)
theorem Holds.right{l l':List Nat}(h:Holds γ (l ++ l') I){os:List GE}(hg:Gone γ γ' os):Holds γ' l' I:=fun id hid ge b hm hs hb=>h id (List.mem_append_right _ hid) ge b (hg.rev id ge hm hs) hs hb
theorem passG_sim{μ:Type}{R:(Nat→Prop)→List GE→AV→Value→Prop}{g:Hp→μ→AV→Option (AV × Hp × List Nat)}(hg:TakeP w R g)(d:μ):∀(xs:List AV) (γ:Gh) (H H1:Hp) (ms:List μ) (ys:List AV) (vs:List Value) (l:List Nat),
  HRel γ H w→xs.length=vs.length →(∀(i:Nat) (x:AV) (v:Value),xs[i]?=some x→vs[i]?=some v→Sim w γ x v)→passG g d H ms xs=some (ys,H1,l) →
  ∃ γ1 os,Gone γ γ1 os∧HRel γ1 H1 w∧H1.length=H.length∧∀ I:Nat→Prop,(∀ b,γ.imm b→I b)→Holds γ l I→OwnL (R I) os ys vs
 | [],γ,H,H1,ms,ys,vs,l,hh,hl,hs,h=>by
  simp only[passG,Option.some.injEq,Prod.mk.injEq] at h
  obtain ⟨rfl,rfl,rfl⟩:=h
  cases vs with
  | nil=>exact⟨γ,[],Gone.nil γ,hh,rfl,fun _ _ _=>.nil⟩
  | cons _ _=>simp at hl
 | x :: xs,γ,H,H1,ms,ys,vs,l,hh,hl,hs,h=>by
  simp only[passG] at h
  obtain ⟨⟨y,H2,l1⟩,h1,h⟩:=Option.bind_eq_some_iff.1 h
  obtain ⟨⟨ys',H3,l2⟩,h2,h⟩:=Option.map_eq_some_iff.1 h
  simp only[Prod.mk.injEq] at h
  obtain ⟨rfl,rfl,rfl⟩:=h
  cases vs with
  | nil=>simp at hl
  | cons v vs =>
   obtain ⟨γ1,os1,g1,r1,n1,k1⟩:=hg γ H H2 _ x y v l1 hh (hs 0 x v rfl rfl) h1
   obtain ⟨γ2,os2,g2,r2,n2,k2⟩:=passG_sim hg d xs γ1 H2 H3 ms.tail ys' vs l2 r1 (by simpa using hl) (fun i x v hx hv=>(hs (i+1) x v (by simpa using hx) (by simpa using hv)).adv (g1.adv w)) h2
   exact⟨γ2,os1 ++ os2,g1.trans hh g2,r2,n2.trans n1,fun I hI hl=>.cons (k1 I hI hl.left) (k2 I (fun b hb=>hI b (by rw [← g1.imm]; exact hb)) (hl.right g1))⟩
theorem OwnA.ofC{os:List GE}{x:AV}{v:Value}(h:OwnC w I os x v):OwnA w I os x v:=by
 unfold OwnA
 split
 ·rename_i xs
  obtain ⟨rfl,h⟩:=h
  cases h with
  | agg _ cs hz hs =>
  refine⟨cs,rfl,?_⟩
  have:∀(xs:List AV) (vs:List Value),xs.length=vs.length →(∀(i:Nat) (x:AV) (v:Value),xs[i]?=some x→vs[i]?=some v→Sim w (bareG I) x v)→OwnL (OwnC w I) [] xs vs:=by
   intro xs
   induction xs with
   | nil=>intro vs hl _; cases vs with | nil=>exact .nil | cons _ _=>simp at hl
   | cons x xs ih =>
    intro vs hl hs
    cases vs with
    | nil=>simp at hl
    | cons v vs=>exact OwnL.cons (os:=[]) (os':=[]) (OwnC.val (hs 0 x v rfl rfl)) (ih vs (by simpa using hl) fun i x v hx hv=>hs (i+1) x v (by simpa using hx) (by simpa using hv))
  exact this xs cs.toList (by simpa using hz) fun i x v hx hv=>hs i x v hx (by simpa using hv)
 ·exact h
theorem handA_p:TakeP w (OwnA w) handA:=by
 intro γ H H1 m x y v l hh hs h
 unfold handA at h
 split at h
 ·obtain ⟨γ1,os,h1,h2,h3,h4⟩:=passOne_p γ H H1 _ x y v l hh hs h
  exact⟨γ1,os,h1,h2,h3,fun I hI hl=>OwnA.ofC (h4 I hI hl)⟩
 ·obtain ⟨γ1,os,h1,h2,h3,h4⟩:=passOne_p γ H H1 _ x y v l hh hs h
  exact⟨γ1,os,h1,h2,h3,fun I hI hl=>OwnA.ofC (h4 I hI hl)⟩
 ·obtain ⟨⟨ys,H2,l'⟩,h1,h⟩:=Option.map_eq_some_iff.1 h
  simp only[Prod.mk.injEq] at h
  obtain ⟨rfl,rfl,rfl⟩:=h
  obtain ⟨cs,rfl,hz,hcs⟩:=agg_inv hs
  obtain ⟨γ1,os,g1,g2,g3,g4⟩:=passG_sim passOne_p _ _ γ H _ _ _ cs.toList _ hh (by simpa using hz) (fun i x v hx hv=>hcs i x v hx (by simpa using hv)) h1
  exact⟨γ1,os,g1,g2,g3,fun I hI hl=>⟨cs,rfl,g4 I hI hl⟩⟩
 ·cases h
theorem OwnT.ofA{os:List GE}{x:AV}{v:Value}(h:OwnA w I os x v)(hx:∀ xs,x≠.tup xs):OwnT w I os x v:=by
 unfold OwnT
 split
 ·exact absurd rfl (hx _)
 ·exact h
theorem passOne_tup{m:Mode}{x:AV}{ys:List AV}{H1:Hp}{l:List Nat}(h:passOne H m x=some (.tup ys,H1,l)):∃ xs,x=.tup xs:=by
 cases m with
 | snap =>
  simp only[passOne] at h
  obtain ⟨z,hz,h⟩:=Option.map_eq_some_iff.1 h
  simp only[Prod.mk.injEq] at h
  obtain ⟨rfl,_,_⟩:=h
  simp only[deep] at hz
  cases x <;> simp only[snap] at hz <;> first
   | (cases hz; done)
   | exact⟨_,rfl⟩
   | (obtain ⟨_,_,hz⟩:=Option.bind_eq_some_iff.1 hz; obtain ⟨_,_,hz⟩:=Option.map_eq_some_iff.1 hz; cases hz; done)
   | (obtain ⟨_,_,hz⟩:=Option.bind_eq_some_iff.1 hz; obtain ⟨_,_,hz⟩:=Option.bind_eq_some_iff.1 hz; obtain ⟨_,_,hz⟩:=Option.map_eq_some_iff.1 hz; cases hz; done)
   | (obtain ⟨_,_,hz⟩:=Option.map_eq_some_iff.1 hz; cases hz; done)
 | nil sz full =>
  simp only[passOne] at h
  split at h
  ·split at h <;> cases h
  ·split at h <;> cases h
  ·cases h
 | own sz ty =>
  simp only[passOne] at h
  split at h
  ·obtain ⟨e,he,h⟩:=Option.bind_eq_some_iff.1 h
   split at h
   ·obtain ⟨es,hes,h⟩:=Option.map_eq_some_iff.1 h
    cases h
   ·cases h
  ·cases h
  ·cases h
theorem hand_p:TakeP w (OwnT w) hand:=by
 intro γ H H1 m x y v l hh hs h
 unfold hand at h
 split at h
 ·obtain ⟨⟨ys,H2,l'⟩,h1,h⟩:=Option.map_eq_some_iff.1 h
  simp only[Prod.mk.injEq] at h
  obtain ⟨rfl,rfl,rfl⟩:=h
  obtain ⟨cs,rfl,hz,hcs⟩:=tup_inv hs
  obtain ⟨γ1,os,g1,g2,g3,g4⟩:=passG_sim handA_p _ _ γ H _ _ _ cs.toList _ hh (by simpa using hz) (fun i x v hx hv=>hcs i x v hx (by simpa using hv)) h1
  exact⟨γ1,os,g1,g2,g3,fun I hI hl=>⟨cs,rfl,g4 I hI hl⟩⟩
 ·rename_i hnt
  obtain ⟨γ1,os,h1,h2,h3,h4⟩:=handA_p γ H H1 _ x y v l hh hs h
  refine⟨γ1,os,h1,h2,h3,fun I hI hl=>OwnT.ofA (h4 I hI hl) fun ys e=>?_⟩
  subst e
  unfold handA at h
  split at h
  ·obtain ⟨xs,hx⟩:=passOne_tup h; exact hnt xs hx
  ·obtain ⟨xs,hx⟩:=passOne_tup h; exact hnt xs hx
  ·obtain ⟨_,_,h⟩:=Option.map_eq_some_iff.1 h; cases h
  ·cases h
end
end Go.Pv
namespace Go.Pv
def Can(P:Program)(f:FuncId):Prop:=∀(args:Array Value) (w:World),(callFunc f args).run P w=.ok (.enter f args) w
theorem can_of{P:Program}{f:FuncId}{fn:Func}(h:P.funcs[f]?=some fn)(hb:fn.body.isSome=true)(hn:(fn.name == "runtime.NumGoroutine")=false):Can P f:=by
 intro args w
 have hb':fn.body≠none:=by intro h'; rw [h'] at hb; cases hb
 have hn':fn.name≠ "runtime.NumGoroutine":=by intro h'; rw [h'] at hn; simp at hn
 simp [callFunc,h,hn',hb']
structure StepB(I:Nat→Prop)(os:List GE)(I':Nat→Prop)(os':List GE)(w w':World):Prop where
 osk:w'.os=w.os
 tape:w'.tape=w.tape
 output:w'.output=w.output
 size:w.heap.size≤w'.heap.size
 keep:∀ b,b < w.heap.size→¬ blks os b→w'.heap[b]?=w.heap[b]?
 own:∀ b,blks os' b→blks os b∨w.heap.size≤b
 immk:∀ b,I b→I' b
 immn:∀ b,I' b→I b∨blks os b∨w.heap.size≤b
class Lq where
 q:World →(Nat→Prop)→Prop
 st:∀ {w w':World} {I I':Nat→Prop},q w I →(∀ b,I b→b < w.heap.size) →(∀ b,I b→I' b) →(∀ b,I b→b < w.heap.size→w'.heap[b]?=w.heap[b]?)→q w' I'
instance (priority:=10) lqNone:Lq:=⟨fun _ _=>True,fun _ _ _ _=>trivial⟩
theorem Step.q[Lq]{γ γ':Gh}{w w':World}(h:Step γ γ' w w')(hi:∀ b,γ.imm b→b < w.heap.size∧¬ γ.owns b)(hq:Lq.q w γ.imm):Lq.q w' γ'.imm :=
 Lq.st hq (fun b hb=>(hi b hb).1) h.immk fun b hb hlt=>h.keep b hlt (hi b hb).2
theorem Lq.more[Lq]{w:World}{I I':Nat→Prop}(hq:Lq.q w I)(hi:∀ b,I b→b < w.heap.size)(h:∀ b,I b→I' b):Lq.q w I':=Lq.st hq hi h fun _ _ _=>rfl
variable [Lq]
def Run(P:Program)(f:FuncId)(xs:List AV)(r:AV):Prop :=
 Can P f∧∀(w:World) (I:Nat→Prop) (os:List GE) (args:Array Value),Lq.q w I→OsOk w I os→OwnL (OwnC w I) os xs args.toList →
  Calls P f args w fun e W=>∃ v I' os',e=.returned v∧OwnT W I' os' r v∧OsOk W I' os'∧StepB I os I' os' w W
def Gen(P:Program)(f:FuncId)(xs:List AV)(H:Hp)(r:AV)(H':Hp):Prop :=
 Can P f∧∀(w:World) (γ:Gh) (args:Array Value),Lq.q w γ.imm→HRel γ H w→xs.length=args.size →(∀(i:Nat) (x:AV) (v:Value),xs[i]?=some x→args[i]?=some v→Sim w γ x v) →
  Calls P f args w fun e W=>∃ v γ',e=.returned v∧Sim W γ' r v∧HRel γ' H' W∧Step γ γ' w W∧Ids γ γ'
def AV.p0:AV→Bool
 | .bool _ | .anyb | .int .. | .str _ | .lit _ | .undef=>true
 | .sl _ [] _=>true
 | _=>false
def AV.p1:AV→Bool
 | .agg cs=>cs.all AV.p0
 | x=>x.p0
def AV.pC:AV→Bool
 | .own _ _ es=>es.all AV.p1
 | x=>x.p1
def AV.pA:AV→Bool
 | .agg cs=>cs.all AV.pC
 | x=>x.pC
def AV.pT:AV→Bool
 | .tup xs=>xs.all AV.pA
 | x=>x.pA
section
variable {P:Program} {w w':World} {γ γ':Gh} {H H':Hp} {I:Nat→Prop}
theorem p0_sim{x:AV}{v:Value}(hp:x.p0=true)(h:Sim w γ x v):Sim w γ' x v:=by
 cases h with
 | undef=>exact .undef _
 | bool b=>exact .bool b
 | anyb b=>exact .anyb b
 | int k n=>exact .int k n
 | str s=>exact .str s
 | lit v=>exact .lit v
 | sl0 sz full A cap hc=>exact .sl0 sz full A cap hc
 | sl sz es full b off cap U hp' =>
  cases es with
  | nil=>simp at hp'
  | cons _ _=>cases hp
 | _=>cases hp
theorem p1_sim{x:AV}{v:Value}(hp:x.p1=true)(h:Sim w γ x v):Sim w γ' x v:=by
 by_cases hx:∃ cs,x=.agg cs
 ·obtain ⟨xs,rfl⟩:=hx
  obtain ⟨cs,rfl,hz,hs⟩:=agg_inv h
  refine .agg xs cs hz fun i x v hx hv=>p0_sim (List.all_eq_true.1 hp x (List.mem_of_getElem? hx)) (hs i x v hx hv)
 ·have e:x.p1=x.p0:=by cases x <;> first | rfl | exact absurd ⟨_,rfl⟩ hx
  exact p0_sim (e ▸ hp) h
theorem flat_p1{x:AV}(hp:x.p1=true):∀ y∈x.flat,y.p0=true:=by
 by_cases hx:∃ cs,x=.agg cs
 ·obtain ⟨xs,rfl⟩:=hx
  intro y hy
  exact List.all_eq_true.1 hp y hy
 ·have e:x.p1=x.p0:=by cases x <;> first | rfl | exact absurd ⟨_,rfl⟩ hx
  intro y hy
  rw [flat_one fun cs e=>hx ⟨cs,e⟩] at hy
  simp at hy; subst hy
  exact e ▸ hp
theorem pC_own{x:AV}{v:Value}{os:List GE}{I':Nat→Prop}(hp:x.pC=true)(h:OwnC w I os x v):OwnC w I' os x v:=by
 unfold OwnC at h ⊢
 split at h
 ·rename_i sz ty es
  obtain ⟨ge,ho,h⟩:=h
  refine⟨ge,ho,{ h with ok:=?_ }⟩
  rcases h.ok with ⟨h1,h2,_⟩ | ⟨h1,h2⟩
  ·cases h2
  ·refine .inr ⟨h1,?_⟩
   rcases h2 with h2 | ⟨g,cs,fr,h2,h3,h4,h5,h6,h7⟩
   ·exact .inl h2
   ·refine .inr ⟨g,cs,fr,h2,h3,h4,h5,h6,fun i x hx=>⟨(h7 i x hx).1,fun j y hy=>?_⟩⟩
    obtain ⟨u,u1,u2,u3⟩:=(h7 i x hx).2 j y hy
    exact⟨u,u1,u2,p0_sim (flat_p1 (List.all_eq_true.1 hp x (List.mem_of_getElem? hx)) y (List.mem_of_getElem? hy)) u3⟩
 ·rename_i hne
  have e:x.pC=x.p1:=by cases x <;> first | rfl | exact absurd rfl (hne _ _ _)
  exact⟨h.1,p1_sim (e ▸ hp) h.2⟩
theorem OwnL.map{R R':List GE→AV→Value→Prop}{os:List GE}{xs:List AV}{vs:List Value}(h:OwnL R os xs vs):(∀ x∈xs,∀ os v,R os x v→R' os x v)→OwnL R' os xs vs:=by
 induction h with
 | nil=>intro _; exact .nil
 | cons h1 h2 ih=>intro hR; exact .cons (hR _ (by simp) _ _ h1) (ih fun x hx=>hR x (by simp [hx]))
theorem pA_own{x:AV}{v:Value}{os:List GE}{I':Nat→Prop}(hp:x.pA=true)(h:OwnA w I os x v):OwnA w I' os x v:=by
 unfold OwnA at h ⊢
 split at h
 ·rename_i xs
  obtain ⟨cs,rfl,h⟩:=h
  exact⟨cs,rfl,h.map fun x hx os v hR=>pC_own (List.all_eq_true.1 hp x hx) hR⟩
 ·rename_i hne
  have e:x.pA=x.pC:=by cases x <;> first | rfl | exact absurd rfl (hne _)
  exact pC_own (e ▸ hp) h
theorem pT_own{x:AV}{v:Value}{os:List GE}{I':Nat→Prop}(hp:x.pT=true)(h:OwnT w I os x v):OwnT w I' os x v:=by
 unfold OwnT at h ⊢
 split at h
 ·rename_i xs
  obtain ⟨cs,rfl,h⟩:=h
  exact⟨cs,rfl,h.map fun x hx os v hR=>pA_own (List.all_eq_true.1 hp x hx) hR⟩
 ·rename_i hne
  have e:x.pT=x.pA:=by cases x <;> first | rfl | exact absurd rfl (hne _)
  exact pA_own (e ▸ hp) h
theorem still_len:∀(l:List Nat) (H:Hp),(still H l).length=H.length
 | [],H=>rfl
 | id :: l,H=>by
  simp only[still]
  split
  ·rw [still_len l]; simp
  ·exact still_len l H
theorem still_ent:∀(l:List Nat) (H:Hp) (j:Nat),ent (still H l) j =(ent H j).map fun e=>if j∈l then { e with wr:=false } else e
 | [],H,j=>by simp [still]
 | id :: l,H,j=>by
  simp only[still]
  split
  ·rename_i e he
   rw [still_ent l,ent_set he]
   by_cases hj:j=id
   ·subst hj; rw [if_pos rfl,he]; simp
   ·rw [if_neg hj]; simp [hj]
  ·rename_i he
   rw [still_ent l]
   by_cases hj:j=id
   ·subst hj; rw [he]; rfl
   ·simp [hj]
def Gh.still(γ:Gh)(l:List Nat)(J:Nat→Prop):Gh:=⟨fun id=>(γ.m id).map fun ge=>if id∈l∧ge.st≠0 then { ge with st:=1 } else ge,J⟩
theorem st_cases(hh:HRel γ H w){id:Nat}{ge:GE}(hm:γ.m id=some ge):ge.st=0∨ge.st=1∨ge.st=2:=by
 obtain ⟨e,_,h⟩:=hh.ent hm
 rcases h with h | h
 ·exact .inl h.1
 ·rw [h.1]; split
  ·exact .inr (.inr rfl)
  ·exact .inr (.inl rfl)
theorem still_look{l:List Nat}{J:Nat→Prop}{id:Nat}{ge:GE}(h:(γ.still l J).m id=some ge):∃ x,γ.m id=some x∧ge.blk=x.blk ∧(ge.st=0↔x.st=0) ∧(ge.st=2→id ∉ l∧x.st=2) ∧(ge.st=1→x.st=1 ∨(id∈l∧x.st≠0)):=by
 simp only[Gh.still] at h
 obtain ⟨x,hx,rfl⟩:=Option.map_eq_some_iff.1 h
 refine⟨x,hx,?_⟩
 split
 ·rename_i hc
  exact⟨rfl,⟨fun h=>(by cases h),fun h=>absurd h hc.2⟩,fun h=>(by cases h),fun _=>.inr hc⟩
 ·rename_i hc
  refine⟨rfl,Iff.rfl,fun h=>⟨fun hl=>hc ⟨hl,by rw [h]; decide⟩,h⟩,fun h=>.inl h⟩
theorem gen_all(hq:Lq.q w γ.imm)(hh:HRel γ H w){xs ys:List AV}{args:Array Value}{ms:List Mode}{H1:Hp}{l l':List Nat}{f:FuncId}{r:AV}(hr:Run P f ys r)(hl:xs.length=args.size)
  (hs:∀(i:Nat) (x:AV) (v:Value),xs[i]?=some x→args[i]?=some v→Sim w γ x v) (hp:pass H ms xs=some (ys,H1,l)) (hlive:liveB H1 l=true) (hl':l'=l ∨(l'=[]∧r.pT=true)) :
  Calls P f args w fun e W=>∃ v γ',e=.returned v∧Sim W γ' (lay (still H1 l') r).1 v∧HRel γ' (lay (still H1 l') r).2 W∧Step γ γ' w W∧Ids γ γ':=by
 obtain ⟨γ1,os,g1,r1,n1,k⟩:=passG_sim passOne_p Mode.snap xs γ H H1 ms ys args.toList l hh (by simpa using hl) (fun i x v hx hv=>hs i x v hx (by simpa using hv)) hp
 have hliv:∀ id∈l,∀ ge,γ.m id=some ge→ge.st≠0→γ1.m id=some ge:=by
  intro id hid ge hm hst
  rcases g1.ids id ge hm with h | h
  ·exact h
  ·exfalso
   have:=List.all_eq_true.1 hlive id hid
   split at this
   ·rename_i e he
    obtain ⟨ge',hm',hok⟩:=r1.ok id e he
    rw [h] at hm'; cases hm'
    have hl:=hok.live (by
     simp only[Bool.or_eq_true,Bool.not_eq_true',List.isEmpty_eq_false_iff] at this
     exact this)
    have:=hl.1
    simp only at this
    split at this <;> cases this
   ·cases this
 have hos:∀ b,blks os b→γ.owns b∧∀ id ge,γ1.m id=some ge→ge.st≠0→ge.blk≠some b:=by
  rintro b ⟨ge,hge,hb⟩
  obtain ⟨id,h1,h2,h3⟩:=g1.src ge hge b hb
  refine⟨⟨id,ge,h1,h2,hb⟩,fun id' ge' hm hst hb'=>?_⟩
  have e:=hh.inj id id' ge ge' b h1 (g1.rev id' ge' hm hst) (by rw [h2]; decide) hst hb hb'
  subst e
  rw [h3] at hm; cases hm
  exact hst rfl
 let I:Nat→Prop:=fun b=>γ.imm b∨∃ id∈l,∃ ge,γ.m id=some ge∧ge.st≠0∧ge.blk=some b
 have hI:∀ b,γ.imm b→I b:=fun b hb=>.inl hb
 have hIos:∀ b,I b→b < w.heap.size∧¬ blks os b:=by
  rintro b (hb | ⟨id,hid,ge,hm,hst,hb⟩)
  ·exact⟨(hh.imm b hb).1,fun h=>(hh.imm b hb).2 (hos b h).1⟩
  ·exact⟨hh.blkLt hm hst hb,fun h=>(hos b h).2 id ge (hliv id hid ge hm hst) hst hb⟩
 have ownlt:∀ b,γ.owns b→b < w.heap.size:=fun b ⟨id,ge,h1,h2,h3⟩=>hh.blkLt h1 (by rw [h2]; decide) h3
 have hown:=k I hI (fun id hid ge b hm hst hb=>.inr ⟨id,hid,ge,hm,hst,hb⟩)
 refine Calls.mono (hr.2 w I os args (Lq.more hq (fun b hb=>(hh.imm b hb).1) hI) ⟨hIos,fun b hb=>ownlt b (hos b hb).1,g1.ap⟩ hown) ?_
 rintro e W ⟨v,I',os',rfl,hv,hok',hst⟩
 obtain ⟨J,hJ0,hJn,hJlt,hJos,hJl,hvJ⟩:∃ J:Nat→Prop,(∀ b,γ.imm b→J b) ∧(∀ b,J b→I b ∧(γ.imm b∨l'=l)∨blks os b∨w.heap.size≤b) ∧(∀ b,J b→b < W.heap.size) ∧(∀ b,blks os' b→¬ J b) ∧
   (∀ id∈l',∀ ge b,γ.m id=some ge→ge.st≠0→ge.blk=some b→J b)∧OwnT W J os' r v:=by
  rcases hl' with rfl | ⟨rfl,hpl⟩
  ·refine⟨I',fun b hb=>hst.immk b (hI b hb),fun b hb=>(hst.immn b hb).imp (fun h=>⟨h,.inr rfl⟩) id,fun b hb=>(hok'.imm b hb).1,fun b hb h=>(hok'.imm b h).2 hb,fun id hid ge b h1 h2 h3=>hst.immk b (.inr ⟨id,hid,ge,h1,h2,h3⟩),hv⟩
  ·refine⟨γ.imm,fun b hb=>hb,fun b hb=>.inl ⟨.inl hb,.inl hb⟩,fun b hb=>Nat.lt_of_lt_of_le (hh.imm b hb).1 hst.size,fun b hb h=>?_,fun id hid=>(by cases hid),pT_own hpl hv⟩
   rcases hst.own b hb with h' | h'
   ·exact(hIos b (.inl h)).2 h'
   ·have:=(hh.imm b h).1; omega
 have keep:∀ id ge b,γ1.m id=some ge→ge.st≠0→ge.blk=some b→W.heap[b]?=w.heap[b]?:=fun id ge b h1 h2 h3 =>
  hst.keep b (r1.blkLt h1 h2 h3) fun h=>(hos b h).2 id ge h1 h2 h3
 have advS:Adv γ1 (γ1.still l' J) w W:=⟨hst.size,fun b hb=>⟨hJ0 b (by rw [← g1.imm]; exact hb),fun hlt=>hst.keep b hlt fun h=>(hIos b (.inl (by rw [← g1.imm]; exact hb))).2 h⟩,fun id ge hm=>by
  simp only[Gh.still,hm,Option.map_some]
  split
  ·exact⟨1,rfl⟩
  ·exact⟨ge.st,rfl⟩⟩
 have hS:HRel (γ1.still l' J) (still H1 l') W:=by
  refine⟨?_,?_,?_,?_,?_⟩
  ·intro id hid
   rw [still_ent] at hid
   have:ent H1 id=none:=by
    cases h:ent H1 id with
    | none=>rfl
    | some e=>rw [h] at hid; cases hid
   simp [Gh.still,r1.none id this]
  ·intro id e hid
   rw [still_ent] at hid
   obtain ⟨e0,he0,rfl⟩:=Option.map_eq_some_iff.1 hid
   obtain ⟨ge,hm,hok⟩:=r1.ok id e0 he0
   have hokW:=hok.adv advS fun g h1 h2=>keep id ge g hm h1 h2
   refine⟨(if id∈l'∧ge.st≠0 then { ge with st:=1 } else ge),by simp only[Gh.still,hm,Option.map_some],?_⟩
   by_cases hid':id∈l'
   ·rw [if_pos hid']
    by_cases h0:ge.st=0
    ·rw [if_neg (fun h=>h.2 h0)]
     rcases hokW with h | h
     ·exact .inl ⟨h.1,rfl,h.2.2⟩
     ·exfalso
      have:=h.1
      rw [h0] at this
      split at this <;> cases this
    ·rw [if_pos ⟨hid',h0⟩]
     rcases hokW with h | h
     ·exact absurd h.1 h0
     ·exact .inr ⟨rfl,h.2⟩
   ·rw [if_neg hid',if_neg (fun h=>hid' h.1)]
    exact hokW
  ·intro i j x y b hi hj hx hy hbx hby
   obtain ⟨x0,h1,h2,h3,_⟩:=still_look hi
   obtain ⟨y0,k1,k2,k3,_⟩:=still_look hj
   exact r1.inj i j x0 y0 b h1 k1 (fun h=>hx (h3.2 h)) (fun h=>hy (k3.2 h)) (by rw [← h2]; exact hbx) (by rw [← k2]; exact hby)
  ·intro b hb
   refine⟨hJlt b hb,?_⟩
   rintro ⟨id,ge,hm,hst2,hb2⟩
   obtain ⟨x,h1,h2,_,h4,_⟩:=still_look hm
   obtain ⟨h5,h6⟩:=h4 hst2
   have hx0:x.st≠0:=by rw [h6]; decide
   have hxb:x.blk=some b:=by rw [← h2]; exact hb2
   have hg:=g1.rev id x h1 hx0
   rcases hJn b hb with ⟨hI',hcase⟩ | h | h
   ·rcases hI' with h | ⟨id',hid',ge',hm',hst',hb'⟩
    ·exact(hh.imm b h).2 ⟨id,x,hg,h6,hxb⟩
    ·have e:=hh.inj id' id ge' x b hm' hg hst' hx0 hb' hxb
     subst e
     rcases hcase with h | h
     ·exact(hh.imm b h).2 ⟨_,x,hg,h6,hxb⟩
     ·rw [h] at h5; exact h5 hid'
   ·exact(hos b h).2 id x h1 hx0 hxb
   ·have:=r1.blkLt h1 hx0 hxb; omega
  ·intro id ge b hm hst1 hb
   obtain ⟨x,h1,h2,_,_,h5⟩:=still_look hm
   have hxb:x.blk=some b:=by rw [← h2]; exact hb
   rcases h5 hst1 with h | ⟨h,h0⟩
   ·exact hJ0 b (hh.stl id x b (g1.rev id x h1 (by rw [h]; decide)) h hxb)
   ·exact hJl id h x b (g1.rev id x h1 h0) h0 hxb
 have hF:Fresh W (γ1.still l' J) os':=by
  refine⟨hJos,fun b hb id ge hm hst0 hb'=>?_,hok'.ap⟩
  obtain ⟨x,h1,h2,h3,_⟩:=still_look hm
  have hx0:x.st≠0:=fun h=>hst0 (h3.2 h)
  have hxb:x.blk=some b:=by rw [← h2]; exact hb'
  rcases hst.own b hb with h | h
  ·exact(hos b h).2 id x h1 hx0 hxb
  ·have:=r1.blkLt h1 hx0 hxb; omega
 obtain ⟨γ3,m3,r3,s3⟩:=lay_p (I:=J) (γ1.still l' J) (still H1 l') os' r v rfl hS hvJ hF
 refine⟨v,γ3,rfl,s3,r3,⟨hst.osk,hst.tape,hst.output,hst.size,fun b hb hn=>hst.keep b hb fun h=>hn (hos b h).1,?_,?_,?_⟩,?_⟩
 ·intro b hb
  rcases (m3.own b).1 hb with ⟨id,ge,h1,h2,h3⟩ | h
  ·obtain ⟨x,k1,k2,_,k4,_⟩:=still_look h1
   have h6:=(k4 h2).2
   exact .inl ⟨id,x,g1.rev id x k1 (by rw [h6]; decide),h6,by rw [← k2]; exact h3⟩
  ·exact(hst.own b h).imp (fun h=>(hos b h).1) id
 ·intro b hb
  rw [m3.imm]; exact hJ0 b hb
 ·intro b hb
  rw [m3.imm] at hb
  rcases hJn b hb with ⟨h,_⟩ | h | h
  ·rcases h with h | ⟨id,hid,ge,hm,hst0,hb'⟩
   ·exact .inl h
   ·rcases st_cases hh hm with h | h | h
    ·exact absurd h hst0
    ·exact .inl (hh.stl id ge b hm h hb')
    ·exact .inr (.inl ⟨id,ge,hm,h,hb'⟩)
  ·exact .inr (.inl (hos b h).1)
  ·exact .inr (.inr h)
 ·intro id ge hm
  obtain ⟨st,h1⟩:=g1.toIds id ge hm
  obtain ⟨st',h2⟩:=advS.id id _ h1
  exact⟨st',m3.ids id _ h2⟩
theorem gen_still{xs ys:List AV}{ms:List Mode}{H1:Hp}{l:List Nat}{f:FuncId}{r:AV}(hr:Run P f ys r)(hp:pass H ms xs=some (ys,H1,l))(hlive:liveB H1 l=true) :
  Gen P f xs H (lay (still H1 l) r).1 (lay (still H1 l) r).2 :=
 ⟨hr.1,fun _ _ _ hq hh hl hs=>gen_all hq hh hr hl hs hp hlive (.inl rfl)⟩
theorem gen_plain{xs ys:List AV}{ms:List Mode}{H1:Hp}{l:List Nat}{f:FuncId}{r:AV}(hr:Run P f ys r)(hp:pass H ms xs=some (ys,H1,l))(hlive:liveB H1 l=true)(hpl:r.pT=true) :
  Gen P f xs H (lay H1 r).1 (lay H1 r).2 :=
 ⟨hr.1,fun _ _ _ hq hh hl hs=>gen_all (l':=[]) hq hh hr hl hs hp hlive (.inr ⟨rfl,hpl⟩)⟩
end
end Go.Pv
