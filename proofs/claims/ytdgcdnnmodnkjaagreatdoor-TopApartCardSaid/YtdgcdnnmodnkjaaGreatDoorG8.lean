/- Part 8 of a proof that a step of one domain changes nothing of another: the machine of plain values, and what the program's functions do. -/
import Derived.Test.YtdgcdnnmodnkjaaGreatDoorG7
import Derived.Deep.LoopGhost
set_option linter.all false
set_option linter.unusedVariables false
set_option linter.unusedSectionVars false
set_option linter.unusedSimpArgs false
set_option linter.defProp false
namespace Go.Pv
variable [Lq]
def DrawOk(P:Program)(D:Dq)(n:Nat)(k:Bool)(γ0:Gh)(w0:World):Prop :=
 ∀(id:Nat) (ops:Array Oper) (l:List Nat) (ps:List (Nat × Nat)) (γ:Gh) (σ:St) (a:Act) (w:World) (K:St→Prop) (Q:Exit→Act→World→Prop),fullB ops l=true→closedB ops (anc ops)=true →
  ((linB ops (compL P ops true).toArray (anc ops) l 0=true∧ps=[]) ∨(linP ops (compL P ops true).toArray (anc ops) l 0=true∧ps=pairs (compL P ops true).toArray (anc ops) l)) →
  (pick (compL P ops true).toArray l).all (dstOk (D.pv.map (·.1)) n)=true→SR D n k γ0 w0 γ σ a w→awOps P σ.hp.length (pick (compL P ops true).toArray l) ⟨σ.fr,σ.hp ++ List.replicate ops.size none⟩ (fun σ=>apB ps σ.fr=true∧K σ) →
  (∀ a w,Up D n k γ0 w0 K a w→Q .normal a w) →(Code.region id ops true).wp P Q a w
section
variable {P:Program} {n:Nat} {k:Bool} {γ0 γ γ':Gh} {w0 w:World} {σ:St} {a:Act} {H H':Hp} {D:Dq}
theorem aw1_mono{base:Nat}{o:Op2}{σ:St}{K K':St→Prop}(h:∀ σ,K σ→K' σ)(hx:aw1 P base o σ K):aw1 P base o σ K':=by
 unfold aw1 at hx ⊢
 split at hx
 ·split at hx <;> first | exact h _ hx | exact hx
 ·split at hx <;> first | exact⟨hx.1,h _ hx.2⟩ | exact hx
 ·split at hx <;> first | exact h _ hx | exact hx
 ·obtain ⟨r,H',h1,h2,h3⟩:=hx; exact⟨r,H',h1,h2,h _ h3⟩
 ·split at hx
  ·obtain ⟨h0,r,H',h1,h2,h3⟩:=hx; exact⟨h0,r,H',h1,h2,h _ h3⟩
  ·exact hx
 ·split at hx
  ·obtain ⟨r,H',h1,h2,h3⟩:=hx; exact⟨r,H',h1,h2,h _ h3⟩
  ·exact hx
 ·exact hx
theorem aw2_mono{base:Nat}{o:Op2}{σ:St}{K K':St→Prop}(h:∀ σ,K σ→K' σ)(hx:aw2 P base o σ K):aw2 P base o σ K':=by
 unfold aw2 at hx ⊢
 split at hx
 ·exact aw1_mono h hx
 ·split at hx
  ·split at hx
   ·rename_i hb; rw [if_pos hb]; exact aw1_mono h hx
   ·rename_i hb; rw [if_neg hb]; exact h _ hx
  ·exact⟨hx.1,h _ hx.2⟩
  ·exact hx.elim
theorem awOps_mono{base:Nat}{K K':St→Prop}:∀(l:List Op2) {σ:St},(∀ σ,K σ→K' σ)→awOps P base l σ K→awOps P base l σ K'
 | [],_,h,hx=>h _ hx
 | o :: l,_,h,hx=>aw2_mono (fun σ hσ=>awOps_mono l h hσ) hx
theorem aw_sound(hD:DrawOk P D n k γ0 w0):∀(c:Code) (c':AC) (K:AE→St→Prop) (γ:Gh) (σ:St) (a:Act) (w:World),bareC c'=comp P c→okCp (D.pv.map (·.1)) n k c'=true→aw P c' K σ→SR D n k γ0 w0 γ σ a w→c.wp P (LiftK D n k γ0 w0 K) a w:=by
 intro c
 induction c with
 | skip =>
  intro c' K γ σ a w hc ho hx h
  cases c' <;> simp only[comp,bareC] at hc <;> try (cases hc; done)
  exact wp_skip ⟨γ,σ,h,hx⟩
 | label l =>
  intro c' K γ σ a w hc ho hx h
  cases c' <;> simp only[comp,bareC] at hc <;> try (cases hc; done)
  exact wp_label ⟨γ,σ,h,hx⟩
 | exit id =>
  intro c' K γ σ a w hc ho hx h
  cases c' <;> simp only[comp,bareC] at hc <;> try (cases hc; done)
  cases hc
  exact wp_exit ⟨γ,σ,h,hx⟩
 | ret =>
  intro c' K γ σ a w hc ho hx h
  cases c' <;> simp only[comp,bareC] at hc <;> try (cases hc; done)
  exact wp_ret ⟨γ,σ,h,hx⟩
 | seq x y ihx ihy =>
  intro c' K γ σ a w hc ho hx h
  cases c' <;> simp only[comp,bareC] at hc <;> try (cases hc; done)
  rename_i x' y'
  simp only[AC.seq.injEq] at hc
  simp only[okCp,Bool.and_eq_true] at ho
  refine wp_seq (wp_mono (ihx x' _ γ σ a w hc.1 ho.1 hx h) ?_)
  intro e a' w' he
  cases e with
  | normal =>
   obtain ⟨γ',σ',h',hx'⟩:=he
   exact ihy y' K γ' σ' a' w' hc.2 ho.2 hx' h'
  | exit id=>exact he
  | ret=>exact he
  | goto _=>exact he
  | panic _=>exact he
  | outgrown=>exact he
 | cond t x y ihx ihy =>
  intro c' K γ σ a w hc ho hx h
  cases c' <;> simp only[comp,bareC] at hc <;> try (cases hc; done)
  rename_i t' x' y'
  simp only[AC.cond.injEq] at hc
  obtain ⟨rfl,hc1,hc2⟩:=hc
  simp only[okCp,Bool.and_eq_true] at ho
  simp only[aw] at hx
  have hs:=cx_sim h.fr t (γ:=γ)
  split at hx
  ·rename_i b hb
   rw [hb] at hs
   exact wp_cond_split (bool_inv hs) (fun hb=>ihx x' K γ σ a w hc1 ho.1 (hx.1 hb) h) (fun hb=>ihy y' K γ σ a w hc2 ho.2 (hx.2 hb) h)
  ·rename_i hb
   rw [hb] at hs
   generalize hv:a.eval t=v at hs
   cases hs with
   | anyb b=>exact wp_cond_split hv (fun _=>ihx x' K γ σ a w hc1 ho.1 hx.1 h) (fun _=>ihy y' K γ σ a w hc2 ho.2 hx.2 h)
  ·exact hx.elim
 | block id x ih =>
  intro c' K γ σ a w hc ho hx h
  cases c' <;> simp only[comp,bareC] at hc <;> try (cases hc; done)
  rename_i id' x'
  simp only[AC.block.injEq] at hc
  obtain ⟨rfl,hc⟩:=hc
  refine wp_block (wp_mono (ih x' _ γ σ a w hc ho hx h) ?_)
  intro e a' w' he
  cases e with
  | normal=>exact he
  | exit j =>
   obtain ⟨γ',σ',h',hx'⟩:=he
   simp only[inBlk] at hx'
   simp only[Exit.inBlock]
   split
   ·rename_i hj; rw [if_pos hj] at hx'; exact⟨γ',σ',h',hx'⟩
   ·rename_i hj; rw [if_neg hj] at hx'; exact⟨γ',σ',h',hx'⟩
  | ret=>exact he
  | goto _=>exact he
  | panic _=>exact he
  | outgrown=>exact he
 | scope x ih =>
  intro c' K γ σ a w hc ho hx h
  cases c' <;> simp only[comp,bareC] at hc <;> try (cases hc; done)
  rename_i x'
  simp only[AC.scope.injEq] at hc
  refine wp_scope_straight (wp_mono (ih x' K γ σ a w hc ho hx h) ?_)
  intro e a' w' he
  cases e <;> exact he
 | loop x ih =>
  intro c' K γ σ a w hc ho hx h
  cases c' <;> simp only[comp,bareC] at hc <;> try (cases hc; done)
  rename_i tr x'
  simp only[AC.loop.injEq] at hc
  obtain ⟨_,hc⟩:=hc
  simp only[aw] at hx
  obtain ⟨I,⟨m,hI⟩,hr⟩:=hx
  simp only[okCp,Bool.and_eq_true] at ho
  obtain ⟨γ1,h1⟩:=trim_sound h tr ho.2
  refine wp_loop_ghost (fun m a w=>∃ γ σ,SR D n k γ0 w0 γ σ a w∧I m σ) m ⟨γ1,_,h1,hI⟩ ?_
  rintro q a w ⟨γ',σ',hsr,hI'⟩
  refine wp_mono (ih x' _ γ' σ' a w hc ho.1 (hr _ σ' hI') hsr) ?_
  intro e a' w' he
  cases e with
  | normal =>
   obtain ⟨γ2,σ2,h2,q',hq,hIq⟩:=he
   obtain ⟨γ3,h3⟩:=trim_sound h2 tr ho.2
   exact⟨q',hq,γ3,_,h3,hIq⟩
  | exit id=>exact he
  | ret=>exact he
  | goto _=>exact he
  | panic _=>exact he
  | outgrown=>exact he
 | region id ops dr =>
  intro c' K γ σ a w hc ho hx h
  cases dr with
  | false =>
   cases c' <;> simp only[comp,bareC] at hc <;> try (cases hc; done)
   rename_i n' ops' tr
   simp only[AC.region.injEq] at hc
   obtain ⟨rfl,rfl,_⟩:=hc
   simp only[aw,List.replicate_zero,List.append_nil] at hx
   simp only[okCp,Bool.and_eq_true] at ho
   refine wp_region ?_
   rw [List.range_eq_range',← Array.length_toList]
   refine awOps_sound (K:=fun σ=>K .normal (trim tr σ)) ?_ ops.toList 0 γ σ a w (by simp) ?_ h hx
   ·rintro a' w' ⟨γ',σ',h',hx'⟩
    obtain ⟨γ2,h2⟩:=trim_sound h' tr ho.2
    exact⟨γ2,_,h2,hx'⟩
   ·intro o ho' t ht
    obtain ⟨i,hi⟩:=List.mem_iff_getElem?.1 ho'
    have hm:comp2 P ops false i o∈compL P ops false:=by
     refine List.mem_map.2 ⟨(o,i),?_,rfl⟩
     rw [List.mem_zipIdx_iff_getElem?]; exact hi
    have:=List.all_eq_true.1 ho.1 _ hm
    simp only[dstOk,comp2_dst,ht,Bool.and_eq_true,decide_eq_true_eq,Bool.not_eq_true'] at this
    exact this
  | true =>
   simp only[comp] at hc
   split at hc
   ·rename_i hcond
    cases c' <;> simp only[bareC] at hc <;> try (cases hc; done)
    rename_i n' ops' tr
    simp only[AC.region.injEq] at hc
    obtain ⟨rfl,rfl,_⟩:=hc
    simp only[aw] at hx
    simp only[okCp,Bool.and_eq_true] at ho
    refine hD id ops _ [] γ σ a w _ _ hcond.1 hcond.2.1 (.inl ⟨hcond.2.2,rfl⟩) ho.1 h (awOps_mono _ (fun σ hσ=>⟨rfl,hσ⟩) hx) ?_
    rintro a' w' ⟨γ',σ',h',hx'⟩
    obtain ⟨γ2,h2⟩:=trim_sound h' tr ho.2
    exact⟨γ2,_,h2,hx'⟩
   ·split at hc
    ·rename_i hcond
     cases c' <;> simp only[bareC] at hc <;> try (cases hc; done)
     rename_i n' ops' ps tr
     simp only[AC.regionA.injEq] at hc
     obtain ⟨rfl,rfl,rfl,_⟩:=hc
     simp only[aw] at hx
     simp only[okCp,Bool.and_eq_true] at ho
     refine hD id ops _ _ γ σ a w _ _ hcond.1 hcond.2.1 (.inr ⟨hcond.2.2,rfl⟩) ho.1 h hx ?_
     rintro a' w' ⟨γ',σ',h',hx'⟩
     obtain ⟨γ2,h2⟩:=trim_sound h' tr ho.2
     exact⟨γ2,_,h2,hx'⟩
    ·cases c' <;> simp only[bareC] at hc <;> try (cases hc; done)
     exact hx.elim
 | _ =>
  intro c' K γ σ a w hc ho hx h
  cases c' <;> simp only[comp,bareC] at hc <;> try (cases hc; done)
  exact hx.elim
def resX(fr:Fr):List Nat→AV
 | [t]=>get fr t
 | ts=>.tup (ts.map (get fr))
def entry(xs:List AV):St:=⟨(layL layC [] xs).1.zipIdx.map fun p=>(p.2,p.1),(layL layC [] xs).2⟩
theorem get_zip:∀(l:List AV) (k t:Nat),get ((l.zipIdx k).map fun p=>(p.2,p.1)) t=if k≤t then(l[t - k]?).getD .undef else .undef
 | [],k,t=>by simp [get]
 | x :: l,k,t=>by
  simp only[List.zipIdx_cons,List.map_cons,get]
  by_cases h:k=t
  ·subst h; simp
  ·rw [if_neg h,get_zip l (k+1) t]
   by_cases h1:k≤t
   ·rw [if_pos h1,if_pos (by omega),show t - k =(t - (k+1))+1 by omega]; simp
   ·rw [if_neg h1,if_neg (by omega)]
def resW(tmps:Array Value):List Nat→Value
 | [t]=>tmps.getD t Go.undef
 | ts=>.tuple (ts.map fun t=>tmps.getD t Go.undef).toArray
theorem res_run{fn:Func}{ts:List Nat}(hr:fn.results =(ts.map ResultVar.tmp).toArray)(tmps:Array Value):(results fn tmps).run P w=.ok (resW tmps ts) w:=by
 have hm:∀(g:ResultVar→Sem Value),(∀ t,g (.tmp t)=pure (tmps.getD t Go.undef))→∀ ts:List Nat,((ts.map ResultVar.tmp).mapM (m:=Sem) g).run P w=.ok (ts.map fun t=>tmps.getD t Go.undef) w:=by
  intro g hg ts
  induction ts with
  | nil=>rfl
  | cons t ts ih=>rw [List.map_cons,List.mapM_cons,hg]; simp only[Sem.run_bind,Sem.run_pure,Result.andThen_ok,ih,List.map_cons]
 unfold results
 rw [hr]
 simp only[List.mapM_toArray,Sem.run_bind,Sem.run_map]
 rw [hm _ (fun t=>rfl) ts]
 simp only[Result.andThen_ok,Sem.run_pure]
 cases ts with
 | nil=>rfl
 | cons t ts =>
  cases ts with
  | nil=>rfl
  | cons t' ts=>simp [resW]
end
end Go.Pv
namespace Go.Pv
variable [Lq]
section
variable {P:Program} {w:World} {γ:Gh} {H:Hp}
theorem zip_frame{xs:List AV}{args:Array Value}(hl:xs.length=args.size)(hs:∀(i:Nat) (x:AV) (v:Value),xs[i]?=some x→args[i]?=some v→Sim w γ x v)(m:Nat) :
  FrR w γ (xs.zipIdx.map fun p=>(p.2,p.1)) (args ++ Array.replicate m Go.undef):=by
 intro t
 rw [get_zip,if_pos (Nat.zero_le t),Nat.sub_zero]
 rcases Nat.lt_or_ge t xs.length with ht | ht
 ·rw [List.getElem?_eq_getElem ht,Option.getD_some]
  refine hs t _ _ (List.getElem?_eq_getElem ht) ?_
  rw [Array.getD_eq_getD_getElem?,Array.getElem?_append_left (by omega),Array.getElem?_eq_getElem (by omega)]; rfl
 ·rw [List.getElem?_eq_none ht]; exact .undef _
theorem ownL_len{R:List GE→AV→Value→Prop}{os:List GE}{xs:List AV}{vs:List Value}(h:OwnL R os xs vs):xs.length=vs.length:=by
 induction h with
 | nil=>rfl
 | cons _ _ ih=>simp [ih]
def EndsG(ts:List Nat)(r:AV)(H':Hp):AE→St→Prop
 | .exit _,_=>False
 | _,σ=>resX σ.fr ts=r∧σ.hp=H'
end
end Go.Pv
namespace Go.Pv
variable [Lq]
def Out1(P:Program)(base:Nat)(o:Op2)(fr:Fr)(hp:Hp)(v:AV)(hp':Hp):Prop :=
 match o.op with
 | .p q=>evP fr q=some v∧hp'=hp
 | .r q=>evR fr hp q=some v∧noLoad o.no fr hp q=true∧hp'=hp
 | .e q r=>evE base r fr hp q=some (v,hp')
 | .call f xs d=>Gen P f (xs.map (·.ev fr)) hp v hp' ∧(d=true→Grow o.no hp hp' ∧(o.fm=true→Framed P f (xs.map (·.ev fr)) hp v hp'))
 | .callv x xs=>match x.ev fr with
  | .fn f caps=>f < ifB∧Gen P (fnId f) (fnArgs f (xs.map (·.ev fr)) caps) hp v hp'∧hp.length≤hp'.length
  | _=>False
 | .calli m x xs=>match recvI P m hp (x.ev fr) with
  | some (f,y)=>Gen P f (y :: xs.map (·.ev fr)) hp v hp'∧hp.length≤hp'.length
  | none=>False
 | .bad=>False
def Out(P:Program)(base:Nat)(o:Op2)(fr:Fr)(hp:Hp)(v:AV)(hp':Hp):Prop :=
 match o.guard with
 | none=>Out1 P base o fr hp v hp'
 | some (t,want)=>match get fr t with
  | .bool b=>if b=want then Out1 P base o fr hp v hp' else v=.lit Go.undef∧hp'=hp
  | .lit u=>notBool u=true∧v=.lit Go.undef∧hp'=hp
  | _=>False
section
variable {P:Program} {base:Nat} {o x y:Op2} {fr fr':Fr} {hp hp':Hp} {v:AV}
theorem aw1_out{σ:St}{K:St→Prop}:aw1 P base o σ K↔∃ v hp',Out1 P base o σ.fr σ.hp v hp'∧K ⟨putO σ.fr o.dst v,hp'⟩:=by
 unfold aw1 Out1
 cases o.op with
 | p q =>
  dsimp only
  constructor
  ·intro h
   split at h
   ·rename_i x hx; exact⟨x,_,⟨hx,rfl⟩,h⟩
   ·exact h.elim
  ·rintro ⟨v,hp',⟨h1,rfl⟩,hK⟩
   rw [h1]; exact hK
 | r q =>
  dsimp only
  constructor
  ·intro h
   split at h
   ·rename_i x hx; exact⟨x,_,⟨hx,h.1,rfl⟩,h.2⟩
   ·exact h.elim
  ·rintro ⟨v,hp',⟨h1,h2,rfl⟩,hK⟩
   rw [h1]; exact⟨h2,hK⟩
 | e q r =>
  dsimp only
  constructor
  ·intro h
   split at h
   ·rename_i p hp; exact⟨p.1,p.2,hp,h⟩
   ·exact h.elim
  ·rintro ⟨v,hp',h1,hK⟩
   rw [h1]; exact hK
 | call f xs d =>
  dsimp only
  exact⟨fun⟨r,H',h1,h2,h3⟩=>⟨r,H',⟨h1,h2⟩,h3⟩,fun⟨r,H',⟨h1,h2⟩,h3⟩=>⟨r,H',h1,h2,h3⟩⟩
 | callv x xs =>
  dsimp only
  generalize x.ev σ.fr=X
  cases X <;> try exact⟨fun h=>h.elim,fun⟨_,_,h,_⟩=>h.elim⟩
  exact⟨fun⟨h0,r,H',h1,h2,h3⟩=>⟨r,H',⟨h0,h1,h2⟩,h3⟩,fun⟨r,H',⟨h0,h1,h2⟩,h3⟩=>⟨h0,r,H',h1,h2,h3⟩⟩
 | calli m x xs =>
  dsimp only
  generalize recvI P m σ.hp (x.ev σ.fr)=X
  cases X with
  | none=>exact⟨fun h=>h.elim,fun⟨_,_,h,_⟩=>h.elim⟩
  | some p=>exact⟨fun⟨r,H',h1,h2,h3⟩=>⟨r,H',⟨h1,h2⟩,h3⟩,fun⟨r,H',⟨h1,h2⟩,h3⟩=>⟨r,H',h1,h2,h3⟩⟩
 | bad=>exact⟨fun h=>h.elim,fun⟨_,_,h,_⟩=>h.elim⟩
theorem aw2_out{σ:St}{K:St→Prop}:aw2 P base o σ K↔∃ v hp',Out P base o σ.fr σ.hp v hp'∧K ⟨putO σ.fr o.dst v,hp'⟩:=by
 unfold aw2 Out
 cases o.guard with
 | none=>exact aw1_out
 | some p =>
  obtain ⟨t,want⟩:=p
  dsimp only
  generalize get σ.fr t=g
  cases g <;> try exact⟨fun h=>h.elim,fun⟨_,_,h,_⟩=>h.elim⟩
  ·rename_i b
   by_cases hbw:b=want
   ·simp only[if_pos hbw]; exact aw1_out
   ·simp only[if_neg hbw]
    exact⟨fun h=>⟨_,_,⟨rfl,rfl⟩,h⟩,fun⟨v,hp',⟨h1,h2⟩,h⟩=>by subst h1 h2; exact h⟩
  ·exact⟨fun h=>⟨_,_,⟨h.1,rfl,rfl⟩,h.2⟩,fun⟨v,hp',⟨h0,h1,h2⟩,h⟩=>by subst h1 h2; exact⟨h0,h⟩⟩
theorem ax_congr{x:AX}(h:∀ t∈x.uses,get fr t=get fr' t):x.ev fr=x.ev fr':=by
 cases x with
 | t n=>exact h n (by simp [AX.uses])
 | c v=>rfl
theorem axo_congr{x:Option AX}(h:∀ t∈usesO x,get fr t=get fr' t):x.map (·.ev fr)=x.map (·.ev fr'):=by
 cases x with
 | none=>rfl
 | some x=>simp only[Option.map_some]; rw [ax_congr h]
theorem axl_congr:∀ {xs:List AX},(∀ t∈usesL xs,get fr t=get fr' t)→xs.map (·.ev fr)=xs.map (·.ev fr')
 | [],_=>rfl
 | x :: xs,h=>by
  simp only[List.map_cons]
  rw [ax_congr fun t ht=>h t (by simp [usesL,ht]),axl_congr fun t ht=>h t (by simp only[usesL,List.flatMap_cons,List.mem_append]; exact .inr ht)]
theorem mem_l{a b:List Nat}(h:∀ t∈a ++ b,get fr t=get fr' t):(∀ t∈a,get fr t=get fr' t)∧∀ t∈b,get fr t=get fr' t :=
 ⟨fun t ht=>h t (List.mem_append_left _ ht),fun t ht=>h t (List.mem_append_right _ ht)⟩
theorem evP_congr{q:OpP}(h:∀ t∈q.uses,get fr t=get fr' t):evP fr q=evP fr' q:=by
 cases q with
 | pick c a b =>
  obtain ⟨h1,h2⟩:=mem_l h
  obtain ⟨h2,h3⟩:=mem_l h2
  simp only[evP,ax_congr h1,ax_congr h2,ax_congr h3]
 | slices x lo hi =>
  obtain ⟨h1,h2⟩:=mem_l h
  obtain ⟨h2,h3⟩:=mem_l h2
  simp only[evP,ax_congr h1,axo_congr h2,axo_congr h3]
 | slicev sz x lo hi mx =>
  obtain ⟨h1,hq⟩:=mem_l h
  obtain ⟨h2,hq⟩:=mem_l hq
  obtain ⟨h3,h4⟩:=mem_l hq
  clear hq h
  have e3:∀ m,(hi.bind fun h=>bound m (h.ev fr)) =(hi.bind fun h=>bound m (h.ev fr')):=by
   intro m
   cases hi with
   | none=>rfl
   | some x=>simp only[Option.bind_some]; rw [ax_congr h3]
  cases mx with
  | none=>simp only[evP,ax_congr h1,axo_congr h2,axo_congr h3]
  | some m=>simp only[evP,ax_congr h1,axo_congr h2,e3,ax_congr (x:=m) h4]
 | build z ps =>
  have e:(ps.map fun p=>(p.1,p.2.1,p.2.2.ev fr))=ps.map fun p=>(p.1,p.2.1,p.2.2.ev fr'):=by
   apply List.map_congr_left
   intro p hp
   rw [ax_congr fun t ht=>h t (by
    simp only[OpP.uses,usesL,List.mem_flatMap,List.mem_map]
    exact⟨p.2.2,⟨p,hp,rfl⟩,ht⟩)]
  simp only[evP,e]
 | mkfn f cs=>simp only[evP,axl_congr h]
 | lenc n=>rfl
 | mv x=>simp only[evP,ax_congr h]
 | un op x=>simp only[evP,ax_congr h]
 | convI k x=>simp only[evP,ax_congr h]
 | same x=>simp only[evP,ax_congr h]
 | faddr o x=>simp only[evP,ax_congr h]
 | field a b c x=>simp only[evP,ax_congr h]
 | ext x i=>simp only[evP,ax_congr h]
 | len x=>simp only[evP,ax_congr h]
 | lenS x=>simp only[evP,ax_congr h]
 | nilck x=>simp only[evP,ax_congr h]
 | isnil a x=>simp only[evP,ax_congr h]
 | isnilp a x=>simp only[evP,ax_congr h]
 | asI t z x=>simp only[evP,ax_congr h]
 | bin op x y=>obtain ⟨h1,h2⟩:=mem_l h; simp only[evP,ax_congr h1,ax_congr h2]
 | binB op x y=>obtain ⟨h1,h2⟩:=mem_l h; simp only[evP,ax_congr h1,ax_congr h2]
 | iaddr a x y=>obtain ⟨h1,h2⟩:=mem_l h; simp only[evP,ax_congr h1,ax_congr h2]
 | aaddr a b x y=>obtain ⟨h1,h2⟩:=mem_l h; simp only[evP,ax_congr h1,ax_congr h2]
 | idxs x y=>obtain ⟨h1,h2⟩:=mem_l h; simp only[evP,ax_congr h1,ax_congr h2]
 | idxa a b c x y=>obtain ⟨h1,h2⟩:=mem_l h; simp only[evP,ax_congr h1,ax_congr h2]
 | minmax a x y=>obtain ⟨h1,h2⟩:=mem_l h; simp only[evP,ax_congr h1,ax_congr h2]
 | idxb x y=>obtain ⟨h1,h2⟩:=mem_l h; simp only[evP,ax_congr h1,ax_congr h2]
 | eqS a b x y=>obtain ⟨h1,h2⟩:=mem_l h; simp only[evP,ax_congr h1,ax_congr h2]
theorem evR_congr{q:OpR}(h:∀ t∈q.uses,get fr t=get fr' t):evR fr hp q=evR fr' hp q∧∀ no,noLoad no fr hp q=noLoad no fr' hp q:=by
 cases q with
 | load n a x=>simp [evR,noLoad,ax_congr (x:=x) h]
 | b2s x=>simp [evR,noLoad,ax_congr (x:=x) h]
 | cut a x y z =>
  obtain ⟨h1,h2⟩:=mem_l (a:=x.uses) (b:=y.uses ++ z.uses) h
  obtain ⟨h3,h4⟩:=mem_l h2
  have e:=evP_congr (fr:=fr) (fr':=fr') (q:=.slicev a x (some y) (some z) none) (fun t ht=>h t (by simpa [OpP.uses,OpR.uses,usesO] using ht))
  simp only[evR,noLoad,e,ax_congr h1,ax_congr h3,ax_congr h4]
  exact⟨trivial,fun _=>trivial⟩
theorem evE_congr{q:OpE}{r:Option Nat}(h:∀ t∈q.uses,get fr t=get fr' t):evE base r fr hp q=evE base r fr' hp q:=by
 cases q with
 | alloc t z=>rfl
 | box t x=>simp only[evE,ax_congr (x:=x) h]
 | s2b t x=>simp only[evE,ax_congr (x:=x) h]
 | clear a z x=>simp only[evE,ax_congr (x:=x) h]
 | mark x=>simp only[evE,ax_congr (x:=x) h]
 | mks t sz z n ps =>
  have e:(ps.map fun p=>(p.1,p.2.ev fr))=ps.map fun p=>(p.1,p.2.ev fr'):=by
   apply List.map_congr_left
   intro p hp
   rw [ax_congr fun t ht=>h t (by
    simp only[OpE.uses,usesL,List.mem_flatMap,List.mem_map]
    exact⟨p.2,⟨p,hp,rfl⟩,ht⟩)]
  simp only[evE,e]
 | make t sz z x y=>obtain ⟨h1,h2⟩:=mem_l h; simp only[evE,ax_congr h1,ax_congr h2]
 | store n x y=>obtain ⟨h1,h2⟩:=mem_l h; simp only[evE,ax_congr h1,ax_congr h2]
 | append t sz lm x y=>obtain ⟨h1,h2⟩:=mem_l h; simp only[evE,ax_congr h1,ax_congr h2]
 | copy sz x y=>obtain ⟨h1,h2⟩:=mem_l h; simp only[evE,ax_congr h1,ax_congr h2]
theorem out1_congr(h:∀ t∈o.op.uses,get fr t=get fr' t)(ho:Out1 P base o fr hp v hp'):Out1 P base o fr' hp v hp':=by
 unfold Out1 at ho ⊢
 cases hop:o.op with
 | p q=>rw [hop] at ho h; dsimp only at ho ⊢; rw [← evP_congr h]; exact ho
 | r q=>rw [hop] at ho h; dsimp only at ho ⊢; rw [← (evR_congr h).1,← (evR_congr (hp:=hp) h).2]; exact ho
 | e q r=>rw [hop] at ho h; dsimp only at ho ⊢; rw [← evE_congr h]; exact ho
 | call f xs d=>rw [hop] at ho h; dsimp only at ho ⊢; rw [← axl_congr h]; exact ho
 | callv x xs =>
  rw [hop] at ho h; dsimp only at ho ⊢
  obtain ⟨h1,h2⟩:=mem_l h
  rw [← ax_congr h1,← axl_congr h2]; exact ho
 | calli m x xs =>
  rw [hop] at ho h; dsimp only at ho ⊢
  obtain ⟨h1,h2⟩:=mem_l h
  rw [← ax_congr h1,← axl_congr h2]; exact ho
 | bad=>rw [hop] at ho; exact ho
theorem out_congr(h:∀ t∈o.looks,get fr t=get fr' t)(ho:Out P base o fr hp v hp'):Out P base o fr' hp v hp':=by
 unfold Op2.looks at h
 obtain ⟨h1,h2⟩:=mem_l h
 unfold Out at ho ⊢
 cases hg:o.guard with
 | none=>rw [hg] at ho; exact out1_congr h1 ho
 | some p =>
  obtain ⟨t,want⟩:=p
  rw [hg] at ho h2
  dsimp only at ho ⊢
  rw [← h2 t (by simp)]
  split at ho
  ·split at ho
   ·rename_i hb; rw [if_pos hb]; exact out1_congr h1 ho
   ·rename_i hb; rw [if_neg hb]; exact ho
  ·exact ho
  ·exact ho
def Keep(hp h:Hp):Prop:=∀ id e,ent hp id=some e→∃ wr,ent h id=some { e with wr:=wr }
def KeepN(no:List TypeId)(hp h:Hp):Prop:=∀ id e,ent hp id=some e→no.contains e.ty=false→∃ wr,ent h id=some { e with wr:=wr }
theorem Keep.n{no:List TypeId}{hp h:Hp}(k:Keep hp h):KeepN no hp h:=fun id e he _=>k id e he
theorem Keep.refl(hp:Hp):Keep hp hp:=fun _ e he=>⟨e.wr,he⟩
theorem load_keep{no:List TypeId}{n:Nat}{a:Bool}{X:AX}{h:Hp}(hr:evR fr hp (.load n a X)=some v)(hn:noLoad no fr hp (.load n a X)=true)(k:KeepN no hp h) :
  evR fr h (.load n a X)=some v∧noLoad no fr h (.load n a X)=true:=by
 simp only[evR,noLoad] at hr hn ⊢
 generalize X.ev fr=XX at *
 cases XX <;> try (cases hr; done)
 ·dsimp only at hr hn ⊢
  obtain ⟨e,he,hr⟩:=Option.bind_eq_some_iff.1 hr
  rw [he] at hn
  simp only[Bool.not_eq_true'] at hn
  obtain ⟨wr,he'⟩:=k _ e he hn
  rw [he']
  refine⟨hr,?_⟩
  simp only[hn]; rfl
 ·exact⟨hr,rfl⟩
theorem cut_keep{no:List TypeId}{sz:Nat}{X Y Z:AX}{h:Hp}(hr:evR fr hp (.cut sz X Y Z)=some v)(k:Keep hp h):evR fr h (.cut sz X Y Z)=some v∧noLoad no fr h (.cut sz X Y Z)=true:=by
 refine⟨?_,rfl⟩
 simp only[evR] at hr ⊢
 split at hr
 ·exact hr
 ·generalize X.ev fr=XX at *
  cases XX <;> try (cases hr; done)
  dsimp only at hr ⊢
  obtain ⟨e,he,hr⟩:=Option.bind_eq_some_iff.1 hr
  obtain ⟨wr,hk⟩:=k _ e he
  rw [hk]
  exact hr
theorem b2s_keep{no:List TypeId}{X:AX}{h:Hp}(hr:evR fr hp (.b2s X)=some v)(k:Keep hp h):evR fr h (.b2s X)=some v∧noLoad no fr h (.b2s X)=true:=by
 refine⟨?_,rfl⟩
 simp only[evR] at hr ⊢
 generalize X.ev fr=XX at *
 cases XX <;> try (cases hr; done)
 ·exact hr
 ·dsimp only at hr ⊢
  split at hr
  ·rename_i hs
   rw [if_pos hs]
   obtain ⟨es,hes,hr⟩:=Option.bind_eq_some_iff.1 hr
   simp only[elems] at hes ⊢
   obtain ⟨e,he,hes⟩:=Option.bind_eq_some_iff.1 hes
   obtain ⟨wr,he'⟩:=k _ e he
   rw [he']
   simp only[Option.bind_some]
   rw [hes]; exact hr
  ·cases hr
theorem cls3_form{q:OpE}{j:Nat}{hp':Hp}(hc:cls (.e q (some j))=3)(h:evE base (some j) fr hp q=some (v,hp')) :
  ∃ e,e.wr=true∧base+j < hp.length∧ent hp (base+j)=none∧hp'=hp.set (base+j) (some e)∧∀ h,base+j < h.length→ent h (base+j)=none→evE base (some j) fr h q=some (v,h.set (base+j) (some e)):=by
 have row:∀(sz:Nat) (ty:TypeId) (es:List AV),newVec base (some j) hp sz ty es=some (v,hp')→∃ e,e.wr=true∧base+j < hp.length∧ent hp (base+j)=none∧hp'=hp.set (base+j) (some e)∧∀ h,base+j < h.length→ent h (base+j)=none→newVec base (some j) h sz ty es=some (v,h.set (base+j) (some e)):=by
  intro sz ty es h
  unfold newVec new at h
  dsimp only at h
  split at h
  ·rename_i hc
   simp only[Option.map_some,Option.some.injEq,Prod.mk.injEq] at h
   obtain ⟨rfl,rfl⟩:=h
   refine⟨_,rfl,hc.1,by simpa using hc.2,rfl,fun h h1 h2=>?_⟩
   unfold newVec new
   dsimp only
   rw [if_pos ⟨h1,by rw [h2]; rfl⟩]; rfl
  ·cases h
 have var:∀(ty:TypeId) (x:AV),newVar base (some j) hp ty x=some (v,hp')→∃ e,e.wr=true∧base+j < hp.length∧ent hp (base+j)=none∧hp'=hp.set (base+j) (some e)∧∀ h,base+j < h.length→ent h (base+j)=none→newVar base (some j) h ty x=some (v,h.set (base+j) (some e)):=by
  intro ty x h
  unfold newVar new at h
  dsimp only at h
  split at h
  ·rename_i hc
   simp only[Option.map_some,Option.some.injEq,Prod.mk.injEq] at h
   obtain ⟨rfl,rfl⟩:=h
   refine⟨_,rfl,hc.1,by simpa using hc.2,rfl,fun h h1 h2=>?_⟩
   unfold newVar new
   dsimp only
   rw [if_pos ⟨h1,by rw [h2]; rfl⟩]; rfl
  ·cases h
 cases q <;> try (cases hc; done)
 ·exact var _ _ h
 ·simp only[evE] at h ⊢
  split at h
  ·rename_i ho
   simp only[if_pos ho]
   exact var _ _ h
  ·cases h
 ·simp only[evE] at h ⊢
  obtain ⟨es,hes,h⟩:=Option.bind_eq_some_iff.1 h
  simp only[hes,Option.bind_some]
  exact row _ _ _ h
 ·simp only[evE] at h ⊢
  obtain ⟨c,hc,h⟩:=Option.bind_eq_some_iff.1 h
  obtain ⟨n,hn,h⟩:=Option.bind_eq_some_iff.1 h
  simp only[hc,hn,Option.bind_some]
  exact row _ _ _ h
 ·rename_i t X
  simp only[evE] at h ⊢
  generalize X.ev fr=XX at *
  cases XX <;> try (cases h; done)
  dsimp only at h ⊢
  split at h
  ·rename_i ho
   simp only[if_pos ho]
   exact row _ _ _ h
  ·cases h
theorem set_none_keep{k:Nat}{e:Ent}(h0:ent hp k=none):Keep hp (hp.set k (some e)):=by
 intro id e' he
 refine⟨e'.wr,?_⟩
 have:id≠k:=by rintro rfl; rw [h0] at he; cases he
 unfold ent at *
 rw [List.getElem?_set_ne (fun h=>this h.symm)]; exact he
theorem elems_set{k:Nat}{e:Ent}{Y:AV}{es:List AV}(h0:ent hp k=none)(h:elems hp Y=some es):elems (hp.set k (some e)) Y=some es:=by
 cases Y <;> try exact h
 simp only[elems] at h ⊢
 obtain ⟨e',he,h⟩:=Option.bind_eq_some_iff.1 h
 obtain ⟨wr,he'⟩:=set_none_keep (e:=e) h0 _ e' he
 rw [he']; exact h
theorem ent_set_ne{k id:Nat}{e:Option Ent}(h:id≠k):ent (hp.set k e) id=ent hp id:=by
 unfold ent
 rw [List.getElem?_set_ne (fun h'=>h h'.symm)]
theorem append_set{t:TypeId}{sz lm:Nat}{X Y:AX}{i k:Nat}{e:Ent}{h1:Hp}(h:evE base (some i) fr hp (.append t sz lm X Y)=some (v,h1))(hk:ent h1 k=none)(hik:k≠base+i) :
  ent hp k=none∧h1.length=hp.length∧evE base (some i) fr (hp.set k (some e)) (.append t sz lm X Y)=some (v,h1.set k (some e)):=by
 have row:∀(hq:Hp) (es:List AV),newVec base (some i) hq sz t es=some (v,h1)→ent hq k=none∧h1.length=hq.length∧newVec base (some i) (hq.set k (some e)) sz t es=some (v,h1.set k (some e)):=by
  intro hq es h
  unfold newVec new at h ⊢
  dsimp only at h ⊢
  split at h
  ·rename_i hc
   simp only[Option.map_some,Option.some.injEq,Prod.mk.injEq] at h
   obtain ⟨rfl,rfl⟩:=h
   rw [ent_set_ne hik] at hk
   refine⟨hk,by simp,?_⟩
   rw [if_pos ⟨by simpa using hc.1,by rw [ent_set_ne (fun h=>hik h.symm)]; exact hc.2⟩]
   simp only[Option.map_some,Option.some.injEq,Prod.mk.injEq,true_and]
   exact List.set_comm _ _ (fun h=>hik h)
  ·cases h
 simp only[evE] at h ⊢
 split at h
 case isFalse=>cases h
 rename_i hs
 simp only[if_pos hs]
 obtain ⟨ys,hys,h⟩:=Option.bind_eq_some_iff.1 h
 generalize hXX:X.ev fr=XX at h ⊢
 have fin:∀(hq:Hp) (es:List AV),ent hp k=none →(∀ j,j≠k→True)→newVec base (some i) hq sz t es=some (v,h1)→True:=fun _ _ _ _ _=>trivial
 cases XX <;> try (cases h; done)
 ·rename_i sz' es full
  cases es with
  | nil =>
   cases full with
   | false=>cases h
   | true =>
    dsimp only at h ⊢
    split at h
    ·rename_i hl
     obtain ⟨r1,r2,r3⟩:=row _ _ h
     refine⟨r1,r2,?_⟩
     rw [elems_set r1 hys]
     simp only[Option.bind_some,if_pos hl]
     exact r3
    ·cases h
  | cons a es =>
   cases full with
   | false=>cases h
   | true =>
    dsimp only at h ⊢
    split at h
    ·rename_i hl
     obtain ⟨r1,r2,r3⟩:=row _ _ h
     refine⟨r1,r2,?_⟩
     rw [elems_set r1 hys]
     simp only[Option.bind_some,if_pos hl]
     exact r3
    ·rename_i hl
     split at h
     ·rename_i hl2
      simp only[Option.some.injEq,Prod.mk.injEq] at h
      obtain ⟨rfl,rfl⟩:=h
      refine⟨hk,rfl,?_⟩
      rw [elems_set hk hys]
      simp only[Option.bind_some,if_neg hl,if_pos hl2]
     ·cases h
 ·rename_i id sz' off len
  dsimp only at h ⊢
  obtain ⟨en,he,h⟩:=Option.bind_eq_some_iff.1 h
  split at h
  ·rename_i hl
   obtain ⟨r1,r2,r3⟩:=row _ _ h
   have hid:id≠k:=by
    rintro rfl
    rw [ent_set he,if_pos rfl] at r1; cases r1
   rw [ent_set_ne (fun h=>hid h.symm)] at r1
   refine⟨r1,by simpa using r2,?_⟩
   rw [elems_set r1 hys]
   simp only[Option.bind_some]
   rw [ent_set_ne hid,he]
   simp only[Option.bind_some,if_pos hl]
   rw [List.set_comm _ _ (fun h=>hid h.symm)]
   exact r3
  ·rename_i hl
   split at h
   ·rename_i hl2
    simp only[Option.some.injEq,Prod.mk.injEq] at h
    obtain ⟨rfl,rfl⟩:=h
    have hid:id≠k:=by
     rintro rfl
     rw [ent_set he,if_pos rfl] at hk; cases hk
    rw [ent_set_ne (fun h=>hid h.symm)] at hk
    refine⟨hk,by simp,?_⟩
    rw [elems_set hk hys]
    simp only[Option.bind_some]
    rw [ent_set_ne hid,he]
    simp only[Option.bind_some,if_neg hl,if_pos hl2]
    rw [List.set_comm _ _ (fun h=>hid h.symm)]
   ·cases h
def Gh.drop(γ:Gh)(k:Nat):Gh:=⟨fun i=>if i=k then none else γ.m i,γ.imm⟩
theorem append_keep{t:TypeId}{sz lm:Nat}{X Y:AX}{i:Nat}{h1:Hp}{no:List TypeId}(h:evE base (some i) fr hp (.append t sz lm X Y)=some (v,h1))(hn:no.contains t=true):KeepN no hp h1:=by
 have row:∀(hq:Hp) (es:List AV),newVec base (some i) hq sz t es=some (v,h1)→Keep hq h1:=by
  intro hq es h
  unfold newVec new at h
  dsimp only at h
  split at h
  ·rename_i hc
   simp only[Option.map_some,Option.some.injEq,Prod.mk.injEq] at h
   obtain ⟨rfl,rfl⟩:=h
   exact set_none_keep (by simpa using hc.2)
  ·cases h
 simp only[evE] at h
 split at h
 case isFalse=>cases h
 obtain ⟨ys,hys,h⟩:=Option.bind_eq_some_iff.1 h
 generalize X.ev fr=XX at h
 cases XX <;> try (cases h; done)
 ·rename_i sz' es full
  cases es with
  | nil =>
   cases full with
   | false=>cases h
   | true =>
    dsimp only at h
    split at h
    ·exact(row _ _ h).n
    ·cases h
  | cons a es =>
   cases full with
   | false=>cases h
   | true =>
    dsimp only at h
    split at h
    ·exact(row _ _ h).n
    ·split at h
     ·simp only[Option.some.injEq,Prod.mk.injEq] at h
      obtain ⟨rfl,rfl⟩:=h
      intro id' e' he' _
      exact⟨e'.wr,he'⟩
     ·cases h
 ·rename_i id sz' off len
  dsimp only at h
  obtain ⟨en,he,h⟩:=Option.bind_eq_some_iff.1 h
  split at h
  ·rename_i hl
   intro id' e' he' hty
   have hid:id'≠id:=by
    rintro rfl
    rw [he] at he'; cases he'
    rw [← hl.2.2.1,hn] at hty; cases hty
   exact row _ _ h id' e' (by rw [ent_set_ne hid]; exact he')
  ·split at h
   ·rename_i hl2
    simp only[Option.some.injEq,Prod.mk.injEq] at h
    obtain ⟨rfl,rfl⟩:=h
    intro id' e' he' hty
    have hid:id'≠id:=by
     rintro rfl
     rw [he] at he'; cases he'
     rw [← hl2.2.2.1,hn] at hty; cases hty
    exact⟨e'.wr,by rw [ent_set_ne hid]; exact he'⟩
   ·cases h
structure Good(o:Op2)(i:Nat):Prop where
 e:∀ q r,o.op=.e q r→r=some i
 c:∀ f xs d,o.op=.call f xs d→d=true
theorem out_cases{h1:Hp}(h:Out P base o fr hp v h1):((∀ h,Out P base o fr h v h)∧h1=hp) ∨(Out1 P base o fr hp v h1∧∀ h v h',Out1 P base o fr h v h'→Out P base o fr h v h'):=by
 unfold Out at h ⊢
 cases hg:o.guard with
 | none=>rw [hg] at h; exact .inr ⟨h,fun _ _ _ h=>h⟩
 | some p =>
  obtain ⟨t,want⟩:=p
  rw [hg] at h
  dsimp only at h ⊢
  generalize get fr t=g at h ⊢
  cases g <;> try exact h.elim
  ·rename_i b
   dsimp only at h ⊢
   by_cases hb:b=want
   ·rw [if_pos hb] at h
    refine .inr ⟨h,fun _ _ _ h=>?_⟩
    rw [if_pos hb]; exact h
   ·rw [if_neg hb] at h
    obtain ⟨rfl,rfl⟩:=h
    refine .inl ⟨fun h=>?_,rfl⟩
    rw [if_neg hb]; exact⟨rfl,rfl⟩
  ·dsimp only at h ⊢
   obtain ⟨h0,rfl,rfl⟩:=h
   exact .inl ⟨fun h=>⟨h0,rfl,rfl⟩,rfl⟩
theorem swap_heap{h1 h2:Hp}{vx vy:AV}{i j:Nat}(hx:Out P base x fr hp vx h1)(hy:Out P base y fr h1 vy h2)(gx:Good x i)(gy:Good y j)(hij:i≠j)(hlen:cls y.op=3→base+j < hp.length)
  (hs:swapC (cls x.op) (cls y.op)=true) (hf:cls x.op=5→cls y.op=3→x.fm=true) (hn:∀ t,appTy y.op=some t→cls x.op=1→x.no.contains t=true) (hc1:cls x.op=1→∀ t∈callTy y,x.no.contains t=true) (hc2:cls x.op=2→callTy y=[]):∃ h1',Out P base y fr hp vy h1'∧Out P base x fr h1' vx h2:=by
 rcases out_cases hx with ⟨q1,rfl⟩ | ⟨ox,lx⟩
 ·exact⟨h2,hy,q1 h2⟩
 rcases out_cases hy with ⟨q2,rfl⟩ | ⟨oy,ly⟩
 ·exact⟨hp,q2 hp,hx⟩
 have pureX:∀ q,x.op=.p q→∃ h1',Out P base y fr hp vy h1'∧Out P base x fr h1' vx h2:=by
  intro q hq
  unfold Out1 at ox
  rw [hq] at ox
  obtain ⟨e1,rfl⟩:=ox
  exact⟨h2,hy,lx _ _ _ (by unfold Out1; rw [hq]; exact⟨e1,rfl⟩)⟩
 have pureY:∀ q,y.op=.p q→∃ h1',Out P base y fr hp vy h1'∧Out P base x fr h1' vx h2:=by
  intro q hq
  unfold Out1 at oy
  rw [hq] at oy
  obtain ⟨e1,rfl⟩:=oy
  exact⟨hp,ly _ _ _ (by unfold Out1; rw [hq]; exact⟨e1,rfl⟩),hx⟩
 have rowY:∀ q,y.op=.e q (some j)→cls y.op=3→∃ e,e.wr=true∧ent h1 (base+j)=none∧h2=h1.set (base+j) (some e)∧∀ h,base+j < h.length→ent h (base+j)=none→Out P base y fr h vy (h.set (base+j) (some e)):=by
  intro q hq hc
  have oy':=oy
  unfold Out1 at oy'
  rw [hq] at oy' hc
  obtain ⟨e,w1,w2,w3,w4,w5⟩:=cls3_form hc oy'
  exact⟨e,w1,w3,w4,fun h l1 l2=>ly _ _ _ (by unfold Out1; rw [hq]; exact w5 h l1 l2)⟩
 cases hxo:x.op with
 | p q=>exact pureX q hxo
 | bad=>unfold Out1 at ox; rw [hxo] at ox; exact ox.elim
 | callv X xs =>
  cases hyo:y.op with
  | p q=>exact pureY q hyo
  | r q=>rw [hxo,hyo] at hs; cases q <;> cases hs
  | e q r =>
   have:=gy.e q r hyo; subst this
   rw [hxo,hyo] at hs; cases q <;> cases hs
  | call f xs d=>have:=gy.c f xs d hyo; subst this; rw [hxo,hyo] at hs; cases hs
  | callv X xs=>rw [hxo,hyo] at hs; cases hs
  | calli m X xs=>rw [hxo,hyo] at hs; cases hs
  | bad=>unfold Out1 at oy; rw [hyo] at oy; exact oy.elim
 | calli m X xs =>
  cases hyo:y.op with
  | p q=>exact pureY q hyo
  | r q=>rw [hxo,hyo] at hs; cases q <;> cases hs
  | e q r =>
   have:=gy.e q r hyo; subst this
   rw [hxo,hyo] at hs; cases q <;> cases hs
  | call f xs d=>have:=gy.c f xs d hyo; subst this; rw [hxo,hyo] at hs; cases hs
  | callv X xs=>rw [hxo,hyo] at hs; cases hs
  | calli m' X xs=>rw [hxo,hyo] at hs; cases hs
  | bad=>unfold Out1 at oy; rw [hyo] at oy; exact oy.elim
 | r q =>
  have ox':=ox
  unfold Out1 at ox'
  rw [hxo] at ox'
  obtain ⟨e1,e2,rfl⟩:=ox'
  have stay:Keep h1 h2→Out P base x fr h2 vx h2:=fun k=>lx _ _ _ (by
   unfold Out1; rw [hxo]
   cases q with
   | load n a X=>obtain ⟨a1,a2⟩:=load_keep e1 e2 k.n; exact⟨a1,a2,rfl⟩
   | b2s X=>obtain ⟨a1,a2⟩:=b2s_keep (no:=x.no) e1 k; exact⟨a1,a2,rfl⟩
   | cut s X Y Z=>obtain ⟨a1,a2⟩:=cut_keep (no:=x.no) e1 k; exact⟨a1,a2,rfl⟩)
  cases hyo:y.op with
  | p q=>exact pureY q hyo
  | bad=>unfold Out1 at oy; rw [hyo] at oy; exact oy.elim
  | callv X xs=>rw [hxo,hyo] at hs; cases q <;> cases hs
  | calli m X xs=>rw [hxo,hyo] at hs; cases q <;> cases hs
  | r q' =>
   unfold Out1 at oy
   rw [hyo] at oy
   obtain ⟨f1,f2,rfl⟩:=oy
   exact⟨_,hy,hx⟩
  | call f xs d =>
   have:=gy.c f xs d hyo; subst this
   unfold Out1 at oy
   rw [hyo] at oy
   have hg:=(oy.2 rfl).1
   have hct:callTy y=y.no:=by unfold callTy; rw [hyo]; rfl
   rw [hct] at hc1 hc2
   refine⟨h2,hy,lx _ _ _ ?_⟩
   unfold Out1; rw [hxo]
   cases q with
   | load n a X =>
    have hc:=hc1 (by rw [hxo]; rfl)
    obtain ⟨a1,a2⟩:=load_keep (h:=h2) e1 e2 fun id e he hne=>hg.some id e he (by
     cases hx:y.no.contains e.ty with
     | false=>rfl
     | true=>exact absurd (hc _ (List.contains_iff_mem.1 hx)) (by rw [hne]; decide))
    exact⟨a1,a2,rfl⟩
   | b2s X =>
    have hc:=hc2 (by rw [hxo]; rfl)
    obtain ⟨a1,a2⟩:=b2s_keep (no:=x.no) (h:=h2) e1 fun id e he=>hg.some id e he (by rw [hc]; rfl)
    exact⟨a1,a2,rfl⟩
   | cut _ _ _ _=>rw [hxo,hyo] at hs; cases hs
  | e q' r =>
   have:=gy.e q' r hyo; subst this
   by_cases h3:cls y.op=3
   ·obtain ⟨e,w1,w2,rfl,w4⟩:=rowY q' hyo h3
    exact⟨_,hy,stay (set_none_keep w2)⟩
   ·rw [hyo] at h3
    cases q' <;> try (rw [hxo,hyo] at hs; cases q <;> cases hs; done)
    all_goals try exact absurd rfl h3
    rename_i t sz lm X Y
    cases q with
    | b2s _=>rw [hxo,hyo] at hs; cases hs
    | cut _ _ _ _=>rw [hxo,hyo] at hs; cases hs
    | load n a Z =>
     have hc:=hn t (by rw [hyo]; rfl) (by rw [hxo]; rfl)
     unfold Out1 at oy
     rw [hyo] at oy
     obtain ⟨a1,a2⟩:=load_keep e1 e2 (append_keep oy hc)
     exact⟨h2,hy,lx _ _ _ (by unfold Out1; rw [hxo]; exact⟨a1,a2,rfl⟩)⟩
 | e q r =>
  have:=gx.e q r hxo; subst this
  cases hyo:y.op with
  | p q=>exact pureY q hyo
  | bad=>unfold Out1 at oy; rw [hyo] at oy; exact oy.elim
  | callv X xs=>rw [hxo,hyo] at hs; cases q <;> cases hs
  | calli m X xs=>rw [hxo,hyo] at hs; cases q <;> cases hs
  | r q'=>rw [hxo,hyo] at hs; cases q <;> cases q' <;> cases hs
  | call f xs d=>have:=gy.c f xs d hyo; subst this; rw [hxo,hyo] at hs; cases q <;> cases hs
  | e q' r =>
   have:=gy.e q' r hyo; subst this
   have h3:cls y.op=3:=by
    rw [hxo,hyo] at hs
    rw [hyo]
    cases q <;> cases q' <;> first | rfl | cases hs
   obtain ⟨e,w1,w2,rfl,w4⟩:=rowY q' hyo h3
   have hlt:=hlen h3
   have ox':=ox
   unfold Out1 at ox'
   rw [hxo] at ox'
   by_cases hx3:cls x.op=3
   ·rw [hxo] at hx3
    obtain ⟨ex,u1,u2,u3,rfl,u5⟩:=cls3_form hx3 ox'
    rw [ent_set_ne (by omega)] at w2
    refine⟨_,w4 hp hlt w2,lx _ _ _ ?_⟩
    unfold Out1; rw [hxo]
    rw [List.set_comm _ _ (by omega)]
    exact u5 _ (by simpa using u2) (by rw [ent_set_ne (by omega)]; exact u3)
   ·rw [hxo] at hx3
    cases q <;> try (exact absurd rfl hx3)
    all_goals try (rw [hxo,hyo] at hs; cases q' <;> cases hs; done)
    obtain ⟨a1,a2,a3⟩:=append_set (e:=e) ox' w2 (by omega)
    exact⟨_,w4 hp hlt a1,lx _ _ _ (by unfold Out1; rw [hxo]; exact a3)⟩
 | call f xs d =>
  have:=gx.c f xs d hxo; subst this
  cases hyo:y.op with
  | p q=>exact pureY q hyo
  | bad=>unfold Out1 at oy; rw [hyo] at oy; exact oy.elim
  | callv X xs=>rw [hxo,hyo] at hs; cases hs
  | calli m X xs=>rw [hxo,hyo] at hs; cases hs
  | r q'=>rw [hxo,hyo] at hs; cases q' <;> cases hs
  | call f xs d=>have:=gy.c f xs d hyo; subst this; rw [hxo,hyo] at hs; cases hs
  | e q' r =>
   have:=gy.e q' r hyo; subst this
   have h3:cls y.op=3:=by
    rw [hxo,hyo] at hs
    rw [hyo]
    cases q' <;> first | rfl | cases hs
   obtain ⟨e,w1,w2,rfl,w4⟩:=rowY q' hyo h3
   have hlt:=hlen h3
   have ox':=ox
   unfold Out1 at ox'
   rw [hxo] at ox'
   obtain ⟨hg,hd⟩:=ox'
   obtain ⟨hgr,hfm⟩:=hd rfl
   have hF:=hfm (hf (by rw [hxo]; rfl) h3)
   have h0:ent hp (base+j)=none:=by
    cases hh:ent hp (base+j) with
    | none=>rfl
    | some e'=>obtain ⟨e2,h'⟩:=hgr.still _ _ hh; rw [h'] at w2; cases w2
   refine⟨_,w4 hp hlt h0,lx _ _ _ ?_⟩
   unfold Out1; rw [hxo]
   have hlt1:base+j < h1.length:=Nat.lt_of_lt_of_le hlt hgr.len
   have e1:∀ k,ent (hp.set (base+j) (some e)) k=if k=base+j then some e else ent hp k:=fun k=>by
    by_cases hk:k=base+j
    ·subst hk; unfold ent; simp [hlt]
    ·rw [if_neg hk,ent_set_ne hk]
   have e2:∀ k,ent (h1.set (base+j) (some e)) k=if k=base+j then some e else ent h1 k:=fun k=>by
    by_cases hk:k=base+j
    ·subst hk; unfold ent; simp [hlt1]
    ·rw [if_neg hk,ent_set_ne hk]
   refine⟨hF [(base+j,e)] (fun p hp=>by simp at hp; subst hp; exact⟨h0,hlt,w1⟩),fun _=>⟨⟨by simpa using hgr.len,fun id en hid=>?_,fun id en hid hno=>?_,fun id hl hid=>?_⟩,fun _ L hL=>?_⟩⟩
   ·rw [e1] at hid; rw [e2]
    split at hid
    ·rename_i hk; rw [if_pos hk]; exact⟨e,rfl⟩
    ·rename_i hk; rw [if_neg hk]; exact hgr.still id en hid
   ·rw [e1] at hid; rw [e2]
    split at hid
    ·rename_i hk; rw [if_pos hk]; cases hid; exact⟨e.wr,rfl⟩
    ·rename_i hk; rw [if_neg hk]; exact hgr.some id en hid hno
   ·rw [e1] at hid; rw [e2]
    split at hid
    ·cases hid
    ·rename_i hk; rw [if_neg hk]; exact hgr.none id (by simpa using hl) hid
   ·refine hF ((base+j,e) :: L) fun p hp=>?_
    rcases List.mem_cons.1 hp with rfl | hp
    ·exact⟨h0,hlt,w1⟩
    ·obtain ⟨l1,l2,l3⟩:=hL p hp
     rw [e1] at l1
     split at l1
     ·cases l1
     ·exact⟨l1,by simpa using l2,l3⟩
theorem ldAt_inv{t:Nat}(h:ldAt x=some t):∃ n a,x.guard=none∧x.op=.r (.load n a (.t t)):=by
 unfold ldAt at h
 split at h
 ·cases h; rename_i h1 h2; exact⟨_,_,h1,h2⟩
 ·cases h
theorem stAt_inv{s:Nat}(h:stAt y=some s):∃ n v r,y.guard=none∧y.op=.e (.store n (.t s) v) r:=by
 unfold stAt at h
 split at h
 ·cases h; rename_i h1 h2; exact⟨_,_,_,h1,h2⟩
 ·cases h
theorem swap_lr{h1 h2:Hp}{vx vy:AV}{t:Nat}(hx:Out P base x fr hp vx h1)(hy:Out P base y fr h1 vy h2)(lx:ldAt x=some t)(ha:apB [(t,t)] fr=true) :
  ∃ h1',Out P base y fr hp vy h1'∧Out P base x fr h1' vx h2:=by
 obtain ⟨n,a,gx,ox⟩:=ldAt_inv lx
 unfold Out at hx
 rw [gx] at hx
 unfold Out1 at hx
 rw [ox] at hx
 obtain ⟨e1,e2,rfl⟩:=hx
 refine⟨h2,hy,?_⟩
 unfold Out
 rw [gx]
 unfold Out1
 rw [ox]
 simp only[apB,List.all_cons,List.all_nil,Bool.and_true] at ha
 simp only[evR,noLoad,AX.ev] at e1 e2 ⊢
 generalize get fr t=T at ha e1 e2
 cases T <;> try (cases ha; done)
 ·simp at ha
 ·exact⟨e1,rfl,trivial⟩
theorem swap_ls{h1 h2:Hp}{vx vy:AV}{t s:Nat}(hx:Out P base x fr hp vx h1)(hy:Out P base y fr h1 vy h2)(lx:ldAt x=some t)(ly:stAt y=some s)(ha:apB [(t,s)] fr=true) :
  ∃ h1',Out P base y fr hp vy h1'∧Out P base x fr h1' vx h2:=by
 obtain ⟨n,a,gx,ox⟩:=ldAt_inv lx
 obtain ⟨m,u,r,gy,oy⟩:=stAt_inv ly
 unfold Out at hx
 rw [gx] at hx
 unfold Out1 at hx
 rw [ox] at hx
 obtain ⟨e1,e2,rfl⟩:=hx
 refine⟨h2,hy,?_⟩
 unfold Out at hy ⊢
 rw [gy] at hy
 rw [gx]
 unfold Out1 at hy ⊢
 rw [oy] at hy
 rw [ox]
 simp only[evE,AX.ev] at hy
 simp only[apB,List.all_cons,List.all_nil,Bool.and_true] at ha
 generalize get fr s=S at ha hy
 cases S <;> try (cases hy; done)
 rename_i id i off
 dsimp only at hy
 obtain ⟨e,he,hy⟩:=Option.bind_eq_some_iff.1 hy
 split at hy
 case isFalse=>cases hy
 obtain ⟨z,hz,hy⟩:=Option.bind_eq_some_iff.1 hy
 obtain ⟨z',hz',hy⟩:=Option.map_eq_some_iff.1 hy
 simp only[Prod.mk.injEq] at hy
 obtain ⟨rfl,rfl⟩:=hy
 simp only[evR,noLoad,AX.ev] at e1 e2 ⊢
 generalize get fr t=T at ha e1 e2
 cases T <;> try (cases e1; done)
 ·rename_i id' i' off'
  dsimp only at ha e1 e2 ⊢
  have hne:id'≠id:=by simpa using ha
  rw [ent_set_ne hne]
  exact⟨e1,e2,trivial⟩
 ·exact⟨e1,rfl,trivial⟩
end
end Go.Pv
