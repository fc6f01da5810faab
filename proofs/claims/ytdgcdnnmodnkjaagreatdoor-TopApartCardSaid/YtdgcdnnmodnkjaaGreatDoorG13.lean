/- Part 13 of a proof that a step of one domain changes nothing of another: the machine of plain values, and what the program's functions do. -/
import Derived.Test.YtdgcdnnmodnkjaaGreatDoorG12
set_option linter.all false
set_option linter.unusedVariables false
set_option linter.unusedSectionVars false
set_option linter.unusedSimpArgs false
set_option linter.defProp false
namespace Go.Pv
variable [Lq]
theorem bare_live(n:Nat)(gc:Bool)(fz:List Nat):∀(c:AC) (out:Nat) (ex:List (Nat × Nat)) (rt:Nat),bareC (live n gc fz c out ex rt)=bareC c:=by
 intro c
 induction c with
 | seq a b iha ihb=>intro out ex rt; simp only[live,bareC,iha,ihb]
 | cond c x y ihx ihy=>intro out ex rt; simp only[live,bareC,ihx,ihy]
 | block id b ih=>intro out ex rt; simp only[live,bareC,ih]
 | loop tr b ih=>intro out ex rt; simp only[live,bareC,ih]
 | scope b ih=>intro out ex rt; simp only[live,bareC,ih]
 | _=>intro out ex rt; rfl
theorem bare_comp(P:Program):∀ c:Code,bareC (comp P c)=comp P c:=by
 intro c
 induction c with
 | region id ops d =>
  cases d with
  | false=>rfl
  | true=>simp only[comp]; split <;>(try rfl); split <;> rfl
 | seq a b iha ihb=>simp only[comp,bareC,iha,ihb]
 | cond c x y ihx ihy=>simp only[comp,bareC,ihx,ihy]
 | block id b ih=>simp only[comp,bareC,ih]
 | loop b ih=>simp only[comp,bareC,ih]
 | scope b ih=>simp only[comp,bareC,ih]
 | _=>rfl
theorem bare_code(P:Program)(gc:Bool)(fz:List Nat)(fn:Func)(c:Code):bareC (codeOf P gc fz fn c)=comp P c:=by
 unfold codeOf; rw [bare_live,bare_comp]
theorem eqV_eq{u v:Value}(h:eqV u v=true):u=v:=by
 unfold eqV at h; split at h <;> first | rfl | cases h
mutual
theorem eqA_eq:∀(x y:AV),eqA x y=true→x=y
 | .bool a,y,h=>by
  cases y <;> try (cases h; done)
  simp only[eqA,beq_iff_eq] at h; rw [h]
 | .int k a,y,h=>by
  cases y <;> try (cases h; done)
  simp only[eqA,Bool.and_eq_true,decide_eq_true_eq] at h; rw [h.1,h.2]
 | .str a,y,h=>by
  cases y <;> try (cases h; done)
  simp only[eqA,beq_iff_eq] at h; rw [h]
 | .sl a xs f,y,h=>by
  cases y <;> try (cases h; done)
  simp only[eqA,Bool.and_eq_true,beq_iff_eq,Nat.beq_eq] at h
  rw [h.1,h.2.1,eqL_eq xs _ h.2.2]
 | .vec a b c d,y,h=>by
  cases y <;> try (cases h; done)
  simp only[eqA,Bool.and_eq_true,Nat.beq_eq] at h
  rw [h.1,h.2.1,h.2.2.1,h.2.2.2]
 | .eptr a b c,y,h=>by
  cases y <;> try (cases h; done)
  simp only[eqA,Bool.and_eq_true,Nat.beq_eq] at h
  rw [h.1,h.2.1,h.2.2]
 | .rptr x a,y,h=>by
  cases y <;> try (cases h; done)
  simp only[eqA,Bool.and_eq_true,Nat.beq_eq] at h
  rw [h.1,eqA_eq x _ h.2]
 | .fn f xs,y,h=>by
  cases y <;> try (cases h; done)
  simp only[eqA,Bool.and_eq_true,Nat.beq_eq] at h
  rw [h.1,eqL_eq xs _ h.2]
 | .agg xs,y,h=>by
  cases y <;> try (cases h; done)
  simp only[eqA] at h
  rw [eqL_eq xs _ h]
 | .tup xs,y,h=>by
  cases y <;> try (cases h; done)
  simp only[eqA] at h
  rw [eqL_eq xs _ h]
 | .lit u,y,h=>by
  cases y <;> try (cases h; done)
  simp only[eqA] at h
  rw [eqV_eq h]
 | .undef,y,h=>by cases y <;> cases h
 | .anyb,y,h=>by cases y <;> cases h
 | .own a b c,y,h=>by cases y <;> cases h
termination_by structural x=>x
theorem eqL_eq:∀(x y:List AV),eqL x y=true→x=y
 | [],[],_=>rfl
 | x :: xs,y :: ys,h=>by
  simp only[eqL,Bool.and_eq_true] at h
  rw [eqA_eq x y h.1,eqL_eq xs ys h.2]
 | [],_ :: _,h=>by cases h
 | _ :: _,[],h=>by cases h
termination_by structural x=>x
end
theorem growB_of{no:List TypeId}:∀ {H H':Hp},growB no H H'=true→growL no H H'
 | [],_,_=>trivial
 | none :: r,none :: r',h=>growB_of (H:=r) (H':=r') h
 | some e :: r,some e' :: r',h=>by
  simp only[growB,Bool.and_eq_true,Bool.or_eq_true,Nat.beq_eq] at h
  exact⟨h.1.imp id fun h=>⟨h.1,eqL_eq _ _ h.2⟩,growB_of h.2⟩
 | none :: _,[],h=>by cases h
 | none :: _,some _ :: _,h=>by cases h
 | some _ :: _,[],h=>by cases h
 | some _ :: _,none :: _,h=>by cases h
theorem pass_same:∀ {xs:List AV} {hp:Hp} {ys:List AV} {H1:Hp} {l:List Nat},pass hp [] xs=some (ys,H1,l)→H1=hp
 | [],hp,ys,H1,l,h=>by cases h; rfl
 | x :: xs,hp,ys,H1,l,h=>by
  rw [pass_cons0] at h
  obtain ⟨⟨y,H2,l1⟩,h1,h⟩:=Option.bind_eq_some_iff.1 h
  obtain ⟨⟨ys',H3,l2⟩,h2,h⟩:=Option.map_eq_some_iff.1 h
  simp only[passOne] at h1
  obtain ⟨z,hz,h1⟩:=Option.map_eq_some_iff.1 h1
  cases h1
  cases h
  exact pass_same h2
theorem pass_length:∀ {xs:List AV} {ms:List Mode} {hp:Hp} {ys:List AV} {H1:Hp} {l:List Nat},pass hp ms xs=some (ys,H1,l)→ys.length=xs.length
 | [],ms,hp,ys,H1,l,h=>by cases h; rfl
 | x :: xs,ms,hp,ys,H1,l,h=>by
  unfold pass at h
  simp only[passG] at h
  obtain ⟨⟨y,H2,l1⟩,h1,h⟩:=Option.bind_eq_some_iff.1 h
  obtain ⟨⟨ys',H3,l2⟩,h2,h⟩:=Option.map_eq_some_iff.1 h
  cases h
  simp [pass_length (xs:=xs) h2]
theorem grow_still{no:List TypeId}(hp:Hp)(l:List Nat):Grow no hp (still hp l):=by
 refine⟨by rw [still_len]; exact Nat.le_refl _,fun id e h=>?_,fun id e h _=>?_,fun id _ h=>by rw [still_ent,h]; rfl⟩
 ·rw [still_ent,h]; exact⟨_,rfl⟩
 ·rw [still_ent,h]
  simp only[Option.map_some]
  split
  ·exact⟨false,rfl⟩
  ·exact⟨e.wr,rfl⟩
theorem grow_more{no:List TypeId}{H H':Hp}(h:Grow no H H')(l:Hp):Grow no H (H' ++ l):=by
 have e:∀ id,id < H'.length→ent (H' ++ l) id=ent H' id:=fun id h=>by unfold ent; rw [List.getElem?_append_left h]
 refine⟨by rw [List.length_append]; exact Nat.le_trans h.len (Nat.le_add_right _ _),fun id x hx=>?_,fun id x hx hn=>?_,fun id hl hx=>?_⟩
 ·obtain ⟨x',hx'⟩:=h.still id x hx
  exact⟨x',by rw [e id (ent_lt hx')]; exact hx'⟩
 ·obtain ⟨wr,hw⟩:=h.some id x hx hn
  exact⟨wr,by rw [e id (ent_lt hw)]; exact hw⟩
 ·rw [e id (Nat.lt_of_lt_of_le hl h.len)]; exact h.none id hl hx
theorem layL_id{f:Hp→AV→AV × Hp}:∀ {xs:List AV} (H:Hp),(∀ x∈xs,∀ H,f H x =(x,H))→layL f H xs =(xs,H)
 | [],H,_=>rfl
 | x :: xs,H,h=>by
  simp only[layL,h x (by simp) H,layL_id (xs:=xs) H fun y hy=>h y (List.mem_cons_of_mem _ hy)]
theorem layC_id{x:AV}(h:noOwnC x=true)(H:Hp):layC H x =(x,H):=by
 cases x <;> first | rfl | cases h
theorem layA_id{x:AV}(h:noOwnA x=true)(H:Hp):layA H x =(x,H):=by
 cases x with
 | agg cs =>
  simp only[layA]
  rw [layL_id H fun y hy H=>layC_id (List.all_eq_true.1 h y hy) H]
 | own a b c=>cases h
 | _=>rfl
theorem lay_id{x:AV}(h:noOwn x=true)(H:Hp):lay H x =(x,H):=by
 cases x with
 | tup cs =>
  simp only[lay]
  rw [layL_id H fun y hy H=>layA_id (List.all_eq_true.1 h y hy) H]
 | agg cs=>exact layA_id (x:=.agg cs) h H
 | own a b c=>cases h
 | _=>rfl
section
variable {P:Program}
def EndsY(X:St→Option AV)(r:AV)(H':Hp):AE→St→Prop
 | .exit _,_=>False
 | _,σ=>X σ=some r∧σ.hp=H'
theorem gen_ofC{f:FuncId}{fn:Func}{c:Code}(hD:∀ γ0 w0,DrawOk P Dq.no fn.ntmps true γ0 w0){c':AC}{rs:List RV}{xs:List AV}{r:AV}{H H':Hp}(hf:P.funcs[f]?=some fn)(hb:fn.body=some c)(hn:(fn.name == "runtime.NumGoroutine")=false)
  (hr:rvsOk P rs fn.results.toList=true) (hc:bareC c'=comp P c) (ho:okC fn.ntmps true c'=true) (hlen:xs.length≤fn.ntmps) (hx:aw P c' (EndsY (rvs rs) r H') ⟨xs.zipIdx.map fun p=>(p.2,p.1),H⟩):Gen P f xs H r H':=by
 refine⟨can_of hf (by rw [hb]; rfl) hn,fun w γ0 args hq hh hl hs=>?_⟩
 refine calls_of_wp hf hb ?_
 refine wp_mono (aw_sound (hD γ0 w) c c' (EndsY (rvs rs) r H') γ0 ⟨xs.zipIdx.map fun p=>(p.2,p.1),H⟩ _ w hc ho hx ⟨zip_frame hl hs _,hh,Step.refl _ _,rfl,⟨by simp; omega,fun _ h=>(by cases h)⟩,fun _=>Ids.refl _,hq⟩) ?_
 have fin:∀(γ:Gh) (σ:St) (a:Act) (W:World),SR Dq.no fn.ntmps true γ0 w γ σ a W→rvs rs σ=some r∧σ.hp=H' →
   a.defers=[]∧∃ v,(results fn a.tmps).run P W=.ok v W∧∃ v' γ',Ending.returned v=.returned v'∧Sim W γ' r v'∧HRel γ' H' W∧Step γ0 γ' w W∧Ids γ0 γ':=by
  rintro γ σ a W h ⟨h1,h2⟩
  obtain ⟨v,hv,hs⟩:=rvs_run hr γ σ a W r γ0 w h h1
  exact⟨h.df,v,hv,v,γ,rfl,hs,h2 ▸ h.hp,h.st,h.ids rfl⟩
 intro e a W he
 cases e with
 | normal=>obtain ⟨γ,σ,h1,h2⟩:=he; exact fin γ σ a W h1 h2
 | ret=>obtain ⟨γ,σ,h1,h2⟩:=he; exact fin γ σ a W h1 h2
 | exit id=>obtain ⟨_,_,_,h2⟩:=he; exact h2.elim
 | goto _=>exact he.elim
 | panic _=>exact he.elim
 | outgrown=>exact he.elim
structure ProgOk(P:Program):Prop where
 mixed:P.follows .mixedOrders=true
 names:∀(f:FuncId) (fn:Func),P.funcs[f]?=some fn →(fn.name == "runtime.NumGoroutine")=false
theorem ended_inv{o:Option (AE × St)}{rs:List RV}{x:AV}{h:Hp}(he:ended o rs=some (x,h)):∃ e σ,o=some (e,σ) ∧(e=.normal∨e=.ret)∧rvs rs σ=some x∧σ.hp=h:=by
 unfold ended at he
 split at he
 ·rename_i σ
  obtain ⟨y,hy,he⟩:=Option.map_eq_some_iff.1 he
  cases he
  exact⟨_,_,rfl,.inl rfl,hy,rfl⟩
 ·rename_i σ
  obtain ⟨y,hy,he⟩:=Option.map_eq_some_iff.1 he
  cases he
  exact⟨_,_,rfl,.inr rfl,hy,rfl⟩
 ·cases he
theorem defer_inv{c:Code}{D:Nat × Array Oper × Nat × Oper × Oper × Nat × FuncId × Code}(h:deferOf c=some D):∃ i0 ops0 i1 o1 o2 t g c2 fs cs ats,
  D =(i0,ops0,i1,o1,o2,t,g,c2)∧c=.seq (.region i0 ops0 false) (.seq (.region i1 #[o1,o2] false) c2)∧o1.op=.makeFunc (.func g) fs cs∧o2.op=.defer { callee:=.value (.tmp t),args:=#[],argTypes:=ats } ∧
  o1.guard=none∧o2.guard=none∧o2.dst=none∧g < 1000000:=by
 unfold deferOf at h
 split at h
 case h_2=>cases h
 rename_i i0 ops0 i1 ops1 c2
 split at h
 case h_2=>cases h
 rename_i o1 o2 hops
 split at h
 case h_2=>cases h
 rename_i g fs cs dc h1 h2
 split at h
 case h_2=>cases h
 rename_i t hcal
 split at h
 case isFalse=>cases h
 rename_i hcond
 cases h
 simp only[Bool.and_eq_true,Option.isNone_iff_eq_none] at hcond
 have e:ops1=#[o1,o2]:=by rw [← Array.toArray_toList (xs:=ops1),hops]
 subst e
 obtain ⟨callee,args,ats⟩:=dc
 dsimp only at hcal hcond
 subst hcal
 have ea:args=#[]:=by simpa using hcond.1
 subst ea
 exact⟨_,_,_,_,_,_,_,_,fs,cs,ats,rfl,rfl,h1,h2,hcond.2.1,hcond.2.2.1,hcond.2.2.2.1,of_eq_true (by rw [← Nat.blt_eq]; simp [hcond.2.2.2.2])⟩
theorem exD_sound(hP:ProgOk P){cl:Cl}(hc:ClOk P cl){f:FuncId}{fn:Func}{c:Code}{D:Nat × Array Oper × Nat × Oper × Oper × Nat × FuncId × Code}{ys:List AV}{x r:AV}{h h1:Hp}{l1:List Nat}{ms:List (List Mode)}(hf:P.funcs[f]?=some fn)(hb:fn.body=some c)
  (hr:rvsOk P (rvOf P fn) fn.results.toList=true) (hl:ys.length≤fn.ntmps) (hD:deferOf c=some D) (he:exD cl P fn (dfI P fn D) (entry ys)=some (x,h)) (hh:hand h ms x=some (r,h1,l1)) (hv:liveB h1 l1=true):Run P f ys r:=by
 obtain ⟨i0,ops0,i1,o1,o2,t,g,c2,fs,cs,ats,rfl,rfl,e1,e2,g1,g2,d2,hg⟩:=defer_inv hD
 unfold exD at he
 dsimp only[dfI] at he
 split at he
 case h_1=>cases he
 rename_i gn hgn
 split at he
 case h_1=>cases he
 rename_i cg hcg
 generalize hI:(bits (t :: fn.results.toList.map slotOf))=rt at he
 cases hok:(okC fn.ntmps false (.region 0 (compL P ops0 false) (some ⟨ofBitsA fn.ntmps (Nat.lor (less1 (liveIn (comp P c2) rt [] rt) t) (bits (comp2 P #[o1] false 0 o1).looks)) 0,[],false⟩)) && (okC fn.ntmps false (.region 0 [comp2 P #[o1] false 0 o1] none) && (okCp [t] fn.ntmps false (live fn.ntmps true [] (comp P c2) rt [] rt) && (okC gn.ntmps true (codeOf P false [] gn cg) && gn.results.isEmpty)))) with
 | false=>rw [hok] at he; cases he
 | true =>
 rw [hok] at he
 simp only[Bool.and_eq_true] at hok
 dsimp only[cond_true] at he
 split at he
 case h_2=>cases he
 rename_i σ1 h1'
 split at he
 case h_2=>cases he
 rename_i q hq
 split at he
 case h_2=>cases he
 rename_i g0 caps0 hev
 cases hb0:(Nat.beq g0 g && ((comp2 P #[o1] false 0 o1).dst == some t && (comp2 P #[o1] false 0 o1).guard.isNone)) with
 | false=>rw [hb0] at he; cases he
 | true =>
 rw [hb0] at he
 simp only[Bool.and_eq_true,Nat.beq_eq,beq_iff_eq,Option.isNone_iff_eq_none] at hb0
 dsimp only[cond_true] at he
 have key:∀(e3:AE) (σ3:St),(e3=.normal∨e3=.ret)→ex cl 100000 (live fn.ntmps true [] (comp P c2) rt [] rt) (σ1.put (comp2 P #[o1] false 0 o1).dst (.fn g0 caps0))=some (e3,σ3) →
   (match get σ3.fr t with
     | .fn g' caps=>bif Nat.beq g' g && Nat.ble caps.length gn.ntmps then match ex cl 100000 (codeOf P false [] gn cg) ⟨caps.zipIdx.map fun p=>(p.2,p.1),σ3.hp⟩ with
      | some (.normal,σ4) | some (.ret,σ4)=>(rvs (rvOf P fn) ⟨σ3.fr,σ4.hp⟩).map fun x=>(x,σ4.hp)
      | _=>none else none
     | _=>none)=some (x,h)→Run P f ys r:=by
  clear he
  intro e3 σ3 he3 hx3 he
  split at he
  case h_2=>cases he
  rename_i g' caps hget
  cases hb1:(Nat.beq g' g && Nat.ble caps.length gn.ntmps) with
  | false=>rw [hb1] at he; cases he
  | true =>
  rw [hb1] at he
  simp only[Bool.and_eq_true,Nat.beq_eq,Nat.ble_eq] at hb1
  dsimp only[cond_true] at he
  obtain ⟨rfl,hcap⟩:=hb1
  have fin:∀(e4:AE) (σ4:St),(e4=.normal∨e4=.ret)→ex cl 100000 (codeOf P false [] gn cg) ⟨caps.zipIdx.map fun p=>(p.2,p.1),σ3.hp⟩=some (e4,σ4)→rvs (rvOf P fn) ⟨σ3.fr,σ4.hp⟩=some x→σ4.hp=h→Run P f ys r:=by
   intro e4 σ4 he4 hx4 hrv hhp
   subst hhp
   refine run_ofCD (o1:=o1) (o2:=o2) (fun _ _ _=>drawOk hP.mixed) (fun _ _=>drawOk hP.mixed) hf hb (hP.names f fn hf) e2 g1 g2 d2 hgn hcg (hP.names g' gn hgn) (by simpa using hok.2.2.2.2) hg hr rfl hok.1 rfl hok.2.1 (by rw [bare_live,bare_comp]) hok.2.2.1 (bare_code P false [] gn cg) hok.2.2.2.1 hl ?_
   refine(ex_sound hc 10).1 _ _ _ _ h1' _ ?_
   show awOps P _ [comp2 P #[o1] false 0 o1] _ _
   simp only[awOps,aw2,hb0.2.2,aw1,hq,hev,List.replicate_zero,List.append_nil]
   refine⟨⟨caps0,?_⟩,?_⟩
   ·show get (putO σ1.fr _ _) t=_
    rw [hb0.2.1]
    simp only[putO,get_put',if_pos]
    rw [hb0.1]
   ·refine(ex_sound hc 100000).1 _ _ _ _ hx3 _ ?_
    have ends:EndsD P (codeOf P false [] gn cg) g' gn.ntmps t (rvs (rvOf P fn)) r e3 σ3 =(∃ caps H2,get σ3.fr t=.fn g' caps∧caps.length≤gn.ntmps∧aw P (codeOf P false [] gn cg) (EndsG [] (.tup []) H2) ⟨caps.zipIdx.map fun p=>(p.2,p.1),σ3.hp⟩ ∧
      ∃ x,rvs (rvOf P fn) ⟨σ3.fr,H2⟩=some x∧∃ ms H1 l,hand H2 ms x=some (r,H1,l)∧liveB H1 l=true):=by rcases he3 with rfl | rfl <;> rfl
    rw [ends]
    refine⟨caps,σ4.hp,hget,hcap,?_,x,hrv,ms,h1,l1,hh,hv⟩
    refine(ex_sound hc 100000).1 _ _ _ _ hx4 _ ?_
    rcases he4 with rfl | rfl <;> exact⟨rfl,rfl⟩
  split at he
  ·rename_i σ4 hx4
   obtain ⟨y,hy,he⟩:=Option.map_eq_some_iff.1 he
   cases he
   exact fin _ _ (.inl rfl) hx4 hy rfl
  ·rename_i σ4 hx4
   obtain ⟨y,hy,he⟩:=Option.map_eq_some_iff.1 he
   cases he
   exact fin _ _ (.inr rfl) hx4 hy rfl
  ·cases he
 split at he
 ·rename_i σ3 hx3; exact key _ _ (.inl rfl) hx3 he
 ·rename_i σ3 hx3; exact key _ _ (.inr rfl) hx3 he
 ·cases he
theorem runE_sound(hP:ProgOk P){cl:Cl}(hc:ClOk P cl){fz:List Nat}{f:FuncId}{fn:Func}{c:Code}{ys:List AV}{x r:AV}{h h1:Hp}{l1:List Nat}{ms:List (List Mode)}(hf:P.funcs[f]?=some fn)(hb:fn.body=some c)
  (hr:rvsOk P (rvOf P fn) fn.results.toList=true) (hl:ys.length≤fn.ntmps) (he:runE cl P fz fn c ys=some (x,h)) (hh:hand h ms x=some (r,h1,l1)) (hv:liveB h1 l1=true):Run P f ys r:=by
 unfold runE at he
 split at he
 ·rename_i D hD
  exact exD_sound hP hc hf hb hr hl hD he hh hv
 ·cases ho:okC fn.ntmps false (codeOf P true fz fn c) with
  | false=>rw [ho] at he; cases he
  | true =>
  rw [ho] at he
  obtain ⟨e,σ,hx,hne,hrv,rfl⟩:=ended_inv he
  refine run_ofC (fun _ _=>drawOk hP.mixed) hf hb (hP.names f fn hf) hr (bare_code P true fz fn c) ho hl ?_
  refine(ex_sound hc 100000).1 _ _ _ _ hx _ ?_
  rcases hne with rfl | rfl
  ·exact⟨x,hrv,ms,h1,l1,hh,hv⟩
  ·exact⟨x,hrv,ms,h1,l1,hh,hv⟩
def SpOk(P:Program)(sp:FuncId→Option (Bool × (Cl→List AV→Hp→Option (AV × Hp)))):Prop:=∀ f b g,sp f=some (b,g)→∀ cl,ClOk P cl→∀ xs hp r H',g cl xs hp=some (r,H') →
 Gen P f xs hp r H' ∧(b=true →(∀ no,Grow no hp H')∧Framed P f xs hp r H')
theorem lenOk_inv{hp:Hp}{p q:AV × Hp}(h:lenOk hp p=some q):p=q∧hp.length≤q.2.length:=by
 unfold lenOk at h
 cases hb:Nat.ble hp.length p.2.length with
 | false=>rw [hb] at h; cases h
 | true=>rw [hb] at h; cases h; exact⟨rfl,Nat.le_of_ble_eq_true hb⟩
theorem callE_sound(hP:ProgOk P){E:Env}(hE:E.P=P)(hsp:SpOk P E.sp):∀(n:Nat) (z:Bool),ClOk P (callE E n z)
 | 0,z=>⟨hE,fun _ _ _ _ _ _ h=>by cases h⟩
 | n+1,z=>by
  refine⟨hE,fun f xs hp o r H' h=>?_⟩
  have ih:=callE_sound hP hE hsp n
  unfold callE at h
  dsimp only at h
  split at h
  ·rename_i g hg
   obtain ⟨b,g⟩:=g
   cases hd:(drawn o && !b) with
   | true=>rw [hd] at h; cases h
   | false =>
   rw [hd] at h
   obtain ⟨p,hp1,h⟩:=Option.bind_eq_some_iff.1 h
   obtain ⟨rfl,hlen⟩:=lenOk_inv h
   obtain ⟨h1,h2⟩:=hsp f b g hg _ (ih false) _ _ _ _ hp1
   refine⟨h1,hlen,fun hdr=>?_⟩
   have hb:b=true:=by cases b with | true=>rfl | false=>rw [hdr] at hd; cases hd
   exact⟨(h2 hb).1 _,fun _=>(h2 hb).2⟩
  ·rw [hE] at h
   split at h
   ·cases h
   rename_i fn hf
   split at h
   ·cases h
   rename_i c hb
   cases hr:(rvsOk P (rvOf P fn) fn.results.toList && Nat.ble xs.length fn.ntmps) with
   | false=>rw [hr] at h; cases h
   | true =>
   rw [hr] at h
   simp only[Bool.and_eq_true,Nat.ble_eq] at hr
   dsimp only[cond_true] at h
   split at h
   ·-- among the caller's rows
    cases ho:okC fn.ntmps true (codeOf P false [] fn c) with
    | false=>rw [ho] at h; cases h
    | true =>
    rw [ho] at h
    dsimp only[cond_true] at h
    split at h
    case h_2=>cases h
    rename_i p hp1
    obtain ⟨x,h0⟩:=p
    obtain ⟨e,σ,hx,hne,hrv,rfl⟩:=ended_inv hp1
    have hg:Gen P f xs hp x σ.hp:=by
     refine gen_ofC (fun _ _=>drawOk hP.mixed) hf hb (hP.names f fn hf) hr.1 (bare_code P false [] fn c) ho hr.2 ?_
     refine(ex_sound (ih _) 100000).1 _ _ _ _ hx _ ?_
     rcases hne with rfl | rfl <;> exact⟨hrv,rfl⟩
    cases hd:drawn o with
    | false =>
     rw [hd] at h
     obtain ⟨e,hlen⟩:=lenOk_inv h
     cases e
     exact⟨hg,hlen,fun h=>by cases h⟩
    | true =>
     rw [hd] at h
     dsimp only[cond_true] at h
     cases hb2:(!o.fm && growB o.no hp σ.hp) with
     | false=>rw [hb2] at h; cases h
     | true =>
     rw [hb2] at h
     simp only[Bool.and_eq_true,Bool.not_eq_true'] at hb2
     obtain ⟨e,hlen⟩:=lenOk_inv h
     cases e
     exact⟨hg,hlen,fun _=>⟨grow_of (growB_of hb2.2),fun h=>by rw [hb2.1] at h; cases h⟩⟩
   ·rename_i ms fz hst
    split at h
    ·cases h
    rename_i ys H1 l hpass
    cases hlv:liveB H1 l with
    | false=>rw [hlv] at h; cases h
    | true =>
    rw [hlv] at h
    dsimp only[cond_true] at h
    split at h
    ·cases h
    rename_i x h0 hrun
    split at h
    case h_2=>cases h
    rename_i r1 h1 l1 hh
    cases hlv1:liveB h1 l1 with
    | false=>rw [hlv1] at h; cases h
    | true =>
    rw [hlv1] at h
    dsimp only[cond_true] at h
    cases hgb:(drawn o && (!ms.isEmpty && !growB o.no hp (back (!ms.isEmpty) o H1 l (bif z then frz r1 else r1)).2)) with
    | true=>rw [hgb] at h; cases h
    | false =>
    rw [hgb] at h
    dsimp only[cond_false] at h
    obtain ⟨e,hlen⟩:=lenOk_inv h
    rw [e] at hgb
    have hyl:ys.length≤fn.ntmps:=by
     have:ys.length=xs.length:=pass_length hpass
     rw [this]; exact hr.2
    have hR:Run P f ys (bif z then frz r1 else r1):=by
     have:=runE_sound hP (ih _) hf hb hr.1 hyl hrun hh hlv1
     cases z with
     | false=>exact this
     | true=>exact run_frz this
    generalize (bif z then frz r1 else r1)=R at e hR
    unfold back at e
    cases hpl:(noOwn R && (R.pT && !(drawn o && (o.fm || !ms.isEmpty)))) with
    | true =>
     rw [hpl] at e
     simp only[Bool.and_eq_true,Bool.not_eq_true'] at hpl
     cases e
     have hg:=gen_plain hR hpass hlv hpl.2.1
     rw [lay_id hpl.1] at hg
     refine⟨hg,hlen,fun hd=>?_⟩
     have hm:o.fm=false∧ms=[]:=by
      have:=hpl.2.2
      rw [hd] at this
      simpa using this
     obtain ⟨hfm,rfl⟩:=hm
     have e:=pass_same hpass
     subst e
     exact⟨Grow.refl _,fun h=>by rw [hfm] at h; cases h⟩
    | false =>
     rw [hpl] at e
     obtain ⟨rfl,rfl⟩:r =(lay (still H1 l) R).1∧H' =(lay (still H1 l) R).2:=by
      change lay _ _=_ at e
      rw [e]; exact⟨rfl,rfl⟩
     refine⟨gen_still hR hpass hlv,hlen,fun hd=>⟨?_,fun _=>framed_pass hR hpass hlv⟩⟩
     cases ms with
     | nil =>
      have e:=pass_same hpass
      subst e
      obtain ⟨l',hl'⟩:=lay_app (still H1 l) R
      rw [hl']
      exact grow_more (grow_still _ _) _
     | cons m ms =>
      rw [hd] at hgb
      simp only[List.isEmpty_cons,Bool.not_false,Bool.true_and,Bool.not_eq_false'] at hgb
      exact grow_of (growB_of hgb)
theorem runTop_sound(hP:ProgOk P){E:Env}(hE:E.P=P)(hsp:SpOk P E.sp){n:Nat}{f:FuncId}{ys:List AV}{r:AV}(h:runTop E n f ys=some r):Run P f ys r:=by
 unfold runTop at h
 rw [hE] at h
 split at h
 ·cases h
 rename_i fn hf
 split at h
 ·cases h
 rename_i c hb
 cases hr:(rvsOk P (rvOf P fn) fn.results.toList && Nat.ble ys.length fn.ntmps) with
 | false=>rw [hr] at h; cases h
 | true =>
 rw [hr] at h
 simp only[Bool.and_eq_true,Nat.ble_eq] at hr
 dsimp only[cond_true] at h
 split at h
 ·cases h
 rename_i x h0 hrun
 split at h
 case h_2=>cases h
 rename_i r1 h1 l1 hh
 cases hlv1:liveB h1 l1 with
 | false=>rw [hlv1] at h; cases h
 | true =>
 rw [hlv1] at h
 cases h
 exact run_frz (runE_sound hP (callE_sound hP hE hsp n _) hf hb hr.1 hr.2 hrun hh hlv1)
theorem spRun_ok{f:FuncId}{R:List AV→Option AV}(hR:∀ ys r,R ys=some r→Run P f ys r){cl:Cl}{xs:List AV}{hp:Hp}{r:AV}{H':Hp}(h:spRun R cl xs hp=some (r,H')) :
  Gen P f xs hp r H' ∧((∀ no,Grow no hp H')∧Framed P f xs hp r H'):=by
 unfold spRun at h
 split at h
 case h_2=>cases h
 rename_i ys H1 l hpass
 cases hlv:liveB H1 l with
 | false=>rw [hlv] at h; cases h
 | true =>
 rw [hlv] at h
 dsimp only[cond_true] at h
 split at h
 case h_2=>cases h
 rename_i r0 hr
 obtain ⟨rfl,rfl⟩:r =(lay (still H1 l) r0).1∧H' =(lay (still H1 l) r0).2:=by
  have:=Option.some.inj h
  rw [this]; exact⟨rfl,rfl⟩
 have hrun:=hR _ _ hr
 have e:=pass_same hpass
 subst e
 refine⟨gen_still hrun hpass hlv,fun no=>?_,framed_pass hrun hpass hlv⟩
 obtain ⟨l',hl'⟩:=lay_app (still H1 l) r0
 rw [hl']
 exact grow_more (grow_still _ _) _
theorem toldR_ok{f:FuncId}:∀ {L:List (List AV × AV)},(∀ p∈L,Run P f p.1 p.2)→∀(ys:List AV) (r:AV),toldR L ys=some r→Run P f ys r
 | [],_,ys,r,h=>by cases h
 | p :: L,h0,ys,r,h=>by
  simp only[toldR] at h
  cases hb:eqL ys p.1 with
  | false=>rw [hb] at h; exact toldR_ok (fun q hq=>h0 q (List.mem_cons_of_mem _ hq)) ys r h
  | true =>
   rw [hb] at h; cases h
   rw [eqL_eq _ _ hb]; exact h0 p (by simp)
end
end Go.Pv
namespace Go.Pv
variable [Lq]
def cod(P:Program)(gc:Bool)(fz:List Nat)(f:FuncId):AC:=match P.funcs[f]? with
 | some fn=>match fn.body with
  | some c=>codeOf P gc fz fn c
  | none=>.bad
 | none=>.bad
def bodies:AC→List AC
 | .seq a b | .cond _ a b=>bodies a ++ bodies b
 | .block _ b | .scope b=>bodies b
 | .loop _ b=>b :: bodies b
 | _=>[]
@[irreducible] def lpb (P:Program) (gc:Bool) (fz:List Nat) (f k:Nat):AC:=((bodies (cod P gc fz f))[k]?).getD .bad
def nloops:AC→Nat
 | .seq a b | .cond _ a b=>nloops a+nloops b
 | .block _ b | .scope b=>nloops b
 | .loop _ b=>nloops b+1
 | _=>0
def hid(B:Nat→AC):AC→Nat→AC
 | .seq a b,k=>.seq (hid B a k) (hid B b (k+nloops a))
 | .cond c a b,k=>.cond c (hid B a k) (hid B b (k+nloops a))
 | .block i b,k=>.block i (hid B b k)
 | .scope b,k=>.scope (hid B b k)
 | .loop tr _,k=>.loop tr (B k)
 | c,_=>c
theorem bodies_len:∀ c:AC,(bodies c).length=nloops c:=by
 intro c
 induction c with
 | seq a b iha ihb=>simp [bodies,nloops,iha,ihb]
 | cond c a b iha ihb=>simp [bodies,nloops,iha,ihb]
 | block i b ih=>simp [bodies,nloops,ih]
 | scope b ih=>simp [bodies,nloops,ih]
 | loop tr b ih=>simp [bodies,nloops,ih]
 | _=>rfl
theorem hid_eq(B:Nat→AC):∀(c:AC) (k:Nat),(∀ j,j < nloops c→B (k+j) =((bodies c)[j]?).getD .bad)→hid B c k=c:=by
 intro c
 induction c with
 | seq a b iha ihb =>
  intro k h
  have hl:=bodies_len a
  simp only[hid]
  rw [iha k fun j hj=>by
    rw [h j (by simp only[nloops]; omega)]
    simp only[bodies]; rw [List.getElem?_append_left (by omega)],
   ihb (k+nloops a) fun j hj=>by
    have:=h (nloops a+j) (by simp only[nloops]; omega)
    rw [← Nat.add_assoc] at this
    rw [this]
    simp only[bodies]
    rw [List.getElem?_append_right (by omega),hl,Nat.add_sub_cancel_left]]
 | cond c a b iha ihb =>
  intro k h
  have hl:=bodies_len a
  simp only[hid]
  rw [iha k fun j hj=>by
    rw [h j (by simp only[nloops]; omega)]
    simp only[bodies]; rw [List.getElem?_append_left (by omega)],
   ihb (k+nloops a) fun j hj=>by
    have:=h (nloops a+j) (by simp only[nloops]; omega)
    rw [← Nat.add_assoc] at this
    rw [this]
    simp only[bodies]
    rw [List.getElem?_append_right (by omega),hl,Nat.add_sub_cancel_left]]
 | block i b ih=>intro k h; simp only[hid]; rw [ih k h]
 | scope b ih=>intro k h; simp only[hid]; rw [ih k h]
 | loop tr b ih =>
  intro k h
  simp only[hid]
  have:=h 0 (by simp only[nloops]; omega)
  simp only[bodies,List.getElem?_cons_zero,Option.getD_some,Nat.add_zero] at this
  rw [this]
 | _=>intro k h; rfl
def shal(P:Program)(gc:Bool)(fz:List Nat)(f:FuncId):AC:=hid (lpb P gc fz f) (cod P gc fz f) 0
theorem shal_eq(P:Program)(gc:Bool)(fz:List Nat)(f:FuncId):shal P gc fz f=cod P gc fz f :=
 hid_eq _ _ 0 fun j hj=>by rw [Nat.zero_add,lpb]
def okRun(P:Program)(gc:Bool)(fz:List Nat)(f m:Nat)(rs:List RV):Bool:=match P.funcs[f]? with
 | some fn=>match fn.body with
  | some c=>rvsOk P rs fn.results.toList && (okC fn.ntmps (!gc) (codeOf P gc fz fn c) && Nat.ble m fn.ntmps)
  | none=>false
 | none=>false
theorem okRun_inv{P:Program}{gc:Bool}{fz:List Nat}{f m:Nat}{rs:List RV}(h:okRun P gc fz f m rs=true):∃ fn c,P.funcs[f]?=some fn∧fn.body=some c∧rvsOk P rs fn.results.toList=true∧okC fn.ntmps (!gc) (codeOf P gc fz fn c)=true∧m≤fn.ntmps∧cod P gc fz f=codeOf P gc fz fn c:=by
 unfold okRun at h
 split at h
 case h_2=>cases h
 rename_i fn hf
 split at h
 case h_2=>cases h
 rename_i c hb
 simp only[Bool.and_eq_true,Nat.ble_eq] at h
 exact⟨fn,c,hf,hb,h.1,h.2.1,h.2.2,by simp only[cod,hf,hb]⟩
section
variable {P:Program}
theorem run_cd(hP:ProgOk P){fz:List Nat}{f m:Nat}{rs:List RV}(h:okRun P true fz f m rs=true){xs:List AV}{r:AV}(hl:xs.length≤m)(hx:aw P (shal P true fz f) (EndsX (rvs rs) r) (entry xs)):Run P f xs r:=by
 obtain ⟨fn,c,hf,hb,h1,h2,h3,h4⟩:=okRun_inv h
 rw [shal_eq,h4] at hx
 exact run_ofC (fun _ _=>drawOk hP.mixed) hf hb (hP.names f fn hf) h1 (bare_code P true fz fn c) h2 (Nat.le_trans hl h3) hx
theorem gen_cd(hP:ProgOk P){f m:Nat}{rs:List RV}(h:okRun P false [] f m rs=true){xs:List AV}{r:AV}{H H':Hp}(hl:xs.length≤m)(hx:aw P (shal P false [] f) (EndsY (rvs rs) r H') ⟨xs.zipIdx.map fun p=>(p.2,p.1),H⟩):Gen P f xs H r H':=by
 obtain ⟨fn,c,hf,hb,h1,h2,h3,h4⟩:=okRun_inv h
 rw [shal_eq,h4] at hx
 exact gen_ofC (fun _ _=>drawOk hP.mixed) hf hb (hP.names f fn hf) h1 (bare_code P false [] fn c) h2 (Nat.le_trans hl h3) hx
end
def awD(P:Program):AC →(AE→St→Prop)→St→Prop
 | .skip,K,σ=>K .normal σ
 | .region n ops tr,K,σ=>awOps P σ.hp.length ops ⟨σ.fr,σ.hp ++ List.replicate n none⟩ fun σ=>K .normal (trim tr σ)
 | .regionA n ops ps tr,K,σ=>awOps P σ.hp.length ops ⟨σ.fr,σ.hp ++ List.replicate n none⟩ fun σ=>apB ps σ.fr=true∧K .normal (trim tr σ)
 | .seq a b,K,σ=>awD P a (andThen (awD P b K) K) σ
 | .cond c x y,K,σ=>match c.ev σ.fr with
  | .bool b=>(b=true→awD P x K σ) ∧(b=false→awD P y K σ)
  | _=>False
 | .block id b,K,σ=>awD P b (inBlk id K) σ
 | .loop tr b,K,σ=>∃ I:Nat→St→Prop,(∃ n,I n (trim tr σ))∧∀ n σ,I n σ→awD P b (andThen (fun σ'=>∃ m,m < n∧I m (trim tr σ')) K) σ
 | .exit id,K,σ=>K (.exit id) σ
 | .ret,K,σ=>K .ret σ
 | .scope b,K,σ=>awD P b K σ
 | .bad,_,_=>False
section
variable {P:Program}
theorem aw1_det{base:Nat}{o:Op2}{σ:St}{K:St→Prop}(h:aw1 P base o σ K):∃ σ',K σ'∧∀ K':St→Prop,K' σ'→aw1 P base o σ K':=by
 unfold aw1 at h
 cases ho:o.op with
 | p q =>
  rw [ho] at h; dsimp only at h
  split at h
  ·rename_i x hx; exact⟨_,h,fun K' hk=>by unfold aw1; rw [ho]; dsimp only; rw [hx]; exact hk⟩
  ·exact h.elim
 | r q =>
  rw [ho] at h; dsimp only at h
  split at h
  ·rename_i x hx; exact⟨_,h.2,fun K' hk=>by unfold aw1; rw [ho]; dsimp only; rw [hx]; exact⟨h.1,hk⟩⟩
  ·exact h.elim
 | e q r =>
  rw [ho] at h; dsimp only at h
  split at h
  ·rename_i x hx; exact⟨_,h,fun K' hk=>by unfold aw1; rw [ho]; dsimp only; rw [hx]; exact hk⟩
  ·exact h.elim
 | call f xs d =>
  rw [ho] at h
  obtain ⟨r,H',h1,h2,h3⟩:=h; exact⟨_,h3,fun K' hk=>by unfold aw1; rw [ho]; exact⟨r,H',h1,h2,hk⟩⟩
 | callv x xs =>
  rw [ho] at h; dsimp only at h
  split at h
  ·rename_i f caps he; obtain ⟨h0,r,H',h1,h2,h3⟩:=h; exact⟨_,h3,fun K' hk=>by unfold aw1; rw [ho]; dsimp only; rw [he]; exact⟨h0,r,H',h1,h2,hk⟩⟩
  ·exact h.elim
 | calli m x xs =>
  rw [ho] at h; dsimp only at h
  split at h
  ·rename_i f y he; obtain ⟨r,H',h1,h2,h3⟩:=h; exact⟨_,h3,fun K' hk=>by unfold aw1; rw [ho]; dsimp only; rw [he]; exact⟨r,H',h1,h2,hk⟩⟩
  ·exact h.elim
 | bad=>rw [ho] at h; exact h.elim
theorem aw2_det{base:Nat}{o:Op2}{σ:St}{K:St→Prop}(h:aw2 P base o σ K):∃ σ',K σ'∧∀ K':St→Prop,K' σ'→aw2 P base o σ K':=by
 unfold aw2 at h
 cases hg:o.guard with
 | none =>
  rw [hg] at h
  obtain ⟨σ',h1,h2⟩:=aw1_det h
  exact⟨σ',h1,fun K' hk=>by unfold aw2; rw [hg]; exact h2 K' hk⟩
 | some p =>
  obtain ⟨t,want⟩:=p
  rw [hg] at h; dsimp only at h
  split at h
  ·rename_i b hb
   split at h
   ·rename_i hw
    obtain ⟨σ',h1,h2⟩:=aw1_det h
    exact⟨σ',h1,fun K' hk=>by unfold aw2; rw [hg]; dsimp only; rw [hb]; dsimp only; rw [if_pos hw]; exact h2 K' hk⟩
   ·rename_i hw; exact⟨_,h,fun K' hk=>by unfold aw2; rw [hg]; dsimp only; rw [hb]; dsimp only; rw [if_neg hw]; exact hk⟩
  ·rename_i v hv; exact⟨_,h.2,fun K' hk=>by unfold aw2; rw [hg]; dsimp only; rw [hv]; exact⟨h.1,hk⟩⟩
  ·exact h.elim
theorem awOps_det{base:Nat}:∀ {ops:List Op2} {σ:St} {K:St→Prop},awOps P base ops σ K→∃ σ',K σ'∧∀ K':St→Prop,K' σ'→awOps P base ops σ K'
 | [],σ,K,h=>⟨σ,h,fun _ hk=>hk⟩
 | o :: r,σ,K,h=>by
  obtain ⟨σ1,h1,h2⟩:=aw2_det (P:=P) h
  obtain ⟨σ2,h3,h4⟩:=awOps_det h1
  exact⟨σ2,h3,fun K' hk=>h2 _ (h4 K' hk)⟩
theorem awD_det:∀(c:AC) (σ:St) (K:AE→St→Prop),awD P c K σ→∃ e σ',K e σ'∧∀ K':AE→St→Prop,K' e σ'→aw P c K' σ:=by
 intro c
 induction c with
 | skip=>intro σ K h; exact⟨_,_,h,fun _ hk=>hk⟩
 | region n ops tr =>
  intro σ K h
  obtain ⟨σ',h1,h2⟩:=awOps_det (P:=P) h
  exact⟨_,_,h1,fun K' hk=>h2 _ hk⟩
 | regionA n ops ps tr =>
  intro σ K h
  obtain ⟨σ',h1,h2⟩:=awOps_det (P:=P) h
  exact⟨_,_,h1.2,fun K' hk=>h2 _ ⟨h1.1,hk⟩⟩
 | seq a b iha ihb =>
  intro σ K h
  obtain ⟨e,σ1,h1,h2⟩:=iha σ _ h
  cases e with
  | normal =>
   obtain ⟨e2,σ2,h3,h4⟩:=ihb σ1 K h1
   exact⟨e2,σ2,h3,fun K' hk=>h2 _ (h4 K' hk)⟩
  | exit i=>exact⟨_,_,h1,fun K' hk=>h2 _ hk⟩
  | ret=>exact⟨_,_,h1,fun K' hk=>h2 _ hk⟩
 | cond c x y ihx ihy =>
  intro σ K h
  unfold awD at h
  split at h
  ·rename_i b hb
   cases b with
   | true =>
    obtain ⟨e,σ1,h1,h2⟩:=ihx σ K (h.1 rfl)
    exact⟨e,σ1,h1,fun K' hk=>by unfold aw; simp only[hb]; exact⟨fun _=>h2 K' hk,fun e=>by cases e⟩⟩
   | false =>
    obtain ⟨e,σ1,h1,h2⟩:=ihy σ K (h.2 rfl)
    exact⟨e,σ1,h1,fun K' hk=>by unfold aw; simp only[hb]; exact⟨(fun e=>by cases e),fun _=>h2 K' hk⟩⟩
  ·exact h.elim
 | block id b ih =>
  intro σ K h
  obtain ⟨e,σ1,h1,h2⟩:=ih σ _ h
  cases e with
  | normal=>exact⟨_,_,h1,fun K' hk=>h2 _ hk⟩
  | exit i =>
   simp only[inBlk] at h1
   split at h1
   ·rename_i e1; exact⟨_,_,h1,fun K' hk=>h2 _ (by simp only[inBlk,if_pos e1]; exact hk)⟩
   ·rename_i e1; exact⟨_,_,h1,fun K' hk=>h2 _ (by simp only[inBlk,if_neg e1]; exact hk)⟩
  | ret=>exact⟨_,_,h1,fun K' hk=>h2 _ hk⟩
 | loop tr b ih =>
  intro σ K h
  obtain ⟨I,⟨n,h0⟩,hI⟩:=h
  have key:∀ n σ1,I n σ1→∃ e σ',K e σ'∧∃ m,∀ K':AE→St→Prop,K' e σ'→unr P tr b K' m σ1:=by
   intro n
   induction n using Nat.strongRecOn with
   | _ n ihn =>
    intro σ1 h1
    obtain ⟨e,σ2,h2,h3⟩:=ih σ1 _ (hI n σ1 h1)
    cases e with
    | normal =>
     obtain ⟨k,hk,h4⟩:=h2
     obtain ⟨e,σ',h5,m,h6⟩:=ihn k hk _ h4
     exact⟨e,σ',h5,m+1,fun K' hk=>h3 _ (h6 K' hk)⟩
    | exit i=>exact⟨_,_,h2,1,fun K' hk=>h3 _ hk⟩
    | ret=>exact⟨_,_,h2,1,fun K' hk=>h3 _ hk⟩
  obtain ⟨e,σ',h1,m,h2⟩:=key n _ h0
  exact⟨e,σ',h1,fun K' hk=>aw_unroll m (h2 K' hk)⟩
 | exit id=>intro σ K h; exact⟨_,_,h,fun _ hk=>hk⟩
 | ret=>intro σ K h; exact⟨_,_,h,fun _ hk=>hk⟩
 | scope b ih=>intro σ K h; exact ih σ K h
 | bad=>intro σ K h; exact h.elim
def EndsQ(X:St→Option AV)(Q:AV→Prop):AE→St→Prop:=fun e σ=>∃ r,Q r∧EndsX X r e σ
theorem run_q(hP:ProgOk P){fz:List Nat}{f m:Nat}{rs:List RV}(h:okRun P true fz f m rs=true){xs:List AV}{Q:AV→Prop}(hl:xs.length≤m)(hx:awD P (shal P true fz f) (EndsQ (rvs rs) Q) (entry xs)):∃ r,Run P f xs r∧Q r:=by
 obtain ⟨e,σ,⟨r,hq,he⟩,h2⟩:=awD_det _ _ _ hx
 exact⟨r,run_cd hP h hl (h2 _ he),hq⟩
def EndsYQ(X:St→Option AV)(Q:AV→Hp→Prop):AE→St→Prop:=fun e σ=>∃ r H',Q r H'∧EndsY X r H' e σ
theorem gen_q(hP:ProgOk P){f m:Nat}{rs:List RV}(h:okRun P false [] f m rs=true){xs:List AV}{H:Hp}{Q:AV→Hp→Prop}(hl:xs.length≤m)(hx:awD P (shal P false [] f) (EndsYQ (rvs rs) Q) ⟨xs.zipIdx.map fun p=>(p.2,p.1),H⟩):∃ r H',Gen P f xs H r H'∧Q r H':=by
 obtain ⟨e,σ,⟨r,H',hq,he⟩,h2⟩:=awD_det _ _ _ hx
 exact⟨r,H',gen_cd hP h hl (h2 _ he),hq⟩
end
end Go.Pv
namespace Go.Pv
def pvq0 :=
 And.intro @buildC.eq_1 <| And.intro @buildC.eq_2 <| And.intro @evP.eq_1 <| And.intro @evP.eq_2 <| And.intro @evP.eq_3 <| And.intro @evP.eq_4 <| And.intro @evP.eq_5 <| And.intro @evP.eq_6 <| And.intro @evP.eq_7 <| And.intro @evP.eq_8 <| And.intro @evP.eq_9 <| And.intro @evP.eq_10 <| And.intro @evP.eq_11 <| And.intro @evP.eq_12 <| And.intro @evP.eq_13 <| And.intro @evP.eq_14 <| And.intro @evP.eq_15 <| And.intro @evP.eq_16 <| And.intro @evP.eq_17 <| And.intro @evP.eq_18 <| And.intro @evP.eq_19 <| And.intro @evP.eq_20 <| And.intro @evP.eq_21 <| And.intro @evP.eq_22 <| And.intro @evP.eq_23 <| And.intro @evP.eq_24 <| And.intro @evP.eq_25 <| And.intro @evP.eq_26 <| And.intro @evR.eq_1 <| And.intro @evR.eq_2 <| And.intro @evR.eq_3 <| And.intro @evE.eq_1 <| And.intro @evE.eq_2 <| And.intro @evE.eq_3 <| And.intro @evE.eq_4 <| And.intro @evE.eq_5 <| And.intro @evE.eq_6 <| And.intro @evE.eq_7 <| And.intro @evE.eq_8 <| @evE.eq_9
def pvq1 :=
 And.intro @evE.eq_10 <| And.intro @get.eq_1 <| And.intro @get.eq_2 <| And.intro @put.eq_1 <| And.intro @put.eq_2 <| And.intro @putO.eq_1 <| And.intro @putO.eq_2 <| And.intro @cells.eq_1 <| And.intro @boundO.eq_1 <| And.intro @boundO.eq_2 <| And.intro @bv.eq_1 <| And.intro @rowOne.eq_1 <| And.intro @rvL.eq_1 <| And.intro @rvL.eq_2 <| And.intro @rvX.eq_1 <| And.intro @rvX.eq_2 <| And.intro @liveB.eq_1 <| And.intro @setParts.eq_1 <| And.intro @setParts.eq_2 <| And.intro @lim.eq_1 <| And.intro @dedup.eq_1 <| And.intro @dedup.eq_2 <| And.intro @place.eq_1 <| And.intro @place.eq_2 <| And.intro @ent.eq_1 <| And.intro @new.eq_1 <| And.intro @new.eq_2 <| And.intro @newVar.eq_1 <| And.intro @newVec.eq_1 <| And.intro @AV.ones.eq_1 <| And.intro @entry.eq_1 <| And.intro @layL.eq_1 <| And.intro @layL.eq_2 <| And.intro @List.foldl.eq_1.{0,0} <| @List.foldl.eq_2.{0,0}
def pvl:=And.intro @List.length_set.{0} <| And.intro @List.length_append.{0} <| And.intro @List.length_cons.{0} <| And.intro @List.length_nil.{0} <| And.intro @List.length_take.{0} <| And.intro @List.length_drop.{0} <| And.intro @List.length_map.{0,0} <| @List.length_replicate.{0}
end Go.Pv
namespace Go.Pv
variable [Lq]
theorem awD_mono{P:Program}:∀(c:AC) (K K':AE→St→Prop) (σ:St),(∀ e σ,K e σ→K' e σ)→awD P c K σ→awD P c K' σ:=by
 intro c
 induction c with
 | skip=>intro K K' σ h hx; exact h _ _ hx
 | region n ops tr=>intro K K' σ h hx; exact awOps_mono _ (fun σ hx=>h _ _ hx) hx
 | regionA n ops ps tr=>intro K K' σ h hx; exact awOps_mono _ (fun σ hx=>⟨hx.1,h _ _ hx.2⟩) hx
 | seq a b iha ihb =>
  intro K K' σ h hx
  refine iha _ _ σ ?_ hx
  intro e σ hx
  cases e with
  | normal=>exact ihb _ _ _ h hx
  | exit i=>exact h _ _ hx
  | ret=>exact h _ _ hx
 | cond c x y ihx ihy =>
  intro K K' σ h hx
  unfold awD at hx ⊢
  split at hx
  ·exact⟨fun hb=>ihx _ _ _ h (hx.1 hb),fun hb=>ihy _ _ _ h (hx.2 hb)⟩
  ·exact hx
 | block i b ih =>
  intro K K' σ h hx
  refine ih _ _ σ ?_ hx
  intro e σ hx
  cases e with
  | normal=>exact h _ _ hx
  | exit j =>
   simp only[inBlk] at hx ⊢
   split at hx
   ·rename_i hc; rw [if_pos hc]; exact h _ _ hx
   ·rename_i hc; rw [if_neg hc]; exact h _ _ hx
  | ret=>exact h _ _ hx
 | loop tr b ih =>
  intro K K' σ h ⟨I,h0,hI⟩
  refine⟨I,h0,fun n σ hn=>ih _ _ σ ?_ (hI n σ hn)⟩
  intro e σ hx
  cases e with
  | normal=>exact hx
  | exit i=>exact h _ _ hx
  | ret=>exact h _ _ hx
 | exit i=>intro K K' σ h hx; exact h _ _ hx
 | ret=>intro K K' σ h hx; exact h _ _ hx
 | scope b ih=>intro K K' σ h hx; exact ih _ _ σ h hx
 | bad=>intro K K' σ h hx; exact hx
abbrev Kf:=Fr→Hp→Prop
def wOps(P:Program)(base:Nat):List Op2→Fr→Hp→Kf→Prop
 | [],fr,hp,N=>N fr hp
 | o :: r,fr,hp,N=>∃ v hp',Out P base o fr hp v hp'∧wOps P base r (consO fr o.dst v) hp' N
def thenC(N:Kf)(K:AE→Kf):AE→Kf
 | .normal=>N
 | e=>K e
def blkC(id:Nat)(K:AE→Kf):AE→Kf
 | .exit id',fr,hp=>if id'=id then K .normal fr hp else K (.exit id') fr hp
 | e,fr,hp=>K e fr hp
def condC(c:AV)(A B:Kf)(fr:Fr)(hp:Hp):Prop:=match c with
 | .bool b=>(b=true→A fr hp) ∧(b=false→B fr hp)
 | _=>False
def onSt(N:Kf)(σ:St):Prop:=N σ.fr σ.hp
def trimC(tr:Option Trim)(N:Kf)(fr:Fr)(hp:Hp):Prop:=match tr with
 | none=>False
 | some t=>onSt N (trim (some t) ⟨ksF fr t.ks,hp⟩)
def apsC(ps:List (Nat × Nat))(N:Kf)(fr:Fr)(hp:Hp):Prop:=apB ps fr=true∧N fr hp
def aD(P:Program):AC →(AE→Kf)→Kf
 | .skip,K=>K .normal
 | .region n ops tr,K=>fun fr hp=>wOps P hp.length ops fr (hp ++ List.replicate n none) (trimC tr (K .normal))
 | .regionA n ops ps tr,K=>fun fr hp=>wOps P hp.length ops fr (hp ++ List.replicate n none) (apsC ps (trimC tr (K .normal)))
 | .seq a b,K=>aD P a (thenC (aD P b K) K)
 | .cond c x y,K=>fun fr hp=>condC (evF fr c) (aD P x K) (aD P y K) fr hp
 | .block id b,K=>aD P b (blkC id K)
 | .loop tr b,K=>fun fr hp=>∃ I:Nat→Kf,trimC tr (fun fr hp=>∃ n,I n fr hp) fr hp∧∀ n fr hp,I n fr hp→aD P b (thenC (trimC tr fun fr hp=>∃ m,m < n∧I m fr hp) K) fr hp
 | .exit id,K=>K (.exit id)
 | .ret,K=>K .ret
 | .scope b,K=>aD P b K
 | .bad,_=>fun _ _=>False
section
variable {P:Program}
theorem wOps_sound{base:Nat}:∀ {ops:List Op2} {fr fr0:Fr} {hp:Hp} {N:Kf},wOps P base ops fr hp N→FEq fr fr0→∀ {K:St→Prop},(∀ fr hp frx,N fr hp→FEq fr frx→K ⟨frx,hp⟩)→awOps P base ops ⟨fr0,hp⟩ K
 | [],fr,fr0,hp,N,h,hf,K,hk=>hk _ _ _ h hf
 | o :: r,fr,fr0,hp,N,⟨v,hp',ho,h⟩,hf,K,hk=>by
  refine aw2_out.2 ⟨v,hp',out_congr (fun t _=>hf t) ho,?_⟩
  exact wOps_sound h (hf.cons _ _) hk
theorem trimC_eq{tr:Option Trim}{N:Kf}{a b:Fr}{hp:Hp}(h:trimC tr N a hp)(hf:FEq a b):onSt N (trim tr ⟨b,hp⟩):=by
 cases tr with
 | none=>exact h.elim
 | some t =>
  simp only[trimC,trim,ksF_eq hf] at h ⊢
  have e:((t.ks.map fun k=>(k,get (t.ks.map fun k=>(k,get b k)) k)))=t.ks.map fun k=>(k,get b k):=List.map_congr_left fun k hk=>by rw [get_ks b _ k hk]
  rw [e] at h
  exact h
theorem ksF_id(fr:Fr)(ks:List Nat):ksF fr ks=ks.map fun k=>(k,get fr k):=ksF_eq (fun _=>rfl) ks
theorem aD_mono:∀(c:AC) {K K':AE→Kf} (h:∀ e fr hp,K e fr hp→K' e fr hp) {fr:Fr} {hp:Hp},aD P c K fr hp→aD P c K' fr hp:=by
 have wm:∀(base:Nat) (ops:List Op2) {fr:Fr} {hp:Hp} {N N':Kf},(∀ fr hp,N fr hp→N' fr hp)→wOps P base ops fr hp N→wOps P base ops fr hp N':=by
  intro base ops
  induction ops with
  | nil=>intro fr hp N N' h hx; exact h _ _ hx
  | cons o r ih=>intro fr hp N N' h ⟨v,hp',h1,h2⟩; exact⟨v,hp',h1,ih h h2⟩
 have tm:∀(tr:Option Trim) {fr:Fr} {hp:Hp} {N N':Kf},(∀ fr hp,N fr hp→N' fr hp)→trimC tr N fr hp→trimC tr N' fr hp:=by
  intro tr fr hp N N' h hx
  cases tr with
  | none=>exact hx
  | some t=>exact h _ _ hx
 intro c
 induction c with
 | skip=>intro K K' h fr hp hx; exact h _ _ _ hx
 | region n ops tr=>intro K K' h fr hp hx; exact wm _ _ (fun fr hp=>tm tr (h .normal)) hx
 | regionA n ops ps tr=>intro K K' h fr hp hx; exact wm _ _ (fun fr hp hx=>⟨hx.1,tm tr (h .normal) hx.2⟩) hx
 | seq a b iha ihb =>
  intro K K' h fr hp hx
  refine iha ?_ hx
  intro e fr hp hx
  cases e with
  | normal=>exact ihb h hx
  | exit i=>exact h _ _ _ hx
  | ret=>exact h _ _ _ hx
 | cond c x y ihx ihy =>
  intro K K' h fr hp hx
  simp only[aD,condC] at hx ⊢
  split at hx
  ·exact⟨fun hb=>ihx h (hx.1 hb),fun hb=>ihy h (hx.2 hb)⟩
  ·exact hx
 | block id b ih =>
  intro K K' h fr hp hx
  refine ih ?_ hx
  intro e fr hp hx
  cases e with
  | exit i =>
   simp only[blkC] at hx ⊢
   split at hx
   ·rename_i e; rw [if_pos e]; exact h _ _ _ hx
   ·rename_i e; rw [if_neg e]; exact h _ _ _ hx
  | normal=>exact h _ _ _ hx
  | ret=>exact h _ _ _ hx
 | loop tr b ih =>
  intro K K' h fr hp ⟨I,h0,hI⟩
  refine⟨I,h0,fun n fr hp hn=>ih ?_ (hI n fr hp hn)⟩
  intro e fr hp hx
  cases e with
  | normal=>exact hx
  | exit i=>exact h _ _ _ hx
  | ret=>exact h _ _ _ hx
 | exit i=>intro K K' h fr hp hx; exact h _ _ _ hx
 | ret=>intro K K' h fr hp hx; exact h _ _ _ hx
 | scope b ih=>intro K K' h fr hp hx; exact ih h hx
 | bad=>intro K K' h fr hp hx; exact hx
theorem aD_sound:∀(c:AC) (K:AE→Kf) (fr:Fr) (hp:Hp),aD P c K fr hp→awD P c (fun e σ=>K e σ.fr σ.hp) ⟨fr,hp⟩:=by
 intro c
 induction c with
 | skip=>intro K fr hp h; exact h
 | region n ops tr =>
  intro K fr hp h
  exact wOps_sound h (fun _=>rfl) fun fr hp frx hn hf=>trimC_eq hn hf
 | regionA n ops ps tr =>
  intro K fr hp h
  refine wOps_sound h (fun _=>rfl) fun fr hp frx hn hf=>⟨?_,trimC_eq hn.2 hf⟩
  have e:apB ps frx=apB ps fr:=by
   unfold apB
   congr 1
   funext q
   rw [hf q.1,hf q.2]
  show apB ps frx=true
  rw [e]; exact hn.1
 | seq a b iha ihb =>
  intro K fr hp h
  have:=iha _ fr hp h
  refine awD_mono a _ _ _ ?_ this
  intro e σ hx
  cases e with
  | normal=>exact ihb K σ.fr σ.hp hx
  | exit i=>exact hx
  | ret=>exact hx
 | cond c x y ihx ihy =>
  intro K fr hp h
  simp only[aD,condC,evF_eq] at h
  unfold awD
  show match c.ev fr with | .bool b=>_ | _=>_
  split at h
  ·rename_i b hb
   exact⟨fun e=>ihx K fr hp (h.1 e),fun e=>ihy K fr hp (h.2 e)⟩
  ·exact h.elim
 | block id b ih =>
  intro K fr hp h
  refine awD_mono b _ _ _ ?_ (ih _ fr hp h)
  intro e σ hx
  cases e with
  | normal=>exact hx
  | exit i=>exact hx
  | ret=>exact hx
 | loop tr b ih =>
  intro K fr hp ⟨I,h0,hI⟩
  refine⟨fun n σ=>I n σ.fr σ.hp,trimC_eq h0 (fun _=>rfl),fun n σ hn=>?_⟩
  refine awD_mono b _ _ _ ?_ (ih _ σ.fr σ.hp (hI n σ.fr σ.hp hn))
  intro e σ hx
  cases e with
  | normal=>exact trimC_eq (N:=fun fr hp=>∃ m,m < n∧I m fr hp) hx (fun _=>rfl)
  | exit i=>exact hx
  | ret=>exact hx
 | exit i=>intro K fr hp h; exact h
 | ret=>intro K fr hp h; exact h
 | scope b ih=>intro K fr hp h; exact ih K fr hp h
 | bad=>intro K fr hp h; exact h.elim
end
end Go.Pv
