/- Part 14 of a proof that a step of one domain changes nothing of another: the machine of plain values, and what the program's functions do. -/
import Derived.Test.YtdgcdnnmodnkjaaGreatDoorG13
set_option linter.all false
set_option linter.unusedVariables false
set_option linter.unusedSectionVars false
set_option linter.unusedSimpArgs false
set_option linter.defProp false
namespace Go.Pv
variable [Lq]
section
variable {P:Program} {K:AE→Kf} {N:Kf} {fr:Fr} {hp:Hp} {base:Nat}
theorem d_scope{b:AC}:aD P (.scope b) K fr hp=aD P b K fr hp:=(rfl)
theorem d_region0{ops:List Op2}{tr:Option Trim}:aD P (.region 0 ops tr) K fr hp=wOps P hp.length ops fr hp (trimC tr (K .normal)):=by
 show wOps P hp.length ops fr (hp ++ []) _=_
 rw [List.append_nil]
theorem thenC_n{A:Kf}:thenC A K .normal fr hp=A fr hp:=(rfl)
theorem thenC_r{A:Kf}:thenC A K .ret fr hp=K .ret fr hp:=(rfl)
theorem thenC_e{A:Kf}{i:Nat}:thenC A K (.exit i) fr hp=K (.exit i) fr hp:=(rfl)
theorem blkC_n{i:Nat}:blkC i K .normal fr hp=K .normal fr hp:=(rfl)
theorem blkC_r{i:Nat}:blkC i K .ret fr hp=K .ret fr hp:=(rfl)
theorem blkC_e{i j:Nat}:blkC i K (.exit j) fr hp=if j=i then K .normal fr hp else K (.exit j) fr hp:=(rfl)
theorem condC_t{A B:Kf}:condC (.bool true) A B fr hp=A fr hp:=by simp [condC]
theorem condC_f{A B:Kf}:condC (.bool false) A B fr hp=B fr hp:=by simp [condC]
theorem condC_d{A B:Kf}{p:Prop}[Decidable p](h:p→A fr hp)(h':¬ p→B fr hp):condC (.bool (decide p)) A B fr hp:=⟨fun e=>h (of_decide_eq_true e),fun e=>h' (of_decide_eq_false e)⟩
theorem condC_b{A B:Kf}{b:Bool}(h:b=true→A fr hp)(h':b=false→B fr hp):condC (.bool b) A B fr hp:=⟨h,h'⟩
def gcN(l:List Nat)(N:Kf)(fr:Fr)(hp:Hp):Prop:=N (fr.map fun p=>(p.1,renX l deep p.2)) (l.map fun id=>renE l (ent hp id))
def gcC(N:Kf)(fr:Fr)(hp:Hp):Prop:=gcN (dedup [] (fr.flatMap fun p=>idsOf hp deep p.2)) N fr hp
def nil1(x:AV)(n:Nat × Nat × TypeId)(N:Kf)(fr:Fr)(hp:Hp):Prop:=onSt N (if n.2.1=1000000 then frzSlot ⟨fr,hp⟩ x else if n.2.1=1000001 then frzFld ⟨fr,hp⟩ n.2.2 x else match x with
 | .sl _ [] true=>⟨put fr n.1 (.vec hp.length n.2.1 0 0),hp ++ [some ⟨n.2.2,[],true⟩]⟩
 | _=>⟨fr,hp⟩)
def nilsC:List (Nat × Nat × TypeId)→Bool→Kf→Kf
 | [],g,N=>fun fr hp=>bif g then gcC N fr hp else N fr hp
 | n :: r,g,N=>fun fr hp=>nil1 (get fr n.1) n (nilsC r g N) fr hp
theorem nilsC_eq:∀(ns:List (Nat × Nat × TypeId)) (g:Bool) (N:Kf) (fr:Fr) (hp:Hp),nilsC ns g N fr hp=onSt N (if g then gcSt (ns.foldl rowOne ⟨fr,hp⟩) else ns.foldl rowOne ⟨fr,hp⟩)
 | [],g,N,fr,hp=>by cases g <;> rfl
 | n :: r,g,N,fr,hp=>by
  show onSt (nilsC r g N) (rowOne ⟨fr,hp⟩ n)=_
  exact nilsC_eq r g N _ _
theorem trimC_e{ks:List Nat}{ns:List (Nat × Nat × TypeId)}{g:Bool}:trimC (some ⟨ks,ns,g⟩) N fr hp=nilsC ns g N (ksF fr ks) hp:=by
 rw [nilsC_eq]
 simp only[trimC,trim]
 have e:((ks.map fun k=>(k,get (ksF fr ks) k)))=ksF fr ks:=by
  rw [ksF_id]; exact List.map_congr_left fun k hk=>by rw [get_ks fr _ k hk]
 rw [e]
theorem nilsC_0:nilsC [] false N fr hp=N fr hp:=(rfl)
theorem nilsC_g:nilsC [] true N fr hp=gcC N fr hp:=(rfl)
theorem nilsC_c{n:Nat × Nat × TypeId}{r:List (Nat × Nat × TypeId)}{g:Bool}:nilsC (n :: r) g N fr hp=nil1 (getF fr n.1) n (nilsC r g N) fr hp:=by rw [getF_eq]; rfl
theorem nil1_n{z s sz:Nat}{ty:TypeId}(h:sz < 1000000):nil1 (.sl z [] true) (s,sz,ty) N fr hp=N (put fr s (.vec hp.length sz 0 0)) (hp ++ [some ⟨ty,[],true⟩]):=by
 simp only[nil1]; rw [if_neg (by omega),if_neg (by omega)]; rfl
theorem nil1_v{id z off len s sz:Nat}{ty:TypeId}(h:sz < 1000000):nil1 (.vec id z off len) (s,sz,ty) N fr hp=N fr hp:=by
 simp only[nil1]; rw [if_neg (by omega),if_neg (by omega)]; rfl
theorem gcC_e:gcC N fr hp=gcN (dedup [] (fr.flatMap fun p=>idsOf hp 6 p.2)) N fr hp:=(rfl)
theorem gcN_0:gcN [] N fr hp=N (fr.map fun p=>(p.1,renX [] 6 p.2)) []:=(rfl)
theorem gcN_c{i:Nat}{l:List Nat}:gcN (i :: l) N fr hp=N (fr.map fun p=>(p.1,renX (i :: l) 6 p.2)) ((i :: l).map fun id=>renE (i :: l) (ent hp id)):=(rfl)
theorem apsC_0:apsC [] N fr hp=N fr hp:=by simp [apsC,apB]
def ap1(X Y:AV)(p:Prop):Prop:=(match X,Y with
 | .eptr i _ _,.eptr j _ _=>i≠j
 | .rptr ..,.eptr ..=>True
 | .rptr ..,.rptr ..=>True
 | _,_=>False)∧p
theorem apsC_c{t s:Nat}{ps:List (Nat × Nat)}:apsC ((t,s) :: ps) N fr hp=ap1 (getF fr t) (getF fr s) (apsC ps N fr hp):=by
 simp only[apsC,ap1,apB,List.all_cons,Bool.and_eq_true,getF_eq]
 generalize get fr t=X
 generalize get fr s=Y
 rw [and_assoc]
 congr 1
 cases X <;> cases Y <;> simp
theorem ap1_ee{i a b j c d:Nat}{p:Prop}(h:i≠j):ap1 (.eptr i a b) (.eptr j c d) p=p:=by simp [ap1,h]
theorem ap1_re{x:AV}{o j c d:Nat}{p:Prop}:ap1 (.rptr x o) (.eptr j c d) p=p:=by simp [ap1]
theorem ap1_rr{x y:AV}{o c:Nat}{p:Prop}:ap1 (.rptr x o) (.rptr y c) p=p:=by simp [ap1]
theorem getF_c{k t:Nat}{x:AV}{r:Fr}:getF ((k,x) :: r) t=if k=t then x else getF r t:=by
 by_cases e:k=t
 ·subst e; simp [getF]
 ·have:Nat.beq k t=false:=by
   cases hb:Nat.beq k t with
   | false=>rfl
   | true=>exact absurd (Nat.eq_of_beq_eq_true hb) e
  simp [getF,this,e]
theorem evF_t{n:Nat}:evF fr (.t n)=getF fr n:=(rfl)
theorem evF_c{v:AV}:evF fr (.c v)=v:=(rfl)
theorem ksF_0:ksF fr []=[]:=(rfl)
theorem ksF_c{k:Nat}{r:List Nat}:ksF fr (k :: r) =(k,getF fr k) :: ksF fr r:=(rfl)
theorem consO_s{d:Nat}{x:AV}:consO fr (some d) x =(d,x) :: fr:=(rfl)
def putC(P:Program)(base:Nat)(r:List Op2)(d:Option Nat)(N:Kf)(fr:Fr)(hp:Hp)(x:AV):Prop:=wOps P base r (consO fr d x) hp N
def putE(P:Program)(base:Nat)(r:List Op2)(d:Option Nat)(N:Kf)(fr:Fr)(x:AV)(hp:Hp):Prop:=wOps P base r (consO fr d x) hp N
def vO(o:Option AV)(C:AV→Prop):Prop:=match o with
 | some x=>C x
 | none=>False
def vOE(o:Option (AV × Hp))(C:AV→Hp→Prop):Prop:=match o with
 | some p=>C p.1 p.2
 | none=>False
def vP(q:OpP)(C:AV→Prop):Prop:=vO (evP [] q) C
def fixP(fr:Fr):OpP→OpP
 | .mv x=>.mv (fix1 fr x)
 | .pick c a b=>.pick (fix1 fr c) (fix1 fr a) (fix1 fr b)
 | .bin op x y=>.bin op (fix1 fr x) (fix1 fr y)
 | .binB op x y=>.binB op (fix1 fr x) (fix1 fr y)
 | .un op x=>.un op (fix1 fr x)
 | .convI k x=>.convI k (fix1 fr x)
 | .same x=>.same (fix1 fr x)
 | .faddr o x=>.faddr o (fix1 fr x)
 | .field o n g x=>.field o n g (fix1 fr x)
 | .iaddr s x i=>.iaddr s (fix1 fr x) (fix1 fr i)
 | .aaddr l s x i=>.aaddr l s (fix1 fr x) (fix1 fr i)
 | .idxs x i=>.idxs (fix1 fr x) (fix1 fr i)
 | .idxa l s g x i=>.idxa l s g (fix1 fr x) (fix1 fr i)
 | .slices x lo hi=>.slices (fix1 fr x) (lo.map (fix1 fr)) (hi.map (fix1 fr))
 | .slicev s x lo hi mx=>.slicev s (fix1 fr x) (lo.map (fix1 fr)) (hi.map (fix1 fr)) (mx.map (fix1 fr))
 | .ext x i=>.ext (fix1 fr x) i
 | .len x=>.len (fix1 fr x)
 | .lenS x=>.lenS (fix1 fr x)
 | .lenc n=>.lenc n
 | .minmax m x y=>.minmax m (fix1 fr x) (fix1 fr y)
 | .idxb x c=>.idxb (fix1 fr x) (fix1 fr c)
 | .nilck x=>.nilck (fix1 fr x)
 | .build z ps=>.build z (ps.map fun p=>(p.1,p.2.1,fix1 fr p.2.2))
 | .mkfn f cs=>.mkfn f (cs.map (fix1 fr))
 | .isnil n x=>.isnil n (fix1 fr x)
 | .isnilp n x=>.isnilp n (fix1 fr x)
 | .asI t z x=>.asI t z (fix1 fr x)
 | .eqS n ks x y=>.eqS n ks (fix1 fr x) (fix1 fr y)
theorem fixP_eq(fr:Fr)(q:OpP):evP [] (fixP fr q)=evP fr q:=by
 have h:FEq fr fr:=fun _=>rfl
 cases q with
 | slicev sz x lo hi mx =>
  unfold fixP
  cases mx with
  | none=>simp only[evP,fix_eq h,fixO_eq h,Option.map_none]
  | some m=>cases hi <;> simp only[evP,fix_eq h,fixO_eq h,Option.map_some,Option.map_none,Option.bind_some,Option.bind_none]
 | build z ps =>
  unfold fixP
  simp only[evP,List.map_map]
  congr 2
  apply List.map_congr_left
  intro p _
  simp [fix_eq h]
 | mkfn f cs =>
  unfold fixP
  simp only[evP,List.map_map]
  congr 2
  apply List.map_congr_left
  intro p _
  simp [fix_eq h]
 | _=>simp only[fixP,evP,ev_eq h,fix_eq h,fixO_eq h] <;> rfl
theorem fix1_t{n:Nat}:fix1 fr (.t n)=.c (getF fr n):=(rfl)
theorem fix1_c{v:AV}:fix1 fr (.c v)=.c v:=(rfl)
theorem w_p{d:Option Nat}{q:OpP}{fm:Bool}{no:List TypeId}{r:List Op2}:wOps P base (⟨d,none,.p q,fm,no⟩ :: r) fr hp N=vP (fixP fr q) (putC P base r d N fr hp):=by
 simp only[wOps,Out,Out1,vP,fixP_eq]
 cases evP fr q with
 | none=>simp [vO]
 | some x=>exact propext ⟨fun⟨v,hp',⟨h1,h2⟩,h3⟩=>by cases h1; subst h2; exact h3,fun h=>⟨_,_,⟨rfl,rfl⟩,h⟩⟩
def nlo(no:List TypeId)(hp:Hp)(q:OpR):Prop:=noLoad no [] hp q=true
theorem w_r{d:Option Nat}{q:OpR}{fm:Bool}{no:List TypeId}{r:List Op2}:wOps P base (⟨d,none,.r q,fm,no⟩ :: r) fr hp N =(nlo no hp (fixR fr q)∧vO (evR [] hp (fixR fr q)) (putC P base r d N fr hp)):=by
 have h:FEq fr fr:=fun _=>rfl
 simp only[wOps,Out,Out1,nlo,(fixR_eq h hp no q).1,(fixR_eq h hp no q).2]
 cases evR fr hp q with
 | none=>simp [vO]
 | some x=>exact propext ⟨fun⟨v,hp',⟨h1,h2,h3⟩,h4⟩=>by cases h1; subst h3; exact⟨h2,h4⟩,fun h=>⟨_,_,⟨rfl,h.1,rfl⟩,h.2⟩⟩
theorem nlo_nil{q:OpR}:nlo [] hp q=True:=by
 have:noLoad [] [] hp q=true:=by
                    unfold noLoad; repeat' split
                    all_goals first | rfl | simp
 simp [nlo,this]
theorem nlo_b2s{no:List TypeId}{x:AX}:nlo no hp (.b2s x)=True:=by simp [nlo,noLoad]
theorem nlo_rptr{no:List TypeId}{x:AV}{n off:Nat}{g:Bool}:nlo no hp (.load n g (.c (.rptr x off)))=True:=by simp [nlo,noLoad,AX.ev]
def nloE(no:List TypeId)(e:Option Ent):Prop:=match e with
 | some e=>no.contains e.ty=false
 | none=>True
theorem nlo_eptr{no:List TypeId}{n id i off:Nat}{g:Bool}:nlo no hp (.load n g (.c (.eptr id i off)))=nloE no (ent hp id):=by
 simp only[nlo,noLoad,AX.ev,nloE]; cases ent hp id <;> simp
theorem nloE_some{no:List TypeId}{ty:TypeId}{es:List AV}{wr:Bool}:nloE no (some ⟨ty,es,wr⟩) =(no.contains ty=false):=(rfl)
theorem w_e{d:Option Nat}{q:OpE}{rr:Option Nat}{fm:Bool}{no:List TypeId}{r:List Op2}:wOps P base (⟨d,none,.e q rr,fm,no⟩ :: r) fr hp N=vOE (evE base rr [] hp (fixE fr q)) (putE P base r d N fr):=by
 have h:FEq fr fr:=fun _=>rfl
 simp only[wOps,Out,Out1,fixE_eq h]
 cases evE base rr fr hp q with
 | none=>simp [vOE]
 | some x =>
  simp only[vOE,putE,Option.some.injEq]
  exact propext ⟨fun⟨v,hp',h1,h2⟩=>by subst h1; exact h2,fun h=>⟨_,_,rfl,h⟩⟩
def guardC(c:AV)(want:Bool)(A B:Kf)(d:Option Nat)(fr:Fr)(hp:Hp):Prop:=match c with
 | .bool b=>if b=want then A fr hp else B (consO fr d skp) hp
 | .lit v=>notBool v=true∧B (consO fr d skp) hp
 | _=>False
def opsK(P:Program)(base:Nat)(r:List Op2)(N:Kf):Kf:=fun fr hp=>wOps P base r fr hp N
theorem w_g{d:Option Nat}{t:Nat}{want:Bool}{o:Op1}{fm:Bool}{no:List TypeId}{r:List Op2} :
  wOps P base (⟨d,some (t,want),o,fm,no⟩ :: r) fr hp N=guardC (getF fr t) want (opsK P base (⟨d,none,o,fm,no⟩ :: r) N) (opsK P base r N) d fr hp:=by
 have e:∀(g:Option (Nat × Bool)) (v:AV) (hp':Hp),Out1 P base ⟨d,g,o,fm,no⟩ fr hp v hp'=Out1 P base ⟨d,none,o,fm,no⟩ fr hp v hp':=fun _ _ _=>by cases o <;> rfl
 simp only[opsK,wOps,Out,guardC,getF_eq,e]
 generalize get fr t=v
 cases v with
 | bool b =>
  by_cases hb:b=want
  ·simp only[if_pos hb]
  ·simp only[if_neg hb]
   exact propext ⟨fun⟨v,hp',⟨h1,h2⟩,h3⟩=>by subst h1 h2; exact h3,fun h=>⟨_,_,⟨rfl,rfl⟩,h⟩⟩
 | lit u=>exact propext ⟨fun⟨v,hp',⟨h0,h1,h2⟩,h3⟩=>by subst h1 h2; exact⟨h0,h3⟩,fun h=>⟨_,_,⟨h.1,rfl,rfl⟩,h.2⟩⟩
 | _=>simp
section
variable {A B:Kf} {d:Option Nat}
theorem gC_tt:guardC (.bool true) true A B d fr hp=A fr hp:=(rfl)
theorem gC_ff:guardC (.bool false) false A B d fr hp=A fr hp:=(rfl)
theorem gC_tf:guardC (.bool true) false A B d fr hp=B (consO fr d skp) hp:=(rfl)
theorem gC_ft:guardC (.bool false) true A B d fr hp=B (consO fr d skp) hp:=(rfl)
theorem gC_s{w:Bool}:guardC skp w A B d fr hp=B (consO fr d skp) hp:=by simp [guardC,skp,notBool,Go.undef]
theorem gC_d0{p:Prop}[Decidable p](h:¬ p→A fr hp)(h':p→B (consO fr d skp) hp):guardC (.bool (decide p)) false A B d fr hp:=by
 by_cases hp:p
 ·simp only[guardC,decide_eq_true hp]; exact h' hp
 ·simp only[guardC,decide_eq_false hp]; exact h hp
theorem gC_d1{p:Prop}[Decidable p](h:p→A fr hp)(h':¬ p→B (consO fr d skp) hp):guardC (.bool (decide p)) true A B d fr hp:=by
 by_cases hp:p
 ·simp only[guardC,decide_eq_true hp]; exact h hp
 ·simp only[guardC,decide_eq_false hp]; exact h' hp
end
def wCall(P:Program)(f:FuncId)(ys:List AV)(hp:Hp)(dr fm:Bool)(no:List TypeId)(E:AV→Hp→Prop):Prop :=
 ∃ r H',Gen P f ys hp r H' ∧(dr=true→Grow no hp H' ∧(fm=true→Framed P f ys hp r H'))∧E r H'
theorem w_call{d:Option Nat}{f:FuncId}{xs:List AX}{dr fm:Bool}{no:List TypeId}{r:List Op2} :
  wOps P base (⟨d,none,.call f xs dr,fm,no⟩ :: r) fr hp N=wCall P f (xs.map (evF fr)) hp dr fm no (putE P base r d N fr):=by
 have h:FEq fr fr:=fun _=>rfl
 simp only[wOps,Out,Out1,wCall,putE,evs_eq h,and_assoc]
def wCallv(P:Program)(x:AV)(ys:List AV)(hp:Hp)(E:AV→Hp→Prop):Prop:=match x with
 | .fn f caps=>f < ifB∧∃ r H',Gen P (fnId f) (fnArgs f ys caps) hp r H'∧hp.length≤H'.length∧E r H'
 | _=>False
theorem w_callv{d:Option Nat}{x:AX}{xs:List AX}{fm:Bool}{no:List TypeId}{r:List Op2} :
  wOps P base (⟨d,none,.callv x xs,fm,no⟩ :: r) fr hp N=wCallv P (evF fr x) (xs.map (evF fr)) hp (putE P base r d N fr):=by
 have h:FEq fr fr:=fun _=>rfl
 simp only[wOps,Out,Out1,wCallv,putE,evs_eq h,ev_eq h]
 generalize x.ev fr=v
 cases v with
 | fn f caps=>simp only[and_assoc,exists_and_left]
 | _=>simp
def wCalli(P:Program)(o:Option (FuncId × AV))(ys:List AV)(hp:Hp)(E:AV→Hp→Prop):Prop:=match o with
 | some (f,y)=>∃ r H',Gen P f (y :: ys) hp r H'∧hp.length≤H'.length∧E r H'
 | none=>False
theorem w_calli{d:Option Nat}{m:String}{x:AX}{xs:List AX}{fm:Bool}{no:List TypeId}{r:List Op2} :
  wOps P base (⟨d,none,.calli m x xs,fm,no⟩ :: r) fr hp N=wCalli P (recvI P m hp (evF fr x)) (xs.map (evF fr)) hp (putE P base r d N fr):=by
 have h:FEq fr fr:=fun _=>rfl
 simp only[wOps,Out,Out1,wCalli,putE,evs_eq h,ev_eq h]
 generalize recvI P m hp (x.ev fr)=v
 cases v with
 | some q=>simp only[and_assoc]
 | none=>simp
def vLay(r:AV)(hp:Hp)(E:AV→Hp→Prop):Prop:=E (lay hp r).1 (lay hp r).2
section
variable {f:FuncId} {args ys:List AV} {l:List Nat} {E:AV→Hp→Prop} {Q:AV→Prop}
theorem call_rn{dr fm:Bool}{no:List TypeId}(hp':pass hp [] args=some (ys,hp,l))(hv:liveB hp l=true)(h:∃ r,Run P f ys r∧Q r)(hk:∀ r,Q r→vLay r (still hp l) E):wCall P f args hp dr fm no E:=by
 obtain ⟨r,hr,hq⟩:=h
 refine⟨_,_,gen_still hr hp' hv,fun _=>⟨?_,fun _=>framed_pass hr hp' hv⟩,hk r hq⟩
 obtain ⟨l',hl'⟩:=lay_app (still hp l) r
 rw [hl']
 exact grow_more (grow_still _ _) _
theorem call_nr{dr fm:Bool}{no:List TypeId}(h:∃ r,Run P f args r∧Q r)(hn:args.all AV.nr1=true)(hk:∀ r,Q r→vLay r hp E):wCall P f args hp dr fm no E :=
 call_rn (l:=[]) (pass_nr hn) rfl h hk
theorem lay_len2(hp:Hp)(r:AV):hp.length ≤(lay hp r).2.length:=by
 obtain ⟨l',hl'⟩:=lay_app hp r
 rw [hl']; simp
theorem callv_run{g:FuncId}{caps:List AV}(hp':pass hp [] (fnArgs g args caps)=some (ys,hp,l))(hv:liveB hp l=true)(h:∃ r,Run P (fnId g) ys r∧Q r)(hk:∀ r,Q r→vLay r (still hp l) E)(hg:g < ifB:=by decide):wCallv P (.fn g caps) args hp E:=by
 obtain ⟨r,hr,hq⟩:=h
 refine⟨hg,_,_,gen_still hr hp' hv,?_,hk r hq⟩
 exact Nat.le_trans (Nat.le_of_eq (still_len l hp).symm) (lay_len2 _ _)
theorem callv_nr{g:FuncId}{caps:List AV}(h:∃ r,Run P (fnId g) (fnArgs g args caps) r∧Q r)(hn:(fnArgs g args caps).all AV.nr1=true)(hk:∀ r,Q r→vLay r hp E)(hg:g < ifB:=by decide):wCallv P (.fn g caps) args hp E :=
 callv_run (l:=[]) (pass_nr hn) rfl h hk hg
theorem call_gen{r:AV}{H':Hp}{no:List TypeId}{fm:Bool}(h:Gen P f args hp r H')(hk:E r H'):wCall P f args hp false fm no E:=⟨r,H',h,(fun h=>by cases h),hk⟩
theorem call_genQ{Q:AV→Hp→Prop}{no:List TypeId}{fm:Bool}(h:∃ r H',Gen P f args hp r H'∧Q r H')(hk:∀ r H',Q r H'→E r H'):wCall P f args hp false fm no E:=by
 obtain ⟨r,H',h,hq⟩:=h; exact⟨r,H',h,(fun h=>by cases h),hk _ _ hq⟩
theorem callv_genQ{g:FuncId}{caps:List AV}{Q:AV→Hp→Prop}(h:∃ r H',Gen P (fnId g) (fnArgs g args caps) hp r H'∧Q r H')(hl:∀ r H',Q r H'→hp.length≤H'.length)(hk:∀ r H',Q r H'→E r H')(hg:g < ifB:=by decide):wCallv P (.fn g caps) args hp E:=by
 obtain ⟨r,H',h,hq⟩:=h; exact⟨hg,r,H',h,hl _ _ hq,hk _ _ hq⟩
end
def fin(o:Option AV)(Q:AV→Prop)(hp:Hp):Prop:=∃ x,o=some x∧∃ r ms H1 l,hand hp ms x=some (r,H1,l)∧liveB H1 l=true∧Q r
def endC(rs:List RV)(Q:AV→Prop):AE→Kf
 | .exit _,_,_=>False
 | _,fr,hp=>fin (rvs rs ⟨fr,hp⟩) Q hp
theorem endC_r{rs:List RV}{Q:AV→Prop}:endC rs Q .ret fr hp=fin (rvs rs ⟨fr,hp⟩) Q hp:=(rfl)
theorem fin_nr{x:AV}{Q:AV→Prop}(hn:nrR x=true)(h:Q x):fin (some x) Q hp:=by
 refine⟨x,rfl,x,[],hp,[],?_,rfl,h⟩
 cases x with
 | tup xs=>simp only[hand,handT_nr hn,Option.map_some]
 | _=>exact hand_nr hn
theorem run_v(hP:ProgOk P){fz:List Nat}{f m:Nat}{rs:List RV}{c:AC}(h:okRun P true fz f m rs=true)(hc:shal P true fz f=c){xs:List AV}{Q:AV→Prop}(hl:xs.length≤m)(hx:aD P c (endC rs Q) (entry xs).fr (entry xs).hp):∃ r,Run P f xs r∧Q r:=by
 subst hc
 refine run_q hP h hl (awD_mono _ _ _ _ ?_ (aD_sound _ _ _ _ hx))
 intro e σ hx
 have key:∀ e:AE,e=.normal∨e=.ret→fin (rvs rs σ) Q σ.hp→EndsQ (rvs rs) Q e σ:=by
  rintro e he ⟨x,h1,r,ms,H1,l,h2,h3,h4⟩
  refine⟨r,h4,?_⟩
  rcases he with rfl | rfl <;> exact⟨x,h1,ms,H1,l,h2,h3⟩
 cases e with
 | normal=>exact key _ (.inl rfl) hx
 | ret=>exact key _ (.inr rfl) hx
 | exit i=>exact hx.elim
def finG(o:Option AV)(Q:AV→Hp→Prop)(hp:Hp):Prop:=∃ x,o=some x∧Q x hp
def endG(rs:List RV)(Q:AV→Hp→Prop):AE→Kf
 | .exit _,_,_=>False
 | _,fr,hp=>finG (rvs rs ⟨fr,hp⟩) Q hp
theorem endG_r{rs:List RV}{Q:AV→Hp→Prop}:endG rs Q .ret fr hp=finG (rvs rs ⟨fr,hp⟩) Q hp:=(rfl)
theorem endG_n{rs:List RV}{Q:AV→Hp→Prop}:endG rs Q .normal fr hp=finG (rvs rs ⟨fr,hp⟩) Q hp:=(rfl)
theorem finG_e{x:AV}{Q:AV→Hp→Prop}:finG (some x) Q hp=Q x hp:=by simp [finG]
def isAt{α:Type}(S:α→St)(I:α→Prop)(fr:Fr)(hp:Hp):Prop:=∃ a,(⟨fr,hp⟩:St)=S a∧I a
theorem d_loop{α:Type}{tr:Option Trim}{b:AC}(S:α→St)(I:α→Prop)(m:α→Nat)(h0:trimC tr (isAt S I) fr hp)
  (hb:∀ a,I a→aD P b (thenC (trimC tr (isAt S fun a'=>I a'∧m a' < m a)) K) (S a).fr (S a).hp):aD P (.loop tr b) K fr hp:=by
 have tm:∀(tr:Option Trim) {fr:Fr} {hp:Hp} {N N':Kf},(∀ fr hp,N fr hp→N' fr hp)→trimC tr N fr hp→trimC tr N' fr hp:=by
  intro tr fr hp N N' h hx
  cases tr with
  | none=>exact hx
  | some t=>exact h _ _ hx
 refine⟨fun n fr hp=>∃ a,(⟨fr,hp⟩:St)=S a∧I a∧m a=n,tm tr (fun fr hp ⟨a,h1,h2⟩=>⟨m a,a,h1,h2,rfl⟩) h0,?_⟩
 rintro n fr hp ⟨a,h1,h2,rfl⟩
 have e1:fr =(S a).fr:=by rw [← h1]
 have e2:hp =(S a).hp:=by rw [← h1]
 subst e1 e2
 refine aD_mono b ?_ (hb a h2)
 intro e fr hp hx
 cases e with
 | normal=>exact tm tr (fun fr hp ⟨a',h3,h4,h5⟩=>⟨m a',h5,a',h3,h4,rfl⟩) hx
 | exit i=>exact hx
 | ret=>exact hx
end
end Go.Pv
namespace Go.Pv
def nth{α:Type}[Inhabited α](l:List α)(k:Nat):α:=l[k]!
theorem nth_get{α:Type}[Inhabited α]{l:List α}{k:Nat}(h:k < l.length):l[k]?=some (nth l k):=by
 rw [nth,getElem!_pos l k h,List.getElem?_eq_getElem h]
theorem nth_mem{α:Type}[Inhabited α]{l:List α}{k:Nat}(h:k < l.length):nth l k∈l:=List.mem_of_getElem? (nth_get h)
theorem nth_of{α:Type}[Inhabited α]{l:List α}{x:α}(h:x∈l):∃ k,k < l.length∧nth l k=x:=by
 obtain ⟨k,hk,rfl⟩:=List.mem_iff_getElem.1 h
 exact⟨k,hk,by have:=nth_get hk; rw [List.getElem?_eq_getElem hk] at this; exact(Option.some.inj this).symm⟩
structure SL(α:Type)(enc:α→AV)(k:Nat) where
 l:List α
 f:Bool
 z:Nat
 h:z=k∨l=[]
 n:l.length≤140737488355328
section
variable {α:Type} {enc:α→AV} {k:Nat}
@[irreducible] def SL.v (s:SL α enc k):AV:=.sl s.z (s.l.map enc) s.f
theorem SL.e(s:SL α enc k):s.v=.sl s.z (s.l.map enc) s.f:=by rw [SL.v]
def SL.of(l:List α)(n:l.length≤140737488355328):SL α enc k:=⟨l,false,k,.inl rfl,n⟩
theorem SL.ofe{l:List α}{n:l.length≤140737488355328}:(.sl k (l.map enc) false:AV) =(SL.of l n:SL α enc k).v:=by rw [SL.e]; rfl
theorem SL.of_l{l:List α}{n:l.length≤140737488355328}:(SL.of l n:SL α enc k).l=l:=rfl
def SL.nil:SL α enc k:=⟨[],true,0,.inr rfl,Nat.zero_le _⟩
theorem SL.nile:(.sl 0 [] true:AV) =(SL.nil:SL α enc k).v:=by rw [SL.e]; rfl
instance:Inhabited (SL α enc k):=⟨SL.nil⟩
theorem SL.one(s:SL α enc k):s.v.one=true:=by rw [SL.e]; rfl
theorem SL.flat(s:SL α enc k):s.v.flat=[s.v]:=by rw [SL.e]; rfl
theorem SL.nr0(s:SL α enc k):s.v.nr0=true:=by rw [SL.e]; rfl
theorem SL.nr1(s:SL α enc k):s.v.nr1=true:=by rw [SL.e]; rfl
theorem SL.pl0(s:SL α enc k):s.v.pl0=true:=by rw [SL.e]; rfl
theorem SL.pl(s:SL α enc k):s.v.pl=true:=by rw [SL.e]; rfl
theorem SL.szOk(s:SL α enc k):szOk k s.v=true:=by
 rw [SL.e]; simp only[Pv.szOk]
 rcases s.h with h | h <;> simp [h]
theorem SL.notStr(s:SL α enc k):notStr s.v=true:=by rw [SL.e]; rfl
theorem SL.elems{hp:Hp}(s:SL α enc k):elems hp s.v=some (s.l.map enc):=by rw [SL.e]; rfl
theorem SL.snap{hp:Hp}{n:Nat}(s:SL α enc k):snap hp (n+1) s.v=some s.v:=by rw [SL.e]; rfl
theorem SL.rows{hp:Hp}{n:Nat}(s:SL α enc k):rows hp (n+1) s.v=[]:=by rw [SL.e]; rfl
theorem SL.ids{hp:Hp}{n:Nat}(s:SL α enc k):idsOf hp (n+1) s.v=[]:=by rw [SL.e]; rfl
theorem SL.ren{l:List Nat}{n:Nat}(s:SL α enc k):renX l (n+1) s.v=s.v:=by rw [SL.e]; rfl
theorem SL.la{hp:Hp}(s:SL α enc k):layA hp s.v =(s.v,hp):=by rw [SL.e]; rfl
end
abbrev IL:=SL Int (AV.int .i64) 1
abbrev UL:=SL Int (AV.int .u32) 1
abbrev BL:=SL UInt8 bv 1
abbrev TL:=SL Bool AV.bool 1
section
variable {C:AV→Prop}
theorem vO_s{x:AV}:vO (some x) C=C x:=(rfl)
theorem v_pick_t{a b:AV}:vP (.pick (.c (.bool true)) (.c a) (.c b)) C=C a:=(rfl)
theorem v_pick_f{a b:AV}:vP (.pick (.c (.bool false)) (.c a) (.c b)) C=C b:=(rfl)
section
variable {k:IntKind} {a b:Int}
theorem v_add:vP (.bin .add (.c (.int k a)) (.c (.int k b))) C=C (.int k (k.wrap (a+b))):=by simp [vP,evP,AX.ev,bin2,int2,vO]
theorem v_sub:vP (.bin .sub (.c (.int k a)) (.c (.int k b))) C=C (.int k (k.wrap (a - b))):=by simp [vP,evP,AX.ev,bin2,int2,vO]
theorem v_mul:vP (.bin .mul (.c (.int k a)) (.c (.int k b))) C=C (.int k (k.wrap (a * b))):=by simp [vP,evP,AX.ev,bin2,int2,vO]
theorem v_quo:vP (.bin .quo (.c (.int k a)) (.c (.int k b))) C =(b≠0∧C (.int k (k.wrap (a.tdiv b)))):=by
 simp only[vP,evP,AX.ev,bin2,int2,if_true]; by_cases h:b=0 <;> simp [h,vO]
theorem v_rem:vP (.bin .rem (.c (.int k a)) (.c (.int k b))) C =(b≠0∧C (.int k (a.tmod b))):=by
 simp only[vP,evP,AX.ev,bin2,int2,if_true]; by_cases h:b=0 <;> simp [h,vO]
theorem v_and:vP (.bin .and (.c (.int k a)) (.c (.int k b))) C=C (.int k (and2 k a b)):=by simp [vP,evP,AX.ev,bin2,int2,vO]
theorem v_or:vP (.bin .or (.c (.int k a)) (.c (.int k b))) C=C (.int k (or2 k a b)):=by simp [vP,evP,AX.ev,bin2,int2,vO]
theorem v_xor:vP (.bin .xor (.c (.int k a)) (.c (.int k b))) C=C (.int k (xor2 k a b)):=by simp [vP,evP,AX.ev,bin2,int2,vO]
theorem v_andNot:vP (.bin .andNot (.c (.int k a)) (.c (.int k b))) C=C (.int k (andNot2 k a b)):=by simp [vP,evP,AX.ev,bin2,int2,vO]
theorem v_eql:vP (.bin .eql (.c (.int k a)) (.c (.int k b))) C=C (.bool (decide (a=b))):=by
 simp only[vP,evP,AX.ev,bin2,int2,if_true,vO]; congr 2
theorem v_neq:vP (.bin .neq (.c (.int k a)) (.c (.int k b))) C=C (.bool (decide (¬ a=b))):=by
 simp only[vP,evP,AX.ev,bin2,int2,if_true,vO]; congr 2; by_cases h:a=b <;> simp [h]
theorem v_lss:vP (.bin .lss (.c (.int k a)) (.c (.int k b))) C=C (.bool (decide (a < b))):=by simp [vP,evP,AX.ev,bin2,int2,vO]
theorem v_leq:vP (.bin .leq (.c (.int k a)) (.c (.int k b))) C=C (.bool (decide (a≤b))):=by simp [vP,evP,AX.ev,bin2,int2,vO]
theorem v_gtr:vP (.bin .gtr (.c (.int k a)) (.c (.int k b))) C=C (.bool (decide (b < a))):=by simp [vP,evP,AX.ev,bin2,int2,vO]
theorem v_geq:vP (.bin .geq (.c (.int k a)) (.c (.int k b))) C=C (.bool (decide (b≤a))):=by simp [vP,evP,AX.ev,bin2,int2,vO]
theorem v_shl{k':IntKind}:vP (.bin .shl (.c (.int k a)) (.c (.int k' b))) C =(0≤b∧C (.int k (k.wrap (a * 2 ^ min b.toNat k.bits)))):=by
 simp only[vP,evP,AX.ev,bin2]; by_cases h:b < 0
 ·rw [if_pos h]; simp [vO,Int.not_le.2 h]
 ·rw [if_neg h]; simp [vO,Int.not_lt.1 h]
theorem v_shr{k':IntKind}:vP (.bin .shr (.c (.int k a)) (.c (.int k' b))) C =(0≤b∧C (.int k (a.fdiv (2 ^ min b.toNat k.bits)))):=by
 simp only[vP,evP,AX.ev,bin2]; by_cases h:b < 0
 ·rw [if_pos h]; simp [vO,Int.not_le.2 h]
 ·rw [if_neg h]; simp [vO,Int.not_lt.1 h]
theorem v_conv{k':IntKind}:vP (.convI k' (.c (.int k a))) C=C (.int k' (k'.wrap a)):=(rfl)
theorem v_min:vP (.minmax false (.c (.int k a)) (.c (.int k b))) C=C (.int k (min a b)):=by simp [vP,evP,AX.ev,vO]
theorem v_max:vP (.minmax true (.c (.int k a)) (.c (.int k b))) C=C (.int k (max a b)):=by simp [vP,evP,AX.ev,vO]
end
theorem v_seql{a b:List UInt8}:vP (.bin .eql (.c (.str a)) (.c (.str b))) C=C (.bool (decide (a=b))):=by
 simp only[vP,evP,AX.ev,bin2,vO]; congr 2; by_cases h:a=b <;> simp [h]
theorem v_sneq{a b:List UInt8}:vP (.bin .neq (.c (.str a)) (.c (.str b))) C=C (.bool (decide (¬ a=b))):=by
 simp only[vP,evP,AX.ev,bin2,vO]; congr 2; by_cases h:a=b <;> simp [h]
theorem v_not{a:Bool}:vP (.un .not (.c (.bool a))) C=C (.bool (!a)):=(rfl)
theorem v_faddr_e{o id i off:Nat}:vP (.faddr o (.c (.eptr id i off))) C=C (.eptr id i (off+o)):=(rfl)
theorem v_faddr_r{o off:Nat}{x:AV}:vP (.faddr o (.c (.rptr x off))) C=C (.rptr x (off+o)):=(rfl)
def rpC(C:AV→Prop)(x:AV):Prop:=C (.rptr x 0)
def vGet(es:List AV)(i:Nat)(C:AV→Prop):Prop:=vO es[i]? C
theorem vGet_z{x:AV}{xs:List AV}:vGet (x :: xs) 0 C=C x:=(rfl)
theorem vGet_map{α:Type}[Inhabited α]{enc:α→AV}{l:List α}{i:Nat}:vGet (l.map enc) i C =(i < l.length∧C (enc (nth l i))):=by
 unfold vGet
 by_cases h:i < l.length
 ·rw [List.getElem?_map,nth_get h]; simp [vO,h]
 ·rw [List.getElem?_map,List.getElem?_eq_none (by omega)]; simp [vO,h]
theorem index_some{n:Nat}{k:IntKind}{i:Int}:index n (.int k i)=if 0≤i∧i < n then some i.toNat else none:=rfl
theorem v_ia_sl{sz z:Nat}{es:List AV}{f:Bool}{k:IntKind}{i:Int}:vP (.iaddr sz (.c (.sl z es f)) (.c (.int k i))) C =(sz=z ∧(0≤i∧i < es.length)∧vGet es i.toNat (rpC C)):=by
 simp only[vP,evP,AX.ev,index_some]
 by_cases h:sz=z
 ·rw [if_pos h]
  by_cases h2:0≤i∧i < es.length
  ·rw [if_pos h2]
   simp only[h,h2,and_self,true_and,vGet,Option.bind_some]
   cases es[i.toNat]? <;> simp [vO,rpC]
  ·rw [if_neg h2]; simp only[Option.bind_none,vO,h2,false_and,and_false]
 ·rw [if_neg h]; simp [h,vO]
theorem v_ia_SL{α:Type}[Inhabited α]{enc:α→AV}{sz:Nat}{s:SL α enc sz}{k:IntKind}{i:Int}:vP (.iaddr sz (.c s.v) (.c (.int k i))) C =((0≤i∧i < s.l.length)∧C (.rptr (enc (nth s.l i.toNat)) 0)):=by
 rw [SL.e,v_ia_sl,vGet_map,List.length_map]
 apply propext
 constructor
 ·rintro ⟨h1,h2,h3,h4⟩; exact⟨h2,h4⟩
 ·rintro ⟨h1,h2⟩
  refine⟨?_,h1,by omega,h2⟩
  rcases s.h with h | h
  ·exact h.symm
  ·rw [h] at h1; simp at h1; omega
theorem v_ia_vec{sz z id off n:Nat}{k:IntKind}{i:Int}:vP (.iaddr sz (.c (.vec id z off n)) (.c (.int k i))) C =(sz=z ∧(0≤i∧i < n)∧C (.eptr id (off+i.toNat) 0)):=by
 simp only[vP,evP,AX.ev,index_some]
 by_cases h:sz=z
 ·rw [if_pos h]
  by_cases h2:0≤i∧i < n
  ·rw [if_pos h2]; simp [h,h2,vO]
  ·rw [if_neg h2]; simp [h2,vO]
 ·rw [if_neg h]; simp [h,vO]
theorem v_aa_e{len sz id j o:Nat}{k:IntKind}{i:Int}:vP (.aaddr len sz (.c (.eptr id j o)) (.c (.int k i))) C =((0≤i∧i < len)∧C (.eptr id j (o+i.toNat * sz))):=by
 simp only[vP,evP,AX.ev,index_some]
 by_cases h2:0≤i∧i < len
 ·rw [if_pos h2]; simp [h2,vO]
 ·rw [if_neg h2]; simp [h2,vO]
theorem v_idxs{s:List UInt8}{k:IntKind}{i:Int}:vP (.idxs (.c (.str s)) (.c (.int k i))) C =((0≤i∧i < s.length)∧C (bv (nth s i.toNat))):=by
 simp only[vP,evP,AX.ev,index_some]
 by_cases h2:0≤i∧i < s.length
 ·rw [if_pos h2,Option.bind_some,nth_get (by omega)]; simp [h2,vO]
 ·rw [if_neg h2]; simp [h2,vO]
theorem v_idxa{len sz:Nat}{g:Bool}{cs:List AV}{k:IntKind}{i:Int}:vP (.idxa len sz g (.c (.agg cs)) (.c (.int k i))) C =((0≤i∧i < len)∧vO (cells (.agg cs) (i.toNat * sz) sz g) C):=by
 simp only[vP,evP,AX.ev,index_some]
 by_cases h2:0≤i∧i < len
 ·rw [if_pos h2]; simp [h2,vO]
 ·rw [if_neg h2]; simp [h2,vO]
theorem bound_some{n:Nat}{k:IntKind}{i:Int}:bound n (.int k i)=if 0≤i∧i≤n then some i.toNat else none:=rfl
theorem v_sl0{sz z:Nat}{es:List AV}{f:Bool}{k:IntKind}{h:Int}:vP (.slicev sz (.c (.sl z es f)) none (some (.c (.int k h))) none) C =((sz=z∨es=[]) ∧(0≤h∧h≤es.length)∧C (.sl z (es.take h.toNat) (f && decide (h.toNat=es.length)))):=by
 simp only[vP,evP,AX.ev,Option.map_none,Option.map_some,boundO,bound_some]
 by_cases h1:sz=z∨es=[]
 ·rw [if_pos h1]
  by_cases h2:0≤h∧h≤es.length
  ·rw [if_pos h2]; simp [h1,h2,vO]
  ·rw [if_neg h2]; simp [h2,vO]
 ·rw [if_neg h1]; simp [h1,vO]
theorem v_sl1{sz z:Nat}{es:List AV}{f:Bool}{k:IntKind}{l:Int}:vP (.slicev sz (.c (.sl z es f)) (some (.c (.int k l))) none none) C =((sz=z∨es=[]) ∧(0≤l∧l≤es.length)∧C (.sl z (es.drop l.toNat) f)):=by
 simp only[vP,evP,AX.ev,Option.map_none,Option.map_some,boundO,bound_some]
 by_cases h1:sz=z∨es=[]
 ·rw [if_pos h1]
  by_cases h2:0≤l∧l≤es.length
  ·rw [Option.bind_some,if_pos h2]; simp [h1,h2,vO,List.take_length]
  ·rw [Option.bind_some,if_neg h2]; simp [h2,vO]
 ·rw [if_neg h1]; simp [h1,vO]
theorem v_sl2{sz z:Nat}{es:List AV}{f:Bool}{k k':IntKind}{l h:Int}:vP (.slicev sz (.c (.sl z es f)) (some (.c (.int k l))) (some (.c (.int k' h))) none) C =((sz=z∨es=[]) ∧(0≤l∧l≤h∧h≤es.length)∧C (.sl z ((es.take h.toNat).drop l.toNat) (f && decide (h.toNat=es.length)))):=by
 simp only[vP,evP,AX.ev,Option.map_none,Option.map_some,boundO,bound_some]
 by_cases h1:sz=z∨es=[]
 ·rw [if_pos h1]
  by_cases h2:0≤h∧h≤es.length
  ·rw [if_pos h2,Option.bind_some]
   by_cases h3:0≤l∧l≤h.toNat
   ·rw [if_pos h3]
    have:0≤l∧l≤h∧h≤es.length:=by omega
    simp [h1,this,vO]
   ·rw [if_neg h3]
    have:¬(0≤l∧l≤h∧h≤es.length):=by omega
    simp [this,vO]
  ·rw [if_neg h2]
   have:¬(0≤l∧l≤h∧h≤es.length):=by omega
   simp [this,vO]
 ·rw [if_neg h1]; simp [h1,vO]
section
variable {α:Type} {enc:α→AV} {sz:Nat} {s:SL α enc sz} {k k':IntKind} {l h:Int}
def SL.take(s:SL α enc sz)(n:Nat):SL α enc sz:=⟨s.l.take n,s.f && decide (n=s.l.length),s.z,by rcases s.h with h | h <;> simp [h],Nat.le_trans (by simp; omega) s.n⟩
def SL.drop(s:SL α enc sz)(n:Nat):SL α enc sz:=⟨s.l.drop n,s.f,s.z,by rcases s.h with h | h <;> simp [h],Nat.le_trans (by simp) s.n⟩
def SL.cut(s:SL α enc sz)(a b:Nat):SL α enc sz:=⟨(s.l.take b).drop a,s.f && decide (b=s.l.length),s.z,by rcases s.h with h | h <;> simp [h],Nat.le_trans (by simp; omega) s.n⟩
theorem SL.zk(s:SL α enc sz):sz=s.z∨s.l.map enc=[]:=by rcases s.h with h | h <;> simp [h]
theorem v_SL0:vP (.slicev sz (.c s.v) none (some (.c (.int k h))) none) C =((0≤h∧h≤s.l.length)∧C (s.take h.toNat).v):=by
 rw [SL.e,v_sl0,List.length_map,SL.e]
 simp only[SL.zk s,true_and,SL.take,List.map_take]
theorem v_SL1:vP (.slicev sz (.c s.v) (some (.c (.int k l))) none none) C =((0≤l∧l≤s.l.length)∧C (s.drop l.toNat).v):=by
 rw [SL.e,v_sl1,List.length_map,SL.e]
 simp only[SL.zk s,true_and,SL.drop,List.map_drop]
theorem v_SL2:vP (.slicev sz (.c s.v) (some (.c (.int k l))) (some (.c (.int k' h))) none) C =((0≤l∧l≤h∧h≤s.l.length)∧C (s.cut l.toNat h.toNat).v):=by
 rw [SL.e,v_sl2,List.length_map,SL.e]
 simp only[SL.zk s,true_and,SL.cut,List.map_drop,List.map_take]
end
section
variable {sz z id off n:Nat} {k k':IntKind} {l h:Int}
theorem v_ve0:vP (.slicev sz (.c (.vec id z off n)) none (some (.c (.int k h))) none) C =(sz=z ∧(0≤h∧h≤n)∧C (.vec id z (off+0) (h.toNat - 0))):=by
 simp only[vP,evP,AX.ev,Option.map_none,Option.map_some,boundO,bound_some]
 by_cases h1:sz=z
 ·rw [if_pos h1]
  by_cases h2:0≤h∧h≤n
  ·rw [if_pos h2]; simp [h1,h2,vO]
  ·rw [if_neg h2]; simp [h2,vO]
 ·rw [if_neg h1]; simp [h1,vO]
theorem v_ve1:vP (.slicev sz (.c (.vec id z off n)) (some (.c (.int k l))) none none) C =(sz=z ∧(0≤l∧l≤n)∧C (.vec id z (off+l.toNat) (n - l.toNat))):=by
 simp only[vP,evP,AX.ev,Option.map_none,Option.map_some,boundO,bound_some]
 by_cases h1:sz=z
 ·rw [if_pos h1]
  by_cases h2:0≤l∧l≤n
  ·rw [Option.bind_some,if_pos h2]; simp [h1,h2,vO]
  ·rw [Option.bind_some,if_neg h2]; simp [h2,vO]
 ·rw [if_neg h1]; simp [h1,vO]
end
theorem v_ext_z{x:AV}{xs:List AV}:vP (.ext (.c (.tup (x :: xs))) 0) C=C x:=(rfl)
theorem v_ext_s{x:AV}{xs:List AV}{i:Nat}:vP (.ext (.c (.tup (x :: xs))) (i+1)) C=vP (.ext (.c (.tup xs)) i) C:=(rfl)
theorem v_len_sl{z:Nat}{es:List AV}{f:Bool}:vP (.len (.c (.sl z es f))) C=C (.int .i64 es.length):=(rfl)
theorem v_len_SL{α:Type}{enc:α→AV}{k:Nat}{s:SL α enc k}:vP (.len (.c s.v)) C=C (.int .i64 s.l.length):=by rw [SL.e,v_len_sl,List.length_map]
theorem v_len_v{id z off n:Nat}:vP (.len (.c (.vec id z off n))) C=C (.int .i64 n):=(rfl)
theorem v_lenS{s:List UInt8}:vP (.lenS (.c (.str s))) C=C (.int .i64 s.length):=(rfl)
theorem v_nilck_e{id i off:Nat}:vP (.nilck (.c (.eptr id i off))) C=C (.eptr id i off):=(rfl)
theorem v_nilck_r{x:AV}{off:Nat}:vP (.nilck (.c (.rptr x off))) C=C (.rptr x off):=(rfl)
def vB(o:Option (List AV))(C:AV→Prop):Prop:=match o with
 | some cs=>C (.agg cs)
 | none=>False
theorem vB_s{cs:List AV}:vB (some cs) C=C (.agg cs):=(rfl)
def evs(ps:List (Nat × Nat × AX)):List (Nat × Nat × AV):=ps.map fun p=>(p.1,p.2.1,p.2.2.ev [])
theorem evs_0:evs []=[]:=rfl
theorem evs_c{a b:Nat}{v:AV}{r:List (Nat × Nat × AX)}:evs ((a,b,.c v) :: r) =(a,b,v) :: evs r:=rfl
theorem v_build{z:List AV}{ps:List (Nat × Nat × AX)}:vP (.build z ps) C=vB (buildC z (evs ps)) C:=by
 simp only[vP,evP,evs]; cases buildC z _ <;> rfl
def evL(xs:List AX):List AV:=xs.map (·.ev [])
theorem v_isnp_e{neg:Bool}{id i off:Nat}:vP (.isnilp neg (.c (.eptr id i off))) C=C (.bool neg):=(rfl)
theorem v_asI{t f:Nat}{z y:AV}(h:ifB≤f):vP (.asI t z (.c (.fn f [y]))) C=if f - ifB=t then C (.tup [y,.bool true]) else C (.tup [z,.bool false]):=by
 simp only[vP,evP,AX.ev,h,if_true]; split <;> rfl
theorem v_eqS{neg:Bool}{ks:List Nat}{xs ys:List AV}{b:Bool}(h:eqCells ks xs ys=some b):vP (.eqS neg ks (.c (.agg xs)) (.c (.agg ys))) C=C (.bool (if neg then !b else b)):=by
 simp only[vP,evP,AX.ev,h,Option.map_some,vO]
end
section
variable {C:AV→Prop} {hp:Hp}
def clC(off n:Nat)(g:Bool)(C:AV→Prop)(x:AV):Prop:=vO (cells x off n g) C
theorem clC_e{off n:Nat}{g:Bool}{x:AV}:clC off n g C x=vO (cells x off n g) C:=(rfl)
def ldE(e:Option Ent)(i off n:Nat)(g:Bool)(C:AV→Prop):Prop:=match e with
 | some e=>vGet e.es i (clC off n g C)
 | none=>False
theorem ldE_s{ty:TypeId}{es:List AV}{wr:Bool}{i off n:Nat}{g:Bool}:ldE (some ⟨ty,es,wr⟩) i off n g C=vGet es i (clC off n g C):=(rfl)
theorem v_ld_r{n off:Nat}{g:Bool}{x:AV}:vO (evR [] hp (.load n g (.c (.rptr x off)))) C=vO (cells x off n g) C:=(rfl)
theorem v_ld_e{n id i off:Nat}{g:Bool}:vO (evR [] hp (.load n g (.c (.eptr id i off)))) C=ldE (ent hp id) i off n g C:=by
 simp only[evR,AX.ev,ldE]
 cases ent hp id with
 | none=>rfl
 | some e=>simp only[Option.bind_some,vGet]; cases e.es[i]? <;> rfl
theorem v_b2s_SL{s:BL}:vO (evR [] hp (.b2s (.c s.v))) C=C (.str s.l):=by
 simp only[evR,AX.ev,SL.e]
 have h:s.z=1∨List.map bv s.l=[]:=by rcases s.h with h | h <;> simp [h]
 rw [if_pos h,toBytes_bys]; rfl
theorem v_b2s_vec{id off n:Nat}:vO (evR [] hp (.b2s (.c (.vec id 1 off n)))) C=vO ((elems hp (.vec id 1 off n)).bind fun es=>(toBytes es).map .str) C:=by
 simp only[evR,AX.ev,if_true]
end
section
variable {E:AV→Hp→Prop} {hp:Hp} {base:Nat} {r:Option Nat}
def vNew(base:Nat)(r:Option Nat)(hp:Hp)(e:Ent)(D:Nat→Hp→Prop):Prop:=match new base r hp e with
 | some p=>D p.1 p.2
 | none=>False
theorem vNew_n{e:Ent}{D:Nat→Hp→Prop}:vNew base none hp e D=D hp.length (hp ++ [some e]):=(rfl)
theorem vNew_s{j:Nat}{e:Ent}{D:Nat→Hp→Prop}:vNew base (some j) hp e D =((base+j < hp.length ∧(ent hp (base+j)).isNone=true)∧D (base+j) (hp.set (base+j) (some e))):=by
 simp only[vNew,new]
 by_cases h:base+j < hp.length ∧(ent hp (base+j)).isNone=true
 ·rw [if_pos h]; simp [h]
 ·rw [if_neg h]; simp only[h,false_and]
def ptC(E:AV→Hp→Prop)(id:Nat)(hp:Hp):Prop:=E (.eptr id 0 0) hp
def rwC(sz n:Nat)(E:AV→Hp→Prop)(id:Nat)(hp:Hp):Prop:=E (.vec id sz 0 n) hp
theorem ptC_e{id:Nat}:ptC E id hp=E (.eptr id 0 0) hp:=(rfl)
theorem rwC_e{sz n id:Nat}:rwC sz n E id hp=E (.vec id sz 0 n) hp:=(rfl)
theorem newVar_v{ty:TypeId}{x:AV}:vOE (newVar base r hp ty x) E=vNew base r hp ⟨ty,[x],true⟩ (ptC E):=by
 simp only[newVar,vNew]; cases new base r hp ⟨ty,[x],true⟩ <;> rfl
theorem newVec_v{sz:Nat}{ty:TypeId}{es:List AV}:vOE (newVec base r hp sz ty es) E=vNew base r hp ⟨ty,es,true⟩ (rwC sz es.length E):=by
 simp only[newVec,vNew]; cases new base r hp ⟨ty,es,true⟩ <;> rfl
theorem e_alloc{ty:TypeId}{z:AV}:vOE (evE base r [] hp (.alloc ty z)) E=vNew base r hp ⟨ty,[z],true⟩ (ptC E):=newVar_v
theorem e_box{ty:TypeId}{x:AV}:vOE (evE base r [] hp (.box ty (.c x))) E =(x.ones=true∧vNew base r hp ⟨ty,[x],true⟩ (ptC E)):=by
 show vOE (if x.ones=true then newVar base r hp ty x else none) E=_
 by_cases h:x.ones=true
 ·rw [if_pos h,newVar_v]; simp [h]
 ·rw [if_neg h]; simp [h,vOE]
def evQ(ps:List (Nat × AX)):List (Nat × AV):=ps.map fun p=>(p.1,p.2.ev [])
theorem evQ_0:evQ []=[]:=rfl
theorem evQ_c{a:Nat}{v:AV}{r:List (Nat × AX)}:evQ ((a,.c v) :: r) =(a,v) :: evQ r:=rfl
def mkE(base:Nat)(r:Option Nat)(hp:Hp)(sz:Nat)(ty:TypeId)(o:Option (List AV))(E:AV→Hp→Prop):Prop:=match o with
 | some es=>vNew base r hp ⟨ty,es,true⟩ (rwC sz es.length E)
 | none=>False
theorem mkE_s{sz:Nat}{ty:TypeId}{es:List AV}:mkE base r hp sz ty (some es) E=vNew base r hp ⟨ty,es,true⟩ (rwC sz es.length E):=(rfl)
theorem e_mks{ty:TypeId}{sz n:Nat}{z:AV}{ps:List (Nat × AX)}:vOE (evE base r [] hp (.mks ty sz z n ps)) E=mkE base r hp sz ty (setParts sz (List.replicate n z) (evQ ps)) E:=by
 simp only[evE,mkE,evQ]
 cases setParts sz (List.replicate n z) _ with
 | none=>rfl
 | some es=>exact newVec_v
theorem e_make{ty:TypeId}{sz:Nat}{z:AV}{k k':IntKind}{a b:Int}:vOE (evE base r [] hp (.make ty sz z (.c (.int k a)) (.c (.int k' b)))) E =((0≤a∧a≤b∧b ≤(lim:Nat))∧vNew base r hp ⟨ty,List.replicate a.toNat z,true⟩ (rwC sz a.toNat E)):=by
 simp only[evE,AX.ev,bound_some]
 by_cases h:0≤b∧b ≤(lim:Nat)
 ·rw [if_pos h,Option.bind_some]
  by_cases h2:0≤a∧a≤b.toNat
  ·rw [if_pos h2,Option.bind_some,newVec_v]
   have:0≤a∧a≤b∧b ≤(lim:Nat):=by omega
   simp [this]
  ·rw [if_neg h2]
   have:¬(0≤a∧a≤b∧b ≤(lim:Nat)):=by omega
   simp only[this,false_and]; rfl
 ·rw [if_neg h]
  have:¬(0≤a∧a≤b∧b ≤(lim:Nat)):=by omega
  simp only[this,false_and]; rfl
def stK(o:Option AV)(hp:Hp)(id:Nat)(ty:TypeId)(es:List AV)(i:Nat)(E:AV→Hp→Prop):Prop:=match o with
 | some x=>E .undef (hp.set id (some ⟨ty,es.set i x,true⟩))
 | none=>False
theorem stK_s{x:AV}{id:Nat}{ty:TypeId}{es:List AV}{i:Nat}:stK (some x) hp id ty es i E=E .undef (hp.set id (some ⟨ty,es.set i x,true⟩)):=(rfl)
def stC(off n:Nat)(v:AV)(hp:Hp)(id:Nat)(ty:TypeId)(es:List AV)(i:Nat)(E:AV→Hp→Prop)(x:AV):Prop:=stK (setCells x v off n) hp id ty es i E
theorem stC_e{off n:Nat}{v x:AV}{id:Nat}{ty:TypeId}{es:List AV}{i:Nat}:stC off n v hp id ty es i E x=stK (setCells x v off n) hp id ty es i E:=(rfl)
def stE(e:Option Ent)(hp:Hp)(id i off n:Nat)(v:AV)(E:AV→Hp→Prop):Prop:=match e with
 | some e=>e.wr=true∧vGet e.es i (stC off n v hp id e.ty e.es i E)
 | none=>False
theorem stE_s{ty:TypeId}{es:List AV}{id i off n:Nat}{v:AV}:stE (some ⟨ty,es,true⟩) hp id i off n v E=vGet es i (stC off n v hp id ty es i E):=by simp [stE]
theorem e_store{n id i off:Nat}{v:AV}:vOE (evE base r [] hp (.store n (.c (.eptr id i off)) (.c v))) E=stE (ent hp id) hp id i off n v E:=by
 simp only[evE,AX.ev,stE]
 cases ent hp id with
 | none=>rfl
 | some e =>
  obtain ⟨ty,es,wr⟩:=e
  simp only[Option.bind_some]
  cases wr with
  | false=>simp [vOE]
  | true =>
   simp only[if_true,vGet,true_and]
   cases es[i]? with
   | none=>rfl
   | some x =>
    simp only[Option.bind_some,vO,stC,stK]
    cases setCells x v off n <;> rfl
def vEls(hp:Hp)(y:AV)(D:List AV→Prop):Prop:=match elems hp y with
 | some ys=>D ys
 | none=>False
section
variable {D:List AV→Prop}
theorem vEls_SL{α:Type}{enc:α→AV}{k:Nat}{s:SL α enc k}:vEls hp s.v D=D (s.l.map enc):=by simp only[vEls,SL.elems]
theorem vEls_sl{z:Nat}{es:List AV}{f:Bool}:vEls hp (.sl z es f) D=D es:=(rfl)
def vElsE(e:Option Ent)(off n:Nat)(D:List AV→Prop):Prop:=match e with
 | some e=>off+n≤e.es.length∧D ((e.es.drop off).take n)
 | none=>False
theorem vEls_vec{id z off n:Nat}:vEls hp (.vec id z off n) D=vElsE (ent hp id) off n D:=by
 simp only[vEls,elems,vElsE]
 cases ent hp id with
 | none=>rfl
 | some e =>
  simp only[Option.bind_some]
  by_cases h:off+n≤e.es.length
  ·rw [if_pos h]; simp [h]
  ·rw [if_neg h]; simp [h]
theorem vElsE_s{ty:TypeId}{es:List AV}{wr:Bool}{off n:Nat}:vElsE (some ⟨ty,es,wr⟩) off n D =(off+n≤es.length∧D ((es.drop off).take n)):=(rfl)
end
def apN(base:Nat)(r:Option Nat)(hp:Hp)(ty:TypeId)(sz lm:Nat)(E:AV→Hp→Prop)(ys:List AV):Prop:=ys.length≤lm∧vNew base r hp ⟨ty,ys,true⟩ (rwC sz ys.length E)
theorem apN_e{ty:TypeId}{sz lm:Nat}{ys:List AV}:apN base r hp ty sz lm E ys =(ys.length≤lm∧vNew base r hp ⟨ty,ys,true⟩ (rwC sz ys.length E)):=(rfl)
theorem e_app_nil{ty:TypeId}{sz lm z:Nat}{y:AV}:vOE (evE base r [] hp (.append ty sz lm (.c (.sl z [] true)) (.c y))) E =(szOk sz y=true∧vEls hp y (apN base r hp ty sz lm E)):=by
 show vOE (if szOk sz y=true then(elems hp y).bind fun ys=>if ys.length≤lm then newVec base r hp sz ty ys else none else none) E=_
 simp only[vEls]
 by_cases h:szOk sz y=true
 ·rw [if_pos h]
  simp only[h,true_and]
  cases elems hp y with
  | none=>rfl
  | some ys =>
   simp only[Option.bind_some,apN]
   by_cases h2:ys.length≤lm
   ·rw [if_pos h2,newVec_v]; simp [h2]
   ·rw [if_neg h2]; simp [h2,vOE]
 ·rw [if_neg h]; simp [h,vOE]
def apV(base:Nat)(r:Option Nat)(hp:Hp)(ty:TypeId)(sz lm id z off n:Nat)(e:Option Ent)(E:AV→Hp→Prop)(ys:List AV):Prop:=match e with
 | some e=>(e.wr=true∧sz=z∧ty=e.ty∧off=0∧n=e.es.length∧n+ys.length≤lm)∧vNew base r (hp.set id (some ⟨e.ty,[],false⟩)) ⟨ty,e.es ++ ys,true⟩ (rwC sz (e.es ++ ys).length E)
 | none=>False
theorem apV_s{ty ty':TypeId}{sz lm id z off n:Nat}{es:List AV}{wr:Bool}{ys:List AV}:apV base r hp ty sz lm id z off n (some ⟨ty',es,wr⟩) E ys =((wr=true∧sz=z∧ty=ty'∧off=0∧n=es.length∧n+ys.length≤lm)∧vNew base r (hp.set id (some ⟨ty',[],false⟩)) ⟨ty,es ++ ys,true⟩ (rwC sz (es ++ ys).length E)):=(rfl)
theorem e_app_vec{ty:TypeId}{sz lm id z off n:Nat}{y:AV}(h:szOk sz y=true∧vEls hp y (apV base r hp ty sz lm id z off n (ent hp id) E)):vOE (evE base r [] hp (.append ty sz lm (.c (.vec id z off n)) (.c y))) E:=by
 obtain ⟨h1,h2⟩:=h
 show vOE (if szOk sz y=true then(elems hp y).bind fun ys=>(ent hp id).bind fun e=>if e.wr∧sz=z∧ty=e.ty∧off=0∧n=e.es.length∧n+ys.length≤lm then
    newVec base r (hp.set id (some { e with es:=[],wr:=false })) sz ty (e.es ++ ys) else if e.wr∧sz=z∧ty=e.ty∧off=0∧n+ys.length≤e.es.length then
    some (.vec id z 0 (n+ys.length),hp.set id (some { e with es:=e.es.take n ++(ys ++ e.es.drop (n+ys.length)) })) else none else none) E
 simp only[vEls] at h2
 rw [if_pos h1]
 cases hy:elems hp y with
 | none=>rw [hy] at h2; exact h2.elim
 | some ys =>
  rw [hy] at h2
  simp only[Option.bind_some]
  cases he:ent hp id with
  | none=>rw [he] at h2; exact h2.elim
  | some e =>
   rw [he] at h2
   obtain ⟨h3,h4⟩:=h2
   simp only[Option.bind_some]
   rw [if_pos h3]
   obtain ⟨ty',es,wr⟩:=e
   rw [newVec_v]
   exact h4
end
theorem map_snoc_i{k:IntKind}{l:List Int}{n:Int}:l.map (AV.int k) ++ [.int k n] =(l ++ [n]).map (AV.int k):=by simp
theorem map_set{α:Type}{enc:α→AV}{l:List α}{i:Nat}{y:α}:(l.map enc).set i (enc y) =(l.set i y).map enc:=by rw [List.map_set]
theorem map_set_i{k:IntKind}{l:List Int}{i:Nat}{n:Int}:(l.map (AV.int k)).set i (.int k n) =(l.set i n).map (AV.int k):=map_set (enc:=AV.int k)
theorem map_take_len{α:Type}{enc:α→AV}{l:List α}:(l.map enc).take l.length=l.map enc:=by rw [← List.length_map (f:=enc),List.take_length]
theorem rep_i{k:IntKind}{n:Nat}{a:Int}:List.replicate n (.int k a) =(List.replicate n a).map (AV.int k):=by simp
end Go.Pv
