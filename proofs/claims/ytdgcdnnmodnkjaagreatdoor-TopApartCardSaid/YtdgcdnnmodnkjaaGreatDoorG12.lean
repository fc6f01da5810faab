/- Part 12 of a proof that a step of one domain changes nothing of another: the machine of plain values, and what the program's functions do. -/
import Derived.Test.YtdgcdnnmodnkjaaGreatDoorG11
set_option linter.all false
set_option linter.unusedVariables false
set_option linter.unusedSectionVars false
set_option linter.unusedSimpArgs false
set_option linter.defProp false
namespace Go.Pv
def bits(l:List Nat):Nat:=l.foldl (fun m k=>Nat.lor m (Nat.pow 2 k)) 0
def less1(m k:Nat):Nat:=Nat.sub m (Nat.land m (Nat.pow 2 k))
def ofBitsA:Nat→Nat→Nat→List Nat
 | 0,_,_=>[]
 | n+1,m,k=>bif Nat.beq m 0 then [] else bif Nat.beq (Nat.mod m 256) 0 then ofBitsA n (Nat.div m 256) (Nat.add k 8) else
  bif Nat.beq (Nat.mod m 2) 1 then k :: ofBitsA n (Nat.div m 2) (Nat.add k 1) else ofBitsA n (Nat.div m 2) (Nat.add k 1)
def liveOps(ops:List Op2)(out:Nat):Nat :=
 ops.foldr (fun o l=>Nat.lor (match o.dst with | some d=>less1 l d | none=>l) (bits o.looks)) out
def apOps(ops:List Op2):List (Nat × Nat × TypeId) :=
 ops.filterMap fun o=>match o.dst,o.op with
  | some s,.p (.mv (.t d))=>(ops.find? fun o2=>o2.dst == some d && (match o2.op with | .e (.append ..) _=>true | _=>false)).bind fun o2=>match o2.op with
   | .e (.append ty sz _ _ _) _=>some (s,sz,ty)
   | _=>none
  | _,_=>none
def apC:AC→List (Nat × Nat × TypeId)
 | .region _ ops _=>apOps ops
 | .regionA _ ops _ _=>apOps ops
 | .seq a b | .cond _ a b=>apC a ++ apC b
 | .block _ b | .loop _ b | .scope b=>apC b
 | _=>[]
def dedupN:List (Nat × Nat × TypeId)→List (Nat × Nat × TypeId)
 | []=>[]
 | x :: r=>if r.any (fun y=>y.1 == x.1) then dedupN r else x :: dedupN r
def fixL(f:Nat→Nat):Nat→Nat→Nat
 | 0,l=>l
 | k+1,l=>(fun l'=>bif Nat.beq l' l then l else fixL f k l') (Nat.lor (f l) l)
def exitL:List (Nat × Nat)→Nat→Nat
 | [],_=>0
 | p :: r,id=>bif Nat.beq p.1 id then p.2 else exitL r id
def liveIn:AC→Nat→List (Nat × Nat)→Nat→Nat
 | .region _ ops _,out,_,_ | .regionA _ ops _ _,out,_,_=>liveOps ops out
 | .seq a b,out,ex,rt=>liveIn a (liveIn b out ex rt) ex rt
 | .cond c x y,out,ex,rt=>Nat.lor (Nat.lor (liveIn x out ex rt) (liveIn y out ex rt)) (bits c.uses)
 | .block id b,out,ex,rt=>liveIn b out ((id,out) :: ex) rt
 | .loop _ b,out,ex,rt=>fixL (fun l=>liveIn b l ex rt) 8 0
 | .exit id,_,ex,_=>exitL ex id
 | .ret,_,_,rt=>rt
 | .scope b,out,ex,rt=>liveIn b out ex rt
 | .skip,out,_,_ | .bad,out,_,_=>out
def frzL(fz:List Nat)(l:Nat):List (Nat × Nat × TypeId):=(fz.filter l.testBit).map fun s=>(s,1000000,0)
def live(n:Nat)(gc:Bool)(fz:List Nat):AC→Nat→List (Nat × Nat)→Nat→AC
 | .region k ops _,out,_,_=>.region k ops (some ⟨ofBitsA n out 0,frzL fz out,gc && k != 0⟩)
 | .regionA k ops ps _,out,_,_=>.regionA k ops ps (some ⟨ofBitsA n out 0,frzL fz out,gc && k != 0⟩)
 | .seq a b,out,ex,rt=>.seq (live n gc fz a (liveIn b out ex rt) ex rt) (live n gc fz b out ex rt)
 | .cond c x y,out,ex,rt=>.cond c (live n gc fz x out ex rt) (live n gc fz y out ex rt)
 | .block id b,out,ex,rt=>.block id (live n gc fz b out ((id,out) :: ex) rt)
 | .loop _ b,out,ex,rt=>(fun l=>.loop (some ⟨ofBitsA n l 0,((dedupN (apC b)).filter fun p=>l.testBit p.1) ++ frzL fz l,gc⟩) (live n gc fz b l ex rt)) (fixL (fun l=>liveIn b l ex rt) 8 0)
 | .scope b,out,ex,rt=>.scope (live n gc fz b out ex rt)
 | c,_,_,_=>c
def resRV(P:Program):ResultVar→RV
 | .tmp t=>.t t
 | .cell c t=>.c c (P.cellsOf t) (isAg P t)
def slotOf:ResultVar→Nat
 | .tmp t=>t
 | .cell c _=>c
def codeOf(P:Program)(gc:Bool)(fz:List Nat)(fn:Func)(c:Code):AC :=
 let rt:=bits (fn.results.toList.map slotOf)
 live fn.ntmps gc fz (comp P c) rt [] rt
def rvOf(P:Program)(fn:Func):List RV:=fn.results.toList.map (resRV P)
def getF:Fr→Nat→AV
 | [],_=>.undef
 | p :: r,t=>bif Nat.beq p.1 t then p.2 else getF r t
theorem getF_eq:∀(fr:Fr) (t:Nat),getF fr t=get fr t
 | [],_=>rfl
 | (k,x) :: r,t=>by
  simp only[getF,get,getF_eq r t]
  by_cases h:k=t
  ·subst h; simp
  ·have hb:Nat.beq k t=false:=by
    cases hb:Nat.beq k t with
    | false=>rfl
    | true=>exact absurd (Nat.eq_of_beq_eq_true hb) h
   rw [if_neg h,hb]; rfl
abbrev Cl:=Program × (FuncId→List AV→Hp→Op2→Option (AV × Hp))
def evF(fr:Fr):AX→AV
 | .t n=>getF fr n
 | .c v=>v
theorem evF_eq(fr:Fr)(x:AX):evF fr x=x.ev fr:=by
 cases x with
 | t n=>exact getF_eq fr n
 | c v=>rfl
def fix1(fr:Fr)(x:AX):AX:=.c (evF fr x)
def p_mv(fr:Fr)(x:AX):Option AV:=some (evF fr x)
def p_pick(fr:Fr)(c a b:AX):Option AV:=match evF fr c with | .bool t=>some (if t then evF fr a else evF fr b) | _=>none
def p_bin(fr:Fr)(op:BinOp)(x y:AX):Option AV:=bin2 op (evF fr x) (evF fr y)
def p_binB(fr:Fr)(op:BinOp)(x y:AX):Option AV:=binB2 op (evF fr x) (evF fr y)
def p_un(fr:Fr)(op:UnOp)(x:AX):Option AV:=un1 op (evF fr x)
def p_convI(fr:Fr)(k:IntKind)(x:AX):Option AV:=evP [] (.convI k (fix1 fr x))
def p_same(fr:Fr)(x:AX):Option AV:=evP [] (.same (fix1 fr x))
def p_faddr(fr:Fr)(off:Nat)(x:AX):Option AV:=match evF fr x with | .eptr id i o=>some (.eptr id i (o+off)) | .rptr x o=>some (.rptr x (o+off)) | _=>none
def p_field(fr:Fr)(off n:Nat)(ag:Bool)(x:AX):Option AV:=evP [] (.field off n ag (fix1 fr x))
def p_iaddr(fr:Fr)(sz:Nat)(x i:AX):Option AV:=evP [] (.iaddr sz (fix1 fr x) (fix1 fr i))
def p_aaddr(fr:Fr)(len sz:Nat)(x i:AX):Option AV:=evP [] (.aaddr len sz (fix1 fr x) (fix1 fr i))
def p_idxs(fr:Fr)(x i:AX):Option AV:=evP [] (.idxs (fix1 fr x) (fix1 fr i))
def p_idxa(fr:Fr)(len sz:Nat)(ag:Bool)(x i:AX):Option AV:=evP [] (.idxa len sz ag (fix1 fr x) (fix1 fr i))
def p_slices(fr:Fr)(x:AX)(lo hi:Option AX):Option AV:=evP [] (.slices (fix1 fr x) (lo.map (fix1 fr)) (hi.map (fix1 fr)))
def p_slicev(fr:Fr)(sz:Nat)(x:AX)(lo hi mx:Option AX):Option AV:=evP [] (.slicev sz (fix1 fr x) (lo.map (fix1 fr)) (hi.map (fix1 fr)) (mx.map (fix1 fr)))
def p_ext(fr:Fr)(x:AX)(i:Nat):Option AV:=evP [] (.ext (fix1 fr x) i)
def p_len(fr:Fr)(x:AX):Option AV:=evP [] (.len (fix1 fr x))
def p_lenS(fr:Fr)(x:AX):Option AV:=evP [] (.lenS (fix1 fr x))
def p_lenc(fr:Fr)(n:Nat):Option AV:=evP [] (.lenc n)
def p_minmax(fr:Fr)(mx:Bool)(x y:AX):Option AV:=evP [] (.minmax mx (fix1 fr x) (fix1 fr y))
def p_idxb(fr:Fr)(x c:AX):Option AV:=evP [] (.idxb (fix1 fr x) (fix1 fr c))
def p_nilck(fr:Fr)(x:AX):Option AV:=evP [] (.nilck (fix1 fr x))
def p_build(fr:Fr)(zero:List AV)(parts:List (Nat × Nat × AX)):Option AV:=evP [] (.build zero (parts.map fun p=>(p.1,p.2.1,fix1 fr p.2.2)))
def p_mkfn(fr:Fr)(f:FuncId)(caps:List AX):Option AV:=evP [] (.mkfn f (caps.map (fix1 fr)))
def p_isnil(fr:Fr)(neg:Bool)(x:AX):Option AV:=evP [] (.isnil neg (fix1 fr x))
def p_isnilp(fr:Fr)(neg:Bool)(x:AX):Option AV:=evP [] (.isnilp neg (fix1 fr x))
def p_asI(fr:Fr)(t:TypeId)(z:AV)(x:AX):Option AV:=evP [] (.asI t z (fix1 fr x))
def p_eqS(fr:Fr)(neg:Bool)(ks:List Nat)(x y:AX):Option AV:=evP [] (.eqS neg ks (fix1 fr x) (fix1 fr y))
noncomputable def evPF(fr:Fr)(q:OpP):Option AV:=OpP.rec (motive:=fun _=>Option AV) (p_mv fr) (p_pick fr) (p_bin fr) (p_binB fr) (p_un fr) (p_convI fr) (p_same fr) (p_faddr fr) (p_field fr) (p_iaddr fr) (p_aaddr fr) (p_idxs fr) (p_idxa fr) (p_slices fr) (p_slicev fr) (p_ext fr) (p_len fr) (p_lenS fr) (p_lenc fr) (p_minmax fr) (p_idxb fr) (p_nilck fr) (p_build fr) (p_mkfn fr) (p_isnil fr) (p_isnilp fr) (p_asI fr) (p_eqS fr) q
def fixR(fr:Fr):OpR→OpR
 | .load n a x=>.load n a (fix1 fr x)
 | .b2s x=>.b2s (fix1 fr x)
 | .cut s x l h=>.cut s (fix1 fr x) (fix1 fr l) (fix1 fr h)
def fixE(fr:Fr):OpE→OpE
 | .alloc t z=>.alloc t z
 | .box t x=>.box t (fix1 fr x)
 | .mks t s z n ps=>.mks t s z n (ps.map fun p=>(p.1,fix1 fr p.2))
 | .make t s z l c=>.make t s z (fix1 fr l) (fix1 fr c)
 | .store n x v=>.store n (fix1 fr x) (fix1 fr v)
 | .append t s l x y=>.append t s l (fix1 fr x) (fix1 fr y)
 | .s2b t x=>.s2b t (fix1 fr x)
 | .copy s x y=>.copy s (fix1 fr x) (fix1 fr y)
 | .clear s z x=>.clear s z (fix1 fr x)
 | .mark x=>.mark (fix1 fr x)
def consO(fr:Fr):Option Nat→AV→Fr
 | none,_=>fr
 | some d,v=>(d,v) :: fr
def res1(fr:Fr)(hp:Hp)(d:Option Nat):Option AV→Option (Fr × Hp)
 | some x=>some (consO fr d x,hp)
 | none=>none
def res2(fr:Fr)(d:Option Nat):Option (AV × Hp)→Option (Fr × Hp)
 | some p=>some (consO fr d p.1,p.2)
 | none=>none
noncomputable def o_p(fr:Fr)(hp:Hp)(d:Option Nat)(q:OpP):Option (Fr × Hp):=res1 fr hp d (evPF fr q)
def o_r(no:List TypeId)(fr:Fr)(hp:Hp)(d:Option Nat)(q:OpR):Option (Fr × Hp):=bif noLoad no [] hp (fixR fr q) then res1 fr hp d (evR [] hp (fixR fr q)) else none
def o_e(base:Nat)(fr:Fr)(hp:Hp)(d:Option Nat)(q:OpE)(r:Option Nat):Option (Fr × Hp):=res2 fr d (evE base r [] hp (fixE fr q))
def o_call(cl:Cl)(o:Op2)(fr:Fr)(hp:Hp)(f:FuncId)(xs:List AX)(_:Bool):Option (Fr × Hp):=res2 fr o.dst (cl.2 f (xs.map (evF fr)) hp o)
def o_callv(cl:Cl)(o:Op2)(fr:Fr)(hp:Hp)(x:AX)(xs:List AX):Option (Fr × Hp):=match evF fr x with
 | .fn f caps=>bif Nat.blt f ifB then res2 fr o.dst (cl.2 (fnId f) (fnArgs f (xs.map (evF fr)) caps) hp o) else none
 | _=>none
def o_calli(cl:Cl)(o:Op2)(fr:Fr)(hp:Hp)(m:String)(x:AX)(xs:List AX):Option (Fr × Hp):=match recvI cl.1 m hp (evF fr x) with
 | some p=>res2 fr o.dst (cl.2 p.1 (p.2 :: xs.map (evF fr)) hp o)
 | none=>none
noncomputable def exOp(cl:Cl)(base:Nat)(o:Op2)(fr:Fr)(hp:Hp):Option (Fr × Hp) :=
 Op1.rec (motive:=fun _=>Option (Fr × Hp)) (o_p fr hp o.dst) (o_r o.no fr hp o.dst) (o_e base fr hp o.dst) (o_call cl o fr hp) (o_callv cl o fr hp) (o_calli cl o fr hp) none o.op
noncomputable def exOp2(cl:Cl)(base:Nat)(o:Op2)(fr:Fr)(hp:Hp):Option (Fr × Hp) :=
 match o.guard with
 | none=>exOp cl base o fr hp
 | some (t,want)=>match getF fr t with
  | .bool b=>bif b == want then exOp cl base o fr hp else some (consO fr o.dst (.lit Go.undef),hp)
  | .lit v=>bif notBool v then some (consO fr o.dst (.lit Go.undef),hp) else none
  | _=>none
noncomputable def exOps(cl:Cl)(base:Nat):List Op2→Fr→Hp→Option (Fr × Hp)
 | [],fr,hp=>some (fr,hp)
 | o :: r,fr,hp=>match exOp2 cl base o fr hp with
  | some p=>exOps cl base r p.1 p.2
  | none=>none
def ksF(fr:Fr):List Nat→Fr
 | []=>[]
 | k :: r=>(k,getF fr k) :: ksF fr r
def trimF(tr:Option Trim)(fr:Fr)(hp:Hp):Option St:=match tr with
 | none=>none
 | some t=>match t.nils,t.gc with
  | [],false=>some ⟨ksF fr t.ks,hp⟩
  | _,_=>some (trim (some ⟨t.ks,t.nils,t.gc⟩) ⟨ksF fr t.ks,hp⟩)
noncomputable def ex(cl:Cl):Nat→AC→St→Option (AE × St)
 | 0,_,_=>none
 | n+1,c,σ=>match c with
  | .skip=>some (.normal,σ)
  | .region k ops tr=>match exOps cl σ.hp.length ops σ.fr (match k with | 0=>σ.hp | k+1=>σ.hp ++ List.replicate (k+1) none) with
   | some p=>(trimF tr p.1 p.2).map fun σ=>(.normal,σ)
   | none=>none
  | .regionA k ops ps tr=>match exOps cl σ.hp.length ops σ.fr (σ.hp ++ List.replicate k none) with
   | some p=>if apB ps p.1 then(trimF tr p.1 p.2).map fun σ=>(.normal,σ) else none
   | none=>none
  | .seq a b=>match ex cl n a σ with
   | some (.normal,σ')=>ex cl n b σ'
   | r=>r
  | .cond c x y=>match c.ev σ.fr with
   | .bool true=>ex cl n x σ
   | .bool false=>ex cl n y σ
   | _=>none
  | .block id b=>match ex cl n b σ with
   | some (.exit i,σ')=>if i == id then some (.normal,σ') else some (.exit i,σ')
   | r=>r
  | .loop tr b=>match ex cl n b (trim tr σ) with
   | some (.normal,σ')=>ex cl n (.loop tr b) σ'
   | r=>r
  | .exit id=>some (.exit id,σ)
  | .ret=>some (.ret,σ)
  | .scope b=>ex cl n b σ
  | .bad=>none
inductive Str where
 | run (ms:List Mode) (fz:List Nat)
 | gen
def modeOf(hp:Hp):AV→Mode
 | .vec id sz off len=>match ent hp id with
  | some e=>if e.wr && (off == 0 && decide (len≤e.es.length)) then .own sz e.ty else .snap
  | none=>.snap
 | _=>.snap
def modesA(hp:Hp):AV→List Mode
 | .agg cs=>cs.map (modeOf hp)
 | x=>[modeOf hp x]
def modesT(hp:Hp):AV→List (List Mode)
 | .tup xs=>xs.map (modesA hp)
 | x=>[modesA hp x]
def noOwnC:AV→Bool
 | .own ..=>false
 | _=>true
def noOwnA:AV→Bool
 | .agg cs=>cs.all noOwnC
 | x=>noOwnC x
def noOwn:AV→Bool
 | .tup xs=>xs.all noOwnA
 | x=>noOwnA x
def deferOf:Code→Option (Nat × Array Oper × Nat × Oper × Oper × Nat × FuncId × Code)
 | .seq (.region i0 ops0 false) (.seq (.region i1 ops1 false) c2)=>match ops1.toList with
  | [o1,o2]=>match o1.op,o2.op with
   | .makeFunc (.func g) _ _,.defer c=>match c.callee with
    | .value (.tmp t)=>if c.args.isEmpty && (o1.guard.isNone && (o2.guard.isNone && (o2.dst.isNone && Nat.blt g 1000000))) then some (i0,ops0,i1,o1,o2,t,g,c2) else none
    | _=>none
   | _,_=>none
  | _=>none
 | _=>none
structure Env where
 P:Program
 st:FuncId→Str
 sp:FuncId→Option (Bool × (Cl→List AV→Hp→Option (AV × Hp)))     -- told; may its order be open?
 fz:FuncId→Bool     -- are the results of its calls read off at once?
def ended(o:Option (AE × St))(rs:List RV):Option (AV × Hp):=match o with
 | some (.normal,σ) | some (.ret,σ)=>(rvs rs σ).map fun x=>(x,σ.hp)
 | _=>none
structure DfI where
 ca:AC
 ob:Op2
 c2:AC
 t:Nat
 g:FuncId
def dfI(P:Program)(fn:Func)(D:Nat × Array Oper × Nat × Oper × Oper × Nat × FuncId × Code):DfI :=
 let rt:=bits (D.2.2.2.2.2.1 :: fn.results.toList.map slotOf)
 let c2:=comp P D.2.2.2.2.2.2.2
 let ob:=comp2 P #[D.2.2.2.1] false 0 D.2.2.2.1
 { ca:=.region 0 (compL P D.2.1 false) (some ⟨ofBitsA fn.ntmps (Nat.lor (less1 (liveIn c2 rt [] rt) D.2.2.2.2.2.1) (bits ob.looks)) 0,[],false⟩)
   ob:=ob,c2:=live fn.ntmps true [] c2 rt [] rt,t:=D.2.2.2.2.2.1,g:=D.2.2.2.2.2.2.1 }
noncomputable def exD(cl:Cl)(P:Program)(fn:Func)(D:DfI)(σ:St):Option (AV × Hp) :=
 match P.funcs[D.g]? with
 | none=>none
 | some gn=>match gn.body with
  | none=>none
  | some cg=>bif okC fn.ntmps false D.ca && (okC fn.ntmps false (.region 0 [D.ob] none) && (okCp [D.t] fn.ntmps false D.c2 && (okC gn.ntmps true (codeOf P false [] gn cg) && gn.results.isEmpty))) then
   match ex cl 10 D.ca σ with
   | some (.normal,σ1)=>match D.ob.op with
    | .p q=>match evP σ1.fr q with
     | some (.fn g0 caps0)=>bif Nat.beq g0 D.g && (D.ob.dst == some D.t && D.ob.guard.isNone) then match ex cl 100000 D.c2 (σ1.put D.ob.dst (.fn g0 caps0)) with
      | some (.normal,σ3) | some (.ret,σ3)=>match get σ3.fr D.t with
       | .fn g caps=>bif Nat.beq g D.g && Nat.ble caps.length gn.ntmps then match ex cl 100000 (codeOf P false [] gn cg) ⟨caps.zipIdx.map fun p=>(p.2,p.1),σ3.hp⟩ with
        | some (.normal,σ4) | some (.ret,σ4)=>(rvs (rvOf P fn) ⟨σ3.fr,σ4.hp⟩).map fun x=>(x,σ4.hp)
        | _=>none else none
       | _=>none
      | _=>none else none
     | _=>none
    | _=>none
   | _=>none else none
noncomputable def runE(cl:Cl)(P:Program)(fz:List Nat)(fn:Func)(c:Code)(ys:List AV):Option (AV × Hp):=match deferOf c with
 | some D=>exD cl P fn (dfI P fn D) (entry ys)
 | none=>bif okC fn.ntmps false (codeOf P true fz fn c) then ended (ex cl 100000 (codeOf P true fz fn c) (entry ys)) (rvOf P fn) else none
def eqV:Value→Value→Bool
 | .nilIface,.nilIface=>true
 | .pointer none,.pointer none=>true
 | _,_=>false
mutual
def eqA:AV→AV→Bool
 | .bool a,.bool b=>a == b
 | .int k a,.int k' b=>decide (k=k') && decide (a=b)
 | .str a,.str b=>a == b
 | .sl a xs f,.sl b ys g=>Nat.beq a b && (f == g && eqL xs ys)
 | .vec a b c d,.vec a' b' c' d'=>Nat.beq a a' && (Nat.beq b b' && (Nat.beq c c' && Nat.beq d d'))
 | .eptr a b c,.eptr a' b' c'=>Nat.beq a a' && (Nat.beq b b' && Nat.beq c c')
 | .rptr x a,.rptr y b=>Nat.beq a b && eqA x y
 | .fn f xs,.fn g ys=>Nat.beq f g && eqL xs ys
 | .agg xs,.agg ys=>eqL xs ys
 | .tup xs,.tup ys=>eqL xs ys
 | .lit u,.lit v=>eqV u v
 | _,_=>false
termination_by structural x=>x
def eqL:List AV→List AV→Bool
 | [],[]=>true
 | x :: xs,y :: ys=>eqA x y && eqL xs ys
 | _,_=>false
termination_by structural x=>x
end
def growB(no:List TypeId):Hp→Hp→Bool
 | [],_=>true
 | none :: r,none :: r'=>growB no r r'
 | some e :: r,some e' :: r'=>(no.contains e.ty || (Nat.beq e.ty e'.ty && eqL e.es e'.es)) && growB no r r'
 | _,_=>false
def drawn(o:Op2):Bool:=match o.op with
 | .call _ _ d=>d
 | _=>false
def back(m:Bool)(o:Op2)(H1:Hp)(l:List Nat)(r:AV):AV × Hp :=
 bif noOwn r && (r.pT && !(drawn o && (o.fm || m))) then(r,H1) else lay (still H1 l) r
def lenOk(hp:Hp)(p:AV × Hp):Option (AV × Hp):=bif Nat.ble hp.length p.2.length then some p else none
noncomputable def callE(E:Env):Nat→Bool→Cl
 | 0,_=>(E.P,fun _ _ _ _=>none)
 | n+1,z=>(E.P,fun f xs hp o =>
  match E.sp f with
  | some g=>bif drawn o && !g.1 then none else(g.2 (callE E n false) xs hp).bind (lenOk hp)
  | none=>match E.P.funcs[f]? with
   | none=>none
   | some fn=>match fn.body with
    | none=>none
    | some c=>bif rvsOk E.P (rvOf E.P fn) fn.results.toList && Nat.ble xs.length fn.ntmps then match E.st f with
     | .gen=>bif okC fn.ntmps true (codeOf E.P false [] fn c) then
       match ended (ex (callE E n (E.fz f)) 100000 (codeOf E.P false [] fn c) ⟨xs.zipIdx.map fun p=>(p.2,p.1),hp⟩) (rvOf E.P fn) with
       | some p=>bif drawn o then(bif !o.fm && growB o.no hp p.2 then lenOk hp p else none) else lenOk hp p
       | none=>none
      else none
     | .run ms fz=>match pass hp ms xs with
      | none=>none
      | some (ys,H1,l)=>bif liveB H1 l then
        match runE (callE E n (E.fz f)) E.P fz fn c ys with
        | none=>none
        | some (x,h)=>match hand h (modesT h x) x with
         | some (r,h1,l1)=>bif liveB h1 l1 then(fun p=>bif drawn o && (!ms.isEmpty && !growB o.no hp p.2) then none else lenOk hp p) (back (!ms.isEmpty) o H1 l (bif z then frz r else r)) else none
         | none=>none
       else none
     else none)
def spRun(R:List AV→Option AV):Cl→List AV→Hp→Option (AV × Hp):=fun _ xs hp=>match pass hp [] xs with
 | some (ys,H1,l)=>bif liveB H1 l then(match R ys with
  | some r=>some (lay (still H1 l) r)
  | none=>none) else none
 | none=>none
def cloneR(sz:Nat)(ty:TypeId)(lm:Nat):List AV→Option AV
 | [.sl z es _]=>bif (Nat.beq z sz || es.isEmpty) && (Nat.ble es.length lm && es.all AV.nr1) then some (.own sz ty es) else none
 | _=>none
def toldR:List (List AV × AV)→List AV→Option AV
 | [],_=>none
 | p :: r,ys=>bif eqL ys p.1 then some p.2 else toldR r ys
noncomputable def runTop(E:Env)(n:Nat)(f:FuncId)(ys:List AV):Option AV:=match E.P.funcs[f]? with
 | none=>none
 | some fn=>match fn.body with
  | none=>none
  | some c=>bif rvsOk E.P (rvOf E.P fn) fn.results.toList && Nat.ble ys.length fn.ntmps then
    match runE (callE E n (E.fz f)) E.P [] fn c ys with
    | none=>none
    | some (x,h)=>match hand h (modesT h x) x with
     | some (r,h1,l1)=>bif liveB h1 l1 then some (frz r) else none
     | none=>none
   else none
def cellAt(hp:Hp)(id i off:Nat):Option AV:=(ent hp id).bind fun e=>bif e.wr then evR [] hp (.load 1 false (.c (.eptr id i off))) else none
def putAt(hp:Hp)(id i off:Nat)(v:AV):Option Hp:=(evE 0 none [] hp (.store 1 (.c (.eptr id i off)) (.c v))).map (·.2)
def spOnce:Cl→List AV→Hp→Option (AV × Hp):=fun cl xs hp=>match xs with
 | [.eptr id i off,.fn f caps]=>bif !Nat.blt f ifB then none else match cellAt hp id i off,cellAt hp id i (off+1) with
  | some (.int .u32 d),some (.int .i32 0)=>if d=0 then
    (putAt hp id i (off+1) (.int .i32 1)).bind fun hp1=>(cl.2 (fnId f) (fnArgs f [] caps) hp1 ⟨none,none,.bad,false,[]⟩).bind fun p =>
      match cellAt p.2 id i off,cellAt p.2 id i (off+1) with
      | some (.int .u32 0),some (.int .i32 1)=>((putAt p.2 id i off (.int .u32 1)).bind fun h=>putAt h id i (off+1) (.int .i32 0)).map fun h=>(.tup [],h)
      | _,_=>none
   else some (.tup [],hp)
  | _,_=>none
 | _=>none
def spAdd:Cl→List AV→Hp→Option (AV × Hp):=fun _ xs hp=>match xs with
 | [.eptr id i off,.int .i64 d]=>match cellAt hp id i off with
  | some (.int .i64 n)=>(putAt hp id i off (.int .i64 (IntKind.i64.wrap (n+d)))).map fun h=>(.int .i64 (IntKind.i64.wrap (n+d)),h)
  | _=>none
 | _=>none
end Go.Pv
namespace Go.Pv
variable [Lq]
def unr(P:Program)(tr:Option Trim)(b:AC)(K:AE→St→Prop):Nat→St→Prop
 | 0,_=>False
 | n+1,σ=>aw P b (andThen (fun σ'=>unr P tr b K n (trim tr σ')) K) σ
section
variable {P:Program} {tr:Option Trim} {b:AC} {K:AE→St→Prop} {n:Nat} {fr:Fr} {hp:Hp} {σ:St}
theorem aw_unroll(n:Nat)(h:unr P tr b K n (trim tr σ)):aw P (.loop tr b) K σ:=by
 refine⟨fun n σ=>unr P tr b K n σ,⟨n,h⟩,?_⟩
 rintro n σ hn
 cases n with
 | zero=>exact hn.elim
 | succ n =>
  refine aw_mono b _ _ _ ?_ hn
  intro e σ' hx
  cases e with
  | normal=>exact⟨n,Nat.lt_succ_self n,hx⟩
  | exit i=>exact hx
  | ret=>exact hx
end
end Go.Pv
namespace Go.Pv
variable [Lq]
def ClOk(P:Program)(cl:Cl):Prop:=cl.1=P∧∀ f xs hp o r H',cl.2 f xs hp o=some (r,H') →
 Gen P f xs hp r H'∧hp.length≤H'.length ∧(drawn o=true→Grow o.no hp H' ∧(o.fm=true→Framed P f xs hp r H'))
def FEq(a b:Fr):Prop:=∀ k,get a k=get b k
theorem get_put':∀(fr:Fr) (d k:Nat) (v:AV),get (put fr d v) k=if d=k then v else get fr k
 | [],d,k,v=>by simp [put,get]
 | (j,x) :: r,d,k,v=>by
  simp only[put]
  split
  ·rename_i h; subst h; simp only[get]
   by_cases e:j=k
   ·rw [if_pos e,if_pos e]
   ·rw [if_neg e,if_neg e,if_neg e]
  ·rename_i h
   split
   ·simp only[get]
   ·simp only[get,get_put' r d k v]
    by_cases e:j=k
    ·subst e; rw [if_pos rfl,if_pos rfl,if_neg (fun e=>h e.symm)]
    ·rw [if_neg e,if_neg e]
theorem FEq.cons{a b:Fr}(h:FEq a b)(d:Option Nat)(v:AV):FEq (consO a d v) (putO b d v):=by
 cases d with
 | none=>exact h
 | some d =>
  intro k
  simp only[consO,putO,get,get_put']
  split
  ·rfl
  ·exact h k
theorem ev_eq{a b:Fr}(h:FEq a b)(x:AX):evF a x=x.ev b:=by
 rw [evF_eq]
 cases x with
 | t n=>exact h n
 | c v=>rfl
theorem evs_eq{a b:Fr}(h:FEq a b)(xs:List AX):xs.map (evF a)=xs.map (·.ev b):=List.map_congr_left fun x _=>ev_eq h x
theorem fix_eq{a b:Fr}(h:FEq a b)(x:AX):(fix1 a x).ev []=x.ev b:=ev_eq h x
theorem fixO_eq{a b:Fr}(h:FEq a b)(x:Option AX):(x.map (fix1 a)).map (·.ev [])=x.map (·.ev b):=by
 cases x with
 | none=>rfl
 | some x=>simp [fix_eq h]
theorem evPF_eq{a b:Fr}(h:FEq a b)(q:OpP):evPF a q=evP b q:=by
 cases q with
 | slicev sz x lo hi mx =>
  show p_slicev a sz x lo hi mx=_
  unfold p_slicev
  cases mx with
  | none=>simp only[evP,fix_eq h,fixO_eq h,Option.map_none]
  | some m=>cases hi <;> simp only[evP,fix_eq h,fixO_eq h,Option.map_some,Option.map_none,Option.bind_some,Option.bind_none]
 | build z ps =>
  show p_build a z ps=_
  unfold p_build
  simp only[evP,List.map_map]
  congr 2
  apply List.map_congr_left
  intro p _
  simp [fix_eq h]
 | mkfn f cs =>
  show p_mkfn a f cs=_
  unfold p_mkfn
  simp only[evP,List.map_map]
  congr 2
  apply List.map_congr_left
  intro p _
  simp [fix_eq h]
 | _=>simp only[evPF,p_mv,p_pick,p_bin,p_binB,p_un,p_convI,p_same,p_faddr,p_field,p_iaddr,p_aaddr,p_idxs,p_idxa,p_slices,p_ext,p_len,p_lenS,p_lenc,p_minmax,p_idxb,p_nilck,p_isnil,p_isnilp,p_asI,p_eqS,evP,ev_eq h,fix_eq h,fixO_eq h] <;> rfl
theorem fixR_eq{a b:Fr}(h:FEq a b)(hp:Hp)(no:List TypeId)(q:OpR):evR [] hp (fixR a q)=evR b hp q∧noLoad no [] hp (fixR a q)=noLoad no b hp q:=by
 cases q with
 | load n g x=>simp only[fixR,evR,noLoad,fix_eq h,and_self]
 | b2s x=>simp only[fixR,evR,noLoad,fix_eq h,and_self]
 | cut s x l u=>simp only[fixR,evR,noLoad,evP,fix_eq h,Option.map_some,and_self]
theorem fixE_eq{a b:Fr}(h:FEq a b)(base:Nat)(r:Option Nat)(hp:Hp)(q:OpE):evE base r [] hp (fixE a q)=evE base r b hp q:=by
 cases q with
 | mks t s z n ps =>
  simp only[fixE,evE,List.map_map]
  congr 2
  apply List.map_congr_left
  intro p _
  simp [fix_eq h]
 | _=>simp only[fixE,evE,fix_eq h]
section
variable {P:Program} {cl:Cl}
theorem res1_inv{fr:Fr}{hp:Hp}{d:Option Nat}{o:Option AV}{p:Fr × Hp}(h:res1 fr hp d o=some p):∃ x,o=some x∧p =(consO fr d x,hp):=by
 cases o with
 | none=>cases h
 | some x=>cases h; exact⟨x,rfl,rfl⟩
theorem res2_inv{fr:Fr}{d:Option Nat}{o:Option (AV × Hp)}{p:Fr × Hp}(h:res2 fr d o=some p):∃ x,o=some x∧p =(consO fr d x.1,x.2):=by
 cases o with
 | none=>cases h
 | some x=>cases h; exact⟨x,rfl,rfl⟩
theorem exOp_sound(hc:ClOk P cl){base:Nat}{o:Op2}{fr fr0:Fr}{hp:Hp}{p:Fr × Hp}(h:exOp cl base o fr hp=some p)(hf:FEq fr fr0)(K:St→Prop)(hk:∀ frx,FEq p.1 frx→K ⟨frx,p.2⟩):aw1 P base o ⟨fr0,hp⟩ K:=by
 unfold exOp at h
 unfold aw1
 cases ho:o.op with
 | p q =>
  rw [ho] at h
  obtain ⟨x,hx,rfl⟩:=res1_inv h
  rw [evPF_eq hf] at hx
  simp only[hx]; exact hk _ (hf.cons _ _)
 | r q =>
  rw [ho] at h
  change (bif noLoad o.no [] hp (fixR fr q) then _ else none)=_ at h
  rw [(fixR_eq hf hp o.no q).2,(fixR_eq hf hp o.no q).1] at h
  cases hn:noLoad o.no fr0 hp q with
  | false=>rw [hn] at h; cases h
  | true =>
   rw [hn] at h
   obtain ⟨x,hx,rfl⟩:=res1_inv h
   simp only[hx]; exact⟨hn,hk _ (hf.cons _ _)⟩
 | e q r =>
  rw [ho] at h
  change res2 _ _ (evE base r [] hp (fixE fr q))=_ at h
  rw [fixE_eq hf] at h
  obtain ⟨x,hx,rfl⟩:=res2_inv h
  simp only[hx]; exact hk _ (hf.cons _ _)
 | call f xs d =>
  rw [ho] at h
  change res2 _ _ (cl.2 f (xs.map (evF fr)) hp o)=_ at h
  rw [evs_eq hf] at h
  obtain ⟨⟨r,H'⟩,hx,rfl⟩:=res2_inv h
  obtain ⟨h1,h2,h3⟩:=hc.2 _ _ _ _ _ _ hx
  exact⟨r,H',h1,fun hd=>h3 (by simp only[drawn,ho]; exact hd),hk _ (hf.cons _ _)⟩
 | callv x xs =>
  rw [ho] at h
  change o_callv cl o fr hp x xs=_ at h
  unfold o_callv at h
  rw [ev_eq hf,evs_eq hf] at h
  simp only
  split at h
  ·rename_i f caps he
   cases hb:Nat.blt f ifB with
   | false=>rw [hb] at h; cases h
   | true =>
   rw [hb] at h
   obtain ⟨⟨r,H'⟩,hx,rfl⟩:=res2_inv h
   obtain ⟨h1,h2,h3⟩:=hc.2 _ _ _ _ _ _ hx
   simp only[he]
   exact⟨of_eq_true (by rw [← Nat.blt_eq]; simp [hb]),r,H',h1,h2,hk _ (hf.cons _ _)⟩
  ·cases h
 | calli m x xs =>
  rw [ho] at h
  change o_calli cl o fr hp m x xs=_ at h
  unfold o_calli at h
  rw [ev_eq hf,evs_eq hf,hc.1] at h
  simp only
  split at h
  ·rename_i q he
   obtain ⟨f,y⟩:=q
   obtain ⟨⟨r,H'⟩,hx,rfl⟩:=res2_inv h
   obtain ⟨h1,h2,h3⟩:=hc.2 _ _ _ _ _ _ hx
   simp only[he]
   exact⟨r,H',h1,h2,hk _ (hf.cons _ _)⟩
  ·cases h
 | bad=>rw [ho] at h; cases h
theorem exOp2_sound(hc:ClOk P cl){base:Nat}{o:Op2}{fr fr0:Fr}{hp:Hp}{p:Fr × Hp}(h:exOp2 cl base o fr hp=some p)(hf:FEq fr fr0)(K:St→Prop)(hk:∀ frx,FEq p.1 frx→K ⟨frx,p.2⟩):aw2 P base o ⟨fr0,hp⟩ K:=by
 unfold exOp2 at h
 unfold aw2
 cases hg:o.guard with
 | none=>rw [hg] at h; exact exOp_sound hc h hf K hk
 | some q =>
  obtain ⟨t,want⟩:=q
  rw [hg] at h
  simp only at h ⊢
  rw [getF_eq,hf t] at h
  split at h
  ·rename_i b hb
   simp only[hb]
   cases e:b == want with
   | true=>rw [e] at h; rw [if_pos (by simpa using e)]; exact exOp_sound hc h hf K hk
   | false=>rw [e] at h; rw [if_neg (by simpa using e)]; cases h; exact hk _ (hf.cons _ _)
  ·rename_i v hv
   simp only[hv]
   cases e:notBool v with
   | true=>rw [e] at h; cases h; exact⟨rfl,hk _ (hf.cons _ _)⟩
   | false=>rw [e] at h; cases h
  ·cases h
theorem exOps_sound(hc:ClOk P cl){base:Nat}:∀ {ops:List Op2} {fr fr0:Fr} {hp:Hp} {p:Fr × Hp},exOps cl base ops fr hp=some p→FEq fr fr0→∀ K:St→Prop,(∀ frx,FEq p.1 frx→K ⟨frx,p.2⟩)→awOps P base ops ⟨fr0,hp⟩ K
 | [],_,_,_,_,h,hf,K,hk=>by cases h; exact hk _ hf
 | o :: r,fr,fr0,hp,p,h,hf,K,hk=>by
  simp only[exOps] at h
  split at h
  ·rename_i p1 h1
   exact exOp2_sound hc h1 hf _ fun frx hx=>exOps_sound hc h hx K hk
  ·cases h
theorem ksF_eq{a b:Fr}(h:FEq a b):∀ ks:List Nat,ksF a ks=ks.map fun k=>(k,get b k)
 | []=>rfl
 | k :: r=>by simp only[ksF,List.map_cons,ksF_eq h r,getF_eq,h k]
theorem get_ks(b:Fr):∀(ks:List Nat) (k:Nat),k∈ks→get (ks.map fun k=>(k,get b k)) k=get b k
 | j :: r,k,h=>by
  simp only[List.map_cons,get]
  by_cases e:j=k
  ·rw [if_pos e,e]
  ·rw [if_neg e]
   exact get_ks b r k ((List.mem_cons.1 h).resolve_left fun h=>e h.symm)
theorem trimF_sound{tr:Option Trim}{a b:Fr}{hp:Hp}{σ:St}(hs:trimF tr a hp=some σ)(h:FEq a b):trim tr ⟨b,hp⟩=σ:=by
 cases tr with
 | none=>cases hs
 | some t =>
  simp only[trimF] at hs
  split at hs
  ·rename_i h1 h2
   cases hs
   simp only[trim,h1,h2,List.foldl_nil,ksF_eq h,Bool.false_eq_true,if_false]
  ·cases hs
   simp only[trim,ksF_eq h]
   congr 2 <;>(first | rfl | skip)
   all_goals (
    have e:((t.ks.map fun k=>(k,get (t.ks.map fun k=>(k,get b k)) k)))=t.ks.map fun k=>(k,get b k):=List.map_congr_left fun k hk=>by rw [get_ks b _ k hk]
    rw [e])
theorem ex_sound(hc:ClOk P cl):∀(n:Nat),(∀(c:AC) (σ:St) (e:AE) (σ':St),ex cl n c σ=some (e,σ')→∀ K:AE→St→Prop,K e σ'→aw P c K σ) ∧
  (∀(tr:Option Trim) (b:AC) (σ:St) (e:AE) (σ':St),ex cl n (.loop tr b) σ=some (e,σ')→∃ m,∀ K:AE→St→Prop,K e σ'→unr P tr b K m (trim tr σ))
 | 0=>⟨fun _ _ _ _ h=>(by cases h),fun _ _ _ _ _ h=>(by cases h)⟩
 | n+1=>by
  have ih:=ex_sound hc n
  have loop:∀(tr:Option Trim) (b:AC) (σ:St) (e:AE) (σ':St),ex cl (n+1) (.loop tr b) σ=some (e,σ')→∃ m,∀ K:AE→St→Prop,K e σ'→unr P tr b K m (trim tr σ):=by
   intro tr b σ e σ' h
   simp only[ex] at h
   split at h
   ·rename_i σ1 h1
    obtain ⟨m,hm⟩:=ih.2 _ _ _ _ _ h
    refine⟨m+1,fun K hk=>?_⟩
    exact ih.1 _ _ _ _ h1 _ (hm K hk)
   ·rename_i r hr
    refine⟨1,fun K hk=>ih.1 _ _ _ _ h _ ?_⟩
    cases e with
    | normal=>exact absurd h (by intro h; exact hr _ h)
    | exit i=>exact hk
    | ret=>exact hk
  refine⟨fun c σ e σ' h K hk=>?_,loop⟩
  cases c with
  | skip=>simp only[ex] at h; cases h; exact hk
  | region k ops tr =>
   simp only[ex] at h
   split at h
   ·rename_i p h1
    obtain ⟨σ1,h2,h⟩:=Option.map_eq_some_iff.1 h
    cases h
    have h1:exOps cl σ.hp.length ops σ.fr (σ.hp ++ List.replicate k none)=some p:=by
     cases k with
     | zero=>simpa using h1
     | succ k=>exact h1
    refine exOps_sound hc h1 (fun _=>rfl) _ fun frx hx=>?_
    show K .normal (trim tr ⟨frx,p.2⟩)
    rw [trimF_sound h2 hx]; exact hk
   ·cases h
  | regionA k ops ps tr =>
   simp only[ex] at h
   split at h
   ·rename_i p h1
    split at h
    ·rename_i ha
     obtain ⟨σ1,h2,h⟩:=Option.map_eq_some_iff.1 h
     cases h
     refine exOps_sound hc h1 (fun _=>rfl) _ fun frx hx=>?_
     refine⟨?_,?_⟩
     ·have e:apB ps frx=apB ps p.1:=by
       unfold apB
       congr 1
       funext q
       rw [hx q.1,hx q.2]
      show apB ps frx=true
      rw [e]; exact ha
     ·show K .normal (trim tr ⟨frx,p.2⟩)
      rw [trimF_sound h2 hx]; exact hk
    ·cases h
   ·cases h
  | seq a b =>
   simp only[ex] at h
   split at h
   ·rename_i σ1 h1
    exact ih.1 _ _ _ _ h1 _ (ih.1 _ _ _ _ h K hk)
   ·rename_i r hr
    refine ih.1 _ _ _ _ h _ ?_
    cases e with
    | normal=>exact absurd h (by intro h; exact hr _ h)
    | exit i=>exact hk
    | ret=>exact hk
  | cond c x y =>
   simp only[ex] at h
   unfold aw
   split at h
   ·rename_i hb; simp only[hb]; exact⟨fun _=>ih.1 _ _ _ _ h K hk,fun e=>by cases e⟩
   ·rename_i hb; simp only[hb]; exact⟨(fun e=>by cases e),fun _=>ih.1 _ _ _ _ h K hk⟩
   ·cases h
  | block id b =>
   simp only[ex] at h
   split at h
   ·rename_i i σ1 h1
    refine ih.1 _ _ _ _ h1 _ ?_
    split at h
    ·rename_i e1; cases h
     simp only[inBlk,if_pos (by simpa using e1)]; exact hk
    ·rename_i e1; cases h
     simp only[inBlk,if_neg (by simpa using e1)]; exact hk
   ·rename_i r hr
    refine ih.1 _ _ _ _ h _ ?_
    cases e with
    | normal=>exact hk
    | exit i=>exact absurd h (by intro h; exact hr _ _ h)
    | ret=>exact hk
  | loop tr b =>
   obtain ⟨m,hm⟩:=loop _ _ _ _ _ h
   exact aw_unroll m (hm K hk)
  | exit id=>simp only[ex] at h; cases h; exact hk
  | ret=>simp only[ex] at h; cases h; exact hk
  | scope b=>simp only[ex] at h; exact ih.1 _ _ _ _ h K hk
  | bad=>simp only[ex] at h; cases h
end
end Go.Pv
