/- The proofs of what the functions of this seat do. -/
import Derived.Test.YtppdpcfmkmnfjaaGreatDoorPr6
set_option linter.unusedSimpArgs false
set_option linter.unusedVariables false
set_option maxHeartbeats 2000000
set_option maxRecDepth 20000
set_option maxHeartbeats 16000000
namespace Go.Proofs
open Go.Pv
structure LnF where
 l:Ln
 t:List Int
 im:List Int
 ex:List Int
 ad:List Int
deriving DecidableEq
def sl32(l:List Int):AV:=if l=[] then nilA else .sl 1 (l.map (.int .u32)) false
def lnV(x:LnF):AV:=lnA x.l (slV x.t) (slV x.im) (slV x.ex) (sl32 x.ad)
def lnfZ:LnF:=⟨lnZ,[],[],[],[]⟩
theorem sl32_nil:sl32 []=.sl 0 [] true:=if_pos rfl
theorem sl32_is(l:List Int):∃ n f,sl32 l=.sl n (l.map (.int .u32)) f ∧(l=[]∨n=1):=by
 unfold sl32 nilA
 by_cases h:l=[]
 ·subst h; exact⟨0,true,rfl,.inl rfl⟩
 ·rw [if_neg h]; exact⟨1,false,rfl,.inr rfl⟩
def adG(s:List UInt8):Bool:=rlF rdB (sc s)
def adV(s:List UInt8):List Int:=if adG s=true then(sc s).map (fun p=>(rdB p).1) else []
def rpB(s:List UInt8):Int × Int × Bool :=
 if 0≤Lib.indexByte s 47∧okA (s.take (Lib.indexByte s 47).toNat)∧okS (s.drop ((Lib.indexByte s 47).toNat+1))=true∧vS (s.drop ((Lib.indexByte s 47).toNat+1))≤32
 then(accF (sp (s.take (Lib.indexByte s 47).toNat)),vS (s.drop ((Lib.indexByte s 47).toNat+1)),true) else(0,0,false)
theorem rpB_eq(s:List UInt8):rpF s=.tup [pfx (rpB s).1 (rpB s).2.1,.bool (rpB s).2.2]:=by
 unfold rpF rpB
 split <;> rfl
theorem rpB_b(s:List UInt8):0 ≤(rpB s).1 ∧(rpB s).1≤4294967295:=by
 unfold rpB
 split
 ·rename_i h
  have:=accF_b _ (Nat.le_of_eq h.2.1.1) h.2.1.2
  exact⟨this.1,this.2.1⟩
 ·exact⟨by decide,by decide⟩
def eN(w:List UInt8)(e:Int):Int:=fl e (!nmO w) 20
def eU(w:List UInt8)(a b:Int)(e:Int):Int:=fl e (!(Nm.rdF w a b).2) 21
noncomputable def eM(w:List UInt8)(e:Int):Int:=fl e (!((Mc.rdm w).2 && stn (Mc.rdm w).1)) 21
def eL(w:List UInt8)(b:Int)(e:Int):Int:=fl e (lsB w b) 21
def eA(w:List UInt8)(e:Int):Int:=fl e (!(rdB w).2 || decide ((rdB w).1=0)) 21
def eD(w:List UInt8)(e:Int):Int:=fl e (!adG w || decide ((adV w)[0]! = 0)) 21
def eS(w:List UInt8)(e:Int):Int:=fl e (!(rpB w).2.2 || !sbF (rpB w).1 (rpB w).2.1) 21
def eK(w:List UInt8)(e:Int):Int:=fl e (decide (¬ w=[97,99,99,101,115,115]∧¬ w=[116,114,117,110,107])) 20
def nu(w:List UInt8)(a b:Int):Int:=(Nm.rdF w a b).1
noncomputable def er1(ws:List (List UInt8)):Int:=eM ws[3]! (eU ws[2]! 0 65535 (eN ws[1]! 0))
def er2(ws:List (List UInt8)):Int:=pkE ws 4 (eK ws[4]! (eU ws[3]! 1 65535 (eN ws[2]! (eN ws[1]! 0))))
def er3(ws:List (List UInt8)):Int:=eN ws[4]! (eN ws[3]! (eN ws[2]! (eN ws[1]! 0)))
noncomputable def er4(ws:List (List UInt8)):Int:=eN ws[4]! (eM ws[3]! (eU ws[2]! 1 4094 (eN ws[1]! 0)))
def er5(ws:List (List UInt8)):Int:=eA ws[2]! (eN ws[1]! 0)
def er6(ws:List (List UInt8)):Int:=eU ws[3]! 1 16777215 (eU ws[2]! 1 4094 (eN ws[1]! 0))
def er7(ws:List (List UInt8)):Int:=eD ws[3]! (eU ws[2]! 1 16777215 (eN ws[1]! 0))
def er8(ws:List (List UInt8)):Int:=eL ws[4]! 65535 (eL ws[3]! 65535 (eN ws[2]! (eN ws[1]! 0)))
def er9(ws:List (List UInt8)):Int:=eS ws[4]! (eN ws[3]! (eU ws[2]! 1 4094 (eN ws[1]! 0)))
noncomputable def li1(ws:List (List UInt8))(r:Int):LnF:=⟨⟨r,1,ws[1]!,[],[],[],[],(Mc.rdm ws[3]!).1,0,0,0,nu ws[2]! 0 65535,0⟩,[],[],[],[]⟩
def li2(ws:List (List UInt8))(r:Int):LnF:=⟨⟨r,2,ws[1]!,ws[2]!,[],[],[],0,0,0,pkV ws 4,0,nu ws[3]! 1 65535⟩,pkT ws 4,[],[],[]⟩
def li3(ws:List (List UInt8))(r:Int):LnF:=⟨⟨r,3,ws[1]!,ws[2]!,ws[3]!,ws[4]!,[],0,0,0,0,0,0⟩,[],[],[],[]⟩
noncomputable def li4(ws:List (List UInt8))(r:Int):LnF:=⟨⟨r,4,ws[1]!,ws[4]!,[],[],[],(Mc.rdm ws[3]!).1,0,0,nu ws[2]! 1 4094,0,0⟩,[],[],[],[]⟩
def li5(ws:List (List UInt8))(r:Int):LnF:=⟨⟨r,5,ws[1]!,[],[],[],[],0,(rdB ws[2]!).1,0,0,0,0⟩,[],[],[],[]⟩
def li6(ws:List (List UInt8))(r:Int):LnF:=⟨⟨r,6,ws[1]!,[],[],[],[],0,0,0,nu ws[2]! 1 4094,nu ws[3]! 1 16777215,0⟩,[],[],[],[]⟩
def li7(ws:List (List UInt8))(r:Int):LnF:=⟨⟨r,7,ws[1]!,[],[],[],[],0,0,0,0,nu ws[2]! 1 16777215,0⟩,[],[],[],adV ws[3]!⟩
def li8(ws:List (List UInt8))(r:Int):LnF:=⟨⟨r,8,ws[1]!,[],[],[],ws[2]!,0,0,0,0,0,0⟩,[],lsV ws[3]! 65535,lsV ws[4]! 65535,[]⟩
def li9(ws:List (List UInt8))(r:Int):LnF:=⟨⟨r,9,ws[1]!,[],[],[],ws[3]!,0,(rpB ws[4]!).1,(rpB ws[4]!).2.1,nu ws[2]! 1 4094,0,0⟩,[],[],[],[]⟩
def rdT(e:Int)(x:LnF):AV:=if e=0 then .tup [lnV x,.int .i64 0] else .tup [lnV lnfZ,.int .i64 e]
theorem rdT_z(x:LnF):rdT 0 x=.tup [lnV x,.int .i64 0]:=if_pos rfl
theorem rdT_e{e:Int}{x:LnF}(h:e≠0):rdT e x=.tup [lnA lnZ (.sl 0 [] true) (.sl 0 [] true) (.sl 0 [] true) (.sl 0 [] true),.int .i64 e]:=if_neg h
theorem read1(ws:List (List UInt8))(f:Bool)(r:Int)(hk:kdF ws[0]! = 1)(hm:mnF 1 ws=true)(hl:∀ w∈ws,w.length≤1000):Run Tryz.prog 13 [.sl 1 (ws.map .str) f,.int .i64 r] (rdT (er1 ws) (li1 ws r)):=by
 have hn:ws.length=4:=by
  unfold mnF at hm
  simp at hm
  omega
 have hlm:(ws.map AV.str).length=4:=by simp [hn]
 have hg0:(ws.map AV.str)[0]?=some (.str ws[0]!):=mG (by omega)
 have qk:=kind_run ws[0]!
 rw [hk] at qk
 have qm:=many_run ws f 1 (by simp) (by omega)
 rw [hm] at qm
 obtain ⟨e1,he1⟩:∃ e,eN ws[1]! 0=e:=⟨_,rfl⟩
 have g1:∀(A:Option Ent) (T:Hp),Gen Tryz.prog 32 [.eptr 1 0 0] (A :: rdo ws f 1 0 :: T) (.str ws[1]!) (A :: rdo ws f 2 e1 :: T):=fun A T=>by
  rw [← he1]
  exact name_gen ws f 1 0 A T (by omega) (by omega) hl
 obtain ⟨e2,he2⟩:∃ e,eU ws[2]! 0 65535 e1=e:=⟨_,rfl⟩
 have g2:∀(A:Option Ent) (T:Hp),Gen Tryz.prog 34 [.eptr 1 0 0,.int .i64 0,.int .i64 65535] (A :: rdo ws f 2 e1 :: T) (.int .i64 (nu ws[2]! 0 65535)) (A :: rdo ws f 3 e2 :: T):=fun A T=>by
  rw [← he2]
  exact number_gen ws f 2 e1 0 65535 A T (by omega) (by omega) hl
 obtain ⟨e3,he3⟩:∃ e,eM ws[3]! e2=e:=⟨_,rfl⟩
 have g3:∀(A:Option Ent) (T:Hp),Gen Tryz.prog 35 [.eptr 1 0 0] (A :: rdo ws f 3 e2 :: T) (.int .u64 (Mc.rdm ws[3]!).1) (A :: rdo ws f 4 e3 :: T):=fun A T=>by
  rw [← he3]
  exact mac_gen ws f 3 e2 A T (by omega) (by omega) hl
 have her:er1 ws=e3:=by
  rw [← he3,← he2,← he1]
  rfl
 rw [her]
 clear her he3 he2 he1
 have hx:lnV (li1 ws r)=lnA (li1 ws r).l (.sl 0 [] true) (.sl 0 [] true) (.sl 0 [] true) (.sl 0 [] true):=rfl
 conv at hx=>rhs; unfold li1
 generalize li1 ws r=x at *
 refine Tryz.run13 (by simp) ?_
 unfold Tryz.c13
 simp (disch:=try exact dq) only[↓pvd,pz,sC,List.map,seval,hlm,hg0]
 refine aC qk rfl rfl ?_
 refine vZ ?_
 refine aC qm rfl rfl ?_
 simp (disch:=try exact dq) only[↓pvd,pz,sC,List.map,seval,hlm,hg0]
 refine aC qk rfl rfl ?_
 refine vZ ?_
 refine aV rfl (g1 _ _) (by simp) ?_
 simp (disch:=try exact dq) only[↓pvd,pz,sC,List.map,seval,lnA]
 refine aH (g2 _ _) ?_
 refine vZ ?_
 refine aH (g3 _ _) ?_
 refine vZ ?_
 all_goals
  by_cases he:e3=0
  case' pos=>(rw [he,rdT_z,hx]; unfold lnA)
  case' neg=>(rw [rdT_e he]; unfold lnA lnZ)
  all_goals simp (disch:=try exact dq) only[↓pvd,pz,sC,List.map,seval,rdo,he]
  all_goals exact xZ
theorem read3(ws:List (List UInt8))(f:Bool)(r:Int)(hk:kdF ws[0]! = 3)(hm:mnF 3 ws=true)(hl:∀ w∈ws,w.length≤1000):Run Tryz.prog 13 [.sl 1 (ws.map .str) f,.int .i64 r] (rdT (er3 ws) (li3 ws r)):=by
 have hn:ws.length=5:=by
  unfold mnF at hm
  simp at hm
  omega
 have hlm:(ws.map AV.str).length=5:=by simp [hn]
 have hg0:(ws.map AV.str)[0]?=some (.str ws[0]!):=mG (by omega)
 have qk:=kind_run ws[0]!
 rw [hk] at qk
 have qm:=many_run ws f 3 (by simp) (by omega)
 rw [hm] at qm
 obtain ⟨e1,he1⟩:∃ e,eN ws[1]! 0=e:=⟨_,rfl⟩
 have g1:∀(A:Option Ent) (T:Hp),Gen Tryz.prog 32 [.eptr 1 0 0] (A :: rdo ws f 1 0 :: T) (.str ws[1]!) (A :: rdo ws f 2 e1 :: T):=fun A T=>by
  rw [← he1]
  exact name_gen ws f 1 0 A T (by omega) (by omega) hl
 obtain ⟨e2,he2⟩:∃ e,eN ws[2]! e1=e:=⟨_,rfl⟩
 have g2:∀(A:Option Ent) (T:Hp),Gen Tryz.prog 32 [.eptr 1 0 0] (A :: rdo ws f 2 e1 :: T) (.str ws[2]!) (A :: rdo ws f 3 e2 :: T):=fun A T=>by
  rw [← he2]
  exact name_gen ws f 2 e1 A T (by omega) (by omega) hl
 obtain ⟨e3,he3⟩:∃ e,eN ws[3]! e2=e:=⟨_,rfl⟩
 have g3:∀(A:Option Ent) (T:Hp),Gen Tryz.prog 32 [.eptr 1 0 0] (A :: rdo ws f 3 e2 :: T) (.str ws[3]!) (A :: rdo ws f 4 e3 :: T):=fun A T=>by
  rw [← he3]
  exact name_gen ws f 3 e2 A T (by omega) (by omega) hl
 obtain ⟨e4,he4⟩:∃ e,eN ws[4]! e3=e:=⟨_,rfl⟩
 have g4:∀(A:Option Ent) (T:Hp),Gen Tryz.prog 32 [.eptr 1 0 0] (A :: rdo ws f 4 e3 :: T) (.str ws[4]!) (A :: rdo ws f 5 e4 :: T):=fun A T=>by
  rw [← he4]
  exact name_gen ws f 4 e3 A T (by omega) (by omega) hl
 have her:er3 ws=e4:=by
  rw [← he4,← he3,← he2,← he1]
  rfl
 rw [her]
 clear her he4 he3 he2 he1
 have hx:lnV (li3 ws r)=lnA (li3 ws r).l (.sl 0 [] true) (.sl 0 [] true) (.sl 0 [] true) (.sl 0 [] true):=rfl
 conv at hx=>rhs; unfold li3
 generalize li3 ws r=x at *
 refine Tryz.run13 (by simp) ?_
 unfold Tryz.c13
 simp (disch:=try exact dq) only[↓pvd,pz,sC,List.map,seval,hlm,hg0]
 refine aC qk rfl rfl ?_
 refine vZ ?_
 refine aC qm rfl rfl ?_
 simp (disch:=try exact dq) only[↓pvd,pz,sC,List.map,seval,hlm,hg0]
 refine aC qk rfl rfl ?_
 refine vZ ?_
 refine aV rfl (g1 _ _) (by simp) ?_
 simp (disch:=try exact dq) only[↓pvd,pz,sC,List.map,seval,lnA]
 refine aV rfl (g2 _ _) (by simp) ?_
 simp (disch:=try exact dq) only[↓pvd,pz,sC,List.map,seval,lnA]
 refine aV rfl (g3 _ _) (by simp) ?_
 simp (disch:=try exact dq) only[↓pvd,pz,sC,List.map,seval,lnA]
 refine aV rfl (g4 _ _) (by simp) ?_
 simp (disch:=try exact dq) only[↓pvd,pz,sC,List.map,seval,lnA]
 all_goals
  by_cases he:e4=0
  case' pos=>(rw [he,rdT_z,hx]; unfold lnA)
  case' neg=>(rw [rdT_e he]; unfold lnA lnZ)
  all_goals simp (disch:=try exact dq) only[↓pvd,pz,sC,List.map,seval,rdo,he]
  all_goals exact xZ
theorem read4(ws:List (List UInt8))(f:Bool)(r:Int)(hk:kdF ws[0]! = 4)(hm:mnF 4 ws=true)(hl:∀ w∈ws,w.length≤1000):Run Tryz.prog 13 [.sl 1 (ws.map .str) f,.int .i64 r] (rdT (er4 ws) (li4 ws r)):=by
 have hn:ws.length=5:=by
  unfold mnF at hm
  simp at hm
  omega
 have hlm:(ws.map AV.str).length=5:=by simp [hn]
 have hg0:(ws.map AV.str)[0]?=some (.str ws[0]!):=mG (by omega)
 have qk:=kind_run ws[0]!
 rw [hk] at qk
 have qm:=many_run ws f 4 (by simp) (by omega)
 rw [hm] at qm
 obtain ⟨e1,he1⟩:∃ e,eN ws[1]! 0=e:=⟨_,rfl⟩
 have g1:∀(A:Option Ent) (T:Hp),Gen Tryz.prog 32 [.eptr 1 0 0] (A :: rdo ws f 1 0 :: T) (.str ws[1]!) (A :: rdo ws f 2 e1 :: T):=fun A T=>by
  rw [← he1]
  exact name_gen ws f 1 0 A T (by omega) (by omega) hl
 obtain ⟨e2,he2⟩:∃ e,eU ws[2]! 1 4094 e1=e:=⟨_,rfl⟩
 have g2:∀(A:Option Ent) (T:Hp),Gen Tryz.prog 33 [.eptr 1 0 0] (A :: rdo ws f 2 e1 :: T) (.int .i64 (nu ws[2]! 1 4094)) (A :: rdo ws f 3 e2 :: T):=fun A T=>by
  rw [← he2]
  exact vlan_gen ws f 2 e1 A T (by omega) (by omega) hl
 obtain ⟨e3,he3⟩:∃ e,eM ws[3]! e2=e:=⟨_,rfl⟩
 have g3:∀(A:Option Ent) (T:Hp),Gen Tryz.prog 35 [.eptr 1 0 0] (A :: rdo ws f 3 e2 :: T) (.int .u64 (Mc.rdm ws[3]!).1) (A :: rdo ws f 4 e3 :: T):=fun A T=>by
  rw [← he3]
  exact mac_gen ws f 3 e2 A T (by omega) (by omega) hl
 obtain ⟨e4,he4⟩:∃ e,eN ws[4]! e3=e:=⟨_,rfl⟩
 have g4:∀(A:Option Ent) (T:Hp),Gen Tryz.prog 32 [.eptr 1 0 0] (A :: rdo ws f 4 e3 :: T) (.str ws[4]!) (A :: rdo ws f 5 e4 :: T):=fun A T=>by
  rw [← he4]
  exact name_gen ws f 4 e3 A T (by omega) (by omega) hl
 have her:er4 ws=e4:=by
  rw [← he4,← he3,← he2,← he1]
  rfl
 rw [her]
 clear her he4 he3 he2 he1
 have hx:lnV (li4 ws r)=lnA (li4 ws r).l (.sl 0 [] true) (.sl 0 [] true) (.sl 0 [] true) (.sl 0 [] true):=rfl
 conv at hx=>rhs; unfold li4
 generalize li4 ws r=x at *
 refine Tryz.run13 (by simp) ?_
 unfold Tryz.c13
 simp (disch:=try exact dq) only[↓pvd,pz,sC,List.map,seval,hlm,hg0]
 refine aC qk rfl rfl ?_
 refine vZ ?_
 refine aC qm rfl rfl ?_
 simp (disch:=try exact dq) only[↓pvd,pz,sC,List.map,seval,hlm,hg0]
 refine aC qk rfl rfl ?_
 refine vZ ?_
 refine aV rfl (g1 _ _) (by simp) ?_
 simp (disch:=try exact dq) only[↓pvd,pz,sC,List.map,seval,lnA]
 refine aV rfl (g2 _ _) (by simp) ?_
 simp (disch:=try exact dq) only[↓pvd,pz,sC,List.map,seval,lnA]
 refine aH (g3 _ _) ?_
 refine vZ ?_
 refine aV rfl (g4 _ _) (by simp) ?_
 simp (disch:=try exact dq) only[↓pvd,pz,sC,List.map,seval,lnA]
 all_goals
  by_cases he:e4=0
  case' pos=>(rw [he,rdT_z,hx]; unfold lnA)
  case' neg=>(rw [rdT_e he]; unfold lnA lnZ)
  all_goals simp (disch:=try exact dq) only[↓pvd,pz,sC,List.map,seval,rdo,he]
  all_goals exact xZ
theorem read6(ws:List (List UInt8))(f:Bool)(r:Int)(hk:kdF ws[0]! = 6)(hm:mnF 6 ws=true)(hl:∀ w∈ws,w.length≤1000):Run Tryz.prog 13 [.sl 1 (ws.map .str) f,.int .i64 r] (rdT (er6 ws) (li6 ws r)):=by
 have hn:ws.length=4:=by
  unfold mnF at hm
  simp at hm
  omega
 have hlm:(ws.map AV.str).length=4:=by simp [hn]
 have hg0:(ws.map AV.str)[0]?=some (.str ws[0]!):=mG (by omega)
 have qk:=kind_run ws[0]!
 rw [hk] at qk
 have qm:=many_run ws f 6 (by simp) (by omega)
 rw [hm] at qm
 obtain ⟨e1,he1⟩:∃ e,eN ws[1]! 0=e:=⟨_,rfl⟩
 have g1:∀(A:Option Ent) (T:Hp),Gen Tryz.prog 32 [.eptr 1 0 0] (A :: rdo ws f 1 0 :: T) (.str ws[1]!) (A :: rdo ws f 2 e1 :: T):=fun A T=>by
  rw [← he1]
  exact name_gen ws f 1 0 A T (by omega) (by omega) hl
 obtain ⟨e2,he2⟩:∃ e,eU ws[2]! 1 4094 e1=e:=⟨_,rfl⟩
 have g2:∀(A:Option Ent) (T:Hp),Gen Tryz.prog 33 [.eptr 1 0 0] (A :: rdo ws f 2 e1 :: T) (.int .i64 (nu ws[2]! 1 4094)) (A :: rdo ws f 3 e2 :: T):=fun A T=>by
  rw [← he2]
  exact vlan_gen ws f 2 e1 A T (by omega) (by omega) hl
 obtain ⟨e3,he3⟩:∃ e,eU ws[3]! 1 16777215 e2=e:=⟨_,rfl⟩
 have g3:∀(A:Option Ent) (T:Hp),Gen Tryz.prog 40 [.eptr 1 0 0] (A :: rdo ws f 3 e2 :: T) (.int .i64 (nu ws[3]! 1 16777215)) (A :: rdo ws f 4 e3 :: T):=fun A T=>by
  rw [← he3]
  exact vni_gen ws f 3 e2 A T (by omega) (by omega) hl
 have her:er6 ws=e3:=by
  rw [← he3,← he2,← he1]
  rfl
 rw [her]
 clear her he3 he2 he1
 have hx:lnV (li6 ws r)=lnA (li6 ws r).l (.sl 0 [] true) (.sl 0 [] true) (.sl 0 [] true) (.sl 0 [] true):=rfl
 conv at hx=>rhs; unfold li6
 generalize li6 ws r=x at *
 refine Tryz.run13 (by simp) ?_
 unfold Tryz.c13
 simp (disch:=try exact dq) only[↓pvd,pz,sC,List.map,seval,hlm,hg0]
 refine aC qk rfl rfl ?_
 refine vZ ?_
 refine aC qm rfl rfl ?_
 simp (disch:=try exact dq) only[↓pvd,pz,sC,List.map,seval,hlm,hg0]
 refine aC qk rfl rfl ?_
 refine vZ ?_
 refine aV rfl (g1 _ _) (by simp) ?_
 simp (disch:=try exact dq) only[↓pvd,pz,sC,List.map,seval,lnA]
 refine aV rfl (g2 _ _) (by simp) ?_
 simp (disch:=try exact dq) only[↓pvd,pz,sC,List.map,seval,lnA]
 refine aH (g3 _ _) ?_
 refine vZ ?_
 all_goals
  by_cases he:e3=0
  case' pos=>(rw [he,rdT_z,hx]; unfold lnA)
  case' neg=>(rw [rdT_e he]; unfold lnA lnZ)
  all_goals simp (disch:=try exact dq) only[↓pvd,pz,sC,List.map,seval,rdo,he]
  all_goals exact xZ
theorem read5(ws:List (List UInt8))(f:Bool)(r:Int)(hk:kdF ws[0]! = 5)(hm:mnF 5 ws=true)(hl:∀ w∈ws,w.length≤1000):Run Tryz.prog 13 [.sl 1 (ws.map .str) f,.int .i64 r] (rdT (er5 ws) (li5 ws r)):=by
 have hn:ws.length=3:=by
  unfold mnF at hm
  simp at hm
  omega
 have hlm:(ws.map AV.str).length=3:=by simp [hn]
 have hg0:(ws.map AV.str)[0]?=some (.str ws[0]!):=mG (by omega)
 have qk:=kind_run ws[0]!
 rw [hk] at qk
 have qm:=many_run ws f 5 (by simp) (by omega)
 rw [hm] at qm
 obtain ⟨e1,he1⟩:∃ e,eN ws[1]! 0=e:=⟨_,rfl⟩
 have g1:∀(A:Option Ent) (T:Hp),Gen Tryz.prog 32 [.eptr 1 0 0] (A :: rdo ws f 1 0 :: T) (.str ws[1]!) (A :: rdo ws f 2 e1 :: T):=fun A T=>by
  rw [← he1]
  exact name_gen ws f 1 0 A T (by omega) (by omega) hl
 have hwl:ws[2]!.length≤1000:=hl _ (by rw [getElem!_pos ws 2 (by omega)]; exact List.getElem_mem (by omega))
 have qa:=read_run ws[2]! (by omega)
 rw [rdB_eq] at qa
 obtain ⟨e2,he2⟩:∃ e,eA ws[2]! e1=e:=⟨_,rfl⟩
 have gn:=fun(A:Option Ent) (T:Hp)=>next_gen ws f 2 e1 A T (by omega) (by omega)
 have gf:∀(A:Option Ent) (T:Hp),Gen Tryz.prog 36 [.eptr 1 0 0,.bool (!(rdB ws[2]!).2 || decide ((rdB ws[2]!).1=0)),.int .i64 21] (A :: rdo ws f 3 e1 :: T) (.tup []) (A :: rdo ws f 3 e2 :: T):=fun A T=>by
  rw [← he2]
  exact fail_gen ws f 3 e1 21 _ A T
 have her:er5 ws=e2:=by
  rw [← he2,← he1]
  rfl
 rw [her]
 clear her he2 he1
 have hx:lnV (li5 ws r)=lnA (li5 ws r).l (.sl 0 [] true) (.sl 0 [] true) (.sl 0 [] true) (.sl 0 [] true):=rfl
 conv at hx=>rhs; unfold li5
 generalize li5 ws r=x at *
 refine Tryz.run13 (by simp) ?_
 unfold Tryz.c13
 simp (disch:=try exact dq) only[↓pvd,pz,sC,List.map,seval,hlm,hg0]
 refine aC qk rfl rfl ?_
 refine vZ ?_
 refine aC qm rfl rfl ?_
 simp (disch:=try exact dq) only[↓pvd,pz,sC,List.map,seval,hlm,hg0]
 refine aC qk rfl rfl ?_
 refine vZ ?_
 refine aV rfl (g1 _ _) (by simp) ?_
 simp (disch:=try exact dq) only[↓pvd,pz,sC,List.map,seval,lnA]
 refine aH (gn _ _) ?_
 refine vZ ?_
 refine aC qa rfl rfl ?_
 generalize (rdB ws[2]!).1=a at *
 generalize (rdB ws[2]!).2=ok at *
 have gf':∀ b,b =(!ok || decide (a=0))→∀(A:Option Ent) (T:Hp),Gen Tryz.prog 36 [.eptr 1 0 0,.bool b,.int .i64 21] (A :: rdo ws f 3 e1 :: T) (.tup []) (A :: rdo ws f 3 e2 :: T):=by rintro b rfl; exact gf
 cases ok
 all_goals simp (disch:=try exact dr) only[↓pvd,pz,sC,List.map,seval]
 case' false=>refine aH (gf' _ (by simp) _ _) ?_
 case' true=>refine aH (gf' _ (by simp) _ _) ?_
 all_goals simp (disch:=try exact dr) only[↓pvd,pz,sC,List.map,seval]
 all_goals
  by_cases he:e2=0
  case' pos=>(rw [he,rdT_z,hx]; unfold lnA)
  case' neg=>(rw [rdT_e he]; unfold lnA lnZ)
  all_goals simp (disch:=try exact dq) only[↓pvd,pz,sC,List.map,seval,rdo,he]
  all_goals exact xZ
theorem read7(ws:List (List UInt8))(f:Bool)(r:Int)(hk:kdF ws[0]! = 7)(hm:mnF 7 ws=true)(hl:∀ w∈ws,w.length≤1000):Run Tryz.prog 13 [.sl 1 (ws.map .str) f,.int .i64 r] (rdT (er7 ws) (li7 ws r)):=by
 have hn:ws.length=4:=by
  unfold mnF at hm
  simp at hm
  omega
 have hlm:(ws.map AV.str).length=4:=by simp [hn]
 have hg0:(ws.map AV.str)[0]?=some (.str ws[0]!):=mG (by omega)
 have qk:=kind_run ws[0]!
 rw [hk] at qk
 have qm:=many_run ws f 7 (by simp) (by omega)
 rw [hm] at qm
 obtain ⟨e1,he1⟩:∃ e,eN ws[1]! 0=e:=⟨_,rfl⟩
 have g1:∀(A:Option Ent) (T:Hp),Gen Tryz.prog 32 [.eptr 1 0 0] (A :: rdo ws f 1 0 :: T) (.str ws[1]!) (A :: rdo ws f 2 e1 :: T):=fun A T=>by
  rw [← he1]
  exact name_gen ws f 1 0 A T (by omega) (by omega) hl
 obtain ⟨e2,he2⟩:∃ e,eU ws[2]! 1 16777215 e1=e:=⟨_,rfl⟩
 have g2:∀(A:Option Ent) (T:Hp),Gen Tryz.prog 40 [.eptr 1 0 0] (A :: rdo ws f 2 e1 :: T) (.int .i64 (nu ws[2]! 1 16777215)) (A :: rdo ws f 3 e2 :: T):=fun A T=>by
  rw [← he2]
  exact vni_gen ws f 2 e1 A T (by omega) (by omega) hl
 have hwl:ws[3]!.length≤1000:=hl _ (by rw [getElem!_pos ws 3 (by omega)]; exact List.getElem_mem (by omega))
 have qa:Run Tryz.prog 41 [.str ws[3]!] (.tup [sl32 (adV ws[3]!),.bool (adG ws[3]!)]):=by
  have q:=run_frz (rdaddrs_run ws[3]! hwl)
  unfold adV
  by_cases h:adG ws[3]! = true
  ·rw [rlR_yes h] at q
   rw [if_pos h,h]
   unfold sl32
   rw [if_neg (by simpa using sc_ne ws[3]!)]
   exact q
  ·have h':adG ws[3]! = false:=by simpa using h
   rw [rlR_no h] at q
   rw [if_neg h,h',sl32_nil]
   exact q
 have had:adG ws[3]! = true→0 <(adV ws[3]!).length:=fun h=>by
  unfold adV
  rw [if_pos h,List.length_map]
  exact List.length_pos_iff.2 (sc_ne _)
 obtain ⟨e3,he3⟩:∃ e,eD ws[3]! e2=e:=⟨_,rfl⟩
 have gn:=fun(A:Option Ent) (T:Hp)=>next_gen ws f 3 e2 A T (by omega) (by omega)
 have gf:∀(A:Option Ent) (T:Hp),Gen Tryz.prog 36 [.eptr 1 0 0,.bool (!adG ws[3]! || decide ((adV ws[3]!)[0]! = 0)),.int .i64 21] (A :: rdo ws f 4 e2 :: T) (.tup []) (A :: rdo ws f 4 e3 :: T):=fun A T=>by
  rw [← he3]
  exact fail_gen ws f 4 e2 21 _ A T
 have her:er7 ws=e3:=by
  rw [← he3,← he2,← he1]
  rfl
 rw [her]
 clear her he3 he2 he1
 obtain ⟨n1,f1,hs1,hn1⟩:=sl32_is (adV ws[3]!)
 have hx:lnV (li7 ws r)=lnA ⟨r,7,ws[1]!,[],[],[],[],0,0,0,0,nu ws[2]! 1 16777215,0⟩ (.sl 0 [] true) (.sl 0 [] true) (.sl 0 [] true) (.sl n1 ((adV ws[3]!).map (.int .u32)) f1):=by
  rw [← hs1]; rfl
 rw [hs1] at qa
 generalize li7 ws r=x at *
 refine Tryz.run13 (by simp) ?_
 unfold Tryz.c13
 simp (disch:=try exact dq) only[↓pvd,pz,sC,List.map,seval,hlm,hg0]
 refine aC qk rfl rfl ?_
 refine vZ ?_
 refine aC qm rfl rfl ?_
 simp (disch:=try exact dq) only[↓pvd,pz,sC,List.map,seval,hlm,hg0]
 refine aC qk rfl rfl ?_
 refine vZ ?_
 refine aV rfl (g1 _ _) (by simp) ?_
 simp (disch:=try exact dq) only[↓pvd,pz,sC,List.map,seval,lnA]
 refine aH (g2 _ _) ?_
 refine vZ ?_
 refine aH (gn _ _) ?_
 refine vZ ?_
 refine aC qa rfl rfl ?_
 have gf':∀ b,b =(!adG ws[3]! || decide ((adV ws[3]!)[0]! = 0))→∀(A:Option Ent) (T:Hp),Gen Tryz.prog 36 [.eptr 1 0 0,.bool b,.int .i64 21] (A :: rdo ws f 4 e2 :: T) (.tup []) (A :: rdo ws f 4 e3 :: T):=by rintro b rfl; exact gf
 generalize adV ws[3]! = ad at *
 generalize adG ws[3]! = ok at *
 cases ok
 case' true =>
  have h0:=had rfl
  have hga:(ad.map (AV.int .u32))[0]?=some (.int .u32 ad[0]!):=mG h0
  have hal:(ad.map (AV.int .u32)).length=ad.length:=by simp
  obtain rfl:n1=1:=hn1.resolve_left (by rintro rfl; simp at h0)
 all_goals generalize ad.map (AV.int .u32)=es at *
 case' true=>simp (disch:=try exact dq) only[↓pvd,pz,sC,List.map,seval,hga,hal]
 case' false=>simp (disch:=try exact dr) only[↓pvd,pz,sC,List.map,seval]
 case' false=>refine aH (gf' _ (by simp) _ _) ?_
 case' true=>refine aH (gf' _ (by simp) _ _) ?_
 all_goals simp (disch:=try exact dr) only[↓pvd,pz,sC,List.map,seval]
 all_goals
  by_cases he:e3=0
  case' pos=>(rw [he,rdT_z,hx]; unfold lnA)
  case' neg=>(rw [rdT_e he]; unfold lnA lnZ)
  all_goals simp (disch:=try exact dq) only[↓pvd,pz,sC,List.map,seval,rdo,he]
  all_goals exact xZ
theorem read8(ws:List (List UInt8))(f:Bool)(r:Int)(hk:kdF ws[0]! = 8)(hm:mnF 8 ws=true)(hl:∀ w∈ws,w.length≤1000):Run Tryz.prog 13 [.sl 1 (ws.map .str) f,.int .i64 r] (rdT (er8 ws) (li8 ws r)):=by
 have hn:ws.length=5:=by
  unfold mnF at hm
  simp at hm
  omega
 have hlm:(ws.map AV.str).length=5:=by simp [hn]
 have hg0:(ws.map AV.str)[0]?=some (.str ws[0]!):=mG (by omega)
 have qk:=kind_run ws[0]!
 rw [hk] at qk
 have qm:=many_run ws f 8 (by simp) (by omega)
 rw [hm] at qm
 obtain ⟨e1,he1⟩:∃ e,eN ws[1]! 0=e:=⟨_,rfl⟩
 have g1:∀(A:Option Ent) (T:Hp),Gen Tryz.prog 32 [.eptr 1 0 0] (A :: rdo ws f 1 0 :: T) (.str ws[1]!) (A :: rdo ws f 2 e1 :: T):=fun A T=>by
  rw [← he1]
  exact name_gen ws f 1 0 A T (by omega) (by omega) hl
 obtain ⟨e2,he2⟩:∃ e,eN ws[2]! e1=e:=⟨_,rfl⟩
 have g2:∀(A:Option Ent) (T:Hp),Gen Tryz.prog 32 [.eptr 1 0 0] (A :: rdo ws f 2 e1 :: T) (.str ws[2]!) (A :: rdo ws f 3 e2 :: T):=fun A T=>by
  rw [← he2]
  exact name_gen ws f 2 e1 A T (by omega) (by omega) hl
 obtain ⟨e3,he3⟩:∃ e,eL ws[3]! 65535 e2=e:=⟨_,rfl⟩
 have g3:∀(A:Option Ent) (T:Hp),Gen Tryz.prog 42 [.eptr 1 0 0,.int .i64 65535] (A :: rdo ws f 3 e2 :: T) (slV (lsV ws[3]! 65535)) (A :: rdo ws f 4 e3 :: T):=fun A T=>by
  rw [← he3]
  exact list_gen ws f 3 e2 65535 A T (by omega) (by omega) hl
 obtain ⟨e4,he4⟩:∃ e,eL ws[4]! 65535 e3=e:=⟨_,rfl⟩
 have g4:∀(A:Option Ent) (T:Hp),Gen Tryz.prog 42 [.eptr 1 0 0,.int .i64 65535] (A :: rdo ws f 4 e3 :: T) (slV (lsV ws[4]! 65535)) (A :: rdo ws f 5 e4 :: T):=fun A T=>by
  rw [← he4]
  exact list_gen ws f 4 e3 65535 A T (by omega) (by omega) hl
 have her:er8 ws=e4:=by
  rw [← he4,← he3,← he2,← he1]
  rfl
 rw [her]
 clear her he4 he3 he2 he1
 obtain ⟨n1,f1,hs1,_⟩:=slV_is (lsV ws[3]! 65535)
 obtain ⟨n2,f2,hs2,_⟩:=slV_is (lsV ws[4]! 65535)
 have hx:lnV (li8 ws r)=lnA ⟨r,8,ws[1]!,[],[],[],ws[2]!,0,0,0,0,0,0⟩ (.sl 0 [] true) (.sl n1 ((lsV ws[3]! 65535).map (.int .i64)) f1) (.sl n2 ((lsV ws[4]! 65535).map (.int .i64)) f2) (.sl 0 [] true):=by
  rw [← hs1,← hs2]; rfl
 rw [hs1] at g3
 rw [hs2] at g4
 generalize (lsV ws[3]! 65535).map (AV.int .i64)=es1 at *
 generalize (lsV ws[4]! 65535).map (AV.int .i64)=es2 at *
 generalize li8 ws r=x at *
 refine Tryz.run13 (by simp) ?_
 unfold Tryz.c13
 simp (disch:=try exact dq) only[↓pvd,pz,sC,List.map,seval,hlm,hg0]
 refine aC qk rfl rfl ?_
 refine vZ ?_
 refine aC qm rfl rfl ?_
 simp (disch:=try exact dq) only[↓pvd,pz,sC,List.map,seval,hlm,hg0]
 refine aC qk rfl rfl ?_
 refine vZ ?_
 refine aV rfl (g1 _ _) (by simp) ?_
 simp (disch:=try exact dq) only[↓pvd,pz,sC,List.map,seval,lnA]
 refine aV rfl (g2 _ _) (by simp) ?_
 simp (disch:=try exact dq) only[↓pvd,pz,sC,List.map,seval,lnA]
 refine aH (g3 _ _) ?_
 refine vZ ?_
 refine aH (g4 _ _) ?_
 refine vZ ?_
 all_goals
  by_cases he:e4=0
  case' pos=>(rw [he,rdT_z,hx]; unfold lnA)
  case' neg=>(rw [rdT_e he]; unfold lnA lnZ)
  all_goals simp (disch:=try exact dq) only[↓pvd,pz,sC,List.map,seval,rdo,he]
  all_goals exact xZ
theorem read9(ws:List (List UInt8))(f:Bool)(r:Int)(hk:kdF ws[0]! = 9)(hm:mnF 9 ws=true)(hl:∀ w∈ws,w.length≤1000):Run Tryz.prog 13 [.sl 1 (ws.map .str) f,.int .i64 r] (rdT (er9 ws) (li9 ws r)):=by
 have hn:ws.length=5:=by
  unfold mnF at hm
  simp at hm
  omega
 have hlm:(ws.map AV.str).length=5:=by simp [hn]
 have hg0:(ws.map AV.str)[0]?=some (.str ws[0]!):=mG (by omega)
 have qk:=kind_run ws[0]!
 rw [hk] at qk
 have qm:=many_run ws f 9 (by simp) (by omega)
 rw [hm] at qm
 obtain ⟨e1,he1⟩:∃ e,eN ws[1]! 0=e:=⟨_,rfl⟩
 have g1:∀(A:Option Ent) (T:Hp),Gen Tryz.prog 32 [.eptr 1 0 0] (A :: rdo ws f 1 0 :: T) (.str ws[1]!) (A :: rdo ws f 2 e1 :: T):=fun A T=>by
  rw [← he1]
  exact name_gen ws f 1 0 A T (by omega) (by omega) hl
 obtain ⟨e2,he2⟩:∃ e,eU ws[2]! 1 4094 e1=e:=⟨_,rfl⟩
 have g2:∀(A:Option Ent) (T:Hp),Gen Tryz.prog 33 [.eptr 1 0 0] (A :: rdo ws f 2 e1 :: T) (.int .i64 (nu ws[2]! 1 4094)) (A :: rdo ws f 3 e2 :: T):=fun A T=>by
  rw [← he2]
  exact vlan_gen ws f 2 e1 A T (by omega) (by omega) hl
 obtain ⟨e3,he3⟩:∃ e,eN ws[3]! e2=e:=⟨_,rfl⟩
 have g3:∀(A:Option Ent) (T:Hp),Gen Tryz.prog 32 [.eptr 1 0 0] (A :: rdo ws f 3 e2 :: T) (.str ws[3]!) (A :: rdo ws f 4 e3 :: T):=fun A T=>by
  rw [← he3]
  exact name_gen ws f 3 e2 A T (by omega) (by omega) hl
 have hwl:ws[4]!.length≤1000:=hl _ (by rw [getElem!_pos ws 4 (by omega)]; exact List.getElem_mem (by omega))
 have qa:=rp_run ws[4]! (by omega)
 rw [rpB_eq] at qa
 have qs:=subnet_run (rpB ws[4]!).1 (rpB ws[4]!).2.1 (rpB_b ws[4]!)
 obtain ⟨e4,he4⟩:∃ e,eS ws[4]! e3=e:=⟨_,rfl⟩
 have gn:=fun(A:Option Ent) (T:Hp)=>next_gen ws f 4 e3 A T (by omega) (by omega)
 have gf:∀(A:Option Ent) (T:Hp),Gen Tryz.prog 36 [.eptr 1 0 0,.bool (!(rpB ws[4]!).2.2 || !sbF (rpB ws[4]!).1 (rpB ws[4]!).2.1),.int .i64 21] (A :: rdo ws f 5 e3 :: T) (.tup []) (A :: rdo ws f 5 e4 :: T):=fun A T=>by
  rw [← he4]
  exact fail_gen ws f 5 e3 21 _ A T
 have her:er9 ws=e4:=by
  rw [← he4,← he3,← he2,← he1]
  rfl
 rw [her]
 clear her he4 he3 he2 he1
 have hx:lnV (li9 ws r)=lnA (li9 ws r).l (.sl 0 [] true) (.sl 0 [] true) (.sl 0 [] true) (.sl 0 [] true):=rfl
 conv at hx=>rhs; unfold li9
 generalize li9 ws r=x at *
 refine Tryz.run13 (by simp) ?_
 unfold Tryz.c13
 simp (disch:=try exact dq) only[↓pvd,pz,sC,List.map,seval,hlm,hg0]
 refine aC qk rfl rfl ?_
 refine vZ ?_
 refine aC qm rfl rfl ?_
 simp (disch:=try exact dq) only[↓pvd,pz,sC,List.map,seval,hlm,hg0]
 refine aC qk rfl rfl ?_
 refine vZ ?_
 refine aV rfl (g1 _ _) (by simp) ?_
 simp (disch:=try exact dq) only[↓pvd,pz,sC,List.map,seval,lnA]
 refine aV rfl (g2 _ _) (by simp) ?_
 simp (disch:=try exact dq) only[↓pvd,pz,sC,List.map,seval,lnA]
 refine aV rfl (g3 _ _) (by simp) ?_
 simp (disch:=try exact dq) only[↓pvd,pz,sC,List.map,seval,lnA]
 refine aH (gn _ _) ?_
 refine vZ ?_
 refine aC qa rfl rfl ?_
 have gf':∀ b,b =(!(rpB ws[4]!).2.2 || !sbF (rpB ws[4]!).1 (rpB ws[4]!).2.1)→∀(A:Option Ent) (T:Hp),Gen Tryz.prog 36 [.eptr 1 0 0,.bool b,.int .i64 21] (A :: rdo ws f 5 e3 :: T) (.tup []) (A :: rdo ws f 5 e4 :: T):=by rintro b rfl; exact gf
 generalize (rpB ws[4]!).1=a at *
 generalize (rpB ws[4]!).2.1=b at *
 generalize (rpB ws[4]!).2.2=ok at *
 cases ok
 all_goals simp (disch:=try exact dq) only[↓pvd,pz,sC,List.map,seval,pfx]
 case' true=>refine aC qs rfl rfl ?_
 case' true=>simp (disch:=try exact dr) only[↓pvd,pz,sC,List.map,seval]
 case' false=>refine aH (gf' _ (by simp) _ _) ?_
 case' true=>refine aH (gf' _ (by simp) _ _) ?_
 all_goals simp (disch:=try exact dr) only[↓pvd,pz,sC,List.map,seval]
 all_goals
  by_cases he:e4=0
  case' pos=>(rw [he,rdT_z,hx]; unfold lnA)
  case' neg=>(rw [rdT_e he]; unfold lnA lnZ)
  all_goals simp (disch:=try exact dq) only[↓pvd,pz,sC,List.map,seval,rdo,he]
  all_goals exact xZ
end Go.Proofs
namespace Go.Proofs
open Go.Pv
theorem read2(ws:List (List UInt8))(f:Bool)(r:Int)(hk:kdF ws[0]! = 2)(hm:mnF 2 ws=true)(hl:∀ w∈ws,w.length≤1000):Run Tryz.prog 13 [.sl 1 (ws.map .str) f,.int .i64 r] (rdT (er2 ws) (li2 ws r)):=by
 have hn:6≤ws.length∧ws.length≤7 ∧(ws[4]! = [97,99,99,101,115,115]→4+1 < ws.length) ∧(ws[4]! = [116,114,117,110,107]→4+2 < ws.length):=by
  unfold mnF mnP at hm
  simp only[Int.reduceEq,if_false,if_true,Bool.and_eq_true,Bool.or_eq_true,decide_eq_true_eq] at hm
  refine⟨hm.1,?_,?_,?_⟩
  ·rcases hm.2 with h | h | h <;> omega
  ·intro h; omega
  ·intro h
   rcases hm.2 with h' | h' | h'
   ·rw [h] at h'; exact absurd h'.1 (by decide)
   ·omega
   ·exact absurd h h'.1.2
 obtain ⟨hn1,hn2,hn3,hn4⟩:=hn
 have hlm:(ws.map AV.str).length=ws.length:=by simp
 have hg0:(ws.map AV.str)[0]?=some (.str ws[0]!):=mG (by omega)
 have hg4:(ws.map AV.str)[4]?=some (.str ws[4]!):=mG (by omega)
 have qk:=kind_run ws[0]!
 rw [hk] at qk
 have qm:=many_run ws f 2 (by simp) (by omega)
 rw [hm] at qm
 obtain ⟨e1,he1⟩:∃ e,eN ws[1]! 0=e:=⟨_,rfl⟩
 have g1:∀(A:Option Ent) (T:Hp),Gen Tryz.prog 32 [.eptr 1 0 0] (A :: rdo ws f 1 0 :: T) (.str ws[1]!) (A :: rdo ws f 2 e1 :: T):=fun A T=>by
  rw [← he1]
  exact name_gen ws f 1 0 A T (by omega) (by omega) hl
 obtain ⟨e2,he2⟩:∃ e,eN ws[2]! e1=e:=⟨_,rfl⟩
 have g2:∀(A:Option Ent) (T:Hp),Gen Tryz.prog 32 [.eptr 1 0 0] (A :: rdo ws f 2 e1 :: T) (.str ws[2]!) (A :: rdo ws f 3 e2 :: T):=fun A T=>by
  rw [← he2]
  exact name_gen ws f 2 e1 A T (by omega) (by omega) hl
 obtain ⟨e3,he3⟩:∃ e,eU ws[3]! 1 65535 e2=e:=⟨_,rfl⟩
 have g3:∀(A:Option Ent) (T:Hp),Gen Tryz.prog 34 [.eptr 1 0 0,.int .i64 1,.int .i64 65535] (A :: rdo ws f 3 e2 :: T) (.int .i64 (nu ws[3]! 1 65535)) (A :: rdo ws f 4 e3 :: T):=fun A T=>by
  rw [← he3]
  exact number_gen ws f 3 e2 1 65535 A T (by omega) (by omega) hl
 obtain ⟨e4,he4⟩:∃ e,eK ws[4]! e3=e:=⟨_,rfl⟩
 have g4:∀ b,b=decide (¬ ws[4]! = [97,99,99,101,115,115]∧¬ ws[4]! = [116,114,117,110,107])→∀(A:Option Ent) (T:Hp),Gen Tryz.prog 36 [.eptr 1 0 0,.bool b,.int .i64 20] (A :: rdo ws f 4 e3 :: T) (.tup []) (A :: rdo ws f 4 e4 :: T):=by
  rintro b rfl A T
  rw [← he4]
  exact fail_gen ws f 4 e3 20 _ A T
 obtain ⟨l0,hl0⟩:∃ l:Ln,(⟨r,2,ws[1]!,ws[2]!,[],[],[],0,0,0,0,0,nu ws[3]! 1 65535⟩:Ln)=l:=⟨_,rfl⟩
 obtain ⟨k',g5⟩:=port_gen ws f 4 e4 (some ⟨39,[lnA lnZ (.sl 0 [] true) (.sl 0 [] true) (.sl 0 [] true) (.sl 0 [] true)],true⟩) [] l0 (by rw [← hl0]) (by omega) hl (by omega) hn3 hn4
 have hl1:({ l0 with vlan:=pkV ws 4 }:Ln) =⟨r,2,ws[1]!,ws[2]!,[],[],[],0,0,0,pkV ws 4,0,nu ws[3]! 1 65535⟩:=by rw [← hl0]
 obtain ⟨n1,f1,hs1,_⟩:=slV_is (pkT ws 4)
 have hx:lnV (li2 ws r)=lnA ⟨r,2,ws[1]!,ws[2]!,[],[],[],0,0,0,pkV ws 4,0,nu ws[3]! 1 65535⟩ (.sl n1 ((pkT ws 4).map (.int .i64)) f1) (.sl 0 [] true) (.sl 0 [] true) (.sl 0 [] true):=by
  rw [← hs1]; rfl
 have her:er2 ws=pkE ws 4 e4:=by
  rw [← he4,← he3,← he2,← he1]
  rfl
 rw [her]
 clear her he4 he3 he2 he1
 rw [hl1,hs1] at g5
 rw [← hl0] at g5
 generalize pkE ws 4 e4=e5 at *
 generalize (pkT ws 4).map (AV.int .i64)=es at *
 generalize li2 ws r=x at *
 refine Tryz.run13 (by simp) ?_
 unfold Tryz.c13
 simp (disch:=try exact dq) only[↓pvd,pz,sC,List.map,seval,hlm,hg0]
 refine aC qk rfl rfl ?_
 refine vZ ?_
 refine aC qm rfl rfl ?_
 simp (disch:=try exact dq) only[↓pvd,pz,sC,List.map,seval,hlm,hg0]
 refine aC qk rfl rfl ?_
 refine vZ ?_
 refine aV rfl (g1 _ _) (by simp) ?_
 simp (disch:=try exact dq) only[↓pvd,pz,sC,List.map,seval,lnA]
 refine aV rfl (g2 _ _) (by simp) ?_
 refine vZ ?_
 refine aH (g3 _ _) ?_
 by_cases ha:ws[4]! = [97,99,99,101,115,115]
 case' pos =>
  have da:=decide_eq_true ha
  simp (disch:=try exact dq) only[↓pvd,pz,sC,List.map,seval,hlm,hg4,da]
  refine aH (g4 _ (decide_eq_false (fun h=>h.1 ha)).symm _ _) ?_
 case' neg =>
  have da:=decide_eq_false ha
  by_cases hb:ws[4]! = [116,114,117,110,107]
  case' pos =>
   have db:=decide_eq_true hb
   simp (disch:=try exact dq) only[↓pvd,pz,sC,List.map,seval,hlm,hg4,da,db]
   refine aH (g4 _ (decide_eq_false (fun h=>h.2 hb)).symm _ _) ?_
  case' neg =>
   have db:=decide_eq_false hb
   simp (disch:=try exact dq) only[↓pvd,pz,sC,List.map,seval,hlm,hg4,da,db]
   refine aH (g4 _ (decide_eq_true ⟨ha,hb⟩).symm _ _) ?_
 all_goals
  refine vZ ?_
  refine aH g5 ?_
  simp (disch:=try exact dq) only[↓pvd,pz,sC,List.map,seval,lno,lnA,nilA]
  by_cases he:e5=0
  case' pos=>(rw [he,rdT_z,hx]; unfold lnA)
  case' neg=>(rw [rdT_e he]; unfold lnA lnZ)
  all_goals simp (disch:=try exact dq) only[↓pvd,pz,sC,List.map,seval,rdo,lno,lnA,lnZ,nilA,he]
  all_goals exact xZ
noncomputable def erF(k:Int)(ws:List (List UInt8)):Int :=
 if k=1 then er1 ws else if k=2 then er2 ws else if k=3 then er3 ws else if k=4 then er4 ws else if k=5 then er5 ws else if k=6 then er6 ws else if k=7 then er7 ws else if k=8 then er8 ws else er9 ws
noncomputable def liF(k:Int)(ws:List (List UInt8))(r:Int):LnF :=
 if k=1 then li1 ws r else if k=2 then li2 ws r else if k=3 then li3 ws r else if k=4 then li4 ws r else if k=5 then li5 ws r else if k=6 then li6 ws r else if k=7 then li7 ws r else if k=8 then li8 ws r else li9 ws r
def okN(ws:List (List UInt8)):Bool:=decide (ws≠[]) && mnF (kdF ws[0]!) ws
noncomputable def rdE(ws:List (List UInt8)):Int:=if okN ws=true then erF (kdF ws[0]!) ws else 22
noncomputable def rdL(ws:List (List UInt8))(r:Int):LnF:=liF (kdF ws[0]!) ws r
theorem read0(ws:List (List UInt8))(f:Bool)(r:Int)(h:okN ws=false)(hw:ws.length≤100000):Run Tryz.prog 13 [.sl 1 (ws.map .str) f,.int .i64 r] (rdT 22 (rdL ws r)):=by
 rw [rdT_e (by decide)]
 have hlm:(ws.map AV.str).length=ws.length:=by simp
 by_cases h0:ws=[]
 ·subst h0
  refine Tryz.run13 (by simp) ?_
  unfold Tryz.c13
  refine vZ ?_
  unfold lnA lnZ
  exact xZ
 ·have hg0:(ws.map AV.str)[0]?=some (.str ws[0]!):=mG (List.length_pos_iff.2 h0)
  have h1:mnF (kdF ws[0]!) ws=false:=by simpa [okN,h0] using h
  have qk:=kind_run ws[0]!
  have qm:=many_run ws f (kdF ws[0]!) (kdF_b _) (by omega)
  rw [h1] at qm
  have hp:=List.length_pos_iff.2 h0
  generalize kdF ws[0]! = k at *
  refine Tryz.run13 (by simp) ?_
  unfold Tryz.c13
  simp (disch:=try exact dq) only[↓pvd,pz,sC,List.map,seval,hlm,hg0]
  refine aC qk rfl rfl ?_
  refine vZ ?_
  refine aC qm rfl rfl ?_
  refine vZ ?_
  unfold lnA lnZ
  exact xZ
theorem sread_run(ws:List (List UInt8))(f:Bool)(r:Int)(hw:ws.length≤100000)(hl:∀ w∈ws,w.length≤1000):Run Tryz.prog 13 [.sl 1 (ws.map .str) f,.int .i64 r] (rdT (rdE ws) (rdL ws r)):=by
 unfold rdE
 by_cases h:okN ws=true
 ·rw [if_pos h]
  have h1:mnF (kdF ws[0]!) ws=true:=by
   unfold okN at h
   simp only[Bool.and_eq_true] at h
   exact h.2
  unfold rdL erF liF
  rcases kdF_b ws[0]! with e | e | e | e | e | e | e | e | e | e
  ·rw [e] at h1; simp [mnF] at h1
  all_goals rw [e] at h1
  all_goals simp only[e,Int.reduceEq,if_true,if_false]
  ·exact read1 ws f r e h1 hl
  ·exact read2 ws f r e h1 hl
  ·exact read3 ws f r e h1 hl
  ·exact read4 ws f r e h1 hl
  ·exact read5 ws f r e h1 hl
  ·exact read6 ws f r e h1 hl
  ·exact read7 ws f r e h1 hl
  ·exact read8 ws f r e h1 hl
  ·exact read9 ws f r e h1 hl
 ·rw [if_neg h]
  exact read0 ws f r (by simpa using h) hw
end Go.Proofs
