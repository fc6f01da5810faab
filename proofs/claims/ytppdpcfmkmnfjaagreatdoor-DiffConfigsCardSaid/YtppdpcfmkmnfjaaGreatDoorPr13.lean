/- The proofs of what the functions of this seat do. -/
import Derived.Test.YtppdpcfmkmnfjaaGreatDoorPr12
set_option linter.unusedSimpArgs false
set_option linter.unusedVariables false
set_option maxHeartbeats 2000000
set_option maxRecDepth 20000
set_option maxHeartbeats 16000000
namespace Go.Proofs
open Go.Pv
theorem rread1(ws:List (List UInt8))(f:Bool)(r:Int)(hk:kdF ws[0]! = 1)(hm:mnF 1 ws=true)(hl:∀ w∈ws,w.length≤1000):Run Tryz.prog 14 [.sl 1 (ws.map .str) f,.int .i64 r] (rdT (er1 ws) (li1 ws r)):=by
 have hn:ws.length=4:=by
  unfold mnF at hm
  simp at hm
  omega
 have hlm:(ws.map AV.str).length=4:=by simp [hn]
 have hwl:∀ j,j < ws.length→ws[j]!.length≤1000:=fun j hj=>hl _ (by rw [getElem!_pos ws j hj]; exact List.getElem_mem hj)
 have hg0:(ws.map AV.str)[0]?=some (.str ws[0]!):=mG (by omega)
 have hg1:(ws.map AV.str)[1]?=some (.str ws[1]!):=mG (by omega)
 have hg2:(ws.map AV.str)[2]?=some (.str ws[2]!):=mG (by omega)
 have hg3:(ws.map AV.str)[3]?=some (.str ws[3]!):=mG (by omega)
 have qk:=rkind_run ws[0]!
 rw [hk] at qk
 have qf:=rform1 ws f hk (by omega) (by omega)
 refine Tryz.run14 (by simp) ?_
 unfold Tryz.c14
 simp (disch:=try exact dq) only[↓pvd,pz,sC,List.map,seval,hlm,hg0]
 refine aC qf rfl rfl ?_
 simp (disch:=try exact dq) only[↓pvd,pz,sC,List.map,seval,hlm,hg0]
 refine aC qk rfl rfl ?_
 simp (disch:=try exact dq) only[↓pvd,pz,sC,List.map,seval,hlm,hg0]
 refine aw_unroll 4 ?_
 have g1:=fun(A:Option Ent) (T:Hp)=>rwordN ws[1]! 0 (hwl 1 (by omega)) A (⟨r,1,[],[],[],[],[],0,0,0,0,0,0⟩:Ln) (⟨r,1,ws[1]!,[],[],[],[],0,0,0,0,0,0⟩:Ln) (.sl 0 [] true) (.sl 0 [] true) (.sl 0 [] true) (.sl 0 [] true) T (rname0 ws[1]! r 1 [] [] [] [] [] 0 0 0 0 0 0 (.sl 0 [] true) (.sl 0 [] true) (.sl 0 [] true) (.sl 0 [] true) A T)
 have g2:=fun(A:Option Ent) (T:Hp)=>rwordP ws[2]! 1 (hwl 2 (by omega)) r 1 ws[1]! [] [] [] [] 0 0 0 0 0 0 (.sl 0 [] true) (.sl 0 [] true) (.sl 0 [] true) (.sl 0 [] true) A T
 have g3:=fun(A:Option Ent) (T:Hp)=>rwordM ws[3]! 1 (hwl 3 (by omega)) r 1 ws[1]! [] [] [] [] 0 0 0 0 (nu ws[2]! 0 65535) 0 (.sl 0 [] true) (.sl 0 [] true) (.sl 0 [] true) (.sl 0 [] true) A T
 simp (disch:=try exact dq) only[↓pvd,pz,sC,List.map,seval,lno,lnA,unr_s,unrT_e,Tryz.c14b0,hg0,hg1,hg2,hg3]
 by_cases c1:nmO ws[1]! = true
 case neg =>
  have her:er1 ws=20:=by
   unfold er1
   rw [eN_f _ c1,eU_nz (e:=20) _ _ _ (by decide),eM_nz (e:=20) _ (by decide)]
  rw [her,rdT_e (by decide)]
  simp only[if_neg c1] at g1
  refine aG (g1 _ _) (by simp [growL,still,ent,lno,lnA]) ?_
  simp (disch:=try exact dq) only[↓pvd,pz,sC,List.map,seval,lno,lnA]
  try unfold lnA
  unfold lnZ
  exact xZ
 simp only[if_pos c1] at g1
 refine aG (g1 _ _) (by simp [growL,still,ent,lno,lnA]) ?_
 simp (disch:=try exact dq) only[↓pvd,pz,sC,List.map,seval,lno,lnA,unr_s,unrT_e,Tryz.c14b0,hg0,hg1,hg2,hg3]
 by_cases c2:(Nm.rdF ws[2]! 0 65535).2=true
 case neg =>
  have her:er1 ws=21:=by
   unfold er1
   rw [eN_t _ c1,eU_f _ _ _ c2,eM_nz (e:=21) _ (by decide)]
  rw [her,rdT_e (by decide)]
  simp only[if_neg c2] at g2
  refine aG (g2 _ _) (by simp [growL,still,ent,lno,lnA]) ?_
  simp (disch:=try exact dq) only[↓pvd,pz,sC,List.map,seval,lno,lnA]
  try unfold lnA
  unfold lnZ
  exact xZ
 simp only[if_pos c2] at g2
 refine aG (g2 _ _) (by simp [growL,still,ent,lno,lnA]) ?_
 simp (disch:=try exact dq) only[↓pvd,pz,sC,List.map,seval,lno,lnA,unr_s,unrT_e,Tryz.c14b0,hg0,hg1,hg2,hg3]
 by_cases c3:(Mc.rdm ws[3]!).2=true∧stn (Mc.rdm ws[3]!).1=true
 case neg =>
  have her:er1 ws=21:=by
   unfold er1
   rw [eN_t _ c1,eU_t _ _ _ c2,eM_f _ c3]
  rw [her,rdT_e (by decide)]
  simp only[if_neg c3] at g3
  refine aG (g3 _ _) (by simp [growL,still,ent,lno,lnA]) ?_
  simp (disch:=try exact dq) only[↓pvd,pz,sC,List.map,seval,lno,lnA]
  try unfold lnA
  unfold lnZ
  exact xZ
 simp only[if_pos c3] at g3
 refine aG (g3 _ _) (by simp [growL,still,ent,lno,lnA]) ?_
 simp (disch:=try exact dq) only[↓pvd,pz,sC,List.map,seval,lno,lnA,unr_s,unrT_e,Tryz.c14b0,hg0,hg1,hg2,hg3]
 have her:er1 ws=0:=by
  unfold er1
  rw [eN_t _ c1,eU_t _ _ _ c2,eM_t _ c3]
 rw [her,rdT_z]
 have hx:lnV (li1 ws r)=lnA (⟨r,1,ws[1]!,[],[],[],[],(Mc.rdm ws[3]!).1,0,0,0,(nu ws[2]! 0 65535),0⟩:Ln) (.sl 0 [] true) (.sl 0 [] true) (.sl 0 [] true) (.sl 0 [] true):=by
  rfl
 rw [hx]
 simp (disch:=try exact dq) only[↓pvd,pz,sC,List.map,seval,lno,lnA]
 exact xZ
theorem rread3(ws:List (List UInt8))(f:Bool)(r:Int)(hk:kdF ws[0]! = 3)(hm:mnF 3 ws=true)(hl:∀ w∈ws,w.length≤1000):Run Tryz.prog 14 [.sl 1 (ws.map .str) f,.int .i64 r] (rdT (er3 ws) (li3 ws r)):=by
 have hn:ws.length=5:=by
  unfold mnF at hm
  simp at hm
  omega
 have hlm:(ws.map AV.str).length=5:=by simp [hn]
 have hwl:∀ j,j < ws.length→ws[j]!.length≤1000:=fun j hj=>hl _ (by rw [getElem!_pos ws j hj]; exact List.getElem_mem hj)
 have hg0:(ws.map AV.str)[0]?=some (.str ws[0]!):=mG (by omega)
 have hg1:(ws.map AV.str)[1]?=some (.str ws[1]!):=mG (by omega)
 have hg2:(ws.map AV.str)[2]?=some (.str ws[2]!):=mG (by omega)
 have hg3:(ws.map AV.str)[3]?=some (.str ws[3]!):=mG (by omega)
 have hg4:(ws.map AV.str)[4]?=some (.str ws[4]!):=mG (by omega)
 have qk:=rkind_run ws[0]!
 rw [hk] at qk
 have qf:=rform3 ws f hk (by omega) (by omega)
 refine Tryz.run14 (by simp) ?_
 unfold Tryz.c14
 simp (disch:=try exact dq) only[↓pvd,pz,sC,List.map,seval,hlm,hg0]
 refine aC qf rfl rfl ?_
 simp (disch:=try exact dq) only[↓pvd,pz,sC,List.map,seval,hlm,hg0]
 refine aC qk rfl rfl ?_
 simp (disch:=try exact dq) only[↓pvd,pz,sC,List.map,seval,hlm,hg0]
 refine aw_unroll 5 ?_
 have g1:=fun(A:Option Ent) (T:Hp)=>rwordN ws[1]! 0 (hwl 1 (by omega)) A (⟨r,3,[],[],[],[],[],0,0,0,0,0,0⟩:Ln) (⟨r,3,ws[1]!,[],[],[],[],0,0,0,0,0,0⟩:Ln) (.sl 0 [] true) (.sl 0 [] true) (.sl 0 [] true) (.sl 0 [] true) T (rname0 ws[1]! r 3 [] [] [] [] [] 0 0 0 0 0 0 (.sl 0 [] true) (.sl 0 [] true) (.sl 0 [] true) (.sl 0 [] true) A T)
 have g2:=fun(A:Option Ent) (T:Hp)=>rwordN ws[2]! 1 (hwl 2 (by omega)) A (⟨r,3,ws[1]!,[],[],[],[],0,0,0,0,0,0⟩:Ln) (⟨r,3,ws[1]!,ws[2]!,[],[],[],0,0,0,0,0,0⟩:Ln) (.sl 0 [] true) (.sl 0 [] true) (.sl 0 [] true) (.sl 0 [] true) T (rname1 ws[2]! r 3 ws[1]! [] [] [] [] 0 0 0 0 0 0 (.sl 0 [] true) (.sl 0 [] true) (.sl 0 [] true) (.sl 0 [] true) A T (by decide) (by decide))
 have g3:=fun(A:Option Ent) (T:Hp)=>rwordN ws[3]! 2 (hwl 3 (by omega)) A (⟨r,3,ws[1]!,ws[2]!,[],[],[],0,0,0,0,0,0⟩:Ln) (⟨r,3,ws[1]!,ws[2]!,ws[3]!,[],[],0,0,0,0,0,0⟩:Ln) (.sl 0 [] true) (.sl 0 [] true) (.sl 0 [] true) (.sl 0 [] true) T (rname2 ws[3]! r 3 ws[1]! ws[2]! [] [] [] 0 0 0 0 0 0 (.sl 0 [] true) (.sl 0 [] true) (.sl 0 [] true) (.sl 0 [] true) A T (by decide) (by decide))
 have g4:=fun(A:Option Ent) (T:Hp)=>rwordN ws[4]! 3 (hwl 4 (by omega)) A (⟨r,3,ws[1]!,ws[2]!,ws[3]!,[],[],0,0,0,0,0,0⟩:Ln) (⟨r,3,ws[1]!,ws[2]!,ws[3]!,ws[4]!,[],0,0,0,0,0,0⟩:Ln) (.sl 0 [] true) (.sl 0 [] true) (.sl 0 [] true) (.sl 0 [] true) T (rname3 ws[4]! r 3 ws[1]! ws[2]! ws[3]! [] [] 0 0 0 0 0 0 (.sl 0 [] true) (.sl 0 [] true) (.sl 0 [] true) (.sl 0 [] true) A T (by decide) (by decide))
 simp (disch:=try exact dq) only[↓pvd,pz,sC,List.map,seval,lno,lnA,unr_s,unrT_e,Tryz.c14b0,hg0,hg1,hg2,hg3,hg4]
 by_cases c1:nmO ws[1]! = true
 case neg =>
  have her:er3 ws=20:=by
   unfold er3
   rw [eN_f _ c1,eN_nz (e:=20) _ (by decide),eN_nz (e:=20) _ (by decide),eN_nz (e:=20) _ (by decide)]
  rw [her,rdT_e (by decide)]
  simp only[if_neg c1] at g1
  refine aG (g1 _ _) (by simp [growL,still,ent,lno,lnA]) ?_
  simp (disch:=try exact dq) only[↓pvd,pz,sC,List.map,seval,lno,lnA]
  try unfold lnA
  unfold lnZ
  exact xZ
 simp only[if_pos c1] at g1
 refine aG (g1 _ _) (by simp [growL,still,ent,lno,lnA]) ?_
 simp (disch:=try exact dq) only[↓pvd,pz,sC,List.map,seval,lno,lnA,unr_s,unrT_e,Tryz.c14b0,hg0,hg1,hg2,hg3,hg4]
 by_cases c2:nmO ws[2]! = true
 case neg =>
  have her:er3 ws=20:=by
   unfold er3
   rw [eN_t _ c1,eN_f _ c2,eN_nz (e:=20) _ (by decide),eN_nz (e:=20) _ (by decide)]
  rw [her,rdT_e (by decide)]
  simp only[if_neg c2] at g2
  refine aG (g2 _ _) (by simp [growL,still,ent,lno,lnA]) ?_
  simp (disch:=try exact dq) only[↓pvd,pz,sC,List.map,seval,lno,lnA]
  try unfold lnA
  unfold lnZ
  exact xZ
 simp only[if_pos c2] at g2
 refine aG (g2 _ _) (by simp [growL,still,ent,lno,lnA]) ?_
 simp (disch:=try exact dq) only[↓pvd,pz,sC,List.map,seval,lno,lnA,unr_s,unrT_e,Tryz.c14b0,hg0,hg1,hg2,hg3,hg4]
 by_cases c3:nmO ws[3]! = true
 case neg =>
  have her:er3 ws=20:=by
   unfold er3
   rw [eN_t _ c1,eN_t _ c2,eN_f _ c3,eN_nz (e:=20) _ (by decide)]
  rw [her,rdT_e (by decide)]
  simp only[if_neg c3] at g3
  refine aG (g3 _ _) (by simp [growL,still,ent,lno,lnA]) ?_
  simp (disch:=try exact dq) only[↓pvd,pz,sC,List.map,seval,lno,lnA]
  try unfold lnA
  unfold lnZ
  exact xZ
 simp only[if_pos c3] at g3
 refine aG (g3 _ _) (by simp [growL,still,ent,lno,lnA]) ?_
 simp (disch:=try exact dq) only[↓pvd,pz,sC,List.map,seval,lno,lnA,unr_s,unrT_e,Tryz.c14b0,hg0,hg1,hg2,hg3,hg4]
 by_cases c4:nmO ws[4]! = true
 case neg =>
  have her:er3 ws=20:=by
   unfold er3
   rw [eN_t _ c1,eN_t _ c2,eN_t _ c3,eN_f _ c4]
  rw [her,rdT_e (by decide)]
  simp only[if_neg c4] at g4
  refine aG (g4 _ _) (by simp [growL,still,ent,lno,lnA]) ?_
  simp (disch:=try exact dq) only[↓pvd,pz,sC,List.map,seval,lno,lnA]
  try unfold lnA
  unfold lnZ
  exact xZ
 simp only[if_pos c4] at g4
 refine aG (g4 _ _) (by simp [growL,still,ent,lno,lnA]) ?_
 simp (disch:=try exact dq) only[↓pvd,pz,sC,List.map,seval,lno,lnA,unr_s,unrT_e,Tryz.c14b0,hg0,hg1,hg2,hg3,hg4]
 have her:er3 ws=0:=by
  unfold er3
  rw [eN_t _ c1,eN_t _ c2,eN_t _ c3,eN_t _ c4]
 rw [her,rdT_z]
 have hx:lnV (li3 ws r)=lnA (⟨r,3,ws[1]!,ws[2]!,ws[3]!,ws[4]!,[],0,0,0,0,0,0⟩:Ln) (.sl 0 [] true) (.sl 0 [] true) (.sl 0 [] true) (.sl 0 [] true):=by
  rfl
 rw [hx]
 simp (disch:=try exact dq) only[↓pvd,pz,sC,List.map,seval,lno,lnA]
 exact xZ
theorem rread4(ws:List (List UInt8))(f:Bool)(r:Int)(hk:kdF ws[0]! = 4)(hm:mnF 4 ws=true)(hl:∀ w∈ws,w.length≤1000):Run Tryz.prog 14 [.sl 1 (ws.map .str) f,.int .i64 r] (rdT (er4 ws) (li4 ws r)):=by
 have hn:ws.length=5:=by
  unfold mnF at hm
  simp at hm
  omega
 have hlm:(ws.map AV.str).length=5:=by simp [hn]
 have hwl:∀ j,j < ws.length→ws[j]!.length≤1000:=fun j hj=>hl _ (by rw [getElem!_pos ws j hj]; exact List.getElem_mem hj)
 have hg0:(ws.map AV.str)[0]?=some (.str ws[0]!):=mG (by omega)
 have hg1:(ws.map AV.str)[1]?=some (.str ws[1]!):=mG (by omega)
 have hg2:(ws.map AV.str)[2]?=some (.str ws[2]!):=mG (by omega)
 have hg3:(ws.map AV.str)[3]?=some (.str ws[3]!):=mG (by omega)
 have hg4:(ws.map AV.str)[4]?=some (.str ws[4]!):=mG (by omega)
 have qk:=rkind_run ws[0]!
 rw [hk] at qk
 have qf:=rform4 ws f hk (by omega) (by omega)
 refine Tryz.run14 (by simp) ?_
 unfold Tryz.c14
 simp (disch:=try exact dq) only[↓pvd,pz,sC,List.map,seval,hlm,hg0]
 refine aC qf rfl rfl ?_
 simp (disch:=try exact dq) only[↓pvd,pz,sC,List.map,seval,hlm,hg0]
 refine aC qk rfl rfl ?_
 simp (disch:=try exact dq) only[↓pvd,pz,sC,List.map,seval,hlm,hg0]
 refine aw_unroll 5 ?_
 have g1:=fun(A:Option Ent) (T:Hp)=>rwordN ws[1]! 0 (hwl 1 (by omega)) A (⟨r,4,[],[],[],[],[],0,0,0,0,0,0⟩:Ln) (⟨r,4,ws[1]!,[],[],[],[],0,0,0,0,0,0⟩:Ln) (.sl 0 [] true) (.sl 0 [] true) (.sl 0 [] true) (.sl 0 [] true) T (rname0 ws[1]! r 4 [] [] [] [] [] 0 0 0 0 0 0 (.sl 0 [] true) (.sl 0 [] true) (.sl 0 [] true) (.sl 0 [] true) A T)
 have g2:=fun(A:Option Ent) (T:Hp)=>rwordV ws[2]! 1 (hwl 2 (by omega)) r 4 ws[1]! [] [] [] [] 0 0 0 0 0 0 (.sl 0 [] true) (.sl 0 [] true) (.sl 0 [] true) (.sl 0 [] true) A T
 have g3:=fun(A:Option Ent) (T:Hp)=>rwordM ws[3]! 1 (hwl 3 (by omega)) r 4 ws[1]! [] [] [] [] 0 0 0 (nu ws[2]! 1 4094) 0 0 (.sl 0 [] true) (.sl 0 [] true) (.sl 0 [] true) (.sl 0 [] true) A T
 have g4:=fun(A:Option Ent) (T:Hp)=>rwordN ws[4]! 1 (hwl 4 (by omega)) A (⟨r,4,ws[1]!,[],[],[],[],(Mc.rdm ws[3]!).1,0,0,(nu ws[2]! 1 4094),0,0⟩:Ln) (⟨r,4,ws[1]!,ws[4]!,[],[],[],(Mc.rdm ws[3]!).1,0,0,(nu ws[2]! 1 4094),0,0⟩:Ln) (.sl 0 [] true) (.sl 0 [] true) (.sl 0 [] true) (.sl 0 [] true) T (rname1 ws[4]! r 4 ws[1]! [] [] [] [] (Mc.rdm ws[3]!).1 0 0 (nu ws[2]! 1 4094) 0 0 (.sl 0 [] true) (.sl 0 [] true) (.sl 0 [] true) (.sl 0 [] true) A T (by decide) (by decide))
 simp (disch:=try exact dq) only[↓pvd,pz,sC,List.map,seval,lno,lnA,unr_s,unrT_e,Tryz.c14b0,hg0,hg1,hg2,hg3,hg4]
 by_cases c1:nmO ws[1]! = true
 case neg =>
  have her:er4 ws=20:=by
   unfold er4
   rw [eN_f _ c1,eU_nz (e:=20) _ _ _ (by decide),eM_nz (e:=20) _ (by decide),eN_nz (e:=20) _ (by decide)]
  rw [her,rdT_e (by decide)]
  simp only[if_neg c1] at g1
  refine aG (g1 _ _) (by simp [growL,still,ent,lno,lnA]) ?_
  simp (disch:=try exact dq) only[↓pvd,pz,sC,List.map,seval,lno,lnA]
  try unfold lnA
  unfold lnZ
  exact xZ
 simp only[if_pos c1] at g1
 refine aG (g1 _ _) (by simp [growL,still,ent,lno,lnA]) ?_
 simp (disch:=try exact dq) only[↓pvd,pz,sC,List.map,seval,lno,lnA,unr_s,unrT_e,Tryz.c14b0,hg0,hg1,hg2,hg3,hg4]
 by_cases c2:(Nm.rdF ws[2]! 1 4094).2=true
 case neg =>
  have her:er4 ws=21:=by
   unfold er4
   rw [eN_t _ c1,eU_f _ _ _ c2,eM_nz (e:=21) _ (by decide),eN_nz (e:=21) _ (by decide)]
  rw [her,rdT_e (by decide)]
  simp only[if_neg c2] at g2
  refine aG (g2 _ _) (by simp [growL,still,ent,lno,lnA]) ?_
  simp (disch:=try exact dq) only[↓pvd,pz,sC,List.map,seval,lno,lnA]
  try unfold lnA
  unfold lnZ
  exact xZ
 simp only[if_pos c2] at g2
 refine aG (g2 _ _) (by simp [growL,still,ent,lno,lnA]) ?_
 simp (disch:=try exact dq) only[↓pvd,pz,sC,List.map,seval,lno,lnA,unr_s,unrT_e,Tryz.c14b0,hg0,hg1,hg2,hg3,hg4]
 by_cases c3:(Mc.rdm ws[3]!).2=true∧stn (Mc.rdm ws[3]!).1=true
 case neg =>
  have her:er4 ws=21:=by
   unfold er4
   rw [eN_t _ c1,eU_t _ _ _ c2,eM_f _ c3,eN_nz (e:=21) _ (by decide)]
  rw [her,rdT_e (by decide)]
  simp only[if_neg c3] at g3
  refine aG (g3 _ _) (by simp [growL,still,ent,lno,lnA]) ?_
  simp (disch:=try exact dq) only[↓pvd,pz,sC,List.map,seval,lno,lnA]
  try unfold lnA
  unfold lnZ
  exact xZ
 simp only[if_pos c3] at g3
 refine aG (g3 _ _) (by simp [growL,still,ent,lno,lnA]) ?_
 simp (disch:=try exact dq) only[↓pvd,pz,sC,List.map,seval,lno,lnA,unr_s,unrT_e,Tryz.c14b0,hg0,hg1,hg2,hg3,hg4]
 by_cases c4:nmO ws[4]! = true
 case neg =>
  have her:er4 ws=20:=by
   unfold er4
   rw [eN_t _ c1,eU_t _ _ _ c2,eM_t _ c3,eN_f _ c4]
  rw [her,rdT_e (by decide)]
  simp only[if_neg c4] at g4
  refine aG (g4 _ _) (by simp [growL,still,ent,lno,lnA]) ?_
  simp (disch:=try exact dq) only[↓pvd,pz,sC,List.map,seval,lno,lnA]
  try unfold lnA
  unfold lnZ
  exact xZ
 simp only[if_pos c4] at g4
 refine aG (g4 _ _) (by simp [growL,still,ent,lno,lnA]) ?_
 simp (disch:=try exact dq) only[↓pvd,pz,sC,List.map,seval,lno,lnA,unr_s,unrT_e,Tryz.c14b0,hg0,hg1,hg2,hg3,hg4]
 have her:er4 ws=0:=by
  unfold er4
  rw [eN_t _ c1,eU_t _ _ _ c2,eM_t _ c3,eN_t _ c4]
 rw [her,rdT_z]
 have hx:lnV (li4 ws r)=lnA (⟨r,4,ws[1]!,ws[4]!,[],[],[],(Mc.rdm ws[3]!).1,0,0,(nu ws[2]! 1 4094),0,0⟩:Ln) (.sl 0 [] true) (.sl 0 [] true) (.sl 0 [] true) (.sl 0 [] true):=by
  rfl
 rw [hx]
 simp (disch:=try exact dq) only[↓pvd,pz,sC,List.map,seval,lno,lnA]
 exact xZ
theorem rread5(ws:List (List UInt8))(f:Bool)(r:Int)(hk:kdF ws[0]! = 5)(hm:mnF 5 ws=true)(hl:∀ w∈ws,w.length≤1000):Run Tryz.prog 14 [.sl 1 (ws.map .str) f,.int .i64 r] (rdT (er5 ws) (li5 ws r)):=by
 have hn:ws.length=3:=by
  unfold mnF at hm
  simp at hm
  omega
 have hlm:(ws.map AV.str).length=3:=by simp [hn]
 have hwl:∀ j,j < ws.length→ws[j]!.length≤1000:=fun j hj=>hl _ (by rw [getElem!_pos ws j hj]; exact List.getElem_mem hj)
 have hg0:(ws.map AV.str)[0]?=some (.str ws[0]!):=mG (by omega)
 have hg1:(ws.map AV.str)[1]?=some (.str ws[1]!):=mG (by omega)
 have hg2:(ws.map AV.str)[2]?=some (.str ws[2]!):=mG (by omega)
 have qk:=rkind_run ws[0]!
 rw [hk] at qk
 have qf:=rform5 ws f hk (by omega) (by omega)
 refine Tryz.run14 (by simp) ?_
 unfold Tryz.c14
 simp (disch:=try exact dq) only[↓pvd,pz,sC,List.map,seval,hlm,hg0]
 refine aC qf rfl rfl ?_
 simp (disch:=try exact dq) only[↓pvd,pz,sC,List.map,seval,hlm,hg0]
 refine aC qk rfl rfl ?_
 simp (disch:=try exact dq) only[↓pvd,pz,sC,List.map,seval,hlm,hg0]
 refine aw_unroll 3 ?_
 have g1:=fun(A:Option Ent) (T:Hp)=>rwordN ws[1]! 0 (hwl 1 (by omega)) A (⟨r,5,[],[],[],[],[],0,0,0,0,0,0⟩:Ln) (⟨r,5,ws[1]!,[],[],[],[],0,0,0,0,0,0⟩:Ln) (.sl 0 [] true) (.sl 0 [] true) (.sl 0 [] true) (.sl 0 [] true) T (rname0 ws[1]! r 5 [] [] [] [] [] 0 0 0 0 0 0 (.sl 0 [] true) (.sl 0 [] true) (.sl 0 [] true) (.sl 0 [] true) A T)
 have g2:=fun(A:Option Ent) (T:Hp)=>rwordA ws[2]! 1 (hwl 2 (by omega)) r 5 ws[1]! [] [] [] [] 0 0 0 0 0 0 (.sl 0 [] true) (.sl 0 [] true) (.sl 0 [] true) (.sl 0 [] true) A T
 simp (disch:=try exact dq) only[↓pvd,pz,sC,List.map,seval,lno,lnA,unr_s,unrT_e,Tryz.c14b0,hg0,hg1,hg2]
 by_cases c1:nmO ws[1]! = true
 case neg =>
  have her:er5 ws=20:=by
   unfold er5
   rw [eN_f _ c1,eA_nz (e:=20) _ (by decide)]
  rw [her,rdT_e (by decide)]
  simp only[if_neg c1] at g1
  refine aG (g1 _ _) (by simp [growL,still,ent,lno,lnA]) ?_
  simp (disch:=try exact dq) only[↓pvd,pz,sC,List.map,seval,lno,lnA]
  try unfold lnA
  unfold lnZ
  exact xZ
 simp only[if_pos c1] at g1
 refine aG (g1 _ _) (by simp [growL,still,ent,lno,lnA]) ?_
 simp (disch:=try exact dq) only[↓pvd,pz,sC,List.map,seval,lno,lnA,unr_s,unrT_e,Tryz.c14b0,hg0,hg1,hg2]
 by_cases c2:(rdB ws[2]!).2=true ∧(rdB ws[2]!).1≠0
 case neg =>
  have her:er5 ws=21:=by
   unfold er5
   rw [eN_t _ c1,eA_f _ c2]
  rw [her,rdT_e (by decide)]
  simp only[if_neg c2] at g2
  refine aG (g2 _ _) (by simp [growL,still,ent,lno,lnA]) ?_
  simp (disch:=try exact dq) only[↓pvd,pz,sC,List.map,seval,lno,lnA]
  try unfold lnA
  unfold lnZ
  exact xZ
 simp only[if_pos c2] at g2
 refine aG (g2 _ _) (by simp [growL,still,ent,lno,lnA]) ?_
 simp (disch:=try exact dq) only[↓pvd,pz,sC,List.map,seval,lno,lnA,unr_s,unrT_e,Tryz.c14b0,hg0,hg1,hg2]
 have her:er5 ws=0:=by
  unfold er5
  rw [eN_t _ c1,eA_t _ c2]
 rw [her,rdT_z]
 have hx:lnV (li5 ws r)=lnA (⟨r,5,ws[1]!,[],[],[],[],0,(rdB ws[2]!).1,0,0,0,0⟩:Ln) (.sl 0 [] true) (.sl 0 [] true) (.sl 0 [] true) (.sl 0 [] true):=by
  rfl
 rw [hx]
 simp (disch:=try exact dq) only[↓pvd,pz,sC,List.map,seval,lno,lnA]
 exact xZ
theorem rread6(ws:List (List UInt8))(f:Bool)(r:Int)(hk:kdF ws[0]! = 6)(hm:mnF 6 ws=true)(hl:∀ w∈ws,w.length≤1000):Run Tryz.prog 14 [.sl 1 (ws.map .str) f,.int .i64 r] (rdT (er6 ws) (li6 ws r)):=by
 have hn:ws.length=4:=by
  unfold mnF at hm
  simp at hm
  omega
 have hlm:(ws.map AV.str).length=4:=by simp [hn]
 have hwl:∀ j,j < ws.length→ws[j]!.length≤1000:=fun j hj=>hl _ (by rw [getElem!_pos ws j hj]; exact List.getElem_mem hj)
 have hg0:(ws.map AV.str)[0]?=some (.str ws[0]!):=mG (by omega)
 have hg1:(ws.map AV.str)[1]?=some (.str ws[1]!):=mG (by omega)
 have hg2:(ws.map AV.str)[2]?=some (.str ws[2]!):=mG (by omega)
 have hg3:(ws.map AV.str)[3]?=some (.str ws[3]!):=mG (by omega)
 have qk:=rkind_run ws[0]!
 rw [hk] at qk
 have qf:=rform6 ws f hk (by omega) (by omega)
 refine Tryz.run14 (by simp) ?_
 unfold Tryz.c14
 simp (disch:=try exact dq) only[↓pvd,pz,sC,List.map,seval,hlm,hg0]
 refine aC qf rfl rfl ?_
 simp (disch:=try exact dq) only[↓pvd,pz,sC,List.map,seval,hlm,hg0]
 refine aC qk rfl rfl ?_
 simp (disch:=try exact dq) only[↓pvd,pz,sC,List.map,seval,hlm,hg0]
 refine aw_unroll 4 ?_
 have g1:=fun(A:Option Ent) (T:Hp)=>rwordN ws[1]! 0 (hwl 1 (by omega)) A (⟨r,6,[],[],[],[],[],0,0,0,0,0,0⟩:Ln) (⟨r,6,ws[1]!,[],[],[],[],0,0,0,0,0,0⟩:Ln) (.sl 0 [] true) (.sl 0 [] true) (.sl 0 [] true) (.sl 0 [] true) T (rname0 ws[1]! r 6 [] [] [] [] [] 0 0 0 0 0 0 (.sl 0 [] true) (.sl 0 [] true) (.sl 0 [] true) (.sl 0 [] true) A T)
 have g2:=fun(A:Option Ent) (T:Hp)=>rwordV ws[2]! 1 (hwl 2 (by omega)) r 6 ws[1]! [] [] [] [] 0 0 0 0 0 0 (.sl 0 [] true) (.sl 0 [] true) (.sl 0 [] true) (.sl 0 [] true) A T
 have g3:=fun(A:Option Ent) (T:Hp)=>rwordI ws[3]! 1 (hwl 3 (by omega)) r 6 ws[1]! [] [] [] [] 0 0 0 (nu ws[2]! 1 4094) 0 0 (.sl 0 [] true) (.sl 0 [] true) (.sl 0 [] true) (.sl 0 [] true) A T
 simp (disch:=try exact dq) only[↓pvd,pz,sC,List.map,seval,lno,lnA,unr_s,unrT_e,Tryz.c14b0,hg0,hg1,hg2,hg3]
 by_cases c1:nmO ws[1]! = true
 case neg =>
  have her:er6 ws=20:=by
   unfold er6
   rw [eN_f _ c1,eU_nz (e:=20) _ _ _ (by decide),eU_nz (e:=20) _ _ _ (by decide)]
  rw [her,rdT_e (by decide)]
  simp only[if_neg c1] at g1
  refine aG (g1 _ _) (by simp [growL,still,ent,lno,lnA]) ?_
  simp (disch:=try exact dq) only[↓pvd,pz,sC,List.map,seval,lno,lnA]
  try unfold lnA
  unfold lnZ
  exact xZ
 simp only[if_pos c1] at g1
 refine aG (g1 _ _) (by simp [growL,still,ent,lno,lnA]) ?_
 simp (disch:=try exact dq) only[↓pvd,pz,sC,List.map,seval,lno,lnA,unr_s,unrT_e,Tryz.c14b0,hg0,hg1,hg2,hg3]
 by_cases c2:(Nm.rdF ws[2]! 1 4094).2=true
 case neg =>
  have her:er6 ws=21:=by
   unfold er6
   rw [eN_t _ c1,eU_f _ _ _ c2,eU_nz (e:=21) _ _ _ (by decide)]
  rw [her,rdT_e (by decide)]
  simp only[if_neg c2] at g2
  refine aG (g2 _ _) (by simp [growL,still,ent,lno,lnA]) ?_
  simp (disch:=try exact dq) only[↓pvd,pz,sC,List.map,seval,lno,lnA]
  try unfold lnA
  unfold lnZ
  exact xZ
 simp only[if_pos c2] at g2
 refine aG (g2 _ _) (by simp [growL,still,ent,lno,lnA]) ?_
 simp (disch:=try exact dq) only[↓pvd,pz,sC,List.map,seval,lno,lnA,unr_s,unrT_e,Tryz.c14b0,hg0,hg1,hg2,hg3]
 by_cases c3:(Nm.rdF ws[3]! 1 16777215).2=true
 case neg =>
  have her:er6 ws=21:=by
   unfold er6
   rw [eN_t _ c1,eU_t _ _ _ c2,eU_f _ _ _ c3]
  rw [her,rdT_e (by decide)]
  simp only[if_neg c3] at g3
  refine aG (g3 _ _) (by simp [growL,still,ent,lno,lnA]) ?_
  simp (disch:=try exact dq) only[↓pvd,pz,sC,List.map,seval,lno,lnA]
  try unfold lnA
  unfold lnZ
  exact xZ
 simp only[if_pos c3] at g3
 refine aG (g3 _ _) (by simp [growL,still,ent,lno,lnA]) ?_
 simp (disch:=try exact dq) only[↓pvd,pz,sC,List.map,seval,lno,lnA,unr_s,unrT_e,Tryz.c14b0,hg0,hg1,hg2,hg3]
 have her:er6 ws=0:=by
  unfold er6
  rw [eN_t _ c1,eU_t _ _ _ c2,eU_t _ _ _ c3]
 rw [her,rdT_z]
 have hx:lnV (li6 ws r)=lnA (⟨r,6,ws[1]!,[],[],[],[],0,0,0,(nu ws[2]! 1 4094),(nu ws[3]! 1 16777215),0⟩:Ln) (.sl 0 [] true) (.sl 0 [] true) (.sl 0 [] true) (.sl 0 [] true):=by
  rfl
 rw [hx]
 simp (disch:=try exact dq) only[↓pvd,pz,sC,List.map,seval,lno,lnA]
 exact xZ
theorem rread7(ws:List (List UInt8))(f:Bool)(r:Int)(hk:kdF ws[0]! = 7)(hm:mnF 7 ws=true)(hl:∀ w∈ws,w.length≤1000):Run Tryz.prog 14 [.sl 1 (ws.map .str) f,.int .i64 r] (rdT (er7 ws) (li7 ws r)):=by
 have hn:ws.length=4:=by
  unfold mnF at hm
  simp at hm
  omega
 have hlm:(ws.map AV.str).length=4:=by simp [hn]
 have hwl:∀ j,j < ws.length→ws[j]!.length≤1000:=fun j hj=>hl _ (by rw [getElem!_pos ws j hj]; exact List.getElem_mem hj)
 have hg0:(ws.map AV.str)[0]?=some (.str ws[0]!):=mG (by omega)
 have hg1:(ws.map AV.str)[1]?=some (.str ws[1]!):=mG (by omega)
 have hg2:(ws.map AV.str)[2]?=some (.str ws[2]!):=mG (by omega)
 have hg3:(ws.map AV.str)[3]?=some (.str ws[3]!):=mG (by omega)
 have qk:=rkind_run ws[0]!
 rw [hk] at qk
 have qf:=rform7 ws f hk (by omega) (by omega)
 refine Tryz.run14 (by simp) ?_
 unfold Tryz.c14
 simp (disch:=try exact dq) only[↓pvd,pz,sC,List.map,seval,hlm,hg0]
 refine aC qf rfl rfl ?_
 simp (disch:=try exact dq) only[↓pvd,pz,sC,List.map,seval,hlm,hg0]
 refine aC qk rfl rfl ?_
 simp (disch:=try exact dq) only[↓pvd,pz,sC,List.map,seval,hlm,hg0]
 refine aw_unroll 4 ?_
 have g1:=fun(A:Option Ent) (T:Hp)=>rwordN ws[1]! 0 (hwl 1 (by omega)) A (⟨r,7,[],[],[],[],[],0,0,0,0,0,0⟩:Ln) (⟨r,7,ws[1]!,[],[],[],[],0,0,0,0,0,0⟩:Ln) (.sl 0 [] true) (.sl 0 [] true) (.sl 0 [] true) (.sl 0 [] true) T (rname0 ws[1]! r 7 [] [] [] [] [] 0 0 0 0 0 0 (.sl 0 [] true) (.sl 0 [] true) (.sl 0 [] true) (.sl 0 [] true) A T)
 have g2:=fun(A:Option Ent) (T:Hp)=>rwordI ws[2]! 1 (hwl 2 (by omega)) r 7 ws[1]! [] [] [] [] 0 0 0 0 0 0 (.sl 0 [] true) (.sl 0 [] true) (.sl 0 [] true) (.sl 0 [] true) A T
 obtain ⟨n1,f1,hs1,hn1⟩:=sl32_is (adV ws[3]!)
 have g3:=fun(A:Option Ent) (T:Hp)=>rwordL ws[3]! 1 (hwl 3 (by omega)) r 7 ws[1]! [] [] [] [] 0 0 0 0 (nu ws[2]! 1 16777215) 0 (.sl 0 [] true) (.sl 0 [] true) (.sl 0 [] true) (.sl 0 [] true) A T
 rw [hs1] at g3
 simp (disch:=try exact dq) only[↓pvd,pz,sC,List.map,seval,lno,lnA,unr_s,unrT_e,Tryz.c14b0,hg0,hg1,hg2,hg3]
 by_cases c1:nmO ws[1]! = true
 case neg =>
  have her:er7 ws=20:=by
   unfold er7
   rw [eN_f _ c1,eU_nz (e:=20) _ _ _ (by decide),eD_nz (e:=20) _ (by decide)]
  rw [her,rdT_e (by decide)]
  simp only[if_neg c1] at g1
  refine aG (g1 _ _) (by simp [growL,still,ent,lno,lnA]) ?_
  simp (disch:=try exact dq) only[↓pvd,pz,sC,List.map,seval,lno,lnA]
  try unfold lnA
  unfold lnZ
  exact xZ
 simp only[if_pos c1] at g1
 refine aG (g1 _ _) (by simp [growL,still,ent,lno,lnA]) ?_
 simp (disch:=try exact dq) only[↓pvd,pz,sC,List.map,seval,lno,lnA,unr_s,unrT_e,Tryz.c14b0,hg0,hg1,hg2,hg3]
 by_cases c2:(Nm.rdF ws[2]! 1 16777215).2=true
 case neg =>
  have her:er7 ws=21:=by
   unfold er7
   rw [eN_t _ c1,eU_f _ _ _ c2,eD_nz (e:=21) _ (by decide)]
  rw [her,rdT_e (by decide)]
  simp only[if_neg c2] at g2
  refine aG (g2 _ _) (by simp [growL,still,ent,lno,lnA]) ?_
  simp (disch:=try exact dq) only[↓pvd,pz,sC,List.map,seval,lno,lnA]
  try unfold lnA
  unfold lnZ
  exact xZ
 simp only[if_pos c2] at g2
 refine aG (g2 _ _) (by simp [growL,still,ent,lno,lnA]) ?_
 simp (disch:=try exact dq) only[↓pvd,pz,sC,List.map,seval,lno,lnA,unr_s,unrT_e,Tryz.c14b0,hg0,hg1,hg2,hg3]
 by_cases c3:adG ws[3]! = true ∧(adV ws[3]!)[0]!≠0
 case neg =>
  have her:er7 ws=21:=by
   unfold er7
   rw [eN_t _ c1,eU_t _ _ _ c2,eD_f _ c3]
  rw [her,rdT_e (by decide)]
  simp only[if_neg c3] at g3
  refine aG (g3 _ _) (by simp [growL,still,ent,lno,lnA]) ?_
  simp (disch:=try exact dq) only[↓pvd,pz,sC,List.map,seval,lno,lnA]
  try unfold lnA
  unfold lnZ
  exact xZ
 simp only[if_pos c3] at g3
 refine aG (g3 _ _) (by simp [growL,still,ent,lno,lnA]) ?_
 simp (disch:=try exact dq) only[↓pvd,pz,sC,List.map,seval,lno,lnA,unr_s,unrT_e,Tryz.c14b0,hg0,hg1,hg2,hg3]
 have her:er7 ws=0:=by
  unfold er7
  rw [eN_t _ c1,eU_t _ _ _ c2,eD_t _ c3]
 rw [her,rdT_z]
 have hx:lnV (li7 ws r)=lnA (⟨r,7,ws[1]!,[],[],[],[],0,0,0,0,(nu ws[2]! 1 16777215),0⟩:Ln) (.sl 0 [] true) (.sl 0 [] true) (.sl 0 [] true) (.sl n1 ((adV ws[3]!).map (.int .u32)) f1):=by
  rw [← hs1]; rfl
 rw [hx]
 simp (disch:=try exact dq) only[↓pvd,pz,sC,List.map,seval,lno,lnA]
 exact xZ
theorem rread8(ws:List (List UInt8))(f:Bool)(r:Int)(hk:kdF ws[0]! = 8)(hm:mnF 8 ws=true)(hl:∀ w∈ws,w.length≤1000):Run Tryz.prog 14 [.sl 1 (ws.map .str) f,.int .i64 r] (rdT (er8 ws) (li8 ws r)):=by
 have hn:ws.length=5:=by
  unfold mnF at hm
  simp at hm
  omega
 have hlm:(ws.map AV.str).length=5:=by simp [hn]
 have hwl:∀ j,j < ws.length→ws[j]!.length≤1000:=fun j hj=>hl _ (by rw [getElem!_pos ws j hj]; exact List.getElem_mem hj)
 have hg0:(ws.map AV.str)[0]?=some (.str ws[0]!):=mG (by omega)
 have hg1:(ws.map AV.str)[1]?=some (.str ws[1]!):=mG (by omega)
 have hg2:(ws.map AV.str)[2]?=some (.str ws[2]!):=mG (by omega)
 have hg3:(ws.map AV.str)[3]?=some (.str ws[3]!):=mG (by omega)
 have hg4:(ws.map AV.str)[4]?=some (.str ws[4]!):=mG (by omega)
 have qk:=rkind_run ws[0]!
 rw [hk] at qk
 have qf:=rform8 ws f hk (by omega) (by omega)
 refine Tryz.run14 (by simp) ?_
 unfold Tryz.c14
 simp (disch:=try exact dq) only[↓pvd,pz,sC,List.map,seval,hlm,hg0]
 refine aC qf rfl rfl ?_
 simp (disch:=try exact dq) only[↓pvd,pz,sC,List.map,seval,hlm,hg0]
 refine aC qk rfl rfl ?_
 simp (disch:=try exact dq) only[↓pvd,pz,sC,List.map,seval,hlm,hg0]
 refine aw_unroll 5 ?_
 have g1:=fun(A:Option Ent) (T:Hp)=>rwordN ws[1]! 0 (hwl 1 (by omega)) A (⟨r,8,[],[],[],[],[],0,0,0,0,0,0⟩:Ln) (⟨r,8,ws[1]!,[],[],[],[],0,0,0,0,0,0⟩:Ln) (.sl 0 [] true) (.sl 0 [] true) (.sl 0 [] true) (.sl 0 [] true) T (rname0 ws[1]! r 8 [] [] [] [] [] 0 0 0 0 0 0 (.sl 0 [] true) (.sl 0 [] true) (.sl 0 [] true) (.sl 0 [] true) A T)
 have g2:=fun(A:Option Ent) (T:Hp)=>rwordN ws[2]! 1 (hwl 2 (by omega)) A (⟨r,8,ws[1]!,[],[],[],[],0,0,0,0,0,0⟩:Ln) (⟨r,8,ws[1]!,[],[],[],ws[2]!,0,0,0,0,0,0⟩:Ln) (.sl 0 [] true) (.sl 0 [] true) (.sl 0 [] true) (.sl 0 [] true) T (rname8 ws[2]! 1 (by decide) r 8 ws[1]! [] [] [] [] 0 0 0 0 0 0 (.sl 0 [] true) (.sl 0 [] true) (.sl 0 [] true) (.sl 0 [] true) A T (by decide))
 obtain ⟨n1,f1,hs1,hn1⟩:=slV_is (lsV ws[3]! 65535)
 have g3:=fun(A:Option Ent) (T:Hp)=>rwordR ws[3]! 2 (hwl 3 (by omega)) 0 [] true r 8 ws[1]! [] [] [] ws[2]! 0 0 0 0 0 0 (.sl 0 [] true) (.sl 0 [] true) (.sl 0 [] true) A T
 rw [hs1] at g3
 obtain ⟨n2,f2,hs2,hn2⟩:=slV_is (lsV ws[4]! 65535)
 have g4:=fun(A:Option Ent) (T:Hp)=>rwordR ws[4]! 2 (hwl 4 (by omega)) n1 ((lsV ws[3]! 65535).map (.int .i64)) f1 r 8 ws[1]! [] [] [] ws[2]! 0 0 0 0 0 0 (.sl 0 [] true) (.sl 0 [] true) (.sl 0 [] true) A T
 rw [hs2] at g4
 simp (disch:=try exact dq) only[↓pvd,pz,sC,List.map,seval,lno,lnA,unr_s,unrT_e,Tryz.c14b0,hg0,hg1,hg2,hg3,hg4]
 by_cases c1:nmO ws[1]! = true
 case neg =>
  have her:er8 ws=20:=by
   unfold er8
   rw [eN_f _ c1,eN_nz (e:=20) _ (by decide),eL_nz (e:=20) _ _ (by decide),eL_nz (e:=20) _ _ (by decide)]
  rw [her,rdT_e (by decide)]
  simp only[if_neg c1] at g1
  refine aG (g1 _ _) (by simp [growL,still,ent,lno,lnA]) ?_
  simp (disch:=try exact dq) only[↓pvd,pz,sC,List.map,seval,lno,lnA]
  try unfold lnA
  unfold lnZ
  exact xZ
 simp only[if_pos c1] at g1
 refine aG (g1 _ _) (by simp [growL,still,ent,lno,lnA]) ?_
 simp (disch:=try exact dq) only[↓pvd,pz,sC,List.map,seval,lno,lnA,unr_s,unrT_e,Tryz.c14b0,hg0,hg1,hg2,hg3,hg4]
 by_cases c2:nmO ws[2]! = true
 case neg =>
  have her:er8 ws=20:=by
   unfold er8
   rw [eN_t _ c1,eN_f _ c2,eL_nz (e:=20) _ _ (by decide),eL_nz (e:=20) _ _ (by decide)]
  rw [her,rdT_e (by decide)]
  simp only[if_neg c2] at g2
  refine aG (g2 _ _) (by simp [growL,still,ent,lno,lnA]) ?_
  simp (disch:=try exact dq) only[↓pvd,pz,sC,List.map,seval,lno,lnA]
  try unfold lnA
  unfold lnZ
  exact xZ
 simp only[if_pos c2] at g2
 refine aG (g2 _ _) (by simp [growL,still,ent,lno,lnA]) ?_
 simp (disch:=try exact dq) only[↓pvd,pz,sC,List.map,seval,lno,lnA,unr_s,unrT_e,Tryz.c14b0,hg0,hg1,hg2,hg3,hg4]
 by_cases c3:lsB ws[3]! 65535=false
 case neg =>
  have her:er8 ws=21:=by
   unfold er8
   rw [eN_t _ c1,eN_t _ c2,eL_f _ _ c3,eL_nz (e:=21) _ _ (by decide)]
  rw [her,rdT_e (by decide)]
  simp only[if_neg c3] at g3
  refine aG (g3 _ _) (by simp [growL,still,ent,lno,lnA]) ?_
  simp (disch:=try exact dq) only[↓pvd,pz,sC,List.map,seval,lno,lnA]
  try unfold lnA
  unfold lnZ
  exact xZ
 simp only[if_pos c3] at g3
 refine aG (g3 _ _) (by simp [growL,still,ent,lno,lnA]) ?_
 simp (disch:=try exact dq) only[↓pvd,pz,sC,List.map,seval,lno,lnA,unr_s,unrT_e,Tryz.c14b0,hg0,hg1,hg2,hg3,hg4]
 by_cases c4:lsB ws[4]! 65535=false
 case neg =>
  have her:er8 ws=21:=by
   unfold er8
   rw [eN_t _ c1,eN_t _ c2,eL_t _ _ c3,eL_f _ _ c4]
  rw [her,rdT_e (by decide)]
  simp only[if_neg c4] at g4
  refine aG (g4 _ _) (by simp [growL,still,ent,lno,lnA]) ?_
  simp (disch:=try exact dq) only[↓pvd,pz,sC,List.map,seval,lno,lnA]
  try unfold lnA
  unfold lnZ
  exact xZ
 simp only[if_pos c4] at g4
 refine aG (g4 _ _) (by simp [growL,still,ent,lno,lnA]) ?_
 simp (disch:=try exact dq) only[↓pvd,pz,sC,List.map,seval,lno,lnA,unr_s,unrT_e,Tryz.c14b0,hg0,hg1,hg2,hg3,hg4]
 have her:er8 ws=0:=by
  unfold er8
  rw [eN_t _ c1,eN_t _ c2,eL_t _ _ c3,eL_t _ _ c4]
 rw [her,rdT_z]
 have hx:lnV (li8 ws r)=lnA (⟨r,8,ws[1]!,[],[],[],ws[2]!,0,0,0,0,0,0⟩:Ln) (.sl 0 [] true) (.sl n1 ((lsV ws[3]! 65535).map (.int .i64)) f1) (.sl n2 ((lsV ws[4]! 65535).map (.int .i64)) f2) (.sl 0 [] true):=by
  rw [← hs1,← hs2]; rfl
 rw [hx]
 simp (disch:=try exact dq) only[↓pvd,pz,sC,List.map,seval,lno,lnA]
 exact xZ
theorem rread9(ws:List (List UInt8))(f:Bool)(r:Int)(hk:kdF ws[0]! = 9)(hm:mnF 9 ws=true)(hl:∀ w∈ws,w.length≤1000):Run Tryz.prog 14 [.sl 1 (ws.map .str) f,.int .i64 r] (rdT (er9 ws) (li9 ws r)):=by
 have hn:ws.length=5:=by
  unfold mnF at hm
  simp at hm
  omega
 have hlm:(ws.map AV.str).length=5:=by simp [hn]
 have hwl:∀ j,j < ws.length→ws[j]!.length≤1000:=fun j hj=>hl _ (by rw [getElem!_pos ws j hj]; exact List.getElem_mem hj)
 have hg0:(ws.map AV.str)[0]?=some (.str ws[0]!):=mG (by omega)
 have hg1:(ws.map AV.str)[1]?=some (.str ws[1]!):=mG (by omega)
 have hg2:(ws.map AV.str)[2]?=some (.str ws[2]!):=mG (by omega)
 have hg3:(ws.map AV.str)[3]?=some (.str ws[3]!):=mG (by omega)
 have hg4:(ws.map AV.str)[4]?=some (.str ws[4]!):=mG (by omega)
 have qk:=rkind_run ws[0]!
 rw [hk] at qk
 have qf:=rform9 ws f hk (by omega) (by omega)
 refine Tryz.run14 (by simp) ?_
 unfold Tryz.c14
 simp (disch:=try exact dq) only[↓pvd,pz,sC,List.map,seval,hlm,hg0]
 refine aC qf rfl rfl ?_
 simp (disch:=try exact dq) only[↓pvd,pz,sC,List.map,seval,hlm,hg0]
 refine aC qk rfl rfl ?_
 simp (disch:=try exact dq) only[↓pvd,pz,sC,List.map,seval,hlm,hg0]
 refine aw_unroll 5 ?_
 have g1:=fun(A:Option Ent) (T:Hp)=>rwordN ws[1]! 0 (hwl 1 (by omega)) A (⟨r,9,[],[],[],[],[],0,0,0,0,0,0⟩:Ln) (⟨r,9,ws[1]!,[],[],[],[],0,0,0,0,0,0⟩:Ln) (.sl 0 [] true) (.sl 0 [] true) (.sl 0 [] true) (.sl 0 [] true) T (rname0 ws[1]! r 9 [] [] [] [] [] 0 0 0 0 0 0 (.sl 0 [] true) (.sl 0 [] true) (.sl 0 [] true) (.sl 0 [] true) A T)
 have g2:=fun(A:Option Ent) (T:Hp)=>rwordV ws[2]! 1 (hwl 2 (by omega)) r 9 ws[1]! [] [] [] [] 0 0 0 0 0 0 (.sl 0 [] true) (.sl 0 [] true) (.sl 0 [] true) (.sl 0 [] true) A T
 have g3:=fun(A:Option Ent) (T:Hp)=>rwordN ws[3]! 1 (hwl 3 (by omega)) A (⟨r,9,ws[1]!,[],[],[],[],0,0,0,(nu ws[2]! 1 4094),0,0⟩:Ln) (⟨r,9,ws[1]!,[],[],[],ws[3]!,0,0,0,(nu ws[2]! 1 4094),0,0⟩:Ln) (.sl 0 [] true) (.sl 0 [] true) (.sl 0 [] true) (.sl 0 [] true) T (rname8 ws[3]! 1 (by decide) r 9 ws[1]! [] [] [] [] 0 0 0 (nu ws[2]! 1 4094) 0 0 (.sl 0 [] true) (.sl 0 [] true) (.sl 0 [] true) (.sl 0 [] true) A T (by decide))
 have g4:=fun(A:Option Ent) (T:Hp)=>rwordS ws[4]! 2 (hwl 4 (by omega)) r 9 ws[1]! [] [] [] ws[3]! 0 0 0 (nu ws[2]! 1 4094) 0 0 (.sl 0 [] true) (.sl 0 [] true) (.sl 0 [] true) (.sl 0 [] true) A T
 simp (disch:=try exact dq) only[↓pvd,pz,sC,List.map,seval,lno,lnA,unr_s,unrT_e,Tryz.c14b0,hg0,hg1,hg2,hg3,hg4]
 by_cases c1:nmO ws[1]! = true
 case neg =>
  have her:er9 ws=20:=by
   unfold er9
   rw [eN_f _ c1,eU_nz (e:=20) _ _ _ (by decide),eN_nz (e:=20) _ (by decide),eS_nz (e:=20) _ (by decide)]
  rw [her,rdT_e (by decide)]
  simp only[if_neg c1] at g1
  refine aG (g1 _ _) (by simp [growL,still,ent,lno,lnA]) ?_
  simp (disch:=try exact dq) only[↓pvd,pz,sC,List.map,seval,lno,lnA]
  try unfold lnA
  unfold lnZ
  exact xZ
 simp only[if_pos c1] at g1
 refine aG (g1 _ _) (by simp [growL,still,ent,lno,lnA]) ?_
 simp (disch:=try exact dq) only[↓pvd,pz,sC,List.map,seval,lno,lnA,unr_s,unrT_e,Tryz.c14b0,hg0,hg1,hg2,hg3,hg4]
 by_cases c2:(Nm.rdF ws[2]! 1 4094).2=true
 case neg =>
  have her:er9 ws=21:=by
   unfold er9
   rw [eN_t _ c1,eU_f _ _ _ c2,eN_nz (e:=21) _ (by decide),eS_nz (e:=21) _ (by decide)]
  rw [her,rdT_e (by decide)]
  simp only[if_neg c2] at g2
  refine aG (g2 _ _) (by simp [growL,still,ent,lno,lnA]) ?_
  simp (disch:=try exact dq) only[↓pvd,pz,sC,List.map,seval,lno,lnA]
  try unfold lnA
  unfold lnZ
  exact xZ
 simp only[if_pos c2] at g2
 refine aG (g2 _ _) (by simp [growL,still,ent,lno,lnA]) ?_
 simp (disch:=try exact dq) only[↓pvd,pz,sC,List.map,seval,lno,lnA,unr_s,unrT_e,Tryz.c14b0,hg0,hg1,hg2,hg3,hg4]
 by_cases c3:nmO ws[3]! = true
 case neg =>
  have her:er9 ws=20:=by
   unfold er9
   rw [eN_t _ c1,eU_t _ _ _ c2,eN_f _ c3,eS_nz (e:=20) _ (by decide)]
  rw [her,rdT_e (by decide)]
  simp only[if_neg c3] at g3
  refine aG (g3 _ _) (by simp [growL,still,ent,lno,lnA]) ?_
  simp (disch:=try exact dq) only[↓pvd,pz,sC,List.map,seval,lno,lnA]
  try unfold lnA
  unfold lnZ
  exact xZ
 simp only[if_pos c3] at g3
 refine aG (g3 _ _) (by simp [growL,still,ent,lno,lnA]) ?_
 simp (disch:=try exact dq) only[↓pvd,pz,sC,List.map,seval,lno,lnA,unr_s,unrT_e,Tryz.c14b0,hg0,hg1,hg2,hg3,hg4]
 by_cases c4:(rpB ws[4]!).2.2=true∧sbF (rpB ws[4]!).1 (rpB ws[4]!).2.1=true
 case neg =>
  have her:er9 ws=21:=by
   unfold er9
   rw [eN_t _ c1,eU_t _ _ _ c2,eN_t _ c3,eS_f _ c4]
  rw [her,rdT_e (by decide)]
  simp only[if_neg c4] at g4
  refine aG (g4 _ _) (by simp [growL,still,ent,lno,lnA]) ?_
  simp (disch:=try exact dq) only[↓pvd,pz,sC,List.map,seval,lno,lnA]
  try unfold lnA
  unfold lnZ
  exact xZ
 simp only[if_pos c4] at g4
 refine aG (g4 _ _) (by simp [growL,still,ent,lno,lnA]) ?_
 simp (disch:=try exact dq) only[↓pvd,pz,sC,List.map,seval,lno,lnA,unr_s,unrT_e,Tryz.c14b0,hg0,hg1,hg2,hg3,hg4]
 have her:er9 ws=0:=by
  unfold er9
  rw [eN_t _ c1,eU_t _ _ _ c2,eN_t _ c3,eS_t _ c4]
 rw [her,rdT_z]
 have hx:lnV (li9 ws r)=lnA (⟨r,9,ws[1]!,[],[],[],ws[3]!,0,(rpB ws[4]!).1,(rpB ws[4]!).2.1,(nu ws[2]! 1 4094),0,0⟩:Ln) (.sl 0 [] true) (.sl 0 [] true) (.sl 0 [] true) (.sl 0 [] true):=by
  rfl
 rw [hx]
 simp (disch:=try exact dq) only[↓pvd,pz,sC,List.map,seval,lno,lnA]
 exact xZ
theorem wv_nu(s:List UInt8)(h:s=[45]):nu s 1 4094=0:=by
 subst h
 unfold nu Nm.rdF
 rw [if_pos (by rfl)]
 unfold Nm.rdG
 rw [if_pos (by decide)]
theorem er2_4{ws:List (List UInt8)}(c1:nmO ws[1]! = true)(c2:nmO ws[2]! = true)(c3:(Nm.rdF ws[3]! 1 65535).2=true)(c4:ws[4]! = [97,99,99,101,115,115]∨ws[4]! = [116,114,117,110,107]):er2 ws=pkE ws 4 0:=by
 unfold er2
 rw [eN_t _ c1,eN_t _ c2,eU_t _ _ _ c3,eK_t _ c4]
theorem pk_acc{ws:List (List UInt8)}(ha:ws[4]! = [97,99,99,101,115,115]):pkE ws 4 0 =(if (Nm.rdF ws[5]! 1 4094).2=true then(if mbF (nu ws[5]! 1 4094) []=true then 0 else 21) else 21)∧pkV ws 4=nu ws[5]! 1 4094∧pkT ws 4=[]:=by
 have e1:pkV ws 4=nu ws[5]! 1 4094:=by unfold pkV nu; rw [if_pos ha]
 have e2:pkT ws 4=[]:=by unfold pkT; rw [if_neg (by rw [ha]; decide)]
 refine⟨?_,e1,e2⟩
 unfold pkE
 simp only
 rw [if_pos ha,e1,e2]
 show fl (fl 0 (!(Nm.rdF ws[5]! 1 4094).2) 21) _ 21=_
 cases (Nm.rdF ws[5]! 1 4094).2
 ·rw [if_neg (by decide),show(!false)=true from rfl,fl_f,fl_nz (by decide)]
 ·rw [if_pos rfl,show(!true)=false from rfl,fl_t]
  cases mbF (nu ws[5]! 1 4094) []
  ·rw [if_neg (by decide),show(!false)=true from rfl,fl_f]
  ·rw [if_pos rfl,show(!true)=false from rfl,fl_t]
theorem pk_tru{ws:List (List UInt8)}(hb:ws[4]! = [116,114,117,110,107]):pkE ws 4 0 =(if wvO ws[5]! = true then(if lsB ws[6]! 4094=false then(if mbF (nu ws[5]! 1 4094) (lsV ws[6]! 4094)=true then 0 else 21) else 21) else 21)∧pkV ws 4=nu ws[5]! 1 4094∧pkT ws 4=lsV ws[6]! 4094:=by
 have ha:¬ ws[4]! = [97,99,99,101,115,115]:=by rw [hb]; decide
 have e2:pkT ws 4=lsV ws[6]! 4094:=by unfold pkT; rw [if_pos hb]
 have e1:pkV ws 4=nu ws[5]! 1 4094:=by
  unfold pkV
  rw [if_neg ha,if_pos hb]
  by_cases hd:ws[4+1]! = [45]
  ·rw [if_pos hd]
   exact(wv_nu _ hd).symm
  ·rw [if_neg hd]; rfl
 refine⟨?_,e1,e2⟩
 unfold pkE
 simp only
 rw [if_neg ha,if_pos hb,e1,e2]
 have hw:(if ws[4+1]! = [45] then(0:Int) else fl 0 (!(Nm.rdF ws[4+1]! 1 4094).2) 21)=if wvO ws[5]! = true then 0 else 21:=by
  show(if ws[5]! = [45] then(0:Int) else fl 0 (!(Nm.rdF ws[5]! 1 4094).2) 21)=_
  unfold wvO
  by_cases hd:ws[5]! = [45]
  ·rw [if_pos hd,decide_eq_true hd,Bool.or_true,if_pos rfl]
  ·rw [if_neg hd,decide_eq_false hd,Bool.or_false]
   cases (Nm.rdF ws[5]! 1 4094).2
   ·rw [if_neg (by decide),show(!false)=true from rfl,fl_f]
   ·rw [if_pos rfl,show(!true)=false from rfl,fl_t]
 rw [hw]
 show fl (fl _ (lsB ws[6]! 4094) 21) _ 21=_
 cases wvO ws[5]!
 ·rw [if_neg (by decide),if_neg (by decide),fl_nz (e:=21) (by decide),fl_nz (e:=21) (by decide)]
 ·rw [if_pos rfl,if_pos rfl]
  cases lsB ws[6]! 4094
  ·rw [if_pos rfl,fl_t]
   cases mbF (nu ws[5]! 1 4094) (lsV ws[6]! 4094)
   ·rw [if_neg (by decide),show(!false)=true from rfl,fl_f]
   ·rw [if_pos rfl,show(!true)=false from rfl,fl_t]
  ·rw [if_neg (by decide),fl_f,fl_nz (e:=21) (by decide)]
theorem rread2A(ws:List (List UInt8))(f:Bool)(r:Int)(hk:kdF ws[0]! = 2)(hm:mnF 2 ws=true)(hl:∀ w∈ws,w.length≤1000)(hn:ws.length=6)(ha:ws[4]! = [97,99,99,101,115,115]):Run Tryz.prog 14 [.sl 1 (ws.map .str) f,.int .i64 r] (rdT (er2 ws) (li2 ws r)):=by
 have hlm:(ws.map AV.str).length=6:=by simp [hn]
 have hwl:∀ j,j < ws.length→ws[j]!.length≤1000:=fun j hj=>hl _ (by rw [getElem!_pos ws j hj]; exact List.getElem_mem hj)
 have hg0:(ws.map AV.str)[0]?=some (.str ws[0]!):=mG (by omega)
 have hg1:(ws.map AV.str)[1]?=some (.str ws[1]!):=mG (by omega)
 have hg2:(ws.map AV.str)[2]?=some (.str ws[2]!):=mG (by omega)
 have hg3:(ws.map AV.str)[3]?=some (.str ws[3]!):=mG (by omega)
 have hg4:(ws.map AV.str)[4]?=some (.str ws[4]!):=mG (by omega)
 have hg5:(ws.map AV.str)[5]?=some (.str ws[5]!):=mG (by omega)
 have qk:=rkind_run ws[0]!
 rw [hk] at qk
 have qf:=rform2 ws f hk (by omega) (by omega)
 rw [if_neg (fun h=>by omega),if_pos ⟨hn,by rw [ha]; decide⟩] at qf
 have P5:∀(c1:nmO ws[1]! = true) (c2:nmO ws[2]! = true) (c3:(Nm.rdF ws[3]! 1 65535).2=true) (c4:ws[4]! = [97,99,99,101,115,115]∨ws[4]! = [116,114,117,110,107]) (c5:¬(Nm.rdF ws[5]! 1 4094).2=true),er2 ws=21:=fun c1 c2 c3 c4 c5=>by
  rw [er2_4 c1 c2 c3 c4,(pk_acc ha).1,if_neg c5]
 refine Tryz.run14 (by simp) ?_
 unfold Tryz.c14
 simp (disch:=try exact dq) only[↓pvd,pz,sC,List.map,seval,hlm,hg0]
 refine aC qf rfl rfl ?_
 simp (disch:=try exact dq) only[↓pvd,pz,sC,List.map,seval,hlm,hg0]
 refine aC qk rfl rfl ?_
 simp (disch:=try exact dq) only[↓pvd,pz,sC,List.map,seval,hlm,hg0]
 refine aw_unroll 6 ?_
 have g1:=fun(A:Option Ent) (T:Hp)=>rwordN ws[1]! 0 (hwl 1 (by omega)) A (⟨r,2,[],[],[],[],[],0,0,0,0,0,0⟩:Ln) (⟨r,2,ws[1]!,[],[],[],[],0,0,0,0,0,0⟩:Ln) (.sl 0 [] true) (.sl 0 [] true) (.sl 0 [] true) (.sl 0 [] true) T (rname0 ws[1]! r 2 [] [] [] [] [] 0 0 0 0 0 0 (.sl 0 [] true) (.sl 0 [] true) (.sl 0 [] true) (.sl 0 [] true) A T)
 have g2:=fun(A:Option Ent) (T:Hp)=>rwordN ws[2]! 1 (hwl 2 (by omega)) A (⟨r,2,ws[1]!,[],[],[],[],0,0,0,0,0,0⟩:Ln) (⟨r,2,ws[1]!,ws[2]!,[],[],[],0,0,0,0,0,0⟩:Ln) (.sl 0 [] true) (.sl 0 [] true) (.sl 0 [] true) (.sl 0 [] true) T (rname1 ws[2]! r 2 ws[1]! [] [] [] [] 0 0 0 0 0 0 (.sl 0 [] true) (.sl 0 [] true) (.sl 0 [] true) (.sl 0 [] true) A T (by decide) (by decide))
 have g3:=fun(A:Option Ent) (T:Hp)=>rwordC ws[3]! 2 (hwl 3 (by omega)) r 2 ws[1]! ws[2]! [] [] [] 0 0 0 0 0 0 (.sl 0 [] true) (.sl 0 [] true) (.sl 0 [] true) (.sl 0 [] true) A T
 have g4:=fun(A:Option Ent) (T:Hp)=>rwordK ws[4]! 2 A (lno (⟨r,2,ws[1]!,ws[2]!,[],[],[],0,0,0,0,0,(nu ws[3]! 1 65535)⟩:Ln) (.sl 0 [] true) (.sl 0 [] true) (.sl 0 [] true) (.sl 0 [] true)) T
 have g5:=fun(A:Option Ent) (T:Hp)=>rwordV ws[5]! 2 (hwl 5 (by omega)) r 2 ws[1]! ws[2]! [] [] [] 0 0 0 0 0 (nu ws[3]! 1 65535) (.sl 0 [] true) (.sl 0 [] true) (.sl 0 [] true) (.sl 0 [] true) A T
 simp (disch:=try exact dq) only[↓pvd,pz,sC,List.map,seval,lno,lnA,unr_s,unrT_e,Tryz.c14b0,hg0,hg1,hg2,hg3,hg4,hg5]
 by_cases c1:nmO ws[1]! = true
 case neg =>
  have her:er2 ws=20:=by
   unfold er2
   rw [eN_f _ c1,eN_nz (e:=20) _ (by decide),eU_nz (e:=20) _ _ _ (by decide),eK_nz (e:=20) _ (by decide),pkE_nz (e:=20) (by decide)]
  rw [her,rdT_e (by decide)]
  simp only[if_neg c1] at g1
  refine aG (g1 _ _) (by simp [growL,still,ent,lno,lnA]) ?_
  simp (disch:=try exact dq) only[↓pvd,pz,sC,List.map,seval,lno,lnA]
  try unfold lnA
  unfold lnZ
  exact xZ
 simp only[if_pos c1] at g1
 refine aG (g1 _ _) (by simp [growL,still,ent,lno,lnA]) ?_
 simp (disch:=try exact dq) only[↓pvd,pz,sC,List.map,seval,lno,lnA,unr_s,unrT_e,Tryz.c14b0,hg0,hg1,hg2,hg3,hg4,hg5]
 by_cases c2:nmO ws[2]! = true
 case neg =>
  have her:er2 ws=20:=by
   unfold er2
   rw [eN_t _ c1,eN_f _ c2,eU_nz (e:=20) _ _ _ (by decide),eK_nz (e:=20) _ (by decide),pkE_nz (e:=20) (by decide)]
  rw [her,rdT_e (by decide)]
  simp only[if_neg c2] at g2
  refine aG (g2 _ _) (by simp [growL,still,ent,lno,lnA]) ?_
  simp (disch:=try exact dq) only[↓pvd,pz,sC,List.map,seval,lno,lnA]
  try unfold lnA
  unfold lnZ
  exact xZ
 simp only[if_pos c2] at g2
 refine aG (g2 _ _) (by simp [growL,still,ent,lno,lnA]) ?_
 simp (disch:=try exact dq) only[↓pvd,pz,sC,List.map,seval,lno,lnA,unr_s,unrT_e,Tryz.c14b0,hg0,hg1,hg2,hg3,hg4,hg5]
 by_cases c3:(Nm.rdF ws[3]! 1 65535).2=true
 case neg =>
  have her:er2 ws=21:=by
   unfold er2
   rw [eN_t _ c1,eN_t _ c2,eU_f _ _ _ c3,eK_nz (e:=21) _ (by decide),pkE_nz (e:=21) (by decide)]
  rw [her,rdT_e (by decide)]
  simp only[if_neg c3] at g3
  refine aG (g3 _ _) (by simp [growL,still,ent,lno,lnA]) ?_
  simp (disch:=try exact dq) only[↓pvd,pz,sC,List.map,seval,lno,lnA]
  try unfold lnA
  unfold lnZ
  exact xZ
 simp only[if_pos c3] at g3
 refine aG (g3 _ _) (by simp [growL,still,ent,lno,lnA]) ?_
 simp (disch:=try exact dq) only[↓pvd,pz,sC,List.map,seval,lno,lnA,unr_s,unrT_e,Tryz.c14b0,hg0,hg1,hg2,hg3,hg4,hg5]
 by_cases c4:ws[4]! = [97,99,99,101,115,115]∨ws[4]! = [116,114,117,110,107]
 case neg =>
  have her:er2 ws=20:=by
   unfold er2
   rw [eN_t _ c1,eN_t _ c2,eU_t _ _ _ c3,eK_f _ c4,pkE_nz (e:=20) (by decide)]
  rw [her,rdT_e (by decide)]
  simp only[if_neg c4] at g4
  refine aG (g4 _ _) (by simp [growL,still,ent,lno,lnA]) ?_
  simp (disch:=try exact dq) only[↓pvd,pz,sC,List.map,seval,lno,lnA]
  try unfold lnA
  unfold lnZ
  exact xZ
 simp only[if_pos c4] at g4
 refine aG (g4 _ _) (by simp [growL,still,ent,lno,lnA]) ?_
 simp (disch:=try exact dq) only[↓pvd,pz,sC,List.map,seval,lno,lnA,unr_s,unrT_e,Tryz.c14b0,hg0,hg1,hg2,hg3,hg4,hg5]
 by_cases c5:(Nm.rdF ws[5]! 1 4094).2=true
 case neg =>
  have her:er2 ws=21:=(P5 c1 c2 c3 c4 c5)
  rw [her,rdT_e (by decide)]
  simp only[if_neg c5] at g5
  refine aG (g5 _ _) (by simp [growL,still,ent,lno,lnA]) ?_
  simp (disch:=try exact dq) only[↓pvd,pz,sC,List.map,seval,lno,lnA]
  try unfold lnA
  unfold lnZ
  exact xZ
 simp only[if_pos c5] at g5
 refine aG (g5 _ _) (by simp [growL,still,ent,lno,lnA]) ?_
 simp (disch:=try exact dq) only[↓pvd,pz,sC,List.map,seval,lno,lnA,unr_s,unrT_e,Tryz.c14b0,hg0,hg1,hg2,hg3,hg4,hg5]
 have q:=rmembers_run (⟨r,2,ws[1]!,ws[2]!,[],[],[],0,0,0,(nu ws[5]! 1 4094),0,(nu ws[3]! 1 65535)⟩:Ln) [] 0 true [] [] [] 0 0 0 true true true (.inl rfl) (by simp)
 simp only[List.map_nil] at q
 have her:er2 ws=if mbF (nu ws[5]! 1 4094) []=true then 0 else 21:=by
  rw [er2_4 c1 c2 c3 c4,(pk_acc ha).1,if_pos c5]
 have hx:lnV (li2 ws r)=lnA (⟨r,2,ws[1]!,ws[2]!,[],[],[],0,0,0,(nu ws[5]! 1 4094),0,(nu ws[3]! 1 65535)⟩:Ln) (.sl 0 [] true) (.sl 0 [] true) (.sl 0 [] true) (.sl 0 [] true):=by
  unfold lnV li2
  simp only
  rw [(pk_acc ha).2.1,(pk_acc ha).2.2]
  rfl
 generalize mbF (nu ws[5]! 1 4094) []=mb at *
 try simp (disch:=try exact dq) only[↓pvd,pz,sC,List.map,seval,lno,lnA]
 unfold lnA at q
 refine aC q rfl rfl ?_
 cases mb
 ·rw [her,if_neg (by decide),rdT_e (by decide)]
  refine wZ ?_
  try unfold lnA
  unfold lnZ
  exact xZ
 ·rw [her,if_pos rfl,rdT_z,hx]
  simp (disch:=try exact dq) only[↓pvd,pz,sC,List.map,seval,lnA]
  exact xZ
theorem rread2T(ws:List (List UInt8))(f:Bool)(r:Int)(hk:kdF ws[0]! = 2)(hm:mnF 2 ws=true)(hl:∀ w∈ws,w.length≤1000)(hn:ws.length=7)(hb:ws[4]! = [116,114,117,110,107]):Run Tryz.prog 14 [.sl 1 (ws.map .str) f,.int .i64 r] (rdT (er2 ws) (li2 ws r)):=by
 have hlm:(ws.map AV.str).length=7:=by simp [hn]
 have hwl:∀ j,j < ws.length→ws[j]!.length≤1000:=fun j hj=>hl _ (by rw [getElem!_pos ws j hj]; exact List.getElem_mem hj)
 have hg0:(ws.map AV.str)[0]?=some (.str ws[0]!):=mG (by omega)
 have hg1:(ws.map AV.str)[1]?=some (.str ws[1]!):=mG (by omega)
 have hg2:(ws.map AV.str)[2]?=some (.str ws[2]!):=mG (by omega)
 have hg3:(ws.map AV.str)[3]?=some (.str ws[3]!):=mG (by omega)
 have hg4:(ws.map AV.str)[4]?=some (.str ws[4]!):=mG (by omega)
 have hg5:(ws.map AV.str)[5]?=some (.str ws[5]!):=mG (by omega)
 have hg6:(ws.map AV.str)[6]?=some (.str ws[6]!):=mG (by omega)
 have qk:=rkind_run ws[0]!
 rw [hk] at qk
 have qf:=rform2 ws f hk (by omega) (by omega)
 rw [if_pos ⟨hn,by rw [hb]; decide⟩] at qf
 have P5:∀(c1:nmO ws[1]! = true) (c2:nmO ws[2]! = true) (c3:(Nm.rdF ws[3]! 1 65535).2=true) (c4:ws[4]! = [97,99,99,101,115,115]∨ws[4]! = [116,114,117,110,107]) (c5:¬ wvO ws[5]! = true),er2 ws=21:=fun c1 c2 c3 c4 c5=>by
  rw [er2_4 c1 c2 c3 c4,(pk_tru hb).1,if_neg c5]
 have P6:∀(c1:nmO ws[1]! = true) (c2:nmO ws[2]! = true) (c3:(Nm.rdF ws[3]! 1 65535).2=true) (c4:ws[4]! = [97,99,99,101,115,115]∨ws[4]! = [116,114,117,110,107]) (c5:wvO ws[5]! = true) (c6:¬ lsB ws[6]! 4094=false),er2 ws=21:=fun c1 c2 c3 c4 c5 c6=>by
  rw [er2_4 c1 c2 c3 c4,(pk_tru hb).1,if_pos c5,if_neg c6]
 refine Tryz.run14 (by simp) ?_
 unfold Tryz.c14
 simp (disch:=try exact dq) only[↓pvd,pz,sC,List.map,seval,hlm,hg0]
 refine aC qf rfl rfl ?_
 simp (disch:=try exact dq) only[↓pvd,pz,sC,List.map,seval,hlm,hg0]
 refine aC qk rfl rfl ?_
 simp (disch:=try exact dq) only[↓pvd,pz,sC,List.map,seval,hlm,hg0]
 refine aw_unroll 7 ?_
 have g1:=fun(A:Option Ent) (T:Hp)=>rwordN ws[1]! 0 (hwl 1 (by omega)) A (⟨r,2,[],[],[],[],[],0,0,0,0,0,0⟩:Ln) (⟨r,2,ws[1]!,[],[],[],[],0,0,0,0,0,0⟩:Ln) (.sl 0 [] true) (.sl 0 [] true) (.sl 0 [] true) (.sl 0 [] true) T (rname0 ws[1]! r 2 [] [] [] [] [] 0 0 0 0 0 0 (.sl 0 [] true) (.sl 0 [] true) (.sl 0 [] true) (.sl 0 [] true) A T)
 have g2:=fun(A:Option Ent) (T:Hp)=>rwordN ws[2]! 1 (hwl 2 (by omega)) A (⟨r,2,ws[1]!,[],[],[],[],0,0,0,0,0,0⟩:Ln) (⟨r,2,ws[1]!,ws[2]!,[],[],[],0,0,0,0,0,0⟩:Ln) (.sl 0 [] true) (.sl 0 [] true) (.sl 0 [] true) (.sl 0 [] true) T (rname1 ws[2]! r 2 ws[1]! [] [] [] [] 0 0 0 0 0 0 (.sl 0 [] true) (.sl 0 [] true) (.sl 0 [] true) (.sl 0 [] true) A T (by decide) (by decide))
 have g3:=fun(A:Option Ent) (T:Hp)=>rwordC ws[3]! 2 (hwl 3 (by omega)) r 2 ws[1]! ws[2]! [] [] [] 0 0 0 0 0 0 (.sl 0 [] true) (.sl 0 [] true) (.sl 0 [] true) (.sl 0 [] true) A T
 have g4:=fun(A:Option Ent) (T:Hp)=>rwordK ws[4]! 2 A (lno (⟨r,2,ws[1]!,ws[2]!,[],[],[],0,0,0,0,0,(nu ws[3]! 1 65535)⟩:Ln) (.sl 0 [] true) (.sl 0 [] true) (.sl 0 [] true) (.sl 0 [] true)) T
 have g5:=fun(A:Option Ent) (T:Hp)=>rwordW ws[5]! 2 (hwl 5 (by omega)) r 2 ws[1]! ws[2]! [] [] [] 0 0 0 0 0 (nu ws[3]! 1 65535) (.sl 0 [] true) (.sl 0 [] true) (.sl 0 [] true) (.sl 0 [] true) A T
 obtain ⟨n1,f1,hs1,hn1⟩:=slV_is (lsV ws[6]! 4094)
 have g6:=fun(A:Option Ent) (T:Hp)=>rwordT ws[6]! 2 (hwl 6 (by omega)) r 2 ws[1]! ws[2]! [] [] [] 0 0 0 (nu ws[5]! 1 4094) 0 (nu ws[3]! 1 65535) (.sl 0 [] true) (.sl 0 [] true) (.sl 0 [] true) (.sl 0 [] true) A T
 rw [hs1] at g6
 simp (disch:=try exact dq) only[↓pvd,pz,sC,List.map,seval,lno,lnA,unr_s,unrT_e,Tryz.c14b0,hg0,hg1,hg2,hg3,hg4,hg5,hg6]
 by_cases c1:nmO ws[1]! = true
 case neg =>
  have her:er2 ws=20:=by
   unfold er2
   rw [eN_f _ c1,eN_nz (e:=20) _ (by decide),eU_nz (e:=20) _ _ _ (by decide),eK_nz (e:=20) _ (by decide),pkE_nz (e:=20) (by decide)]
  rw [her,rdT_e (by decide)]
  simp only[if_neg c1] at g1
  refine aG (g1 _ _) (by simp [growL,still,ent,lno,lnA]) ?_
  simp (disch:=try exact dq) only[↓pvd,pz,sC,List.map,seval,lno,lnA]
  try unfold lnA
  unfold lnZ
  exact xZ
 simp only[if_pos c1] at g1
 refine aG (g1 _ _) (by simp [growL,still,ent,lno,lnA]) ?_
 simp (disch:=try exact dq) only[↓pvd,pz,sC,List.map,seval,lno,lnA,unr_s,unrT_e,Tryz.c14b0,hg0,hg1,hg2,hg3,hg4,hg5,hg6]
 by_cases c2:nmO ws[2]! = true
 case neg =>
  have her:er2 ws=20:=by
   unfold er2
   rw [eN_t _ c1,eN_f _ c2,eU_nz (e:=20) _ _ _ (by decide),eK_nz (e:=20) _ (by decide),pkE_nz (e:=20) (by decide)]
  rw [her,rdT_e (by decide)]
  simp only[if_neg c2] at g2
  refine aG (g2 _ _) (by simp [growL,still,ent,lno,lnA]) ?_
  simp (disch:=try exact dq) only[↓pvd,pz,sC,List.map,seval,lno,lnA]
  try unfold lnA
  unfold lnZ
  exact xZ
 simp only[if_pos c2] at g2
 refine aG (g2 _ _) (by simp [growL,still,ent,lno,lnA]) ?_
 simp (disch:=try exact dq) only[↓pvd,pz,sC,List.map,seval,lno,lnA,unr_s,unrT_e,Tryz.c14b0,hg0,hg1,hg2,hg3,hg4,hg5,hg6]
 by_cases c3:(Nm.rdF ws[3]! 1 65535).2=true
 case neg =>
  have her:er2 ws=21:=by
   unfold er2
   rw [eN_t _ c1,eN_t _ c2,eU_f _ _ _ c3,eK_nz (e:=21) _ (by decide),pkE_nz (e:=21) (by decide)]
  rw [her,rdT_e (by decide)]
  simp only[if_neg c3] at g3
  refine aG (g3 _ _) (by simp [growL,still,ent,lno,lnA]) ?_
  simp (disch:=try exact dq) only[↓pvd,pz,sC,List.map,seval,lno,lnA]
  try unfold lnA
  unfold lnZ
  exact xZ
 simp only[if_pos c3] at g3
 refine aG (g3 _ _) (by simp [growL,still,ent,lno,lnA]) ?_
 simp (disch:=try exact dq) only[↓pvd,pz,sC,List.map,seval,lno,lnA,unr_s,unrT_e,Tryz.c14b0,hg0,hg1,hg2,hg3,hg4,hg5,hg6]
 by_cases c4:ws[4]! = [97,99,99,101,115,115]∨ws[4]! = [116,114,117,110,107]
 case neg =>
  have her:er2 ws=20:=by
   unfold er2
   rw [eN_t _ c1,eN_t _ c2,eU_t _ _ _ c3,eK_f _ c4,pkE_nz (e:=20) (by decide)]
  rw [her,rdT_e (by decide)]
  simp only[if_neg c4] at g4
  refine aG (g4 _ _) (by simp [growL,still,ent,lno,lnA]) ?_
  simp (disch:=try exact dq) only[↓pvd,pz,sC,List.map,seval,lno,lnA]
  try unfold lnA
  unfold lnZ
  exact xZ
 simp only[if_pos c4] at g4
 refine aG (g4 _ _) (by simp [growL,still,ent,lno,lnA]) ?_
 simp (disch:=try exact dq) only[↓pvd,pz,sC,List.map,seval,lno,lnA,unr_s,unrT_e,Tryz.c14b0,hg0,hg1,hg2,hg3,hg4,hg5,hg6]
 by_cases c5:wvO ws[5]! = true
 case neg =>
  have her:er2 ws=21:=(P5 c1 c2 c3 c4 c5)
  rw [her,rdT_e (by decide)]
  simp only[if_neg c5] at g5
  refine aG (g5 _ _) (by simp [growL,still,ent,lno,lnA]) ?_
  simp (disch:=try exact dq) only[↓pvd,pz,sC,List.map,seval,lno,lnA]
  try unfold lnA
  unfold lnZ
  exact xZ
 simp only[if_pos c5] at g5
 refine aG (g5 _ _) (by simp [growL,still,ent,lno,lnA]) ?_
 simp (disch:=try exact dq) only[↓pvd,pz,sC,List.map,seval,lno,lnA,unr_s,unrT_e,Tryz.c14b0,hg0,hg1,hg2,hg3,hg4,hg5,hg6]
 by_cases c6:lsB ws[6]! 4094=false
 case neg =>
  have her:er2 ws=21:=(P6 c1 c2 c3 c4 c5 c6)
  rw [her,rdT_e (by decide)]
  simp only[if_neg c6] at g6
  refine aG (g6 _ _) (by simp [growL,still,ent,lno,lnA]) ?_
  simp (disch:=try exact dq) only[↓pvd,pz,sC,List.map,seval,lno,lnA]
  try unfold lnA
  unfold lnZ
  exact xZ
 simp only[if_pos c6] at g6
 refine aG (g6 _ _) (by simp [growL,still,ent,lno,lnA]) ?_
 simp (disch:=try exact dq) only[↓pvd,pz,sC,List.map,seval,lno,lnA,unr_s,unrT_e,Tryz.c14b0,hg0,hg1,hg2,hg3,hg4,hg5,hg6]
 have q:=rmembers_run (⟨r,2,ws[1]!,ws[2]!,[],[],[],0,0,0,(nu ws[5]! 1 4094),0,(nu ws[3]! 1 65535)⟩:Ln) (lsV ws[6]! 4094) n1 f1 [] [] [] 0 0 0 true true true hn1 (by have:=lsV_len ws[6]! 4094; omega)
 simp only at q
 have her:er2 ws=if mbF (nu ws[5]! 1 4094) (lsV ws[6]! 4094)=true then 0 else 21:=by
  rw [er2_4 c1 c2 c3 c4,(pk_tru hb).1,if_pos c5,if_pos c6]
 have hx:lnV (li2 ws r)=lnA (⟨r,2,ws[1]!,ws[2]!,[],[],[],0,0,0,(nu ws[5]! 1 4094),0,(nu ws[3]! 1 65535)⟩:Ln) (.sl n1 ((lsV ws[6]! 4094).map (.int .i64)) f1) (.sl 0 [] true) (.sl 0 [] true) (.sl 0 [] true):=by
  unfold lnV li2
  simp only
  rw [(pk_tru hb).2.1,(pk_tru hb).2.2,hs1]
  rfl
 generalize mbF (nu ws[5]! 1 4094) (lsV ws[6]! 4094)=mb at *
 try simp (disch:=try exact dq) only[↓pvd,pz,sC,List.map,seval,lno,lnA]
 unfold lnA at q
 refine aC q rfl rfl ?_
 cases mb
 ·rw [her,if_neg (by decide),rdT_e (by decide)]
  refine wZ ?_
  try unfold lnA
  unfold lnZ
  exact xZ
 ·rw [her,if_pos rfl,rdT_z,hx]
  simp (disch:=try exact dq) only[↓pvd,pz,sC,List.map,seval,lnA]
  exact xZ
theorem rread2X(ws:List (List UInt8))(f:Bool)(r:Int)(hk:kdF ws[0]! = 2)(hm:mnF 2 ws=true)(hl:∀ w∈ws,w.length≤1000)(hn:ws.length=6)(ha:¬ ws[4]! = [97,99,99,101,115,115])(hb:¬ ws[4]! = [116,114,117,110,107]):Run Tryz.prog 14 [.sl 1 (ws.map .str) f,.int .i64 r] (rdT (er2 ws) (li2 ws r)):=by
 have hlm:(ws.map AV.str).length=6:=by simp [hn]
 have hwl:∀ j,j < ws.length→ws[j]!.length≤1000:=fun j hj=>hl _ (by rw [getElem!_pos ws j hj]; exact List.getElem_mem hj)
 have hg0:(ws.map AV.str)[0]?=some (.str ws[0]!):=mG (by omega)
 have hg1:(ws.map AV.str)[1]?=some (.str ws[1]!):=mG (by omega)
 have hg2:(ws.map AV.str)[2]?=some (.str ws[2]!):=mG (by omega)
 have hg3:(ws.map AV.str)[3]?=some (.str ws[3]!):=mG (by omega)
 have hg4:(ws.map AV.str)[4]?=some (.str ws[4]!):=mG (by omega)
 have hg5:(ws.map AV.str)[5]?=some (.str ws[5]!):=mG (by omega)
 have qk:=rkind_run ws[0]!
 rw [hk] at qk
 have qf:=rform2 ws f hk (by omega) (by omega)
 rw [if_neg (fun h=>by omega),if_pos ⟨hn,hb⟩] at qf
 refine Tryz.run14 (by simp) ?_
 unfold Tryz.c14
 simp (disch:=try exact dq) only[↓pvd,pz,sC,List.map,seval,hlm,hg0]
 refine aC qf rfl rfl ?_
 simp (disch:=try exact dq) only[↓pvd,pz,sC,List.map,seval,hlm,hg0]
 refine aC qk rfl rfl ?_
 simp (disch:=try exact dq) only[↓pvd,pz,sC,List.map,seval,hlm,hg0]
 refine aw_unroll 6 ?_
 have g1:=fun(A:Option Ent) (T:Hp)=>rwordN ws[1]! 0 (hwl 1 (by omega)) A (⟨r,2,[],[],[],[],[],0,0,0,0,0,0⟩:Ln) (⟨r,2,ws[1]!,[],[],[],[],0,0,0,0,0,0⟩:Ln) (.sl 0 [] true) (.sl 0 [] true) (.sl 0 [] true) (.sl 0 [] true) T (rname0 ws[1]! r 2 [] [] [] [] [] 0 0 0 0 0 0 (.sl 0 [] true) (.sl 0 [] true) (.sl 0 [] true) (.sl 0 [] true) A T)
 have g2:=fun(A:Option Ent) (T:Hp)=>rwordN ws[2]! 1 (hwl 2 (by omega)) A (⟨r,2,ws[1]!,[],[],[],[],0,0,0,0,0,0⟩:Ln) (⟨r,2,ws[1]!,ws[2]!,[],[],[],0,0,0,0,0,0⟩:Ln) (.sl 0 [] true) (.sl 0 [] true) (.sl 0 [] true) (.sl 0 [] true) T (rname1 ws[2]! r 2 ws[1]! [] [] [] [] 0 0 0 0 0 0 (.sl 0 [] true) (.sl 0 [] true) (.sl 0 [] true) (.sl 0 [] true) A T (by decide) (by decide))
 have g3:=fun(A:Option Ent) (T:Hp)=>rwordC ws[3]! 2 (hwl 3 (by omega)) r 2 ws[1]! ws[2]! [] [] [] 0 0 0 0 0 0 (.sl 0 [] true) (.sl 0 [] true) (.sl 0 [] true) (.sl 0 [] true) A T
 have g4:=fun(A:Option Ent) (T:Hp)=>rwordK ws[4]! 2 A (lno (⟨r,2,ws[1]!,ws[2]!,[],[],[],0,0,0,0,0,(nu ws[3]! 1 65535)⟩:Ln) (.sl 0 [] true) (.sl 0 [] true) (.sl 0 [] true) (.sl 0 [] true)) T
 simp (disch:=try exact dq) only[↓pvd,pz,sC,List.map,seval,lno,lnA,unr_s,unrT_e,Tryz.c14b0,hg0,hg1,hg2,hg3,hg4]
 by_cases c1:nmO ws[1]! = true
 case neg =>
  have her:er2 ws=20:=by
   unfold er2
   rw [eN_f _ c1,eN_nz (e:=20) _ (by decide),eU_nz (e:=20) _ _ _ (by decide),eK_nz (e:=20) _ (by decide),pkE_nz (e:=20) (by decide)]
  rw [her,rdT_e (by decide)]
  simp only[if_neg c1] at g1
  refine aG (g1 _ _) (by simp [growL,still,ent,lno,lnA]) ?_
  simp (disch:=try exact dq) only[↓pvd,pz,sC,List.map,seval,lno,lnA]
  try unfold lnA
  unfold lnZ
  exact xZ
 simp only[if_pos c1] at g1
 refine aG (g1 _ _) (by simp [growL,still,ent,lno,lnA]) ?_
 simp (disch:=try exact dq) only[↓pvd,pz,sC,List.map,seval,lno,lnA,unr_s,unrT_e,Tryz.c14b0,hg0,hg1,hg2,hg3,hg4]
 by_cases c2:nmO ws[2]! = true
 case neg =>
  have her:er2 ws=20:=by
   unfold er2
   rw [eN_t _ c1,eN_f _ c2,eU_nz (e:=20) _ _ _ (by decide),eK_nz (e:=20) _ (by decide),pkE_nz (e:=20) (by decide)]
  rw [her,rdT_e (by decide)]
  simp only[if_neg c2] at g2
  refine aG (g2 _ _) (by simp [growL,still,ent,lno,lnA]) ?_
  simp (disch:=try exact dq) only[↓pvd,pz,sC,List.map,seval,lno,lnA]
  try unfold lnA
  unfold lnZ
  exact xZ
 simp only[if_pos c2] at g2
 refine aG (g2 _ _) (by simp [growL,still,ent,lno,lnA]) ?_
 simp (disch:=try exact dq) only[↓pvd,pz,sC,List.map,seval,lno,lnA,unr_s,unrT_e,Tryz.c14b0,hg0,hg1,hg2,hg3,hg4]
 by_cases c3:(Nm.rdF ws[3]! 1 65535).2=true
 case neg =>
  have her:er2 ws=21:=by
   unfold er2
   rw [eN_t _ c1,eN_t _ c2,eU_f _ _ _ c3,eK_nz (e:=21) _ (by decide),pkE_nz (e:=21) (by decide)]
  rw [her,rdT_e (by decide)]
  simp only[if_neg c3] at g3
  refine aG (g3 _ _) (by simp [growL,still,ent,lno,lnA]) ?_
  simp (disch:=try exact dq) only[↓pvd,pz,sC,List.map,seval,lno,lnA]
  try unfold lnA
  unfold lnZ
  exact xZ
 simp only[if_pos c3] at g3
 refine aG (g3 _ _) (by simp [growL,still,ent,lno,lnA]) ?_
 simp (disch:=try exact dq) only[↓pvd,pz,sC,List.map,seval,lno,lnA,unr_s,unrT_e,Tryz.c14b0,hg0,hg1,hg2,hg3,hg4]
 by_cases c4:ws[4]! = [97,99,99,101,115,115]∨ws[4]! = [116,114,117,110,107]
 case neg =>
  have her:er2 ws=20:=by
   unfold er2
   rw [eN_t _ c1,eN_t _ c2,eU_t _ _ _ c3,eK_f _ c4,pkE_nz (e:=20) (by decide)]
  rw [her,rdT_e (by decide)]
  simp only[if_neg c4] at g4
  refine aG (g4 _ _) (by simp [growL,still,ent,lno,lnA]) ?_
  simp (disch:=try exact dq) only[↓pvd,pz,sC,List.map,seval,lno,lnA]
  try unfold lnA
  unfold lnZ
  exact xZ
 exact absurd c4 (fun h=>h.elim ha hb)
theorem rread2Y(ws:List (List UInt8))(f:Bool)(r:Int)(hk:kdF ws[0]! = 2)(hm:mnF 2 ws=true)(hl:∀ w∈ws,w.length≤1000)(hn:ws.length=7)(ha:¬ ws[4]! = [97,99,99,101,115,115])(hb:¬ ws[4]! = [116,114,117,110,107]):Run Tryz.prog 14 [.sl 1 (ws.map .str) f,.int .i64 r] (rdT (er2 ws) (li2 ws r)):=by
 have hlm:(ws.map AV.str).length=7:=by simp [hn]
 have hwl:∀ j,j < ws.length→ws[j]!.length≤1000:=fun j hj=>hl _ (by rw [getElem!_pos ws j hj]; exact List.getElem_mem hj)
 have hg0:(ws.map AV.str)[0]?=some (.str ws[0]!):=mG (by omega)
 have hg1:(ws.map AV.str)[1]?=some (.str ws[1]!):=mG (by omega)
 have hg2:(ws.map AV.str)[2]?=some (.str ws[2]!):=mG (by omega)
 have hg3:(ws.map AV.str)[3]?=some (.str ws[3]!):=mG (by omega)
 have hg4:(ws.map AV.str)[4]?=some (.str ws[4]!):=mG (by omega)
 have hg5:(ws.map AV.str)[5]?=some (.str ws[5]!):=mG (by omega)
 have hg6:(ws.map AV.str)[6]?=some (.str ws[6]!):=mG (by omega)
 have qk:=rkind_run ws[0]!
 rw [hk] at qk
 have qf:=rform2 ws f hk (by omega) (by omega)
 rw [if_pos ⟨hn,ha⟩] at qf
 refine Tryz.run14 (by simp) ?_
 unfold Tryz.c14
 simp (disch:=try exact dq) only[↓pvd,pz,sC,List.map,seval,hlm,hg0]
 refine aC qf rfl rfl ?_
 simp (disch:=try exact dq) only[↓pvd,pz,sC,List.map,seval,hlm,hg0]
 refine aC qk rfl rfl ?_
 simp (disch:=try exact dq) only[↓pvd,pz,sC,List.map,seval,hlm,hg0]
 refine aw_unroll 7 ?_
 have g1:=fun(A:Option Ent) (T:Hp)=>rwordN ws[1]! 0 (hwl 1 (by omega)) A (⟨r,2,[],[],[],[],[],0,0,0,0,0,0⟩:Ln) (⟨r,2,ws[1]!,[],[],[],[],0,0,0,0,0,0⟩:Ln) (.sl 0 [] true) (.sl 0 [] true) (.sl 0 [] true) (.sl 0 [] true) T (rname0 ws[1]! r 2 [] [] [] [] [] 0 0 0 0 0 0 (.sl 0 [] true) (.sl 0 [] true) (.sl 0 [] true) (.sl 0 [] true) A T)
 have g2:=fun(A:Option Ent) (T:Hp)=>rwordN ws[2]! 1 (hwl 2 (by omega)) A (⟨r,2,ws[1]!,[],[],[],[],0,0,0,0,0,0⟩:Ln) (⟨r,2,ws[1]!,ws[2]!,[],[],[],0,0,0,0,0,0⟩:Ln) (.sl 0 [] true) (.sl 0 [] true) (.sl 0 [] true) (.sl 0 [] true) T (rname1 ws[2]! r 2 ws[1]! [] [] [] [] 0 0 0 0 0 0 (.sl 0 [] true) (.sl 0 [] true) (.sl 0 [] true) (.sl 0 [] true) A T (by decide) (by decide))
 have g3:=fun(A:Option Ent) (T:Hp)=>rwordC ws[3]! 2 (hwl 3 (by omega)) r 2 ws[1]! ws[2]! [] [] [] 0 0 0 0 0 0 (.sl 0 [] true) (.sl 0 [] true) (.sl 0 [] true) (.sl 0 [] true) A T
 have g4:=fun(A:Option Ent) (T:Hp)=>rwordK ws[4]! 2 A (lno (⟨r,2,ws[1]!,ws[2]!,[],[],[],0,0,0,0,0,(nu ws[3]! 1 65535)⟩:Ln) (.sl 0 [] true) (.sl 0 [] true) (.sl 0 [] true) (.sl 0 [] true)) T
 simp (disch:=try exact dq) only[↓pvd,pz,sC,List.map,seval,lno,lnA,unr_s,unrT_e,Tryz.c14b0,hg0,hg1,hg2,hg3,hg4]
 by_cases c1:nmO ws[1]! = true
 case neg =>
  have her:er2 ws=20:=by
   unfold er2
   rw [eN_f _ c1,eN_nz (e:=20) _ (by decide),eU_nz (e:=20) _ _ _ (by decide),eK_nz (e:=20) _ (by decide),pkE_nz (e:=20) (by decide)]
  rw [her,rdT_e (by decide)]
  simp only[if_neg c1] at g1
  refine aG (g1 _ _) (by simp [growL,still,ent,lno,lnA]) ?_
  simp (disch:=try exact dq) only[↓pvd,pz,sC,List.map,seval,lno,lnA]
  try unfold lnA
  unfold lnZ
  exact xZ
 simp only[if_pos c1] at g1
 refine aG (g1 _ _) (by simp [growL,still,ent,lno,lnA]) ?_
 simp (disch:=try exact dq) only[↓pvd,pz,sC,List.map,seval,lno,lnA,unr_s,unrT_e,Tryz.c14b0,hg0,hg1,hg2,hg3,hg4]
 by_cases c2:nmO ws[2]! = true
 case neg =>
  have her:er2 ws=20:=by
   unfold er2
   rw [eN_t _ c1,eN_f _ c2,eU_nz (e:=20) _ _ _ (by decide),eK_nz (e:=20) _ (by decide),pkE_nz (e:=20) (by decide)]
  rw [her,rdT_e (by decide)]
  simp only[if_neg c2] at g2
  refine aG (g2 _ _) (by simp [growL,still,ent,lno,lnA]) ?_
  simp (disch:=try exact dq) only[↓pvd,pz,sC,List.map,seval,lno,lnA]
  try unfold lnA
  unfold lnZ
  exact xZ
 simp only[if_pos c2] at g2
 refine aG (g2 _ _) (by simp [growL,still,ent,lno,lnA]) ?_
 simp (disch:=try exact dq) only[↓pvd,pz,sC,List.map,seval,lno,lnA,unr_s,unrT_e,Tryz.c14b0,hg0,hg1,hg2,hg3,hg4]
 by_cases c3:(Nm.rdF ws[3]! 1 65535).2=true
 case neg =>
  have her:er2 ws=21:=by
   unfold er2
   rw [eN_t _ c1,eN_t _ c2,eU_f _ _ _ c3,eK_nz (e:=21) _ (by decide),pkE_nz (e:=21) (by decide)]
  rw [her,rdT_e (by decide)]
  simp only[if_neg c3] at g3
  refine aG (g3 _ _) (by simp [growL,still,ent,lno,lnA]) ?_
  simp (disch:=try exact dq) only[↓pvd,pz,sC,List.map,seval,lno,lnA]
  try unfold lnA
  unfold lnZ
  exact xZ
 simp only[if_pos c3] at g3
 refine aG (g3 _ _) (by simp [growL,still,ent,lno,lnA]) ?_
 simp (disch:=try exact dq) only[↓pvd,pz,sC,List.map,seval,lno,lnA,unr_s,unrT_e,Tryz.c14b0,hg0,hg1,hg2,hg3,hg4]
 by_cases c4:ws[4]! = [97,99,99,101,115,115]∨ws[4]! = [116,114,117,110,107]
 case neg =>
  have her:er2 ws=20:=by
   unfold er2
   rw [eN_t _ c1,eN_t _ c2,eU_t _ _ _ c3,eK_f _ c4,pkE_nz (e:=20) (by decide)]
  rw [her,rdT_e (by decide)]
  simp only[if_neg c4] at g4
  refine aG (g4 _ _) (by simp [growL,still,ent,lno,lnA]) ?_
  simp (disch:=try exact dq) only[↓pvd,pz,sC,List.map,seval,lno,lnA]
  try unfold lnA
  unfold lnZ
  exact xZ
 exact absurd c4 (fun h=>h.elim ha hb)
theorem rread2(ws:List (List UInt8))(f:Bool)(r:Int)(hk:kdF ws[0]! = 2)(hm:mnF 2 ws=true)(hl:∀ w∈ws,w.length≤1000):Run Tryz.prog 14 [.sl 1 (ws.map .str) f,.int .i64 r] (rdT (er2 ws) (li2 ws r)):=by
 have h:=hm
 unfold mnF mnP at h
 simp only[Int.reduceEq,if_false,if_true,Bool.and_eq_true,Bool.or_eq_true,decide_eq_true_eq] at h
 rcases h.2 with h' | h' | h'
 ·exact rread2A ws f r hk hm hl h'.2 h'.1
 ·exact rread2T ws f r hk hm hl h'.2 h'.1
 ·by_cases h6:ws.length=6
  ·exact rread2X ws f r hk hm hl h6 h'.1.1 h'.1.2
  ·exact rread2Y ws f r hk hm hl (by omega) h'.1.1 h'.1.2
theorem rread0(ws:List (List UInt8))(f:Bool)(r:Int)(h:okN ws=false)(hw:ws.length≤100000):Run Tryz.prog 14 [.sl 1 (ws.map .str) f,.int .i64 r] (rdT 22 (rdL ws r)):=by
 rw [rdT_e (by decide)]
 have hlm:(ws.map AV.str).length=ws.length:=by simp
 by_cases h0:ws=[]
 ·subst h0
  have qf:=rform0 [] f (.inl rfl) (by simp)
  simp only[List.map_nil] at qf ⊢
  refine Tryz.run14 (by simp) ?_
  unfold Tryz.c14
  refine wZ ?_
  refine aC qf rfl rfl ?_
  refine wZ ?_
  unfold lnA lnZ
  exact xZ
 have hp:=List.length_pos_iff.2 h0
 have hg0:(ws.map AV.str)[0]?=some (.str ws[0]!):=mG hp
 have h1:mnF (kdF ws[0]!) ws=false:=by simpa [okN,h0] using h
 by_cases hk2:kdF ws[0]! = 2
 ·rw [hk2] at h1
  have qf:=rform2 ws f hk2 hp hw
  have e0:=(rkdF_lit ws[0]!).2.1 hk2
  rw [e0] at hg0
  have hg4:4 < ws.length →(ws.map AV.str)[4]?=some (.str ws[4]!):=fun h=>mG h
  unfold mnF mnP at h1
  simp only[Int.reduceEq,if_false,if_true,Bool.and_eq_false_iff,Bool.or_eq_false_iff,decide_eq_false_iff_not] at h1
  generalize ws.map AV.str=row at *
  generalize ws[4]! = w at *
  have ne7:¬(ws.length=7∧w≠[97,99,99,101,115,115]):=fun h=>by
   rcases h1 with h1 | h1
   ·omega
   ·by_cases hb:w=[116,114,117,110,107]
    ·exact h1.2.1 ⟨hb,h.1⟩
    ·exact h1.2.2 ⟨⟨h.2,hb⟩,by omega⟩
  have ne6:¬(ws.length=6∧w≠[116,114,117,110,107]):=fun h=>by
   rcases h1 with h1 | h1
   ·omega
   ·by_cases hb:w=[97,99,99,101,115,115]
    ·exact h1.1 ⟨hb,h.1⟩
    ·exact h1.2.2 ⟨⟨hb,h.2⟩,by omega⟩
  rw [if_neg ne7,if_neg ne6] at qf
  refine Tryz.run14 (by simp) ?_
  unfold Tryz.c14
  simp (disch:=try exact dq) only[↓pvd,pz,sC,List.map,seval,hlm,hg0]
  refine aC qf rfl rfl ?_
  by_cases h4:4 < ws.length
  case neg =>
   have h4':¬ 4 <(ws.length:Int):=by omega
   simp (disch:=try exact dq) only[↓pvd,pz,sC,List.map,seval,hlm,hg0,h4']
   unfold lnA lnZ
   exact xZ
  have hg:=hg4 h4
  by_cases h7:ws.length≤7
  case neg =>
   have h7':¬(ws.length:Int)≤7:=by omega
   simp (disch:=try exact dq) only[↓pvd,pz,sC,List.map,seval,hlm,hg0,h7']
   unfold lnA lnZ
   exact xZ
  by_cases h6:6≤ws.length
  case neg =>
   have h6':¬ 6 ≤(ws.length:Int):=by omega
   simp (disch:=try exact dq) only[↓pvd,pz,sC,List.map,seval,hlm,hg0,h6']
   unfold lnA lnZ
   exact xZ
  by_cases ha:w=[97,99,99,101,115,115]
  ·have da:=decide_eq_true ha
   simp (disch:=try exact dq) only[↓pvd,pz,sC,List.map,seval,hlm,hg0,hg,da]
   unfold lnA lnZ
   exact xZ
  ·have da:=decide_eq_false ha
   have hb:w=[116,114,117,110,107]:=by
    by_cases h5:ws.length=7
    ·exact absurd ⟨h5,ha⟩ ne7
    ·have:ws.length=6:=by omega
     exact Classical.not_not.1 fun hb=>ne6 ⟨this,hb⟩
   have db:=decide_eq_true hb
   simp (disch:=try exact dq) only[↓pvd,pz,sC,List.map,seval,hlm,hg0,hg,da,db]
   unfold lnA lnZ
   exact xZ
 ·have hport:decide (ws[0]! = [112,111,114,116])=false:=decide_eq_false fun e=>hk2 (by rw [e]; decide)
  have fin:∀ F:List UInt8,Run Tryz.prog 45 [.sl 1 (ws.map .str) f] (.str F)→F.length≤10 →(F=[]∨ws.length≠F.length+1)→Run Tryz.prog 14 [.sl 1 (ws.map .str) f,.int .i64 r] (.tup [lnA lnZ (.sl 0 [] true) (.sl 0 [] true) (.sl 0 [] true) (.sl 0 [] true),.int .i64 22]):=by
   intro F qf hF hor
   generalize ws.map AV.str=row at *
   generalize ws[0]! = w at *
   refine Tryz.run14 (by simp) ?_
   unfold Tryz.c14
   simp (disch:=try exact dq) only[↓pvd,pz,sC,List.map,seval,hlm,hg0]
   refine aC qf rfl rfl ?_
   by_cases hF0:F=[]
   ·subst hF0
    by_cases h4:4 < ws.length
    ·simp (disch:=try exact dq) only[↓pvd,pz,sC,List.map,seval,hlm,hg0,h4,hport]
     try unfold lnA
     unfold lnZ
     exact xZ
    ·have h4':¬ 4 <(ws.length:Int):=by omega
     simp (disch:=try exact dq) only[↓pvd,pz,sC,List.map,seval,hlm,hg0,h4',hport]
     try unfold lnA
     unfold lnZ
     exact xZ
   ·have dF:=decide_eq_false hF0
    have hne:¬(ws.length:Int)=F.length+1:=by have:=hor.resolve_left hF0; omega
    by_cases h4:4 < ws.length
    ·simp (disch:=try exact dq) only[↓pvd,pz,sC,List.map,seval,hlm,hg0,h4,hport,dF,hne]
     try unfold lnA
     unfold lnZ
     exact xZ
    ·have h4':¬ 4 <(ws.length:Int):=by omega
     simp (disch:=try exact dq) only[↓pvd,pz,sC,List.map,seval,hlm,hg0,h4',hport,dF,hne]
     try unfold lnA
     unfold lnZ
     exact xZ
  rcases kdF_b ws[0]! with e | e | e | e | e | e | e | e | e | e
  ·exact fin [] (rform0 ws f (.inr e) hw) (by simp) (.inl rfl)
  ·exact fin _ (rform1 ws f e hp hw) (by decide) (.inr (by rw [e] at h1; unfold mnF at h1; simp at h1; simp; omega))
  ·exact absurd e hk2
  ·exact fin _ (rform3 ws f e hp hw) (by decide) (.inr (by rw [e] at h1; unfold mnF at h1; simp at h1; simp; omega))
  ·exact fin _ (rform4 ws f e hp hw) (by decide) (.inr (by rw [e] at h1; unfold mnF at h1; simp at h1; simp; omega))
  ·exact fin _ (rform5 ws f e hp hw) (by decide) (.inr (by rw [e] at h1; unfold mnF at h1; simp at h1; simp; omega))
  ·exact fin _ (rform6 ws f e hp hw) (by decide) (.inr (by rw [e] at h1; unfold mnF at h1; simp at h1; simp; omega))
  ·exact fin _ (rform7 ws f e hp hw) (by decide) (.inr (by rw [e] at h1; unfold mnF at h1; simp at h1; simp; omega))
  ·exact fin _ (rform8 ws f e hp hw) (by decide) (.inr (by rw [e] at h1; unfold mnF at h1; simp at h1; simp; omega))
  ·exact fin _ (rform9 ws f e hp hw) (by decide) (.inr (by rw [e] at h1; unfold mnF at h1; simp at h1; simp; omega))
theorem rsread_run(ws:List (List UInt8))(f:Bool)(r:Int)(hw:ws.length≤100000)(hl:∀ w∈ws,w.length≤1000):Run Tryz.prog 14 [.sl 1 (ws.map .str) f,.int .i64 r] (rdT (rdE ws) (rdL ws r)):=by
 unfold rdE
 by_cases h:okN ws=true
 ·rw [if_pos h]
  have h1:mnF (kdF ws[0]!) ws=true:=by
   unfold okN at h
   simp only[Bool.and_eq_true] at h
   exact h.2
  unfold rdL erF liF
  rcases kdF_b ws[0]! with e | e | e | e | e | e | e | e | e | e
  ·rw [e] at h1; simp [mnF] at h1
  all_goals rw [e] at h1
  all_goals simp only[e,Int.reduceEq,if_true,if_false]
  ·exact rread1 ws f r e h1 hl
  ·exact rread2 ws f r e h1 hl
  ·exact rread3 ws f r e h1 hl
  ·exact rread4 ws f r e h1 hl
  ·exact rread5 ws f r e h1 hl
  ·exact rread6 ws f r e h1 hl
  ·exact rread7 ws f r e h1 hl
  ·exact rread8 ws f r e h1 hl
  ·exact rread9 ws f r e h1 hl
 ·rw [if_neg h]
  exact rread0 ws f r (by simpa using h) hw
end Go.Proofs
