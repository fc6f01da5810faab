/- The proofs of what the functions of this seat do. -/
import Derived.Test.YtppdpcfmkmnfjaaGreatDoorPr11
set_option linter.unusedSimpArgs false
set_option linter.unusedVariables false
set_option maxHeartbeats 2000000
set_option maxRecDepth 20000
set_option maxHeartbeats 16000000
namespace Go.Proofs
open Go.Pv
theorem aG{P:Program}{N:St→Prop}{fr:Fr}{hp:Hp}{base:Nat}{d:Option Nat}{f:FuncId}{xs:List AX}{no:List TypeId}{rest:List Op2}{r:AV}{H':Hp}(hg:Gen P f (xs.map (·.ev fr)) hp r H')(hG:growL no hp H')
  (hk:awR P base rest N ⟨putO fr d r,H'⟩):awR P base (⟨d,none,.call f xs true,false,no⟩ :: rest) N ⟨fr,hp⟩ :=
 ⟨r,H',hg,fun _=>⟨grow_of hG,fun h=>by cases h⟩,hk⟩
theorem ne_1_2:decide (([100,101,118,105,99,101]:List UInt8)=[112,111,114,116])=false:=by decide
theorem ne_1_3:decide (([100,101,118,105,99,101]:List UInt8)=[108,105,110,107])=false:=by decide
theorem ne_1_4:decide (([100,101,118,105,99,101]:List UInt8)=[115,116,97,116,105,99])=false:=by decide
theorem ne_1_5:decide (([100,101,118,105,99,101]:List UInt8)=[118,116,101,112])=false:=by decide
theorem ne_1_6:decide (([100,101,118,105,99,101]:List UInt8)=[118,110,105])=false:=by decide
theorem ne_1_7:decide (([100,101,118,105,99,101]:List UInt8)=[102,108,111,111,100])=false:=by decide
theorem ne_1_8:decide (([100,101,118,105,99,101]:List UInt8)=[118,114,102])=false:=by decide
theorem ne_1_9:decide (([100,101,118,105,99,101]:List UInt8)=[105,114,98])=false:=by decide
theorem ne_2_1:decide (([112,111,114,116]:List UInt8)=[100,101,118,105,99,101])=false:=by decide
theorem ne_2_3:decide (([112,111,114,116]:List UInt8)=[108,105,110,107])=false:=by decide
theorem ne_2_4:decide (([112,111,114,116]:List UInt8)=[115,116,97,116,105,99])=false:=by decide
theorem ne_2_5:decide (([112,111,114,116]:List UInt8)=[118,116,101,112])=false:=by decide
theorem ne_2_6:decide (([112,111,114,116]:List UInt8)=[118,110,105])=false:=by decide
theorem ne_2_7:decide (([112,111,114,116]:List UInt8)=[102,108,111,111,100])=false:=by decide
theorem ne_2_8:decide (([112,111,114,116]:List UInt8)=[118,114,102])=false:=by decide
theorem ne_2_9:decide (([112,111,114,116]:List UInt8)=[105,114,98])=false:=by decide
theorem ne_3_1:decide (([108,105,110,107]:List UInt8)=[100,101,118,105,99,101])=false:=by decide
theorem ne_3_2:decide (([108,105,110,107]:List UInt8)=[112,111,114,116])=false:=by decide
theorem ne_3_4:decide (([108,105,110,107]:List UInt8)=[115,116,97,116,105,99])=false:=by decide
theorem ne_3_5:decide (([108,105,110,107]:List UInt8)=[118,116,101,112])=false:=by decide
theorem ne_3_6:decide (([108,105,110,107]:List UInt8)=[118,110,105])=false:=by decide
theorem ne_3_7:decide (([108,105,110,107]:List UInt8)=[102,108,111,111,100])=false:=by decide
theorem ne_3_8:decide (([108,105,110,107]:List UInt8)=[118,114,102])=false:=by decide
theorem ne_3_9:decide (([108,105,110,107]:List UInt8)=[105,114,98])=false:=by decide
theorem ne_4_1:decide (([115,116,97,116,105,99]:List UInt8)=[100,101,118,105,99,101])=false:=by decide
theorem ne_4_2:decide (([115,116,97,116,105,99]:List UInt8)=[112,111,114,116])=false:=by decide
theorem ne_4_3:decide (([115,116,97,116,105,99]:List UInt8)=[108,105,110,107])=false:=by decide
theorem ne_4_5:decide (([115,116,97,116,105,99]:List UInt8)=[118,116,101,112])=false:=by decide
theorem ne_4_6:decide (([115,116,97,116,105,99]:List UInt8)=[118,110,105])=false:=by decide
theorem ne_4_7:decide (([115,116,97,116,105,99]:List UInt8)=[102,108,111,111,100])=false:=by decide
theorem ne_4_8:decide (([115,116,97,116,105,99]:List UInt8)=[118,114,102])=false:=by decide
theorem ne_4_9:decide (([115,116,97,116,105,99]:List UInt8)=[105,114,98])=false:=by decide
theorem ne_5_1:decide (([118,116,101,112]:List UInt8)=[100,101,118,105,99,101])=false:=by decide
theorem ne_5_2:decide (([118,116,101,112]:List UInt8)=[112,111,114,116])=false:=by decide
theorem ne_5_3:decide (([118,116,101,112]:List UInt8)=[108,105,110,107])=false:=by decide
theorem ne_5_4:decide (([118,116,101,112]:List UInt8)=[115,116,97,116,105,99])=false:=by decide
theorem ne_5_6:decide (([118,116,101,112]:List UInt8)=[118,110,105])=false:=by decide
theorem ne_5_7:decide (([118,116,101,112]:List UInt8)=[102,108,111,111,100])=false:=by decide
theorem ne_5_8:decide (([118,116,101,112]:List UInt8)=[118,114,102])=false:=by decide
theorem ne_5_9:decide (([118,116,101,112]:List UInt8)=[105,114,98])=false:=by decide
theorem ne_6_1:decide (([118,110,105]:List UInt8)=[100,101,118,105,99,101])=false:=by decide
theorem ne_6_2:decide (([118,110,105]:List UInt8)=[112,111,114,116])=false:=by decide
theorem ne_6_3:decide (([118,110,105]:List UInt8)=[108,105,110,107])=false:=by decide
theorem ne_6_4:decide (([118,110,105]:List UInt8)=[115,116,97,116,105,99])=false:=by decide
theorem ne_6_5:decide (([118,110,105]:List UInt8)=[118,116,101,112])=false:=by decide
theorem ne_6_7:decide (([118,110,105]:List UInt8)=[102,108,111,111,100])=false:=by decide
theorem ne_6_8:decide (([118,110,105]:List UInt8)=[118,114,102])=false:=by decide
theorem ne_6_9:decide (([118,110,105]:List UInt8)=[105,114,98])=false:=by decide
theorem ne_7_1:decide (([102,108,111,111,100]:List UInt8)=[100,101,118,105,99,101])=false:=by decide
theorem ne_7_2:decide (([102,108,111,111,100]:List UInt8)=[112,111,114,116])=false:=by decide
theorem ne_7_3:decide (([102,108,111,111,100]:List UInt8)=[108,105,110,107])=false:=by decide
theorem ne_7_4:decide (([102,108,111,111,100]:List UInt8)=[115,116,97,116,105,99])=false:=by decide
theorem ne_7_5:decide (([102,108,111,111,100]:List UInt8)=[118,116,101,112])=false:=by decide
theorem ne_7_6:decide (([102,108,111,111,100]:List UInt8)=[118,110,105])=false:=by decide
theorem ne_7_8:decide (([102,108,111,111,100]:List UInt8)=[118,114,102])=false:=by decide
theorem ne_7_9:decide (([102,108,111,111,100]:List UInt8)=[105,114,98])=false:=by decide
theorem ne_8_1:decide (([118,114,102]:List UInt8)=[100,101,118,105,99,101])=false:=by decide
theorem ne_8_2:decide (([118,114,102]:List UInt8)=[112,111,114,116])=false:=by decide
theorem ne_8_3:decide (([118,114,102]:List UInt8)=[108,105,110,107])=false:=by decide
theorem ne_8_4:decide (([118,114,102]:List UInt8)=[115,116,97,116,105,99])=false:=by decide
theorem ne_8_5:decide (([118,114,102]:List UInt8)=[118,116,101,112])=false:=by decide
theorem ne_8_6:decide (([118,114,102]:List UInt8)=[118,110,105])=false:=by decide
theorem ne_8_7:decide (([118,114,102]:List UInt8)=[102,108,111,111,100])=false:=by decide
theorem ne_8_9:decide (([118,114,102]:List UInt8)=[105,114,98])=false:=by decide
theorem ne_9_1:decide (([105,114,98]:List UInt8)=[100,101,118,105,99,101])=false:=by decide
theorem ne_9_2:decide (([105,114,98]:List UInt8)=[112,111,114,116])=false:=by decide
theorem ne_9_3:decide (([105,114,98]:List UInt8)=[108,105,110,107])=false:=by decide
theorem ne_9_4:decide (([105,114,98]:List UInt8)=[115,116,97,116,105,99])=false:=by decide
theorem ne_9_5:decide (([105,114,98]:List UInt8)=[118,116,101,112])=false:=by decide
theorem ne_9_6:decide (([105,114,98]:List UInt8)=[118,110,105])=false:=by decide
theorem ne_9_7:decide (([105,114,98]:List UInt8)=[102,108,111,111,100])=false:=by decide
theorem ne_9_8:decide (([105,114,98]:List UInt8)=[118,114,102])=false:=by decide
theorem rkind_run(s:List UInt8):Run Tryz.prog 46 [.str s] (.int .i64 (kdF s)):=by
 refine Tryz.run46 (by simp) ?_
 unfold Tryz.c46 kdF
 refine wZ ?_
 refine aw_unroll 11 ?_
 by_cases h0:s=[100,101,118,105,99,101]
 ·subst h0
  rw [show(if ([100,101,118,105,99,101]:List UInt8)=[100,101,118,105,99,101] then(1:Int) else if ([100,101,118,105,99,101]:List UInt8)=[112,111,114,116] then(2:Int) else if ([100,101,118,105,99,101]:List UInt8)=[108,105,110,107] then(3:Int) else if ([100,101,118,105,99,101]:List UInt8)=[115,116,97,116,105,99] then(4:Int) else if ([100,101,118,105,99,101]:List UInt8)=[118,116,101,112] then(5:Int) else if ([100,101,118,105,99,101]:List UInt8)=[118,110,105] then(6:Int) else if ([100,101,118,105,99,101]:List UInt8)=[102,108,111,111,100] then(7:Int) else if ([100,101,118,105,99,101]:List UInt8)=[118,114,102] then(8:Int) else if ([100,101,118,105,99,101]:List UInt8)=[105,114,98] then(9:Int) else 0)=1 by decide]
  simp (disch:=try exact dq) only[↓pvd,pz,sC,List.map,seval,unr_s,unrT_e,Tryz.c46b0]
  exact eZ
 have g0:decide (([100,101,118,105,99,101]:List UInt8)=s)=false:=decide_eq_false (fun e=>h0 e.symm)
 by_cases h1:s=[112,111,114,116]
 ·subst h1
  rw [show(if ([112,111,114,116]:List UInt8)=[100,101,118,105,99,101] then(1:Int) else if ([112,111,114,116]:List UInt8)=[112,111,114,116] then(2:Int) else if ([112,111,114,116]:List UInt8)=[108,105,110,107] then(3:Int) else if ([112,111,114,116]:List UInt8)=[115,116,97,116,105,99] then(4:Int) else if ([112,111,114,116]:List UInt8)=[118,116,101,112] then(5:Int) else if ([112,111,114,116]:List UInt8)=[118,110,105] then(6:Int) else if ([112,111,114,116]:List UInt8)=[102,108,111,111,100] then(7:Int) else if ([112,111,114,116]:List UInt8)=[118,114,102] then(8:Int) else if ([112,111,114,116]:List UInt8)=[105,114,98] then(9:Int) else 0)=2 by decide]
  simp (disch:=try exact dq) only[↓pvd,pz,sC,List.map,seval,unr_s,unrT_e,Tryz.c46b0,ne_1_2]
  exact eZ
 have g1:decide (([112,111,114,116]:List UInt8)=s)=false:=decide_eq_false (fun e=>h1 e.symm)
 by_cases h2:s=[108,105,110,107]
 ·subst h2
  rw [show(if ([108,105,110,107]:List UInt8)=[100,101,118,105,99,101] then(1:Int) else if ([108,105,110,107]:List UInt8)=[112,111,114,116] then(2:Int) else if ([108,105,110,107]:List UInt8)=[108,105,110,107] then(3:Int) else if ([108,105,110,107]:List UInt8)=[115,116,97,116,105,99] then(4:Int) else if ([108,105,110,107]:List UInt8)=[118,116,101,112] then(5:Int) else if ([108,105,110,107]:List UInt8)=[118,110,105] then(6:Int) else if ([108,105,110,107]:List UInt8)=[102,108,111,111,100] then(7:Int) else if ([108,105,110,107]:List UInt8)=[118,114,102] then(8:Int) else if ([108,105,110,107]:List UInt8)=[105,114,98] then(9:Int) else 0)=3 by decide]
  simp (disch:=try exact dq) only[↓pvd,pz,sC,List.map,seval,unr_s,unrT_e,Tryz.c46b0,ne_1_3,ne_2_3]
  exact eZ
 have g2:decide (([108,105,110,107]:List UInt8)=s)=false:=decide_eq_false (fun e=>h2 e.symm)
 by_cases h3:s=[115,116,97,116,105,99]
 ·subst h3
  rw [show(if ([115,116,97,116,105,99]:List UInt8)=[100,101,118,105,99,101] then(1:Int) else if ([115,116,97,116,105,99]:List UInt8)=[112,111,114,116] then(2:Int) else if ([115,116,97,116,105,99]:List UInt8)=[108,105,110,107] then(3:Int) else if ([115,116,97,116,105,99]:List UInt8)=[115,116,97,116,105,99] then(4:Int) else if ([115,116,97,116,105,99]:List UInt8)=[118,116,101,112] then(5:Int) else if ([115,116,97,116,105,99]:List UInt8)=[118,110,105] then(6:Int) else if ([115,116,97,116,105,99]:List UInt8)=[102,108,111,111,100] then(7:Int) else if ([115,116,97,116,105,99]:List UInt8)=[118,114,102] then(8:Int) else if ([115,116,97,116,105,99]:List UInt8)=[105,114,98] then(9:Int) else 0)=4 by decide]
  simp (disch:=try exact dq) only[↓pvd,pz,sC,List.map,seval,unr_s,unrT_e,Tryz.c46b0,ne_1_4,ne_2_4,ne_3_4]
  exact eZ
 have g3:decide (([115,116,97,116,105,99]:List UInt8)=s)=false:=decide_eq_false (fun e=>h3 e.symm)
 by_cases h4:s=[118,116,101,112]
 ·subst h4
  rw [show(if ([118,116,101,112]:List UInt8)=[100,101,118,105,99,101] then(1:Int) else if ([118,116,101,112]:List UInt8)=[112,111,114,116] then(2:Int) else if ([118,116,101,112]:List UInt8)=[108,105,110,107] then(3:Int) else if ([118,116,101,112]:List UInt8)=[115,116,97,116,105,99] then(4:Int) else if ([118,116,101,112]:List UInt8)=[118,116,101,112] then(5:Int) else if ([118,116,101,112]:List UInt8)=[118,110,105] then(6:Int) else if ([118,116,101,112]:List UInt8)=[102,108,111,111,100] then(7:Int) else if ([118,116,101,112]:List UInt8)=[118,114,102] then(8:Int) else if ([118,116,101,112]:List UInt8)=[105,114,98] then(9:Int) else 0)=5 by decide]
  simp (disch:=try exact dq) only[↓pvd,pz,sC,List.map,seval,unr_s,unrT_e,Tryz.c46b0,ne_1_5,ne_2_5,ne_3_5,ne_4_5]
  exact eZ
 have g4:decide (([118,116,101,112]:List UInt8)=s)=false:=decide_eq_false (fun e=>h4 e.symm)
 by_cases h5:s=[118,110,105]
 ·subst h5
  rw [show(if ([118,110,105]:List UInt8)=[100,101,118,105,99,101] then(1:Int) else if ([118,110,105]:List UInt8)=[112,111,114,116] then(2:Int) else if ([118,110,105]:List UInt8)=[108,105,110,107] then(3:Int) else if ([118,110,105]:List UInt8)=[115,116,97,116,105,99] then(4:Int) else if ([118,110,105]:List UInt8)=[118,116,101,112] then(5:Int) else if ([118,110,105]:List UInt8)=[118,110,105] then(6:Int) else if ([118,110,105]:List UInt8)=[102,108,111,111,100] then(7:Int) else if ([118,110,105]:List UInt8)=[118,114,102] then(8:Int) else if ([118,110,105]:List UInt8)=[105,114,98] then(9:Int) else 0)=6 by decide]
  simp (disch:=try exact dq) only[↓pvd,pz,sC,List.map,seval,unr_s,unrT_e,Tryz.c46b0,ne_1_6,ne_2_6,ne_3_6,ne_4_6,ne_5_6]
  exact eZ
 have g5:decide (([118,110,105]:List UInt8)=s)=false:=decide_eq_false (fun e=>h5 e.symm)
 by_cases h6:s=[102,108,111,111,100]
 ·subst h6
  rw [show(if ([102,108,111,111,100]:List UInt8)=[100,101,118,105,99,101] then(1:Int) else if ([102,108,111,111,100]:List UInt8)=[112,111,114,116] then(2:Int) else if ([102,108,111,111,100]:List UInt8)=[108,105,110,107] then(3:Int) else if ([102,108,111,111,100]:List UInt8)=[115,116,97,116,105,99] then(4:Int) else if ([102,108,111,111,100]:List UInt8)=[118,116,101,112] then(5:Int) else if ([102,108,111,111,100]:List UInt8)=[118,110,105] then(6:Int) else if ([102,108,111,111,100]:List UInt8)=[102,108,111,111,100] then(7:Int) else if ([102,108,111,111,100]:List UInt8)=[118,114,102] then(8:Int) else if ([102,108,111,111,100]:List UInt8)=[105,114,98] then(9:Int) else 0)=7 by decide]
  simp (disch:=try exact dq) only[↓pvd,pz,sC,List.map,seval,unr_s,unrT_e,Tryz.c46b0,ne_1_7,ne_2_7,ne_3_7,ne_4_7,ne_5_7,ne_6_7]
  exact eZ
 have g6:decide (([102,108,111,111,100]:List UInt8)=s)=false:=decide_eq_false (fun e=>h6 e.symm)
 by_cases h7:s=[118,114,102]
 ·subst h7
  rw [show(if ([118,114,102]:List UInt8)=[100,101,118,105,99,101] then(1:Int) else if ([118,114,102]:List UInt8)=[112,111,114,116] then(2:Int) else if ([118,114,102]:List UInt8)=[108,105,110,107] then(3:Int) else if ([118,114,102]:List UInt8)=[115,116,97,116,105,99] then(4:Int) else if ([118,114,102]:List UInt8)=[118,116,101,112] then(5:Int) else if ([118,114,102]:List UInt8)=[118,110,105] then(6:Int) else if ([118,114,102]:List UInt8)=[102,108,111,111,100] then(7:Int) else if ([118,114,102]:List UInt8)=[118,114,102] then(8:Int) else if ([118,114,102]:List UInt8)=[105,114,98] then(9:Int) else 0)=8 by decide]
  simp (disch:=try exact dq) only[↓pvd,pz,sC,List.map,seval,unr_s,unrT_e,Tryz.c46b0,ne_1_8,ne_2_8,ne_3_8,ne_4_8,ne_5_8,ne_6_8,ne_7_8]
  exact eZ
 have g7:decide (([118,114,102]:List UInt8)=s)=false:=decide_eq_false (fun e=>h7 e.symm)
 by_cases h8:s=[105,114,98]
 ·subst h8
  rw [show(if ([105,114,98]:List UInt8)=[100,101,118,105,99,101] then(1:Int) else if ([105,114,98]:List UInt8)=[112,111,114,116] then(2:Int) else if ([105,114,98]:List UInt8)=[108,105,110,107] then(3:Int) else if ([105,114,98]:List UInt8)=[115,116,97,116,105,99] then(4:Int) else if ([105,114,98]:List UInt8)=[118,116,101,112] then(5:Int) else if ([105,114,98]:List UInt8)=[118,110,105] then(6:Int) else if ([105,114,98]:List UInt8)=[102,108,111,111,100] then(7:Int) else if ([105,114,98]:List UInt8)=[118,114,102] then(8:Int) else if ([105,114,98]:List UInt8)=[105,114,98] then(9:Int) else 0)=9 by decide]
  simp (disch:=try exact dq) only[↓pvd,pz,sC,List.map,seval,unr_s,unrT_e,Tryz.c46b0,ne_1_9,ne_2_9,ne_3_9,ne_4_9,ne_5_9,ne_6_9,ne_7_9,ne_8_9]
  exact eZ
 have g8:decide (([105,114,98]:List UInt8)=s)=false:=decide_eq_false (fun e=>h8 e.symm)
 rw [if_neg h0,if_neg h1,if_neg h2,if_neg h3,if_neg h4,if_neg h5,if_neg h6,if_neg h7,if_neg h8]
 simp (disch:=try exact dq) only[↓pvd,pz,sC,List.map,seval,unr_s,unrT_e,Tryz.c46b0,g0,g1,g2,g3,g4,g5,g6,g7,g8]
 exact eZ
theorem rstation_run(m:Int)(h:0≤m)(h':m < 18446744073709551616):Run Tryz.prog 78 [.int .u64 m] (.bool (stn m)):=by
 have q1:=Mc.ref_ishost_run m h h'
 have q2:=Mc.ref_group_run m h h'
 refine Tryz.run78 (by simp) ?_
 unfold Tryz.c78 stn
 generalize (Mc.ish m).1=x at *
 generalize (Mc.ish m).2=b at *
 generalize decide (m / 1099511627776 % 2=1)=g at *
 by_cases hm:m≤281474976710655
 ·rw [decide_eq_true hm]
  cases b
  ·repeat' (first | (simp (disch:=try exact dq) only[↓pvd,pz,sC,List.map,seval,still]) | (with_reducible first|refine cB (fun _=>?_) (fun _=>?_)|refine gB (fun _=>?_) (fun _=>?_)|refine hB (fun _=>?_) (fun _=>?_)|refine cA ?_ ?_) | refine aC q1 rfl rfl ?_ | refine aD q1 rfl rfl (fun _=>rfl) ?_ | refine aC q2 rfl rfl ?_ | refine aD q2 rfl rfl (fun _=>rfl) ?_ | exact eZ | fail)
  ·repeat' (first | (simp (disch:=try exact dq) only[↓pvd,pz,sC,List.map,seval,still]) | (with_reducible first|refine cB (fun _=>?_) (fun _=>?_)|refine gB (fun _=>?_) (fun _=>?_)|refine hB (fun _=>?_) (fun _=>?_)|refine cA ?_ ?_) | refine aC q1 rfl rfl ?_ | refine aD q1 rfl rfl (fun _=>rfl) ?_ | refine aC q2 rfl rfl ?_ | refine aD q2 rfl rfl (fun _=>rfl) ?_ | exact eZ | fail)
 ·rw [decide_eq_false hm]
  repeat' (first | (simp (disch:=try exact dq) only[↓pvd,pz,sC,List.map,seval,still]) | (with_reducible first|refine cB (fun _=>?_) (fun _=>?_)|refine gB (fun _=>?_) (fun _=>?_)|refine hB (fun _=>?_) (fun _=>?_)|refine cA ?_ ?_) | refine aC q1 rfl rfl ?_ | refine aD q1 rfl rfl (fun _=>rfl) ?_ | refine aC q2 rfl rfl ?_ | refine aD q2 rfl rfl (fun _=>rfl) ?_ | exact eZ | fail)
theorem rsubnet_run(a b:Int)(ha:0≤a∧a≤4294967295):Run Tryz.prog 83 [pfx a b] (.bool (sbF a b)):=by
 have q1:=ref_first_run a b ha
 have q2:=ref_last_run a b ha
 refine Tryz.run83 (by simp) ?_
 unfold Tryz.c83 sbF
 generalize firstF a b=x at *
 generalize lastF a b=y at *
 by_cases h1:1≤b
 ·by_cases h2:b≤30
  ·rw [decide_eq_true ⟨h1,h2⟩]
   by_cases h3:a=x
   ·have d3:=decide_eq_true h3
    rw [d3]
    repeat' (first | (simp (disch:=try exact dq) only[↓pvd,pz,sC,List.map,seval,d3,still]) | (with_reducible first|refine cB (fun _=>?_) (fun _=>?_)|refine gB (fun _=>?_) (fun _=>?_)|refine hB (fun _=>?_) (fun _=>?_)|refine cA ?_ ?_) | refine aD q1 rfl rfl (fun _=>rfl) ?_ | refine aD q2 rfl rfl (fun _=>rfl) ?_ | exact eZ | fail)
   ·have d3:=decide_eq_false h3
    rw [d3]
    by_cases h4:a=y
    ·have d4:=decide_eq_true h4
     rw [d4]
     repeat' (first | (simp (disch:=try exact dq) only[↓pvd,pz,sC,List.map,seval,d3,d4,still]) | (with_reducible first|refine cB (fun _=>?_) (fun _=>?_)|refine gB (fun _=>?_) (fun _=>?_)|refine hB (fun _=>?_) (fun _=>?_)|refine cA ?_ ?_) | refine aD q1 rfl rfl (fun _=>rfl) ?_ | refine aD q2 rfl rfl (fun _=>rfl) ?_ | exact eZ | fail)
    ·have d4:=decide_eq_false h4
     rw [d4]
     repeat' (first | (simp (disch:=try exact dq) only[↓pvd,pz,sC,List.map,seval,d3,d4,still]) | (with_reducible first|refine cB (fun _=>?_) (fun _=>?_)|refine gB (fun _=>?_) (fun _=>?_)|refine hB (fun _=>?_) (fun _=>?_)|refine cA ?_ ?_) | refine aD q1 rfl rfl (fun _=>rfl) ?_ | refine aD q2 rfl rfl (fun _=>rfl) ?_ | exact eZ | fail)
  ·rw [decide_eq_false (fun h=>h2 h.2)]
   refine vZ ?_
   exact eZ
 ·rw [decide_eq_false (fun h=>h1 h.1)]
  refine vZ ?_
  exact eZ
theorem slV_ls{s:List UInt8}{b:Int}(h:lsG s b=true):slV ((sc s).map fun p=>(gI 1 b p).1)=.sl 1 (((sc s).map fun p=>(gI 1 b p).1).map (.int .i64)) false:=by
 unfold slV
 rw [if_neg (by simpa using sc_ne s)]
theorem rlist_run(s:List UInt8)(b:Int)(hs:s.length≤1000):Run Tryz.prog 79 [.str s,.int .i64 b] (.tup [slV (lsV s b),.bool (!lsB s b)]):=by
 have q:=run_frz (rrdlist_run s 1 b hs)
 refine Tryz.run79 (by simp) ?_
 unfold Tryz.c79 lsV lsB
 by_cases h1:s=[45]
 ·subst h1
  rw [if_pos rfl,decide_eq_true rfl,show slV []=.sl 0 [] true from if_pos rfl]
  refine vZ ?_
  exact eZ
 ·have d1:=decide_eq_false h1
  rw [if_neg h1,d1]
  by_cases h2:lsG s b=true
  ·have h2':rlF (gI 1 b) (sc s)=true:=h2
   rw [rlR_yes h2'] at q
   rw [if_pos h2,slV_ls h2,h2]
   simp only[frz,frzA,frzC,List.map_cons,List.map_nil] at q
   generalize ((sc s).map fun p=>(gI 1 b p).1).map (AV.int .i64)=es at *
   simp (disch:=try exact dq) only[↓pvd,pz,sC,List.map,seval,d1]
   refine aC q rfl rfl ?_
   refine vZ ?_
   exact eZ
  ·have h2':¬ rlF (gI 1 b) (sc s)=true:=h2
   rw [rlR_no h2'] at q
   rw [if_neg h2,show lsG s b=false by simpa using h2,show slV []=.sl 0 [] true from if_pos rfl]
   simp only[frz,frzA,frzC,List.map_cons,List.map_nil] at q
   simp (disch:=try exact dq) only[↓pvd,pz,sC,List.map,seval,d1]
   refine aC q rfl rfl ?_
   refine vZ ?_
   exact eZ
theorem rname0(s:List UInt8)(r k:Int)(a1 a2 a3 a4 a5:List UInt8)(b1 b2 b3 b4 b5 b6:Int)(t im ex ad:AV)(A:Option Ent)(T:Hp):Gen Tryz.prog 75 [.str s,.int .i64 0,.eptr 1 0 0] (A :: lno (⟨r,k,a1,a2,a3,a4,a5,b1,b2,b3,b4,b5,b6⟩:Ln) t im ex ad :: T) (.tup []) (A :: lno (⟨r,k,s,a2,a3,a4,a5,b1,b2,b3,b4,b5,b6⟩:Ln) t im ex ad :: T):=by
 refine Tryz.gen75 (by simp) ?_
 unfold Tryz.g75 lno lnA
 refine wZ ?_
 exact⟨rfl,rfl⟩
theorem rname1(s:List UInt8)(r k:Int)(a1 a2 a3 a4 a5:List UInt8)(b1 b2 b3 b4 b5 b6:Int)(t im ex ad:AV)(A:Option Ent)(T:Hp)(h8:k≠8)(h9:k≠9):Gen Tryz.prog 75 [.str s,.int .i64 1,.eptr 1 0 0] (A :: lno (⟨r,k,a1,a2,a3,a4,a5,b1,b2,b3,b4,b5,b6⟩:Ln) t im ex ad :: T) (.tup []) (A :: lno (⟨r,k,a1,s,a3,a4,a5,b1,b2,b3,b4,b5,b6⟩:Ln) t im ex ad :: T):=by
 refine Tryz.gen75 (by simp) ?_
 unfold Tryz.g75 lno lnA
 simp (disch:=try exact dq) only[↓pvd,pz,sC,List.map,seval,h8,h9]
 exact⟨rfl,rfl⟩
theorem rname2(s:List UInt8)(r k:Int)(a1 a2 a3 a4 a5:List UInt8)(b1 b2 b3 b4 b5 b6:Int)(t im ex ad:AV)(A:Option Ent)(T:Hp)(h8:k≠8)(h9:k≠9):Gen Tryz.prog 75 [.str s,.int .i64 2,.eptr 1 0 0] (A :: lno (⟨r,k,a1,a2,a3,a4,a5,b1,b2,b3,b4,b5,b6⟩:Ln) t im ex ad :: T) (.tup []) (A :: lno (⟨r,k,a1,a2,s,a4,a5,b1,b2,b3,b4,b5,b6⟩:Ln) t im ex ad :: T):=by
 refine Tryz.gen75 (by simp) ?_
 unfold Tryz.g75 lno lnA
 simp (disch:=try exact dq) only[↓pvd,pz,sC,List.map,seval,h8,h9]
 exact⟨rfl,rfl⟩
theorem rname3(s:List UInt8)(r k:Int)(a1 a2 a3 a4 a5:List UInt8)(b1 b2 b3 b4 b5 b6:Int)(t im ex ad:AV)(A:Option Ent)(T:Hp)(h8:k≠8)(h9:k≠9):Gen Tryz.prog 75 [.str s,.int .i64 3,.eptr 1 0 0] (A :: lno (⟨r,k,a1,a2,a3,a4,a5,b1,b2,b3,b4,b5,b6⟩:Ln) t im ex ad :: T) (.tup []) (A :: lno (⟨r,k,a1,a2,a3,s,a5,b1,b2,b3,b4,b5,b6⟩:Ln) t im ex ad :: T):=by
 refine Tryz.gen75 (by simp) ?_
 unfold Tryz.g75 lno lnA
 simp (disch:=try exact dq) only[↓pvd,pz,sC,List.map,seval,h8,h9]
 exact⟨rfl,rfl⟩
theorem rname8(s:List UInt8)(at':Int)(h0:at'≠0)(r k:Int)(a1 a2 a3 a4 a5:List UInt8)(b1 b2 b3 b4 b5 b6:Int)(t im ex ad:AV)(A:Option Ent)(T:Hp)(hk:k=8∨k=9):Gen Tryz.prog 75 [.str s,.int .i64 at',.eptr 1 0 0] (A :: lno (⟨r,k,a1,a2,a3,a4,a5,b1,b2,b3,b4,b5,b6⟩:Ln) t im ex ad :: T) (.tup []) (A :: lno (⟨r,k,a1,a2,a3,a4,s,b1,b2,b3,b4,b5,b6⟩:Ln) t im ex ad :: T):=by
 refine Tryz.gen75 (by simp) ?_
 unfold Tryz.g75 lno lnA
 rcases hk with rfl | rfl
 all_goals simp (disch:=try exact dq) only[↓pvd,pz,sC,List.map,seval,h0]
 all_goals exact⟨rfl,rfl⟩
theorem rwordN(s:List UInt8)(at':Int)(hs:s.length≤1000)(A:Option Ent)(l l':Ln)(t im ex ad:AV)(T:Hp)(hn:Gen Tryz.prog 75 [.str s,.int .i64 at',.eptr 1 0 0] (A :: lno l t im ex ad :: T) (.tup []) (A :: lno l' t im ex ad :: T)) :
  Gen Tryz.prog 47 [.int .u8 78,.str s,.int .i64 at',.eptr 1 0 0] (A :: lno l t im ex ad :: T) (.int .i64 (if nmO s=true then 0 else 20)) (A :: lno (if nmO s=true then l' else l) t im ex ad :: T):=by
 have q:Run Tryz.prog 74 [.str s] (.bool (nmO s)):=Nm.rname_run s (by omega)
 generalize nmO s=b at *
 refine Tryz.gen47 (by simp) ?_
 unfold Tryz.g47
 refine wZ ?_
 refine aC q rfl rfl ?_
 cases b
 ·refine wZ ?_
  exact⟨rfl,rfl⟩
 ·refine wZ ?_
  refine aH hn ?_
  refine wZ ?_
  exact⟨rfl,rfl⟩
theorem rwordK(s:List UInt8)(at':Int)(A:Option Ent)(L:Option Ent)(T:Hp):Gen Tryz.prog 47 [.int .u8 75,.str s,.int .i64 at',.eptr 1 0 0] (A :: L :: T) (.int .i64 (if s=[97,99,99,101,115,115]∨s=[116,114,117,110,107] then 0 else 20)) (A :: L :: T):=by
 refine Tryz.gen47 (by simp) ?_
 unfold Tryz.g47
 by_cases ha:s=[97,99,99,101,115,115]
 ·have da:=decide_eq_true ha
  rw [if_pos (.inl ha)]
  simp (disch:=try exact dq) only[↓pvd,pz,sC,List.map,seval,da]
  exact⟨rfl,rfl⟩
 ·have da:=decide_eq_false ha
  by_cases hb:s=[116,114,117,110,107]
  ·have db:=decide_eq_true hb
   rw [if_pos (.inr hb)]
   simp (disch:=try exact dq) only[↓pvd,pz,sC,List.map,seval,da,db]
   exact⟨rfl,rfl⟩
  ·have db:=decide_eq_false hb
   rw [if_neg (fun h=>h.elim ha hb)]
   simp (disch:=try exact dq) only[↓pvd,pz,sC,List.map,seval,da,db]
   exact⟨rfl,rfl⟩
theorem rwordP(s:List UInt8)(at':Int)(hs:s.length≤1000)(r k:Int)(a1 a2 a3 a4 a5:List UInt8)(b1 b2 b3 b4 b5 b6:Int)(t im ex ad:AV)(A:Option Ent)(T:Hp):Gen Tryz.prog 47 [.int .u8 80,.str s,.int .i64 at',.eptr 1 0 0] (A :: lno (⟨r,k,a1,a2,a3,a4,a5,b1,b2,b3,b4,b5,b6⟩:Ln) t im ex ad :: T) (.int .i64 (if (Nm.rdF s 0 65535).2=true then 0 else 21)) (A :: lno (⟨r,k,a1,a2,a3,a4,a5,b1,b2,b3,b4,nu s 0 65535,b6⟩:Ln) t im ex ad :: T):=by
 have q:=Nm.rread_run s 0 65535 (by omega)
 unfold Nm.rdR at q
 unfold nu
 generalize (Nm.rdF s 0 65535).1=n at *
 generalize (Nm.rdF s 0 65535).2=ok at *
 refine Tryz.gen47 (by simp) ?_
 unfold Tryz.g47 lno lnA
 refine wZ ?_
 refine aC q rfl rfl ?_
 cases ok
 all_goals simp (disch:=try exact dq) only[↓pvd,pz,sC,List.map,seval,true_and]
 all_goals exact⟨rfl,rfl⟩
theorem rwordC(s:List UInt8)(at':Int)(hs:s.length≤1000)(r k:Int)(a1 a2 a3 a4 a5:List UInt8)(b1 b2 b3 b4 b5 b6:Int)(t im ex ad:AV)(A:Option Ent)(T:Hp):Gen Tryz.prog 47 [.int .u8 67,.str s,.int .i64 at',.eptr 1 0 0] (A :: lno (⟨r,k,a1,a2,a3,a4,a5,b1,b2,b3,b4,b5,b6⟩:Ln) t im ex ad :: T) (.int .i64 (if (Nm.rdF s 1 65535).2=true then 0 else 21)) (A :: lno (⟨r,k,a1,a2,a3,a4,a5,b1,b2,b3,b4,b5,nu s 1 65535⟩:Ln) t im ex ad :: T):=by
 have q:=Nm.rread_run s 1 65535 (by omega)
 unfold Nm.rdR at q
 unfold nu
 generalize (Nm.rdF s 1 65535).1=n at *
 generalize (Nm.rdF s 1 65535).2=ok at *
 refine Tryz.gen47 (by simp) ?_
 unfold Tryz.g47 lno lnA
 refine wZ ?_
 refine aC q rfl rfl ?_
 cases ok
 all_goals simp (disch:=try exact dq) only[↓pvd,pz,sC,List.map,seval,true_and]
 all_goals exact⟨rfl,rfl⟩
theorem rwordV(s:List UInt8)(at':Int)(hs:s.length≤1000)(r k:Int)(a1 a2 a3 a4 a5:List UInt8)(b1 b2 b3 b4 b5 b6:Int)(t im ex ad:AV)(A:Option Ent)(T:Hp):Gen Tryz.prog 47 [.int .u8 86,.str s,.int .i64 at',.eptr 1 0 0] (A :: lno (⟨r,k,a1,a2,a3,a4,a5,b1,b2,b3,b4,b5,b6⟩:Ln) t im ex ad :: T) (.int .i64 (if (Nm.rdF s 1 4094).2=true then 0 else 21)) (A :: lno (⟨r,k,a1,a2,a3,a4,a5,b1,b2,b3,nu s 1 4094,b5,b6⟩:Ln) t im ex ad :: T):=by
 have q:=Nm.rread_run s 1 4094 (by omega)
 unfold Nm.rdR at q
 unfold nu
 generalize (Nm.rdF s 1 4094).1=n at *
 generalize (Nm.rdF s 1 4094).2=ok at *
 refine Tryz.gen47 (by simp) ?_
 unfold Tryz.g47 lno lnA
 refine wZ ?_
 refine aC q rfl rfl ?_
 cases ok
 all_goals simp (disch:=try exact dq) only[↓pvd,pz,sC,List.map,seval,true_and]
 all_goals exact⟨rfl,rfl⟩
theorem rwordI(s:List UInt8)(at':Int)(hs:s.length≤1000)(r k:Int)(a1 a2 a3 a4 a5:List UInt8)(b1 b2 b3 b4 b5 b6:Int)(t im ex ad:AV)(A:Option Ent)(T:Hp):Gen Tryz.prog 47 [.int .u8 73,.str s,.int .i64 at',.eptr 1 0 0] (A :: lno (⟨r,k,a1,a2,a3,a4,a5,b1,b2,b3,b4,b5,b6⟩:Ln) t im ex ad :: T) (.int .i64 (if (Nm.rdF s 1 16777215).2=true then 0 else 21)) (A :: lno (⟨r,k,a1,a2,a3,a4,a5,b1,b2,b3,b4,nu s 1 16777215,b6⟩:Ln) t im ex ad :: T):=by
 have q:=Nm.rread_run s 1 16777215 (by omega)
 unfold Nm.rdR at q
 unfold nu
 generalize (Nm.rdF s 1 16777215).1=n at *
 generalize (Nm.rdF s 1 16777215).2=ok at *
 refine Tryz.gen47 (by simp) ?_
 unfold Tryz.g47 lno lnA
 refine wZ ?_
 refine aC q rfl rfl ?_
 cases ok
 all_goals simp (disch:=try exact dq) only[↓pvd,pz,sC,List.map,seval,true_and]
 all_goals exact⟨rfl,rfl⟩
theorem rwordM(s:List UInt8)(at':Int)(hs:s.length≤1000)(r k:Int)(a1 a2 a3 a4 a5:List UInt8)(b1 b2 b3 b4 b5 b6:Int)(t im ex ad:AV)(A:Option Ent)(T:Hp):Gen Tryz.prog 47 [.int .u8 77,.str s,.int .i64 at',.eptr 1 0 0] (A :: lno (⟨r,k,a1,a2,a3,a4,a5,b1,b2,b3,b4,b5,b6⟩:Ln) t im ex ad :: T) (.int .i64 (if (Mc.rdm s).2=true∧stn (Mc.rdm s).1=true then 0 else 21)) (A :: lno (⟨r,k,a1,a2,a3,a4,a5,(Mc.rdm s).1,b2,b3,b4,b5,b6⟩:Ln) t im ex ad :: T):=by
 have q:=Mc.ref_read_run s (by simp only[maxLen]; omega)
 have hb:=rdm_b s
 have q2:=rstation_run (Mc.rdm s).1 hb.1 hb.2
 generalize (Mc.rdm s).1=n at *
 generalize (Mc.rdm s).2=ok at *
 generalize stn n=st at *
 refine Tryz.gen47 (by simp) ?_
 unfold Tryz.g47 lno lnA
 refine wZ ?_
 refine aC q rfl rfl ?_
 cases ok
 ·refine wZ ?_
  exact⟨rfl,rfl⟩
 ·refine wZ ?_
  refine aC q2 rfl rfl ?_
  cases st
  all_goals simp (disch:=try exact dq) only[↓pvd,pz,sC,List.map,seval,true_and]
  all_goals exact⟨rfl,rfl⟩
def wvO(s:List UInt8):Bool:=(Nm.rdF s 1 4094).2 || decide (s=[45])
theorem rwordW(s:List UInt8)(at':Int)(hs:s.length≤1000)(r k:Int)(a1 a2 a3 a4 a5:List UInt8)(b1 b2 b3 b4 b5 b6:Int)(t im ex ad:AV)(A:Option Ent)(T:Hp):Gen Tryz.prog 47 [.int .u8 87,.str s,.int .i64 at',.eptr 1 0 0] (A :: lno (⟨r,k,a1,a2,a3,a4,a5,b1,b2,b3,b4,b5,b6⟩:Ln) t im ex ad :: T) (.int .i64 (if wvO s=true then 0 else 21)) (A :: lno (⟨r,k,a1,a2,a3,a4,a5,b1,b2,b3,nu s 1 4094,b5,b6⟩:Ln) t im ex ad :: T):=by
 have q:=Nm.rread_run s 1 4094 (by omega)
 unfold Nm.rdR at q
 unfold nu wvO
 generalize (Nm.rdF s 1 4094).1=n at *
 generalize (Nm.rdF s 1 4094).2=ok at *
 refine Tryz.gen47 (by simp) ?_
 unfold Tryz.g47 lno lnA
 by_cases hd:s=[45]
 ·have dd:=decide_eq_true hd
  refine wZ ?_
  refine aC q rfl rfl ?_
  cases ok
  all_goals simp (disch:=try exact dq) only[↓pvd,pz,sC,List.map,seval,dd]
  all_goals exact⟨rfl,rfl⟩
 ·have dd:=decide_eq_false hd
  refine wZ ?_
  refine aC q rfl rfl ?_
  cases ok
  all_goals simp (disch:=try exact dq) only[↓pvd,pz,sC,List.map,seval,dd]
  all_goals exact⟨rfl,rfl⟩
theorem rwordT(s:List UInt8)(at':Int)(hs:s.length≤1000)(r k:Int)(a1 a2 a3 a4 a5:List UInt8)(b1 b2 b3 b4 b5 b6:Int)(t im ex ad:AV)(A:Option Ent)(T:Hp):Gen Tryz.prog 47 [.int .u8 84,.str s,.int .i64 at',.eptr 1 0 0] (A :: lno (⟨r,k,a1,a2,a3,a4,a5,b1,b2,b3,b4,b5,b6⟩:Ln) t im ex ad :: T) (.int .i64 (if lsB s 4094=false then 0 else 21)) (A :: lno (⟨r,k,a1,a2,a3,a4,a5,b1,b2,b3,b4,b5,b6⟩:Ln) (slV (lsV s 4094)) im ex ad :: T):=by
 have q:=rlist_run s 4094 hs
 obtain ⟨n1,f1,h1,-⟩:=slV_is (lsV s 4094)
 rw [h1] at q ⊢
 generalize (lsV s 4094).map (AV.int .i64)=es at *
 generalize lsB s 4094=bad at *
 refine Tryz.gen47 (by simp) ?_
 unfold Tryz.g47 lno lnA
 refine wZ ?_
 refine aC q rfl rfl ?_
 cases bad
 all_goals simp (disch:=try exact dq) only[↓pvd,pz,sC,List.map,seval,true_and]
 all_goals exact⟨rfl,rfl⟩
theorem rwordR(s:List UInt8)(at':Int)(hs:s.length≤1000)(n0:Nat)(e0:List AV)(f0:Bool)(r k:Int)(a1 a2 a3 a4 a5:List UInt8)(b1 b2 b3 b4 b5 b6:Int)(t im ad:AV)(A:Option Ent)(T:Hp):Gen Tryz.prog 47 [.int .u8 82,.str s,.int .i64 at',.eptr 1 0 0] (A :: lno (⟨r,k,a1,a2,a3,a4,a5,b1,b2,b3,b4,b5,b6⟩:Ln) t im (.sl n0 e0 f0) ad :: T) (.int .i64 (if lsB s 65535=false then 0 else 21)) (A :: lno (⟨r,k,a1,a2,a3,a4,a5,b1,b2,b3,b4,b5,b6⟩:Ln) t (.sl n0 e0 f0) (slV (lsV s 65535)) ad :: T):=by
 have q:=rlist_run s 65535 hs
 obtain ⟨n1,f1,h1,-⟩:=slV_is (lsV s 65535)
 rw [h1] at q ⊢
 generalize (lsV s 65535).map (AV.int .i64)=es at *
 generalize lsB s 65535=bad at *
 refine Tryz.gen47 (by simp) ?_
 unfold Tryz.g47 lno lnA
 refine wZ ?_
 refine aC q rfl rfl ?_
 cases bad
 all_goals simp (disch:=try exact dq) only[↓pvd,pz,sC,List.map,seval,true_and]
 all_goals exact⟨rfl,rfl⟩
theorem rs_set_end{α:Type _}(T:List α)(e x:α):(T ++ [e]).set T.length x=T ++ [x]:=by
 rw [List.set_append_right _ _ (Nat.le_refl _)]; simp
theorem rwordA(s:List UInt8)(at':Int)(hs:s.length≤1000)(r k:Int)(a1 a2 a3 a4 a5:List UInt8)(b1 b2 b3 b4 b5 b6:Int)(t im ex ad:AV)(A:Option Ent)(T:Hp):Gen Tryz.prog 47 [.int .u8 65,.str s,.int .i64 at',.eptr 1 0 0] (A :: lno (⟨r,k,a1,a2,a3,a4,a5,b1,b2,b3,b4,b5,b6⟩:Ln) t im ex ad :: T) (.int .i64 (if (rdB s).2=true ∧(rdB s).1≠0 then 0 else 21)) (A :: lno (⟨r,k,a1,a2,a3,a4,a5,b1,(rdB s).1,b3,b4,b5,b6⟩:Ln) t im ex ad :: T):=by
 have q:=ref_read_run s (by omega)
 rw [rdB_eq] at q
 have hb:=rdB_b s
 generalize (rdB s).1=n at *
 generalize (rdB s).2=ok at *
 refine Tryz.gen47 (by simp) ?_
 unfold Tryz.g47 lno lnA
 refine wZ ?_
 refine aC q rfl rfl ?_
 cases ok
 ·refine wZ ?_
  exact⟨rfl,rfl⟩
 ·by_cases h0:n=0
  ·subst h0
   refine wZ ?_
   exact⟨rfl,rfl⟩
  ·have hp:0 < n:=by omega
   rw [if_pos ⟨rfl,h0⟩]
   simp (disch:=try exact dq) only[↓pvd,pz,sC,List.map,seval,hp]
   exact⟨rfl,rfl⟩
theorem rwordL(s:List UInt8)(at':Int)(hs:s.length≤1000)(r k:Int)(a1 a2 a3 a4 a5:List UInt8)(b1 b2 b3 b4 b5 b6:Int)(t im ex ad:AV)(A:Option Ent)(T:Hp):Gen Tryz.prog 47 [.int .u8 76,.str s,.int .i64 at',.eptr 1 0 0] (A :: lno (⟨r,k,a1,a2,a3,a4,a5,b1,b2,b3,b4,b5,b6⟩:Ln) t im ex ad :: T) (.int .i64 (if adG s=true ∧(adV s)[0]!≠0 then 0 else 21)) (A :: lno (⟨r,k,a1,a2,a3,a4,a5,b1,b2,b3,b4,b5,b6⟩:Ln) t im ex (sl32 (adV s)) :: T):=by
 have qa:Run Tryz.prog 81 [.str s] (.tup [sl32 (adV s),.bool (adG s)]):=by
  have q:=run_frz (rrdaddrs_run s hs)
  unfold adV
  by_cases h:adG s=true
  ·rw [rlR_yes h] at q
   rw [if_pos h,h]
   unfold sl32
   rw [if_neg (by simpa using sc_ne s)]
   exact q
  ·have h':adG s=false:=by simpa using h
   rw [rlR_no h] at q
   rw [if_neg h,h',sl32_nil]
   exact q
 have had:adG s=true→0 <(adV s).length:=fun h=>by
  unfold adV
  rw [if_pos h,List.length_map]
  exact List.length_pos_iff.2 (sc_ne _)
 have hab:=adV_b s
 obtain ⟨n1,f1,h1,hn1⟩:=sl32_is (adV s)
 rw [h1] at qa ⊢
 generalize adV s=l at *
 generalize adG s=ok at *
 refine Tryz.gen47 (by simp) ?_
 unfold Tryz.g47 lno lnA
 cases ok
 ·generalize l.map (AV.int .u32)=es at *
  refine wZ ?_
  refine aC qa rfl rfl ?_
  refine wZ ?_
  exact⟨rfl,rfl⟩
 ·have h0:=had rfl
  have hga:(l.map (AV.int .u32))[0]?=some (.int .u32 l[0]!):=mG h0
  have hal:(l.map (AV.int .u32)).length=l.length:=by simp
  have hb0:=hab l[0]! (get_mem h0)
  obtain rfl:n1=1:=hn1.resolve_left (by rintro rfl; simp at h0)
  generalize l.map (AV.int .u32)=es at *
  by_cases hz:l[0]! = 0
  ·rw [if_neg (fun h=>h.2 hz)]
   rw [hz] at hga
   refine wZ ?_
   refine aC qa rfl rfl ?_
   simp (disch:=try exact dq) only[↓pvd,pz,sC,List.map,seval,hga,hal]
   exact⟨rfl,rfl⟩
  ·rw [if_pos ⟨rfl,hz⟩]
   have hp:0 < l[0]!:=by omega
   generalize l[0]! = n at *
   refine wZ ?_
   refine aC qa rfl rfl ?_
   simp (disch:=try exact dq) only[↓pvd,pz,sC,List.map,seval,hga,hal,hp]
   exact⟨rfl,rfl⟩
theorem rwordS(s:List UInt8)(at':Int)(hs:s.length≤1000)(r k:Int)(a1 a2 a3 a4 a5:List UInt8)(b1 b2 b3 b4 b5 b6:Int)(t im ex ad:AV)(A:Option Ent)(T:Hp):Gen Tryz.prog 47 [.int .u8 83,.str s,.int .i64 at',.eptr 1 0 0] (A :: lno (⟨r,k,a1,a2,a3,a4,a5,b1,b2,b3,b4,b5,b6⟩:Ln) t im ex ad :: T) (.int .i64 (if (rpB s).2.2=true∧sbF (rpB s).1 (rpB s).2.1=true then 0 else 21)) (A :: lno (⟨r,k,a1,a2,a3,a4,a5,b1,(rpB s).1,(rpB s).2.1,b4,b5,b6⟩:Ln) t im ex ad :: (T ++ [some ⟨82,[pfx (rpB s).1 (rpB s).2.1],true⟩])):=by
 have q:=ref_rp_run s (by omega)
 rw [rpB_eq] at q
 have q2:=rsubnet_run (rpB s).1 (rpB s).2.1 (rpB_b s)
 generalize (rpB s).1=x at *
 generalize (rpB s).2.1=y at *
 generalize (rpB s).2.2=ok at *
 generalize sbF x y=sb at *
 refine Tryz.gen47 (by simp) ?_
 unfold Tryz.g47 lno lnA
 unfold pfx at *
 simp (disch:=try exact dq) only[↓pvd,pz,sC,List.map,seval,List.getElem?_concat_length,rs_set_end]
 refine aC q rfl rfl ?_
 cases ok
 ·simp (disch:=try exact dq) only[↓pvd,pz,sC,List.map,seval,List.getElem?_concat_length,rs_set_end]
  exact⟨rfl,rfl⟩
 ·simp (disch:=try exact dq) only[↓pvd,pz,sC,List.map,seval,List.getElem?_concat_length,rs_set_end]
  refine aC q2 rfl rfl ?_
  cases sb
  all_goals simp (disch:=try exact dq) only[↓pvd,pz,sC,List.map,seval,List.getElem?_concat_length,rs_set_end]
  all_goals exact⟨rfl,rfl⟩
end Go.Proofs
namespace Go.Proofs
open Go.Pv
theorem rkdF_lit(w:List UInt8):(kdF w=1→w=[100,101,118,105,99,101]) ∧(kdF w=2→w=[112,111,114,116]) ∧(kdF w=3→w=[108,105,110,107]) ∧(kdF w=4→w=[115,116,97,116,105,99]) ∧(kdF w=5→w=[118,116,101,112]) ∧(kdF w=6→w=[118,110,105]) ∧(kdF w=7→w=[102,108,111,111,100]) ∧(kdF w=8→w=[118,114,102]) ∧(kdF w=9→w=[105,114,98]):=by
 unfold kdF
 refine⟨?_,?_,?_,?_,?_,?_,?_,?_,?_⟩
 all_goals
  intro h
  repeat' split at h
  all_goals first
   | assumption
   | exact absurd h (by decide)
theorem fl_nz{e c:Int}{b:Bool}(h:e≠0):fl e b c=e:=if_neg (fun x=>h x.2)
theorem fl_t{e c:Int}:fl e false c=e:=if_neg (fun x=>by cases x.1)
theorem fl_f{c:Int}:fl 0 true c=c:=if_pos ⟨rfl,rfl⟩
theorem eN_nz(w:List UInt8){e:Int}(h:e≠0):eN w e=e:=fl_nz h
theorem eN_t(w:List UInt8){e:Int}(h:nmO w=true):eN w e=e:=by
 by_cases he:e=0
 ·rw [he,eN_z]; exact⟨rfl,h⟩
 ·exact eN_nz w he
theorem eN_f(w:List UInt8)(h:¬(nmO w=true)):eN w 0=20:=by
 have h1:eN w 0≠0:=fun e=>h (eN_z.1 e).2
 unfold eN fl at h1 ⊢
 split at h1
 ·rename_i h2; rw [if_pos h2]
 ·exact absurd rfl h1
theorem eU_nz(w:List UInt8)(a b:Int){e:Int}(h:e≠0):eU w a b e=e:=fl_nz h
theorem eU_t(w:List UInt8)(a b:Int){e:Int}(h:(Nm.rdF w a b).2=true):eU w a b e=e:=by
 by_cases he:e=0
 ·rw [he,eU_z]; exact⟨rfl,h⟩
 ·exact eU_nz w a b he
theorem eU_f(w:List UInt8)(a b:Int)(h:¬((Nm.rdF w a b).2=true)):eU w a b 0=21:=by
 have h1:eU w a b 0≠0:=fun e=>h (eU_z.1 e).2
 unfold eU fl at h1 ⊢
 split at h1
 ·rename_i h2; rw [if_pos h2]
 ·exact absurd rfl h1
theorem eM_nz(w:List UInt8){e:Int}(h:e≠0):eM w e=e:=fl_nz h
theorem eM_t(w:List UInt8){e:Int}(h:(Mc.rdm w).2=true∧stn (Mc.rdm w).1=true):eM w e=e:=by
 by_cases he:e=0
 ·rw [he,eM_z]; exact⟨rfl,h⟩
 ·exact eM_nz w he
theorem eM_f(w:List UInt8)(h:¬((Mc.rdm w).2=true∧stn (Mc.rdm w).1=true)):eM w 0=21:=by
 have h1:eM w 0≠0:=fun e=>h (eM_z.1 e).2
 unfold eM fl at h1 ⊢
 split at h1
 ·rename_i h2; rw [if_pos h2]
 ·exact absurd rfl h1
theorem eL_nz(w:List UInt8)(b:Int){e:Int}(h:e≠0):eL w b e=e:=fl_nz h
theorem eL_t(w:List UInt8)(b:Int){e:Int}(h:lsB w b=false):eL w b e=e:=by
 by_cases he:e=0
 ·rw [he,eL_z]; exact⟨rfl,h⟩
 ·exact eL_nz w b he
theorem eL_f(w:List UInt8)(b:Int)(h:¬(lsB w b=false)):eL w b 0=21:=by
 have h1:eL w b 0≠0:=fun e=>h (eL_z.1 e).2
 unfold eL fl at h1 ⊢
 split at h1
 ·rename_i h2; rw [if_pos h2]
 ·exact absurd rfl h1
theorem eA_nz(w:List UInt8){e:Int}(h:e≠0):eA w e=e:=fl_nz h
theorem eA_t(w:List UInt8){e:Int}(h:(rdB w).2=true ∧(rdB w).1≠0):eA w e=e:=by
 by_cases he:e=0
 ·rw [he,eA_z]; exact⟨rfl,h⟩
 ·exact eA_nz w he
theorem eA_f(w:List UInt8)(h:¬((rdB w).2=true ∧(rdB w).1≠0)):eA w 0=21:=by
 have h1:eA w 0≠0:=fun e=>h (eA_z.1 e).2
 unfold eA fl at h1 ⊢
 split at h1
 ·rename_i h2; rw [if_pos h2]
 ·exact absurd rfl h1
theorem eD_nz(w:List UInt8){e:Int}(h:e≠0):eD w e=e:=fl_nz h
theorem eD_t(w:List UInt8){e:Int}(h:adG w=true ∧(adV w)[0]!≠0):eD w e=e:=by
 by_cases he:e=0
 ·rw [he,eD_z]; exact⟨rfl,h⟩
 ·exact eD_nz w he
theorem eD_f(w:List UInt8)(h:¬(adG w=true ∧(adV w)[0]!≠0)):eD w 0=21:=by
 have h1:eD w 0≠0:=fun e=>h (eD_z.1 e).2
 unfold eD fl at h1 ⊢
 split at h1
 ·rename_i h2; rw [if_pos h2]
 ·exact absurd rfl h1
theorem eS_nz(w:List UInt8){e:Int}(h:e≠0):eS w e=e:=fl_nz h
theorem eS_t(w:List UInt8){e:Int}(h:(rpB w).2.2=true∧sbF (rpB w).1 (rpB w).2.1=true):eS w e=e:=by
 by_cases he:e=0
 ·rw [he,eS_z]; exact⟨rfl,h⟩
 ·exact eS_nz w he
theorem eS_f(w:List UInt8)(h:¬((rpB w).2.2=true∧sbF (rpB w).1 (rpB w).2.1=true)):eS w 0=21:=by
 have h1:eS w 0≠0:=fun e=>h (eS_z.1 e).2
 unfold eS fl at h1 ⊢
 split at h1
 ·rename_i h2; rw [if_pos h2]
 ·exact absurd rfl h1
theorem eK_nz(w:List UInt8){e:Int}(h:e≠0):eK w e=e:=fl_nz h
theorem eK_t(w:List UInt8){e:Int}(h:w=[97,99,99,101,115,115]∨w=[116,114,117,110,107]):eK w e=e:=by
 by_cases he:e=0
 ·rw [he,eK_z]; exact⟨rfl,h⟩
 ·exact eK_nz w he
theorem eK_f(w:List UInt8)(h:¬(w=[97,99,99,101,115,115]∨w=[116,114,117,110,107])):eK w 0=20:=by
 have h1:eK w 0≠0:=fun e=>h (eK_z.1 e).2
 unfold eK fl at h1 ⊢
 split at h1
 ·rename_i h2; rw [if_pos h2]
 ·exact absurd rfl h1
theorem pkE_nz{ws:List (List UInt8)}{k:Nat}{e:Int}(h:e≠0):pkE ws k e=e:=by
 unfold pkE
 simp only
 have h1:∀ x:Int,x=e→fl x (!mbF (pkV ws k) (pkT ws k)) 21=e:=fun x hx=>by rw [hx,fl_nz h]
 apply h1
 split
 ·exact fl_nz h
 ·split
  ·split
   ·exact fl_nz h
   ·rw [fl_nz h,fl_nz h]
  ·rfl
theorem rmembers_run(l:Ln)(tg:List Int)(n:Nat)(f:Bool)(im ex ad:List AV)(a b c:Nat)(p q r:Bool)(hn:tg=[]∨n=1)(hl:tg.length≤100000) :
  Run Tryz.prog 48 [lnA l (.sl n (tg.map (.int .i64)) f) (.sl a im p) (.sl b ex q) (.sl c ad r)] (.bool (mbF l.vlan tg)):=by
 refine Tryz.run48 (by simp) ?_
 unfold Tryz.c48 lnA
 obtain ⟨lr,lk,a1,a2,a3,a4,a5,b1,b2,b3,b4,b5,b6⟩:=l
 have htl:(tg.map (AV.int .i64)).length=tg.length:=by simp
 refine wZ ?_
 refine aw_loop (fun k:Nat=>⟨[(1,.eptr 0 0 0),(3,.int .i64 k)],[some ⟨39,[.agg [.int .i64 lr,.int .i64 lk,.str a1,.str a2,.str a3,.str a4,.str a5,.int .u64 b1,.int .u32 b2,.int .i64 b3,.int .i64 b4,.int .i64 b5,.int .i64 b6,.sl n (tg.map (.int .i64)) f,.sl a im p,.sl b ex q,.sl c ad r]],true⟩]⟩) (fun k=>k≤tg.length∧∀ j < k,tg[j]!≠b4) (fun k=>tg.length - k) 0 ?_ ⟨by omega,by simp⟩ ?_
 ·refine wZ ?_
  try first|rfl|trivial
 rintro k ⟨hk,hp⟩
 unfold Tryz.c48b0
 by_cases hx:k < tg.length
 ·obtain rfl:n=1:=hn.resolve_left (by rintro rfl; simp at hx)
  have hgi:(tg.map (AV.int .i64))[k]?=some (.int .i64 tg[k]!):=mG hx
  by_cases h:tg[k]! = b4
  ·have hm:mbF b4 tg=false:=by
    unfold mbF
    rw [decide_eq_true (show b4∈tg from h ▸ get_mem hx)]
    simp
   rw [hm]
   simp (disch:=try exact dq) only[↓pvd,pz,sC,List.map,seval,hgi,htl,h]
   exact eZ
  ·have h':¬ tg[k]! = b4:=h
   simp (disch:=try exact dq) only[↓pvd,pz,sC,List.map,seval,hgi,htl,h']
   refine⟨k+1,rfl,⟨hx,fun j hj=>?_⟩,by omega⟩
   by_cases e:j=k
   ·rw [e]; exact h
   ·exact hp j (by omega)
 ·obtain rfl:k=tg.length:=by omega
  have hno:¬ b4∈tg:=fun h=>by
   obtain ⟨j,hj,e⟩:=List.mem_iff_getElem.1 h
   have:=hp j hj
   rw [getElem!_pos tg j hj] at this
   exact this e
  have hm:mbF b4 tg=decide (0 < b4∨0 < tg.length):=by
   unfold mbF
   rw [decide_eq_false hno]
   simp
  rw [hm]
  generalize tg.map (AV.int .i64)=es at *
  by_cases h1:0 < b4
  ·rw [decide_eq_true (.inl h1)]
   simp (disch:=try exact dq) only[↓pvd,pz,sC,List.map,seval,htl,h1]
   exact eZ
  ·by_cases h2:0 < tg.length
   ·rw [decide_eq_true (.inr h2)]
    simp (disch:=try exact dq) only[↓pvd,pz,sC,List.map,seval,htl,h1,h2]
    exact eZ
   ·rw [decide_eq_false (fun h=>h.elim h1 h2)]
    simp (disch:=try exact dq) only[↓pvd,pz,sC,List.map,seval,htl,h1,h2]
    exact eZ
theorem rform1(ws:List (List UInt8))(f:Bool)(hk:kdF ws[0]! = 1)(hn:0 < ws.length)(hl:ws.length≤100000):Run Tryz.prog 45 [.sl 1 (ws.map .str) f] (.str [78,80,77]):=by
 have h0:=(rkdF_lit ws[0]!).1 hk
 have hg0:(ws.map AV.str)[0]?=some (.str ws[0]!):=mG hn
 rw [h0] at hg0
 have hlm:(ws.map AV.str).length=ws.length:=by simp
 generalize ws.map AV.str=row at *
 refine Tryz.run45 (by simp) ?_
 unfold Tryz.c45
 simp (disch:=try exact dq) only[↓pvd,pz,sC,List.map,seval,hlm,hg0,ne_1_2,ne_1_3,ne_1_4,ne_1_5,ne_1_6,ne_1_7,ne_1_8,ne_1_9]
 exact eZ
theorem rform3(ws:List (List UInt8))(f:Bool)(hk:kdF ws[0]! = 3)(hn:0 < ws.length)(hl:ws.length≤100000):Run Tryz.prog 45 [.sl 1 (ws.map .str) f] (.str [78,78,78,78]):=by
 have h0:=(rkdF_lit ws[0]!).2.2.1 hk
 have hg0:(ws.map AV.str)[0]?=some (.str ws[0]!):=mG hn
 rw [h0] at hg0
 have hlm:(ws.map AV.str).length=ws.length:=by simp
 generalize ws.map AV.str=row at *
 refine Tryz.run45 (by simp) ?_
 unfold Tryz.c45
 simp (disch:=try exact dq) only[↓pvd,pz,sC,List.map,seval,hlm,hg0,ne_3_1,ne_3_2,ne_3_4,ne_3_5,ne_3_6,ne_3_7,ne_3_8,ne_3_9]
 exact eZ
theorem rform4(ws:List (List UInt8))(f:Bool)(hk:kdF ws[0]! = 4)(hn:0 < ws.length)(hl:ws.length≤100000):Run Tryz.prog 45 [.sl 1 (ws.map .str) f] (.str [78,86,77,78]):=by
 have h0:=(rkdF_lit ws[0]!).2.2.2.1 hk
 have hg0:(ws.map AV.str)[0]?=some (.str ws[0]!):=mG hn
 rw [h0] at hg0
 have hlm:(ws.map AV.str).length=ws.length:=by simp
 generalize ws.map AV.str=row at *
 refine Tryz.run45 (by simp) ?_
 unfold Tryz.c45
 simp (disch:=try exact dq) only[↓pvd,pz,sC,List.map,seval,hlm,hg0,ne_4_1,ne_4_2,ne_4_3,ne_4_5,ne_4_6,ne_4_7,ne_4_8,ne_4_9]
 exact eZ
theorem rform5(ws:List (List UInt8))(f:Bool)(hk:kdF ws[0]! = 5)(hn:0 < ws.length)(hl:ws.length≤100000):Run Tryz.prog 45 [.sl 1 (ws.map .str) f] (.str [78,65]):=by
 have h0:=(rkdF_lit ws[0]!).2.2.2.2.1 hk
 have hg0:(ws.map AV.str)[0]?=some (.str ws[0]!):=mG hn
 rw [h0] at hg0
 have hlm:(ws.map AV.str).length=ws.length:=by simp
 generalize ws.map AV.str=row at *
 refine Tryz.run45 (by simp) ?_
 unfold Tryz.c45
 simp (disch:=try exact dq) only[↓pvd,pz,sC,List.map,seval,hlm,hg0,ne_5_1,ne_5_2,ne_5_3,ne_5_4,ne_5_6,ne_5_7,ne_5_8,ne_5_9]
 exact eZ
theorem rform6(ws:List (List UInt8))(f:Bool)(hk:kdF ws[0]! = 6)(hn:0 < ws.length)(hl:ws.length≤100000):Run Tryz.prog 45 [.sl 1 (ws.map .str) f] (.str [78,86,73]):=by
 have h0:=(rkdF_lit ws[0]!).2.2.2.2.2.1 hk
 have hg0:(ws.map AV.str)[0]?=some (.str ws[0]!):=mG hn
 rw [h0] at hg0
 have hlm:(ws.map AV.str).length=ws.length:=by simp
 generalize ws.map AV.str=row at *
 refine Tryz.run45 (by simp) ?_
 unfold Tryz.c45
 simp (disch:=try exact dq) only[↓pvd,pz,sC,List.map,seval,hlm,hg0,ne_6_1,ne_6_2,ne_6_3,ne_6_4,ne_6_5,ne_6_7,ne_6_8,ne_6_9]
 exact eZ
theorem rform7(ws:List (List UInt8))(f:Bool)(hk:kdF ws[0]! = 7)(hn:0 < ws.length)(hl:ws.length≤100000):Run Tryz.prog 45 [.sl 1 (ws.map .str) f] (.str [78,73,76]):=by
 have h0:=(rkdF_lit ws[0]!).2.2.2.2.2.2.1 hk
 have hg0:(ws.map AV.str)[0]?=some (.str ws[0]!):=mG hn
 rw [h0] at hg0
 have hlm:(ws.map AV.str).length=ws.length:=by simp
 generalize ws.map AV.str=row at *
 refine Tryz.run45 (by simp) ?_
 unfold Tryz.c45
 simp (disch:=try exact dq) only[↓pvd,pz,sC,List.map,seval,hlm,hg0,ne_7_1,ne_7_2,ne_7_3,ne_7_4,ne_7_5,ne_7_6,ne_7_8,ne_7_9]
 exact eZ
theorem rform8(ws:List (List UInt8))(f:Bool)(hk:kdF ws[0]! = 8)(hn:0 < ws.length)(hl:ws.length≤100000):Run Tryz.prog 45 [.sl 1 (ws.map .str) f] (.str [78,78,82,82]):=by
 have h0:=(rkdF_lit ws[0]!).2.2.2.2.2.2.2.1 hk
 have hg0:(ws.map AV.str)[0]?=some (.str ws[0]!):=mG hn
 rw [h0] at hg0
 have hlm:(ws.map AV.str).length=ws.length:=by simp
 generalize ws.map AV.str=row at *
 refine Tryz.run45 (by simp) ?_
 unfold Tryz.c45
 simp (disch:=try exact dq) only[↓pvd,pz,sC,List.map,seval,hlm,hg0,ne_8_1,ne_8_2,ne_8_3,ne_8_4,ne_8_5,ne_8_6,ne_8_7,ne_8_9]
 exact eZ
theorem rform9(ws:List (List UInt8))(f:Bool)(hk:kdF ws[0]! = 9)(hn:0 < ws.length)(hl:ws.length≤100000):Run Tryz.prog 45 [.sl 1 (ws.map .str) f] (.str [78,86,78,83]):=by
 have h0:=(rkdF_lit ws[0]!).2.2.2.2.2.2.2.2 hk
 have hg0:(ws.map AV.str)[0]?=some (.str ws[0]!):=mG hn
 rw [h0] at hg0
 have hlm:(ws.map AV.str).length=ws.length:=by simp
 generalize ws.map AV.str=row at *
 refine Tryz.run45 (by simp) ?_
 unfold Tryz.c45
 simp (disch:=try exact dq) only[↓pvd,pz,sC,List.map,seval,hlm,hg0,ne_9_1,ne_9_2,ne_9_3,ne_9_4,ne_9_5,ne_9_6,ne_9_7,ne_9_8]
 exact eZ
theorem rform2(ws:List (List UInt8))(f:Bool)(hk:kdF ws[0]! = 2)(hn:0 < ws.length)(hl:ws.length≤100000):Run Tryz.prog 45 [.sl 1 (ws.map .str) f] (.str (if ws.length=7∧ws[4]!≠[97,99,99,101,115,115] then [78,78,67,75,87,84] else if ws.length=6∧ws[4]!≠[116,114,117,110,107] then [78,78,67,75,86] else [])):=by
 have h0:=(rkdF_lit ws[0]!).2.1 hk
 have hg0:(ws.map AV.str)[0]?=some (.str ws[0]!):=mG hn
 rw [h0] at hg0
 have hg4:4 < ws.length →(ws.map AV.str)[4]?=some (.str ws[4]!):=fun h=>mG h
 have hlm:(ws.map AV.str).length=ws.length:=by simp
 generalize ws.map AV.str=row at *
 generalize ws[4]! = w at *
 refine Tryz.run45 (by simp) ?_
 unfold Tryz.c45
 by_cases h7:ws.length=7
 ·have hg:=hg4 (by omega)
  have h7':(ws.length:Int)=7:=by omega
  by_cases ha:w=[97,99,99,101,115,115]
  ·have da:=decide_eq_true ha
   rw [if_neg (fun h=>h.2 ha),if_neg (fun h=>by omega)]
   simp (disch:=try exact dq) only[↓pvd,pz,sC,List.map,seval,ne_2_1,ne_2_3,ne_2_4,ne_2_5,ne_2_6,ne_2_7,ne_2_8,ne_2_9,hlm,hg0,hg,h7',da]
   exact eZ
  ·have da:=decide_eq_false ha
   rw [if_pos ⟨h7,ha⟩]
   simp (disch:=try exact dq) only[↓pvd,pz,sC,List.map,seval,ne_2_1,ne_2_3,ne_2_4,ne_2_5,ne_2_6,ne_2_7,ne_2_8,ne_2_9,hlm,hg0,hg,h7',da]
   exact eZ
 ·have h7':¬(ws.length:Int)=7:=by omega
  rw [if_neg (fun h=>h7 h.1)]
  by_cases h6:ws.length=6
  ·have hg:=hg4 (by omega)
   have h6':(ws.length:Int)=6:=by omega
   by_cases ha:w=[116,114,117,110,107]
   ·have da:=decide_eq_true ha
    rw [if_neg (fun h=>h.2 ha)]
    simp (disch:=try exact dq) only[↓pvd,pz,sC,List.map,seval,ne_2_1,ne_2_3,ne_2_4,ne_2_5,ne_2_6,ne_2_7,ne_2_8,ne_2_9,hlm,hg0,hg,h7',h6',da]
    exact eZ
   ·have da:=decide_eq_false ha
    rw [if_pos ⟨h6,ha⟩]
    simp (disch:=try exact dq) only[↓pvd,pz,sC,List.map,seval,ne_2_1,ne_2_3,ne_2_4,ne_2_5,ne_2_6,ne_2_7,ne_2_8,ne_2_9,hlm,hg0,hg,h7',h6',da]
    exact eZ
  ·have h6':¬(ws.length:Int)=6:=by omega
   rw [if_neg (fun h=>h6 h.1)]
   simp (disch:=try exact dq) only[↓pvd,pz,sC,List.map,seval,ne_2_1,ne_2_3,ne_2_4,ne_2_5,ne_2_6,ne_2_7,ne_2_8,ne_2_9,hlm,hg0,h7',h6']
   exact eZ
theorem rform0(ws:List (List UInt8))(f:Bool)(hk:ws=[]∨kdF ws[0]! = 0)(hl:ws.length≤100000):Run Tryz.prog 45 [.sl 1 (ws.map .str) f] (.str []):=by
 refine Tryz.run45 (by simp) ?_
 unfold Tryz.c45
 by_cases hn:ws=[]
 ·subst hn
  simp (disch:=try exact dq) only[↓pvd,pz,sC,List.map,seval,List.map_nil]
  exact eZ
 have hp:=List.length_pos_iff.2 hn
 have h0:=hk.resolve_left hn
 have hg0:(ws.map AV.str)[0]?=some (.str ws[0]!):=mG hp
 have hlm:(ws.map AV.str).length=ws.length:=by simp
 generalize ws.map AV.str=row at *
 generalize ws[0]! = w at *
 unfold kdF at h0
 by_cases k0:w=[100,101,118,105,99,101]
 ·rw [if_pos k0] at h0; exact absurd h0 (by decide)
 by_cases k1:w=[112,111,114,116]
 ·rw [if_neg k0,if_pos k1] at h0; exact absurd h0 (by decide)
 by_cases k2:w=[108,105,110,107]
 ·rw [if_neg k0,if_neg k1,if_pos k2] at h0; exact absurd h0 (by decide)
 by_cases k3:w=[115,116,97,116,105,99]
 ·rw [if_neg k0,if_neg k1,if_neg k2,if_pos k3] at h0; exact absurd h0 (by decide)
 by_cases k4:w=[118,116,101,112]
 ·rw [if_neg k0,if_neg k1,if_neg k2,if_neg k3,if_pos k4] at h0; exact absurd h0 (by decide)
 by_cases k5:w=[118,110,105]
 ·rw [if_neg k0,if_neg k1,if_neg k2,if_neg k3,if_neg k4,if_pos k5] at h0; exact absurd h0 (by decide)
 by_cases k6:w=[102,108,111,111,100]
 ·rw [if_neg k0,if_neg k1,if_neg k2,if_neg k3,if_neg k4,if_neg k5,if_pos k6] at h0; exact absurd h0 (by decide)
 by_cases k7:w=[118,114,102]
 ·rw [if_neg k0,if_neg k1,if_neg k2,if_neg k3,if_neg k4,if_neg k5,if_neg k6,if_pos k7] at h0; exact absurd h0 (by decide)
 by_cases k8:w=[105,114,98]
 ·rw [if_neg k0,if_neg k1,if_neg k2,if_neg k3,if_neg k4,if_neg k5,if_neg k6,if_neg k7,if_pos k8] at h0; exact absurd h0 (by decide)
 have d0:=decide_eq_false k0
 have d1:=decide_eq_false k1
 have d2:=decide_eq_false k2
 have d3:=decide_eq_false k3
 have d4:=decide_eq_false k4
 have d5:=decide_eq_false k5
 have d6:=decide_eq_false k6
 have d7:=decide_eq_false k7
 have d8:=decide_eq_false k8
 simp (disch:=try exact dq) only[↓pvd,pz,sC,List.map,seval,hlm,hg0,d0,d1,d2,d3,d4,d5,d6,d7,d8]
 exact eZ
end Go.Proofs
