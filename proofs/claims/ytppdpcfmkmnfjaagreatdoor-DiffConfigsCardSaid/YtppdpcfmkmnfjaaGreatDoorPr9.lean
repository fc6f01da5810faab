/- The proofs of what the functions of this seat do. -/
import Derived.Test.YtppdpcfmkmnfjaaGreatDoorPr8
set_option linter.unusedSimpArgs false
set_option linter.unusedVariables false
set_option maxHeartbeats 2000000
set_option maxRecDepth 20000
set_option maxHeartbeats 16000000
namespace Go.Proofs
open Go.Pv
def us1(x:LnF):LnF:=⟨⟨x.l.row,x.l.kind,x.l.dev,[],[],[],[],x.l.mac,0,0,0,x.l.num,0⟩,[],[],[],[]⟩
def ok1(x:LnF):Bool:=(decide (0≤x.l.num∧x.l.num≤65535)) && (stn x.l.mac)
def us2(x:LnF):LnF:=⟨⟨x.l.row,x.l.kind,x.l.dev,x.l.port,[],[],[],0,0,0,x.l.vlan,0,x.l.cost⟩,x.t,[],[],[]⟩
def ok2(x:LnF):Bool:=(nmO x.l.port) && (decide (1≤x.l.cost∧x.l.cost≤65535)) && (decide (0≤x.l.vlan∧x.l.vlan≤4094)) && (liO x.t 4094) && (mbF x.l.vlan x.t)
def us3(x:LnF):LnF:=⟨⟨x.l.row,x.l.kind,x.l.dev,x.l.port,x.l.peer,x.l.far,[],0,0,0,0,0,0⟩,[],[],[],[]⟩
def ok3(x:LnF):Bool:=(nmO x.l.port) && (nmO x.l.peer) && (nmO x.l.far)
def us4(x:LnF):LnF:=⟨⟨x.l.row,x.l.kind,x.l.dev,x.l.port,[],[],[],x.l.mac,0,0,x.l.vlan,0,0⟩,[],[],[],[]⟩
def ok4(x:LnF):Bool:=(decide (1≤x.l.vlan∧x.l.vlan≤4094)) && (stn x.l.mac) && (nmO x.l.port)
def us5(x:LnF):LnF:=⟨⟨x.l.row,x.l.kind,x.l.dev,[],[],[],[],0,x.l.addr,0,0,0,0⟩,[],[],[],[]⟩
def ok5(x:LnF):Bool:=(!decide (x.l.addr=0))
def us6(x:LnF):LnF:=⟨⟨x.l.row,x.l.kind,x.l.dev,[],[],[],[],0,0,0,x.l.vlan,x.l.num,0⟩,[],[],[],[]⟩
def ok6(x:LnF):Bool:=(decide (1≤x.l.vlan∧x.l.vlan≤4094)) && (decide (1≤x.l.num∧x.l.num≤16777215))
def us7(x:LnF):LnF:=⟨⟨x.l.row,x.l.kind,x.l.dev,[],[],[],[],0,0,0,0,x.l.num,0⟩,[],[],[],x.ad⟩
def ok7(x:LnF):Bool:=(decide (1≤x.l.num∧x.l.num≤16777215)) && (adO x.ad)
def us8(x:LnF):LnF:=⟨⟨x.l.row,x.l.kind,x.l.dev,[],[],[],x.l.name,0,0,0,0,0,0⟩,[],x.im,x.ex,[]⟩
def ok8(x:LnF):Bool:=(nmO x.l.name) && (liO x.im 65535) && (liO x.ex 65535)
def us9(x:LnF):LnF:=⟨⟨x.l.row,x.l.kind,x.l.dev,[],[],[],x.l.name,0,x.l.addr,x.l.bits,x.l.vlan,0,0⟩,[],[],[],[]⟩
def ok9(x:LnF):Bool:=(decide (1≤x.l.vlan∧x.l.vlan≤4094)) && (nmO x.l.name) && (sbF x.l.addr x.l.bits)
def us0(x:LnF):LnF:=⟨⟨x.l.row,x.l.kind,x.l.dev,[],[],[],[],0,0,0,0,0,0⟩,[],[],[],[]⟩
def usF(x:LnF):LnF:=if x.l.kind=1 then us1 x else if x.l.kind=2 then us2 x else if x.l.kind=3 then us3 x else if x.l.kind=4 then us4 x else if x.l.kind=5 then us5 x else if x.l.kind=6 then us6 x else if x.l.kind=7 then us7 x else if x.l.kind=8 then us8 x else if x.l.kind=9 then us9 x else us0 x
def okF(x:LnF):Bool:=if x.l.kind=1 then ok1 x else if x.l.kind=2 then ok2 x else if x.l.kind=3 then ok3 x else if x.l.kind=4 then ok4 x else if x.l.kind=5 then ok5 x else if x.l.kind=6 then ok6 x else if x.l.kind=7 then ok7 x else if x.l.kind=8 then ok8 x else if x.l.kind=9 then ok9 x else false
theorem used1(r:Int)(a1 a2 a3 a4 a5:List UInt8)(b1 b2 b3 b4 b5 b6:Int)(n1 n2 n3 n4:Nat)(s1 s2 s3 s4:List AV)(f1 f2 f3 f4:Bool)(d1 d2:Bool)(q1:Run Tryz.prog 94 [.int .i64 b5,.int .i64 0,.int .i64 65535] (.bool d1))(q2:Run Tryz.prog 66 [.int .u64 b1] (.bool d2)) :
  Run Tryz.prog 62 [lnA ⟨r,1,a1,a2,a3,a4,a5,b1,b2,b3,b4,b5,b6⟩ (.sl n1 s1 f1) (.sl n2 s2 f2) (.sl n3 s3 f3) (.sl n4 s4 f4)] (.tup [lnA ⟨r,1,a1,[],[],[],[],b1,0,0,0,b5,0⟩ (.sl 0 [] true) (.sl 0 [] true) (.sl 0 [] true) (.sl 0 [] true),.bool (d1 && d2)]):=by
 obtain ⟨B,hB⟩:∃ B,(d1 && d2)=B:=⟨_,rfl⟩
 rw [hB]
 refine Tryz.run62 (by simp) ?_
 unfold Tryz.c62
 unfold lnA
 with_reducible refine wZ ?_
 refine aD q1 rfl rfl (fun _=>rfl) ?_
 cases d1
 case false =>
  obtain rfl:B=false:=hB.symm
  with_reducible refine wZ ?_
  with_reducible exact xZ
 with_reducible refine wZ ?_
 refine aD q2 rfl rfl (fun _=>rfl) ?_
 cases d2
 case false =>
  obtain rfl:B=false:=hB.symm
  with_reducible refine wZ ?_
  with_reducible exact xZ
 obtain rfl:B=true:=hB.symm
 with_reducible refine wZ ?_
 with_reducible exact xZ
theorem used2(r:Int)(a1 a2 a3 a4 a5:List UInt8)(b1 b2 b3 b4 b5 b6:Int)(n1 n2 n3 n4:Nat)(s1 s2 s3 s4:List AV)(f1 f2 f3 f4:Bool)(d1 d2 d3 d4 d5:Bool)(q1:Run Tryz.prog 63 [.str a2] (.bool d1))(q2:Run Tryz.prog 94 [.int .i64 b6,.int .i64 1,.int .i64 65535] (.bool d2))(q3:Run Tryz.prog 94 [.int .i64 b4,.int .i64 0,.int .i64 4094] (.bool d3))(q4:Run Tryz.prog 95 [.sl n1 s1 f1,.int .i64 4094] (.bool d4))(q5:Run Tryz.prog 67 [lnA ⟨r,2,a1,a2,a3,a4,a5,b1,b2,b3,b4,b5,b6⟩ (.sl n1 s1 f1) (.sl n2 s2 f2) (.sl n3 s3 f3) (.sl n4 s4 f4)] (.bool d5)) :
  Run Tryz.prog 62 [lnA ⟨r,2,a1,a2,a3,a4,a5,b1,b2,b3,b4,b5,b6⟩ (.sl n1 s1 f1) (.sl n2 s2 f2) (.sl n3 s3 f3) (.sl n4 s4 f4)] (.tup [lnA ⟨r,2,a1,a2,[],[],[],0,0,0,b4,0,b6⟩ (.sl n1 s1 f1) (.sl 0 [] true) (.sl 0 [] true) (.sl 0 [] true),.bool (d1 && d2 && d3 && d4 && d5)]):=by
 obtain ⟨B,hB⟩:∃ B,(d1 && d2 && d3 && d4 && d5)=B:=⟨_,rfl⟩
 rw [hB]
 refine Tryz.run62 (by simp) ?_
 unfold Tryz.c62
 unfold lnA
 with_reducible refine wZ ?_
 refine aD q1 rfl rfl (fun _=>rfl) ?_
 cases d1
 case false =>
  obtain rfl:B=false:=hB.symm
  with_reducible refine wZ ?_
  with_reducible exact xZ
 with_reducible refine wZ ?_
 refine aD q2 rfl rfl (fun _=>rfl) ?_
 cases d2
 case false =>
  obtain rfl:B=false:=hB.symm
  with_reducible refine wZ ?_
  with_reducible exact xZ
 with_reducible refine wZ ?_
 refine aD q3 rfl rfl (fun _=>rfl) ?_
 cases d3
 case false =>
  obtain rfl:B=false:=hB.symm
  with_reducible refine wZ ?_
  with_reducible exact xZ
 with_reducible refine wZ ?_
 refine aD q4 rfl rfl (fun _=>rfl) ?_
 cases d4
 case false =>
  obtain rfl:B=false:=hB.symm
  with_reducible refine wZ ?_
  with_reducible exact xZ
 with_reducible refine wZ ?_
 refine aD q5 rfl rfl (fun _=>rfl) ?_
 cases d5
 case false =>
  obtain rfl:B=false:=hB.symm
  with_reducible refine wZ ?_
  with_reducible exact xZ
 obtain rfl:B=true:=hB.symm
 with_reducible refine wZ ?_
 with_reducible exact xZ
theorem used3(r:Int)(a1 a2 a3 a4 a5:List UInt8)(b1 b2 b3 b4 b5 b6:Int)(n1 n2 n3 n4:Nat)(s1 s2 s3 s4:List AV)(f1 f2 f3 f4:Bool)(d1 d2 d3:Bool)(q1:Run Tryz.prog 63 [.str a2] (.bool d1))(q2:Run Tryz.prog 63 [.str a3] (.bool d2))(q3:Run Tryz.prog 63 [.str a4] (.bool d3)) :
  Run Tryz.prog 62 [lnA ⟨r,3,a1,a2,a3,a4,a5,b1,b2,b3,b4,b5,b6⟩ (.sl n1 s1 f1) (.sl n2 s2 f2) (.sl n3 s3 f3) (.sl n4 s4 f4)] (.tup [lnA ⟨r,3,a1,a2,a3,a4,[],0,0,0,0,0,0⟩ (.sl 0 [] true) (.sl 0 [] true) (.sl 0 [] true) (.sl 0 [] true),.bool (d1 && d2 && d3)]):=by
 obtain ⟨B,hB⟩:∃ B,(d1 && d2 && d3)=B:=⟨_,rfl⟩
 rw [hB]
 refine Tryz.run62 (by simp) ?_
 unfold Tryz.c62
 unfold lnA
 with_reducible refine wZ ?_
 refine aD q1 rfl rfl (fun _=>rfl) ?_
 cases d1
 case false =>
  obtain rfl:B=false:=hB.symm
  with_reducible refine wZ ?_
  with_reducible exact xZ
 with_reducible refine wZ ?_
 refine aD q2 rfl rfl (fun _=>rfl) ?_
 cases d2
 case false =>
  obtain rfl:B=false:=hB.symm
  with_reducible refine wZ ?_
  with_reducible exact xZ
 with_reducible refine wZ ?_
 refine aD q3 rfl rfl (fun _=>rfl) ?_
 cases d3
 case false =>
  obtain rfl:B=false:=hB.symm
  with_reducible refine wZ ?_
  with_reducible exact xZ
 obtain rfl:B=true:=hB.symm
 with_reducible refine wZ ?_
 with_reducible exact xZ
theorem used4(r:Int)(a1 a2 a3 a4 a5:List UInt8)(b1 b2 b3 b4 b5 b6:Int)(n1 n2 n3 n4:Nat)(s1 s2 s3 s4:List AV)(f1 f2 f3 f4:Bool)(d1 d2 d3:Bool)(q1:Run Tryz.prog 94 [.int .i64 b4,.int .i64 1,.int .i64 4094] (.bool d1))(q2:Run Tryz.prog 66 [.int .u64 b1] (.bool d2))(q3:Run Tryz.prog 63 [.str a2] (.bool d3)) :
  Run Tryz.prog 62 [lnA ⟨r,4,a1,a2,a3,a4,a5,b1,b2,b3,b4,b5,b6⟩ (.sl n1 s1 f1) (.sl n2 s2 f2) (.sl n3 s3 f3) (.sl n4 s4 f4)] (.tup [lnA ⟨r,4,a1,a2,[],[],[],b1,0,0,b4,0,0⟩ (.sl 0 [] true) (.sl 0 [] true) (.sl 0 [] true) (.sl 0 [] true),.bool (d1 && d2 && d3)]):=by
 obtain ⟨B,hB⟩:∃ B,(d1 && d2 && d3)=B:=⟨_,rfl⟩
 rw [hB]
 refine Tryz.run62 (by simp) ?_
 unfold Tryz.c62
 unfold lnA
 with_reducible refine wZ ?_
 refine aD q1 rfl rfl (fun _=>rfl) ?_
 cases d1
 case false =>
  obtain rfl:B=false:=hB.symm
  with_reducible refine wZ ?_
  with_reducible exact xZ
 with_reducible refine wZ ?_
 refine aD q2 rfl rfl (fun _=>rfl) ?_
 cases d2
 case false =>
  obtain rfl:B=false:=hB.symm
  with_reducible refine wZ ?_
  with_reducible exact xZ
 with_reducible refine wZ ?_
 refine aD q3 rfl rfl (fun _=>rfl) ?_
 cases d3
 case false =>
  obtain rfl:B=false:=hB.symm
  with_reducible refine wZ ?_
  with_reducible exact xZ
 obtain rfl:B=true:=hB.symm
 with_reducible refine wZ ?_
 with_reducible exact xZ
theorem used5(r:Int)(a1 a2 a3 a4 a5:List UInt8)(b1 b2 b3 b4 b5 b6:Int)(n1 n2 n3 n4:Nat)(s1 s2 s3 s4:List AV)(f1 f2 f3 f4:Bool) :
  Run Tryz.prog 62 [lnA ⟨r,5,a1,a2,a3,a4,a5,b1,b2,b3,b4,b5,b6⟩ (.sl n1 s1 f1) (.sl n2 s2 f2) (.sl n3 s3 f3) (.sl n4 s4 f4)] (.tup [lnA ⟨r,5,a1,[],[],[],[],0,b2,0,0,0,0⟩ (.sl 0 [] true) (.sl 0 [] true) (.sl 0 [] true) (.sl 0 [] true),.bool (!decide (b2=0))]):=by
 obtain ⟨B,hB⟩:∃ B,(!decide (b2=0))=B:=⟨_,rfl⟩
 rw [hB]
 refine Tryz.run62 (by simp) ?_
 unfold Tryz.c62
 unfold lnA
 with_reducible refine wZ ?_
 by_cases h:b2=0
 ·obtain rfl:B=false:=by rw [← hB,decide_eq_true h]; rfl
  simp (disch:=try exact dq) only[↓pvd,pz,sC,List.map,seval,h]
  with_reducible exact xZ
 ·obtain rfl:B=true:=by rw [← hB,decide_eq_false h]; rfl
  simp (disch:=try exact dq) only[↓pvd,pz,sC,List.map,seval,h]
  with_reducible exact xZ
theorem used6(r:Int)(a1 a2 a3 a4 a5:List UInt8)(b1 b2 b3 b4 b5 b6:Int)(n1 n2 n3 n4:Nat)(s1 s2 s3 s4:List AV)(f1 f2 f3 f4:Bool)(d1 d2:Bool)(q1:Run Tryz.prog 94 [.int .i64 b4,.int .i64 1,.int .i64 4094] (.bool d1))(q2:Run Tryz.prog 94 [.int .i64 b5,.int .i64 1,.int .i64 16777215] (.bool d2)) :
  Run Tryz.prog 62 [lnA ⟨r,6,a1,a2,a3,a4,a5,b1,b2,b3,b4,b5,b6⟩ (.sl n1 s1 f1) (.sl n2 s2 f2) (.sl n3 s3 f3) (.sl n4 s4 f4)] (.tup [lnA ⟨r,6,a1,[],[],[],[],0,0,0,b4,b5,0⟩ (.sl 0 [] true) (.sl 0 [] true) (.sl 0 [] true) (.sl 0 [] true),.bool (d1 && d2)]):=by
 obtain ⟨B,hB⟩:∃ B,(d1 && d2)=B:=⟨_,rfl⟩
 rw [hB]
 refine Tryz.run62 (by simp) ?_
 unfold Tryz.c62
 unfold lnA
 with_reducible refine wZ ?_
 refine aD q1 rfl rfl (fun _=>rfl) ?_
 cases d1
 case false =>
  obtain rfl:B=false:=hB.symm
  with_reducible refine wZ ?_
  with_reducible exact xZ
 with_reducible refine wZ ?_
 refine aD q2 rfl rfl (fun _=>rfl) ?_
 cases d2
 case false =>
  obtain rfl:B=false:=hB.symm
  with_reducible refine wZ ?_
  with_reducible exact xZ
 obtain rfl:B=true:=hB.symm
 with_reducible refine wZ ?_
 with_reducible exact xZ
theorem used7(r:Int)(a1 a2 a3 a4 a5:List UInt8)(b1 b2 b3 b4 b5 b6:Int)(n1 n2 n3 n4:Nat)(s1 s2 s3 s4:List AV)(f1 f2 f3 f4:Bool)(d1 d2:Bool)(q1:Run Tryz.prog 94 [.int .i64 b5,.int .i64 1,.int .i64 16777215] (.bool d1))(q2:Run Tryz.prog 96 [.sl n4 s4 f4] (.bool d2)) :
  Run Tryz.prog 62 [lnA ⟨r,7,a1,a2,a3,a4,a5,b1,b2,b3,b4,b5,b6⟩ (.sl n1 s1 f1) (.sl n2 s2 f2) (.sl n3 s3 f3) (.sl n4 s4 f4)] (.tup [lnA ⟨r,7,a1,[],[],[],[],0,0,0,0,b5,0⟩ (.sl 0 [] true) (.sl 0 [] true) (.sl 0 [] true) (.sl n4 s4 f4),.bool (d1 && d2)]):=by
 obtain ⟨B,hB⟩:∃ B,(d1 && d2)=B:=⟨_,rfl⟩
 rw [hB]
 refine Tryz.run62 (by simp) ?_
 unfold Tryz.c62
 unfold lnA
 with_reducible refine wZ ?_
 refine aD q1 rfl rfl (fun _=>rfl) ?_
 cases d1
 case false =>
  obtain rfl:B=false:=hB.symm
  with_reducible refine wZ ?_
  with_reducible exact xZ
 with_reducible refine wZ ?_
 refine aD q2 rfl rfl (fun _=>rfl) ?_
 cases d2
 case false =>
  obtain rfl:B=false:=hB.symm
  with_reducible refine wZ ?_
  with_reducible exact xZ
 obtain rfl:B=true:=hB.symm
 with_reducible refine wZ ?_
 with_reducible exact xZ
theorem used8(r:Int)(a1 a2 a3 a4 a5:List UInt8)(b1 b2 b3 b4 b5 b6:Int)(n1 n2 n3 n4:Nat)(s1 s2 s3 s4:List AV)(f1 f2 f3 f4:Bool)(d1 d2 d3:Bool)(q1:Run Tryz.prog 63 [.str a5] (.bool d1))(q2:Run Tryz.prog 95 [.sl n2 s2 f2,.int .i64 65535] (.bool d2))(q3:Run Tryz.prog 95 [.sl n3 s3 f3,.int .i64 65535] (.bool d3)) :
  Run Tryz.prog 62 [lnA ⟨r,8,a1,a2,a3,a4,a5,b1,b2,b3,b4,b5,b6⟩ (.sl n1 s1 f1) (.sl n2 s2 f2) (.sl n3 s3 f3) (.sl n4 s4 f4)] (.tup [lnA ⟨r,8,a1,[],[],[],a5,0,0,0,0,0,0⟩ (.sl 0 [] true) (.sl n2 s2 f2) (.sl n3 s3 f3) (.sl 0 [] true),.bool (d1 && d2 && d3)]):=by
 obtain ⟨B,hB⟩:∃ B,(d1 && d2 && d3)=B:=⟨_,rfl⟩
 rw [hB]
 refine Tryz.run62 (by simp) ?_
 unfold Tryz.c62
 unfold lnA
 with_reducible refine wZ ?_
 refine aD q1 rfl rfl (fun _=>rfl) ?_
 cases d1
 case false =>
  obtain rfl:B=false:=hB.symm
  with_reducible refine wZ ?_
  with_reducible exact xZ
 with_reducible refine wZ ?_
 refine aD q2 rfl rfl (fun _=>rfl) ?_
 cases d2
 case false =>
  obtain rfl:B=false:=hB.symm
  with_reducible refine wZ ?_
  with_reducible exact xZ
 with_reducible refine wZ ?_
 refine aD q3 rfl rfl (fun _=>rfl) ?_
 cases d3
 case false =>
  obtain rfl:B=false:=hB.symm
  with_reducible refine wZ ?_
  with_reducible exact xZ
 obtain rfl:B=true:=hB.symm
 with_reducible refine wZ ?_
 with_reducible exact xZ
theorem used9(r:Int)(a1 a2 a3 a4 a5:List UInt8)(b1 b2 b3 b4 b5 b6:Int)(n1 n2 n3 n4:Nat)(s1 s2 s3 s4:List AV)(f1 f2 f3 f4:Bool)(d1 d2 d3:Bool)(q1:Run Tryz.prog 94 [.int .i64 b4,.int .i64 1,.int .i64 4094] (.bool d1))(q2:Run Tryz.prog 63 [.str a5] (.bool d2))(q3:Run Tryz.prog 44 [pfx b2 b3] (.bool d3)) :
  Run Tryz.prog 62 [lnA ⟨r,9,a1,a2,a3,a4,a5,b1,b2,b3,b4,b5,b6⟩ (.sl n1 s1 f1) (.sl n2 s2 f2) (.sl n3 s3 f3) (.sl n4 s4 f4)] (.tup [lnA ⟨r,9,a1,[],[],[],a5,0,b2,b3,b4,0,0⟩ (.sl 0 [] true) (.sl 0 [] true) (.sl 0 [] true) (.sl 0 [] true),.bool (d1 && d2 && d3)]):=by
 obtain ⟨B,hB⟩:∃ B,(d1 && d2 && d3)=B:=⟨_,rfl⟩
 rw [hB]
 refine Tryz.run62 (by simp) ?_
 unfold Tryz.c62
 unfold lnA
 with_reducible refine wZ ?_
 refine aD q1 rfl rfl (fun _=>rfl) ?_
 cases d1
 case false =>
  obtain rfl:B=false:=hB.symm
  with_reducible refine wZ ?_
  with_reducible exact xZ
 with_reducible refine wZ ?_
 refine aD q2 rfl rfl (fun _=>rfl) ?_
 cases d2
 case false =>
  obtain rfl:B=false:=hB.symm
  with_reducible refine wZ ?_
  with_reducible exact xZ
 with_reducible refine wZ ?_
 refine aD q3 rfl rfl (fun _=>rfl) ?_
 cases d3
 case false =>
  obtain rfl:B=false:=hB.symm
  with_reducible refine wZ ?_
  with_reducible exact xZ
 obtain rfl:B=true:=hB.symm
 with_reducible refine wZ ?_
 with_reducible exact xZ
theorem used0(r k:Int)(a1 a2 a3 a4 a5:List UInt8)(b1 b2 b3 b4 b5 b6:Int)(n1 n2 n3 n4:Nat)(s1 s2 s3 s4:List AV)(f1 f2 f3 f4:Bool)(h1:k≠1)(h2:k≠2)(h3:k≠3)(h4:k≠4)(h5:k≠5)(h6:k≠6)(h7:k≠7)(h8:k≠8)(h9:k≠9) :
  Run Tryz.prog 62 [lnA ⟨r,k,a1,a2,a3,a4,a5,b1,b2,b3,b4,b5,b6⟩ (.sl n1 s1 f1) (.sl n2 s2 f2) (.sl n3 s3 f3) (.sl n4 s4 f4)] (.tup [lnA ⟨r,k,a1,[],[],[],[],0,0,0,0,0,0⟩ (.sl 0 [] true) (.sl 0 [] true) (.sl 0 [] true) (.sl 0 [] true),.bool false]):=by
 refine Tryz.run62 (by simp) ?_
 unfold Tryz.c62
 unfold lnA
 simp (disch:=try exact dq) only[↓pvd,pz,sC,List.map,seval,h1,h2,h3,h4,h5,h6,h7,h8,h9]
 with_reducible exact xZ
def lnB(x:LnF):Prop:=(x.l.dev.length≤1000∧x.l.port.length≤1000∧x.l.peer.length≤1000∧x.l.far.length≤1000∧x.l.name.length≤1000∧x.t.length≤1000∧x.im.length≤1000∧x.ex.length≤1000∧x.ad.length≤1000) ∧
 (0≤x.l.mac∧x.l.mac < 18446744073709551616∧0≤x.l.addr∧x.l.addr≤4294967295)∧∀ a∈x.ad,0≤a∧a≤4294967295
theorem used_run{v:AV}{x:LnF}(hv:isLn v x)(hB:lnB x):∃ u,isLn u (usF x)∧Run Tryz.prog 62 [v] (.tup [u,.bool (okF x)]):=by
 obtain ⟨n1,f1,n2,f2,n3,f3,n4,f4,rfl,c1,c2,c3,c4⟩:=hv
 obtain ⟨hs,hb,hd⟩:=hB
 by_cases k1:x.l.kind=1
 ·have e1:usF x=us1 x:=by unfold usF; rw [if_pos k1]
  have e2:okF x=ok1 x:=by unfold okF; rw [if_pos k1]
  rw [e1,e2]
  have q1:=within_run x.l.num 0 65535
  have q2:=station_run x.l.mac (by have:=hb; omega) (by have:=hb; omega)
  unfold us1 ok1
  obtain ⟨⟨r,k,a1,a2,a3,a4,a5,b1,b2,b3,b4,b5,b6⟩,t,im,ex,ad⟩:=x
  simp only at k1 c1 c2 c3 c4 q1 q2
  obtain rfl:=k1
  refine⟨lnA ⟨r,1,a1,[],[],[],[],b1,0,0,0,b5,0⟩ (.sl 0 [] true) (.sl 0 [] true) (.sl 0 [] true) (.sl 0 [] true),⟨0,true,0,true,0,true,0,true,rfl,.inl rfl,.inl rfl,.inl rfl,.inl rfl⟩,?_⟩
  exact used1 r a1 a2 a3 a4 a5 b1 b2 b3 b4 b5 b6 n1 n2 n3 n4 _ _ _ _ f1 f2 f3 f4 _ _ q1 q2
 by_cases k2:x.l.kind=2
 ·have e1:usF x=us2 x:=by unfold usF; rw [if_neg k1,if_pos k2]
  have e2:okF x=ok2 x:=by unfold okF; rw [if_neg k1,if_pos k2]
  rw [e1,e2]
  have q1:=Nm.name_run x.l.port (by have:=hs; omega)
  have q2:=within_run x.l.cost 1 65535
  have q3:=within_run x.l.vlan 0 4094
  have q4:=slist_run x.t n1 f1 4094 c1 (by have:=hs; omega)
  have q5:=members_run x.l x.t n1 f1 (x.im.map (.int .i64)) (x.ex.map (.int .i64)) (x.ad.map (.int .u32)) n2 n3 n4 f2 f3 f4 c1 (by have:=hs; omega)
  unfold us2 ok2
  obtain ⟨⟨r,k,a1,a2,a3,a4,a5,b1,b2,b3,b4,b5,b6⟩,t,im,ex,ad⟩:=x
  simp only at k2 c1 c2 c3 c4 q1 q2 q3 q4 q5
  obtain rfl:=k2
  refine⟨lnA ⟨r,2,a1,a2,[],[],[],0,0,0,b4,0,b6⟩ (.sl n1 (t.map (.int .i64)) f1) (.sl 0 [] true) (.sl 0 [] true) (.sl 0 [] true),⟨n1,f1,0,true,0,true,0,true,rfl,c1,.inl rfl,.inl rfl,.inl rfl⟩,?_⟩
  exact used2 r a1 a2 a3 a4 a5 b1 b2 b3 b4 b5 b6 n1 n2 n3 n4 _ _ _ _ f1 f2 f3 f4 _ _ _ _ _ q1 q2 q3 q4 q5
 by_cases k3:x.l.kind=3
 ·have e1:usF x=us3 x:=by unfold usF; rw [if_neg k1,if_neg k2,if_pos k3]
  have e2:okF x=ok3 x:=by unfold okF; rw [if_neg k1,if_neg k2,if_pos k3]
  rw [e1,e2]
  have q1:=Nm.name_run x.l.port (by have:=hs; omega)
  have q2:=Nm.name_run x.l.peer (by have:=hs; omega)
  have q3:=Nm.name_run x.l.far (by have:=hs; omega)
  unfold us3 ok3
  obtain ⟨⟨r,k,a1,a2,a3,a4,a5,b1,b2,b3,b4,b5,b6⟩,t,im,ex,ad⟩:=x
  simp only at k3 c1 c2 c3 c4 q1 q2 q3
  obtain rfl:=k3
  refine⟨lnA ⟨r,3,a1,a2,a3,a4,[],0,0,0,0,0,0⟩ (.sl 0 [] true) (.sl 0 [] true) (.sl 0 [] true) (.sl 0 [] true),⟨0,true,0,true,0,true,0,true,rfl,.inl rfl,.inl rfl,.inl rfl,.inl rfl⟩,?_⟩
  exact used3 r a1 a2 a3 a4 a5 b1 b2 b3 b4 b5 b6 n1 n2 n3 n4 _ _ _ _ f1 f2 f3 f4 _ _ _ q1 q2 q3
 by_cases k4:x.l.kind=4
 ·have e1:usF x=us4 x:=by unfold usF; rw [if_neg k1,if_neg k2,if_neg k3,if_pos k4]
  have e2:okF x=ok4 x:=by unfold okF; rw [if_neg k1,if_neg k2,if_neg k3,if_pos k4]
  rw [e1,e2]
  have q1:=within_run x.l.vlan 1 4094
  have q2:=station_run x.l.mac (by have:=hb; omega) (by have:=hb; omega)
  have q3:=Nm.name_run x.l.port (by have:=hs; omega)
  unfold us4 ok4
  obtain ⟨⟨r,k,a1,a2,a3,a4,a5,b1,b2,b3,b4,b5,b6⟩,t,im,ex,ad⟩:=x
  simp only at k4 c1 c2 c3 c4 q1 q2 q3
  obtain rfl:=k4
  refine⟨lnA ⟨r,4,a1,a2,[],[],[],b1,0,0,b4,0,0⟩ (.sl 0 [] true) (.sl 0 [] true) (.sl 0 [] true) (.sl 0 [] true),⟨0,true,0,true,0,true,0,true,rfl,.inl rfl,.inl rfl,.inl rfl,.inl rfl⟩,?_⟩
  exact used4 r a1 a2 a3 a4 a5 b1 b2 b3 b4 b5 b6 n1 n2 n3 n4 _ _ _ _ f1 f2 f3 f4 _ _ _ q1 q2 q3
 by_cases k5:x.l.kind=5
 ·have e1:usF x=us5 x:=by unfold usF; rw [if_neg k1,if_neg k2,if_neg k3,if_neg k4,if_pos k5]
  have e2:okF x=ok5 x:=by unfold okF; rw [if_neg k1,if_neg k2,if_neg k3,if_neg k4,if_pos k5]
  rw [e1,e2]
  unfold us5 ok5
  obtain ⟨⟨r,k,a1,a2,a3,a4,a5,b1,b2,b3,b4,b5,b6⟩,t,im,ex,ad⟩:=x
  simp only at k5 c1 c2 c3 c4 
  obtain rfl:=k5
  refine⟨lnA ⟨r,5,a1,[],[],[],[],0,b2,0,0,0,0⟩ (.sl 0 [] true) (.sl 0 [] true) (.sl 0 [] true) (.sl 0 [] true),⟨0,true,0,true,0,true,0,true,rfl,.inl rfl,.inl rfl,.inl rfl,.inl rfl⟩,?_⟩
  exact used5 r a1 a2 a3 a4 a5 b1 b2 b3 b4 b5 b6 n1 n2 n3 n4 _ _ _ _ f1 f2 f3 f4
 by_cases k6:x.l.kind=6
 ·have e1:usF x=us6 x:=by unfold usF; rw [if_neg k1,if_neg k2,if_neg k3,if_neg k4,if_neg k5,if_pos k6]
  have e2:okF x=ok6 x:=by unfold okF; rw [if_neg k1,if_neg k2,if_neg k3,if_neg k4,if_neg k5,if_pos k6]
  rw [e1,e2]
  have q1:=within_run x.l.vlan 1 4094
  have q2:=within_run x.l.num 1 16777215
  unfold us6 ok6
  obtain ⟨⟨r,k,a1,a2,a3,a4,a5,b1,b2,b3,b4,b5,b6⟩,t,im,ex,ad⟩:=x
  simp only at k6 c1 c2 c3 c4 q1 q2
  obtain rfl:=k6
  refine⟨lnA ⟨r,6,a1,[],[],[],[],0,0,0,b4,b5,0⟩ (.sl 0 [] true) (.sl 0 [] true) (.sl 0 [] true) (.sl 0 [] true),⟨0,true,0,true,0,true,0,true,rfl,.inl rfl,.inl rfl,.inl rfl,.inl rfl⟩,?_⟩
  exact used6 r a1 a2 a3 a4 a5 b1 b2 b3 b4 b5 b6 n1 n2 n3 n4 _ _ _ _ f1 f2 f3 f4 _ _ q1 q2
 by_cases k7:x.l.kind=7
 ·have e1:usF x=us7 x:=by unfold usF; rw [if_neg k1,if_neg k2,if_neg k3,if_neg k4,if_neg k5,if_neg k6,if_pos k7]
  have e2:okF x=ok7 x:=by unfold okF; rw [if_neg k1,if_neg k2,if_neg k3,if_neg k4,if_neg k5,if_neg k6,if_pos k7]
  rw [e1,e2]
  have q1:=within_run x.l.num 1 16777215
  have q2:=saddrs_run x.ad n4 f4 c4 (by have:=hs; omega) hd
  unfold us7 ok7
  obtain ⟨⟨r,k,a1,a2,a3,a4,a5,b1,b2,b3,b4,b5,b6⟩,t,im,ex,ad⟩:=x
  simp only at k7 c1 c2 c3 c4 q1 q2
  obtain rfl:=k7
  refine⟨lnA ⟨r,7,a1,[],[],[],[],0,0,0,0,b5,0⟩ (.sl 0 [] true) (.sl 0 [] true) (.sl 0 [] true) (.sl n4 (ad.map (.int .u32)) f4),⟨0,true,0,true,0,true,n4,f4,rfl,.inl rfl,.inl rfl,.inl rfl,c4⟩,?_⟩
  exact used7 r a1 a2 a3 a4 a5 b1 b2 b3 b4 b5 b6 n1 n2 n3 n4 _ _ _ _ f1 f2 f3 f4 _ _ q1 q2
 by_cases k8:x.l.kind=8
 ·have e1:usF x=us8 x:=by unfold usF; rw [if_neg k1,if_neg k2,if_neg k3,if_neg k4,if_neg k5,if_neg k6,if_neg k7,if_pos k8]
  have e2:okF x=ok8 x:=by unfold okF; rw [if_neg k1,if_neg k2,if_neg k3,if_neg k4,if_neg k5,if_neg k6,if_neg k7,if_pos k8]
  rw [e1,e2]
  have q1:=Nm.name_run x.l.name (by have:=hs; omega)
  have q2:=slist_run x.im n2 f2 65535 c2 (by have:=hs; omega)
  have q3:=slist_run x.ex n3 f3 65535 c3 (by have:=hs; omega)
  unfold us8 ok8
  obtain ⟨⟨r,k,a1,a2,a3,a4,a5,b1,b2,b3,b4,b5,b6⟩,t,im,ex,ad⟩:=x
  simp only at k8 c1 c2 c3 c4 q1 q2 q3
  obtain rfl:=k8
  refine⟨lnA ⟨r,8,a1,[],[],[],a5,0,0,0,0,0,0⟩ (.sl 0 [] true) (.sl n2 (im.map (.int .i64)) f2) (.sl n3 (ex.map (.int .i64)) f3) (.sl 0 [] true),⟨0,true,n2,f2,n3,f3,0,true,rfl,.inl rfl,c2,c3,.inl rfl⟩,?_⟩
  exact used8 r a1 a2 a3 a4 a5 b1 b2 b3 b4 b5 b6 n1 n2 n3 n4 _ _ _ _ f1 f2 f3 f4 _ _ _ q1 q2 q3
 by_cases k9:x.l.kind=9
 ·have e1:usF x=us9 x:=by unfold usF; rw [if_neg k1,if_neg k2,if_neg k3,if_neg k4,if_neg k5,if_neg k6,if_neg k7,if_neg k8,if_pos k9]
  have e2:okF x=ok9 x:=by unfold okF; rw [if_neg k1,if_neg k2,if_neg k3,if_neg k4,if_neg k5,if_neg k6,if_neg k7,if_neg k8,if_pos k9]
  rw [e1,e2]
  have q1:=within_run x.l.vlan 1 4094
  have q2:=Nm.name_run x.l.name (by have:=hs; omega)
  have q3:=subnet_run x.l.addr x.l.bits (by have:=hb; omega)
  unfold us9 ok9
  obtain ⟨⟨r,k,a1,a2,a3,a4,a5,b1,b2,b3,b4,b5,b6⟩,t,im,ex,ad⟩:=x
  simp only at k9 c1 c2 c3 c4 q1 q2 q3
  obtain rfl:=k9
  refine⟨lnA ⟨r,9,a1,[],[],[],a5,0,b2,b3,b4,0,0⟩ (.sl 0 [] true) (.sl 0 [] true) (.sl 0 [] true) (.sl 0 [] true),⟨0,true,0,true,0,true,0,true,rfl,.inl rfl,.inl rfl,.inl rfl,.inl rfl⟩,?_⟩
  exact used9 r a1 a2 a3 a4 a5 b1 b2 b3 b4 b5 b6 n1 n2 n3 n4 _ _ _ _ f1 f2 f3 f4 _ _ _ q1 q2 q3
 have e1:usF x=us0 x:=by unfold usF; rw [if_neg k1,if_neg k2,if_neg k3,if_neg k4,if_neg k5,if_neg k6,if_neg k7,if_neg k8,if_neg k9]
 have e2:okF x=false:=by unfold okF; rw [if_neg k1,if_neg k2,if_neg k3,if_neg k4,if_neg k5,if_neg k6,if_neg k7,if_neg k8,if_neg k9]
 rw [e1,e2]
 refine⟨lnA (us0 x).l (.sl 0 [] true) (.sl 0 [] true) (.sl 0 [] true) (.sl 0 [] true),⟨0,true,0,true,0,true,0,true,rfl,.inl rfl,.inl rfl,.inl rfl,.inl rfl⟩,?_⟩
 exact used0 x.l.row x.l.kind x.l.dev x.l.port x.l.peer x.l.far x.l.name x.l.mac x.l.addr x.l.bits x.l.vlan x.l.num x.l.cost n1 n2 n3 n4 _ _ _ _ f1 f2 f3 f4 k1 k2 k3 k4 k5 k6 k7 k8 k9
def rtO(x:LnF):Bool:=okF x && nmO x.l.dev && decide (usF x=x)
theorem usF_S(x:LnF)(h:lnB x):lnS (usF x):=by
 obtain ⟨hs,-,-⟩:=h
 unfold usF
 repeat' split
 all_goals
  simp only[lnS,us0,us1,us2,us3,us4,us5,us6,us7,us8,us9,List.length_nil]
  omega
theorem right_runS{v:AV}{x:LnF}(hv:isLn v x)(hB:lnB x):Run Tryz.prog 29 [v] (.bool (rtO x)):=by
 obtain ⟨u,hu,q1⟩:=used_run hv hB
 have q2:Run Tryz.prog 63 [.str x.l.dev] (.bool (nmO x.l.dev)):=Nm.name_run x.l.dev (by have:=hB.1; omega)
 have q3:=ssame_run hu hv (usF_S x hB) (by have:=hB.1; exact⟨by omega,by omega,by omega,by omega⟩)
 obtain ⟨B,hBB⟩:∃ B,rtO x=B:=⟨_,rfl⟩
 rw [hBB]
 unfold rtO at hBB
 obtain ⟨n1,f1,n2,f2,n3,f3,n4,f4,rfl,c1,c2,c3,c4⟩:=hv
 obtain ⟨m1,g1,m2,g2,m3,g3,m4,g4,rfl,d1,d2,d3,d4⟩:=hu
 generalize decide (usF x=x)=b3 at *
 generalize nmO x.l.dev=b2 at *
 generalize okF x=b1 at *
 clear c1 c2 c3 c4 d1 d2 d3 d4 hB
 generalize x.t.map (AV.int .i64)=s1 at *
 generalize x.im.map (AV.int .i64)=s2 at *
 generalize x.ex.map (AV.int .i64)=s3 at *
 generalize x.ad.map (AV.int .u32)=s4 at *
 generalize (usF x).t.map (AV.int .i64)=s1' at *
 generalize (usF x).im.map (AV.int .i64)=s2' at *
 generalize (usF x).ex.map (AV.int .i64)=s3' at *
 generalize (usF x).ad.map (AV.int .u32)=s4' at *
 generalize (usF x).l=lu at *
 generalize x.l=lx at *
 refine Tryz.run29 (by simp) ?_
 unfold Tryz.c29
 unfold lnA at q1 q3 ⊢
 refine wZ ?_
 refine aC q1 rfl rfl ?_
 cases b1
 case false =>
  obtain rfl:B=false:=hBB.symm
  refine wZ ?_
  exact eZ
 refine wZ ?_
 refine aC q2 rfl rfl ?_
 cases b2
 case false =>
  obtain rfl:B=false:=hBB.symm
  refine wZ ?_
  exact eZ
 refine wZ ?_
 refine aC q3 rfl rfl ?_
 obtain rfl:b3=B:=hBB
 refine wZ ?_
 exact eZ
end Go.Proofs
namespace Go.Proofs
open Go.Pv
theorem rdG_range'{s ds:List UInt8}{neg:Bool}{a b:Int}(h:(Nm.rdG s ds neg a b).2=true):a ≤(Nm.rdG s ds neg a b).1 ∧(Nm.rdG s ds neg a b).1≤b:=by
 unfold Nm.rdG at *
 split at h
 ·cases h
 rw [if_neg (by assumption)]
 split at h
 ·cases h
 rw [if_neg (by assumption)]
 generalize (if neg then -Nm.vF ds ds.length else Nm.vF ds ds.length)=n at *
 simp only at *
 split at h
 ·cases h
 split at h
 ·cases h
 split at h
 ·cases h
 rw [if_neg (by assumption),if_neg (by assumption),if_neg (by assumption)]
 simp only
 omega
theorem rdF_range{a b:Int}{p:List UInt8}(h:(Nm.rdF p a b).2=true):a ≤(Nm.rdF p a b).1 ∧(Nm.rdF p a b).1≤b:=by
 unfold Nm.rdF at *
 split at h
 ·rw [if_pos (by assumption)]; exact rdG_range' h
 ·rw [if_neg (by assumption)]; exact rdG_range' h
theorem rl_rs'{g:List UInt8→Int × Bool}{a b:Int}{ps:List (List UInt8)}(hne:ps≠[])(h:rlF g ps=true)(hr:∀ p∈ps,a ≤(g p).1 ∧(g p).1≤b):rsF (ps.map fun p=>(g p).1) a b=true:=by
 obtain ⟨h1,h2,h3⟩:=rlF_iff.1 h
 have h4:((ps.map fun p=>(g p).1).all fun n=>decide (a≤n∧n≤b))=true:=by
  rw [List.all_eq_true]
  intro n hn
  obtain ⟨p,hp,rfl⟩:=List.mem_map.1 hn
  exact decide_eq_true (hr p hp)
 have h5:=List.length_pos_iff.2 hne
 unfold rsF
 rw [h4,h3,List.length_map,decide_eq_true ⟨h5,h2⟩]
 rfl
theorem fl_z{e c:Int}{b:Bool}(hc:c≠0):fl e b c=0↔e=0∧b=false:=by
 unfold fl
 split
 ·rename_i h
  exact⟨fun h'=>absurd h' hc,fun h'=>by rw [h.1] at h'; cases h'.2⟩
 ·rename_i h
  refine⟨fun h'=>⟨h',?_⟩,fun h'=>h'.1⟩
  cases b with
  | false=>rfl
  | true=>exact absurd ⟨rfl,h'⟩ h
theorem eN_z{w:List UInt8}{e:Int}:eN w e=0↔e=0∧nmO w=true:=by unfold eN; rw [fl_z (by decide)]; simp
theorem eU_z{w:List UInt8}{a b e:Int}:eU w a b e=0↔e=0 ∧(Nm.rdF w a b).2=true:=by unfold eU; rw [fl_z (by decide)]; simp
theorem eM_z{w:List UInt8}{e:Int}:eM w e=0↔e=0 ∧((Mc.rdm w).2=true∧stn (Mc.rdm w).1=true):=by unfold eM; rw [fl_z (by decide)]; simp
theorem eL_z{w:List UInt8}{b e:Int}:eL w b e=0↔e=0∧lsB w b=false:=by unfold eL; rw [fl_z (by decide)]
theorem eA_z{w:List UInt8}{e:Int}:eA w e=0↔e=0 ∧((rdB w).2=true ∧(rdB w).1≠0):=by unfold eA; rw [fl_z (by decide)]; simp
theorem eD_z{w:List UInt8}{e:Int}:eD w e=0↔e=0 ∧(adG w=true ∧(adV w)[0]!≠0):=by
 unfold eD; rw [fl_z (by decide)]
 generalize (adV w)[0]! = x
 simp
theorem eS_z{w:List UInt8}{e:Int}:eS w e=0↔e=0 ∧((rpB w).2.2=true∧sbF (rpB w).1 (rpB w).2.1=true):=by unfold eS; rw [fl_z (by decide)]; simp
theorem eK_z{w:List UInt8}{e:Int}:eK w e=0↔e=0 ∧(w=[97,99,99,101,115,115]∨w=[116,114,117,110,107]):=by
 unfold eK; rw [fl_z (by decide),decide_eq_false_iff_not]
 by_cases h:w=[97,99,99,101,115,115] <;> by_cases h':w=[116,114,117,110,107] <;> simp [h,h']
theorem nu_r{w:List UInt8}{a b:Int}(h:(Nm.rdF w a b).2=true):decide (a≤nu w a b∧nu w a b≤b)=true:=decide_eq_true (rdF_range h)
theorem lsV_liO{w:List UInt8}{b:Int}(h:lsB w b=false):liO (lsV w b) b=true:=by
 unfold liO
 by_cases hn:lsV w b=[]
 ·rw [decide_eq_true hn,Bool.true_or]
 ·rw [Bool.or_eq_true]
  right
  unfold lsV at hn ⊢
  by_cases h1:w=[45]
  ·rw [if_pos h1] at hn; exact absurd rfl hn
  ·rw [if_neg h1] at hn ⊢
   by_cases h2:lsG w b=true
   ·rw [if_pos h2]
    have h2':rlF (gI 1 b) (sc w)=true:=h2
    exact rl_rs' (sc_ne w) h2' fun p hp=>rdF_range ((rlF_iff.1 h2').1 p hp)
   ·rw [if_neg h2] at hn; exact absurd rfl hn
theorem ris_all{a:Int}:∀ {l:List Int},risF l=true→a≤l[0]!→∀ x∈l,a≤x
 | [],_,_,x,hx=>by cases hx
 | [y],_,h0,x,hx=>by simp at hx; subst hx; exact h0
 | y :: z :: r,h,h0,x,hx=>by
  simp only[risF,Bool.and_eq_true,decide_eq_true_eq] at h
  have h0':a≤y:=h0
  rcases List.mem_cons.1 hx with rfl | hx
  ·exact h0'
  ·exact ris_all (l:=z :: r) h.2 (show a≤z by omega) x hx
theorem rdB_b(s:List UInt8):0 ≤(rdB s).1 ∧(rdB s).1≤4294967295:=by
 unfold rdB
 by_cases h:okA s
 ·have:=accF_b _ (Nat.le_of_eq h.1) h.2
  simp only[if_pos h]
  exact⟨this.1,this.2.1⟩
 ·simp only[if_neg h]; exact⟨by decide,by decide⟩
theorem adV_b(s:List UInt8):∀ a∈adV s,0≤a∧a≤4294967295:=by
 intro a ha
 unfold adV at ha
 split at ha
 ·obtain ⟨p,_,rfl⟩:=List.mem_map.1 ha
  exact rdB_b p
 ·cases ha
theorem adV_adO{w:List UInt8}(h:adG w=true)(h0:(adV w)[0]!≠0):adO (adV w)=true:=by
 have hb:=adV_b w
 have h1:adV w =(sc w).map fun p=>(rdB p).1:=by unfold adV; rw [if_pos h]
 have h':rlF rdB (sc w)=true:=h
 have hr:=(rlF_iff.1 h').2.2
 rw [h1] at h0 hb ⊢
 unfold adO
 have hne:(sc w).map (fun p=>(rdB p).1)≠[]:=by simpa using sc_ne w
 have h2:1 ≤((sc w).map fun p=>(rdB p).1)[0]!:=by
  have:=hb (((sc w).map fun p=>(rdB p).1)[0]!) (by rw [getElem!_pos ((sc w).map fun p=>(rdB p).1) 0 (List.length_pos_iff.2 hne)]; exact List.getElem_mem _)
  omega
 have h3:=ris_all hr h2
 exact rl_rs' (sc_ne w) h' fun p hp=>⟨h3 _ (List.mem_map.2 ⟨p,hp,rfl⟩),(rdB_b p).2⟩
theorem adV_len(s:List UInt8):(adV s).length≤16:=by
 unfold adV
 split
 ·rename_i h
  rw [List.length_map]
  exact(rlF_iff.1 (show rlF rdB (sc s)=true from h)).2.1
 ·simp
theorem pkT_len(ws:List (List UInt8))(k:Nat):(pkT ws k).length≤16:=by
 unfold pkT
 split
 ·exact lsV_len _ _
 ·simp
theorem pk_ok{ws:List (List UInt8)}{e:Int}(h:pkE ws 4 e=0):e=0∧decide (0≤pkV ws 4∧pkV ws 4≤4094)=true∧liO (pkT ws 4) 4094=true∧mbF (pkV ws 4) (pkT ws 4)=true:=by
 unfold pkE at h
 simp only at h
 rw [fl_z (by decide)] at h
 obtain ⟨h1,h2⟩:=h
 have hm:mbF (pkV ws 4) (pkT ws 4)=true:=by simpa using h2
 rw [decide_eq_true_eq]
 by_cases ha:ws[4]! = [97,99,99,101,115,115]
 ·rw [if_pos ha,fl_z (by decide)] at h1
  have hr:=rdF_range (a:=1) (b:=4094) (p:=ws[4+1]!) (by simpa using h1.2)
  have e1:pkV ws 4 =(Nm.rdF ws[4+1]! 1 4094).1:=by unfold pkV; rw [if_pos ha]
  have e2:pkT ws 4=[]:=by unfold pkT; rw [if_neg (by rw [ha]; decide)]
  refine⟨h1.1,by rw [e1]; omega,by rw [e2]; rfl,hm⟩
 ·rw [if_neg ha] at h1
  by_cases hb:ws[4]! = [116,114,117,110,107]
  ·rw [if_pos hb,fl_z (by decide)] at h1
   have e1:pkV ws 4=if ws[4+1]! = [45] then(0:Int) else(Nm.rdF ws[4+1]! 1 4094).1:=by unfold pkV; rw [if_neg ha,if_pos hb]
   have e2:pkT ws 4=lsV ws[4+2]! 4094:=by unfold pkT; rw [if_pos hb]
   by_cases hc:ws[4+1]! = [45]
   ·rw [if_pos hc] at h1 e1
    exact⟨h1.1,by rw [e1]; omega,by rw [e2]; exact lsV_liO h1.2,hm⟩
   ·rw [if_neg hc] at h1 e1
    obtain ⟨h3,h4⟩:=h1
    rw [fl_z (by decide)] at h3
    have hr:=rdF_range (a:=1) (b:=4094) (p:=ws[4+1]!) (by simpa using h3.2)
    exact⟨h3.1,by rw [e1]; omega,by rw [e2]; exact lsV_liO h4,hm⟩
  ·rw [if_neg hb] at h1
   have e1:pkV ws 4=0:=by unfold pkV; rw [if_neg ha,if_neg hb]
   have e2:pkT ws 4=[]:=by unfold pkT; rw [if_neg hb]
   exact⟨h1,by rw [e1]; omega,by rw [e2]; rfl,hm⟩
theorem okN_k{ws:List (List UInt8)}(h:rdE ws=0):okN ws=true∧erF (kdF ws[0]!) ws=0:=by
 unfold rdE at h
 by_cases h':okN ws=true
 ·rw [if_pos h'] at h; exact⟨h',h⟩
 ·rw [if_neg h'] at h; exact absurd h (by decide)
theorem rd_cases{ws:List (List UInt8)}{r:Int}(h:rdE ws=0){P:LnF→Prop}
  (h1:er1 ws=0→P (li1 ws r)) (h2:er2 ws=0→P (li2 ws r)) (h3:er3 ws=0→P (li3 ws r)) (h4:er4 ws=0→P (li4 ws r)) (h5:er5 ws=0→P (li5 ws r)) (h6:er6 ws=0→P (li6 ws r)) (h7:er7 ws=0→P (li7 ws r)) (h8:er8 ws=0→P (li8 ws r)) (h9:er9 ws=0→P (li9 ws r)):P (rdL ws r):=by
 obtain ⟨hn,he⟩:=okN_k h
 have hm:mnF (kdF ws[0]!) ws=true:=by
  unfold okN at hn
  simp only[Bool.and_eq_true] at hn
  exact hn.2
 unfold rdL liF
 unfold erF at he
 rcases kdF_b ws[0]! with e | e | e | e | e | e | e | e | e | e
 ·rw [e] at hm; simp [mnF] at hm
 all_goals simp only[e,Int.reduceEq,if_true,if_false] at he ⊢
 ·exact h1 he
 ·exact h2 he
 ·exact h3 he
 ·exact h4 he
 ·exact h5 he
 ·exact h6 he
 ·exact h7 he
 ·exact h8 he
 ·exact h9 he
theorem rd_right{ws:List (List UInt8)}{r:Int}(h:rdE ws=0):∀ o:Int,rtO { rdL ws r with l:={ (rdL ws r).l with row:=o } }=true:=by
 refine rd_cases (P:=fun x=>∀ o:Int,rtO { x with l:={ x.l with row:=o } }=true) h ?_ ?_ ?_ ?_ ?_ ?_ ?_ ?_ ?_
 all_goals intro he o
 ·simp only[er1,eN_z,eU_z,eM_z] at he
  have:=nu_r he.1.2
  simp only[decide_eq_true_eq] at this
  unfold li1
  try generalize ws[1]! = w1 at *
  try generalize ws[2]! = w2 at *
  try generalize ws[3]! = w3 at *
  try generalize ws[4]! = w4 at *
  simp [rtO,okF,ok1,usF,us1,he,this]
 ·unfold er2 at he
  obtain ⟨he,p1,p2,p3⟩:=pk_ok he
  simp only[eN_z,eU_z,eK_z] at he
  have:=nu_r he.1.2
  simp only[decide_eq_true_eq] at p1 this
  unfold li2
  try generalize ws[1]! = w1 at *
  try generalize ws[2]! = w2 at *
  try generalize ws[3]! = w3 at *
  try generalize ws[4]! = w4 at *
  simp [rtO,okF,ok2,usF,us2,he,p1,p2,p3,this]
 ·simp only[er3,eN_z] at he
  unfold li3
  try generalize ws[1]! = w1 at *
  try generalize ws[2]! = w2 at *
  try generalize ws[3]! = w3 at *
  try generalize ws[4]! = w4 at *
  simp [rtO,okF,ok3,usF,us3,he]
 ·simp only[er4,eN_z,eU_z,eM_z] at he
  have:=nu_r he.1.1.2
  simp only[decide_eq_true_eq] at this
  unfold li4
  try generalize ws[1]! = w1 at *
  try generalize ws[2]! = w2 at *
  try generalize ws[3]! = w3 at *
  try generalize ws[4]! = w4 at *
  simp [rtO,okF,ok4,usF,us4,he,this]
 ·simp only[er5,eN_z,eA_z] at he
  unfold li5
  try generalize ws[1]! = w1 at *
  try generalize ws[2]! = w2 at *
  try generalize ws[3]! = w3 at *
  try generalize ws[4]! = w4 at *
  simp [rtO,okF,ok5,usF,us5,he]
 ·simp only[er6,eN_z,eU_z] at he
  have:=nu_r he.1.2
  have t2:=nu_r he.2
  simp only[decide_eq_true_eq] at this t2
  unfold li6
  try generalize ws[1]! = w1 at *
  try generalize ws[2]! = w2 at *
  try generalize ws[3]! = w3 at *
  try generalize ws[4]! = w4 at *
  simp [rtO,okF,ok6,usF,us6,he,this,t2]
 ·simp only[er7,eN_z,eU_z,eD_z] at he
  have:=nu_r he.1.2
  have t2:=adV_adO he.2.1 he.2.2
  simp only[decide_eq_true_eq] at this
  unfold li7
  try generalize ws[1]! = w1 at *
  try generalize ws[2]! = w2 at *
  try generalize ws[3]! = w3 at *
  try generalize ws[4]! = w4 at *
  simp [rtO,okF,ok7,usF,us7,he,this,t2]
 ·simp only[er8,eN_z,eL_z] at he
  have t1:=lsV_liO he.2
  have t2:=lsV_liO he.1.2
  unfold li8
  try generalize ws[1]! = w1 at *
  try generalize ws[2]! = w2 at *
  try generalize ws[3]! = w3 at *
  try generalize ws[4]! = w4 at *
  simp [rtO,okF,ok8,usF,us8,he,t1,t2]
 ·simp only[er9,eN_z,eU_z,eS_z] at he
  have:=nu_r he.1.1.2
  simp only[decide_eq_true_eq] at this
  unfold li9
  try generalize ws[1]! = w1 at *
  try generalize ws[2]! = w2 at *
  try generalize ws[3]! = w3 at *
  try generalize ws[4]! = w4 at *
  simp [rtO,okF,ok9,usF,us9,he,this]
theorem rd_row{ws:List (List UInt8)}{r:Int}(h:rdE ws=0):(rdL ws r).l.row=r:=by
 refine rd_cases (P:=fun x=>x.l.row=r) h ?_ ?_ ?_ ?_ ?_ ?_ ?_ ?_ ?_
 all_goals (intro _; rfl)
theorem nmO_len{w:List UInt8}(h:nmO w=true):w.length≤12:=by
 unfold nmO at h
 simp only[decide_eq_true_eq] at h
 exact h.1.2
theorem rd_B{ws:List (List UInt8)}{r:Int}(h:rdE ws=0):lnB (rdL ws r):=by
 refine rd_cases (P:=lnB) h ?_ ?_ ?_ ?_ ?_ ?_ ?_ ?_ ?_
 all_goals intro he
 ·simp only[er1,eN_z,eU_z,eM_z] at he
  have a1:=nmO_len he.1.1.2
  have a2:=rdm_b ws[3]!
  exact⟨by simp only[li1,List.length_nil]; omega,by simp only[li1]; omega,by simp [li1]⟩
 ·unfold er2 at he
  obtain ⟨he,-,-,-⟩:=pk_ok he
  simp only[eN_z,eU_z,eK_z] at he
  have a1:=nmO_len he.1.1.2
  have a2:=nmO_len he.1.1.1.2
  have a3:=pkT_len ws 4
  exact⟨by simp only[li2,List.length_nil]; omega,by simp only[li2]; omega,by simp [li2]⟩
 ·simp only[er3,eN_z] at he
  have a1:=nmO_len he.2
  have a2:=nmO_len he.1.2
  have a3:=nmO_len he.1.1.2
  have a4:=nmO_len he.1.1.1.2
  exact⟨by simp only[li3,List.length_nil]; omega,by simp only[li3]; omega,by simp [li3]⟩
 ·simp only[er4,eN_z,eU_z,eM_z] at he
  have a1:=nmO_len he.2
  have a2:=nmO_len he.1.1.1.2
  have a3:=rdm_b ws[3]!
  exact⟨by simp only[li4,List.length_nil]; omega,by simp only[li4]; omega,by simp [li4]⟩
 ·simp only[er5,eN_z,eA_z] at he
  have a1:=nmO_len he.1.2
  have a2:=rdB_b ws[2]!
  exact⟨by simp only[li5,List.length_nil]; omega,by simp only[li5]; omega,by simp [li5]⟩
 ·simp only[er6,eN_z,eU_z] at he
  have a1:=nmO_len he.1.1.2
  exact⟨by simp only[li6,List.length_nil]; omega,by simp only[li6]; omega,by simp [li6]⟩
 ·simp only[er7,eN_z,eU_z,eD_z] at he
  have a1:=nmO_len he.1.1.2
  have a2:=adV_len ws[3]!
  exact⟨by simp only[li7,List.length_nil]; omega,by simp only[li7]; omega,adV_b ws[3]!⟩
 ·simp only[er8,eN_z,eL_z] at he
  have a1:=nmO_len he.1.1.2
  have a2:=nmO_len he.1.1.1.2
  have a3:=lsV_len ws[3]! 65535
  have a4:=lsV_len ws[4]! 65535
  exact⟨by simp only[li8,List.length_nil]; omega,by simp only[li8]; omega,by simp [li8]⟩
 ·simp only[er9,eN_z,eU_z,eS_z] at he
  have a1:=nmO_len he.1.2
  have a2:=nmO_len he.1.1.1.2
  have a3:=rpB_b ws[4]!
  exact⟨by simp only[li9,List.length_nil]; omega,by simp only[li9]; omega,by simp [li9]⟩
end Go.Proofs
namespace Go.Proofs
open Go.Pv
theorem rdG_range{s ds:List UInt8}{neg:Bool}{a b:Int}(h:(Nm.rdG s ds neg a b).2=true):a ≤(Nm.rdG s ds neg a b).1 ∧(Nm.rdG s ds neg a b).1≤b:=by
 unfold Nm.rdG at *
 split at h
 ·cases h
 rw [if_neg (by assumption)]
 split at h
 ·cases h
 rw [if_neg (by assumption)]
 generalize (if neg then -Nm.vF ds ds.length else Nm.vF ds ds.length)=n at *
 simp only at *
 split at h
 ·cases h
 split at h
 ·cases h
 split at h
 ·cases h
 rw [if_neg (by assumption),if_neg (by assumption),if_neg (by assumption)]
 simp only
 omega
theorem gI_range{a b:Int}{p:List UInt8}(h:(gI a b p).2=true):a ≤(gI a b p).1 ∧(gI a b p).1≤b:=by
 unfold gI Nm.rdF at *
 split at h
 ·rw [if_pos (by assumption)]; exact rdG_range h
 ·rw [if_neg (by assumption)]; exact rdG_range h
theorem rl_rs{a b:Int}{ps:List (List UInt8)}(hne:ps≠[])(h:∀ p∈ps,(gI a b p).2=true):rlF (gI a b) ps=rsF (ps.map fun p=>(gI a b p).1) a b:=by
 have h1:ps.all (fun p=>(gI a b p).2)=true:=List.all_eq_true.2 h
 have h2:((ps.map fun p=>(gI a b p).1).all fun n=>decide (a≤n∧n≤b))=true:=by
  rw [List.all_eq_true]
  intro n hn
  obtain ⟨p,hp,rfl⟩:=List.mem_map.1 hn
  exact decide_eq_true (gI_range (h p hp))
 have h3:=List.length_pos_iff.2 hne
 unfold rlF rsF
 rw [h1,h2,List.length_map]
 simp only[Bool.true_and,h3,true_and]
 rw [Bool.and_comm]
theorem no_ok{g:List UInt8→Int × Bool}{ps:List (List UInt8)}{k:Nat}(hk:k < ps.length)(h:(g ps[k]!).2=false):¬ rlF g ps=true:=fun h'=>by
 have:=(rlF_iff.1 h').1 ps[k]! (by rw [getElem!_pos ps k hk]; exact List.getElem_mem hk)
 rw [h] at this
 cases this
theorem rrdlist_run(s:List UInt8)(a b:Int)(hs:s.length≤1000):Run Tryz.prog 112 [.str s,.int .i64 a,.int .i64 b] (rlR 3 .i64 (gI a b) (sc s)):=by
 have q:=split_run s hs
 have hl:=sc_len s
 have hne:=sc_ne s
 refine Tryz.run112 (by simp) ?_
 unfold Tryz.c112
 generalize sc s=ps at *
 obtain ⟨vs,hvs⟩:∃ vs,(ps.map fun p=>(gI a b p).1)=vs:=⟨_,rfl⟩
 have hvl:vs.length=ps.length:=by rw [← hvs]; simp
 have hvg:∀ k,k < ps.length→vs[k]! =(gI a b ps[k]!).1:=fun k hk=>by
  rw [getElem!_pos vs k (by omega),getElem!_pos ps k hk]
  subst hvs
  simp
 refine vZ ?_
 refine aC q rfl rfl ?_
 refine vZ ?_
 refine aw_loop (fun k:Nat=>⟨[(1,.int .i64 a),(2,.int .i64 b),(8,.vec 0 1 0 ps.length),(9,.vec 1 1 0 k),(10,.int .i64 k)],[some ⟨9,ps.map .str,true⟩,some ⟨3,(vs.take k).map (.int .i64),true⟩]⟩) (fun k=>k≤ps.length∧∀ j < k,(gI a b ps[j]!).2=true) (fun k=>ps.length - k) 0 ?_ ⟨by omega,by simp⟩ ?_
 ·simp (disch:=try exact dq) only[↓pvd,pz,sC,List.map,seval,iM sP,rM sP,List.length_map]
  try simp
 rintro k ⟨hk,hp⟩
 unfold Tryz.c112b0
 have htl:((vs.take k).map (AV.int .i64)).length=k:=by simp; omega
 by_cases hx:k < ps.length
 ·have hgi:(ps.map AV.str)[k]?=some (.str ps[k]!):=mG hx
  have hlp:ps[k]!.length≤1000:=by
   have:=hl.2 ps[k]! (by rw [getElem!_pos ps k hx]; exact List.getElem_mem hx)
   omega
  have q1:=Nm.rread_run ps[k]! a b (by omega)
  unfold Nm.rdR at q1
  rw [show Nm.rdF ps[k]! a b=gI a b ps[k]! from rfl] at q1
  have hv:=hvg k hx
  by_cases hok:(gI a b ps[k]!).2=true
  ·rw [hok,← hv] at q1
   have hap:(vs.take k).map (AV.int .i64) ++ [AV.int .i64 vs[k]!] =(vs.take (k+1)).map (AV.int .i64):=by rw [take_snoc (by omega)]; simp
   generalize hrow:ps.map AV.str=prow at *
   have hpl0:prow.all AV.pl=true:=by rw [← hrow]; exact pl_map sP
   have hprl:prow.length=ps.length:=by rw [← hrow]; simp
   simp (disch:=try exact dq) only[↓pvd,pz,sC,List.map,seval,hgi]
   refine aC q1 rfl rfl ?_
   simp (disch:=try exact dq) only[↓pvd,pz,sC,List.map,seval,ids_all hpl0,ren_all hpl0,iM (int_pl .i64),rM (int_pl .i64),htl,hap]
   refine⟨k+1,?_,⟨hx,fun j hj=>?_⟩,by omega⟩
   ·simp
   ·by_cases e:j=k
    ·rw [e]; exact hok
    ·exact hp j (by omega)
  ·have hok:(gI a b ps[k]!).2=false:=by simpa using hok
   rw [hok] at q1
   rw [rlR_no (no_ok hx hok)]
   generalize hrow:ps.map AV.str=prow at *
   have hpl0:prow.all AV.pl=true:=by rw [← hrow]; exact pl_map sP
   simp (disch:=try exact dq) only[↓pvd,pz,sC,List.map,seval,hgi]
   refine aC q1 rfl rfl ?_
   simp (disch:=try exact dq) only[↓pvd,pz,sC,List.map,seval,ids_all hpl0,ren_all hpl0,iM (int_pl .i64),rM (int_pl .i64)]
   exact eZ
 ·have e:k=ps.length:=by omega
  have hall:∀ p∈ps,(gI a b p).2=true:=fun p hp'=>by
   obtain ⟨j,hj,rfl⟩:=List.mem_iff_getElem.1 hp'
   have:=hp j (by omega)
   rwa [getElem!_pos ps j hj] at this
  have h1:=rl_rs hne hall
  rw [hvs] at h1
  have htk:vs.take k=vs:=List.take_of_length_le (by omega)
  rw [htk]
  have q2:=rising_run vs false a b (by omega)
  have hkl:k=vs.length:=by omega
  by_cases hr:rsF vs a b=true
  ·rw [hr] at q2 h1
   rw [rlR_yes h1,hvs]
   simp (disch:=try exact dq) only[↓pvd,pz,sC,List.map,seval,List.length_map,hkl]
   refine awR_callR (ms:=[]) q2 (by simp (disch:=try exact dq) only[↓pvd,pz,sC,List.map,seval,mapO_map (int_nr .i64),rows_map (int_nr .i64)]; rfl) (by simp (disch:=try exact dq) only[↓pvd,pz,sC,List.map,seval,mapO_map (int_nr .i64),rows_map (int_nr .i64)]) rfl ?_
   simp (disch:=try exact dq) only[↓pvd,pz,sC,List.map,seval,still,iM (int_pl .i64),rM (int_pl .i64),hkl]
   (refine Ends_rq [[.own 1 3],[.snap]] ?_; simp (disch:=try exact dq) only[↓pvd,pz,sC,List.map,seval,iM (int_pl .i64),rM (int_pl .i64),mapO_map (int_nr .i64),rows_map (int_nr .i64)]; exact⟨_,rfl,rfl,rfl⟩)
  ·have hr:rsF vs a b=false:=by simpa using hr
   rw [hr] at q2 h1
   rw [rlR_no (by rw [h1]; simp)]
   simp (disch:=try exact dq) only[↓pvd,pz,sC,List.map,seval,List.length_map,hkl]
   refine awR_callR (ms:=[]) q2 (by simp (disch:=try exact dq) only[↓pvd,pz,sC,List.map,seval,mapO_map (int_nr .i64),rows_map (int_nr .i64)]; rfl) (by simp (disch:=try exact dq) only[↓pvd,pz,sC,List.map,seval,mapO_map (int_nr .i64),rows_map (int_nr .i64)]) rfl ?_
   simp (disch:=try exact dq) only[↓pvd,pz,sC,List.map,seval,still,iM (int_pl .i64),rM (int_pl .i64),hkl]
   exact eZ
theorem rrdaddrs_run(s:List UInt8)(hs:s.length≤1000):Run Tryz.prog 81 [.str s] (rlR 35 .u32 rdB (sc s)):=by
 have q:=split_run s hs
 have hl:=sc_len s
 have hne:=sc_ne s
 refine Tryz.run81 (by simp) ?_
 unfold Tryz.c81
 generalize sc s=ps at *
 obtain ⟨vs,hvs⟩:∃ vs,(ps.map fun p=>(rdB p).1)=vs:=⟨_,rfl⟩
 have hvl:vs.length=ps.length:=by rw [← hvs]; simp
 have hvg:∀ k,k < ps.length→vs[k]! =(rdB ps[k]!).1:=fun k hk=>by
  rw [getElem!_pos vs k (by omega),getElem!_pos ps k hk]
  subst hvs
  simp
 refine vZ ?_
 refine aC q rfl rfl ?_
 refine vZ ?_
 refine aw_loop (fun k:Nat=>⟨[(4,.vec 0 1 0 ps.length),(5,.vec 1 1 0 k),(6,.int .i64 k)],[some ⟨9,ps.map .str,true⟩,some ⟨35,(vs.take k).map (.int .u32),true⟩]⟩) (fun k=>k≤ps.length∧k≤16 ∧(∀ j < k,(rdB ps[j]!).2=true)∧risF (vs.take k)=true) (fun k=>ps.length - k) 0 ?_ ⟨by omega,by omega,by simp,rfl⟩ ?_
 ·simp (disch:=try exact dq) only[↓pvd,pz,sC,List.map,seval,iM sP,rM sP,List.length_map]
  try simp
 rintro k ⟨hk,hk16,hp,hr⟩
 unfold Tryz.c81b0
 have htl:((vs.take k).map (AV.int .u32)).length=k:=by simp; omega
 by_cases hx:k < ps.length
 ·have hgi:(ps.map AV.str)[k]?=some (.str ps[k]!):=mG hx
  have hlp:ps[k]!.length≤1000:=by
   have:=hl.2 ps[k]! (by rw [getElem!_pos ps k hx]; exact List.getElem_mem hx)
   omega
  have q1:=ref_read_run ps[k]! (by omega)
  rw [rdB_eq] at q1
  have hv:=hvg k hx
  generalize hrow:ps.map AV.str=prow at *
  have hpl0:prow.all AV.pl=true:=by rw [← hrow]; exact pl_map sP
  have hprl:prow.length=ps.length:=by rw [← hrow]; simp
  by_cases hok:(rdB ps[k]!).2=true
  ·rw [hok,← hv] at q1
   have hn:=ris_next (l:=vs) (k:=k) (by omega)
   rw [hr,Bool.true_and] at hn
   have hap:(vs.take k).map (AV.int .u32) ++ [AV.int .u32 vs[k]!] =(vs.take (k+1)).map (AV.int .u32):=by rw [take_snoc (by omega)]; simp
   by_cases h16:k < 16
   ·have nx:(k=0∨vs[k - 1]! < vs[k]!)→k+1≤ps.length∧k+1≤16 ∧(∀ j < k+1,(rdB ps[j]!).2=true)∧risF (vs.take (k+1))=true:=fun h=>⟨hx,by omega,fun j hj=>by
     by_cases e:j=k
     ·rw [e]; exact hok
     ·exact hp j (by omega),by rw [hn]; exact decide_eq_true h⟩
    by_cases h0:k=0
    ·have:=nx (.inl h0)
     subst h0
     simp (disch:=try exact dq) only[↓pvd,pz,sC,List.map,seval,hgi]
     refine aC q1 rfl rfl ?_
     simp (disch:=try exact dq) only[↓pvd,pz,sC,List.map,seval,ids_all hpl0,ren_all hpl0,iM (int_pl .u32),rM (int_pl .u32),htl,hap]
     refine⟨0+1,?_,this,by omega⟩
     rw [take_snoc (by omega)]
     simp
    ·have hix:((k:Int) - 1).toNat=k - 1:=by omega
     have hgj:((vs.take k).map (AV.int .u32))[k - 1]?=some (.int .u32 vs[k - 1]!):=by
      rw [mG (by simp; omega)]
      rw [getElem!_pos _ (k - 1) (by simp; omega),getElem!_pos vs (k - 1) (by omega),List.getElem_take]
     have hk0:0 < k:=by omega
     by_cases h4:vs[k - 1]! < vs[k]!
     ·have:=nx (.inr h4)
      simp (disch:=try exact dq) only[↓pvd,pz,sC,List.map,seval,hgi]
      refine aC q1 rfl rfl ?_
      simp (disch:=try exact dq) only[↓pvd,pz,sC,List.map,seval,ids_all hpl0,ren_all hpl0,iM (int_pl .u32),rM (int_pl .u32),htl,hap,hix,hgj]
      refine⟨k+1,?_,this,by omega⟩
      simp
     ·rw [rlR_no (fun h=>by have:=(rlF_iff.1 h).2.2; rw [hvs,ris_no (k:=k) (by omega) (fun h=>h.elim h0 h4)] at this; cases this)]
      simp (disch:=try exact dq) only[↓pvd,pz,sC,List.map,seval,hgi]
      refine aC q1 rfl rfl ?_
      simp (disch:=try exact dq) only[↓pvd,pz,sC,List.map,seval,ids_all hpl0,ren_all hpl0,iM (int_pl .u32),rM (int_pl .u32),htl,hap,hix,hgj]
      exact eZ
   ·rw [rlR_no (fun h=>by have:=(rlF_iff.1 h).2.1; omega)]
    have hge:16≤k:=by omega
    simp (disch:=try exact dq) only[↓pvd,pz,sC,List.map,seval,hgi]
    refine aC q1 rfl rfl ?_
    simp (disch:=try exact dq) only[↓pvd,pz,sC,List.map,seval,ids_all hpl0,ren_all hpl0,iM (int_pl .u32),rM (int_pl .u32),htl,hap]
    exact eZ
  ·have hok:(rdB ps[k]!).2=false:=by simpa using hok
   rw [hok] at q1
   rw [rlR_no (no_ok hx hok)]
   simp (disch:=try exact dq) only[↓pvd,pz,sC,List.map,seval,hgi]
   refine aC q1 rfl rfl ?_
   simp (disch:=try exact dq) only[↓pvd,pz,sC,List.map,seval,ids_all hpl0,ren_all hpl0,iM (int_pl .u32),rM (int_pl .u32)]
   exact eZ
 ·have e:k=ps.length:=by omega
  have hall:∀ p∈ps,(rdB p).2=true:=fun p hp'=>by
   obtain ⟨j,hj,rfl⟩:=List.mem_iff_getElem.1 hp'
   have:=hp j (by omega)
   rwa [getElem!_pos ps j hj] at this
  have htk:vs.take k=vs:=List.take_of_length_le (by omega)
  rw [htk] at hr ⊢
  have h1:rlF rdB ps=true:=rlF_iff.2 ⟨hall,by omega,by rw [hvs]; exact hr⟩
  rw [rlR_yes h1,hvs]
  have hkl:k=vs.length:=by omega
  simp (disch:=try exact dq) only[↓pvd,pz,sC,List.map,seval,List.length_map,hkl,iM sP,rM sP,iM (int_pl .u32),rM (int_pl .u32)]
  (refine Ends_rq [[.own 1 35],[.snap]] ?_; simp (disch:=try exact dq) only[↓pvd,pz,sC,List.map,seval,iM (int_pl .u32),rM (int_pl .u32),mapO_map (int_nr .u32),rows_map (int_nr .u32)]; exact⟨_,rfl,rfl,rfl⟩)
end Go.Proofs
