/- Part 21 of a proof that a step of one domain changes nothing of another: the machine of plain values, and what the program's functions do. -/
import Derived.Test.YtdgcdnnmodnkjaaGreatDoorG20
set_option linter.all false
set_option linter.unusedVariables false
set_option linter.unusedSectionVars false
set_option linter.unusedSimpArgs false
set_option linter.defProp false
namespace Go.Proofs.Tx
open Go Go.Pv
theorem z0_Sp:(.agg z0:AV)=Sp.v default:=by
 rw [Sp.e]
 show(.agg [(.int .i64 0),(.int .i64 0),(.int .i64 0),(.int .i64 0),(.sl 0 [] true),(.sl 0 [] true)]:AV)=.agg [(.int .i64 0),(.int .i64 0),(.int .i64 0),(.int .i64 0),SL.nil.v,SL.nil.v]
 simp only[← SL.nile]
theorem z1_Nt:(.agg z1:AV)=Nt.v default:=by
 rw [Nt.e]
 show(.agg [(.sl 0 [] true),(.sl 0 [] true),(.sl 0 [] true),(.sl 0 [] true),(.sl 0 [] true),(.sl 0 [] true),(.sl 0 [] true),(.sl 0 [] true)]:AV)=.agg [SL.nil.v,SL.nil.v,SL.nil.v,SL.nil.v,SL.nil.v,SL.nil.v,SL.nil.v,SL.nil.v]
 simp only[← SL.nile]
theorem z5_Qd:(.agg z5:AV)=Qd.v default:=by
 rw [Qd.e]
 show(.agg [(.int .i64 0),(.int .i64 0),(.int .i64 0),(.int .u64 0),(.int .u64 0),(.int .i64 0),(.sl 0 [] true)]:AV)=.agg [(.int .i64 0),(.int .i64 0),(.int .i64 0),(.int .u64 0),(.int .u64 0),(.int .i64 0),SL.nil.v]
 simp only[← SL.nile]
theorem z6_Lk:(.agg z6:AV)=Lk.v default:=by
 rw [Lk.e]
 show(.agg [(.int .i64 0),(.int .i64 0),(.int .i64 0)]:AV)=.agg [(.int .i64 0),(.int .i64 0),(.int .i64 0)]
 rfl
theorem z7_Fm:(.agg z7:AV)=Fm.v default:=by
 rw [Fm.e]
 show(.agg [(.int .u64 0),(.int .u64 0),(.int .i64 0),(.sl 0 [] true)]:AV)=.agg [(.int .u64 0),(.int .u64 0),(.int .i64 0),SL.nil.v]
 simp only[← SL.nile]
theorem z8_Ou:(.agg z8:AV)=Ou.v default:=by
 rw [Ou.e]
 show(.agg [(.int .i64 0),(.int .i64 0),(.int .i64 0),(.sl 0 [] true),(.int .u64 0),(.int .u64 0),(.int .i64 0),(.sl 0 [] true),(.int .i64 0)]:AV)=.agg [(.int .i64 0),(.int .i64 0),(.int .i64 0),SL.nil.v,(.int .u64 0),(.int .u64 0),(.int .i64 0),SL.nil.v,(.int .i64 0)]
 simp only[← SL.nile]
theorem z9_Ln:(.agg z9:AV)=Ln.v default:=by
 rw [Ln.e]
 show(.agg [(.int .i64 0),(.int .i64 0),(.str []),(.str []),(.str []),(.str []),(.str []),(.int .u64 0),(.int .u32 0),(.int .i64 0),(.int .i64 0),(.int .i64 0),(.int .i64 0),(.sl 0 [] true),(.sl 0 [] true),(.sl 0 [] true),(.sl 0 [] true)]:AV)=.agg [(.int .i64 0),(.int .i64 0),(.str []),(.str []),(.str []),(.str []),(.str []),(.int .u64 0),(.int .u32 0),(.int .i64 0),(.int .i64 0),(.int .i64 0),(.int .i64 0),SL.nil.v,SL.nil.v,SL.nil.v,SL.nil.v]
 simp only[← SL.nile]
theorem z11_Pt:(.agg z11:AV)=Pt.v default:=by
 rw [Pt.e]
 show(.agg [(.int .i64 0),(.int .i64 0),(.int .i64 0),(.int .i64 0),(.int .i64 0),(.str []),(.sl 0 [] true)]:AV)=.agg [(.int .i64 0),(.int .i64 0),(.int .i64 0),(.int .i64 0),(.int .i64 0),(.str []),SL.nil.v]
 simp only[← SL.nile]
theorem z12_Se:(.agg z12:AV)=Se.v default:=by
 rw [Se.e]
 show(.agg [(.int .i64 0),(.int .i64 0),(.sl 0 [] true)]:AV)=.agg [(.int .i64 0),(.int .i64 0),SL.nil.v]
 simp only[← SL.nile]
theorem z13_Fl:(.agg z13:AV)=Fl.v default:=by
 rw [Fl.e]
 show(.agg [(.int .i64 0),(.int .i64 0),(.int .i64 0),(.sl 0 [] true)]:AV)=.agg [(.int .i64 0),(.int .i64 0),(.int .i64 0),SL.nil.v]
 simp only[← SL.nile]
theorem z14_Dm:(.agg z14:AV)=Dm.v default:=by
 rw [Dm.e]
 show(.agg [(.int .i64 0),(.int .i64 0),(.int .i64 0),(.int .i64 0),(.int .i64 0),(.sl 0 [] true)]:AV)=.agg [(.int .i64 0),(.int .i64 0),(.int .i64 0),(.int .i64 0),(.int .i64 0),SL.nil.v]
 simp only[← SL.nile]
theorem z15_Ve:(.agg z15:AV)=Ve.v default:=by
 rw [Ve.e]
 show(.agg [(.int .i64 0),(.int .i64 0),(.int .i64 0),(.int .i64 0),(.int .i64 0)]:AV)=.agg [(.int .i64 0),(.int .i64 0),(.int .i64 0),(.int .i64 0),(.int .i64 0)]
 rfl
theorem z16_En:(.agg z16:AV)=En.v default:=by
 rw [En.e]
 show(.agg [(.int .u64 0),(.int .i64 0),(.int .i64 0)]:AV)=.agg [(.int .u64 0),(.int .i64 0),(.int .i64 0)]
 rfl
theorem z17_Pk:(.agg z17:AV)=Pk.v default:=by
 rw [Pk.e]
 show(.agg [(.int .i64 0),(.int .i64 0),(.int .i64 0),(.int .i64 0),(.int .u32 0),(.int .u32 0),(.sl 0 [] true)]:AV)=.agg [(.int .i64 0),(.int .i64 0),(.int .i64 0),(.int .i64 0),(.int .u32 0),(.int .u32 0),SL.nil.v]
 simp only[← SL.nile]
theorem z18_Dv:(.agg z18:AV)=Dv.v default:=by
 rw [Dv.e]
 show(.agg [(.int .i64 0),(.int .i64 0),(.str []),(.int .u64 0),(.int .u32 0)]:AV)=.agg [(.int .i64 0),(.int .i64 0),(.str []),(.int .u64 0),(.int .u32 0)]
 rfl
theorem z20_Sc:(.agg z20:AV)=Sc.v default:=by
 rw [Sc.e]
 show(.agg [(.int .i64 0),(.int .i64 0),(.int .i64 0),(.int .u64 0)]:AV)=.agg [(.int .i64 0),(.int .i64 0),(.int .i64 0),(.int .u64 0)]
 rfl
theorem z21_Vf:(.agg z21:AV)=Vf.v default:=by
 rw [Vf.e]
 show(.agg [(.int .i64 0),(.int .i64 0),(.str []),(.sl 0 [] true),(.sl 0 [] true)]:AV)=.agg [(.int .i64 0),(.int .i64 0),(.str []),SL.nil.v,SL.nil.v]
 simp only[← SL.nile]
theorem z23_Ib:(.agg z23:AV)=Ib.v default:=by
 rw [Ib.e]
 show(.agg [(.int .i64 0),(.int .i64 0),(.int .i64 0),(.int .u32 0),(.int .i64 0)]:AV)=.agg [(.int .i64 0),(.int .i64 0),(.int .i64 0),(.int .u32 0),(.int .i64 0)]
 rfl
theorem Dv.mk_v{row:Int}{prio:Int}{name:List UInt8}{mac:Int}{vtep:Int}:(.agg [.int .i64 row,.int .i64 prio,.str name,.int .u64 mac,.int .u32 vtep]:AV)=Dv.v ⟨row,prio,name,mac,vtep⟩:=by rw [Dv.e]
theorem Pt.mk_v{row:Int}{dev:Int}{native:Int}{cost:Int}{link:Int}{name:List UInt8}{tagged:IL}:(.agg [.int .i64 row,.int .i64 dev,.int .i64 native,.int .i64 cost,.int .i64 link,.str name,tagged.v]:AV)=Pt.v ⟨row,dev,native,cost,link,name,tagged⟩:=by rw [Pt.e]
theorem Lk.mk_v{row:Int}{a:Int}{b:Int}:(.agg [.int .i64 row,.int .i64 a,.int .i64 b]:AV)=Lk.v ⟨row,a,b⟩:=by rw [Lk.e]
theorem Dm.mk_v{dev:Int}{vlan:Int}{vni:Int}{irb:Int}{row:Int}{peers:IL}:(.agg [.int .i64 dev,.int .i64 vlan,.int .i64 vni,.int .i64 irb,.int .i64 row,peers.v]:AV)=Dm.v ⟨dev,vlan,vni,irb,row,peers⟩:=by rw [Dm.e]
theorem Fl.mk_v{row:Int}{dev:Int}{vni:Int}{addrs:UL}:(.agg [.int .i64 row,.int .i64 dev,.int .i64 vni,addrs.v]:AV)=Fl.v ⟨row,dev,vni,addrs⟩:=by rw [Fl.e]
theorem Sc.mk_v{row:Int}{dom:Int}{port:Int}{mac:Int}:(.agg [.int .i64 row,.int .i64 dom,.int .i64 port,.int .u64 mac]:AV)=Sc.v ⟨row,dom,port,mac⟩:=by rw [Sc.e]
theorem Vf.mk_v{row:Int}{dev:Int}{name:List UInt8}{imports:IL}{exports:IL}:(.agg [.int .i64 row,.int .i64 dev,.str name,imports.v,exports.v]:AV)=Vf.v ⟨row,dev,name,imports,exports⟩:=by rw [Vf.e]
theorem Px.mk_v{addr:Int}{bits:Int}:(.agg [.int .u32 addr,.int .i64 bits]:AV)=Px.v ⟨addr,bits⟩:=by rw [Px.e]
theorem Ib.mk_v{row:Int}{dom:Int}{vrf:Int}{net_addr:Int}{net_bits:Int}:(.agg [.int .i64 row,.int .i64 dom,.int .i64 vrf,.int .u32 net_addr,.int .i64 net_bits]:AV)=Ib.v ⟨row,dom,vrf,⟨net_addr,net_bits⟩⟩:=by rw [Ib.e]
theorem Nt.mk_v{devs:SL Dv Dv.v 5}{ports:SL Pt Pt.v 7}{links:SL Lk Lk.v 3}{doms:SL Dm Dm.v 6}{stats:SL Sc Sc.v 4}{floods:SL Fl Fl.v 4}{vrfs:SL Vf Vf.v 5}{irbs:SL Ib Ib.v 5}:(.agg [devs.v,ports.v,links.v,doms.v,stats.v,floods.v,vrfs.v,irbs.v]:AV)=Nt.v ⟨devs,ports,links,doms,stats,floods,vrfs,irbs⟩:=by rw [Nt.e]
theorem Fm.mk_v{dst:Int}{src:Int}{typ:Int}{body:BL}:(.agg [.int .u64 dst,.int .u64 src,.int .i64 typ,body.v]:AV)=Fm.v ⟨dst,src,typ,body⟩:=by rw [Fm.e]
theorem Qd.mk_v{frm:Int}{peer:Int}{origin:Int}{frame_dst:Int}{frame_src:Int}{frame_typ:Int}{frame_body:BL}:(.agg [.int .i64 frm,.int .i64 peer,.int .i64 origin,.int .u64 frame_dst,.int .u64 frame_src,.int .i64 frame_typ,frame_body.v]:AV)=Qd.v ⟨frm,peer,origin,⟨frame_dst,frame_src,frame_typ,frame_body⟩⟩:=by rw [Qd.e]
theorem En.mk_v{mac:Int}{wh:Int}{seen:Int}:(.agg [.int .u64 mac,.int .i64 wh,.int .i64 seen]:AV)=En.v ⟨mac,wh,seen⟩:=by rw [En.e]
theorem Ln.mk_v{row:Int}{kind:Int}{dev:List UInt8}{port:List UInt8}{peer:List UInt8}{far:List UInt8}{name:List UInt8}{mac:Int}{addr:Int}{bits:Int}{vlan:Int}{num:Int}{cost:Int}{tagged:IL}{imports:IL}{exports:IL}{addrs:UL}:(.agg [.int .i64 row,.int .i64 kind,.str dev,.str port,.str peer,.str far,.str name,.int .u64 mac,.int .u32 addr,.int .i64 bits,.int .i64 vlan,.int .i64 num,.int .i64 cost,tagged.v,imports.v,exports.v,addrs.v]:AV)=Ln.v ⟨row,kind,dev,port,peer,far,name,mac,addr,bits,vlan,num,cost,tagged,imports,exports,addrs⟩:=by rw [Ln.e]
theorem Sp.mk_v{kind:Int}{port:Int}{dom:Int}{at_:Int}{bytes:BL}{up:TL}:(.agg [.int .i64 kind,.int .i64 port,.int .i64 dom,.int .i64 at_,bytes.v,up.v]:AV)=Sp.v ⟨kind,port,dom,at_,bytes,up⟩:=by rw [Sp.e]
theorem Se.mk_v{port:Int}{origin:Int}{bytes:BL}:(.agg [.int .i64 port,.int .i64 origin,bytes.v]:AV)=Se.v ⟨port,origin,bytes⟩:=by rw [Se.e]
theorem Ou.mk_v{kind:Int}{port:Int}{dom:Int}{bytes:BL}{frame_dst:Int}{frame_src:Int}{frame_typ:Int}{frame_body:BL}{err:Int}:(.agg [.int .i64 kind,.int .i64 port,.int .i64 dom,bytes.v,.int .u64 frame_dst,.int .u64 frame_src,.int .i64 frame_typ,frame_body.v,.int .i64 err]:AV)=Ou.v ⟨kind,port,dom,bytes,⟨frame_dst,frame_src,frame_typ,frame_body⟩,err⟩:=by rw [Ou.e]
theorem Pk.mk_v{tos:Int}{id:Int}{ttl:Int}{proto:Int}{src:Int}{dst:Int}{body:BL}:(.agg [.int .i64 tos,.int .i64 id,.int .i64 ttl,.int .i64 proto,.int .u32 src,.int .u32 dst,body.v]:AV)=Pk.v ⟨tos,id,ttl,proto,src,dst,body⟩:=by rw [Pk.e]
theorem Re.mk_v{root:Int}{cost:Int}{dev:Int}:(.agg [.int .i64 root,.int .i64 cost,.int .i64 dev]:AV)=Re.v ⟨root,cost,dev⟩:=by rw [Re.e]
theorem Ve.mk_v{root:Int}{cost:Int}{bridge:Int}{port:Int}{own:Int}:(.agg [.int .i64 root,.int .i64 cost,.int .i64 bridge,.int .i64 port,.int .i64 own]:AV)=Ve.v ⟨root,cost,bridge,port,own⟩:=by rw [Ve.e]
theorem bz1{x:Nat × Nat × AV}{r:List (Nat × Nat × AV)}:buildC z1 (x :: r)=buildC [(.sl 0 [] true),(.sl 0 [] true),(.sl 0 [] true),(.sl 0 [] true),(.sl 0 [] true),(.sl 0 [] true),(.sl 0 [] true),(.sl 0 [] true)] (x :: r):=rfl
theorem bz2{x:Nat × Nat × AV}{r:List (Nat × Nat × AV)}:buildC z2 (x :: r)=buildC [(.int .u32 0),(.int .i32 0),(.int .u32 0),(.sl 0 [] true),(.sl 0 [] true),(.sl 0 [] true),(.sl 0 [] true),(.sl 0 [] true),(.sl 0 [] true),(.sl 0 [] true),(.sl 0 [] true),(.sl 0 [] true),(.int .i64 0),(.int .i64 0)] (x :: r):=rfl
theorem bz3{x:Nat × Nat × AV}{r:List (Nat × Nat × AV)}:buildC z3 (x :: r)=buildC [(.sl 0 [] true),(.int .u32 0),(.int .i32 0),(.int .u32 0),(.sl 0 [] true)] (x :: r):=rfl
theorem bz4{x:Nat × Nat × AV}{r:List (Nat × Nat × AV)}:buildC z4 (x :: r)=buildC [(.sl 0 [] true),(.sl 0 [] true),(.sl 0 [] true),(.sl 0 [] true),(.sl 0 [] true),(.sl 0 [] true),(.sl 0 [] true),(.sl 0 [] true),(.lit (.pointer none)),(.sl 0 [] true),(.sl 0 [] true),(.int .i64 0),(.int .i64 0),(.int .i64 0),(.int .i64 0),(.int .i64 0),(.int .i64 0),(.int .i64 0),(.int .i64 0),(.int .i64 0),(.int .i64 0),(.int .i64 0),(.int .i64 0),(.int .i64 0),(.int .i64 0),(.int .i64 0),(.int .i64 0),(.int .i64 0),(.int .i64 0),(.int .i64 0),(.int .i64 0),(.int .i64 0),(.int .i64 0),(.int .i64 0),(.int .i64 0),(.int .i64 0),(.int .i64 0),(.int .i64 0),(.int .i64 0),(.int .i64 0),(.int .i64 0),(.int .i64 0),(.int .i64 0),(.int .i64 0),(.int .i64 0),(.int .i64 0),(.int .i64 0),(.int .i64 0),(.int .i64 0),(.int .i64 0),(.int .i64 0),(.int .i64 0),(.int .i64 0),(.int .i64 0),(.int .i64 0),(.int .i64 0),(.int .i64 0),(.int .i64 0),(.int .i64 0),(.int .i64 0),(.int .i64 0),(.int .i64 0),(.int .i64 0),(.int .i64 0),(.int .i64 0),(.int .i64 0),(.int .i64 0),(.int .i64 0),(.int .i64 0),(.int .i64 0),(.int .i64 0),(.int .i64 0),(.int .i64 0),(.int .i64 0),(.int .i64 0),(.int .i64 0),(.int .i64 0)] (x :: r):=rfl
theorem bz5{x:Nat × Nat × AV}{r:List (Nat × Nat × AV)}:buildC z5 (x :: r)=buildC [(.int .i64 0),(.int .i64 0),(.int .i64 0),(.int .u64 0),(.int .u64 0),(.int .i64 0),(.sl 0 [] true)] (x :: r):=rfl
theorem bz6{x:Nat × Nat × AV}{r:List (Nat × Nat × AV)}:buildC z6 (x :: r)=buildC [(.int .i64 0),(.int .i64 0),(.int .i64 0)] (x :: r):=rfl
theorem bz7{x:Nat × Nat × AV}{r:List (Nat × Nat × AV)}:buildC z7 (x :: r)=buildC [(.int .u64 0),(.int .u64 0),(.int .i64 0),(.sl 0 [] true)] (x :: r):=rfl
theorem bz8{x:Nat × Nat × AV}{r:List (Nat × Nat × AV)}:buildC z8 (x :: r)=buildC [(.int .i64 0),(.int .i64 0),(.int .i64 0),(.sl 0 [] true),(.int .u64 0),(.int .u64 0),(.int .i64 0),(.sl 0 [] true),(.int .i64 0)] (x :: r):=rfl
theorem bz9{x:Nat × Nat × AV}{r:List (Nat × Nat × AV)}:buildC z9 (x :: r)=buildC [(.int .i64 0),(.int .i64 0),(.str []),(.str []),(.str []),(.str []),(.str []),(.int .u64 0),(.int .u32 0),(.int .i64 0),(.int .i64 0),(.int .i64 0),(.int .i64 0),(.sl 0 [] true),(.sl 0 [] true),(.sl 0 [] true),(.sl 0 [] true)] (x :: r):=rfl
theorem bz10{x:Nat × Nat × AV}{r:List (Nat × Nat × AV)}:buildC z10 (x :: r)=buildC [(.sl 0 [] true),(.sl 0 [] true),(.sl 0 [] true),(.sl 0 [] true),(.sl 0 [] true),(.sl 0 [] true),(.sl 0 [] true),(.sl 0 [] true),(.sl 0 [] true),(.sl 0 [] true),(.sl 0 [] true),(.sl 0 [] true)] (x :: r):=rfl
theorem bz11{x:Nat × Nat × AV}{r:List (Nat × Nat × AV)}:buildC z11 (x :: r)=buildC [(.int .i64 0),(.int .i64 0),(.int .i64 0),(.int .i64 0),(.int .i64 0),(.str []),(.sl 0 [] true)] (x :: r):=rfl
theorem bz12{x:Nat × Nat × AV}{r:List (Nat × Nat × AV)}:buildC z12 (x :: r)=buildC [(.int .i64 0),(.int .i64 0),(.sl 0 [] true)] (x :: r):=rfl
theorem bz13{x:Nat × Nat × AV}{r:List (Nat × Nat × AV)}:buildC z13 (x :: r)=buildC [(.int .i64 0),(.int .i64 0),(.int .i64 0),(.sl 0 [] true)] (x :: r):=rfl
theorem bz14{x:Nat × Nat × AV}{r:List (Nat × Nat × AV)}:buildC z14 (x :: r)=buildC [(.int .i64 0),(.int .i64 0),(.int .i64 0),(.int .i64 0),(.int .i64 0),(.sl 0 [] true)] (x :: r):=rfl
theorem bz15{x:Nat × Nat × AV}{r:List (Nat × Nat × AV)}:buildC z15 (x :: r)=buildC [(.int .i64 0),(.int .i64 0),(.int .i64 0),(.int .i64 0),(.int .i64 0)] (x :: r):=rfl
theorem bz16{x:Nat × Nat × AV}{r:List (Nat × Nat × AV)}:buildC z16 (x :: r)=buildC [(.int .u64 0),(.int .i64 0),(.int .i64 0)] (x :: r):=rfl
theorem bz17{x:Nat × Nat × AV}{r:List (Nat × Nat × AV)}:buildC z17 (x :: r)=buildC [(.int .i64 0),(.int .i64 0),(.int .i64 0),(.int .i64 0),(.int .u32 0),(.int .u32 0),(.sl 0 [] true)] (x :: r):=rfl
theorem bz18{x:Nat × Nat × AV}{r:List (Nat × Nat × AV)}:buildC z18 (x :: r)=buildC [(.int .i64 0),(.int .i64 0),(.str []),(.int .u64 0),(.int .u32 0)] (x :: r):=rfl
theorem bz19{x:Nat × Nat × AV}{r:List (Nat × Nat × AV)}:buildC z19 (x :: r)=buildC [(.int .i64 0),(.int .i64 0)] (x :: r):=rfl
theorem bz20{x:Nat × Nat × AV}{r:List (Nat × Nat × AV)}:buildC z20 (x :: r)=buildC [(.int .i64 0),(.int .i64 0),(.int .i64 0),(.int .u64 0)] (x :: r):=rfl
theorem bz21{x:Nat × Nat × AV}{r:List (Nat × Nat × AV)}:buildC z21 (x :: r)=buildC [(.int .i64 0),(.int .i64 0),(.str []),(.sl 0 [] true),(.sl 0 [] true)] (x :: r):=rfl
theorem bz22{x:Nat × Nat × AV}{r:List (Nat × Nat × AV)}:buildC z22 (x :: r)=buildC [(.int .u32 0),(.int .i64 0)] (x :: r):=rfl
theorem bz23{x:Nat × Nat × AV}{r:List (Nat × Nat × AV)}:buildC z23 (x :: r)=buildC [(.int .i64 0),(.int .i64 0),(.int .i64 0),(.int .u32 0),(.int .i64 0)] (x :: r):=rfl
theorem bz24{x:Nat × Nat × AV}{r:List (Nat × Nat × AV)}:buildC z24 (x :: r)=buildC [(.sl 0 [] true),(.sl 0 [] true),(.sl 0 [] true),(.sl 0 [] true),(.sl 0 [] true),(.sl 0 [] true),(.sl 0 [] true),(.sl 0 [] true),(.sl 0 [] true),(.int .i64 0),(.int .i64 0),(.sl 0 [] true)] (x :: r):=rfl
theorem bz26{x:Nat × Nat × AV}{r:List (Nat × Nat × AV)}:buildC z26 (x :: r)=buildC [(.int .i64 0),(.int .i64 0),(.int .i64 0),(.int .i64 0)] (x :: r):=rfl
theorem buildC_c{a:AV}{w:List AV}{off n:Nat}{v:AV}{r:List (Nat × Nat × AV)}:buildC (a :: w) ((off,n,v) :: r)=if v.ones=true∧v.flat.length=n∧off+n ≤(a :: w).length then buildC ((a :: w).take off ++(v.flat ++(a :: w).drop (off+n))) r else none:=rfl
def bz:=And.intro @bz1 <| And.intro @bz2 <| And.intro @bz3 <| And.intro @bz4 <| And.intro @bz5 <| And.intro @bz6 <| And.intro @bz7 <| And.intro @bz8 <| And.intro @bz9 <| And.intro @bz10 <| And.intro @bz11 <| And.intro @bz12 <| And.intro @bz13 <| And.intro @bz14 <| And.intro @bz15 <| And.intro @bz16 <| And.intro @bz17 <| And.intro @bz18 <| And.intro @bz19 <| And.intro @bz20 <| And.intro @bz21 <| And.intro @bz22 <| And.intro @bz23 <| And.intro @bz24 <| And.intro @bz26 <| @buildC_c
theorem Dv.sr(x:Dv){ds:List AV}(h:(AV.agg ds).ones=true)(h2:ds.length=5):setCells x.v (.agg ds) 0 5=some (.agg ds):=by rw [Dv.e]; exact setCells_all rfl h h2
theorem Pt.sr(x:Pt){ds:List AV}(h:(AV.agg ds).ones=true)(h2:ds.length=7):setCells x.v (.agg ds) 0 7=some (.agg ds):=by rw [Pt.e]; exact setCells_all rfl h h2
theorem Lk.sr(x:Lk){ds:List AV}(h:(AV.agg ds).ones=true)(h2:ds.length=3):setCells x.v (.agg ds) 0 3=some (.agg ds):=by rw [Lk.e]; exact setCells_all rfl h h2
theorem Dm.sr(x:Dm){ds:List AV}(h:(AV.agg ds).ones=true)(h2:ds.length=6):setCells x.v (.agg ds) 0 6=some (.agg ds):=by rw [Dm.e]; exact setCells_all rfl h h2
theorem Fl.sr(x:Fl){ds:List AV}(h:(AV.agg ds).ones=true)(h2:ds.length=4):setCells x.v (.agg ds) 0 4=some (.agg ds):=by rw [Fl.e]; exact setCells_all rfl h h2
theorem Sc.sr(x:Sc){ds:List AV}(h:(AV.agg ds).ones=true)(h2:ds.length=4):setCells x.v (.agg ds) 0 4=some (.agg ds):=by rw [Sc.e]; exact setCells_all rfl h h2
theorem Vf.sr(x:Vf){ds:List AV}(h:(AV.agg ds).ones=true)(h2:ds.length=5):setCells x.v (.agg ds) 0 5=some (.agg ds):=by rw [Vf.e]; exact setCells_all rfl h h2
theorem Px.sr(x:Px){ds:List AV}(h:(AV.agg ds).ones=true)(h2:ds.length=2):setCells x.v (.agg ds) 0 2=some (.agg ds):=by rw [Px.e]; exact setCells_all rfl h h2
theorem Ib.sr(x:Ib){ds:List AV}(h:(AV.agg ds).ones=true)(h2:ds.length=5):setCells x.v (.agg ds) 0 5=some (.agg ds):=by rw [Ib.e]; exact setCells_all rfl h h2
theorem Nt.sr(x:Nt){ds:List AV}(h:(AV.agg ds).ones=true)(h2:ds.length=8):setCells x.v (.agg ds) 0 8=some (.agg ds):=by rw [Nt.e]; exact setCells_all rfl h h2
theorem Fm.sr(x:Fm){ds:List AV}(h:(AV.agg ds).ones=true)(h2:ds.length=4):setCells x.v (.agg ds) 0 4=some (.agg ds):=by rw [Fm.e]; exact setCells_all rfl h h2
theorem Qd.sr(x:Qd){ds:List AV}(h:(AV.agg ds).ones=true)(h2:ds.length=7):setCells x.v (.agg ds) 0 7=some (.agg ds):=by rw [Qd.e]; exact setCells_all rfl h h2
theorem En.sr(x:En){ds:List AV}(h:(AV.agg ds).ones=true)(h2:ds.length=3):setCells x.v (.agg ds) 0 3=some (.agg ds):=by rw [En.e]; exact setCells_all rfl h h2
theorem Ln.sr(x:Ln){ds:List AV}(h:(AV.agg ds).ones=true)(h2:ds.length=17):setCells x.v (.agg ds) 0 17=some (.agg ds):=by rw [Ln.e]; exact setCells_all rfl h h2
theorem Sp.sr(x:Sp){ds:List AV}(h:(AV.agg ds).ones=true)(h2:ds.length=6):setCells x.v (.agg ds) 0 6=some (.agg ds):=by rw [Sp.e]; exact setCells_all rfl h h2
theorem Se.sr(x:Se){ds:List AV}(h:(AV.agg ds).ones=true)(h2:ds.length=3):setCells x.v (.agg ds) 0 3=some (.agg ds):=by rw [Se.e]; exact setCells_all rfl h h2
theorem Ou.sr(x:Ou){ds:List AV}(h:(AV.agg ds).ones=true)(h2:ds.length=9):setCells x.v (.agg ds) 0 9=some (.agg ds):=by rw [Ou.e]; exact setCells_all rfl h h2
theorem Pk.sr(x:Pk){ds:List AV}(h:(AV.agg ds).ones=true)(h2:ds.length=7):setCells x.v (.agg ds) 0 7=some (.agg ds):=by rw [Pk.e]; exact setCells_all rfl h h2
theorem Re.sr(x:Re){ds:List AV}(h:(AV.agg ds).ones=true)(h2:ds.length=3):setCells x.v (.agg ds) 0 3=some (.agg ds):=by rw [Re.e]; exact setCells_all rfl h h2
theorem Ve.sr(x:Ve){ds:List AV}(h:(AV.agg ds).ones=true)(h2:ds.length=5):setCells x.v (.agg ds) 0 5=some (.agg ds):=by rw [Ve.e]; exact setCells_all rfl h h2
def zd:=And.intro @z0_Sp <| And.intro @z1_Nt <| And.intro @z5_Qd <| And.intro @z7_Fm <| And.intro @z8_Ou <| And.intro @z9_Ln <| And.intro @z11_Pt <| And.intro @z12_Se <| And.intro @z13_Fl <| And.intro @z14_Dm <| And.intro @z15_Ve <| And.intro @z16_En <| And.intro @z17_Pk <| And.intro @z18_Dv <| And.intro @z20_Sc <| And.intro @z21_Vf <| @z23_Ib
def mk:=And.intro @Dv.mk_v <| And.intro @Pt.mk_v <| And.intro @Dm.mk_v <| And.intro @Fl.mk_v <| And.intro @Sc.mk_v <| And.intro @Vf.mk_v <| And.intro @Px.mk_v <| And.intro @Ib.mk_v <| And.intro @Nt.mk_v <| And.intro @Fm.mk_v <| And.intro @Qd.mk_v <| And.intro @En.mk_v <| And.intro @Se.mk_v <| And.intro @Pk.mk_v <| And.intro @Ve.mk_v <| And.intro @Nt.sr <| @Fm.sr
end Go.Proofs.Tx
namespace Go.Pv
structure Rd where
 pk:Pk
 vni:Int
 err:Int
instance:Inhabited Rd:=⟨⟨default,default,default⟩⟩
@[irreducible] def Rd.v (x:Rd):AV:=.agg [.int .i64 x.pk.tos,.int .i64 x.pk.id,.int .i64 x.pk.ttl,.int .i64 x.pk.proto,.int .u32 x.pk.src,.int .u32 x.pk.dst,x.pk.body.v,.int .i64 x.vni,.int .i64 x.err]
theorem Rd.e(x:Rd):x.v=.agg [.int .i64 x.pk.tos,.int .i64 x.pk.id,.int .i64 x.pk.ttl,.int .i64 x.pk.proto,.int .u32 x.pk.src,.int .u32 x.pk.dst,x.pk.body.v,.int .i64 x.vni,.int .i64 x.err]:=by rw [Rd.v]
theorem Rd.fl(x:Rd):x.v.flat.length=9:=by rw [Rd.e]; rfl
theorem Rd.on(x:Rd):x.v.ones=true:=by rw [Rd.e]; simp [AV.ones,AV.flat,SL.e,AV.one]
theorem Rd.nr1(x:Rd):x.v.nr1=true:=by rw [Rd.e]; simp [AV.nr1,SL.e,AV.nr0]
theorem Rd.pl(x:Rd):x.v.pl=true:=by rw [Rd.e]; simp [AV.pl,SL.e,AV.pl0]
theorem Rd.la{hp:Hp}(x:Rd):layA hp x.v =(x.v,hp):=layA_nr x.nr1
theorem Rd.ca(x:Rd):cells x.v 0 9 true=some x.v:=by rw [Rd.e]; rfl
theorem Rd.c_pk_proto(x:Rd):cells x.v 3 1 false=some (.int .i64 x.pk.proto):=by rw [Rd.e]; rfl
theorem Rd.c_pk_src(x:Rd):cells x.v 4 1 false=some (.int .u32 x.pk.src):=by rw [Rd.e]; rfl
theorem Rd.c_pk_dst(x:Rd):cells x.v 5 1 false=some (.int .u32 x.pk.dst):=by rw [Rd.e]; rfl
theorem Rd.c_pk_body(x:Rd):cells x.v 6 1 false=some (x.pk.body.v):=by rw [Rd.e]; rfl
theorem Rd.c_vni(x:Rd):cells x.v 7 1 false=some (.int .i64 x.vni):=by rw [Rd.e]; rfl
theorem Rd.s_vni(x:Rd)(a:Int):setCells x.v (.int .i64 a) 7 1=some (Rd.v { x with vni:=a }):=by rw [Rd.e,Rd.e]; simp [setCells,AV.ones,AV.flat,AV.one]
theorem Rd.c_err(x:Rd):cells x.v 8 1 false=some (.int .i64 x.err):=by rw [Rd.e]; rfl
theorem Rd.s_err(x:Rd)(a:Int):setCells x.v (.int .i64 a) 8 1=some (Rd.v { x with err:=a }):=by rw [Rd.e,Rd.e]; simp [setCells,AV.ones,AV.flat,AV.one]
theorem Rd.sa{cs:List AV}(x:Rd)(h:cs.length=9):setCells (.agg cs) x.v 0 9=some x.v:=by rw [Rd.e]; exact setCells_all h (by have:=x.on; rw [Rd.e] at this; exact this) rfl
theorem Rd.sb(y x:Rd):setCells y.v x.v 0 9=some x.v:=by rw [Rd.e y]; exact Rd.sa x rfl
structure Rm where
 n:Nt
 forward:TL
 at_:Int
 frm:Int
 members:IL
instance:Inhabited Rm:=⟨⟨default,default,default,default,default⟩⟩
@[irreducible] def Rm.v (x:Rm):AV:=.agg [x.n.devs.v,x.n.ports.v,x.n.links.v,x.n.doms.v,x.n.stats.v,x.n.floods.v,x.n.vrfs.v,x.n.irbs.v,x.forward.v,.int .i64 x.at_,.int .i64 x.frm,x.members.v]
theorem Rm.e(x:Rm):x.v=.agg [x.n.devs.v,x.n.ports.v,x.n.links.v,x.n.doms.v,x.n.stats.v,x.n.floods.v,x.n.vrfs.v,x.n.irbs.v,x.forward.v,.int .i64 x.at_,.int .i64 x.frm,x.members.v]:=by rw [Rm.v]
theorem Rm.fl(x:Rm):x.v.flat.length=12:=by rw [Rm.e]; rfl
theorem Rm.on(x:Rm):x.v.ones=true:=by rw [Rm.e]; simp [AV.ones,AV.flat,SL.e,AV.one]
theorem Rm.nr1(x:Rm):x.v.nr1=true:=by rw [Rm.e]; simp [AV.nr1,SL.e,AV.nr0]
theorem Rm.pl(x:Rm):x.v.pl=true:=by rw [Rm.e]; simp [AV.pl,SL.e,AV.pl0]
theorem Rm.la{hp:Hp}(x:Rm):layA hp x.v =(x.v,hp):=layA_nr x.nr1
theorem Rm.ca(x:Rm):cells x.v 0 12 true=some x.v:=by rw [Rm.e]; rfl
theorem Rm.c_n(x:Rm):cells x.v 0 8 true=some x.n.v:=by rw [Rm.e,Nt.e]; rfl
theorem Rm.c_n_devs(x:Rm):cells x.v 0 1 false=some (x.n.devs.v):=by rw [Rm.e]; rfl
theorem Rm.c_n_ports(x:Rm):cells x.v 1 1 false=some (x.n.ports.v):=by rw [Rm.e]; rfl
theorem Rm.c_n_links(x:Rm):cells x.v 2 1 false=some (x.n.links.v):=by rw [Rm.e]; rfl
theorem Rm.c_n_doms(x:Rm):cells x.v 3 1 false=some (x.n.doms.v):=by rw [Rm.e]; rfl
theorem Rm.c_forward(x:Rm):cells x.v 8 1 false=some (x.forward.v):=by rw [Rm.e]; rfl
theorem Rm.c_at_(x:Rm):cells x.v 9 1 false=some (.int .i64 x.at_):=by rw [Rm.e]; rfl
theorem Rm.c_frm(x:Rm):cells x.v 10 1 false=some (.int .i64 x.frm):=by rw [Rm.e]; rfl
theorem Rm.s_frm(x:Rm)(a:Int):setCells x.v (.int .i64 a) 10 1=some (Rm.v { x with frm:=a }):=by rw [Rm.e,Rm.e]; simp [setCells,AV.ones,AV.flat,AV.one]
theorem Rm.c_members(x:Rm):cells x.v 11 1 false=some (x.members.v):=by rw [Rm.e]; rfl
theorem Rm.sa{cs:List AV}(x:Rm)(h:cs.length=12):setCells (.agg cs) x.v 0 12=some x.v:=by rw [Rm.e]; exact setCells_all h (by have:=x.on; rw [Rm.e] at this; exact this) rfl
theorem Rm.sb(y x:Rm):setCells y.v x.v 0 12=some x.v:=by rw [Rm.e y]; exact Rm.sa x rfl
theorem Dv.af(x:Dv):(.agg x.v.flat:AV)=x.v:=by rw [Dv.e]; rfl
theorem Pt.af(x:Pt):(.agg x.v.flat:AV)=x.v:=by rw [Pt.e]; rfl
theorem Lk.af(x:Lk):(.agg x.v.flat:AV)=x.v:=by rw [Lk.e]; rfl
theorem Dm.af(x:Dm):(.agg x.v.flat:AV)=x.v:=by rw [Dm.e]; rfl
theorem Fl.af(x:Fl):(.agg x.v.flat:AV)=x.v:=by rw [Fl.e]; rfl
theorem Sc.af(x:Sc):(.agg x.v.flat:AV)=x.v:=by rw [Sc.e]; rfl
theorem Vf.af(x:Vf):(.agg x.v.flat:AV)=x.v:=by rw [Vf.e]; rfl
theorem Px.af(x:Px):(.agg x.v.flat:AV)=x.v:=by rw [Px.e]; rfl
theorem Ib.af(x:Ib):(.agg x.v.flat:AV)=x.v:=by rw [Ib.e]; rfl
theorem Nt.af(x:Nt):(.agg x.v.flat:AV)=x.v:=by rw [Nt.e]; rfl
theorem Fm.af(x:Fm):(.agg x.v.flat:AV)=x.v:=by rw [Fm.e]; rfl
theorem Qd.af(x:Qd):(.agg x.v.flat:AV)=x.v:=by rw [Qd.e]; rfl
theorem Qd.s_frame(x:Qd)(y:Fm):setCells x.v y.v 3 4=some (Qd.v { x with frame:=y }):=by rw [Qd.e,Qd.e,Fm.e]; simp [setCells,AV.ones,AV.flat,SL.e,AV.one]
theorem En.af(x:En):(.agg x.v.flat:AV)=x.v:=by rw [En.e]; rfl
theorem Ln.af(x:Ln):(.agg x.v.flat:AV)=x.v:=by rw [Ln.e]; rfl
theorem Sp.af(x:Sp):(.agg x.v.flat:AV)=x.v:=by rw [Sp.e]; rfl
theorem Se.af(x:Se):(.agg x.v.flat:AV)=x.v:=by rw [Se.e]; rfl
theorem Ou.af(x:Ou):(.agg x.v.flat:AV)=x.v:=by rw [Ou.e]; rfl
theorem Ou.s_frame(x:Ou)(y:Fm):setCells x.v y.v 4 4=some (Ou.v { x with frame:=y }):=by rw [Ou.e,Ou.e,Fm.e]; simp [setCells,AV.ones,AV.flat,SL.e,AV.one]
theorem Pk.af(x:Pk):(.agg x.v.flat:AV)=x.v:=by rw [Pk.e]; rfl
theorem Re.af(x:Re):(.agg x.v.flat:AV)=x.v:=by rw [Re.e]; rfl
theorem Ve.af(x:Ve):(.agg x.v.flat:AV)=x.v:=by rw [Ve.e]; rfl
theorem Rd.af(x:Rd):(.agg x.v.flat:AV)=x.v:=by rw [Rd.e]; rfl
theorem Rd.s_pk(x:Rd)(y:Pk):setCells x.v y.v 0 7=some (Rd.v { x with pk:=y }):=by rw [Rd.e,Rd.e,Pk.e]; simp [setCells,AV.ones,AV.flat,SL.e,AV.one]
theorem Rm.af(x:Rm):(.agg x.v.flat:AV)=x.v:=by rw [Rm.e]; rfl
theorem Rm.s_n(x:Rm)(y:Nt):setCells x.v y.v 0 8=some (Rm.v { x with n:=y }):=by rw [Rm.e,Rm.e,Nt.e]; simp [setCells,AV.ones,AV.flat,SL.e,AV.one]
theorem Rd.mk_v{pk_tos:Int}{pk_id:Int}{pk_ttl:Int}{pk_proto:Int}{pk_src:Int}{pk_dst:Int}{pk_body:BL}{vni:Int}{err:Int}:(.agg [.int .i64 pk_tos,.int .i64 pk_id,.int .i64 pk_ttl,.int .i64 pk_proto,.int .u32 pk_src,.int .u32 pk_dst,pk_body.v,.int .i64 vni,.int .i64 err]:AV)=Rd.v ⟨⟨pk_tos,pk_id,pk_ttl,pk_proto,pk_src,pk_dst,pk_body⟩,vni,err⟩:=by rw [Rd.e]
theorem Rm.mk_v{n_devs:SL Dv Dv.v 5}{n_ports:SL Pt Pt.v 7}{n_links:SL Lk Lk.v 3}{n_doms:SL Dm Dm.v 6}{n_stats:SL Sc Sc.v 4}{n_floods:SL Fl Fl.v 4}{n_vrfs:SL Vf Vf.v 5}{n_irbs:SL Ib Ib.v 5}{forward:TL}{at_:Int}{frm:Int}{members:IL}:(.agg [n_devs.v,n_ports.v,n_links.v,n_doms.v,n_stats.v,n_floods.v,n_vrfs.v,n_irbs.v,forward.v,.int .i64 at_,.int .i64 frm,members.v]:AV)=Rm.v ⟨⟨n_devs,n_ports,n_links,n_doms,n_stats,n_floods,n_vrfs,n_irbs⟩,forward,at_,frm,members⟩:=by rw [Rm.e]
theorem Dv.flat_e(x:Dv):x.v.flat=[.int .i64 x.row,.int .i64 x.prio,.str x.name,.int .u64 x.mac,.int .u32 x.vtep]:=by rw [Dv.e]; rfl
theorem Pt.flat_e(x:Pt):x.v.flat=[.int .i64 x.row,.int .i64 x.dev,.int .i64 x.native,.int .i64 x.cost,.int .i64 x.link,.str x.name,x.tagged.v]:=by rw [Pt.e]; rfl
theorem Lk.flat_e(x:Lk):x.v.flat=[.int .i64 x.row,.int .i64 x.a,.int .i64 x.b]:=by rw [Lk.e]; rfl
theorem Dm.flat_e(x:Dm):x.v.flat=[.int .i64 x.dev,.int .i64 x.vlan,.int .i64 x.vni,.int .i64 x.irb,.int .i64 x.row,x.peers.v]:=by rw [Dm.e]; rfl
theorem Fl.flat_e(x:Fl):x.v.flat=[.int .i64 x.row,.int .i64 x.dev,.int .i64 x.vni,x.addrs.v]:=by rw [Fl.e]; rfl
theorem Sc.flat_e(x:Sc):x.v.flat=[.int .i64 x.row,.int .i64 x.dom,.int .i64 x.port,.int .u64 x.mac]:=by rw [Sc.e]; rfl
theorem Vf.flat_e(x:Vf):x.v.flat=[.int .i64 x.row,.int .i64 x.dev,.str x.name,x.imports.v,x.exports.v]:=by rw [Vf.e]; rfl
theorem Px.flat_e(x:Px):x.v.flat=[.int .u32 x.addr,.int .i64 x.bits]:=by rw [Px.e]; rfl
theorem Ib.flat_e(x:Ib):x.v.flat=[.int .i64 x.row,.int .i64 x.dom,.int .i64 x.vrf,.int .u32 x.net.addr,.int .i64 x.net.bits]:=by rw [Ib.e]; rfl
theorem Nt.flat_e(x:Nt):x.v.flat=[x.devs.v,x.ports.v,x.links.v,x.doms.v,x.stats.v,x.floods.v,x.vrfs.v,x.irbs.v]:=by rw [Nt.e]; rfl
theorem Fm.flat_e(x:Fm):x.v.flat=[.int .u64 x.dst,.int .u64 x.src,.int .i64 x.typ,x.body.v]:=by rw [Fm.e]; rfl
theorem Qd.flat_e(x:Qd):x.v.flat=[.int .i64 x.frm,.int .i64 x.peer,.int .i64 x.origin,.int .u64 x.frame.dst,.int .u64 x.frame.src,.int .i64 x.frame.typ,x.frame.body.v]:=by rw [Qd.e]; rfl
theorem En.flat_e(x:En):x.v.flat=[.int .u64 x.mac,.int .i64 x.wh,.int .i64 x.seen]:=by rw [En.e]; rfl
theorem Ln.flat_e(x:Ln):x.v.flat=[.int .i64 x.row,.int .i64 x.kind,.str x.dev,.str x.port,.str x.peer,.str x.far,.str x.name,.int .u64 x.mac,.int .u32 x.addr,.int .i64 x.bits,.int .i64 x.vlan,.int .i64 x.num,.int .i64 x.cost,x.tagged.v,x.imports.v,x.exports.v,x.addrs.v]:=by rw [Ln.e]; rfl
theorem Sp.flat_e(x:Sp):x.v.flat=[.int .i64 x.kind,.int .i64 x.port,.int .i64 x.dom,.int .i64 x.at_,x.bytes.v,x.up.v]:=by rw [Sp.e]; rfl
theorem Se.flat_e(x:Se):x.v.flat=[.int .i64 x.port,.int .i64 x.origin,x.bytes.v]:=by rw [Se.e]; rfl
theorem Ou.flat_e(x:Ou):x.v.flat=[.int .i64 x.kind,.int .i64 x.port,.int .i64 x.dom,x.bytes.v,.int .u64 x.frame.dst,.int .u64 x.frame.src,.int .i64 x.frame.typ,x.frame.body.v,.int .i64 x.err]:=by rw [Ou.e]; rfl
theorem Pk.flat_e(x:Pk):x.v.flat=[.int .i64 x.tos,.int .i64 x.id,.int .i64 x.ttl,.int .i64 x.proto,.int .u32 x.src,.int .u32 x.dst,x.body.v]:=by rw [Pk.e]; rfl
theorem Re.flat_e(x:Re):x.v.flat=[.int .i64 x.root,.int .i64 x.cost,.int .i64 x.dev]:=by rw [Re.e]; rfl
theorem Ve.flat_e(x:Ve):x.v.flat=[.int .i64 x.root,.int .i64 x.cost,.int .i64 x.bridge,.int .i64 x.port,.int .i64 x.own]:=by rw [Ve.e]; rfl
theorem z25_Rd:(.agg Go.Proofs.Tx.z25:AV)=Rd.v default:=by
 rw [Rd.e]
 show(.agg [(.int .i64 0),(.int .i64 0),(.int .i64 0),(.int .i64 0),(.int .u32 0),(.int .u32 0),(.sl 0 [] true),(.int .i64 0),(.int .i64 0)]:AV)=.agg [(.int .i64 0),(.int .i64 0),(.int .i64 0),(.int .i64 0),(.int .u32 0),(.int .u32 0),SL.nil.v,(.int .i64 0),(.int .i64 0)]
 simp only[← SL.nile]
def tt :=
 And.intro @Rd.on <| And.intro @Rd.c_pk_proto <| And.intro @Rd.c_pk_src <| And.intro @Rd.c_pk_dst <| And.intro @Rd.c_pk_body <| And.intro @Rd.c_vni <| And.intro @Rd.s_vni <| And.intro @Rd.c_err <| And.intro @Rd.s_err <| And.intro @Rm.on <| And.intro @Rm.nr1 <| And.intro @Rm.pl <| And.intro @Rm.c_n <| And.intro @Rm.c_n_doms <| And.intro @Rm.c_forward <| And.intro @Rm.c_at_ <| And.intro @Rm.c_frm <| And.intro @Rm.c_members <| And.intro @Nt.af <| And.intro @Qd.s_frame <| And.intro @Rd.s_pk <| @z25_Rd
end Go.Pv
namespace Go.Pv
section
variable {b c:UInt8} {n a:Int}
theorem wb_i:IntKind.i64.wrap (b.toNat:Int)=b.toNat:=wrap_i64_u8
theorem mbi8:(2:Int) ^ min 8 IntKind.i64.bits=256:=by decide
theorem mbi12:(2:Int) ^ min 12 IntKind.i64.bits=4096:=by decide
theorem mbi16:(2:Int) ^ min 16 IntKind.i64.bits=65536:=by decide
theorem mbu16:(2:Int) ^ min 16 IntKind.u32.bits=65536:=by decide
theorem fd8:n.fdiv 256=n / 256:=fdiv_pos (by decide)
theorem fd12:n.fdiv 4096=n / 4096:=fdiv_pos (by decide)
theorem fd16:n.fdiv 65536=n / 65536:=fdiv_pos (by decide)
theorem an16:and2 .i64 n 65535=n % 65536:=and2_two (k:=.i64) (j:=16) (by decide)
theorem an12:and2 .i64 n 4095=n % 4096:=and2_two (k:=.i64) (j:=12) (by decide)
theorem an1:and2 .i64 n 1=n % 2:=and_i64_1
theorem wb_i8:IntKind.i64.wrap ((b.toNat:Int) * 256)=b.toNat * 256:=by have:=b.toNat_lt; exact wrap_i64 (by omega) (by omega)
theorem wb_i16:IntKind.i64.wrap ((b.toNat:Int) * 65536)=b.toNat * 65536:=by have:=b.toNat_lt; exact wrap_i64 (by omega) (by omega)
theorem or_pr:or2 .i64 ((b.toNat:Int) * 256) (c.toNat:Int) =(b.toNat:Int) * 256 +(c.toNat:Int):=by
 have h1:=b.toNat_lt
 have h2:=c.toNat_lt
 exact or2_two (j:=8) (by omega) (by show _ <(2:Int) ^ 63; omega) (by omega) (by omega) (by decide) (by omega)
theorem or_p3{d:UInt8}:or2 .i64 (or2 .i64 ((b.toNat:Int) * 65536) ((c.toNat:Int) * 256)) (d.toNat:Int) =(b.toNat:Int) * 65536 +(c.toNat:Int) * 256+d.toNat:=by
 have h1:=b.toNat_lt
 have h2:=c.toNat_lt
 have h3:=d.toNat_lt
 have e:=or2_two (k:=.i64) (j:=16) (a:=(b.toNat:Int) * 65536) (b:=(c.toNat:Int) * 256) (by omega) (by show _ <(2:Int) ^ 63; omega) (by omega) (by omega) (by decide) (by omega)
 rw [e]
 exact or2_two (j:=8) (by omega) (by show _ <(2:Int) ^ 63; omega) (by omega) (by omega) (by decide) (by omega)
end
theorem rvs_0{fr:Fr}{hp:Hp}:rvs [] ⟨fr,hp⟩=some (.tup []):=(rfl)
theorem bv_set{l:List UInt8}{i:Nat}{b:UInt8}:(l.map bv).set i (bv b) =(l.set i b).map bv:=by rw [List.map_set]
theorem bv_ap{l m:List UInt8}:l.map bv ++ m.map bv =(l ++ m).map bv:=by simp
def wz:=And.intro @bv_set <| And.intro @bv_ap <| And.intro @wb_i <| And.intro @mbi8 <| And.intro @mbi12 <| And.intro @mbi16 <| And.intro @mbu16 <| And.intro @fd8 <| And.intro @fd12 <| And.intro @fd16 <| And.intro @an16 <| And.intro @an12 <| And.intro @an1 <| And.intro @wb_i8 <| And.intro @wb_i16 <| And.intro @or_pr <| And.intro @or_p3 <| And.intro @rvs_0 <| @finG_e
theorem bl_of{l:List UInt8}(n:l.length≤140737488355328):(.sl 1 (l.map bv) false:AV) =(SL.of l n:BL).v:=SL.ofe
theorem bl_of4{a b c d:UInt8}{l:List UInt8}(n:(a :: b :: c :: d :: l).length≤140737488355328):(.sl 1 (bv a :: bv b :: bv c :: bv d :: l.map bv) false:AV) =(SL.of (a :: b :: c :: d :: l) n:BL).v:=by rw [← SL.ofe]; rfl
section
variable [Lq] {P:Program} {f:FuncId} {args ys:List AV} {hp H1:Hp} {l:List Nat} {E:AV→Hp→Prop} {Q:AV→Prop}
theorem call_pl{fm:Bool}{no:List TypeId}(hp':pass hp [] args=some (ys,hp,l))(hv:liveB hp l=true)(h:∃ r,Run P f ys r∧Q r)(hpl:∀ r,Q r→r.pT=true)(hk:∀ r,Q r→vLay r hp E):wCall P f args hp false fm no E:=by
 obtain ⟨r,hr,hq⟩:=h
 exact⟨_,_,gen_plain hr hp' hv (hpl r hq),(fun h=>by cases h),hk r hq⟩
theorem callv_pl{g:FuncId}{caps:List AV}(hp':pass hp [] (fnArgs g args caps)=some (ys,hp,l))(hv:liveB hp l=true)(h:∃ r,Run P (fnId g) ys r∧Q r)(hpl:∀ r,Q r→r.pT=true)(hk:∀ r,Q r→vLay r hp E)(hg:g < ifB:=by decide):wCallv P (.fn g caps) args hp E:=by
 obtain ⟨r,hr,hq⟩:=h
 exact⟨hg,_,_,gen_plain hr hp' hv (hpl r hq),lay_len2 _ _,hk r hq⟩
end
end Go.Pv
namespace Go.Pv
section
variable {hp l m:Hp} {i j n:Nat} {x y:Option Ent} {e:Ent}
theorem entlt(h:ent hp i=some e):i < hp.length:=by
 unfold ent at h
 cases h3:hp[i]? with
 | none=>rw [h3] at h; cases h
 | some x=>exact(List.getElem?_eq_some_iff.1 h3).1
theorem ent_same(h:ent hp i=some e):hp.set i (some e)=hp:=by
 have h2:hp[i]?=some (some e):=by
  unfold ent at h
  cases h3:hp[i]? with
  | none=>rw [h3] at h; cases h
  | some x=>rw [h3] at h; simpa using h
 obtain ⟨hl,h4⟩:=List.getElem?_eq_some_iff.1 h2
 rw [← h4]; exact List.set_getElem_self hl
theorem ent_apl(h:i < hp.length):ent (hp ++ l) i=ent hp i:=by unfold ent; rw [List.getElem?_append_left h]
theorem ent_ap(h:ent hp i=some e)(l:Hp):ent (hp ++ l) i=some e:=by rw [ent_apl (entlt h),h]
theorem ent_ap0:ent (hp ++ l) hp.length=ent l 0:=by unfold ent; rw [List.getElem?_append_right (Nat.le_refl _),Nat.sub_self]
theorem ent_apn:ent (hp ++ l) (hp.length+n)=ent l n:=by unfold ent; rw [List.getElem?_append_right (Nat.le_add_right _ _),Nat.add_sub_cancel_left]
theorem ent_aps0:ent (hp.set i x ++ l) hp.length=ent l 0:=by have:=@ent_ap0 (hp.set i x) l; rwa [List.length_set] at this
theorem ent_apsn:ent (hp.set i x ++ l) (hp.length+n)=ent l n:=by have:=@ent_apn (hp.set i x) l n; rwa [List.length_set] at this
theorem set_apl(h:i < hp.length):(hp ++ l).set i x=hp.set i x ++ l:=List.set_append_left i x h
theorem set_ap0:(hp ++ l).set hp.length x=hp ++ l.set 0 x:=by rw [List.set_append_right _ _ (Nat.le_refl _),Nat.sub_self]
theorem set_apn:(hp ++ l).set (hp.length+n) x=hp ++ l.set n x:=by rw [List.set_append_right _ _ (Nat.le_add_right _ _),Nat.add_sub_cancel_left]
theorem set_aps0:(hp.set i y ++ l).set hp.length x=hp.set i y ++ l.set 0 x:=by have:=@set_ap0 (hp.set i y) l x; rwa [List.length_set] at this
theorem set_apsn:(hp.set i y ++ l).set (hp.length+n) x=hp.set i y ++ l.set n x:=by have:=@set_apn (hp.set i y) l n x; rwa [List.length_set] at this
theorem entset(h:i < hp.length):ent (hp.set i x) i=x:=by unfold ent; rw [List.getElem?_set_self h]; rfl
theorem ent_setn(h:i≠j):ent (hp.set i x) j=ent hp j:=by unfold ent; rw [List.getElem?_set_ne h]
theorem ent_sap(h:i < hp.length):ent (hp.set i x ++ l) i=x:=by rw [ent_apl (by rw [List.length_set]; exact h),entset h]
theorem set_set:(hp.set i x).set i y=hp.set i y:=by rw [List.set_set]
theorem set_sap(h:i < hp.length):(hp.set i x ++ l).set i y=hp.set i y ++ l:=by rw [set_apl (by rw [List.length_set]; exact h),set_set]
theorem ap_ap:hp ++ l ++ m=hp ++(l ++ m):=List.append_assoc _ _ _
theorem len_set:(hp.set i x).length=hp.length:=List.length_set
end
def wg:=And.intro @ent_ap0 <| And.intro @ent_apn <| And.intro @ent_aps0 <| And.intro @ent_apsn <| And.intro @set_apl <| And.intro @set_ap0 <| And.intro @set_apn <| And.intro @set_aps0 <| And.intro @set_apsn <| And.intro @entset <| And.intro @ent_sap <| And.intro @set_set <| And.intro @set_sap <| And.intro @ap_ap <| @len_set
end Go.Pv
set_option maxHeartbeats 2000000
set_option maxRecDepth 20000
namespace Go.Pv
variable [Lq]
def cloneC(sz:Nat)(ty:TypeId)(lm:Nat)(z:AV):AC :=
 (.seq
  (.region 0 [⟨(some 2),none,(.p (.mv (.c (.sl 0 [] true)))),false,[]⟩] (some ⟨[0],[],false⟩))
  (.seq
   (.seq
    (.region 0 [⟨(some 3),none,(.p (.mv (.t 0))),false,[]⟩,
      ⟨(some 4),none,(.p (.isnil false (.t 3))),false,[]⟩] (some ⟨[0,4],[],false⟩))
    (.cond (.t 4)
     (.seq
      (.region 0 [⟨(some 2),none,(.p (.mv (.c (.sl 0 [] true)))),false,[]⟩] (some ⟨[2],[],false⟩))
      .ret)
     .skip))
   (.seq
    (.region 0 [⟨(some 5),none,(.e (.mks ty sz z 0 []) none),false,[]⟩,
      ⟨(some 6),none,(.p (.mv (.t 0))),false,[]⟩,
      ⟨(some 7),none,(.e (.append ty sz lm (.t 5) (.t 6)) none),false,[]⟩,
      ⟨(some 2),none,(.p (.mv (.t 7))),false,[]⟩] (some ⟨[2],[],false⟩))
    .ret)))
theorem mapO_nr{hp:Hp}{es:List AV}(h:es.all AV.nr1=true):mapO (snap hp deep) es=some es:=mapO_id fun x hx=>snap_nr1 (List.all_eq_true.1 h x hx)
theorem rows_nr{hp:Hp}{es:List AV}(h:es.all AV.nr1=true):es.flatMap (rows hp deep)=[]:=by
 rw [List.flatMap_eq_nil_iff]
 exact fun x hx=>rows_nr1 (List.all_eq_true.1 h x hx)
theorem own_end{hp:Hp}{id sz n:Nat}{ty:TypeId}{es:List AV}(he:ent hp id=some ⟨ty,es,true⟩)(hn:n=es.length)(h:es.all AV.nr1=true) :
  hand hp [[.own sz ty]] (.vec id sz 0 n)=some (.own sz ty es,hp.set id (some ⟨ty,[],false⟩),[]):=by
 subst hn
 rw [hand_vec]
 simp only[passOne,he,Option.bind_some,true_and,Nat.le_refl,if_true,List.take_length,mapO_nr h,rows_nr h,Option.map_some]
theorem clone_aw{P:Program}{sz zz:Nat}{ty:TypeId}{lm:Nat}{z:AV}{es:List AV}{f:Bool}(h:zz=sz∨es=[])(hl:es.length≤lm)(hnr:es.all AV.nr1=true):aw P (cloneC sz ty lm z) (EndsX (rvs [.t 2]) (.own sz ty es)) (entry [.sl zz es f]):=by
 unfold cloneC
 cases es with
 | nil =>
  simp (disch:=first | omega | (simp only[pvl] at *; omega)) only[↓pvd,pv0,pv1,pv2,pv3,pv4,pv5,pv6,pv7,pvc0,pvc1,pvc2,Pv.put,bin2,int2,binB2,un1,AV.flat,pvf,rvs_1,rvs_2,szOk,notStr,setCells,AV.one,resX,layC,layA,lay,List.map,List.replicate,List.length_replicate,pvq0,pvq1,seval,reduceCtorEq]
  refine⟨?_,?_⟩
  ·simp (disch:=first | omega | (simp only[pvl] at *; omega)) only[↓pvd,pv0,pv1,pv2,pv3,pv4,pv5,pv6,pv7,pvc0,pvc1,pvc2,Pv.put,bin2,int2,binB2,un1,AV.flat,pvf,rvs_1,rvs_2,szOk,notStr,setCells,AV.one,resX,layC,layA,lay,List.map,List.replicate,List.length_replicate,pvq0,pvq1,seval,reduceCtorEq]
   exact⟨_,rfl,[[.own sz ty]],_,_,rfl,rfl⟩
  ·simp (disch:=first | omega | (simp only[pvl] at *; omega)) only[↓pvd,pv0,pv1,pv2,pv3,pv4,pv5,pv6,pv7,pvc0,pvc1,pvc2,Pv.put,bin2,int2,binB2,un1,AV.flat,pvf,rvs_1,rvs_2,szOk,notStr,setCells,AV.one,resX,layC,layA,lay,List.map,List.replicate,List.length_replicate,pvq0,pvq1,seval,reduceCtorEq]
   exact⟨_,rfl,[[.own sz ty]],_,_,own_end rfl rfl rfl,rfl⟩
 | cons x xs =>
  obtain rfl:zz=sz:=h.resolve_right (by simp)
  simp (disch:=first | omega | (simp only[pvl] at *; omega)) only[↓pvd,pv0,pv1,pv2,pv3,pv4,pv5,pv6,pv7,pvc0,pvc1,pvc2,Pv.put,bin2,int2,binB2,un1,AV.flat,pvf,rvs_1,rvs_2,szOk,notStr,setCells,AV.one,resX,layC,layA,lay,List.map,List.replicate,List.length_replicate,pvq0,pvq1,seval,reduceCtorEq]
  exact⟨_,rfl,[[.own zz ty]],_,_,own_end rfl rfl hnr,rfl⟩
theorem clone_ok{P:Program}(hP:ProgOk P){sz lm:Nat}{ty:TypeId}{z:AV}{f:FuncId}{fn:Func}{c:Code}(hf:P.funcs[f]?=some fn)(hb:fn.body=some c)(hr:rvsOk P [.t 2] fn.results.toList=true)(hc:bareC (cloneC sz ty lm z)=comp P c)
  (ho:okC fn.ntmps false (cloneC sz ty lm z)=true) (hn:1≤fn.ntmps) (ys:List AV) (r:AV) (h:cloneR sz ty lm ys=some r):Run P f ys r:=by
 unfold cloneR at h
 split at h
 case h_2=>cases h
 rename_i zz es fl
 cases hq:((Nat.beq zz sz || es.isEmpty) && (Nat.ble es.length lm && es.all AV.nr1)) with
 | false=>rw [hq] at h; cases h
 | true =>
  rw [hq] at h; cases h
  simp only[Bool.and_eq_true,Bool.or_eq_true,Nat.beq_eq,Nat.ble_eq,List.isEmpty_iff] at hq
  exact run_ofC (fun _ _=>drawOk hP.mixed) hf hb (hP.names f fn hf) hr hc ho (by simpa using hn) (clone_aw hq.1 hq.2.1 hq.2.2)
theorem snap_end{hp:Hp}{id sz n:Nat}{ty:TypeId}{es:List AV}(he:ent hp id=some ⟨ty,es,true⟩)(hn:n=es.length)(h:es.all AV.nr1=true) :
  hand hp [] (.vec id sz 0 n)=some (.sl sz es false,hp,[id]):=by
 subst hn
 show passOne hp .snap (.vec id sz 0 es.length)=_
 have e1:elems hp (.vec id sz 0 es.length)=some es:=by rw [elems_vec,he]; simp
 have e2:=mapO_id (f:=snap hp 5) (l:=es) fun x hx=>snap_nr1 (List.all_eq_true.1 h x hx)
 have e3:es.flatMap (rows hp 5)=[]:=by rw [List.flatMap_eq_nil_iff]; exact fun x hx=>rows_nr1 (List.all_eq_true.1 h x hx)
 rw [passOne_snap,snp_vec,rws_vec,e1]
 simp only[Option.bind_some,e2,Option.map_some,Option.getD_some,e3]
theorem clone_awS{P:Program}{sz zz:Nat}{ty:TypeId}{lm:Nat}{z:AV}{es:List AV}{f:Bool}(h:zz=sz∨es=[])(hl:es.length≤lm)(hnr:es.all AV.nr1=true):aw P (cloneC sz ty lm z) (EndsX (rvs [.t 2]) (.sl sz es false)) (entry [.sl zz es f]):=by
 unfold cloneC
 cases es with
 | nil =>
  simp (disch:=first | omega | (simp only[pvl] at *; omega)) only[↓pvd,pv0,pv1,pv2,pv3,pv4,pv5,pv6,pv7,pvc0,pvc1,pvc2,Pv.put,bin2,int2,binB2,un1,AV.flat,pvf,rvs_1,rvs_2,szOk,notStr,setCells,AV.one,resX,layC,layA,lay,List.map,List.replicate,List.length_replicate,pvq0,pvq1,seval,reduceCtorEq]
  refine⟨?_,?_⟩
  ·simp (disch:=first | omega | (simp only[pvl] at *; omega)) only[↓pvd,pv0,pv1,pv2,pv3,pv4,pv5,pv6,pv7,pvc0,pvc1,pvc2,Pv.put,bin2,int2,binB2,un1,AV.flat,pvf,rvs_1,rvs_2,szOk,notStr,setCells,AV.one,resX,layC,layA,lay,List.map,List.replicate,List.length_replicate,pvq0,pvq1,seval,reduceCtorEq]
   exact⟨_,rfl,[[.nil sz false]],_,_,rfl,rfl⟩
  ·simp (disch:=first | omega | (simp only[pvl] at *; omega)) only[↓pvd,pv0,pv1,pv2,pv3,pv4,pv5,pv6,pv7,pvc0,pvc1,pvc2,Pv.put,bin2,int2,binB2,un1,AV.flat,pvf,rvs_1,rvs_2,szOk,notStr,setCells,AV.one,resX,layC,layA,lay,List.map,List.replicate,List.length_replicate,pvq0,pvq1,seval,reduceCtorEq]
   exact⟨_,rfl,[[.nil sz false]],_,_,rfl,rfl⟩
 | cons x xs =>
  obtain rfl:zz=sz:=h.resolve_right (by simp)
  simp (disch:=first | omega | (simp only[pvl] at *; omega)) only[↓pvd,pv0,pv1,pv2,pv3,pv4,pv5,pv6,pv7,pvc0,pvc1,pvc2,Pv.put,bin2,int2,binB2,un1,AV.flat,pvf,rvs_1,rvs_2,szOk,notStr,setCells,AV.one,resX,layC,layA,lay,List.map,List.replicate,List.length_replicate,pvq0,pvq1,seval,reduceCtorEq]
  exact⟨_,rfl,[],_,_,snap_end rfl rfl hnr,rfl⟩
theorem clone_okS{P:Program}(hP:ProgOk P){sz lm:Nat}{ty:TypeId}{z:AV}{f:FuncId}{fn:Func}{c:Code}(hf:P.funcs[f]?=some fn)(hb:fn.body=some c)(hr:rvsOk P [.t 2] fn.results.toList=true)(hc:bareC (cloneC sz ty lm z)=comp P c)
  (ho:okC fn.ntmps false (cloneC sz ty lm z)=true) (hn:1≤fn.ntmps) {zz:Nat} {es:List AV} {fl:Bool} (h:zz=sz∨es=[]) (hl:es.length≤lm) (hnr:es.all AV.nr1=true):Run P f [.sl zz es fl] (.sl sz es false) :=
 run_ofC (fun _ _=>drawOk hP.mixed) hf hb (hP.names f fn hf) hr hc ho (by simpa using hn) (clone_awS h hl hnr)
end Go.Pv
