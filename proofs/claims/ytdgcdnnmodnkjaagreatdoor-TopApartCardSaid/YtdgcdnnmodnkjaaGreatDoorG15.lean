/- Part 15 of a proof that a step of one domain changes nothing of another: the machine of plain values, and what the program's functions do. -/
import Derived.Test.YtdgcdnnmodnkjaaGreatDoorG14
set_option linter.all false
set_option linter.unusedVariables false
set_option linter.unusedSectionVars false
set_option linter.unusedSimpArgs false
set_option linter.defProp false
namespace Go.Pv
theorem layC_nr{hp:Hp}{x:AV}(h:x.nr0=true):layC hp x =(x,hp):=by cases x <;> first | rfl | cases h
theorem layL_nr{hp:Hp}:∀ {xs:List AV},xs.all AV.nr0=true→layL layC hp xs =(xs,hp)
 | [],_=>rfl
 | x :: xs,h=>by
  simp only[List.all_cons,Bool.and_eq_true] at h
  simp only[layL,layC_nr h.1,layL_nr h.2]
theorem layA_nr{hp:Hp}{x:AV}(h:x.nr1=true):layA hp x =(x,hp):=by
 cases x <;> first | rfl | (cases h; done) | (rename_i cs; show(AV.agg (layL layC hp cs).1,(layL layC hp cs).2)=_; rw [layL_nr h])
theorem lay_nr{hp:Hp}{x:AV}(h:x.nr1=true):lay hp x =(x,hp):=by
 have:=layA_nr (hp:=hp) h
 cases x <;> first | exact this | cases h
theorem setCells_all{cs ds:List AV}{n:Nat}(h:cs.length=n)(h2:(AV.agg ds).ones=true)(h3:ds.length=n):setCells (.agg cs) (.agg ds) 0 n=some (.agg ds):=by
 have e:(AV.agg ds).flat=ds:=rfl
 unfold setCells
 rw [h2,e,h3]
 simp [h,List.drop_of_length_le (Nat.le_of_eq h)]
structure Dv where
 row:Int
 prio:Int
 name:List UInt8
 mac:Int
 vtep:Int
instance:Inhabited Dv:=⟨⟨default,default,default,default,default⟩⟩
@[irreducible] def Dv.v (x:Dv):AV:=.agg [.int .i64 x.row,.int .i64 x.prio,.str x.name,.int .u64 x.mac,.int .u32 x.vtep]
theorem Dv.e(x:Dv):x.v=.agg [.int .i64 x.row,.int .i64 x.prio,.str x.name,.int .u64 x.mac,.int .u32 x.vtep]:=by rw [Dv.v]
theorem Dv.fl(x:Dv):x.v.flat.length=5:=by rw [Dv.e]; rfl
theorem Dv.on(x:Dv):x.v.ones=true:=by rw [Dv.e]; simp [AV.ones,AV.flat,AV.one]
theorem Dv.nr1(x:Dv):x.v.nr1=true:=by rw [Dv.e]; simp [AV.nr1,AV.nr0]
theorem Dv.pl(x:Dv):x.v.pl=true:=by rw [Dv.e]; simp [AV.pl,AV.pl0]
theorem Dv.la{hp:Hp}(x:Dv):layA hp x.v =(x.v,hp):=layA_nr x.nr1
theorem Dv.ca(x:Dv):cells x.v 0 5 true=some x.v:=by rw [Dv.e]; rfl
theorem Dv.c_row(x:Dv):cells x.v 0 1 false=some (.int .i64 x.row):=by rw [Dv.e]; rfl
theorem Dv.s_row(x:Dv)(a:Int):setCells x.v (.int .i64 a) 0 1=some (Dv.v { x with row:=a }):=by rw [Dv.e,Dv.e]; simp [setCells,AV.ones,AV.flat,AV.one]
theorem Dv.c_prio(x:Dv):cells x.v 1 1 false=some (.int .i64 x.prio):=by rw [Dv.e]; rfl
theorem Dv.c_name(x:Dv):cells x.v 2 1 false=some (.str x.name):=by rw [Dv.e]; rfl
theorem Dv.s_name(x:Dv)(a:List UInt8):setCells x.v (.str a) 2 1=some (Dv.v { x with name:=a }):=by rw [Dv.e,Dv.e]; simp [setCells,AV.ones,AV.flat,AV.one]
theorem Dv.c_mac(x:Dv):cells x.v 3 1 false=some (.int .u64 x.mac):=by rw [Dv.e]; rfl
theorem Dv.s_mac(x:Dv)(a:Int):setCells x.v (.int .u64 a) 3 1=some (Dv.v { x with mac:=a }):=by rw [Dv.e,Dv.e]; simp [setCells,AV.ones,AV.flat,AV.one]
theorem Dv.c_vtep(x:Dv):cells x.v 4 1 false=some (.int .u32 x.vtep):=by rw [Dv.e]; rfl
theorem Dv.s_vtep(x:Dv)(a:Int):setCells x.v (.int .u32 a) 4 1=some (Dv.v { x with vtep:=a }):=by rw [Dv.e,Dv.e]; simp [setCells,AV.ones,AV.flat,AV.one]
theorem Dv.sa{cs:List AV}(x:Dv)(h:cs.length=5):setCells (.agg cs) x.v 0 5=some x.v:=by rw [Dv.e]; exact setCells_all h (by have:=x.on; rw [Dv.e] at this; exact this) rfl
theorem Dv.sb(y x:Dv):setCells y.v x.v 0 5=some x.v:=by rw [Dv.e y]; exact Dv.sa x rfl
structure Pt where
 row:Int
 dev:Int
 native:Int
 cost:Int
 link:Int
 name:List UInt8
 tagged:IL
instance:Inhabited Pt:=⟨⟨default,default,default,default,default,default,default⟩⟩
@[irreducible] def Pt.v (x:Pt):AV:=.agg [.int .i64 x.row,.int .i64 x.dev,.int .i64 x.native,.int .i64 x.cost,.int .i64 x.link,.str x.name,x.tagged.v]
theorem Pt.e(x:Pt):x.v=.agg [.int .i64 x.row,.int .i64 x.dev,.int .i64 x.native,.int .i64 x.cost,.int .i64 x.link,.str x.name,x.tagged.v]:=by rw [Pt.v]
theorem Pt.fl(x:Pt):x.v.flat.length=7:=by rw [Pt.e]; rfl
theorem Pt.on(x:Pt):x.v.ones=true:=by rw [Pt.e]; simp [AV.ones,AV.flat,SL.e,AV.one]
theorem Pt.nr1(x:Pt):x.v.nr1=true:=by rw [Pt.e]; simp [AV.nr1,SL.e,AV.nr0]
theorem Pt.pl(x:Pt):x.v.pl=true:=by rw [Pt.e]; simp [AV.pl,SL.e,AV.pl0]
theorem Pt.la{hp:Hp}(x:Pt):layA hp x.v =(x.v,hp):=layA_nr x.nr1
theorem Pt.ca(x:Pt):cells x.v 0 7 true=some x.v:=by rw [Pt.e]; rfl
theorem Pt.c_row(x:Pt):cells x.v 0 1 false=some (.int .i64 x.row):=by rw [Pt.e]; rfl
theorem Pt.s_row(x:Pt)(a:Int):setCells x.v (.int .i64 a) 0 1=some (Pt.v { x with row:=a }):=by rw [Pt.e,Pt.e]; simp [setCells,AV.ones,AV.flat,AV.one]
theorem Pt.c_dev(x:Pt):cells x.v 1 1 false=some (.int .i64 x.dev):=by rw [Pt.e]; rfl
theorem Pt.c_native(x:Pt):cells x.v 2 1 false=some (.int .i64 x.native):=by rw [Pt.e]; rfl
theorem Pt.c_cost(x:Pt):cells x.v 3 1 false=some (.int .i64 x.cost):=by rw [Pt.e]; rfl
theorem Pt.s_cost(x:Pt)(a:Int):setCells x.v (.int .i64 a) 3 1=some (Pt.v { x with cost:=a }):=by rw [Pt.e,Pt.e]; simp [setCells,AV.ones,AV.flat,AV.one]
theorem Pt.c_link(x:Pt):cells x.v 4 1 false=some (.int .i64 x.link):=by rw [Pt.e]; rfl
theorem Pt.s_link(x:Pt)(a:Int):setCells x.v (.int .i64 a) 4 1=some (Pt.v { x with link:=a }):=by rw [Pt.e,Pt.e]; simp [setCells,AV.ones,AV.flat,AV.one]
theorem Pt.c_name(x:Pt):cells x.v 5 1 false=some (.str x.name):=by rw [Pt.e]; rfl
theorem Pt.s_name(x:Pt)(a:List UInt8):setCells x.v (.str a) 5 1=some (Pt.v { x with name:=a }):=by rw [Pt.e,Pt.e]; simp [setCells,AV.ones,AV.flat,AV.one]
theorem Pt.c_tagged(x:Pt):cells x.v 6 1 false=some (x.tagged.v):=by rw [Pt.e]; rfl
theorem Pt.s_tagged(x:Pt)(a:IL):setCells x.v (a.v) 6 1=some (Pt.v { x with tagged:=a }):=by rw [Pt.e,Pt.e]; simp [setCells,AV.ones,AV.flat,SL.e,AV.one]
theorem Pt.sa{cs:List AV}(x:Pt)(h:cs.length=7):setCells (.agg cs) x.v 0 7=some x.v:=by rw [Pt.e]; exact setCells_all h (by have:=x.on; rw [Pt.e] at this; exact this) rfl
theorem Pt.sb(y x:Pt):setCells y.v x.v 0 7=some x.v:=by rw [Pt.e y]; exact Pt.sa x rfl
structure Lk where
 row:Int
 a:Int
 b:Int
instance:Inhabited Lk:=⟨⟨default,default,default⟩⟩
@[irreducible] def Lk.v (x:Lk):AV:=.agg [.int .i64 x.row,.int .i64 x.a,.int .i64 x.b]
theorem Lk.e(x:Lk):x.v=.agg [.int .i64 x.row,.int .i64 x.a,.int .i64 x.b]:=by rw [Lk.v]
theorem Lk.fl(x:Lk):x.v.flat.length=3:=by rw [Lk.e]; rfl
theorem Lk.on(x:Lk):x.v.ones=true:=by rw [Lk.e]; simp [AV.ones,AV.flat,AV.one]
theorem Lk.nr1(x:Lk):x.v.nr1=true:=by rw [Lk.e]; simp [AV.nr1,AV.nr0]
theorem Lk.pl(x:Lk):x.v.pl=true:=by rw [Lk.e]; simp [AV.pl,AV.pl0]
theorem Lk.la{hp:Hp}(x:Lk):layA hp x.v =(x.v,hp):=layA_nr x.nr1
theorem Lk.ca(x:Lk):cells x.v 0 3 true=some x.v:=by rw [Lk.e]; rfl
theorem Lk.c_row(x:Lk):cells x.v 0 1 false=some (.int .i64 x.row):=by rw [Lk.e]; rfl
theorem Lk.s_row(x:Lk)(a:Int):setCells x.v (.int .i64 a) 0 1=some (Lk.v { x with row:=a }):=by rw [Lk.e,Lk.e]; simp [setCells,AV.ones,AV.flat,AV.one]
theorem Lk.c_a(x:Lk):cells x.v 1 1 false=some (.int .i64 x.a):=by rw [Lk.e]; rfl
theorem Lk.c_b(x:Lk):cells x.v 2 1 false=some (.int .i64 x.b):=by rw [Lk.e]; rfl
theorem Lk.sa{cs:List AV}(x:Lk)(h:cs.length=3):setCells (.agg cs) x.v 0 3=some x.v:=by rw [Lk.e]; exact setCells_all h (by have:=x.on; rw [Lk.e] at this; exact this) rfl
theorem Lk.sb(y x:Lk):setCells y.v x.v 0 3=some x.v:=by rw [Lk.e y]; exact Lk.sa x rfl
structure Dm where
 dev:Int
 vlan:Int
 vni:Int
 irb:Int
 row:Int
 peers:IL
instance:Inhabited Dm:=⟨⟨default,default,default,default,default,default⟩⟩
@[irreducible] def Dm.v (x:Dm):AV:=.agg [.int .i64 x.dev,.int .i64 x.vlan,.int .i64 x.vni,.int .i64 x.irb,.int .i64 x.row,x.peers.v]
theorem Dm.e(x:Dm):x.v=.agg [.int .i64 x.dev,.int .i64 x.vlan,.int .i64 x.vni,.int .i64 x.irb,.int .i64 x.row,x.peers.v]:=by rw [Dm.v]
theorem Dm.fl(x:Dm):x.v.flat.length=6:=by rw [Dm.e]; rfl
theorem Dm.on(x:Dm):x.v.ones=true:=by rw [Dm.e]; simp [AV.ones,AV.flat,SL.e,AV.one]
theorem Dm.nr1(x:Dm):x.v.nr1=true:=by rw [Dm.e]; simp [AV.nr1,SL.e,AV.nr0]
theorem Dm.pl(x:Dm):x.v.pl=true:=by rw [Dm.e]; simp [AV.pl,SL.e,AV.pl0]
theorem Dm.la{hp:Hp}(x:Dm):layA hp x.v =(x.v,hp):=layA_nr x.nr1
theorem Dm.ca(x:Dm):cells x.v 0 6 true=some x.v:=by rw [Dm.e]; rfl
theorem Dm.c_dev(x:Dm):cells x.v 0 1 false=some (.int .i64 x.dev):=by rw [Dm.e]; rfl
theorem Dm.c_vlan(x:Dm):cells x.v 1 1 false=some (.int .i64 x.vlan):=by rw [Dm.e]; rfl
theorem Dm.s_vlan(x:Dm)(a:Int):setCells x.v (.int .i64 a) 1 1=some (Dm.v { x with vlan:=a }):=by rw [Dm.e,Dm.e]; simp [setCells,AV.ones,AV.flat,AV.one]
theorem Dm.c_vni(x:Dm):cells x.v 2 1 false=some (.int .i64 x.vni):=by rw [Dm.e]; rfl
theorem Dm.s_vni(x:Dm)(a:Int):setCells x.v (.int .i64 a) 2 1=some (Dm.v { x with vni:=a }):=by rw [Dm.e,Dm.e]; simp [setCells,AV.ones,AV.flat,AV.one]
theorem Dm.c_irb(x:Dm):cells x.v 3 1 false=some (.int .i64 x.irb):=by rw [Dm.e]; rfl
theorem Dm.s_irb(x:Dm)(a:Int):setCells x.v (.int .i64 a) 3 1=some (Dm.v { x with irb:=a }):=by rw [Dm.e,Dm.e]; simp [setCells,AV.ones,AV.flat,AV.one]
theorem Dm.c_row(x:Dm):cells x.v 4 1 false=some (.int .i64 x.row):=by rw [Dm.e]; rfl
theorem Dm.s_row(x:Dm)(a:Int):setCells x.v (.int .i64 a) 4 1=some (Dm.v { x with row:=a }):=by rw [Dm.e,Dm.e]; simp [setCells,AV.ones,AV.flat,AV.one]
theorem Dm.c_peers(x:Dm):cells x.v 5 1 false=some (x.peers.v):=by rw [Dm.e]; rfl
theorem Dm.s_peers(x:Dm)(a:IL):setCells x.v (a.v) 5 1=some (Dm.v { x with peers:=a }):=by rw [Dm.e,Dm.e]; simp [setCells,AV.ones,AV.flat,SL.e,AV.one]
theorem Dm.sa{cs:List AV}(x:Dm)(h:cs.length=6):setCells (.agg cs) x.v 0 6=some x.v:=by rw [Dm.e]; exact setCells_all h (by have:=x.on; rw [Dm.e] at this; exact this) rfl
theorem Dm.sb(y x:Dm):setCells y.v x.v 0 6=some x.v:=by rw [Dm.e y]; exact Dm.sa x rfl
structure Fl where
 row:Int
 dev:Int
 vni:Int
 addrs:UL
instance:Inhabited Fl:=⟨⟨default,default,default,default⟩⟩
@[irreducible] def Fl.v (x:Fl):AV:=.agg [.int .i64 x.row,.int .i64 x.dev,.int .i64 x.vni,x.addrs.v]
theorem Fl.e(x:Fl):x.v=.agg [.int .i64 x.row,.int .i64 x.dev,.int .i64 x.vni,x.addrs.v]:=by rw [Fl.v]
theorem Fl.fl(x:Fl):x.v.flat.length=4:=by rw [Fl.e]; rfl
theorem Fl.on(x:Fl):x.v.ones=true:=by rw [Fl.e]; simp [AV.ones,AV.flat,SL.e,AV.one]
theorem Fl.nr1(x:Fl):x.v.nr1=true:=by rw [Fl.e]; simp [AV.nr1,SL.e,AV.nr0]
theorem Fl.pl(x:Fl):x.v.pl=true:=by rw [Fl.e]; simp [AV.pl,SL.e,AV.pl0]
theorem Fl.la{hp:Hp}(x:Fl):layA hp x.v =(x.v,hp):=layA_nr x.nr1
theorem Fl.ca(x:Fl):cells x.v 0 4 true=some x.v:=by rw [Fl.e]; rfl
theorem Fl.c_row(x:Fl):cells x.v 0 1 false=some (.int .i64 x.row):=by rw [Fl.e]; rfl
theorem Fl.s_row(x:Fl)(a:Int):setCells x.v (.int .i64 a) 0 1=some (Fl.v { x with row:=a }):=by rw [Fl.e,Fl.e]; simp [setCells,AV.ones,AV.flat,AV.one]
theorem Fl.c_dev(x:Fl):cells x.v 1 1 false=some (.int .i64 x.dev):=by rw [Fl.e]; rfl
theorem Fl.c_vni(x:Fl):cells x.v 2 1 false=some (.int .i64 x.vni):=by rw [Fl.e]; rfl
theorem Fl.s_vni(x:Fl)(a:Int):setCells x.v (.int .i64 a) 2 1=some (Fl.v { x with vni:=a }):=by rw [Fl.e,Fl.e]; simp [setCells,AV.ones,AV.flat,AV.one]
theorem Fl.c_addrs(x:Fl):cells x.v 3 1 false=some (x.addrs.v):=by rw [Fl.e]; rfl
theorem Fl.s_addrs(x:Fl)(a:UL):setCells x.v (a.v) 3 1=some (Fl.v { x with addrs:=a }):=by rw [Fl.e,Fl.e]; simp [setCells,AV.ones,AV.flat,SL.e,AV.one]
theorem Fl.sa{cs:List AV}(x:Fl)(h:cs.length=4):setCells (.agg cs) x.v 0 4=some x.v:=by rw [Fl.e]; exact setCells_all h (by have:=x.on; rw [Fl.e] at this; exact this) rfl
theorem Fl.sb(y x:Fl):setCells y.v x.v 0 4=some x.v:=by rw [Fl.e y]; exact Fl.sa x rfl
structure Sc where
 row:Int
 dom:Int
 port:Int
 mac:Int
instance:Inhabited Sc:=⟨⟨default,default,default,default⟩⟩
@[irreducible] def Sc.v (x:Sc):AV:=.agg [.int .i64 x.row,.int .i64 x.dom,.int .i64 x.port,.int .u64 x.mac]
theorem Sc.e(x:Sc):x.v=.agg [.int .i64 x.row,.int .i64 x.dom,.int .i64 x.port,.int .u64 x.mac]:=by rw [Sc.v]
theorem Sc.fl(x:Sc):x.v.flat.length=4:=by rw [Sc.e]; rfl
theorem Sc.on(x:Sc):x.v.ones=true:=by rw [Sc.e]; simp [AV.ones,AV.flat,AV.one]
theorem Sc.nr1(x:Sc):x.v.nr1=true:=by rw [Sc.e]; simp [AV.nr1,AV.nr0]
theorem Sc.pl(x:Sc):x.v.pl=true:=by rw [Sc.e]; simp [AV.pl,AV.pl0]
theorem Sc.la{hp:Hp}(x:Sc):layA hp x.v =(x.v,hp):=layA_nr x.nr1
theorem Sc.ca(x:Sc):cells x.v 0 4 true=some x.v:=by rw [Sc.e]; rfl
theorem Sc.c_row(x:Sc):cells x.v 0 1 false=some (.int .i64 x.row):=by rw [Sc.e]; rfl
theorem Sc.s_row(x:Sc)(a:Int):setCells x.v (.int .i64 a) 0 1=some (Sc.v { x with row:=a }):=by rw [Sc.e,Sc.e]; simp [setCells,AV.ones,AV.flat,AV.one]
theorem Sc.c_dom(x:Sc):cells x.v 1 1 false=some (.int .i64 x.dom):=by rw [Sc.e]; rfl
theorem Sc.c_port(x:Sc):cells x.v 2 1 false=some (.int .i64 x.port):=by rw [Sc.e]; rfl
theorem Sc.s_port(x:Sc)(a:Int):setCells x.v (.int .i64 a) 2 1=some (Sc.v { x with port:=a }):=by rw [Sc.e,Sc.e]; simp [setCells,AV.ones,AV.flat,AV.one]
theorem Sc.c_mac(x:Sc):cells x.v 3 1 false=some (.int .u64 x.mac):=by rw [Sc.e]; rfl
theorem Sc.s_mac(x:Sc)(a:Int):setCells x.v (.int .u64 a) 3 1=some (Sc.v { x with mac:=a }):=by rw [Sc.e,Sc.e]; simp [setCells,AV.ones,AV.flat,AV.one]
theorem Sc.sa{cs:List AV}(x:Sc)(h:cs.length=4):setCells (.agg cs) x.v 0 4=some x.v:=by rw [Sc.e]; exact setCells_all h (by have:=x.on; rw [Sc.e] at this; exact this) rfl
theorem Sc.sb(y x:Sc):setCells y.v x.v 0 4=some x.v:=by rw [Sc.e y]; exact Sc.sa x rfl
structure Vf where
 row:Int
 dev:Int
 name:List UInt8
 imports:IL
 exports:IL
instance:Inhabited Vf:=⟨⟨default,default,default,default,default⟩⟩
@[irreducible] def Vf.v (x:Vf):AV:=.agg [.int .i64 x.row,.int .i64 x.dev,.str x.name,x.imports.v,x.exports.v]
theorem Vf.e(x:Vf):x.v=.agg [.int .i64 x.row,.int .i64 x.dev,.str x.name,x.imports.v,x.exports.v]:=by rw [Vf.v]
theorem Vf.fl(x:Vf):x.v.flat.length=5:=by rw [Vf.e]; rfl
theorem Vf.on(x:Vf):x.v.ones=true:=by rw [Vf.e]; simp [AV.ones,AV.flat,SL.e,AV.one]
theorem Vf.nr1(x:Vf):x.v.nr1=true:=by rw [Vf.e]; simp [AV.nr1,SL.e,AV.nr0]
theorem Vf.pl(x:Vf):x.v.pl=true:=by rw [Vf.e]; simp [AV.pl,SL.e,AV.pl0]
theorem Vf.la{hp:Hp}(x:Vf):layA hp x.v =(x.v,hp):=layA_nr x.nr1
theorem Vf.ca(x:Vf):cells x.v 0 5 true=some x.v:=by rw [Vf.e]; rfl
theorem Vf.c_row(x:Vf):cells x.v 0 1 false=some (.int .i64 x.row):=by rw [Vf.e]; rfl
theorem Vf.s_row(x:Vf)(a:Int):setCells x.v (.int .i64 a) 0 1=some (Vf.v { x with row:=a }):=by rw [Vf.e,Vf.e]; simp [setCells,AV.ones,AV.flat,AV.one]
theorem Vf.c_dev(x:Vf):cells x.v 1 1 false=some (.int .i64 x.dev):=by rw [Vf.e]; rfl
theorem Vf.c_name(x:Vf):cells x.v 2 1 false=some (.str x.name):=by rw [Vf.e]; rfl
theorem Vf.s_name(x:Vf)(a:List UInt8):setCells x.v (.str a) 2 1=some (Vf.v { x with name:=a }):=by rw [Vf.e,Vf.e]; simp [setCells,AV.ones,AV.flat,AV.one]
theorem Vf.c_imports(x:Vf):cells x.v 3 1 false=some (x.imports.v):=by rw [Vf.e]; rfl
theorem Vf.s_imports(x:Vf)(a:IL):setCells x.v (a.v) 3 1=some (Vf.v { x with imports:=a }):=by rw [Vf.e,Vf.e]; simp [setCells,AV.ones,AV.flat,SL.e,AV.one]
theorem Vf.c_exports(x:Vf):cells x.v 4 1 false=some (x.exports.v):=by rw [Vf.e]; rfl
theorem Vf.s_exports(x:Vf)(a:IL):setCells x.v (a.v) 4 1=some (Vf.v { x with exports:=a }):=by rw [Vf.e,Vf.e]; simp [setCells,AV.ones,AV.flat,SL.e,AV.one]
theorem Vf.sa{cs:List AV}(x:Vf)(h:cs.length=5):setCells (.agg cs) x.v 0 5=some x.v:=by rw [Vf.e]; exact setCells_all h (by have:=x.on; rw [Vf.e] at this; exact this) rfl
theorem Vf.sb(y x:Vf):setCells y.v x.v 0 5=some x.v:=by rw [Vf.e y]; exact Vf.sa x rfl
structure Px where
 addr:Int
 bits:Int
instance:Inhabited Px:=⟨⟨default,default⟩⟩
@[irreducible] def Px.v (x:Px):AV:=.agg [.int .u32 x.addr,.int .i64 x.bits]
theorem Px.e(x:Px):x.v=.agg [.int .u32 x.addr,.int .i64 x.bits]:=by rw [Px.v]
theorem Px.fl(x:Px):x.v.flat.length=2:=by rw [Px.e]; rfl
theorem Px.on(x:Px):x.v.ones=true:=by rw [Px.e]; simp [AV.ones,AV.flat,AV.one]
theorem Px.nr1(x:Px):x.v.nr1=true:=by rw [Px.e]; simp [AV.nr1,AV.nr0]
theorem Px.pl(x:Px):x.v.pl=true:=by rw [Px.e]; simp [AV.pl,AV.pl0]
theorem Px.la{hp:Hp}(x:Px):layA hp x.v =(x.v,hp):=layA_nr x.nr1
theorem Px.ca(x:Px):cells x.v 0 2 true=some x.v:=by rw [Px.e]; rfl
theorem Px.c_addr(x:Px):cells x.v 0 1 false=some (.int .u32 x.addr):=by rw [Px.e]; rfl
theorem Px.s_addr(x:Px)(a:Int):setCells x.v (.int .u32 a) 0 1=some (Px.v { x with addr:=a }):=by rw [Px.e,Px.e]; simp [setCells,AV.ones,AV.flat,AV.one]
theorem Px.c_bits(x:Px):cells x.v 1 1 false=some (.int .i64 x.bits):=by rw [Px.e]; rfl
theorem Px.s_bits(x:Px)(a:Int):setCells x.v (.int .i64 a) 1 1=some (Px.v { x with bits:=a }):=by rw [Px.e,Px.e]; simp [setCells,AV.ones,AV.flat,AV.one]
theorem Px.sa{cs:List AV}(x:Px)(h:cs.length=2):setCells (.agg cs) x.v 0 2=some x.v:=by rw [Px.e]; exact setCells_all h (by have:=x.on; rw [Px.e] at this; exact this) rfl
theorem Px.sb(y x:Px):setCells y.v x.v 0 2=some x.v:=by rw [Px.e y]; exact Px.sa x rfl
structure Ib where
 row:Int
 dom:Int
 vrf:Int
 net:Px
instance:Inhabited Ib:=⟨⟨default,default,default,default⟩⟩
@[irreducible] def Ib.v (x:Ib):AV:=.agg [.int .i64 x.row,.int .i64 x.dom,.int .i64 x.vrf,.int .u32 x.net.addr,.int .i64 x.net.bits]
theorem Ib.e(x:Ib):x.v=.agg [.int .i64 x.row,.int .i64 x.dom,.int .i64 x.vrf,.int .u32 x.net.addr,.int .i64 x.net.bits]:=by rw [Ib.v]
theorem Ib.fl(x:Ib):x.v.flat.length=5:=by rw [Ib.e]; rfl
theorem Ib.on(x:Ib):x.v.ones=true:=by rw [Ib.e]; simp [AV.ones,AV.flat,AV.one]
theorem Ib.nr1(x:Ib):x.v.nr1=true:=by rw [Ib.e]; simp [AV.nr1,AV.nr0]
theorem Ib.pl(x:Ib):x.v.pl=true:=by rw [Ib.e]; simp [AV.pl,AV.pl0]
theorem Ib.la{hp:Hp}(x:Ib):layA hp x.v =(x.v,hp):=layA_nr x.nr1
theorem Ib.ca(x:Ib):cells x.v 0 5 true=some x.v:=by rw [Ib.e]; rfl
theorem Ib.c_row(x:Ib):cells x.v 0 1 false=some (.int .i64 x.row):=by rw [Ib.e]; rfl
theorem Ib.s_row(x:Ib)(a:Int):setCells x.v (.int .i64 a) 0 1=some (Ib.v { x with row:=a }):=by rw [Ib.e,Ib.e]; simp [setCells,AV.ones,AV.flat,AV.one]
theorem Ib.c_dom(x:Ib):cells x.v 1 1 false=some (.int .i64 x.dom):=by rw [Ib.e]; rfl
theorem Ib.c_vrf(x:Ib):cells x.v 2 1 false=some (.int .i64 x.vrf):=by rw [Ib.e]; rfl
theorem Ib.c_net(x:Ib):cells x.v 3 2 true=some x.net.v:=by rw [Ib.e,Px.e]; rfl
theorem Ib.c_net_addr(x:Ib):cells x.v 3 1 false=some (.int .u32 x.net.addr):=by rw [Ib.e]; rfl
theorem Ib.c_net_bits(x:Ib):cells x.v 4 1 false=some (.int .i64 x.net.bits):=by rw [Ib.e]; rfl
theorem Ib.sa{cs:List AV}(x:Ib)(h:cs.length=5):setCells (.agg cs) x.v 0 5=some x.v:=by rw [Ib.e]; exact setCells_all h (by have:=x.on; rw [Ib.e] at this; exact this) rfl
theorem Ib.sb(y x:Ib):setCells y.v x.v 0 5=some x.v:=by rw [Ib.e y]; exact Ib.sa x rfl
structure Nt where
 devs:SL Dv Dv.v 5
 ports:SL Pt Pt.v 7
 links:SL Lk Lk.v 3
 doms:SL Dm Dm.v 6
 stats:SL Sc Sc.v 4
 floods:SL Fl Fl.v 4
 vrfs:SL Vf Vf.v 5
 irbs:SL Ib Ib.v 5
instance:Inhabited Nt:=⟨⟨default,default,default,default,default,default,default,default⟩⟩
@[irreducible] def Nt.v (x:Nt):AV:=.agg [x.devs.v,x.ports.v,x.links.v,x.doms.v,x.stats.v,x.floods.v,x.vrfs.v,x.irbs.v]
theorem Nt.e(x:Nt):x.v=.agg [x.devs.v,x.ports.v,x.links.v,x.doms.v,x.stats.v,x.floods.v,x.vrfs.v,x.irbs.v]:=by rw [Nt.v]
theorem Nt.fl(x:Nt):x.v.flat.length=8:=by rw [Nt.e]; rfl
theorem Nt.on(x:Nt):x.v.ones=true:=by rw [Nt.e]; simp [AV.ones,AV.flat,SL.e,AV.one]
theorem Nt.nr1(x:Nt):x.v.nr1=true:=by rw [Nt.e]; simp [AV.nr1,SL.e,AV.nr0]
theorem Nt.pl(x:Nt):x.v.pl=true:=by rw [Nt.e]; simp [AV.pl,SL.e,AV.pl0]
theorem Nt.la{hp:Hp}(x:Nt):layA hp x.v =(x.v,hp):=layA_nr x.nr1
theorem Nt.ca(x:Nt):cells x.v 0 8 true=some x.v:=by rw [Nt.e]; rfl
theorem Nt.c_devs(x:Nt):cells x.v 0 1 false=some (x.devs.v):=by rw [Nt.e]; rfl
theorem Nt.c_ports(x:Nt):cells x.v 1 1 false=some (x.ports.v):=by rw [Nt.e]; rfl
theorem Nt.c_links(x:Nt):cells x.v 2 1 false=some (x.links.v):=by rw [Nt.e]; rfl
theorem Nt.c_doms(x:Nt):cells x.v 3 1 false=some (x.doms.v):=by rw [Nt.e]; rfl
theorem Nt.c_stats(x:Nt):cells x.v 4 1 false=some (x.stats.v):=by rw [Nt.e]; rfl
theorem Nt.c_floods(x:Nt):cells x.v 5 1 false=some (x.floods.v):=by rw [Nt.e]; rfl
theorem Nt.c_vrfs(x:Nt):cells x.v 6 1 false=some (x.vrfs.v):=by rw [Nt.e]; rfl
theorem Nt.c_irbs(x:Nt):cells x.v 7 1 false=some (x.irbs.v):=by rw [Nt.e]; rfl
theorem Nt.sa{cs:List AV}(x:Nt)(h:cs.length=8):setCells (.agg cs) x.v 0 8=some x.v:=by rw [Nt.e]; exact setCells_all h (by have:=x.on; rw [Nt.e] at this; exact this) rfl
theorem Nt.sb(y x:Nt):setCells y.v x.v 0 8=some x.v:=by rw [Nt.e y]; exact Nt.sa x rfl
structure Fm where
 dst:Int
 src:Int
 typ:Int
 body:BL
instance:Inhabited Fm:=⟨⟨default,default,default,default⟩⟩
@[irreducible] def Fm.v (x:Fm):AV:=.agg [.int .u64 x.dst,.int .u64 x.src,.int .i64 x.typ,x.body.v]
theorem Fm.e(x:Fm):x.v=.agg [.int .u64 x.dst,.int .u64 x.src,.int .i64 x.typ,x.body.v]:=by rw [Fm.v]
theorem Fm.fl(x:Fm):x.v.flat.length=4:=by rw [Fm.e]; rfl
theorem Fm.on(x:Fm):x.v.ones=true:=by rw [Fm.e]; simp [AV.ones,AV.flat,SL.e,AV.one]
theorem Fm.nr1(x:Fm):x.v.nr1=true:=by rw [Fm.e]; simp [AV.nr1,SL.e,AV.nr0]
theorem Fm.pl(x:Fm):x.v.pl=true:=by rw [Fm.e]; simp [AV.pl,SL.e,AV.pl0]
theorem Fm.la{hp:Hp}(x:Fm):layA hp x.v =(x.v,hp):=layA_nr x.nr1
theorem Fm.ca(x:Fm):cells x.v 0 4 true=some x.v:=by rw [Fm.e]; rfl
theorem Fm.c_dst(x:Fm):cells x.v 0 1 false=some (.int .u64 x.dst):=by rw [Fm.e]; rfl
theorem Fm.c_src(x:Fm):cells x.v 1 1 false=some (.int .u64 x.src):=by rw [Fm.e]; rfl
theorem Fm.c_typ(x:Fm):cells x.v 2 1 false=some (.int .i64 x.typ):=by rw [Fm.e]; rfl
theorem Fm.c_body(x:Fm):cells x.v 3 1 false=some (x.body.v):=by rw [Fm.e]; rfl
theorem Fm.s_body(x:Fm)(a:BL):setCells x.v (a.v) 3 1=some (Fm.v { x with body:=a }):=by rw [Fm.e,Fm.e]; simp [setCells,AV.ones,AV.flat,SL.e,AV.one]
theorem Fm.sa{cs:List AV}(x:Fm)(h:cs.length=4):setCells (.agg cs) x.v 0 4=some x.v:=by rw [Fm.e]; exact setCells_all h (by have:=x.on; rw [Fm.e] at this; exact this) rfl
theorem Fm.sb(y x:Fm):setCells y.v x.v 0 4=some x.v:=by rw [Fm.e y]; exact Fm.sa x rfl
structure Qd where
 frm:Int
 peer:Int
 origin:Int
 frame:Fm
instance:Inhabited Qd:=⟨⟨default,default,default,default⟩⟩
@[irreducible] def Qd.v (x:Qd):AV:=.agg [.int .i64 x.frm,.int .i64 x.peer,.int .i64 x.origin,.int .u64 x.frame.dst,.int .u64 x.frame.src,.int .i64 x.frame.typ,x.frame.body.v]
theorem Qd.e(x:Qd):x.v=.agg [.int .i64 x.frm,.int .i64 x.peer,.int .i64 x.origin,.int .u64 x.frame.dst,.int .u64 x.frame.src,.int .i64 x.frame.typ,x.frame.body.v]:=by rw [Qd.v]
theorem Qd.fl(x:Qd):x.v.flat.length=7:=by rw [Qd.e]; rfl
theorem Qd.on(x:Qd):x.v.ones=true:=by rw [Qd.e]; simp [AV.ones,AV.flat,SL.e,AV.one]
theorem Qd.nr1(x:Qd):x.v.nr1=true:=by rw [Qd.e]; simp [AV.nr1,SL.e,AV.nr0]
theorem Qd.pl(x:Qd):x.v.pl=true:=by rw [Qd.e]; simp [AV.pl,SL.e,AV.pl0]
theorem Qd.la{hp:Hp}(x:Qd):layA hp x.v =(x.v,hp):=layA_nr x.nr1
theorem Qd.ca(x:Qd):cells x.v 0 7 true=some x.v:=by rw [Qd.e]; rfl
theorem Qd.c_frm(x:Qd):cells x.v 0 1 false=some (.int .i64 x.frm):=by rw [Qd.e]; rfl
theorem Qd.s_frm(x:Qd)(a:Int):setCells x.v (.int .i64 a) 0 1=some (Qd.v { x with frm:=a }):=by rw [Qd.e,Qd.e]; simp [setCells,AV.ones,AV.flat,AV.one]
theorem Qd.c_peer(x:Qd):cells x.v 1 1 false=some (.int .i64 x.peer):=by rw [Qd.e]; rfl
theorem Qd.s_peer(x:Qd)(a:Int):setCells x.v (.int .i64 a) 1 1=some (Qd.v { x with peer:=a }):=by rw [Qd.e,Qd.e]; simp [setCells,AV.ones,AV.flat,AV.one]
theorem Qd.c_origin(x:Qd):cells x.v 2 1 false=some (.int .i64 x.origin):=by rw [Qd.e]; rfl
theorem Qd.c_frame(x:Qd):cells x.v 3 4 true=some x.frame.v:=by rw [Qd.e,Fm.e]; rfl
theorem Qd.c_frame_dst(x:Qd):cells x.v 3 1 false=some (.int .u64 x.frame.dst):=by rw [Qd.e]; rfl
theorem Qd.c_frame_src(x:Qd):cells x.v 4 1 false=some (.int .u64 x.frame.src):=by rw [Qd.e]; rfl
theorem Qd.sa{cs:List AV}(x:Qd)(h:cs.length=7):setCells (.agg cs) x.v 0 7=some x.v:=by rw [Qd.e]; exact setCells_all h (by have:=x.on; rw [Qd.e] at this; exact this) rfl
theorem Qd.sb(y x:Qd):setCells y.v x.v 0 7=some x.v:=by rw [Qd.e y]; exact Qd.sa x rfl
structure En where
 mac:Int
 wh:Int
 seen:Int
instance:Inhabited En:=⟨⟨default,default,default⟩⟩
@[irreducible] def En.v (x:En):AV:=.agg [.int .u64 x.mac,.int .i64 x.wh,.int .i64 x.seen]
theorem En.e(x:En):x.v=.agg [.int .u64 x.mac,.int .i64 x.wh,.int .i64 x.seen]:=by rw [En.v]
theorem En.fl(x:En):x.v.flat.length=3:=by rw [En.e]; rfl
theorem En.on(x:En):x.v.ones=true:=by rw [En.e]; simp [AV.ones,AV.flat,AV.one]
theorem En.nr1(x:En):x.v.nr1=true:=by rw [En.e]; simp [AV.nr1,AV.nr0]
theorem En.pl(x:En):x.v.pl=true:=by rw [En.e]; simp [AV.pl,AV.pl0]
theorem En.la{hp:Hp}(x:En):layA hp x.v =(x.v,hp):=layA_nr x.nr1
theorem En.ca(x:En):cells x.v 0 3 true=some x.v:=by rw [En.e]; rfl
theorem En.c_mac(x:En):cells x.v 0 1 false=some (.int .u64 x.mac):=by rw [En.e]; rfl
theorem En.s_mac(x:En)(a:Int):setCells x.v (.int .u64 a) 0 1=some (En.v { x with mac:=a }):=by rw [En.e,En.e]; simp [setCells,AV.ones,AV.flat,AV.one]
theorem En.c_wh(x:En):cells x.v 1 1 false=some (.int .i64 x.wh):=by rw [En.e]; rfl
theorem En.s_wh(x:En)(a:Int):setCells x.v (.int .i64 a) 1 1=some (En.v { x with wh:=a }):=by rw [En.e,En.e]; simp [setCells,AV.ones,AV.flat,AV.one]
theorem En.c_seen(x:En):cells x.v 2 1 false=some (.int .i64 x.seen):=by rw [En.e]; rfl
theorem En.s_seen(x:En)(a:Int):setCells x.v (.int .i64 a) 2 1=some (En.v { x with seen:=a }):=by rw [En.e,En.e]; simp [setCells,AV.ones,AV.flat,AV.one]
theorem En.sa{cs:List AV}(x:En)(h:cs.length=3):setCells (.agg cs) x.v 0 3=some x.v:=by rw [En.e]; exact setCells_all h (by have:=x.on; rw [En.e] at this; exact this) rfl
theorem En.sb(y x:En):setCells y.v x.v 0 3=some x.v:=by rw [En.e y]; exact En.sa x rfl
structure Ln where
 row:Int
 kind:Int
 dev:List UInt8
 port:List UInt8
 peer:List UInt8
 far:List UInt8
 name:List UInt8
 mac:Int
 addr:Int
 bits:Int
 vlan:Int
 num:Int
 cost:Int
 tagged:IL
 imports:IL
 exports:IL
 addrs:UL
instance:Inhabited Ln:=⟨⟨default,default,default,default,default,default,default,default,default,default,default,default,default,default,default,default,default⟩⟩
@[irreducible] def Ln.v (x:Ln):AV:=.agg [.int .i64 x.row,.int .i64 x.kind,.str x.dev,.str x.port,.str x.peer,.str x.far,.str x.name,.int .u64 x.mac,.int .u32 x.addr,.int .i64 x.bits,.int .i64 x.vlan,.int .i64 x.num,.int .i64 x.cost,x.tagged.v,x.imports.v,x.exports.v,x.addrs.v]
theorem Ln.e(x:Ln):x.v=.agg [.int .i64 x.row,.int .i64 x.kind,.str x.dev,.str x.port,.str x.peer,.str x.far,.str x.name,.int .u64 x.mac,.int .u32 x.addr,.int .i64 x.bits,.int .i64 x.vlan,.int .i64 x.num,.int .i64 x.cost,x.tagged.v,x.imports.v,x.exports.v,x.addrs.v]:=by rw [Ln.v]
theorem Ln.fl(x:Ln):x.v.flat.length=17:=by rw [Ln.e]; rfl
theorem Ln.on(x:Ln):x.v.ones=true:=by rw [Ln.e]; simp [AV.ones,AV.flat,SL.e,AV.one]
theorem Ln.nr1(x:Ln):x.v.nr1=true:=by rw [Ln.e]; simp [AV.nr1,SL.e,AV.nr0]
theorem Ln.pl(x:Ln):x.v.pl=true:=by rw [Ln.e]; simp [AV.pl,SL.e,AV.pl0]
theorem Ln.la{hp:Hp}(x:Ln):layA hp x.v =(x.v,hp):=layA_nr x.nr1
theorem Ln.ca(x:Ln):cells x.v 0 17 true=some x.v:=by rw [Ln.e]; rfl
theorem Ln.c_row(x:Ln):cells x.v 0 1 false=some (.int .i64 x.row):=by rw [Ln.e]; rfl
theorem Ln.s_row(x:Ln)(a:Int):setCells x.v (.int .i64 a) 0 1=some (Ln.v { x with row:=a }):=by rw [Ln.e,Ln.e]; simp [setCells,AV.ones,AV.flat,AV.one]
theorem Ln.c_kind(x:Ln):cells x.v 1 1 false=some (.int .i64 x.kind):=by rw [Ln.e]; rfl
theorem Ln.s_kind(x:Ln)(a:Int):setCells x.v (.int .i64 a) 1 1=some (Ln.v { x with kind:=a }):=by rw [Ln.e,Ln.e]; simp [setCells,AV.ones,AV.flat,AV.one]
theorem Ln.c_dev(x:Ln):cells x.v 2 1 false=some (.str x.dev):=by rw [Ln.e]; rfl
theorem Ln.c_port(x:Ln):cells x.v 3 1 false=some (.str x.port):=by rw [Ln.e]; rfl
theorem Ln.s_port(x:Ln)(a:List UInt8):setCells x.v (.str a) 3 1=some (Ln.v { x with port:=a }):=by rw [Ln.e,Ln.e]; simp [setCells,AV.ones,AV.flat,AV.one]
theorem Ln.c_peer(x:Ln):cells x.v 4 1 false=some (.str x.peer):=by rw [Ln.e]; rfl
theorem Ln.s_peer(x:Ln)(a:List UInt8):setCells x.v (.str a) 4 1=some (Ln.v { x with peer:=a }):=by rw [Ln.e,Ln.e]; simp [setCells,AV.ones,AV.flat,AV.one]
theorem Ln.c_far(x:Ln):cells x.v 5 1 false=some (.str x.far):=by rw [Ln.e]; rfl
theorem Ln.s_far(x:Ln)(a:List UInt8):setCells x.v (.str a) 5 1=some (Ln.v { x with far:=a }):=by rw [Ln.e,Ln.e]; simp [setCells,AV.ones,AV.flat,AV.one]
theorem Ln.c_name(x:Ln):cells x.v 6 1 false=some (.str x.name):=by rw [Ln.e]; rfl
theorem Ln.s_name(x:Ln)(a:List UInt8):setCells x.v (.str a) 6 1=some (Ln.v { x with name:=a }):=by rw [Ln.e,Ln.e]; simp [setCells,AV.ones,AV.flat,AV.one]
theorem Ln.c_mac(x:Ln):cells x.v 7 1 false=some (.int .u64 x.mac):=by rw [Ln.e]; rfl
theorem Ln.s_mac(x:Ln)(a:Int):setCells x.v (.int .u64 a) 7 1=some (Ln.v { x with mac:=a }):=by rw [Ln.e,Ln.e]; simp [setCells,AV.ones,AV.flat,AV.one]
theorem Ln.c_addr(x:Ln):cells x.v 8 1 false=some (.int .u32 x.addr):=by rw [Ln.e]; rfl
theorem Ln.s_addr(x:Ln)(a:Int):setCells x.v (.int .u32 a) 8 1=some (Ln.v { x with addr:=a }):=by rw [Ln.e,Ln.e]; simp [setCells,AV.ones,AV.flat,AV.one]
theorem Ln.c_bits(x:Ln):cells x.v 9 1 false=some (.int .i64 x.bits):=by rw [Ln.e]; rfl
theorem Ln.s_bits(x:Ln)(a:Int):setCells x.v (.int .i64 a) 9 1=some (Ln.v { x with bits:=a }):=by rw [Ln.e,Ln.e]; simp [setCells,AV.ones,AV.flat,AV.one]
theorem Ln.c_vlan(x:Ln):cells x.v 10 1 false=some (.int .i64 x.vlan):=by rw [Ln.e]; rfl
theorem Ln.s_vlan(x:Ln)(a:Int):setCells x.v (.int .i64 a) 10 1=some (Ln.v { x with vlan:=a }):=by rw [Ln.e,Ln.e]; simp [setCells,AV.ones,AV.flat,AV.one]
theorem Ln.c_num(x:Ln):cells x.v 11 1 false=some (.int .i64 x.num):=by rw [Ln.e]; rfl
theorem Ln.s_num(x:Ln)(a:Int):setCells x.v (.int .i64 a) 11 1=some (Ln.v { x with num:=a }):=by rw [Ln.e,Ln.e]; simp [setCells,AV.ones,AV.flat,AV.one]
theorem Ln.c_cost(x:Ln):cells x.v 12 1 false=some (.int .i64 x.cost):=by rw [Ln.e]; rfl
theorem Ln.s_cost(x:Ln)(a:Int):setCells x.v (.int .i64 a) 12 1=some (Ln.v { x with cost:=a }):=by rw [Ln.e,Ln.e]; simp [setCells,AV.ones,AV.flat,AV.one]
theorem Ln.c_tagged(x:Ln):cells x.v 13 1 false=some (x.tagged.v):=by rw [Ln.e]; rfl
theorem Ln.s_tagged(x:Ln)(a:IL):setCells x.v (a.v) 13 1=some (Ln.v { x with tagged:=a }):=by rw [Ln.e,Ln.e]; simp [setCells,AV.ones,AV.flat,SL.e,AV.one]
theorem Ln.c_imports(x:Ln):cells x.v 14 1 false=some (x.imports.v):=by rw [Ln.e]; rfl
theorem Ln.s_imports(x:Ln)(a:IL):setCells x.v (a.v) 14 1=some (Ln.v { x with imports:=a }):=by rw [Ln.e,Ln.e]; simp [setCells,AV.ones,AV.flat,SL.e,AV.one]
theorem Ln.c_exports(x:Ln):cells x.v 15 1 false=some (x.exports.v):=by rw [Ln.e]; rfl
theorem Ln.s_exports(x:Ln)(a:IL):setCells x.v (a.v) 15 1=some (Ln.v { x with exports:=a }):=by rw [Ln.e,Ln.e]; simp [setCells,AV.ones,AV.flat,SL.e,AV.one]
theorem Ln.c_addrs(x:Ln):cells x.v 16 1 false=some (x.addrs.v):=by rw [Ln.e]; rfl
theorem Ln.s_addrs(x:Ln)(a:UL):setCells x.v (a.v) 16 1=some (Ln.v { x with addrs:=a }):=by rw [Ln.e,Ln.e]; simp [setCells,AV.ones,AV.flat,SL.e,AV.one]
theorem Ln.sa{cs:List AV}(x:Ln)(h:cs.length=17):setCells (.agg cs) x.v 0 17=some x.v:=by rw [Ln.e]; exact setCells_all h (by have:=x.on; rw [Ln.e] at this; exact this) rfl
theorem Ln.sb(y x:Ln):setCells y.v x.v 0 17=some x.v:=by rw [Ln.e y]; exact Ln.sa x rfl
structure Sp where
 kind:Int
 port:Int
 dom:Int
 at_:Int
 bytes:BL
 up:TL
instance:Inhabited Sp:=⟨⟨default,default,default,default,default,default⟩⟩
@[irreducible] def Sp.v (x:Sp):AV:=.agg [.int .i64 x.kind,.int .i64 x.port,.int .i64 x.dom,.int .i64 x.at_,x.bytes.v,x.up.v]
theorem Sp.e(x:Sp):x.v=.agg [.int .i64 x.kind,.int .i64 x.port,.int .i64 x.dom,.int .i64 x.at_,x.bytes.v,x.up.v]:=by rw [Sp.v]
theorem Sp.fl(x:Sp):x.v.flat.length=6:=by rw [Sp.e]; rfl
theorem Sp.on(x:Sp):x.v.ones=true:=by rw [Sp.e]; simp [AV.ones,AV.flat,SL.e,AV.one]
theorem Sp.nr1(x:Sp):x.v.nr1=true:=by rw [Sp.e]; simp [AV.nr1,SL.e,AV.nr0]
theorem Sp.pl(x:Sp):x.v.pl=true:=by rw [Sp.e]; simp [AV.pl,SL.e,AV.pl0]
theorem Sp.la{hp:Hp}(x:Sp):layA hp x.v =(x.v,hp):=layA_nr x.nr1
theorem Sp.ca(x:Sp):cells x.v 0 6 true=some x.v:=by rw [Sp.e]; rfl
theorem Sp.c_kind(x:Sp):cells x.v 0 1 false=some (.int .i64 x.kind):=by rw [Sp.e]; rfl
theorem Sp.s_kind(x:Sp)(a:Int):setCells x.v (.int .i64 a) 0 1=some (Sp.v { x with kind:=a }):=by rw [Sp.e,Sp.e]; simp [setCells,AV.ones,AV.flat,AV.one]
theorem Sp.c_port(x:Sp):cells x.v 1 1 false=some (.int .i64 x.port):=by rw [Sp.e]; rfl
theorem Sp.s_port(x:Sp)(a:Int):setCells x.v (.int .i64 a) 1 1=some (Sp.v { x with port:=a }):=by rw [Sp.e,Sp.e]; simp [setCells,AV.ones,AV.flat,AV.one]
theorem Sp.c_dom(x:Sp):cells x.v 2 1 false=some (.int .i64 x.dom):=by rw [Sp.e]; rfl
theorem Sp.c_at_(x:Sp):cells x.v 3 1 false=some (.int .i64 x.at_):=by rw [Sp.e]; rfl
theorem Sp.c_bytes(x:Sp):cells x.v 4 1 false=some (x.bytes.v):=by rw [Sp.e]; rfl
theorem Sp.s_bytes(x:Sp)(a:BL):setCells x.v (a.v) 4 1=some (Sp.v { x with bytes:=a }):=by rw [Sp.e,Sp.e]; simp [setCells,AV.ones,AV.flat,SL.e,AV.one]
theorem Sp.c_up(x:Sp):cells x.v 5 1 false=some (x.up.v):=by rw [Sp.e]; rfl
theorem Sp.sa{cs:List AV}(x:Sp)(h:cs.length=6):setCells (.agg cs) x.v 0 6=some x.v:=by rw [Sp.e]; exact setCells_all h (by have:=x.on; rw [Sp.e] at this; exact this) rfl
theorem Sp.sb(y x:Sp):setCells y.v x.v 0 6=some x.v:=by rw [Sp.e y]; exact Sp.sa x rfl
structure Se where
 port:Int
 origin:Int
 bytes:BL
instance:Inhabited Se:=⟨⟨default,default,default⟩⟩
@[irreducible] def Se.v (x:Se):AV:=.agg [.int .i64 x.port,.int .i64 x.origin,x.bytes.v]
theorem Se.e(x:Se):x.v=.agg [.int .i64 x.port,.int .i64 x.origin,x.bytes.v]:=by rw [Se.v]
theorem Se.fl(x:Se):x.v.flat.length=3:=by rw [Se.e]; rfl
theorem Se.on(x:Se):x.v.ones=true:=by rw [Se.e]; simp [AV.ones,AV.flat,SL.e,AV.one]
theorem Se.nr1(x:Se):x.v.nr1=true:=by rw [Se.e]; simp [AV.nr1,SL.e,AV.nr0]
theorem Se.pl(x:Se):x.v.pl=true:=by rw [Se.e]; simp [AV.pl,SL.e,AV.pl0]
theorem Se.la{hp:Hp}(x:Se):layA hp x.v =(x.v,hp):=layA_nr x.nr1
theorem Se.ca(x:Se):cells x.v 0 3 true=some x.v:=by rw [Se.e]; rfl
theorem Se.c_port(x:Se):cells x.v 0 1 false=some (.int .i64 x.port):=by rw [Se.e]; rfl
theorem Se.s_port(x:Se)(a:Int):setCells x.v (.int .i64 a) 0 1=some (Se.v { x with port:=a }):=by rw [Se.e,Se.e]; simp [setCells,AV.ones,AV.flat,AV.one]
theorem Se.c_origin(x:Se):cells x.v 1 1 false=some (.int .i64 x.origin):=by rw [Se.e]; rfl
theorem Se.c_bytes(x:Se):cells x.v 2 1 false=some (x.bytes.v):=by rw [Se.e]; rfl
theorem Se.s_bytes(x:Se)(a:BL):setCells x.v (a.v) 2 1=some (Se.v { x with bytes:=a }):=by rw [Se.e,Se.e]; simp [setCells,AV.ones,AV.flat,SL.e,AV.one]
theorem Se.sa{cs:List AV}(x:Se)(h:cs.length=3):setCells (.agg cs) x.v 0 3=some x.v:=by rw [Se.e]; exact setCells_all h (by have:=x.on; rw [Se.e] at this; exact this) rfl
theorem Se.sb(y x:Se):setCells y.v x.v 0 3=some x.v:=by rw [Se.e y]; exact Se.sa x rfl
structure Ou where
 kind:Int
 port:Int
 dom:Int
 bytes:BL
 frame:Fm
 err:Int
instance:Inhabited Ou:=⟨⟨default,default,default,default,default,default⟩⟩
@[irreducible] def Ou.v (x:Ou):AV:=.agg [.int .i64 x.kind,.int .i64 x.port,.int .i64 x.dom,x.bytes.v,.int .u64 x.frame.dst,.int .u64 x.frame.src,.int .i64 x.frame.typ,x.frame.body.v,.int .i64 x.err]
theorem Ou.e(x:Ou):x.v=.agg [.int .i64 x.kind,.int .i64 x.port,.int .i64 x.dom,x.bytes.v,.int .u64 x.frame.dst,.int .u64 x.frame.src,.int .i64 x.frame.typ,x.frame.body.v,.int .i64 x.err]:=by rw [Ou.v]
theorem Ou.fl(x:Ou):x.v.flat.length=9:=by rw [Ou.e]; rfl
theorem Ou.on(x:Ou):x.v.ones=true:=by rw [Ou.e]; simp [AV.ones,AV.flat,SL.e,AV.one]
theorem Ou.nr1(x:Ou):x.v.nr1=true:=by rw [Ou.e]; simp [AV.nr1,SL.e,AV.nr0]
theorem Ou.pl(x:Ou):x.v.pl=true:=by rw [Ou.e]; simp [AV.pl,SL.e,AV.pl0]
theorem Ou.la{hp:Hp}(x:Ou):layA hp x.v =(x.v,hp):=layA_nr x.nr1
theorem Ou.ca(x:Ou):cells x.v 0 9 true=some x.v:=by rw [Ou.e]; rfl
theorem Ou.c_kind(x:Ou):cells x.v 0 1 false=some (.int .i64 x.kind):=by rw [Ou.e]; rfl
theorem Ou.s_kind(x:Ou)(a:Int):setCells x.v (.int .i64 a) 0 1=some (Ou.v { x with kind:=a }):=by rw [Ou.e,Ou.e]; simp [setCells,AV.ones,AV.flat,AV.one]
theorem Ou.c_port(x:Ou):cells x.v 1 1 false=some (.int .i64 x.port):=by rw [Ou.e]; rfl
theorem Ou.s_port(x:Ou)(a:Int):setCells x.v (.int .i64 a) 1 1=some (Ou.v { x with port:=a }):=by rw [Ou.e,Ou.e]; simp [setCells,AV.ones,AV.flat,AV.one]
theorem Ou.c_dom(x:Ou):cells x.v 2 1 false=some (.int .i64 x.dom):=by rw [Ou.e]; rfl
theorem Ou.c_bytes(x:Ou):cells x.v 3 1 false=some (x.bytes.v):=by rw [Ou.e]; rfl
theorem Ou.s_bytes(x:Ou)(a:BL):setCells x.v (a.v) 3 1=some (Ou.v { x with bytes:=a }):=by rw [Ou.e,Ou.e]; simp [setCells,AV.ones,AV.flat,SL.e,AV.one]
theorem Ou.c_frame(x:Ou):cells x.v 4 4 true=some x.frame.v:=by rw [Ou.e,Fm.e]; rfl
theorem Ou.c_frame_dst(x:Ou):cells x.v 4 1 false=some (.int .u64 x.frame.dst):=by rw [Ou.e]; rfl
theorem Ou.c_frame_src(x:Ou):cells x.v 5 1 false=some (.int .u64 x.frame.src):=by rw [Ou.e]; rfl
theorem Ou.c_err(x:Ou):cells x.v 8 1 false=some (.int .i64 x.err):=by rw [Ou.e]; rfl
theorem Ou.s_err(x:Ou)(a:Int):setCells x.v (.int .i64 a) 8 1=some (Ou.v { x with err:=a }):=by rw [Ou.e,Ou.e]; simp [setCells,AV.ones,AV.flat,AV.one]
theorem Ou.sa{cs:List AV}(x:Ou)(h:cs.length=9):setCells (.agg cs) x.v 0 9=some x.v:=by rw [Ou.e]; exact setCells_all h (by have:=x.on; rw [Ou.e] at this; exact this) rfl
theorem Ou.sb(y x:Ou):setCells y.v x.v 0 9=some x.v:=by rw [Ou.e y]; exact Ou.sa x rfl
structure Pk where
 tos:Int
 id:Int
 ttl:Int
 proto:Int
 src:Int
 dst:Int
 body:BL
instance:Inhabited Pk:=⟨⟨default,default,default,default,default,default,default⟩⟩
@[irreducible] def Pk.v (x:Pk):AV:=.agg [.int .i64 x.tos,.int .i64 x.id,.int .i64 x.ttl,.int .i64 x.proto,.int .u32 x.src,.int .u32 x.dst,x.body.v]
theorem Pk.e(x:Pk):x.v=.agg [.int .i64 x.tos,.int .i64 x.id,.int .i64 x.ttl,.int .i64 x.proto,.int .u32 x.src,.int .u32 x.dst,x.body.v]:=by rw [Pk.v]
theorem Pk.fl(x:Pk):x.v.flat.length=7:=by rw [Pk.e]; rfl
theorem Pk.on(x:Pk):x.v.ones=true:=by rw [Pk.e]; simp [AV.ones,AV.flat,SL.e,AV.one]
theorem Pk.nr1(x:Pk):x.v.nr1=true:=by rw [Pk.e]; simp [AV.nr1,SL.e,AV.nr0]
theorem Pk.pl(x:Pk):x.v.pl=true:=by rw [Pk.e]; simp [AV.pl,SL.e,AV.pl0]
theorem Pk.la{hp:Hp}(x:Pk):layA hp x.v =(x.v,hp):=layA_nr x.nr1
theorem Pk.ca(x:Pk):cells x.v 0 7 true=some x.v:=by rw [Pk.e]; rfl
theorem Pk.c_tos(x:Pk):cells x.v 0 1 false=some (.int .i64 x.tos):=by rw [Pk.e]; rfl
theorem Pk.c_id(x:Pk):cells x.v 1 1 false=some (.int .i64 x.id):=by rw [Pk.e]; rfl
theorem Pk.c_ttl(x:Pk):cells x.v 2 1 false=some (.int .i64 x.ttl):=by rw [Pk.e]; rfl
theorem Pk.s_ttl(x:Pk)(a:Int):setCells x.v (.int .i64 a) 2 1=some (Pk.v { x with ttl:=a }):=by rw [Pk.e,Pk.e]; simp [setCells,AV.ones,AV.flat,AV.one]
theorem Pk.c_proto(x:Pk):cells x.v 3 1 false=some (.int .i64 x.proto):=by rw [Pk.e]; rfl
theorem Pk.c_src(x:Pk):cells x.v 4 1 false=some (.int .u32 x.src):=by rw [Pk.e]; rfl
theorem Pk.c_dst(x:Pk):cells x.v 5 1 false=some (.int .u32 x.dst):=by rw [Pk.e]; rfl
theorem Pk.c_body(x:Pk):cells x.v 6 1 false=some (x.body.v):=by rw [Pk.e]; rfl
theorem Pk.s_body(x:Pk)(a:BL):setCells x.v (a.v) 6 1=some (Pk.v { x with body:=a }):=by rw [Pk.e,Pk.e]; simp [setCells,AV.ones,AV.flat,SL.e,AV.one]
theorem Pk.sa{cs:List AV}(x:Pk)(h:cs.length=7):setCells (.agg cs) x.v 0 7=some x.v:=by rw [Pk.e]; exact setCells_all h (by have:=x.on; rw [Pk.e] at this; exact this) rfl
theorem Pk.sb(y x:Pk):setCells y.v x.v 0 7=some x.v:=by rw [Pk.e y]; exact Pk.sa x rfl
structure Re where
 root:Int
 cost:Int
 dev:Int
instance:Inhabited Re:=⟨⟨default,default,default⟩⟩
@[irreducible] def Re.v (x:Re):AV:=.agg [.int .i64 x.root,.int .i64 x.cost,.int .i64 x.dev]
theorem Re.e(x:Re):x.v=.agg [.int .i64 x.root,.int .i64 x.cost,.int .i64 x.dev]:=by rw [Re.v]
theorem Re.fl(x:Re):x.v.flat.length=3:=by rw [Re.e]; rfl
theorem Re.on(x:Re):x.v.ones=true:=by rw [Re.e]; simp [AV.ones,AV.flat,AV.one]
theorem Re.nr1(x:Re):x.v.nr1=true:=by rw [Re.e]; simp [AV.nr1,AV.nr0]
theorem Re.pl(x:Re):x.v.pl=true:=by rw [Re.e]; simp [AV.pl,AV.pl0]
theorem Re.la{hp:Hp}(x:Re):layA hp x.v =(x.v,hp):=layA_nr x.nr1
theorem Re.ca(x:Re):cells x.v 0 3 true=some x.v:=by rw [Re.e]; rfl
theorem Re.c_root(x:Re):cells x.v 0 1 false=some (.int .i64 x.root):=by rw [Re.e]; rfl
theorem Re.c_cost(x:Re):cells x.v 1 1 false=some (.int .i64 x.cost):=by rw [Re.e]; rfl
theorem Re.s_cost(x:Re)(a:Int):setCells x.v (.int .i64 a) 1 1=some (Re.v { x with cost:=a }):=by rw [Re.e,Re.e]; simp [setCells,AV.ones,AV.flat,AV.one]
theorem Re.c_dev(x:Re):cells x.v 2 1 false=some (.int .i64 x.dev):=by rw [Re.e]; rfl
theorem Re.sa{cs:List AV}(x:Re)(h:cs.length=3):setCells (.agg cs) x.v 0 3=some x.v:=by rw [Re.e]; exact setCells_all h (by have:=x.on; rw [Re.e] at this; exact this) rfl
theorem Re.sb(y x:Re):setCells y.v x.v 0 3=some x.v:=by rw [Re.e y]; exact Re.sa x rfl
structure Ve where
 root:Int
 cost:Int
 bridge:Int
 port:Int
 own:Int
instance:Inhabited Ve:=⟨⟨default,default,default,default,default⟩⟩
@[irreducible] def Ve.v (x:Ve):AV:=.agg [.int .i64 x.root,.int .i64 x.cost,.int .i64 x.bridge,.int .i64 x.port,.int .i64 x.own]
theorem Ve.e(x:Ve):x.v=.agg [.int .i64 x.root,.int .i64 x.cost,.int .i64 x.bridge,.int .i64 x.port,.int .i64 x.own]:=by rw [Ve.v]
theorem Ve.fl(x:Ve):x.v.flat.length=5:=by rw [Ve.e]; rfl
theorem Ve.on(x:Ve):x.v.ones=true:=by rw [Ve.e]; simp [AV.ones,AV.flat,AV.one]
theorem Ve.nr1(x:Ve):x.v.nr1=true:=by rw [Ve.e]; simp [AV.nr1,AV.nr0]
theorem Ve.pl(x:Ve):x.v.pl=true:=by rw [Ve.e]; simp [AV.pl,AV.pl0]
theorem Ve.la{hp:Hp}(x:Ve):layA hp x.v =(x.v,hp):=layA_nr x.nr1
theorem Ve.ca(x:Ve):cells x.v 0 5 true=some x.v:=by rw [Ve.e]; rfl
theorem Ve.c_root(x:Ve):cells x.v 0 1 false=some (.int .i64 x.root):=by rw [Ve.e]; rfl
theorem Ve.c_cost(x:Ve):cells x.v 1 1 false=some (.int .i64 x.cost):=by rw [Ve.e]; rfl
theorem Ve.s_cost(x:Ve)(a:Int):setCells x.v (.int .i64 a) 1 1=some (Ve.v { x with cost:=a }):=by rw [Ve.e,Ve.e]; simp [setCells,AV.ones,AV.flat,AV.one]
theorem Ve.c_bridge(x:Ve):cells x.v 2 1 false=some (.int .i64 x.bridge):=by rw [Ve.e]; rfl
theorem Ve.c_port(x:Ve):cells x.v 3 1 false=some (.int .i64 x.port):=by rw [Ve.e]; rfl
theorem Ve.s_port(x:Ve)(a:Int):setCells x.v (.int .i64 a) 3 1=some (Ve.v { x with port:=a }):=by rw [Ve.e,Ve.e]; simp [setCells,AV.ones,AV.flat,AV.one]
theorem Ve.c_own(x:Ve):cells x.v 4 1 false=some (.int .i64 x.own):=by rw [Ve.e]; rfl
theorem Ve.sa{cs:List AV}(x:Ve)(h:cs.length=5):setCells (.agg cs) x.v 0 5=some x.v:=by rw [Ve.e]; exact setCells_all h (by have:=x.on; rw [Ve.e] at this; exact this) rfl
theorem Ve.sb(y x:Ve):setCells y.v x.v 0 5=some x.v:=by rw [Ve.e y]; exact Ve.sa x rfl
def ts0 :=
 And.intro @Dv.fl <| And.intro @Dv.on <| And.intro @Dv.nr1 <| And.intro @Dv.pl <| And.intro @Dv.ca <| And.intro @Dv.c_prio <| And.intro @Dv.c_name <| And.intro @Dv.c_mac <| And.intro @Dv.c_vtep <| And.intro @Dv.s_vtep <| And.intro @Dv.sa <| And.intro @Dv.sb <| And.intro @Pt.fl <| And.intro @Pt.on <| And.intro @Pt.nr1 <| And.intro @Pt.pl <| And.intro @Pt.ca <| And.intro @Pt.c_dev <| And.intro @Pt.c_native <| And.intro @Pt.c_cost <| And.intro @Pt.c_link <| And.intro @Pt.s_link <| And.intro @Pt.c_name <| And.intro @Pt.c_tagged <| @Pt.s_tagged
def ts1 :=
 And.intro @Pt.sa <| And.intro @Pt.sb <| And.intro @Lk.fl <| And.intro @Lk.on <| And.intro @Lk.nr1 <| And.intro @Lk.pl <| And.intro @Lk.ca <| And.intro @Lk.c_a <| And.intro @Lk.c_b <| And.intro @Lk.sa <| And.intro @Dm.fl <| And.intro @Dm.on <| And.intro @Dm.nr1 <| And.intro @Dm.pl <| And.intro @Dm.ca <| And.intro @Dm.c_dev <| And.intro @Dm.c_vlan <| And.intro @Dm.c_vni <| And.intro @Dm.s_vni <| And.intro @Dm.c_irb <| And.intro @Dm.s_irb <| And.intro @Dm.c_row <| And.intro @Dm.s_row <| And.intro @Dm.c_peers <| And.intro @Dm.s_peers <| And.intro @Dm.sa <| And.intro @Dm.sb <| And.intro @Fl.fl <| @Fl.on
def ts2 :=
 And.intro @Fl.nr1 <| And.intro @Fl.pl <| And.intro @Fl.ca <| And.intro @Fl.c_row <| And.intro @Fl.c_dev <| And.intro @Fl.c_vni <| And.intro @Fl.c_addrs <| And.intro @Fl.s_addrs <| And.intro @Fl.sa <| And.intro @Fl.sb <| And.intro @Sc.fl <| And.intro @Sc.on <| And.intro @Sc.nr1 <| And.intro @Sc.pl <| And.intro @Sc.ca <| And.intro @Sc.c_dom <| And.intro @Sc.c_port <| And.intro @Sc.c_mac <| And.intro @Sc.sa <| And.intro @Vf.fl <| And.intro @Vf.on <| And.intro @Vf.nr1 <| And.intro @Vf.pl <| @Vf.ca
def ts3 :=
 And.intro @Vf.c_dev <| And.intro @Vf.c_name <| And.intro @Vf.c_imports <| And.intro @Vf.s_imports <| And.intro @Vf.c_exports <| And.intro @Vf.s_exports <| And.intro @Vf.sa <| And.intro @Vf.sb <| And.intro @Px.on <| And.intro @Px.nr1 <| And.intro @Px.ca <| And.intro @Px.c_addr <| And.intro @Px.c_bits <| And.intro @Ib.fl <| And.intro @Ib.on <| And.intro @Ib.nr1 <| And.intro @Ib.pl <| And.intro @Ib.ca <| And.intro @Ib.c_dom <| And.intro @Ib.c_vrf <| And.intro @Ib.c_net <| And.intro @Ib.c_net_addr <| @Ib.c_net_bits
def ts4 :=
 And.intro @Ib.sa <| And.intro @Ib.sb <| And.intro @Nt.fl <| And.intro @Nt.on <| And.intro @Nt.nr1 <| And.intro @Nt.pl <| And.intro @Nt.ca <| And.intro @Nt.c_devs <| And.intro @Nt.c_ports <| And.intro @Nt.c_links <| And.intro @Nt.c_doms <| And.intro @Nt.c_stats <| And.intro @Nt.c_floods <| And.intro @Nt.c_vrfs <| And.intro @Nt.c_irbs <| And.intro @Nt.sa <| And.intro @Nt.sb <| And.intro @Fm.on <| And.intro @Fm.nr1 <| And.intro @Fm.pl <| And.intro @Fm.ca <| And.intro @Fm.c_dst <| And.intro @Fm.c_src <| @Fm.c_typ
def ts5 :=
 And.intro @Fm.c_body <| And.intro @Fm.sa <| And.intro @Fm.sb <| And.intro @Qd.fl <| And.intro @Qd.on <| And.intro @Qd.nr1 <| And.intro @Qd.pl <| And.intro @Qd.ca <| And.intro @Qd.c_frm <| And.intro @Qd.s_frm <| And.intro @Qd.c_peer <| And.intro @Qd.s_peer <| And.intro @Qd.c_origin <| And.intro @Qd.c_frame <| And.intro @Qd.c_frame_dst <| And.intro @Qd.c_frame_src <| And.intro @Qd.sa <| And.intro @Qd.sb <| And.intro @En.fl <| And.intro @En.on <| And.intro @En.nr1 <| And.intro @En.pl <| And.intro @En.ca <| And.intro @En.c_mac <| And.intro @En.c_wh <| And.intro @En.s_wh <| And.intro @En.c_seen <| And.intro @En.s_seen <| And.intro @En.sa <| @En.sb
def ts6 :=
 And.intro @Ln.on <| And.intro @Ln.nr1 <| And.intro @Ln.pl <| And.intro @Ln.ca <| And.intro @Ln.c_row <| And.intro @Ln.c_kind <| And.intro @Ln.c_dev <| And.intro @Ln.c_port <| And.intro @Ln.s_port <| And.intro @Ln.c_peer <| And.intro @Ln.s_peer <| And.intro @Ln.c_far <| And.intro @Ln.s_far <| And.intro @Ln.c_name <| And.intro @Ln.s_name <| And.intro @Ln.c_mac <| And.intro @Ln.s_mac <| And.intro @Ln.c_addr <| And.intro @Ln.s_addr <| And.intro @Ln.c_bits <| And.intro @Ln.s_bits <| And.intro @Ln.c_vlan <| And.intro @Ln.s_vlan <| And.intro @Ln.c_num <| And.intro @Ln.s_num <| And.intro @Ln.c_cost <| And.intro @Ln.s_cost <| And.intro @Ln.c_tagged <| And.intro @Ln.s_tagged <| And.intro @Ln.c_imports <| And.intro @Ln.s_imports <| And.intro @Ln.c_exports <| And.intro @Ln.s_exports <| And.intro @Ln.c_addrs <| @Ln.s_addrs
def ts7 :=
 And.intro @Ln.sa <| And.intro @Ln.sb <| And.intro @Sp.fl <| And.intro @Sp.on <| And.intro @Sp.nr1 <| And.intro @Sp.pl <| And.intro @Sp.ca <| And.intro @Sp.c_kind <| And.intro @Sp.c_port <| And.intro @Sp.c_dom <| And.intro @Sp.c_at_ <| And.intro @Sp.c_bytes <| And.intro @Sp.c_up <| And.intro @Sp.sa <| And.intro @Sp.sb <| And.intro @Se.fl <| And.intro @Se.on <| And.intro @Ou.fl <| @Ou.on
def ts8 :=
 And.intro @Ou.nr1 <| And.intro @Ou.pl <| And.intro @Ou.ca <| And.intro @Ou.c_kind <| And.intro @Ou.s_kind <| And.intro @Ou.c_port <| And.intro @Ou.c_dom <| And.intro @Ou.c_bytes <| And.intro @Ou.s_bytes <| And.intro @Ou.c_frame <| And.intro @Ou.c_err <| And.intro @Ou.s_err <| And.intro @Ou.sa <| And.intro @Ou.sb <| And.intro @Pk.on <| And.intro @Pk.nr1 <| And.intro @Pk.pl <| And.intro @Pk.ca <| And.intro @Pk.c_tos <| And.intro @Pk.c_id <| And.intro @Pk.c_ttl <| And.intro @Pk.s_ttl <| And.intro @Pk.c_proto <| And.intro @Pk.c_src <| @Pk.c_dst
def ts9 :=
 And.intro @Pk.c_body <| And.intro @Pk.s_body <| And.intro @Pk.sa <| And.intro @Pk.sb <| And.intro @Re.fl <| And.intro @Re.on <| And.intro @Re.ca <| And.intro @Re.c_root <| And.intro @Re.c_cost <| And.intro @Re.c_dev <| And.intro @Re.sa <| And.intro @Re.sb <| And.intro @Ve.fl <| And.intro @Ve.on <| And.intro @Ve.nr1 <| And.intro @Ve.pl <| And.intro @Ve.ca <| And.intro @Ve.c_root <| And.intro @Ve.c_cost <| And.intro @Ve.c_bridge <| And.intro @Ve.c_port <| And.intro @Ve.c_own <| And.intro @Ve.sa <| @Ve.sb
end Go.Pv
