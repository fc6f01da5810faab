/- Part 0 of a proof that a step of one domain changes nothing of another: the machine of plain values, and what the program's functions do. -/
import Derived.KernelRfl
import Derived.Lib.Bytealg
import GoSem.Step
set_option linter.all false
set_option linter.unusedVariables false
set_option linter.unusedSectionVars false
set_option linter.unusedSimpArgs false
set_option linter.defProp false
namespace Go.Pv
inductive AV where
 | undef
 | bool (b:Bool)
 | anyb
 | int (k:IntKind) (n:Int)
 | str (s:List UInt8)
 | sl (sz:Nat) (es:List AV) (full:Bool)
 | vec (id sz off len:Nat)
 | eptr (id i off:Nat)
 | rptr (x:AV) (off:Nat)
 | fn (f:FuncId) (caps:List AV)
 | agg (cs:List AV)
 | tup (vs:List AV)
 | lit (v:Value)
 | own (sz:Nat) (ty:TypeId) (es:List AV)
def AV.flat:AV→List AV
 | .agg cs=>cs
 | x=>[x]
def ifB:Nat:=2000000
theorem ifB_ge:1000000+1000000≤ifB:=by decide
structure Ent where
 ty:TypeId
 es:List AV
 wr:Bool
abbrev Hp:=List (Option Ent)
abbrev Fr:=List (Nat × AV)
structure St where
 fr:Fr
 hp:Hp
def get:Fr→Nat→AV
 | [],_=>.undef
 | (k,x) :: r,t=>if k=t then x else get r t
def put:Fr→Nat→AV→Fr
 | [],t,v=>[(t,v)]
 | (k,x) :: r,t,v=>if k=t then(k,v) :: r else if t < k then(t,v) :: (k,x) :: r else(k,x) :: put r t v
def putO(fr:Fr):Option Nat→AV→Fr
 | none,_=>fr
 | some d,v=>put fr d v
inductive AX where
 | t (n:Nat)
 | c (v:AV)
def fnId(f:FuncId):FuncId:=if f < 1000000 then f else f - 1000000
def fnArgs(f:FuncId)(xs caps:List AV):List AV:=if f < 1000000 then xs ++ caps else caps ++ xs
def AX.ev(fr:Fr):AX→AV
 | .t n=>get fr n
 | .c v=>v
inductive OpP where
 | mv (x:AX)
 | pick (c a b:AX)
 | bin (op:BinOp) (x y:AX)
 | binB (op:BinOp) (x y:AX)
 | un (op:UnOp) (x:AX)
 | convI (k:IntKind) (x:AX)
 | same (x:AX)
 | faddr (off:Nat) (x:AX)
 | field (off n:Nat) (ag:Bool) (x:AX)
 | iaddr (sz:Nat) (x i:AX)
 | aaddr (len sz:Nat) (x i:AX)
 | idxs (x i:AX)
 | idxa (len sz:Nat) (ag:Bool) (x i:AX)
 | slices (x:AX) (lo hi:Option AX)
 | slicev (sz:Nat) (x:AX) (lo hi mx:Option AX)
 | ext (x:AX) (i:Nat)
 | len (x:AX)
 | lenS (x:AX)
 | lenc (n:Nat)
 | minmax (max:Bool) (x y:AX)
 | idxb (x c:AX)
 | nilck (x:AX)
 | build (zero:List AV) (parts:List (Nat × Nat × AX))
 | mkfn (f:FuncId) (caps:List AX)
 | isnil (neg:Bool) (x:AX)
 | isnilp (neg:Bool) (x:AX)
 | asI (t:TypeId) (z:AV) (x:AX)
 | eqS (neg:Bool) (ks:List Nat) (x y:AX)
inductive OpR where
 | load (n:Nat) (ag:Bool) (x:AX)
 | b2s (x:AX)
 | cut (sz:Nat) (x lo hi:AX)
inductive OpE where
 | alloc (ty:TypeId) (zero:AV)
 | box (ty:TypeId) (x:AX)
 | mks (ty:TypeId) (sz:Nat) (zero:AV) (len:Nat) (parts:List (Nat × AX))
 | make (ty:TypeId) (sz:Nat) (zero:AV) (len cap:AX)
 | store (n:Nat) (x v:AX)
 | append (ty:TypeId) (sz lm:Nat) (x y:AX)
 | s2b (ty:TypeId) (x:AX)
 | copy (sz:Nat) (x y:AX)
 | clear (sz:Nat) (zero:AV) (x:AX)
 | mark (x:AX)
inductive Op1 where
 | p (o:OpP)
 | r (o:OpR)
 | e (o:OpE) (r:Option Nat)
 | call (f:FuncId) (args:List AX) (d:Bool)
 | callv (x:AX) (args:List AX)
 | calli (m:String) (x:AX) (args:List AX)
 | bad
structure Op2 where
 dst:Option Nat
 guard:Option (Nat × Bool)
 op:Op1
 fm:Bool:=false      -- where the order is open,and rows are made: a call does as it does whatever rows there are more
 no:List TypeId:=[]      -- where the order is open: the types of rows that grow: no load is from such a row
structure Trim where
 ks:List Nat
 nils:List (Nat × Nat × TypeId)
 gc:Bool
inductive AC where
 | skip
 | region (nres:Nat) (ops:List Op2) (tr:Option Trim)
 | regionA (nres:Nat) (ops:List Op2) (ps:List (Nat × Nat)) (tr:Option Trim)
 | seq (a b:AC)
 | cond (c:AX) (x y:AC)
 | block (id:Nat) (b:AC)
 | loop (tr:Option Trim) (b:AC)
 | exit (id:Nat)
 | ret
 | scope (b:AC)
 | bad
def and2(k:IntKind)(a b:Int):Int:=k.wrap (BitVec.ofInt k.bits a &&& BitVec.ofInt k.bits b).toNat
def or2(k:IntKind)(a b:Int):Int:=k.wrap (BitVec.ofInt k.bits a ||| BitVec.ofInt k.bits b).toNat
def xor2(k:IntKind)(a b:Int):Int:=k.wrap (BitVec.ofInt k.bits a ^^^ BitVec.ofInt k.bits b).toNat
def andNot2(k:IntKind)(a b:Int):Int:=k.wrap (BitVec.ofInt k.bits a &&& ~~~BitVec.ofInt k.bits b).toNat
def int2(op:BinOp)(k:IntKind)(a b:Int):Option AV :=
 match op with
 | .add=>some (.int k (k.wrap (a+b)))
 | .sub=>some (.int k (k.wrap (a - b)))
 | .mul=>some (.int k (k.wrap (a * b)))
 | .quo=>if b=0 then none else some (.int k (k.wrap (a.tdiv b)))
 | .rem=>if b=0 then none else some (.int k (a.tmod b))
 | .and=>some (.int k (and2 k a b))
 | .or=>some (.int k (or2 k a b))
 | .xor=>some (.int k (xor2 k a b))
 | .andNot=>some (.int k (andNot2 k a b))
 | .eql=>some (.bool (a == b))
 | .neq=>some (.bool (a != b))
 | .lss=>some (.bool (decide (a < b)))
 | .leq=>some (.bool (decide (a≤b)))
 | .gtr=>some (.bool (decide (b < a)))
 | .geq=>some (.bool (decide (b≤a)))
 | _=>none
def lim:Nat:=1000000000
def appLim(P:Program)(e:TypeId):Nat:=if P.bytesOf e≤1 then 140737488355328 else lim
theorem appLim_le(P:Program)(e:TypeId):appLim P e≤140737488355328:=by
 unfold appLim lim; split <;> omega
theorem appLim_fits{P:Program}{e:TypeId}(h:P.bytesOf e≤1000):appLim P e * P.bytesOf e≤140737488355328:=by
 unfold appLim lim
 split
 ·rename_i h1; exact Nat.le_trans (Nat.mul_le_mul_left _ h1) (by omega)
 ·exact Nat.le_trans (Nat.mul_le_mul_left _ h) (by decide)
def bin2(op:BinOp):AV→AV→Option AV
 | .int k a,.int k' b =>
  match op with
  | .shl=>if b < 0 then none else some (.int k (k.wrap (a * 2 ^ min b.toNat k.bits)))
  | .shr=>if b < 0 then none else some (.int k (a.fdiv (2 ^ min b.toNat k.bits)))
  | _=>if k=k' then int2 op k a b else none
 | .str a,.str b =>
  match op with
  | .add=>if a.length+b.length≤lim then some (.str (a ++ b)) else none
  | .eql=>some (.bool (a == b))
  | .neq=>some (.bool (!(a == b)))
  | _=>none
 | _,_=>none
def binB2(op:BinOp):AV→AV→Option AV
 | .bool a,.bool b =>
  match op with
  | .eql=>some (.bool (a == b))
  | .neq=>some (.bool (!(a == b)))
  | _=>none
 | _,_=>none
def un1(op:UnOp):AV→Option AV
 | .bool b=>match op with | .not=>some (.bool !b) | _=>none
 | .int k n=>match op with
  | .neg=>some (.int k (k.wrap (0 - n)))
  | _=>none
 | _=>none
def cells(x:AV)(off n:Nat)(ag:Bool):Option AV :=
 if ag then(if ((x.flat.drop off).take n).length=n then some (.agg ((x.flat.drop off).take n)) else none) else x.flat[off]?
def bound(hi:Nat):AV→Option Nat
 | .int _ n=>if 0≤n∧n≤hi then some n.toNat else none
 | _=>none
def boundO(hi dflt:Nat):Option AV→Option Nat
 | none=>some dflt
 | some v=>bound hi v
def index(n:Nat):AV→Option Nat
 | .int _ i=>if 0≤i∧i < n then some i.toNat else none
 | _=>none
def bv(b:UInt8):AV:=.int .u8 b.toNat
def AV.one:AV→Bool
 | .undef | .agg _ | .tup _ | .own ..=>false
 | .lit (.agg _) | .lit (.tuple _)=>false
 | _=>true
def AV.ones(x:AV):Bool:=x.flat.all AV.one
def buildC:List AV→List (Nat × Nat × AV)→Option (List AV)
 | cs,[]=>some cs
 | cs,(off,n,v) :: rest=>if v.ones=true∧v.flat.length=n∧off+n≤cs.length then buildC (cs.take off ++(v.flat ++ cs.drop (off+n))) rest else none
def eqCells:List Nat→List AV→List AV→Option Bool
 | [],[],[]=>some true
 | 0 :: ks,.int k a :: xs,.int k' b :: ys=>if k=k' then(eqCells ks xs ys).map fun r=>(a == b) && r else none
 | 1 :: ks,.str a :: xs,.str b :: ys=>(eqCells ks xs ys).map fun r=>(a == b) && r
 | 2 :: ks,.bool a :: xs,.bool b :: ys=>(eqCells ks xs ys).map fun r=>(a == b) && r
 | _,_,_=>none
def evP(fr:Fr):OpP→Option AV
 | .mv x=>some (x.ev fr)
 | .pick c a b=>match c.ev fr with
  | .bool t=>some (if t then a.ev fr else b.ev fr)
  | _=>none
 | .bin op x y=>bin2 op (x.ev fr) (y.ev fr)
 | .binB op x y=>binB2 op (x.ev fr) (y.ev fr)
 | .un op x=>un1 op (x.ev fr)
 | .convI k x=>match x.ev fr with
  | .int _ n=>some (.int k (k.wrap n))
  | _=>none
 | .same x=>match x.ev fr with
  | .str s=>some (.str s)
  | _=>none
 | .faddr off x=>match x.ev fr with
  | .eptr id i o=>some (.eptr id i (o+off))
  | .rptr x o=>some (.rptr x (o+off))
  | _=>none
 | .field off n ag x=>match x.ev fr with
  | .agg cs=>cells (.agg cs) off n ag
  | _=>none
 | .iaddr sz x i=>match x.ev fr with
  | .sl sz' es _=>if sz=sz' then(index es.length (i.ev fr)).bind fun k=>(es[k]?).map fun e=>.rptr e 0 else none
  | .vec id sz' off len=>if sz=sz' then(index len (i.ev fr)).map fun k=>.eptr id (off+k) 0 else none
  | _=>none
 | .aaddr len sz x i=>match x.ev fr with
  | .eptr id j o=>(index len (i.ev fr)).map fun k=>.eptr id j (o+k * sz)
  | .rptr x o=>(index len (i.ev fr)).map fun k=>.rptr x (o+k * sz)
  | _=>none
 | .idxs x i=>match x.ev fr with
  | .str s=>(index s.length (i.ev fr)).bind fun k=>(s[k]?).map bv
  | _=>none
 | .idxa len sz ag x i=>match x.ev fr with
  | .agg cs=>(index len (i.ev fr)).bind fun k=>cells (.agg cs) (k * sz) sz ag
  | _=>none
 | .slices x lo hi=>match x.ev fr with
  | .str s=>(boundO s.length s.length (hi.map (·.ev fr))).bind fun h=>(boundO h 0 (lo.map (·.ev fr))).map fun l=>.str ((s.take h).drop l)
  | _=>none
 | .slicev sz x lo hi mx=>match x.ev fr with
  | .sl sz' es full=>if sz=sz'∨es=[] then match mx with
    | none=>(boundO es.length es.length (hi.map (·.ev fr))).bind fun h=>(boundO h 0 (lo.map (·.ev fr))).map fun l=>.sl sz' ((es.take h).drop l) (full && decide (h=es.length))
    | some m=>(bound es.length (m.ev fr)).bind fun m=>(hi.bind fun h=>bound m (h.ev fr)).bind fun h=>(boundO h 0 (lo.map (·.ev fr))).map fun l=>.sl sz' ((es.take h).drop l) (decide (m=h))
   else none
  | .vec id sz' off len=>if sz=sz' then match mx with
    | none=>(boundO len len (hi.map (·.ev fr))).bind fun h=>(boundO h 0 (lo.map (·.ev fr))).map fun l=>.vec id sz' (off+l) (h - l)
    | some m=>(bound len (m.ev fr)).bind fun m=>(hi.bind fun h=>bound m (h.ev fr)).bind fun h=>(boundO h 0 (lo.map (·.ev fr))).map fun _=>.undef
   else none
  | _=>none
 | .ext x i=>match x.ev fr with
  | .tup vs=>vs[i]?
  | _=>none
 | .len x=>match x.ev fr with
  | .sl _ es _=>some (.int .i64 es.length)
  | .vec _ _ _ n=>some (.int .i64 n)
  | _=>none
 | .lenS x=>match x.ev fr with
  | .str s=>some (.int .i64 s.length)
  | _=>none
 | .lenc n=>some (.int .i64 n)
 | .idxb x c=>match x.ev fr,c.ev fr with
  | .str s,.int .u8 n=>some (.int .i64 (Lib.indexByte s n.toNat.toUInt8))
  | _,_=>none
 | .minmax mx x y=>match x.ev fr,y.ev fr with
  | .int k a,.int k' b=>if k=k' then some (.int k (if mx then max a b else min a b)) else none
  | _,_=>none
 | .nilck x=>match x.ev fr with
  | .eptr id i o=>some (.eptr id i o)
  | .rptr x o=>some (.rptr x o)
  | .fn f c=>if f < ifB then some (.fn f c) else none
  | _=>none
 | .build zero parts=>(buildC zero (parts.map fun p=>(p.1,p.2.1,p.2.2.ev fr))).map .agg
 | .mkfn f caps=>some (.fn f (caps.map (·.ev fr)))
 | .isnil neg x=>match x.ev fr with
  | .sl _ [] _=>some .anyb
  | .sl _ (_ :: _) _=>some (.bool neg)
  | .vec _ _ _ len=>if 0 < len then some (.bool neg) else some .anyb
  | _=>none
 | .isnilp neg x=>match x.ev fr with
  | .eptr _ _ _ | .rptr _ _=>some (.bool neg)
  | .lit (.pointer none)=>some (.bool !neg)
  | _=>none
 | .asI t z x=>match x.ev fr with
  | .fn f [y]=>if ifB≤f then some (if f - ifB=t then .tup [y,.bool true] else .tup [z,.bool false]) else none
  | .lit .nilIface=>some (.tup [z,.bool false])
  | _=>none
 | .eqS neg ks x y=>match x.ev fr,y.ev fr with
  | .agg xs,.agg ys=>(eqCells ks xs ys).map fun b=>.bool (if neg then !b else b)
  | _,_=>none
def isAg(P:Program)(t:TypeId):Bool:=match P.underlying t with
 | some (.struct _) | some (.array _ _)=>true
 | _=>false
def tyOk(P:Program)(t:TypeId):Bool:=(P.underlying t).isSome
def toBytes:List AV→Option (List UInt8)
 | []=>some []
 | .int .u8 n :: r=>if 0≤n∧n < 256 then(toBytes r).map (UInt8.ofNat n.toNat :: ·) else none
 | _ :: _=>none
def ent(hp:Hp)(id:Nat):Option Ent:=(hp[id]?).join
def elems(hp:Hp):AV→Option (List AV)
 | .sl _ es _=>some es
 | .vec id _ off len=>(ent hp id).bind fun e=>if off+len≤e.es.length then some ((e.es.drop off).take len) else none
 | .str s=>some (s.map bv)
 | _=>none
def evR(fr:Fr)(hp:Hp):OpR→Option AV
 | .load n ag x=>match x.ev fr with
  | .rptr x off=>cells x off n ag
  | .eptr id i off=>(ent hp id).bind fun e=>(e.es[i]?).bind fun x=>cells x off n ag
  | _=>none
 | .b2s x=>match x.ev fr with
  | .sl sz es _=>if sz=1∨es=[] then(toBytes es).map .str else none
  | .vec id sz off len=>if sz=1 then(elems hp (.vec id sz off len)).bind fun es=>(toBytes es).map .str else none
  | _=>none
 | .cut sz x lo hi=>match evP fr (.slicev sz x (some lo) (some hi) none) with
  | some v=>some v
  | none=>match x.ev fr with
   | .vec id sz' off _=>(ent hp id).bind fun e=>if sz=sz'∧off=0 then(bound e.es.length (hi.ev fr)).bind fun h=>(bound h (lo.ev fr)).map fun l=>.vec id sz' l (h - l) else none
   | _=>none
def methI(P:Program)(m:String)(t:TypeId):Option (FuncId × Bool) :=
 (P.info? t).bind fun i=>(i.methods.find? (·.name == m)).bind fun k=>if k.path.isEmpty then k.func else none
def recvT(P:Program)(hp:Hp)(t:TypeId)(y:AV)(p:FuncId × Bool):Option (FuncId × AV):=match P.underlying t with
 | some (.pointer e)=>if p.2 then some (p.1,y) else if tyOk P e then(evR [] hp (.load (P.cellsOf e) (isAg P e) (.c y))).map fun v=>(p.1,v) else none
 | _=>none
def recvI(P:Program)(m:String)(hp:Hp):AV→Option (FuncId × AV)
 | .fn f [y]=>if f < ifB then none else(methI P m (f - ifB)).bind (recvT P hp (f - ifB) y)
 | _=>none
def setCells(x v:AV)(off n:Nat):Option AV :=
 if v.ones && v.flat.length == n then
  match x with
  | .agg cs=>if off+n≤cs.length then some (.agg (cs.take off ++(v.flat ++ cs.drop (off+n)))) else none
  | _=>if off=0 then match v with
   | .agg _=>none
   | v=>some v else none
 else none
def new(base:Nat)(r:Option Nat)(hp:Hp)(e:Ent):Option (Nat × Hp) :=
 match r with
 | none=>some (hp.length,hp ++ [some e])
 | some j=>if base+j < hp.length ∧(ent hp (base+j)).isNone then some (base+j,hp.set (base+j) (some e)) else none
def newVec(base:Nat)(r:Option Nat)(hp:Hp)(sz:Nat)(ty:TypeId)(es:List AV):Option (AV × Hp) :=
 (new base r hp ⟨ty,es,true⟩).map fun p=>(.vec p.1 sz 0 es.length,p.2)
def newVar(base:Nat)(r:Option Nat)(hp:Hp)(ty:TypeId)(x:AV):Option (AV × Hp) :=
 (new base r hp ⟨ty,[x],true⟩).map fun p=>(.eptr p.1 0 0,p.2)
def setParts(sz:Nat):List AV→List (Nat × AV)→Option (List AV)
 | es,[]=>some es
 | es,(i,v) :: r=>if v.ones=true∧v.flat.length=sz∧i < es.length then setParts sz (es.set i v) r else none
def szOk(sz:Nat):AV→Bool
 | .sl sz' es _=>sz' == sz || es.isEmpty
 | .vec _ sz' _ _=>sz' == sz
 | .str _=>sz == 1
 | _=>false
def notStr:AV→Bool
 | .str _=>false
 | _=>true
def evE(base:Nat)(r:Option Nat)(fr:Fr)(hp:Hp):OpE→Option (AV × Hp)
 | .alloc ty z=>newVar base r hp ty z
 | .box ty x=>if (x.ev fr).ones then newVar base r hp ty (x.ev fr) else none
 | .mks ty sz z len parts=>(setParts sz (List.replicate len z) (parts.map fun p=>(p.1,p.2.ev fr))).bind fun es=>newVec base r hp sz ty es
 | .make ty sz z len cap=>(bound lim (cap.ev fr)).bind fun c=>(bound c (len.ev fr)).bind fun n=>newVec base r hp sz ty (List.replicate n z)
 | .store n x v=>match x.ev fr with
  | .eptr id i off=>(ent hp id).bind fun e=>if e.wr then(e.es[i]?).bind fun x=>(setCells x (v.ev fr) off n).map fun x' =>
    (.undef,hp.set id (some { e with es:=e.es.set i x' })) else none
  | _=>none
 | .append ty sz lm x y=>if szOk sz (y.ev fr) then(elems hp (y.ev fr)).bind fun ys=>match x.ev fr with
  | .sl _ [] true=>if ys.length≤lm then newVec base r hp sz ty ys else none
  | .sl sz' (e :: es) true=>if sz=sz'∧ys≠[]∧es.length+1+ys.length≤lm then newVec base r hp sz ty (e :: es ++ ys) else if sz=sz'∧ys=[] then some (.sl sz' (e :: es) true,hp) else none
  | .vec id sz' off len=>(ent hp id).bind fun e=>if e.wr∧sz=sz'∧ty=e.ty∧off=0∧len=e.es.length∧len+ys.length≤lm then
    newVec base r (hp.set id (some { e with es:=[],wr:=false })) sz ty (e.es ++ ys) else if e.wr∧sz=sz'∧ty=e.ty∧off=0∧len+ys.length≤e.es.length then
    some (.vec id sz' 0 (len+ys.length),hp.set id (some { e with es:=e.es.take len ++(ys ++ e.es.drop (len+ys.length)) })) else none
  | _=>none
  else none
 | .s2b ty x=>match x.ev fr with
  | .str s=>if s.length≤lim then newVec base r hp 1 ty (s.map bv) else none
  | _=>none
 | .copy sz x y=>if szOk sz (y.ev fr)∧notStr (y.ev fr) then(elems hp (y.ev fr)).bind fun ys=>match x.ev fr with
  | .vec id sz' off len=>(ent hp id).bind fun e=>if e.wr∧sz=sz'∧off+len≤e.es.length then
    some (.int .i64 (min ys.length len),hp.set id (some { e with es:=e.es.take off ++(ys.take len ++ e.es.drop (off+min ys.length len)) })) else none
  | .sl _ [] _=>some (.int .i64 0,hp)
  | _=>none
  else none
 | .clear sz z x=>match x.ev fr with
  | .vec id sz' off len=>(ent hp id).bind fun e=>if e.wr∧sz=sz'∧off+len≤e.es.length then
    some (.undef,hp.set id (some { e with es:=e.es.take off ++(List.replicate len z ++ e.es.drop (off+len)) })) else none
  | .sl _ [] _=>some (.undef,hp)
  | _=>none
 | .mark x=>match x.ev fr with
  | .vec id sz off len=>(ent hp id).bind fun e=>if e.wr∧off=0∧e.es≠[] then some (.vec id sz off len,hp) else none
  | _=>none
def mapO(f:AV→Option AV):List AV→Option (List AV)
 | []=>some []
 | x :: xs=>(f x).bind fun y=>(mapO f xs).map fun ys=>y :: ys
def snap(hp:Hp):Nat→AV→Option AV
 | 0,_=>none
 | n+1,x=>match x with
  | .vec id sz off len=>(elems hp (.vec id sz off len)).bind fun es=>(mapO (snap hp n) es).map fun es=>.sl sz es false
  | .eptr id i off=>(ent hp id).bind fun e=>(e.es[i]?).bind fun x=>(snap hp n x).map fun x=>.rptr x off
  | .agg cs=>(mapO (snap hp n) cs).map .agg
  | .tup vs=>(mapO (snap hp n) vs).map .tup
  | .fn f caps=>(mapO (snap hp n) caps).map (.fn f)
  | .own ..=>none
  | .undef=>none
  | x=>some x
def rows(hp:Hp):Nat→AV→List Nat
 | 0,_=>[]
 | n+1,x=>match x with
  | .vec id sz off len=>id :: ((elems hp (.vec id sz off len)).getD []).flatMap (rows hp n)
  | .eptr id i _=>id :: (((ent hp id).bind fun e=>e.es[i]?).toList).flatMap (rows hp n)
  | .agg cs=>cs.flatMap (rows hp n)
  | .tup vs=>vs.flatMap (rows hp n)
  | .fn _ caps=>caps.flatMap (rows hp n)
  | _=>[]
def deep:Nat:=6
def still(hp:Hp):List Nat→Hp
 | []=>hp
 | id :: r=>match ent hp id with
  | some e=>still (hp.set id (some { e with wr:=false })) r
  | none=>still hp r
inductive Mode where
 | snap
 | own (sz:Nat) (ty:TypeId)
 | nil (sz:Nat) (full:Bool)
def passOne(hp:Hp)(m:Mode)(x:AV):Option (AV × Hp × List Nat) :=
 match m with
 | .snap=>(snap hp deep x).map fun y=>(y,hp,rows hp deep x)
 | .own sz ty=>match x with
  | .vec id sz' off len=>(ent hp id).bind fun e=>if e.wr∧off=0∧len≤e.es.length∧sz'=sz∧e.ty=ty then(mapO (snap hp deep) (e.es.take len)).map fun es=>(.own sz ty es,hp.set id (some { e with es:=[],wr:=false }),(e.es.take len).flatMap (rows hp deep)) else none
  | .sl _ [] true=>some (.own sz ty [],hp,[])
  | _=>none
 | .nil sz full=>match x with
  | .sl _ [] full'=>if full=true→full'=true then some (.sl sz [] full,hp,[]) else none
  | .vec _ _ _ n=>if n=0∧full=false then some (.sl sz [] false,hp,[]) else none
  | _=>none
def passG{μ:Type}(g:Hp→μ→AV→Option (AV × Hp × List Nat))(d:μ)(hp:Hp):List μ→List AV→Option (List AV × Hp × List Nat)
 | _,[]=>some ([],hp,[])
 | ms,x :: xs=>(g hp (ms.headD d) x).bind fun p=>(passG g d p.2.1 ms.tail xs).map fun q=>(p.1 :: q.1,q.2.1,p.2.2 ++ q.2.2)
def pass(hp:Hp)(ms:List Mode)(xs:List AV):Option (List AV × Hp × List Nat):=passG passOne .snap hp ms xs
def liveB(hp:Hp)(l:List Nat):Bool:=l.all fun id=>match ent hp id with | some e=>e.wr || !e.es.isEmpty | none=>false
def layC(hp:Hp):AV→AV × Hp
 | .own sz ty es=>(.vec hp.length sz 0 es.length,hp ++ [some ⟨ty,es,true⟩])
 | x=>(x,hp)
def layL(f:Hp→AV→AV × Hp)(hp:Hp):List AV→List AV × Hp
 | []=>([],hp)
 | x :: xs=>((f hp x).1 :: (layL f (f hp x).2 xs).1,(layL f (f hp x).2 xs).2)
def layA(hp:Hp):AV→AV × Hp
 | .agg cs=>(.agg (layL layC hp cs).1,(layL layC hp cs).2)
 | x=>layC hp x
def lay(hp:Hp):AV→AV × Hp
 | .tup vs=>(.tup (layL layA hp vs).1,(layL layA hp vs).2)
 | x=>layA hp x
def handA(hp:Hp)(ms:List Mode)(x:AV):Option (AV × Hp × List Nat) :=
 match ms,x with
 | [m],x=>passOne hp m x
 | [],x=>passOne hp .snap x
 | ms,.agg xs=>(pass hp ms xs).map fun p=>(.agg p.1,p.2)
 | _,_=>none
def handT(hp:Hp)(ms:List (List Mode))(xs:List AV):Option (List AV × Hp × List Nat):=passG handA [] hp ms xs
def hand(hp:Hp)(ms:List (List Mode))(x:AV):Option (AV × Hp × List Nat) :=
 match x with
 | .tup xs=>(handT hp ms xs).map fun p=>(.tup p.1,p.2)
 | x=>handA hp (ms.headD []) x
def idsOf(hp:Hp):Nat→AV→List Nat
 | 0,_=>[]
 | n+1,x=>match x with
  | .vec id _ _ _=>id :: (((ent hp id).map fun e=>e.es).getD []).flatMap (idsOf hp n)
  | .eptr id _ _=>id :: (((ent hp id).map fun e=>e.es).getD []).flatMap (idsOf hp n)
  | .agg cs=>cs.flatMap (idsOf hp n)
  | .tup vs=>vs.flatMap (idsOf hp n)
  | .fn _ caps=>caps.flatMap (idsOf hp n)
  | _=>[]
def dedup:List Nat→List Nat→List Nat
 | acc,[]=>acc.reverse
 | acc,x :: xs=>if acc.contains x then dedup acc xs else dedup (x :: acc) xs
def place:List Nat→Nat→Option Nat
 | [],_=>none
 | x :: xs,id=>if x=id then some 0 else(place xs id).map (·+1)
def renX(l:List Nat):Nat→AV→AV
 | 0,_=>.undef
 | n+1,x=>match x with
  | .vec id sz off len=>match place l id with | some i=>.vec i sz off len | none=>.undef
  | .eptr id i off=>match place l id with | some j=>.eptr j i off | none=>.undef
  | .agg cs=>.agg (cs.map (renX l n))
  | .tup vs=>.tup (vs.map (renX l n))
  | .fn f caps=>.fn f (caps.map (renX l n))
  | x=>x
def renE(l:List Nat)(e:Option Ent):Option Ent:=e.map fun e=>{ e with es:=e.es.map (renX l deep) }
def gcSt(σ:St):St :=
 let l:=dedup [] (σ.fr.flatMap fun p=>idsOf σ.hp deep p.2)
 ⟨σ.fr.map fun p=>(p.1,renX l deep p.2),l.map fun id=>renE l (ent σ.hp id)⟩
def frzRow(σ:St)(id:Nat):St :=
 match ent σ.hp id with
 | some e=>match mapO (snap σ.hp deep) e.es with
  | some es=>if (e.es.flatMap (rows σ.hp deep)).contains id then σ else⟨σ.fr,still (σ.hp.set id (some { e with es:=es })) (e.es.flatMap (rows σ.hp deep))⟩
  | none=>σ
 | none=>σ
def frzSlot(σ:St):AV→St
 | .vec id _ _ _=>frzRow σ id
 | .eptr id _ _=>frzRow σ id
 | _=>σ
def frzFld(σ:St)(f:Nat):AV→St
 | .eptr id i _=>match (ent σ.hp id).bind fun e=>e.es[i]? with
  | some (.agg cs)=>frzSlot σ (cs.getD f .undef)
  | _=>σ
 | _=>σ
def rowOne(σ:St)(n:Nat × Nat × TypeId):St :=
 if n.2.1=1000000 then frzSlot σ (get σ.fr n.1) else
 if n.2.1=1000001 then frzFld σ n.2.2 (get σ.fr n.1) else
 match get σ.fr n.1 with
 | .sl _ [] true=>⟨put σ.fr n.1 (.vec σ.hp.length n.2.1 0 0),σ.hp ++ [some ⟨n.2.2,[],true⟩]⟩
 | _=>σ
def trim(tr:Option Trim)(σ:St):St :=
 match tr with
 | none=>σ
 | some t =>
  let σ:=⟨t.ks.map fun k=>(k,get σ.fr k),σ.hp⟩
  let σ:=t.nils.foldl rowOne σ
  if t.gc then gcSt σ else σ
def ofVal:Value→AV
 | .bool b=>.bool b
 | .int k n=>.int k n
 | .string s=>.str s.data.toList
 | .slice a n c=>if a.isNone && n == 0 && c == 0 then .sl 0 [] true else .lit (.slice a n c)
 | .func g a b=>if a.isEmpty && b.isEmpty then(match g with | .func f=>if f < 1000000 then .fn f [] else .lit (.func (.func f) a b) | g=>.lit (.func g a b)) else .lit (.func g a b)
 | v=>.lit v
def ofZero:Value→AV
 | .agg cs=>.agg (cs.toList.map ofVal)
 | v=>ofVal v
def cx:Operand→AX
 | .tmp t=>.t t
 | .const v=>.c (ofVal v)
 | .global g=>.c (.lit (.pointer (some ⟨g,0,none⟩)))
 | .func f=>.c (if f < 1000000 then .fn f [] else .lit (.func (.func f) #[] #[]))
def zeroOf(P:Program)(t:TypeId):Option Value:=(P.info? t).bind (·.zero)
def isU8(P:Program)(t:TypeId):Bool:=match P.underlying t with | some (.int .u8)=>true | _=>false
def basicT(P:Program)(t:TypeId):Option Nat:=match P.underlying t with
 | some (.int _)=>some 0
 | some .string=>some 1
 | some .bool=>some 2
 | _=>none
def plainL(P:Program):Nat→List Field→Bool
 | _,[]=>true
 | i,f :: fs=>f.name != "_" && (f.offset == i && ((basicT P f.type).isSome && plainL P (i+1) fs))
def plainS(P:Program)(t:TypeId)(fs:Array Field):Bool:=!P.stoodInHeld t && (!P.eqGuardType P.depth t && plainL P 0 fs.toList)
def oneV:Value→Bool
 | .agg _ | .tuple _=>false
 | _=>true
def isIdx(P:Program)(f:FuncId):Bool:=match P.funcs[f]? with
 | some fn=>fn.body.isNone && (fn.origin == "" && fn.name == "internal/bytealg.IndexByteString")
 | none=>false
def compOp(P:Program)(d:Bool)(r:Option Nat)(o:Oper):Op1 :=
 match o.op with
 | .move x | .assign x=>.p (.mv (cx x))
 | .pick c a b=>.p (.pick (cx c) (cx a) (cx b))
 | .alloc t=>match zeroOf P t with | some z=>if z.cells.all oneV then .e (.alloc t (ofZero z)) r else .bad | none=>.bad
 | .box t x=>.e (.box t (cx x)) r
 | .build t parts=>match P.underlying t,zeroOf P t with
  | some (.struct fs),some (.agg z)=>if !(fs.all fun f=>tyOk P f.type) || !(parts.all fun p=>decide (p.1 < fs.size)) || !(z.all oneV) then .bad else .p (.build (z.toList.map ofVal) (parts.toList.map fun p=>((fs.getD p.1 default).offset,P.cellsOf (fs.getD p.1 default).type,cx p.2)))
  | some (.array _ e),some (.agg z)=>if !tyOk P e || !(z.all oneV) then .bad else .p (.build (z.toList.map ofVal) (parts.toList.map fun p=>(p.1 * P.cellsOf e,P.cellsOf e,cx p.2)))
  | _,_=>.bad
 | .buildSlice t n parts=>match P.underlying t with
  | some (.slice e)=>match zeroOf P e with
   | some z=>if z.cells.size=P.cellsOf e∧z.cells.all oneV=true∧n * P.cellsOf e≤16777216 then .e (.mks e (P.cellsOf e) (ofZero z) n (parts.toList.map fun p=>(p.1,cx p.2))) r else .bad
   | none=>.bad
  | _=>.bad
 | .load t x=>if tyOk P t then .r (.load (P.cellsOf t) (isAg P t) (cx x)) else .bad
 | .store t x v=>if tyOk P t then .e (.store (P.cellsOf t) (cx x) (cx v)) r else .bad
 | .nilCheck x=>.p (.nilck (cx x))
 | .binOp op t x y _=>match P.underlying t with
  | some (.int _) | some .string=>.p (.bin op (cx x) (cx y))
  | some .bool=>.p (.binB op (cx x) (cx y))
  | some (.pointer _)=>match op,y with
   | .eql,.const (.pointer none)=>.p (.isnilp false (cx x))
   | .neq,.const (.pointer none)=>.p (.isnilp true (cx x))
   | _,_=>.bad
  | some (.slice _)=>match op,y with
   | .eql,.const (.slice none 0 0)=>.p (.isnil false (cx x))
   | .neq,.const (.slice none 0 0)=>.p (.isnil true (cx x))
   | _,_=>.bad
  | some (.struct fs)=>if plainS P t fs then(match op with
   | .eql=>.p (.eqS false (fs.toList.map fun f=>(basicT P f.type).getD 3) (cx x) (cx y))
   | .neq=>.p (.eqS true (fs.toList.map fun f=>(basicT P f.type).getD 3) (cx x) (cx y))
   | _=>.bad) else .bad
  | _=>.bad
 | .unOp op _ x=>.p (.un op (cx x))
 | .convert s d x=>match P.underlying s,P.underlying d with
  | some (.int _),some (.int k)=>.p (.convI k (cx x))
  | some .string,some .string=>.p (.same (cx x))
  | some (.slice e),some .string=>if isU8 P e then .r (.b2s (cx x)) else .bad
  | some .string,some (.slice e)=>if isU8 P e then .e (.s2b e (cx x)) r else .bad
  | some (.slice _),some (.slice e)=>if isU8 P e && s == d then .e (.mark (cx x)) r else .bad
  | _,_=>.bad
 | .makeInterface t x=>match P.underlying t with
  | some (.interface _) | none=>.bad
  | _=>.p (.mkfn (ifB+t) [cx x])
 | .typeAssert x _ t true=>match P.underlying t with
  | some (.interface _) | none=>.bad
  | _=>match zeroOf P t with
   | some z=>if z.cells.all oneV then .p (.asI t (ofZero z) (cx x)) else .bad
   | none=>.bad
 | .makeFunc (.func f) first caps=>if first.isEmpty then(if f < 1000000 then .p (.mkfn f (caps.toList.map cx)) else .bad) else if caps.isEmpty && decide (f < 1000000) then .p (.mkfn (f+1000000) (first.toList.map cx)) else .bad
 | .makeSlice t l c=>match P.underlying t with
  | some (.slice e)=>match zeroOf P e with
   | some z=>if z.cells.size=P.cellsOf e∧z.cells.all oneV=true∧P.bytesOf e≤1000 then .e (.make e (P.cellsOf e) (ofZero z) (cx l) (cx c)) r else .bad
   | none=>.bad
  | _=>.bad
 | .slice t x lo hi mx=>match P.underlying t with
  | some .string=>if mx.isNone then .p (.slices (cx x) (lo.map cx) (hi.map cx)) else .bad
  | some (.slice e)=>if tyOk P e then(match d,lo,hi,mx with
   | false,some l,some h,none=>.r (.cut (P.cellsOf e) (cx x) (cx l) (cx h))
   | _,_,_,_=>.p (.slicev (P.cellsOf e) (cx x) (lo.map cx) (hi.map cx) (mx.map cx))) else .bad
  | _=>.bad
 | .fieldAddr s x f=>match P.underlying s with
  | some (.struct fs)=>match fs[f]? with | some fd=>if P.cellsOf fd.type=0 then .bad else .p (.faddr fd.offset (cx x)) | none=>.bad
  | _=>.bad
 | .field s x f=>match P.underlying s with
  | some (.struct fs)=>match fs[f]? with | some fd=>if tyOk P fd.type then .p (.field fd.offset (P.cellsOf fd.type) (isAg P fd.type) (cx x)) else .bad | none=>.bad
  | _=>.bad
 | .indexAddr t x i=>match P.underlying t with
  | some (.slice e)=>if tyOk P e then .p (.iaddr (P.cellsOf e) (cx x) (cx i)) else .bad
  | some (.array n e)=>if tyOk P e then .p (.aaddr n (P.cellsOf e) (cx x) (cx i)) else .bad
  | _=>.bad
 | .index t x i=>match P.underlying t with
  | some .string=>.p (.idxs (cx x) (cx i))
  | some (.array n e)=>if tyOk P e then .p (.idxa n (P.cellsOf e) (isAg P e) (cx x) (cx i)) else .bad
  | _=>.bad
 | .extract x i=>.p (.ext (cx x) i)
 | .call c=>match c.callee with
  | .value (.func f)=>if isIdx P f then(match c.args.toList with
   | [x,y]=>.p (.idxb (cx x) (cx y))
   | _=>.bad) else .call f (c.args.toList.map cx) d
  | .value x=>.callv (cx x) (c.args.toList.map cx)
  | .invoke x m=>.calli m (cx x) (c.args.toList.map cx)
  | .builtin b=>match b,c.args.toList,c.argTypes.toList with
   | .len,[x],[t]=>match P.underlying t with
    | some .string=>.p (.lenS (cx x))
    | some (.slice _)=>.p (.len (cx x))
    | some (.array n _)=>.p (.lenc n)
    | _=>.bad
   | .append,[x,y],[t,t']=>match P.underlying t,P.underlying t' with
    | some (.slice e),some (.slice _)=>if ((zeroOf P e).map (·.cells.size))=some (P.cellsOf e)∧P.bytesOf e≤1000 then .e (.append e (P.cellsOf e) (appLim P e) (cx x) (cx y)) r else .bad
    | some (.slice e),some .string=>if ((zeroOf P e).map (·.cells.size))=some (P.cellsOf e)∧P.bytesOf e≤1000 then .e (.append e (P.cellsOf e) (appLim P e) (cx x) (cx y)) r else .bad
    | _,_=>.bad
   | .copy,[x,y],[t,t']=>match P.underlying t,P.underlying t' with
    | some (.slice e),some (.slice _)=>if P.cellsOf e=1 then .e (.copy (P.cellsOf e) (cx x) (cx y)) r else .bad
    | _,_=>.bad
   | .clear,[x],[t]=>match P.underlying t with
    | some (.slice e)=>match zeroOf P e with
     | some z=>if z.cells.size=P.cellsOf e∧z.cells.all oneV=true then .e (.clear (P.cellsOf e) (ofZero z) (cx x)) r else .bad
     | none=>.bad
    | _=>.bad
   | .min,[x,y],_=>.p (.minmax false (cx x) (cx y))
   | .max,[x,y],_=>.p (.minmax true (cx x) (cx y))
   | _,_,_=>.bad
 | _=>.bad
def makes(P:Program)(ops:Array Oper):Bool:=ops.toList.any fun o=>match compOp P true (some 0) o with
 | .e (.alloc ..) _ | .e (.box ..) _ | .e (.mks ..) _ | .e (.make ..) _ | .e (.s2b ..) _=>true
 | _=>false
def usesL'(l:List AX):List Nat:=l.flatMap fun x=>match x with | .t n=>[n] | .c _=>[]
def madeBy(P:Program)(o:Oper):List Nat:=match compOp P true (some 0) o with
 | .e (.append ..) _ | .e (.mks ..) _ | .e (.make ..) _ | .e (.s2b ..) _ | .call _ _ true=>o.dst.toList
 | _=>[]
def made(P:Program)(ops:Array Oper):List Nat:=ops.toList.flatMap (madeBy P)
def chainTy(P:Program)(ops:Array Oper)(o:Oper):List TypeId:=match compOp P true none o with
 | .call f xs true=>match P.funcs[f]? with
  | some fn =>
   let el:=fun t=>(match P.underlying t with | some (.slice e)=>some e | _=>none)
   let ps:=fn.params.toList.filterMap el
   (if (usesL' xs).any (made P ops).contains then ps else ps.filter (fn.resultTypes.toList.filterMap el).contains) ++ fn.params.toList.filterMap fun t=>(match P.underlying t with | some (.pointer e)=>some e | _=>none)
  | none=>[]
 | _=>[]
def behind(ops:Array Oper)(i:Nat):Nat :=
 (ops.toList.foldl (fun(p:Nat × Nat) o=>(p.1+1,if o.after.any fun e=>Region.binds .any e && p.2.testBit e.on then p.2 ||| 2 ^ p.1 else p.2)) (0,2 ^ i)).2
def growsFree(P:Program)(ops:Array Oper)(i:Nat):List TypeId :=
 ops.toList.zipIdx.flatMap fun p=>if (behind ops i).testBit p.2 then [] else
  (match compOp P true none p.1 with | .e (.append t _ _ _ _) _=>[t] | _=>[]) ++ chainTy P ops p.1
def anc(ops:Array Oper):Array Nat:=Region.before ops
def fixedAt(ops:Array Oper)(i:Nat):Bool :=
 (List.range ops.size).all fun j=>j == i || (((anc ops).getD i 0).testBit j || ((anc ops).getD j 0).testBit i)
def fixCall(d:Bool)(ops:Array Oper)(i:Nat):Op1→Op1
 | .call f xs true=>if d && (decide (f < 1000000) && fixedAt ops i) then .callv (.c (.fn f [])) xs else .call f xs true
 | x=>x
theorem fixCall_cases(d:Bool)(ops:Array Oper)(i:Nat)(x:Op1):fixCall d ops i x=x∨∃ f xs,f < 1000000∧x=.call f xs true∧fixCall d ops i x=.callv (.c (.fn f [])) xs:=by
 cases x with
 | call f xs b =>
  cases b with
  | false=>exact .inl rfl
  | true =>
   simp only[fixCall]
   split
   ·rename_i h
    simp only[Bool.and_eq_true,decide_eq_true_eq] at h
    exact .inr ⟨f,xs,h.2.1,rfl,rfl⟩
   ·exact .inl rfl
 | _=>exact .inl rfl
theorem fixCall_false(ops:Array Oper)(i:Nat)(x:Op1):fixCall false ops i x=x:=by
 cases x with
 | call f xs b=>cases b <;> rfl
 | _=>rfl
def comp2(P:Program)(ops:Array Oper)(d:Bool)(i:Nat)(o:Oper):Op2 where
 dst:=o.dst
 guard:=match o.guard with
  | none=>none
  | some (j,want)=>match (ops[j]?).bind (·.dst) with
   | some t=>some (t,want)
   | none=>none
 no:=if d then(match compOp P true none o with | .call ..=>chainTy P ops o | .r (.load ..)=>growsFree P ops i | _=>[]) else []
 fm:=d && makes P ops
 op:=match o.guard with
  | none=>fixCall d ops i (compOp P d (if d then some i else none) o)
  | some (j,_)=>match (ops[j]?).bind (·.dst) with
   | some _=>fixCall d ops i (compOp P d (if d then some i else none) o)
   | none=>.bad
def cls:Op1→Nat
 | .p _=>0
 | .r (.load ..)=>1
 | .r (.cut ..)=>6
 | .r _=>2
 | .e (.alloc ..) (some _) | .e (.box ..) (some _) | .e (.mks ..) (some _) | .e (.make ..) (some _) | .e (.s2b ..) (some _)=>3
 | .e (.append ..) (some _)=>4
 | .call _ _ true=>5
 | _=>6
def AX.uses:AX→List Nat
 | .t n=>[n]
 | .c _=>[]
def usesO(o:Option AX):List Nat:=match o with | some x=>x.uses | none=>[]
def usesL(l:List AX):List Nat:=l.flatMap AX.uses
def OpP.uses:OpP→List Nat
 | .mv x | .un _ x | .convI _ x | .same x | .faddr _ x | .field _ _ _ x | .ext x _ | .len x | .lenS x | .nilck x | .isnil _ x | .isnilp _ x | .asI _ _ x=>x.uses
 | .pick c a b=>c.uses ++(a.uses ++ b.uses)
 | .bin _ x y | .binB _ x y | .iaddr _ x y | .aaddr _ _ x y | .idxs x y | .idxa _ _ _ x y | .minmax _ x y | .idxb x y | .eqS _ _ x y=>x.uses ++ y.uses
 | .slices x lo hi=>x.uses ++(usesO lo ++ usesO hi)
 | .slicev _ x lo hi mx=>x.uses ++(usesO lo ++(usesO hi ++ usesO mx))
 | .lenc _=>[]
 | .build _ ps=>usesL (ps.map fun p=>p.2.2)
 | .mkfn _ cs=>usesL cs
def OpR.uses:OpR→List Nat
 | .load _ _ x | .b2s x=>x.uses
 | .cut _ x y z=>x.uses ++(y.uses ++ z.uses)
def OpE.uses:OpE→List Nat
 | .alloc ..=>[]
 | .box _ x | .s2b _ x | .clear _ _ x | .mark x=>x.uses
 | .mks _ _ _ _ ps=>usesL (ps.map fun p=>p.2)
 | .make _ _ _ x y | .store _ x y | .append _ _ _ x y | .copy _ x y=>x.uses ++ y.uses
def Op1.uses:Op1→List Nat
 | .p o=>o.uses
 | .r o=>o.uses
 | .e o _=>o.uses
 | .call _ xs _=>usesL xs
 | .callv x xs | .calli _ x xs=>x.uses ++ usesL xs
 | .bad=>[]
def Op2.looks(o:Op2):List Nat:=o.op.uses ++(match o.guard with | some (t,_)=>[t] | none=>[])
def apart2(x y:Op2):Bool :=
 (match x.dst with | some d=>!y.looks.contains d && y.dst != some d | none=>true) &&
 (match y.dst with | some d=>!x.looks.contains d | none=>true)
def swapC(x y:Nat):Bool :=
 x == 0 || y == 0 || (x == 1 && y == 4) || ((x == 1 || x == 2) && (y == 1 || y == 2 || y == 3 || y == 5)) || ((x == 3 || x == 4 || x == 5) && y == 3)
def appTy:Op1→Option TypeId
 | .e (.append t _ _ _ _) _=>some t
 | _=>none
def callTy(o:Op2):List TypeId:=if cls o.op == 5 then o.no else []
def swapOk(x y:Op2):Bool:=((swapC (cls x.op) (cls y.op) && (cls x.op != 5 || cls y.op != 3 || x.fm)) && (apart2 x y && (match appTy y.op with | some t=>cls x.op != 1 || x.no.contains t | none=>true))) &&
 ((cls x.op != 1 || (callTy y).all fun t=>x.no.contains t) && (cls x.op != 2 || (callTy y).isEmpty))
def ready1(ops:Array Oper)(did:Nat)(i:Nat):Bool :=
 !did.testBit i && (match ops[i]? with | some o=>o.after.all fun e=>!Region.binds .any e || did.testBit e.on | none=>false)
def order(ops:Array Oper)(c:Array Nat):Nat→Nat→List Nat
 | 0,_=>[]
 | n+1,did =>
  let rs:=(List.range ops.size).filter (ready1 ops did)
  match (rs.find? fun i=>decide (c.getD i 6≤2)).orElse fun _=>rs.head? with
  | some i=>i :: order ops c n (did ||| 2 ^ i)
  | none=>[]
def needs(ops:Array Oper)(b:Array Nat)(i:Nat):Nat:=match ops[i]? with
 | some o=>o.after.toList.foldl (fun acc e=>if Region.binds .any e then acc ||| (2 ^ e.on ||| b.getD e.on 0) else acc) 0
 | none=>0
def closedB(ops:Array Oper)(b:Array Nat):Bool :=
 (List.range ops.size).all fun i=>(b.getD i 0 ||| needs ops b i) == needs ops b i
def swapIx(cs:Array Op2)(i j:Nat):Bool:=match cs[i]?,cs[j]? with | some x,some y=>swapOk x y | _,_=>false
def linB(ops:Array Oper)(cs:Array Op2)(b:Array Nat):List Nat→Nat→Bool
 | [],_=>true
 | i :: r,did=>ready1 ops did i &&
  (r.all fun j=>(b.getD j 0).testBit i || swapIx cs i j) && linB ops cs b r (did ||| 2 ^ i)
def ldAt(o:Op2):Option Nat:=match o.guard,o.op with | none,.r (.load _ _ (.t t))=>some t | _,_=>none
def stAt(o:Op2):Option Nat:=match o.guard,o.op with | none,.e (.store _ (.t t) _) _=>some t | _,_=>none
def isCv(o:Op2):Bool:=match o.guard,o.op with | none,.callv _ _=>true | _,_=>false
def openLS(x y:Op2):Option (Nat × Nat):=match ldAt x,stAt y with
 | some t,some s=>if apart2 x y && (x.dst != some t && (y.dst != some t && y.dst != some s)) then some (t,s) else none
 | some t,none=>if isCv y && (apart2 x y && (x.dst != some t && y.dst != some t)) then some (t,t) else none
 | _,_=>none
def dstAt(cs:Array Op2)(k:Nat):Option Nat:=(cs[k]?).bind (·.dst)
def lsIx(cs:Array Op2)(i j:Nat):Option (Nat × Nat):=match cs[i]?,cs[j]? with | some x,some y=>openLS x y | _,_=>none
def lsOk(cs:Array Op2)(r:List Nat)(i j:Nat):Bool:=match lsIx cs i j with
 | some (t,s)=>(r.all fun k=>dstAt cs k != some t) && ((r.dropWhile (· != j)).all fun k=>dstAt cs k != some s)
 | none=>false
def linP(ops:Array Oper)(cs:Array Op2)(b:Array Nat):List Nat→Nat→Bool
 | [],_=>true
 | i :: r,did=>ready1 ops did i &&
  (r.all fun j=>(b.getD j 0).testBit i || (swapIx cs i j || lsOk cs r i j)) && linP ops cs b r (did ||| 2 ^ i)
def pairs(cs:Array Op2)(b:Array Nat):List Nat→List (Nat × Nat)
 | []=>[]
 | i :: r=>(r.filterMap fun j=>if (b.getD j 0).testBit i || swapIx cs i j then none else lsIx cs i j) ++ pairs cs b r
def apB(ps:List (Nat × Nat))(fr:Fr):Bool:=ps.all fun p=>match get fr p.1,get fr p.2 with
 | .eptr i _ _,.eptr j _ _=>i != j
 | .rptr ..,.eptr ..=>true
 | .rptr ..,.rptr ..=>true
 | _,_=>false
def fullB(ops:Array Oper)(l:List Nat):Bool:=decide (l.length≤ops.size) && (List.range ops.size).all fun i=>l.contains i
def pick(cs:Array Op2)(l:List Nat):List Op2:=l.filterMap fun i=>cs[i]?
def compL(P:Program)(ops:Array Oper)(d:Bool):List Op2:=ops.toList.zipIdx.map fun p=>comp2 P ops d p.2 p.1
def comp(P:Program):Code→AC
 | .skip=>.skip
 | .region _ ops false=>.region 0 (compL P ops false) none
 | .region _ ops true =>
  let cs:=(compL P ops true).toArray
  let b:=anc ops
  let l:=order ops (cs.map fun o=>cls o.op) ops.size 0
  if fullB ops l=true∧closedB ops b=true∧linB ops cs b l 0=true then .region ops.size (pick cs l) none else
  if fullB ops l=true∧closedB ops b=true∧linP ops cs b l 0=true then .regionA ops.size (pick cs l) (pairs cs b l) none else .bad
 | .seq a b=>.seq (comp P a) (comp P b)
 | .cond c x y=>.cond (cx c) (comp P x) (comp P y)
 | .block id b=>.block id (comp P b)
 | .loop b=>.loop none (comp P b)
 | .exit id=>.exit id
 | .ret=>.ret
 | .scope b=>.scope (comp P b)
 | .label _=>.skip
 | _=>.bad
def bareC:AC→AC
 | .region n ops _=>.region n ops none
 | .regionA n ops ps _=>.regionA n ops ps none
 | .seq a b=>.seq (bareC a) (bareC b)
 | .cond c x y=>.cond c (bareC x) (bareC y)
 | .block id b=>.block id (bareC b)
 | .loop _ b=>.loop none (bareC b)
 | .scope b=>.scope (bareC b)
 | c=>c
end Go.Pv
