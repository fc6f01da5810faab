/- The machine of plain values: its rules, and that they are sound. -/
import Derived.Deep.AppendSrc
import Derived.KernelRfl
import Derived.Laws.MakeOwn
import Derived.Lib.Bytealg
import Derived.Lib.ConvBytes
import Derived.Lib.SlBytesConst
import Derived.WalkKit
import Derived.WalkLawsBesides
import GoSem.Step
/-
 The machine of plain values, 1: its values, its operations and what they do; how the operations of a loaded program are turned into them.
-/
namespace Go.Pv
inductive AV where
 | undef
 | bool (b:Bool)
 | anyb
 | int (k:IntKind) (n:Int)
 | str (s:List UInt8)
 | sl (sz:Nat) (es:List AV) (full:Bool)
 | vec (id sz off len:Nat)
 | eptr (id i off:Nat)
 | rptr (x:AV) (off:Nat)
 | fn (f:FuncId) (caps:List AV)
 | agg (cs:List AV)
 | tup (vs:List AV)
 | lit (v:Value)
 | own (sz:Nat) (ty:TypeId) (es:List AV)
def AV.flat:AV→List AV
 | .agg cs=>cs
 | x=>[x]
structure Ent where
 ty:TypeId
 es:List AV
 wr:Bool
abbrev Hp:=List (Option Ent)
abbrev Fr:=List (Nat × AV)
structure St where
 fr:Fr
 hp:Hp
def get:Fr→Nat→AV
 | [],_=>.undef
 | (k,x) :: r,t=>if k=t then x else get r t
def put:Fr→Nat→AV→Fr
 | [],t,v=>[(t,v)]
 | (k,x) :: r,t,v=>if k=t then(k,v) :: r else if t < k then(t,v) :: (k,x) :: r else(k,x) :: put r t v
def putO(fr:Fr):Option Nat→AV→Fr
 | none,_=>fr
 | some d,v=>put fr d v
inductive AX where
 | t (n:Nat)
 | c (v:AV)
def fnId(f:FuncId):FuncId:=if f < 1000000 then f else f - 1000000
def fnArgs(f:FuncId)(xs caps:List AV):List AV:=if f < 1000000 then xs ++ caps else caps ++ xs
def AX.ev(fr:Fr):AX→AV
 | .t n=>get fr n
 | .c v=>v
inductive OpP where
 | mv (x:AX)
 | pick (c a b:AX)
 | bin (op:BinOp) (x y:AX)
 | binB (op:BinOp) (x y:AX)
 | un (op:UnOp) (x:AX)
 | convI (k:IntKind) (x:AX)
 | same (x:AX)
 | faddr (off:Nat) (x:AX)
 | field (off n:Nat) (ag:Bool) (x:AX)
 | iaddr (sz:Nat) (x i:AX)
 | aaddr (len sz:Nat) (x i:AX)
 | idxs (x i:AX)
 | idxa (len sz:Nat) (ag:Bool) (x i:AX)
 | slices (x:AX) (lo hi:Option AX)
 | slicev (sz:Nat) (x:AX) (lo hi mx:Option AX)
 | ext (x:AX) (i:Nat)
 | len (x:AX)
 | lenS (x:AX)
 | lenc (n:Nat)
 | minmax (max:Bool) (x y:AX)
 | idxb (x c:AX)
 | nilck (x:AX)
 | build (zero:List AV) (parts:List (Nat × Nat × AX))
 | mkfn (f:FuncId) (caps:List AX)
 | isnil (neg:Bool) (x:AX)
 | eqS (neg:Bool) (ks:List Nat) (x y:AX)
inductive OpR where
 | load (n:Nat) (ag:Bool) (x:AX)
 | b2s (x:AX)
 | cut (sz:Nat) (x lo hi:AX)
inductive OpE where
 | alloc (ty:TypeId) (zero:AV)
 | box (ty:TypeId) (x:AX)
 | mks (ty:TypeId) (sz:Nat) (zero:AV) (len:Nat) (parts:List (Nat × AX))
 | make (ty:TypeId) (sz:Nat) (zero:AV) (len cap:AX)
 | store (n:Nat) (x v:AX)
 | append (ty:TypeId) (sz lm:Nat) (x y:AX)
 | s2b (ty:TypeId) (x:AX)
 | copy (sz:Nat) (x y:AX)
 | clear (sz:Nat) (zero:AV) (x:AX)
 | mark (x:AX)
inductive Op1 where
 | p (o:OpP)
 | r (o:OpR)
 | e (o:OpE) (r:Option Nat)
 | call (f:FuncId) (args:List AX) (d:Bool)
 | callv (x:AX) (args:List AX)
 | bad
structure Op2 where
 dst:Option Nat
 guard:Option (Nat × Bool)
 op:Op1
 fm:Bool:=false      -- where the order is open,and rows are made: a call does as it does whatever rows there are more
 no:List TypeId:=[]      -- where the order is open: the types of rows that grow: no load is from such a row
structure Trim where
 ks:List Nat
 nils:List (Nat × Nat × TypeId)
 gc:Bool
inductive AC where
 | skip
 | region (nres:Nat) (ops:List Op2) (tr:Option Trim)
 | regionA (nres:Nat) (ops:List Op2) (ps:List (Nat × Nat)) (tr:Option Trim)
 | seq (a b:AC)
 | cond (c:AX) (x y:AC)
 | block (id:Nat) (b:AC)
 | loop (tr:Option Trim) (b:AC)
 | exit (id:Nat)
 | ret
 | scope (b:AC)
 | bad
/-! ### What the operations do -/
def and2(k:IntKind)(a b:Int):Int:=k.wrap (BitVec.ofInt k.bits a &&& BitVec.ofInt k.bits b).toNat
def or2(k:IntKind)(a b:Int):Int:=k.wrap (BitVec.ofInt k.bits a ||| BitVec.ofInt k.bits b).toNat
def xor2(k:IntKind)(a b:Int):Int:=k.wrap (BitVec.ofInt k.bits a ^^^ BitVec.ofInt k.bits b).toNat
def andNot2(k:IntKind)(a b:Int):Int:=k.wrap (BitVec.ofInt k.bits a &&& ~~~BitVec.ofInt k.bits b).toNat
def int2(op:BinOp)(k:IntKind)(a b:Int):Option AV :=
 match op with
 | .add=>some (.int k (k.wrap (a+b)))
 | .sub=>some (.int k (k.wrap (a - b)))
 | .mul=>some (.int k (k.wrap (a * b)))
 | .quo=>if b=0 then none else some (.int k (k.wrap (a.tdiv b)))
 | .rem=>if b=0 then none else some (.int k (a.tmod b))
 | .and=>some (.int k (and2 k a b))
 | .or=>some (.int k (or2 k a b))
 | .xor=>some (.int k (xor2 k a b))
 | .andNot=>some (.int k (andNot2 k a b))
 | .eql=>some (.bool (a == b))
 | .neq=>some (.bool (a != b))
 | .lss=>some (.bool (decide (a < b)))
 | .leq=>some (.bool (decide (a≤b)))
 | .gtr=>some (.bool (decide (b < a)))
 | .geq=>some (.bool (decide (b≤a)))
 | _=>none
def lim:Nat:=1000000000
def appLim(P:Program)(e:TypeId):Nat:=if P.bytesOf e≤1 then 140737488355328 else lim
theorem appLim_le(P:Program)(e:TypeId):appLim P e≤140737488355328:=by
 unfold appLim lim; split <;> omega
theorem appLim_fits{P:Program}{e:TypeId}(h:P.bytesOf e≤1000):appLim P e * P.bytesOf e≤140737488355328:=by
 unfold appLim lim
 split
 ·rename_i h1; exact Nat.le_trans (Nat.mul_le_mul_left _ h1) (by omega)
 ·exact Nat.le_trans (Nat.mul_le_mul_left _ h) (by decide)
def bin2(op:BinOp):AV→AV→Option AV
 | .int k a,.int k' b =>
  match op with
  | .shl=>if b < 0 then none else some (.int k (k.wrap (a * 2 ^ min b.toNat k.bits)))
  | .shr=>if b < 0 then none else some (.int k (a.fdiv (2 ^ min b.toNat k.bits)))
  | _=>if k=k' then int2 op k a b else none
 | .str a,.str b =>
  match op with
  | .add=>if a.length+b.length≤lim then some (.str (a ++ b)) else none
  | .eql=>some (.bool (a == b))
  | .neq=>some (.bool (!(a == b)))
  | _=>none
 | _,_=>none
def binB2(op:BinOp):AV→AV→Option AV
 | .bool a,.bool b =>
  match op with
  | .eql=>some (.bool (a == b))
  | .neq=>some (.bool (!(a == b)))
  | _=>none
 | _,_=>none
def un1(op:UnOp):AV→Option AV
 | .bool b=>match op with | .not=>some (.bool !b) | _=>none
 | .int k n=>match op with
  | .neg=>some (.int k (k.wrap (0 - n)))
  | _=>none
 | _=>none
def cells(x:AV)(off n:Nat)(ag:Bool):Option AV :=
 if ag then(if ((x.flat.drop off).take n).length=n then some (.agg ((x.flat.drop off).take n)) else none) else x.flat[off]?
def bound(hi:Nat):AV→Option Nat
 | .int _ n=>if 0≤n∧n≤hi then some n.toNat else none
 | _=>none
def boundO(hi dflt:Nat):Option AV→Option Nat
 | none=>some dflt
 | some v=>bound hi v
def index(n:Nat):AV→Option Nat
 | .int _ i=>if 0≤i∧i < n then some i.toNat else none
 | _=>none
def bv(b:UInt8):AV:=.int .u8 b.toNat
def AV.one:AV→Bool
 | .undef | .agg _ | .tup _ | .own ..=>false
 | .lit (.agg _) | .lit (.tuple _)=>false
 | _=>true
def AV.ones(x:AV):Bool:=x.flat.all AV.one
def buildC:List AV→List (Nat × Nat × AV)→Option (List AV)
 | cs,[]=>some cs
 | cs,(off,n,v) :: rest=>if v.ones=true∧v.flat.length=n∧off+n≤cs.length then buildC (cs.take off ++(v.flat ++ cs.drop (off+n))) rest else none
def eqCells:List Nat→List AV→List AV→Option Bool
 | [],[],[]=>some true
 | 0 :: ks,.int k a :: xs,.int k' b :: ys=>if k=k' then(eqCells ks xs ys).map fun r=>(a == b) && r else none
 | 1 :: ks,.str a :: xs,.str b :: ys=>(eqCells ks xs ys).map fun r=>(a == b) && r
 | 2 :: ks,.bool a :: xs,.bool b :: ys=>(eqCells ks xs ys).map fun r=>(a == b) && r
 | _,_,_=>none
def evP(fr:Fr):OpP→Option AV
 | .mv x=>some (x.ev fr)
 | .pick c a b=>match c.ev fr with
  | .bool t=>some (if t then a.ev fr else b.ev fr)
  | _=>none
 | .bin op x y=>bin2 op (x.ev fr) (y.ev fr)
 | .binB op x y=>binB2 op (x.ev fr) (y.ev fr)
 | .un op x=>un1 op (x.ev fr)
 | .convI k x=>match x.ev fr with
  | .int _ n=>some (.int k (k.wrap n))
  | _=>none
 | .same x=>match x.ev fr with
  | .str s=>some (.str s)
  | _=>none
 | .faddr off x=>match x.ev fr with
  | .eptr id i o=>some (.eptr id i (o+off))
  | .rptr x o=>some (.rptr x (o+off))
  | _=>none
 | .field off n ag x=>match x.ev fr with
  | .agg cs=>cells (.agg cs) off n ag
  | _=>none
 | .iaddr sz x i=>match x.ev fr with
  | .sl sz' es _=>if sz=sz' then(index es.length (i.ev fr)).bind fun k=>(es[k]?).map fun e=>.rptr e 0 else none
  | .vec id sz' off len=>if sz=sz' then(index len (i.ev fr)).map fun k=>.eptr id (off+k) 0 else none
  | _=>none
 | .aaddr len sz x i=>match x.ev fr with
  | .eptr id j o=>(index len (i.ev fr)).map fun k=>.eptr id j (o+k * sz)
  | .rptr x o=>(index len (i.ev fr)).map fun k=>.rptr x (o+k * sz)
  | _=>none
 | .idxs x i=>match x.ev fr with
  | .str s=>(index s.length (i.ev fr)).bind fun k=>(s[k]?).map bv
  | _=>none
 | .idxa len sz ag x i=>match x.ev fr with
  | .agg cs=>(index len (i.ev fr)).bind fun k=>cells (.agg cs) (k * sz) sz ag
  | _=>none
 | .slices x lo hi=>match x.ev fr with
  | .str s=>(boundO s.length s.length (hi.map (·.ev fr))).bind fun h=>(boundO h 0 (lo.map (·.ev fr))).map fun l=>.str ((s.take h).drop l)
  | _=>none
 | .slicev sz x lo hi mx=>match x.ev fr with
  | .sl sz' es full=>if sz=sz'∨es=[] then match mx with
    | none=>(boundO es.length es.length (hi.map (·.ev fr))).bind fun h=>(boundO h 0 (lo.map (·.ev fr))).map fun l=>.sl sz' ((es.take h).drop l) (full && decide (h=es.length))
    | some m=>(bound es.length (m.ev fr)).bind fun m=>(hi.bind fun h=>bound m (h.ev fr)).bind fun h=>(boundO h 0 (lo.map (·.ev fr))).map fun l=>.sl sz' ((es.take h).drop l) (decide (m=h))
   else none
  | .vec id sz' off len=>if sz=sz' then match mx with
    | none=>(boundO len len (hi.map (·.ev fr))).bind fun h=>(boundO h 0 (lo.map (·.ev fr))).map fun l=>.vec id sz' (off+l) (h - l)
    | some m=>(bound len (m.ev fr)).bind fun m=>(hi.bind fun h=>bound m (h.ev fr)).bind fun h=>(boundO h 0 (lo.map (·.ev fr))).map fun _=>.undef
   else none
  | _=>none
 | .ext x i=>match x.ev fr with
  | .tup vs=>vs[i]?
  | _=>none
 | .len x=>match x.ev fr with
  | .sl _ es _=>some (.int .i64 es.length)
  | .vec _ _ _ n=>some (.int .i64 n)
  | _=>none
 | .lenS x=>match x.ev fr with
  | .str s=>some (.int .i64 s.length)
  | _=>none
 | .lenc n=>some (.int .i64 n)
 | .idxb x c=>match x.ev fr,c.ev fr with
  | .str s,.int .u8 n=>some (.int .i64 (Lib.indexByte s n.toNat.toUInt8))
  | _,_=>none
 | .minmax mx x y=>match x.ev fr,y.ev fr with
  | .int k a,.int k' b=>if k=k' then some (.int k (if mx then max a b else min a b)) else none
  | _,_=>none
 | .nilck x=>match x.ev fr with
  | .eptr id i o=>some (.eptr id i o)
  | .rptr x o=>some (.rptr x o)
  | .fn f c=>some (.fn f c)
  | _=>none
 | .build zero parts=>(buildC zero (parts.map fun p=>(p.1,p.2.1,p.2.2.ev fr))).map .agg
 | .mkfn f caps=>some (.fn f (caps.map (·.ev fr)))
 | .isnil neg x=>match x.ev fr with
  | .sl _ [] _=>some .anyb
  | .sl _ (_ :: _) _=>some (.bool neg)
  | .vec _ _ _ len=>if 0 < len then some (.bool neg) else some .anyb
  | _=>none
 | .eqS neg ks x y=>match x.ev fr,y.ev fr with
  | .agg xs,.agg ys=>(eqCells ks xs ys).map fun b=>.bool (if neg then !b else b)
  | _,_=>none
def toBytes:List AV→Option (List UInt8)
 | []=>some []
 | .int .u8 n :: r=>if 0≤n∧n < 256 then(toBytes r).map (UInt8.ofNat n.toNat :: ·) else none
 | _ :: _=>none
def ent(hp:Hp)(id:Nat):Option Ent:=(hp[id]?).join
def elems(hp:Hp):AV→Option (List AV)
 | .sl _ es _=>some es
 | .vec id _ off len=>(ent hp id).bind fun e=>if off+len≤e.es.length then some ((e.es.drop off).take len) else none
 | .str s=>some (s.map bv)
 | _=>none
def evR(fr:Fr)(hp:Hp):OpR→Option AV
 | .load n ag x=>match x.ev fr with
  | .rptr x off=>cells x off n ag
  | .eptr id i off=>(ent hp id).bind fun e=>(e.es[i]?).bind fun x=>cells x off n ag
  | _=>none
 | .b2s x=>match x.ev fr with
  | .sl sz es _=>if sz=1∨es=[] then(toBytes es).map .str else none
  | .vec id sz off len=>if sz=1 then(elems hp (.vec id sz off len)).bind fun es=>(toBytes es).map .str else none
  | _=>none
 | .cut sz x lo hi=>match evP fr (.slicev sz x (some lo) (some hi) none) with
  | some v=>some v
  | none=>match x.ev fr with
   | .vec id sz' off _=>(ent hp id).bind fun e=>if sz=sz'∧off=0 then(bound e.es.length (hi.ev fr)).bind fun h=>(bound h (lo.ev fr)).map fun l=>.vec id sz' l (h - l) else none
   | _=>none
def sC(x v:AV)(off n:Nat):Option AV :=
 if v.ones && v.flat.length == n then
  match x with
  | .agg cs=>if off+n≤cs.length then some (.agg (cs.take off ++(v.flat ++ cs.drop (off+n)))) else none
  | _=>if off=0 then match v with
   | .agg _=>none
   | v=>some v else none
 else none
def new(base:Nat)(r:Option Nat)(hp:Hp)(e:Ent):Option (Nat × Hp) :=
 match r with
 | none=>some (hp.length,hp ++ [some e])
 | some j=>if base+j < hp.length ∧(ent hp (base+j)).isNone then some (base+j,hp.set (base+j) (some e)) else none
def newVec(base:Nat)(r:Option Nat)(hp:Hp)(sz:Nat)(ty:TypeId)(es:List AV):Option (AV × Hp) :=
 (new base r hp ⟨ty,es,true⟩).map fun p=>(.vec p.1 sz 0 es.length,p.2)
def newVar(base:Nat)(r:Option Nat)(hp:Hp)(ty:TypeId)(x:AV):Option (AV × Hp) :=
 (new base r hp ⟨ty,[x],true⟩).map fun p=>(.eptr p.1 0 0,p.2)
def setParts(sz:Nat):List AV→List (Nat × AV)→Option (List AV)
 | es,[]=>some es
 | es,(i,v) :: r=>if v.ones=true∧v.flat.length=sz∧i < es.length then setParts sz (es.set i v) r else none
def szOk(sz:Nat):AV→Bool
 | .sl sz' es _=>sz' == sz || es.isEmpty
 | .vec _ sz' _ _=>sz' == sz
 | .str _=>sz == 1
 | _=>false
def notStr:AV→Bool
 | .str _=>false
 | _=>true
def evE(base:Nat)(r:Option Nat)(fr:Fr)(hp:Hp):OpE→Option (AV × Hp)
 | .alloc ty z=>newVar base r hp ty z
 | .box ty x=>if (x.ev fr).ones then newVar base r hp ty (x.ev fr) else none
 | .mks ty sz z len parts=>(setParts sz (List.replicate len z) (parts.map fun p=>(p.1,p.2.ev fr))).bind fun es=>newVec base r hp sz ty es
 | .make ty sz z len cap=>(bound lim (cap.ev fr)).bind fun c=>(bound c (len.ev fr)).bind fun n=>newVec base r hp sz ty (List.replicate n z)
 | .store n x v=>match x.ev fr with
  | .eptr id i off=>(ent hp id).bind fun e=>if e.wr then(e.es[i]?).bind fun x=>(sC x (v.ev fr) off n).map fun x' =>
    (.undef,hp.set id (some { e with es:=e.es.set i x' })) else none
  | _=>none
 | .append ty sz lm x y=>if szOk sz (y.ev fr) then(elems hp (y.ev fr)).bind fun ys=>match x.ev fr with
  | .sl _ [] true=>if ys.length≤lm then newVec base r hp sz ty ys else none
  | .sl sz' (e :: es) true=>if sz=sz'∧ys≠[]∧es.length+1+ys.length≤lm then newVec base r hp sz ty (e :: es ++ ys) else if sz=sz'∧ys=[] then some (.sl sz' (e :: es) true,hp) else none
  | .vec id sz' off len=>(ent hp id).bind fun e=>if e.wr∧sz=sz'∧ty=e.ty∧off=0∧len=e.es.length∧len+ys.length≤lm then
    newVec base r (hp.set id (some { e with es:=[],wr:=false })) sz ty (e.es ++ ys) else if e.wr∧sz=sz'∧ty=e.ty∧off=0∧len+ys.length≤e.es.length then
    some (.vec id sz' 0 (len+ys.length),hp.set id (some { e with es:=e.es.take len ++(ys ++ e.es.drop (len+ys.length)) })) else none
  | _=>none
  else none
 | .s2b ty x=>match x.ev fr with
  | .str s=>if s.length≤lim then newVec base r hp 1 ty (s.map bv) else none
  | _=>none
 | .copy sz x y=>if szOk sz (y.ev fr)∧notStr (y.ev fr) then(elems hp (y.ev fr)).bind fun ys=>match x.ev fr with
  | .vec id sz' off len=>(ent hp id).bind fun e=>if e.wr∧sz=sz'∧off+len≤e.es.length then
    some (.int .i64 (min ys.length len),hp.set id (some { e with es:=e.es.take off ++(ys.take len ++ e.es.drop (off+min ys.length len)) })) else none
  | .sl _ [] _=>some (.int .i64 0,hp)
  | _=>none
  else none
 | .clear sz z x=>match x.ev fr with
  | .vec id sz' off len=>(ent hp id).bind fun e=>if e.wr∧sz=sz'∧off+len≤e.es.length then
    some (.undef,hp.set id (some { e with es:=e.es.take off ++(List.replicate len z ++ e.es.drop (off+len)) })) else none
  | .sl _ [] _=>some (.undef,hp)
  | _=>none
 | .mark x=>match x.ev fr with
  | .vec id sz off len=>(ent hp id).bind fun e=>if e.wr∧off=0∧e.es≠[] then some (.vec id sz off len,hp) else none
  | _=>none
/-! ### What is handed over -/
def mapO(f:AV→Option AV):List AV→Option (List AV)
 | []=>some []
 | x :: xs=>(f x).bind fun y=>(mapO f xs).map fun ys=>y :: ys
def snap(hp:Hp):Nat→AV→Option AV
 | 0,_=>none
 | n+1,x=>match x with
  | .vec id sz off len=>(elems hp (.vec id sz off len)).bind fun es=>(mapO (snap hp n) es).map fun es=>.sl sz es false
  | .eptr id i off=>(ent hp id).bind fun e=>(e.es[i]?).bind fun x=>(snap hp n x).map fun x=>.rptr x off
  | .agg cs=>(mapO (snap hp n) cs).map .agg
  | .tup vs=>(mapO (snap hp n) vs).map .tup
  | .fn f caps=>(mapO (snap hp n) caps).map (.fn f)
  | .own ..=>none
  | .undef=>none
  | x=>some x
def rows(hp:Hp):Nat→AV→List Nat
 | 0,_=>[]
 | n+1,x=>match x with
  | .vec id sz off len=>id :: ((elems hp (.vec id sz off len)).getD []).flatMap (rows hp n)
  | .eptr id i _=>id :: (((ent hp id).bind fun e=>e.es[i]?).toList).flatMap (rows hp n)
  | .agg cs=>cs.flatMap (rows hp n)
  | .tup vs=>vs.flatMap (rows hp n)
  | .fn _ caps=>caps.flatMap (rows hp n)
  | _=>[]
def deep:Nat:=6
def still(hp:Hp):List Nat→Hp
 | []=>hp
 | id :: r=>match ent hp id with
  | some e=>still (hp.set id (some { e with wr:=false })) r
  | none=>still hp r
inductive Mode where
 | snap
 | own (sz:Nat) (ty:TypeId)
 | nil (sz:Nat) (full:Bool)
def passOne(hp:Hp)(m:Mode)(x:AV):Option (AV × Hp × List Nat) :=
 match m with
 | .snap=>(snap hp deep x).map fun y=>(y,hp,rows hp deep x)
 | .own sz ty=>match x with
  | .vec id sz' off len=>(ent hp id).bind fun e=>if e.wr∧off=0∧len≤e.es.length∧sz'=sz∧e.ty=ty then(mapO (snap hp deep) (e.es.take len)).map fun es=>(.own sz ty es,hp.set id (some { e with es:=[],wr:=false }),(e.es.take len).flatMap (rows hp deep)) else none
  | .sl _ [] true=>some (.own sz ty [],hp,[])
  | _=>none
 | .nil sz full=>match x with
  | .sl _ [] full'=>if full=true→full'=true then some (.sl sz [] full,hp,[]) else none
  | .vec _ _ _ n=>if n=0∧full=false then some (.sl sz [] false,hp,[]) else none
  | _=>none
def passG{μ:Type}(g:Hp→μ→AV→Option (AV × Hp × List Nat))(d:μ)(hp:Hp):List μ→List AV→Option (List AV × Hp × List Nat)
 | _,[]=>some ([],hp,[])
 | ms,x :: xs=>(g hp (ms.headD d) x).bind fun p=>(passG g d p.2.1 ms.tail xs).map fun q=>(p.1 :: q.1,q.2.1,p.2.2 ++ q.2.2)
def pass(hp:Hp)(ms:List Mode)(xs:List AV):Option (List AV × Hp × List Nat):=passG passOne .snap hp ms xs
def liveB(hp:Hp)(l:List Nat):Bool:=l.all fun id=>match ent hp id with | some e=>e.wr || !e.es.isEmpty | none=>false
def layC(hp:Hp):AV→AV × Hp
 | .own sz ty es=>(.vec hp.length sz 0 es.length,hp ++ [some ⟨ty,es,true⟩])
 | x=>(x,hp)
def layL(f:Hp→AV→AV × Hp)(hp:Hp):List AV→List AV × Hp
 | []=>([],hp)
 | x :: xs=>((f hp x).1 :: (layL f (f hp x).2 xs).1,(layL f (f hp x).2 xs).2)
def layA(hp:Hp):AV→AV × Hp
 | .agg cs=>(.agg (layL layC hp cs).1,(layL layC hp cs).2)
 | x=>layC hp x
def lay(hp:Hp):AV→AV × Hp
 | .tup vs=>(.tup (layL layA hp vs).1,(layL layA hp vs).2)
 | x=>layA hp x
def handA(hp:Hp)(ms:List Mode)(x:AV):Option (AV × Hp × List Nat) :=
 match ms,x with
 | [m],x=>passOne hp m x
 | [],x=>passOne hp .snap x
 | ms,.agg xs=>(pass hp ms xs).map fun p=>(.agg p.1,p.2)
 | _,_=>none
def handT(hp:Hp)(ms:List (List Mode))(xs:List AV):Option (List AV × Hp × List Nat):=passG handA [] hp ms xs
def hand(hp:Hp)(ms:List (List Mode))(x:AV):Option (AV × Hp × List Nat) :=
 match x with
 | .tup xs=>(handT hp ms xs).map fun p=>(.tup p.1,p.2)
 | x=>handA hp (ms.headD []) x
/-! ### What is kept -/
def idsOf(hp:Hp):Nat→AV→List Nat
 | 0,_=>[]
 | n+1,x=>match x with
  | .vec id _ _ _=>id :: (((ent hp id).map fun e=>e.es).getD []).flatMap (idsOf hp n)
  | .eptr id _ _=>id :: (((ent hp id).map fun e=>e.es).getD []).flatMap (idsOf hp n)
  | .agg cs=>cs.flatMap (idsOf hp n)
  | .tup vs=>vs.flatMap (idsOf hp n)
  | .fn _ caps=>caps.flatMap (idsOf hp n)
  | _=>[]
def dedup:List Nat→List Nat→List Nat
 | acc,[]=>acc.reverse
 | acc,x :: xs=>if acc.contains x then dedup acc xs else dedup (x :: acc) xs
def place:List Nat→Nat→Option Nat
 | [],_=>none
 | x :: xs,id=>if x=id then some 0 else(place xs id).map (·+1)
def renX(l:List Nat):Nat→AV→AV
 | 0,_=>.undef
 | n+1,x=>match x with
  | .vec id sz off len=>match place l id with | some i=>.vec i sz off len | none=>.undef
  | .eptr id i off=>match place l id with | some j=>.eptr j i off | none=>.undef
  | .agg cs=>.agg (cs.map (renX l n))
  | .tup vs=>.tup (vs.map (renX l n))
  | .fn f caps=>.fn f (caps.map (renX l n))
  | x=>x
def renE(l:List Nat)(e:Option Ent):Option Ent:=e.map fun e=>{ e with es:=e.es.map (renX l deep) }
def gcSt(σ:St):St :=
 let l:=dedup [] (σ.fr.flatMap fun p=>idsOf σ.hp deep p.2)
 ⟨σ.fr.map fun p=>(p.1,renX l deep p.2),l.map fun id=>renE l (ent σ.hp id)⟩
def frzRow(σ:St)(id:Nat):St :=
 match ent σ.hp id with
 | some e=>match mapO (snap σ.hp deep) e.es with
  | some es=>if (e.es.flatMap (rows σ.hp deep)).contains id then σ else⟨σ.fr,still (σ.hp.set id (some { e with es:=es })) (e.es.flatMap (rows σ.hp deep))⟩
  | none=>σ
 | none=>σ
def frzSlot(σ:St):AV→St
 | .vec id _ _ _=>frzRow σ id
 | .eptr id _ _=>frzRow σ id
 | _=>σ
def frzFld(σ:St)(f:Nat):AV→St
 | .eptr id i _=>match (ent σ.hp id).bind fun e=>e.es[i]? with
  | some (.agg cs)=>frzSlot σ (cs.getD f .undef)
  | _=>σ
 | _=>σ
def rowOne(σ:St)(n:Nat × Nat × TypeId):St :=
 if n.2.1=1000000 then frzSlot σ (get σ.fr n.1) else
 if n.2.1=1000001 then frzFld σ n.2.2 (get σ.fr n.1) else
 match get σ.fr n.1 with
 | .sl _ [] true=>⟨put σ.fr n.1 (.vec σ.hp.length n.2.1 0 0),σ.hp ++ [some ⟨n.2.2,[],true⟩]⟩
 | _=>σ
def trim(tr:Option Trim)(σ:St):St :=
 match tr with
 | none=>σ
 | some t =>
  let σ:=⟨t.ks.map fun k=>(k,get σ.fr k),σ.hp⟩
  let σ:=t.nils.foldl rowOne σ
  if t.gc then gcSt σ else σ
/-! ### From the program -/
def ofVal:Value→AV
 | .bool b=>.bool b
 | .int k n=>.int k n
 | .string s=>.str s.data.toList
 | .slice a n c=>if a.isNone && n == 0 && c == 0 then .sl 0 [] true else .lit (.slice a n c)
 | .func g a b=>if a.isEmpty && b.isEmpty then(match g with | .func f=>if f < 1000000 then .fn f [] else .lit (.func (.func f) a b) | g=>.lit (.func g a b)) else .lit (.func g a b)
 | v=>.lit v
def ofZero:Value→AV
 | .agg cs=>.agg (cs.toList.map ofVal)
 | v=>ofVal v
def cx:Operand→AX
 | .tmp t=>.t t
 | .const v=>.c (ofVal v)
 | .global g=>.c (.lit (.pointer (some ⟨g,0,none⟩)))
 | .func f=>.c (if f < 1000000 then .fn f [] else .lit (.func (.func f) #[] #[]))
def isAg(P:Program)(t:TypeId):Bool:=match P.underlying t with
 | some (.struct _) | some (.array _ _)=>true
 | _=>false
def zeroOf(P:Program)(t:TypeId):Option Value:=(P.info? t).bind (·.zero)
def tyOk(P:Program)(t:TypeId):Bool:=(P.underlying t).isSome
def isU8(P:Program)(t:TypeId):Bool:=match P.underlying t with | some (.int .u8)=>true | _=>false
def basicT(P:Program)(t:TypeId):Option Nat:=match P.underlying t with
 | some (.int _)=>some 0
 | some .string=>some 1
 | some .bool=>some 2
 | _=>none
def plainL(P:Program):Nat→List Field→Bool
 | _,[]=>true
 | i,f :: fs=>f.name != "_" && (f.offset == i && ((basicT P f.type).isSome && plainL P (i+1) fs))
def plainS(P:Program)(t:TypeId)(fs:Array Field):Bool:=!P.stoodInHeld t && (!P.eqGuardType P.depth t && plainL P 0 fs.toList)
def oneV:Value→Bool
 | .agg _ | .tuple _=>false
 | _=>true
def isIdx(P:Program)(f:FuncId):Bool:=match P.funcs[f]? with
 | some fn=>fn.body.isNone && (fn.origin == "" && fn.name == "internal/bytealg.IndexByteString")
 | none=>false
def compOp(P:Program)(d:Bool)(r:Option Nat)(o:Oper):Op1 :=
 match o.op with
 | .move x | .assign x=>.p (.mv (cx x))
 | .pick c a b=>.p (.pick (cx c) (cx a) (cx b))
 | .alloc t=>match zeroOf P t with | some z=>if z.cells.all oneV then .e (.alloc t (ofZero z)) r else .bad | none=>.bad
 | .box t x=>.e (.box t (cx x)) r
 | .build t parts=>match P.underlying t,zeroOf P t with
  | some (.struct fs),some (.agg z)=>if !(fs.all fun f=>tyOk P f.type) || !(parts.all fun p=>decide (p.1 < fs.size)) || !(z.all oneV) then .bad else .p (.build (z.toList.map ofVal) (parts.toList.map fun p=>((fs.getD p.1 default).offset,P.cellsOf (fs.getD p.1 default).type,cx p.2)))
  | some (.array _ e),some (.agg z)=>if !tyOk P e || !(z.all oneV) then .bad else .p (.build (z.toList.map ofVal) (parts.toList.map fun p=>(p.1 * P.cellsOf e,P.cellsOf e,cx p.2)))
  | _,_=>.bad
 | .buildSlice t n parts=>match P.underlying t with
  | some (.slice e)=>match zeroOf P e with
   | some z=>if z.cells.size=P.cellsOf e∧z.cells.all oneV=true∧n * P.cellsOf e≤16777216 then .e (.mks e (P.cellsOf e) (ofZero z) n (parts.toList.map fun p=>(p.1,cx p.2))) r else .bad
   | none=>.bad
  | _=>.bad
 | .load t x=>if tyOk P t then .r (.load (P.cellsOf t) (isAg P t) (cx x)) else .bad
 | .store t x v=>if tyOk P t then .e (.store (P.cellsOf t) (cx x) (cx v)) r else .bad
 | .nilCheck x=>.p (.nilck (cx x))
 | .binOp op t x y _=>match P.underlying t with
  | some (.int _) | some .string=>.p (.bin op (cx x) (cx y))
  | some .bool=>.p (.binB op (cx x) (cx y))
  | some (.slice _)=>match op,y with
   | .eql,.const (.slice none 0 0)=>.p (.isnil false (cx x))
   | .neq,.const (.slice none 0 0)=>.p (.isnil true (cx x))
   | _,_=>.bad
  | some (.struct fs)=>if plainS P t fs then(match op with
   | .eql=>.p (.eqS false (fs.toList.map fun f=>(basicT P f.type).getD 3) (cx x) (cx y))
   | .neq=>.p (.eqS true (fs.toList.map fun f=>(basicT P f.type).getD 3) (cx x) (cx y))
   | _=>.bad) else .bad
  | _=>.bad
 | .unOp op _ x=>.p (.un op (cx x))
 | .convert s d x=>match P.underlying s,P.underlying d with
  | some (.int _),some (.int k)=>.p (.convI k (cx x))
  | some .string,some .string=>.p (.same (cx x))
  | some (.slice e),some .string=>if isU8 P e then .r (.b2s (cx x)) else .bad
  | some .string,some (.slice e)=>if isU8 P e then .e (.s2b e (cx x)) r else .bad
  | some (.slice _),some (.slice e)=>if isU8 P e && s == d then .e (.mark (cx x)) r else .bad
  | _,_=>.bad
 | .makeFunc (.func f) first caps=>if first.isEmpty then(if f < 1000000 then .p (.mkfn f (caps.toList.map cx)) else .bad) else if caps.isEmpty then .p (.mkfn (f+1000000) (first.toList.map cx)) else .bad
 | .makeSlice t l c=>match P.underlying t with
  | some (.slice e)=>match zeroOf P e with
   | some z=>if z.cells.size=P.cellsOf e∧z.cells.all oneV=true∧P.bytesOf e≤1000 then .e (.make e (P.cellsOf e) (ofZero z) (cx l) (cx c)) r else .bad
   | none=>.bad
  | _=>.bad
 | .slice t x lo hi mx=>match P.underlying t with
  | some .string=>if mx.isNone then .p (.slices (cx x) (lo.map cx) (hi.map cx)) else .bad
  | some (.slice e)=>if tyOk P e then(match d,lo,hi,mx with
   | false,some l,some h,none=>.r (.cut (P.cellsOf e) (cx x) (cx l) (cx h))
   | _,_,_,_=>.p (.slicev (P.cellsOf e) (cx x) (lo.map cx) (hi.map cx) (mx.map cx))) else .bad
  | _=>.bad
 | .fieldAddr s x f=>match P.underlying s with
  | some (.struct fs)=>match fs[f]? with | some fd=>if P.cellsOf fd.type=0 then .bad else .p (.faddr fd.offset (cx x)) | none=>.bad
  | _=>.bad
 | .field s x f=>match P.underlying s with
  | some (.struct fs)=>match fs[f]? with | some fd=>if tyOk P fd.type then .p (.field fd.offset (P.cellsOf fd.type) (isAg P fd.type) (cx x)) else .bad | none=>.bad
  | _=>.bad
 | .indexAddr t x i=>match P.underlying t with
  | some (.slice e)=>if tyOk P e then .p (.iaddr (P.cellsOf e) (cx x) (cx i)) else .bad
  | some (.array n e)=>if tyOk P e then .p (.aaddr n (P.cellsOf e) (cx x) (cx i)) else .bad
  | _=>.bad
 | .index t x i=>match P.underlying t with
  | some .string=>.p (.idxs (cx x) (cx i))
  | some (.array n e)=>if tyOk P e then .p (.idxa n (P.cellsOf e) (isAg P e) (cx x) (cx i)) else .bad
  | _=>.bad
 | .extract x i=>.p (.ext (cx x) i)
 | .call c=>match c.callee with
  | .value (.func f)=>if isIdx P f then(match c.args.toList with
   | [x,y]=>.p (.idxb (cx x) (cx y))
   | _=>.bad) else .call f (c.args.toList.map cx) d
  | .value x=>.callv (cx x) (c.args.toList.map cx)
  | .builtin b=>match b,c.args.toList,c.argTypes.toList with
   | .len,[x],[t]=>match P.underlying t with
    | some .string=>.p (.lenS (cx x))
    | some (.slice _)=>.p (.len (cx x))
    | some (.array n _)=>.p (.lenc n)
    | _=>.bad
   | .append,[x,y],[t,t']=>match P.underlying t,P.underlying t' with
    | some (.slice e),some (.slice _)=>if ((zeroOf P e).map (·.cells.size))=some (P.cellsOf e)∧P.bytesOf e≤1000 then .e (.append e (P.cellsOf e) (appLim P e) (cx x) (cx y)) r else .bad
    | some (.slice e),some .string=>if ((zeroOf P e).map (·.cells.size))=some (P.cellsOf e)∧P.bytesOf e≤1000 then .e (.append e (P.cellsOf e) (appLim P e) (cx x) (cx y)) r else .bad
    | _,_=>.bad
   | .copy,[x,y],[t,t']=>match P.underlying t,P.underlying t' with
    | some (.slice e),some (.slice _)=>if P.cellsOf e=1 then .e (.copy (P.cellsOf e) (cx x) (cx y)) r else .bad
    | _,_=>.bad
   | .clear,[x],[t]=>match P.underlying t with
    | some (.slice e)=>match zeroOf P e with
     | some z=>if z.cells.size=P.cellsOf e∧z.cells.all oneV=true then .e (.clear (P.cellsOf e) (ofZero z) (cx x)) r else .bad
     | none=>.bad
    | _=>.bad
   | .min,[x,y],_=>.p (.minmax false (cx x) (cx y))
   | .max,[x,y],_=>.p (.minmax true (cx x) (cx y))
   | _,_,_=>.bad
  | _=>.bad
 | _=>.bad
def makes(P:Program)(ops:Array Oper):Bool:=ops.toList.any fun o=>match compOp P true (some 0) o with
 | .e (.alloc ..) _ | .e (.box ..) _ | .e (.mks ..) _ | .e (.make ..) _ | .e (.s2b ..) _=>true
 | _=>false
def usesL'(l:List AX):List Nat:=l.flatMap fun x=>match x with | .t n=>[n] | .c _=>[]
def madeBy(P:Program)(o:Oper):List Nat:=match compOp P true (some 0) o with
 | .e (.append ..) _ | .e (.mks ..) _ | .e (.make ..) _ | .e (.s2b ..) _ | .call _ _ true=>o.dst.toList
 | _=>[]
def made(P:Program)(ops:Array Oper):List Nat:=ops.toList.flatMap (madeBy P)
def chainTy(P:Program)(ops:Array Oper)(o:Oper):List TypeId:=match compOp P true none o with
 | .call f xs true=>match P.funcs[f]? with
  | some fn =>
   let el:=fun t=>(match P.underlying t with | some (.slice e)=>some e | _=>none)
   let ps:=fn.params.toList.filterMap el
   (if (usesL' xs).any (made P ops).contains then ps else ps.filter (fn.resultTypes.toList.filterMap el).contains) ++ fn.params.toList.filterMap fun t=>(match P.underlying t with | some (.pointer e)=>some e | _=>none)
  | none=>[]
 | _=>[]
def behind(ops:Array Oper)(i:Nat):Nat :=
 (ops.toList.foldl (fun(p:Nat × Nat) o=>(p.1+1,if o.after.any fun e=>Region.binds .any e && p.2.testBit e.on then p.2 ||| 2 ^ p.1 else p.2)) (0,2 ^ i)).2
def growsFree(P:Program)(ops:Array Oper)(i:Nat):List TypeId :=
 ops.toList.zipIdx.flatMap fun p=>if (behind ops i).testBit p.2 then [] else
  (match compOp P true none p.1 with | .e (.append t _ _ _ _) _=>[t] | _=>[]) ++ chainTy P ops p.1
def comp2(P:Program)(ops:Array Oper)(d:Bool)(i:Nat)(o:Oper):Op2 where
 dst:=o.dst
 guard:=match o.guard with
  | none=>none
  | some (j,want)=>match (ops[j]?).bind (·.dst) with
   | some t=>some (t,want)
   | none=>none
 no:=if d then(match compOp P true none o with | .call ..=>chainTy P ops o | .r (.load ..)=>growsFree P ops i | _=>[]) else []
 fm:=d && makes P ops
 op:=match o.guard with
  | none=>compOp P d (if d then some i else none) o
  | some (j,_)=>match (ops[j]?).bind (·.dst) with
   | some _=>compOp P d (if d then some i else none) o
   | none=>.bad
/-! ### A statement whose order is open -/
def cls:Op1→Nat
 | .p _=>0
 | .r (.load ..)=>1
 | .r (.cut ..)=>6
 | .r _=>2
 | .e (.alloc ..) (some _) | .e (.box ..) (some _) | .e (.mks ..) (some _) | .e (.make ..) (some _) | .e (.s2b ..) (some _)=>3
 | .e (.append ..) (some _)=>4
 | .call _ _ true=>5
 | _=>6
def AX.uses:AX→List Nat
 | .t n=>[n]
 | .c _=>[]
def usesO(o:Option AX):List Nat:=match o with | some x=>x.uses | none=>[]
def usesL(l:List AX):List Nat:=l.flatMap AX.uses
def OpP.uses:OpP→List Nat
 | .mv x | .un _ x | .convI _ x | .same x | .faddr _ x | .field _ _ _ x | .ext x _ | .len x | .lenS x | .nilck x | .isnil _ x=>x.uses
 | .pick c a b=>c.uses ++(a.uses ++ b.uses)
 | .bin _ x y | .binB _ x y | .iaddr _ x y | .aaddr _ _ x y | .idxs x y | .idxa _ _ _ x y | .minmax _ x y | .idxb x y | .eqS _ _ x y=>x.uses ++ y.uses
 | .slices x lo hi=>x.uses ++(usesO lo ++ usesO hi)
 | .slicev _ x lo hi mx=>x.uses ++(usesO lo ++(usesO hi ++ usesO mx))
 | .lenc _=>[]
 | .build _ ps=>usesL (ps.map fun p=>p.2.2)
 | .mkfn _ cs=>usesL cs
def OpR.uses:OpR→List Nat
 | .load _ _ x | .b2s x=>x.uses
 | .cut _ x y z=>x.uses ++(y.uses ++ z.uses)
def OpE.uses:OpE→List Nat
 | .alloc ..=>[]
 | .box _ x | .s2b _ x | .clear _ _ x | .mark x=>x.uses
 | .mks _ _ _ _ ps=>usesL (ps.map fun p=>p.2)
 | .make _ _ _ x y | .store _ x y | .append _ _ _ x y | .copy _ x y=>x.uses ++ y.uses
def Op1.uses:Op1→List Nat
 | .p o=>o.uses
 | .r o=>o.uses
 | .e o _=>o.uses
 | .call _ xs _=>usesL xs
 | .callv x xs=>x.uses ++ usesL xs
 | .bad=>[]
def Op2.looks(o:Op2):List Nat:=o.op.uses ++(match o.guard with | some (t,_)=>[t] | none=>[])
def apart2(x y:Op2):Bool :=
 (match x.dst with | some d=>!y.looks.contains d && y.dst != some d | none=>true) &&
 (match y.dst with | some d=>!x.looks.contains d | none=>true)
def swapC(x y:Nat):Bool :=
 x == 0 || y == 0 || (x == 1 && y == 4) || ((x == 1 || x == 2) && (y == 1 || y == 2 || y == 3 || y == 5)) || ((x == 3 || x == 4 || x == 5) && y == 3)
def appTy:Op1→Option TypeId
 | .e (.append t _ _ _ _) _=>some t
 | _=>none
def callTy(o:Op2):List TypeId:=if cls o.op == 5 then o.no else []
def swapOk(x y:Op2):Bool:=((swapC (cls x.op) (cls y.op) && (cls x.op != 5 || cls y.op != 3 || x.fm)) && (apart2 x y && (match appTy y.op with | some t=>cls x.op != 1 || x.no.contains t | none=>true))) &&
 ((cls x.op != 1 || (callTy y).all fun t=>x.no.contains t) && (cls x.op != 2 || (callTy y).isEmpty))
def anc(ops:Array Oper):Array Nat:=Region.before ops
def ready1(ops:Array Oper)(did:Nat)(i:Nat):Bool :=
 !did.testBit i && (match ops[i]? with | some o=>o.after.all fun e=>!Region.binds .any e || did.testBit e.on | none=>false)
def order(ops:Array Oper)(c:Array Nat):Nat→Nat→List Nat
 | 0,_=>[]
 | n+1,did =>
  let rs:=(List.range ops.size).filter (ready1 ops did)
  match (rs.find? fun i=>decide (c.getD i 6≤2)).orElse fun _=>rs.head? with
  | some i=>i :: order ops c n (did ||| 2 ^ i)
  | none=>[]
def needs(ops:Array Oper)(b:Array Nat)(i:Nat):Nat:=match ops[i]? with
 | some o=>o.after.toList.foldl (fun acc e=>if Region.binds .any e then acc ||| (2 ^ e.on ||| b.getD e.on 0) else acc) 0
 | none=>0
def closedB(ops:Array Oper)(b:Array Nat):Bool :=
 (List.range ops.size).all fun i=>(b.getD i 0 ||| needs ops b i) == needs ops b i
def swapIx(cs:Array Op2)(i j:Nat):Bool:=match cs[i]?,cs[j]? with | some x,some y=>swapOk x y | _,_=>false
def linB(ops:Array Oper)(cs:Array Op2)(b:Array Nat):List Nat→Nat→Bool
 | [],_=>true
 | i :: r,did=>ready1 ops did i &&
  (r.all fun j=>(b.getD j 0).testBit i || swapIx cs i j) && linB ops cs b r (did ||| 2 ^ i)
def ldAt(o:Op2):Option Nat:=match o.guard,o.op with | none,.r (.load _ _ (.t t))=>some t | _,_=>none
def stAt(o:Op2):Option Nat:=match o.guard,o.op with | none,.e (.store _ (.t t) _) _=>some t | _,_=>none
def openLS(x y:Op2):Option (Nat × Nat):=match ldAt x,stAt y with | some t,some s=>if apart2 x y && (x.dst != some t && (y.dst != some t && y.dst != some s)) then some (t,s) else none | _,_=>none
def dstAt(cs:Array Op2)(k:Nat):Option Nat:=(cs[k]?).bind (·.dst)
def lsIx(cs:Array Op2)(i j:Nat):Option (Nat × Nat):=match cs[i]?,cs[j]? with | some x,some y=>openLS x y | _,_=>none
def lsOk(cs:Array Op2)(r:List Nat)(i j:Nat):Bool:=match lsIx cs i j with
 | some (t,s)=>(r.all fun k=>dstAt cs k != some t) && ((r.dropWhile (· != j)).all fun k=>dstAt cs k != some s)
 | none=>false
def linP(ops:Array Oper)(cs:Array Op2)(b:Array Nat):List Nat→Nat→Bool
 | [],_=>true
 | i :: r,did=>ready1 ops did i &&
  (r.all fun j=>(b.getD j 0).testBit i || (swapIx cs i j || lsOk cs r i j)) && linP ops cs b r (did ||| 2 ^ i)
def pairs(cs:Array Op2)(b:Array Nat):List Nat→List (Nat × Nat)
 | []=>[]
 | i :: r=>(r.filterMap fun j=>if (b.getD j 0).testBit i || swapIx cs i j then none else lsIx cs i j) ++ pairs cs b r
def apB(ps:List (Nat × Nat))(fr:Fr):Bool:=ps.all fun p=>match get fr p.1,get fr p.2 with
 | .eptr i _ _,.eptr j _ _=>i != j
 | .rptr ..,.eptr ..=>true
 | _,_=>false
def fullB(ops:Array Oper)(l:List Nat):Bool:=decide (l.length≤ops.size) && (List.range ops.size).all fun i=>l.contains i
def pick(cs:Array Op2)(l:List Nat):List Op2:=l.filterMap fun i=>cs[i]?
def compL(P:Program)(ops:Array Oper)(d:Bool):List Op2:=ops.toList.zipIdx.map fun p=>comp2 P ops d p.2 p.1
def comp(P:Program):Code→AC
 | .skip=>.skip
 | .region _ ops false=>.region 0 (compL P ops false) none
 | .region _ ops true =>
  let cs:=(compL P ops true).toArray
  let b:=anc ops
  let l:=order ops (cs.map fun o=>cls o.op) ops.size 0
  if fullB ops l=true∧closedB ops b=true∧linB ops cs b l 0=true then .region ops.size (pick cs l) none else
  if fullB ops l=true∧closedB ops b=true∧linP ops cs b l 0=true then .regionA ops.size (pick cs l) (pairs cs b l) none else .bad
 | .seq a b=>.seq (comp P a) (comp P b)
 | .cond c x y=>.cond (cx c) (comp P x) (comp P y)
 | .block id b=>.block id (comp P b)
 | .loop b=>.loop none (comp P b)
 | .exit id=>.exit id
 | .ret=>.ret
 | .scope b=>.scope (comp P b)
 | .label _=>.skip
 | _=>.bad
def bareC:AC→AC
 | .region n ops _=>.region n ops none
 | .regionA n ops ps _=>.regionA n ops ps none
 | .seq a b=>.seq (bareC a) (bareC b)
 | .cond c x y=>.cond c (bareC x) (bareC y)
 | .block id b=>.block id (bareC b)
 | .loop _ b=>.loop none (bareC b)
 | .scope b=>.scope (bareC b)
 | c=>c
end Go.Pv
/-
 The machine of plain values,2: how its values,rows and frames stand to those of the model; what a step keeps.
-/
namespace Go.Pv
structure GE where
 blk:Option Nat
 sz:Nat
 C:Nat
 st:Nat        -- 0: gone,1: nobody writes it any more,2: the call's own
structure Gh where
 m:Nat→Option GE
 imm:Nat→Prop
def Gh.bare(γ:Gh):Gh:=⟨fun _=>none,γ.imm⟩
def Gh.owns(γ:Gh)(b:Nat):Prop:=∃ id ge,γ.m id=some ge∧ge.st=2∧ge.blk=some b
inductive Sim(w:World):Gh→AV→Value→Prop
 | undef {γ:Gh} (v:Value):Sim w γ .undef v
 | bool {γ:Gh} (b:Bool):Sim w γ (.bool b) (.bool b)
 | anyb {γ:Gh} (b:Bool):Sim w γ .anyb (.bool b)
 | int {γ:Gh} (k:IntKind) (n:Int):Sim w γ (.int k n) (.int k n)
 | str {γ:Gh} (s:List UInt8):Sim w γ (.str s) (.string ⟨s.toArray⟩)
 | lit {γ:Gh} (v:Value):Sim w γ (.lit v) v
 | sl0 {γ:Gh} (sz:Nat) (full:Bool) (A:Option Addr) (cap:Nat) (h:full=true→cap=0):Sim w γ (.sl sz [] full) (.slice A 0 cap)
 | sl {γ:Gh} (sz:Nat) (es:List AV) (full:Bool) (b off cap:Nat) (U:Nat→Nat→Value) (hp:0 < es.length) (hc:es.length≤cap) (hf:full=true→cap=es.length)
   (hb:b < w.heap.size) (hi:γ.imm b) (hz:∀ x∈es,x.flat.length=sz)
   (hcell:∀(i:Nat) (x:AV) (j:Nat) (y:AV),es[i]?=some x→x.flat[j]?=some y→w.cell? ⟨b,off+i * sz+j,none⟩=some (U i j) ∧(U i j).oneCell'=true)
   (hs:∀(i:Nat) (x:AV) (j:Nat) (y:AV),es[i]?=some x→x.flat[j]?=some y→Sim w γ.bare y (U i j)):Sim w γ (.sl sz es full) (.slice (some ⟨b,off,none⟩) es.length cap)
 | vec {γ:Gh} (id sz off len:Nat) (A:Option Addr) (cap:Nat) (ge:GE) (hm:γ.m id=some ge) (hz:ge.sz=sz) (hl:off+len≤ge.C) (hc:cap+off=ge.C)
   (hN:ge.blk=none→ge.C=0) (hA:∀ g,ge.blk=some g →(0 < len∨off=0)→A=some ⟨g,off * sz,none⟩):Sim w γ (.vec id sz off len) (.slice A len cap)
 | eptr {γ:Gh} (id i off g:Nat) (ge:GE) (hm:γ.m id=some ge) (hg:ge.blk=some g):Sim w γ (.eptr id i off) (.pointer (some ⟨g,i * ge.sz+off,none⟩))
 | rptr {γ:Gh} (x:AV) (off b o:Nat) (U:Nat→Value) (hb:b < w.heap.size) (hi:γ.imm b)
   (hcell:∀(j:Nat) (y:AV),x.flat[j]?=some y→w.cell? ⟨b,o+j,none⟩=some (U j) ∧(U j).oneCell'=true)
   (hs:∀(j:Nat) (y:AV),x.flat[j]?=some y→Sim w γ.bare y (U j)):Sim w γ (.rptr x off) (.pointer (some ⟨b,o+off,none⟩))
 | fn {γ:Gh} (f g:FuncId) (xs:List AV) (fs cs:Array Value) (hv:(f=g∧fs=#[]∧g < 1000000) ∨(f=g+1000000∧cs=#[])) (hz:xs.length =(fs ++ cs).size)
   (hs:∀(i:Nat) (x:AV) (v:Value),xs[i]?=some x →(fs ++ cs)[i]?=some v→Sim w γ x v):Sim w γ (.fn f xs) (.func (.func g) fs cs)
 | agg {γ:Gh} (xs:List AV) (cs:Array Value) (hz:xs.length=cs.size)
   (hs:∀(i:Nat) (x:AV) (v:Value),xs[i]?=some x→cs[i]?=some v→Sim w γ x v):Sim w γ (.agg xs) (.agg cs)
 | tup {γ:Gh} (xs:List AV) (cs:Array Value) (hz:xs.length=cs.size)
   (hs:∀(i:Nat) (x:AV) (v:Value),xs[i]?=some x→cs[i]?=some v→Sim w γ x v):Sim w γ (.tup xs) (.tuple cs)
structure Adv(γ γ':Gh)(w w':World):Prop where
 size:w.heap.size≤w'.heap.size
 imm:∀ b,γ.imm b→γ'.imm b ∧(b < w.heap.size→w'.heap[b]?=w.heap[b]?)
 id:∀ id ge,γ.m id=some ge→∃ st,γ'.m id=some { ge with st:=st }
theorem Adv.bare{γ γ':Gh}{w w':World}(h:Adv γ γ' w w'):Adv γ.bare γ'.bare w w':=⟨h.size,h.imm,fun _ _ hi=>by cases hi⟩
theorem cell_same{w w':World}{b o:Nat}(h:w'.heap[b]?=w.heap[b]?):w'.cell? ⟨b,o,none⟩=w.cell? ⟨b,o,none⟩:=World.cell?_of_block (w:=w) (a:=⟨b,o,none⟩) h
theorem Sim.adv{w:World}{γ:Gh}{x:AV}{v:Value}(h:Sim w γ x v):∀ {γ':Gh} {w':World},Adv γ γ' w w'→Sim w' γ' x v:=by
 induction h with
 | undef v=>intro γ' w' _; exact .undef v
 | bool b=>intro γ' w' _; exact .bool b
 | anyb b=>intro γ' w' _; exact .anyb b
 | int k n=>intro γ' w' _; exact .int k n
 | str s=>intro γ' w' _; exact .str s
 | lit v=>intro γ' w' _; exact .lit v
 | sl0 sz full A cap h=>intro γ' w' _; exact .sl0 sz full A cap h
 | sl sz es full b off cap U hp hc hf hb hi hz hcell hs ih =>
  intro γ' w' a
  have he:=(a.imm b hi).2 hb
  exact .sl sz es full b off cap U hp hc hf (Nat.lt_of_lt_of_le hb a.size) (a.imm b hi).1 hz (fun i x j y h1 h2=>by rw [cell_same he]; exact hcell i x j y h1 h2) (fun i x j y h1 h2=>ih i x j y h1 h2 a.bare)
 | vec id sz off len A cap ge hm hz hl hc hN hA =>
  intro γ' w' a
  obtain ⟨st,h2⟩:=a.id id ge hm
  exact .vec id sz off len A cap _ h2 hz hl hc hN hA
 | eptr id i off g ge hm hg =>
  intro γ' w' a
  obtain ⟨st,h2⟩:=a.id id ge hm
  exact .eptr id i off g { ge with st:=st } h2 hg
 | rptr x off b o U hb hi hcell hs ih =>
  intro γ' w' a
  have he:=(a.imm b hi).2 hb
  exact .rptr x off b o U (Nat.lt_of_lt_of_le hb a.size) (a.imm b hi).1 (fun j y h=>by rw [cell_same he]; exact hcell j y h) (fun j y h=>ih j y h a.bare)
 | fn f g xs fs cs hv hz hs ih=>intro γ' w' a; exact .fn f g xs fs cs hv hz fun i x v h1 h2=>ih i x v h1 h2 a
 | agg xs cs hz hs ih=>intro γ' w' a; exact .agg xs cs hz fun i x v h1 h2=>ih i x v h1 h2 a
 | tup xs cs hz hs ih=>intro γ' w' a; exact .tup xs cs hz fun i x v h1 h2=>ih i x v h1 h2 a
def EntOk(w:World)(γ:Gh)(e:Ent)(ge:GE):Prop :=
 (ge.st=0∧e.wr=false∧e.es=[])∨ge.st =(if e.wr then 2 else 1) ∧((ge.blk=none∧e.es=[]∧ge.C=0) ∨
   ∃ g cs fr,ge.blk=some g∧w.heap[g]?=some (.cells cs e.ty fr)∧cs.size=ge.C * ge.sz ∧(fr.1=fr.2∨cs.size≤fr.1)∧e.es.length≤ge.C ∧
    ∀(i:Nat) (x:AV),e.es[i]?=some x→x.flat.length=ge.sz∧∀(j:Nat) (y:AV),x.flat[j]?=some y→∃ u,cs[i * ge.sz+j]?=some u∧u.oneCell'=true∧Sim w γ y u)
theorem EntOk.adv{w w':World}{γ γ':Gh}{e:Ent}{ge:GE}(h:EntOk w γ e ge)(a:Adv γ γ' w w')(hk:∀ g,ge.st≠0→ge.blk=some g→w'.heap[g]?=w.heap[g]?):EntOk w' γ' e ge:=by
 rcases h with h | h
 ·exact .inl h
 have hst:ge.st≠0:=by rw [h.1]; split <;> decide
 refine .inr ⟨h.1,?_⟩
 rcases h.2 with h | ⟨g,cs,fr,h1,h2,h3,h4,h5,h6⟩
 ·exact .inl h
 ·refine .inr ⟨g,cs,fr,h1,(hk g hst h1).trans h2,h3,h4,h5,fun i x hx=>⟨(h6 i x hx).1,fun j y hy=>?_⟩⟩
  obtain ⟨u,hu,hone,hs⟩:=(h6 i x hx).2 j y hy
  exact⟨u,hu,hone,hs.adv a⟩
structure HRel(γ:Gh)(H:Hp)(w:World):Prop where
 none:∀ id,ent H id=none→γ.m id=none
 ok:∀ id e,ent H id=some e→∃ ge,γ.m id=some ge∧EntOk w γ e ge
 inj:∀ id id' ge ge' b,γ.m id=some ge→γ.m id'=some ge'→ge.st≠0→ge'.st≠0→ge.blk=some b→ge'.blk=some b→id=id'
 imm:∀ b,γ.imm b→b < w.heap.size∧¬ γ.owns b
 stl:∀ id ge b,γ.m id=some ge→ge.st=1→ge.blk=some b→γ.imm b
theorem ent_lt{H:Hp}{id:Nat}{e:Ent}(h:ent H id=some e):id < H.length:=by
 unfold ent at h
 rcases Nat.lt_or_ge id H.length with h' | h'
 ·exact h'
 ·rw [List.getElem?_eq_none h'] at h; cases h
theorem HRel.ent{γ:Gh}{H:Hp}{w:World}(h:HRel γ H w){id:Nat}{ge:GE}(hm:γ.m id=some ge):∃ e,Pv.ent H id=some e∧EntOk w γ e ge:=by
 cases he:Pv.ent H id with
 | none=>rw [h.none id he] at hm; cases hm
 | some e =>
  obtain ⟨ge',h1,h2⟩:=h.ok id e he
  rw [hm] at h1; cases h1
  exact⟨e,rfl,h2⟩
theorem EntOk.blkLt{γ:Gh}{w:World}{e:Ent}{ge:GE}(h2:EntOk w γ e ge)(hs:ge.st≠0){g:Nat}(hg:ge.blk=some g):g < w.heap.size:=by
 rcases h2 with h | h2
 ·exact absurd h.1 hs
 rcases h2.2 with h' | ⟨g',cs,fr,h1,h2,_⟩
 ·rw [h'.1] at hg; cases hg
 ·rw [h1] at hg; cases hg
  exact(Array.getElem?_eq_some_iff.1 h2).1
theorem HRel.blkLt{γ:Gh}{H:Hp}{w:World}(h:HRel γ H w){id:Nat}{ge:GE}{g:Nat}(hm:γ.m id=some ge)(hs:ge.st≠0)(hg:ge.blk=some g):g < w.heap.size:=by
 obtain ⟨e,_,h2⟩:=h.ent hm
 exact h2.blkLt hs hg
theorem EntOk.live{γ:Gh}{w:World}{e:Ent}{ge:GE}(h:EntOk w γ e ge)(hl:e.wr=true∨e.es≠[]):ge.st =(if e.wr then 2 else 1) ∧((ge.blk=none∧e.es=[]∧ge.C=0) ∨
  ∃ g cs fr,ge.blk=some g∧w.heap[g]?=some (.cells cs e.ty fr)∧cs.size=ge.C * ge.sz ∧(fr.1=fr.2∨cs.size≤fr.1)∧e.es.length≤ge.C ∧
   ∀(i:Nat) (x:AV),e.es[i]?=some x→x.flat.length=ge.sz∧∀(j:Nat) (y:AV),x.flat[j]?=some y→∃ u,cs[i * ge.sz+j]?=some u∧u.oneCell'=true∧Sim w γ y u):=by
 rcases h with ⟨_,h1,h2⟩ | h
 ·rcases hl with hl | hl
  ·rw [h1] at hl; cases hl
  ·exact absurd h2 hl
 ·exact h
structure Step(γ γ':Gh)(w w':World):Prop where
 os:w'.os=w.os
 tape:w'.tape=w.tape
 output:w'.output=w.output
 size:w.heap.size≤w'.heap.size
 keep:∀ b,b < w.heap.size→¬ γ.owns b→w'.heap[b]?=w.heap[b]?
 own:∀ b,γ'.owns b→γ.owns b∨w.heap.size≤b
 immk:∀ b,γ.imm b→γ'.imm b
 immn:∀ b,γ'.imm b→γ.imm b∨γ.owns b∨w.heap.size≤b
def Ids(γ γ':Gh):Prop:=∀ id ge,γ.m id=some ge→∃ st,γ'.m id=some { ge with st:=st }
theorem Step.adv{γ γ':Gh}{w w':World}(h:Step γ γ' w w')(hi:Ids γ γ')(himm:∀ b,γ.imm b→b < w.heap.size∧¬ γ.owns b):Adv γ γ' w w' :=
 ⟨h.size,fun b hb=>⟨h.immk b hb,fun hlt=>h.keep b hlt (himm b hb).2⟩,hi⟩
theorem Step.refl(γ:Gh)(w:World):Step γ γ w w:=⟨rfl,rfl,rfl,Nat.le_refl _,fun _ _ _=>rfl,fun _ h=>.inl h,fun _ h=>h,fun _ h=>.inl h⟩
theorem Ids.refl(γ:Gh):Ids γ γ:=fun _ ge h=>⟨ge.st,h⟩
theorem Ids.trans{a b c:Gh}(h:Ids a b)(k:Ids b c):Ids a c:=fun id ge hm=>by
 obtain ⟨st,h1⟩:=h id ge hm
 obtain ⟨st',h2⟩:=k id _ h1
 exact⟨st',h2⟩
theorem Step.trans{a b c:Gh}{w w1 w2:World}(h:Step a b w w1)(k:Step b c w1 w2):Step a c w w2 where
 os:=k.os.trans h.os
 tape:=k.tape.trans h.tape
 output:=k.output.trans h.output
 size:=Nat.le_trans h.size k.size
 keep:=fun x hx hn=>(k.keep x (Nat.lt_of_lt_of_le hx h.size) (fun ho=>(h.own x ho).elim hn (fun hge=>by omega))).trans (h.keep x hx hn)
 own:=fun x hx=>by
  rcases k.own x hx with h1 | h1
  ·exact h.own x h1
  ·exact .inr (Nat.le_trans h.size h1)
 immk:=fun x hx=>k.immk x (h.immk x hx)
 immn:=fun x hx=>by
  rcases k.immn x hx with h1 | h1 | h1
  ·exact h.immn x h1
  ·exact .inr (h.own x h1)
  ·exact .inr (.inr (Nat.le_trans h.size h1))
/-! ### Frames -/
def FrR(w:World)(γ:Gh)(fr:Fr)(tmps:Array Value):Prop:=∀ t,Sim w γ (get fr t) (tmps.getD t Go.undef)
theorem get_put(fr:Fr)(t u:Nat)(v:AV):get (put fr t v) u=if t=u then v else get fr u:=by
 induction fr with
 | nil=>simp only[put,get]
 | cons p r ih =>
  obtain ⟨k,x⟩:=p
  simp only[put]
  by_cases h:k=t
  ·subst h; simp only[if_true,get]; split <;> rfl
  ·rw [if_neg h]
   split
   ·simp only[get]
   ·simp only[get,ih]
    by_cases h1:k=u
    ·subst h1; rw [if_pos rfl,if_pos rfl,if_neg (fun e=>h e.symm)]
    ·rw [if_neg h1,if_neg h1]
theorem FrR.adv{w w':World}{γ γ':Gh}{fr:Fr}{tmps:Array Value}(h:FrR w γ fr tmps)(a:Adv γ γ' w w'):FrR w' γ' fr tmps:=fun t=>(h t).adv a
theorem FrR.put{w:World}{γ:Gh}{fr:Fr}{a:Act}(h:FrR w γ fr a.tmps){d:Option Nat}{x:AV}{v:Value}(hs:Sim w γ x v)(hd:∀ t,d=some t→t < a.tmps.size):FrR w γ (putO fr d x) (a.put d v).tmps:=by
 cases d with
 | none=>exact h
 | some d =>
  intro t
  simp only[putO,get_put,Act.put]
  by_cases ht:d=t
  ·subst ht
   have:=hd d rfl
   rw [if_pos rfl]
   simpa [Array.getD_eq_getD_getElem?,Array.getElem?_setIfInBounds,this] using hs
  ·rw [if_neg ht]
   have e:(a.tmps.setIfInBounds d v).getD t Go.undef=a.tmps.getD t Go.undef:=by
    simp [Array.getD_eq_getD_getElem?,Array.getElem?_setIfInBounds_ne ht]
   rw [e]; exact h t
theorem ofVal_sim(w:World)(γ:Gh)(v:Value):Sim w γ (ofVal v) v:=by
 cases v with
 | bool b=>exact .bool _
 | int k n=>exact .int _ _
 | string s=>exact .str s.data.toList
 | slice a n c =>
  simp only[ofVal]
  split
  ·rename_i h
   simp at h
   obtain ⟨⟨rfl,rfl⟩,rfl⟩:=h
   exact .sl0 _ _ _ _ (fun _=>rfl)
  ·exact .lit _
 | func g a b =>
  simp only[ofVal]
  split
  ·rename_i h
   simp at h
   obtain ⟨rfl,rfl⟩:=h
   cases g <;> try exact .lit _
   dsimp only
   split
   ·rename_i hf; exact .fn _ _ _ _ _ (.inl ⟨rfl,rfl,hf⟩) rfl (fun i x v h _=>by simp at h)
   ·exact .lit _
  ·exact .lit _
 | _=>exact .lit _
theorem cx_sim{w:World}{γ:Gh}{fr:Fr}{a:Act}(h:FrR w γ fr a.tmps)(x:Operand):Sim w γ ((cx x).ev fr) (a.eval x):=by
 cases x with
 | tmp t=>exact h t
 | const v=>exact ofVal_sim w γ v
 | global g=>exact .lit _
 | func f =>
  simp only[cx,AX.ev]
  split
  ·rename_i hf; exact .fn _ _ _ _ _ (.inl ⟨rfl,rfl,hf⟩) rfl (fun i x v h _=>by simp at h)
  ·exact .lit _
end Go.Pv
/-
 The machine of plain values,3: operations that look at no memory do in the model what they do in the machine.
-/
namespace Go.Pv
section
variable {P:Program} {w:World} {γ:Gh}
theorem str_inv{s:List UInt8}{v:Value}(h:Sim w γ (.str s) v):v=.string ⟨s.toArray⟩:=by cases h; rfl
theorem int_inv{k:IntKind}{n:Int}{v:Value}(h:Sim w γ (.int k n) v):v=.int k n:=by cases h; rfl
theorem bool_inv{b:Bool}{v:Value}(h:Sim w γ (.bool b) v):v=.bool b:=by cases h; rfl
theorem int2_run{op:BinOp}{k:IntKind}{a b:Int}{z:AV}(h:int2 op k a b=some z)(t:TypeId)(h1:op≠.shl)(h2:op≠.shr) :
  ∃ v,(binOp op t (.int k a) (.int k b)).run P w=.ok v w∧Sim w γ z v:=by
 cases op <;> simp only[int2,Option.some.injEq,reduceCtorEq] at h <;>
  first
   | exact absurd rfl h1
   | exact absurd rfl h2
   | (subst h; exact⟨_,by simp only[binOp]; rw [if_neg (by simp)]; rfl,by constructor⟩)
   | (split at h
      ·cases h
      ·rename_i hb
       cases h
       exact⟨_,by simp [binOp,Op.intDiv,hb]; rfl,by constructor⟩)
theorem size_mk(l:List UInt8):(ByteArray.mk l.toArray).size=l.length:=by simp [ByteArray.size]
theorem append_mk(a b:List UInt8):ByteArray.mk a.toArray ++ ByteArray.mk b.toArray=ByteArray.mk (a ++ b).toArray:=by
 apply ByteArray.ext
 simp
theorem bin_run{op:BinOp}{X Y z:AV}{x y:Value}(hx:Sim w γ X x)(hy:Sim w γ Y y)(h:bin2 op X Y=some z)(t:TypeId) :
  ∃ v,(binOp op t x y).run P w=.ok v w∧Sim w γ z v:=by
 unfold bin2 at h
 split at h
 ·cases int_inv hx; cases int_inv hy
  split at h
  ·split at h
   ·cases h
   ·rename_i hb
    cases h
    exact⟨_,by simp [binOp,Op.shift,hb]; rfl,by constructor⟩
  ·split at h
   ·cases h
   ·rename_i hb
    cases h
    exact⟨_,by simp [binOp,Op.shift,hb]; rfl,by constructor⟩
  ·rename_i h1 h2
   split at h
   ·rename_i hk
    subst hk
    exact int2_run h t h1 h2
   ·cases h
 ·cases str_inv hx; cases str_inv hy
  split at h
  ·split at h
   ·rename_i a b hl
    cases h
    refine⟨_,?_,.str _⟩
    simp only[binOp,Op.stringOp]
    rw [if_neg (by rw [size_mk,size_mk,show IntKind.i64.max=9223372036854775807 from rfl]; unfold lim at hl; omega),append_mk]
    rfl
   ·cases h
  ·cases h
   exact⟨_,by simp [binOp,Op.stringOp]; rfl,by constructor⟩
  ·cases h
   exact⟨_,by simp [binOp,Op.stringOp]; rfl,by constructor⟩
  ·cases h
 ·cases h
theorem eqGuard_run(op:BinOp)(t:TypeId)(x y:Operand)(a b:Value)(h:∀ cs,a≠.agg cs)(h':a≠.nilIface):(eqGuard op t x y a b).run P w=.ok () w:=by
 unfold eqGuard
 cases op <;> first | rfl | (cases a <;> first | rfl | exact absurd rfl h' | exact absurd rfl (h _))
theorem equalIn_bool(d:Nat)(t:TypeId)(ht:P.underlying t=some .bool)(a b:Bool):(Op.equalIn (d+1) t (.bool a) (.bool b)).run P w=.ok (a == b) w:=by
 simp [Op.equalIn,run_underlying ht]
theorem binB_run{op:BinOp}{X Y z:AV}{x y:Value}(hx:Sim w γ X x)(hy:Sim w γ Y y)(h:binB2 op X Y=some z)(t:TypeId)(ht:P.underlying t=some .bool) :
  ∃ v,(binOp op t x y).run P w=.ok v w∧Sim w γ z v:=by
 unfold binB2 at h
 split at h
 ·cases bool_inv hx; cases bool_inv hy
  split at h
  ·cases h
   exact⟨_,by simp only[binOp]; simp [Op.equal,Op.maxDepth,equalIn_bool 9999 t ht]; rfl,by constructor⟩
  ·cases h
   exact⟨_,by simp only[binOp]; simp [Op.equal,Op.maxDepth,equalIn_bool 9999 t ht]; rfl,by constructor⟩
  ·cases h
 ·cases h
theorem un_run{op:UnOp}{X z:AV}{x:Value}(hx:Sim w γ X x)(h:un1 op X=some z):∃ v,(Op.unary op x).run P w=.ok v w∧Sim w γ z v:=by
 unfold un1 at h
 split at h
 ·cases bool_inv hx
  split at h
  ·cases h; exact⟨_,rfl,by constructor⟩
  ·cases h
 ·cases int_inv hx
  split at h
  ·cases h; exact⟨_,rfl,by constructor⟩
  ·cases h
 ·cases h
theorem index_inv{n i:Nat}{X:AV}{x:Value}(hx:Sim w γ X x)(h:index n X=some i):∃ k z,x=.int k z∧0≤z∧z < n∧i=z.toNat∧i < n:=by
 unfold index at h
 split at h
 ·cases int_inv hx
  split at h
  ·rename_i hb
   cases h
   exact⟨_,_,rfl,hb.1,hb.2,rfl,by omega⟩
  ·cases h
 ·cases h
theorem agg_inv{xs:List AV}{v:Value}(h:Sim w γ (.agg xs) v):∃ cs,v=.agg cs∧xs.length=cs.size∧∀(i:Nat) (x:AV) (u:Value),xs[i]?=some x→cs[i]?=some u→Sim w γ x u:=by
 cases h with | agg _ cs hz hs=>exact⟨cs,rfl,hz,hs⟩
theorem tup_inv{xs:List AV}{v:Value}(h:Sim w γ (.tup xs) v):∃ cs,v=.tuple cs∧xs.length=cs.size∧∀(i:Nat) (x:AV) (u:Value),xs[i]?=some x→cs[i]?=some u→Sim w γ x u:=by
 cases h with | tup _ cs hz hs=>exact⟨cs,rfl,hz,hs⟩
theorem info_of_under{t:TypeId}{d:TypeDesc}(h:P.underlying t=some d):∃ i,P.info? t=some i:=by
 unfold Program.underlying at h
 split at h
 ·exact⟨_,by assumption⟩
 ·exact⟨_,by assumption⟩
 ·cases h
theorem tyOk_under{t:TypeId}(h:tyOk P t=true):∃ d,P.underlying t=some d:=Option.isSome_iff_exists.1 h
theorem run_isAgg{t:TypeId}(h:tyOk P t=true):(Go.isAgg t).run P w=.ok (isAg P t) w:=by
 obtain ⟨d,hd⟩:=tyOk_under h
 simp only[Go.isAgg,isAg,Sem.run_bind,run_underlying hd,Result.andThen_ok,hd]
 cases d <;> rfl
theorem run_sizeOf{t:TypeId}(h:tyOk P t=true):(sizeOf t).run P w=.ok (P.cellsOf t) w:=by
 obtain ⟨d,hd⟩:=tyOk_under h
 obtain ⟨i,hi⟩:=info_of_under hd
 simp [sizeOf,typeInfo,hi,Program.cellsOf]
theorem part_run{t:TypeId}{xs:List AV}{cs:Array Value}{off:Nat}{z:AV}(hz:xs.length=cs.size)(hs:∀(i:Nat) (x:AV) (u:Value),xs[i]?=some x→cs[i]?=some u→Sim w γ x u)
  (ht:tyOk P t=true) (h:cells (.agg xs) off (P.cellsOf t) (isAg P t)=some z):∃ v,(part t cs off).run P w=.ok v w∧Sim w γ z v:=by
 unfold cells at h
 simp only[part,Sem.run_bind,run_isAgg ht,Result.andThen_ok]
 by_cases ha:isAg P t=true
 ·rw [if_pos ha] at h ⊢
  split at h
  ·rename_i hl
   cases h
   simp only[Sem.run_bind,run_sizeOf ht,Result.andThen_ok,Sem.run_pure]
   refine⟨_,rfl,.agg _ _ ?_ ?_⟩
   ·rw [hl]
    simp only[AV.flat,List.length_take,List.length_drop] at hl
    simp
    omega
   ·intro i x u hx hu
    simp only[AV.flat] at hx
    rw [List.getElem?_take] at hx
    split at hx
    ·rename_i hi
     rw [List.getElem?_drop] at hx
     rw [Array.getElem?_extract] at hu
     split at hu
     ·exact hs _ x u hx hu
     ·cases hu
    ·cases hx
  ·cases h
 ·rw [if_neg ha] at h ⊢
  simp only[AV.flat] at h
  have hlt:off < xs.length:=(List.getElem?_eq_some_iff.1 h).1
  have hc:cs[off]?=some (cs[off]'(by omega)):=Array.getElem?_eq_getElem (by omega)
  rw [hc]
  exact⟨_,rfl,hs off z _ h hc⟩
theorem bound_le{hi hi' n:Nat}{X:AV}{x:Value}(hx:Sim w γ X x)(h:bound hi X=some n)(hle:hi≤hi')(code:BoundsCode):(Instr.sliceBound x hi' code).run P w=.ok n w∧n≤hi:=by
 unfold bound at h
 split at h
 ·cases int_inv hx
  split at h
  ·rename_i hb
   cases h
   have h2:=hb.1
   have h3:=hb.2
   refine⟨?_,by omega⟩
   simp only[Instr.sliceBound,asIntOf,Sem.run_bind,Sem.run_pure,Result.andThen_ok]
   rw [if_pos ⟨h2,by omega⟩]
   rfl
  ·cases h
 ·cases h
variable {fr:Fr}
theorem pick_run{X A B:AX}{z:AV}{x a b:Value}(hx:Sim w γ (X.ev fr) x)(ha:Sim w γ (A.ev fr) a)(hb:Sim w γ (B.ev fr) b)(h:evP fr (.pick X A B)=some z) :
  ∃ v,(do pure (.value (if ← asBool x then a else b)):Sem Next).run P w=.ok (.value v) w∧Sim w γ z v:=by
 simp only[evP] at h
 generalize X.ev fr=XX at *
 cases XX <;> try (cases h; done)
 cases bool_inv hx
 cases h
 refine⟨_,rfl,?_⟩
 split
 ·exact ha
 ·exact hb
theorem ptr_add{X:AX}{z:AV}{x:Value}(hx:Sim w γ (X.ev fr) x){off:Nat}(h:evP fr (.faddr off X)=some z) :
  ∃ a:Addr,x=.pointer (some a)∧Sim w γ z (.pointer (some (a.add off))):=by
 simp only[evP] at h
 generalize X.ev fr=XX at *
 cases XX <;> try (cases h; done)
 ·cases hx with
  | eptr id i o g ge hm hg =>
   cases h
   refine⟨_,rfl,?_⟩
   rw [Addr.add_lit,Nat.add_assoc]
   exact .eptr _ _ _ g ge hm hg
 ·cases hx with
  | rptr x o b o' U hb hi hc hs =>
   cases h
   refine⟨_,rfl,?_⟩
   rw [Addr.add_lit,Nat.add_assoc]
   exact .rptr _ _ b _ U hb hi hc hs
theorem iaddr_run{t e:TypeId}(ht:P.underlying t=some (.slice e))(he:tyOk P e=true){X I:AX}{z:AV}{x i:Value}(hx:Sim w γ (X.ev fr) x)(hi:Sim w γ (I.ev fr) i)
  (h:evP fr (.iaddr (P.cellsOf e) X I)=some z):∃ v,(Instr.indexAt t x i).run P w=.ok v w∧Sim w γ z v:=by
 simp only[evP] at h
 generalize X.ev fr=XX at *
 cases XX <;> try (cases h; done)
 ·rename_i sz es full
  dsimp only at h
  split at h
  ·rename_i hsz
   obtain ⟨k,hk,h⟩:=Option.bind_eq_some_iff.1 h
   obtain ⟨y,hy,hh⟩:=Option.map_eq_some_iff.1 h
   obtain ⟨ki,zi,rfl,h0,h1,rfl,h2⟩:=index_inv hi hk
   subst hh
   cases hx with
   | sl0=>simp at h2
   | sl sz es full b off cap U hp hc hf hb him hz hcell hs =>
    refine⟨.pointer (some ⟨b,off+zi.toNat * sz+0,none⟩),?_,.rptr y 0 b (off+zi.toNat * sz) (U zi.toNat) hb him (fun j u hj=>hcell _ y j u hy hj) (fun j u hj=>hs _ y j u hy hj)⟩
    simp [Instr.indexAt,asIntOf,run_underlying ht,h0,h1,run_sizeOf he,Addr.add_lit,hsz]
  ·cases h
 ·rename_i id sz off len
  dsimp only at h
  split at h
  ·rename_i hsz
   obtain ⟨k,hk,h⟩:=Option.map_eq_some_iff.1 h
   obtain ⟨ki,zi,rfl,h0,h1,rfl,h2⟩:=index_inv hi hk
   subst h
   cases hx with
   | vec _ _ _ _ A cap ge hm hz hl hc hN hA =>
    cases hg:ge.blk with
    | none=>have:=hN hg; omega
    | some g =>
     have hAe:=hA g hg (.inl (by omega))
     subst hAe
     refine⟨.pointer (some ⟨g,(off+zi.toNat) * ge.sz+0,none⟩),?_,.eptr id _ 0 g ge hm hg⟩
     simp [Instr.indexAt,asIntOf,run_underlying ht,h0,h1,run_sizeOf he,Addr.add_lit,hsz,hz,Nat.add_mul]
  ·cases h
theorem aaddr_run{t e:TypeId}{len:Nat}(ht:P.underlying t=some (.array len e))(he:tyOk P e=true){X I:AX}{z:AV}{x i:Value}(hx:Sim w γ (X.ev fr) x)(hi:Sim w γ (I.ev fr) i)
  (h:evP fr (.aaddr len (P.cellsOf e) X I)=some z):∃ v,(Instr.indexAt t x i).run P w=.ok v w∧Sim w γ z v:=by
 simp only[evP] at h
 generalize X.ev fr=XX at *
 cases XX <;> try (cases h; done)
 ·rename_i id j o
  obtain ⟨k,hk,h⟩:=Option.map_eq_some_iff.1 h
  obtain ⟨ki,zi,rfl,h0,h1,rfl,h2⟩:=index_inv hi hk
  subst h
  cases hx with
  | eptr _ _ _ g ge hm hg =>
   refine⟨.pointer (some ⟨g,_ * ge.sz +(o+zi.toNat * P.cellsOf e),none⟩),?_,.eptr _ _ _ g ge hm hg⟩
   simp [Instr.indexAt,asIntOf,run_underlying ht,h0,h1,run_sizeOf he,Addr.add_lit,Instr.sureAddr,Nat.add_assoc]
 ·rename_i y o
  obtain ⟨k,hk,h⟩:=Option.map_eq_some_iff.1 h
  obtain ⟨ki,zi,rfl,h0,h1,rfl,h2⟩:=index_inv hi hk
  subst h
  cases hx with
  | rptr _ _ b o' U hb him hc hs =>
   refine⟨.pointer (some ⟨b,o' +(o+zi.toNat * P.cellsOf e),none⟩),?_,.rptr _ _ b o' U hb him hc hs⟩
   simp [Instr.indexAt,asIntOf,run_underlying ht,h0,h1,run_sizeOf he,Addr.add_lit,Instr.sureAddr,Nat.add_assoc]
theorem get_mk(s:List UInt8)(k:Nat):(ByteArray.mk s.toArray)[k]?=s[k]?:=by
 by_cases h:k < s.length
 ·rw [List.getElem?_eq_getElem h,getElem?_pos _ _ (by rw [size_mk]; exact h)]
  rfl
 ·rw [List.getElem?_eq_none (by omega),getElem?_neg _ _ (by rw [size_mk]; exact h)]
theorem idxs_run{t:TypeId}(ht:P.underlying t=some .string){X I:AX}{z:AV}{x i:Value}(hx:Sim w γ (X.ev fr) x)(hi:Sim w γ (I.ev fr) i)
  (h:evP fr (.idxs X I)=some z):∃ v,(Instr.index t x i).run P w=.ok v w∧Sim w γ z v:=by
 simp only[evP] at h
 generalize X.ev fr=XX at *
 cases XX <;> try (cases h; done)
 obtain ⟨k,hk,h⟩:=Option.bind_eq_some_iff.1 h
 obtain ⟨y,hy,hh⟩:=Option.map_eq_some_iff.1 h
 obtain ⟨ki,zi,rfl,h0,h1,rfl,h2⟩:=index_inv hi hk
 cases str_inv hx
 subst hh
 exact⟨.int .u8 y.toNat,by simp [Instr.index,asIntOf,run_underlying ht,h0,get_mk,hy],.int _ _⟩
theorem idxa_run{t e:TypeId}{len:Nat}(ht:P.underlying t=some (.array len e))(he:tyOk P e=true){X I:AX}{z:AV}{x i:Value}(hx:Sim w γ (X.ev fr) x)(hi:Sim w γ (I.ev fr) i)
  (h:evP fr (.idxa len (P.cellsOf e) (isAg P e) X I)=some z):∃ v,(Instr.index t x i).run P w=.ok v w∧Sim w γ z v:=by
 simp only[evP] at h
 generalize X.ev fr=XX at *
 cases XX <;> try (cases h; done)
 obtain ⟨k,hk,h⟩:=Option.bind_eq_some_iff.1 h
 obtain ⟨ki,zi,rfl,h0,h1,rfl,h2⟩:=index_inv hi hk
 obtain ⟨cs,rfl,hz,hs⟩:=agg_inv hx
 obtain ⟨v,hv,hsv⟩:=part_run (P:=P) hz hs he h
 exact⟨v,by simp [Instr.index,asIntOf,run_underlying ht,h0,h1,run_sizeOf he,hv],hsv⟩
theorem ext_run{X:AX}{z:AV}{x:Value}(hx:Sim w γ (X.ev fr) x){i:Nat}(h:evP fr (.ext X i)=some z):∃ v,(Instr.extract x i).run P w=.ok v w∧Sim w γ z v:=by
 simp only[evP] at h
 generalize X.ev fr=XX at *
 cases XX <;> try (cases h; done)
 obtain ⟨cs,rfl,hz,hs⟩:=tup_inv hx
 dsimp only at h
 have hl:=(List.getElem?_eq_some_iff.1 h).1
 have hc:cs[i]?=some (cs[i]'(by omega)):=Array.getElem?_eq_getElem (by omega)
 exact⟨_,by simp only[Instr.extract,hc]; rfl,hs i z _ h hc⟩
theorem lenS_run{t:TypeId}{X:AX}{z:AV}{x:Value}(ht:P.underlying t=some .string)(hx:Sim w γ (X.ev fr) x)(ty:TypeId)
  (h:evP fr (.lenS X)=some z):∃ v,(Builtin.len_ #[t] ty #[x]).run P w=.ok v w∧Sim w γ z v:=by
 simp only[evP] at h
 generalize X.ev fr=XX at *
 cases XX <;> try (cases h; done)
 cases str_inv hx
 cases h
 exact⟨.int .i64 _,by simp [Builtin.len_,run_underlying ht,goInt,size_mk],.int _ _⟩
theorem len_run{t e:TypeId}{X:AX}{z:AV}{x:Value}(ht:P.underlying t=some (.slice e))(hx:Sim w γ (X.ev fr) x)(ty:TypeId)
  (h:evP fr (.len X)=some z):∃ v,(Builtin.len_ #[t] ty #[x]).run P w=.ok v w∧Sim w γ z v:=by
 simp only[evP] at h
 generalize X.ev fr=XX at *
 cases XX <;> try (cases h; done)
 ·rename_i sz es full
  cases h
  cases hx with
  | sl0=>exact⟨.int .i64 0,by simp [Builtin.len_,run_underlying ht,goInt],.int _ _⟩
  | sl _ _ _ b off cap U hp hc hf hb him hz hcell hs=>exact⟨.int .i64 es.length,by simp [Builtin.len_,run_underlying ht,goInt],.int _ _⟩
 ·rename_i id sz off len
  cases h
  cases hx with
  | vec _ _ _ _ A cap ge hm hz hl hc hN hA=>exact⟨.int .i64 len,by simp [Builtin.len_,run_underlying ht,goInt],.int _ _⟩
variable {a:Act}
theorem slices_run{t:TypeId}(ht:P.underlying t=some .string){X:AX}{lo hi:Option Operand}{z:AV}{x:Value}(hf:FrR w γ fr a.tmps)(hx:Sim w γ (X.ev fr) x)
  (he:evP fr (.slices X (lo.map cx) (hi.map cx))=some z):∃ v,(Instr.sliceAt t x (lo.map a.eval) (hi.map a.eval) none).run P w=.ok v w∧Sim w γ z v:=by
 simp only[evP] at he
 generalize X.ev fr=XX at *
 cases XX <;> try (cases he; done)
 rename_i s
 cases str_inv hx
 obtain ⟨hn,h1,he⟩:=Option.bind_eq_some_iff.1 he
 obtain ⟨ln,h2,he⟩:=Option.map_eq_some_iff.1 he
 subst he
 refine⟨.string ((ByteArray.mk s.toArray).extract ln hn),?_,?_⟩
 ·have e:(Instr.sliceBounds false s.length s.length (lo.map a.eval) (hi.map a.eval) none).run P w=.ok (ln,hn,s.length) w:=by
   unfold Instr.sliceBounds
   cases hi with
   | none =>
    simp [boundO] at h1
    subst h1
    cases lo with
    | none=>simp [boundO] at h2; subst h2; simp
    | some y =>
     have:=(bound_le (cx_sim hf y) h2 (Nat.le_refl _) .sliceB (P:=P)).1
     simp [this]
   | some y' =>
    have h1':=(bound_le (cx_sim hf y') h1 (Nat.le_refl _) .sliceAlen (P:=P)).1
    cases lo with
    | none=>simp [boundO] at h2; subst h2; simp [h1']
    | some y =>
     have:=(bound_le (cx_sim hf y) h2 (Nat.le_refl _) .sliceB (P:=P)).1
     simp [this,h1']
  simp [Instr.sliceAt,Instr.slice,run_underlying ht,size_mk,e]
 ·have e:(ByteArray.mk s.toArray).extract ln hn=ByteArray.mk ((s.take hn).drop ln).toArray:=by
   apply ByteArray.ext
   simp [List.drop_take]
  rw [e]
  exact .str _
theorem sl_cut{sz:Nat}{es:List AV}{full full':Bool}{A:Option Addr}{len cap l h m:Nat}(hx:Sim w γ (.sl sz es full) (.slice A len cap))(h1:l≤h)(h2:h≤es.length)(h3:h≤m)(hfull:full'=true→m=h) :
  Sim w γ (.sl sz ((es.take h).drop l) full') (.slice (if m=l then A else A.map (·.add (l * sz))) (h - l) (m - l)):=by
 by_cases hl:l=h
 ·subst hl
  have e:(es.take l).drop l=[]:=List.drop_eq_nil_of_le (by simp; omega)
  rw [e,Nat.sub_self]
  exact .sl0 _ _ _ _ (fun hf=>by have:=hfull hf; omega)
 ·have hm:m≠l:=by omega
  rw [if_neg hm]
  cases hx with
  | sl0=>simp at h2; omega
  | sl _ _ _ b off cap U hp hc hf hb him hz hcell hs =>
   have hlen:((es.take h).drop l).length=h - l:=by simp; omega
   have key:∀(i:Nat) (x:AV),((es.take h).drop l)[i]?=some x→es[l+i]?=some x:=by
    intro i x hi
    rw [List.getElem?_drop,List.getElem?_take] at hi
    split at hi
    ·exact hi
    ·cases hi
   simp only[Option.map_some,Addr.add_lit]
   rw [← hlen]
   refine .sl sz _ full' b (off+l * sz) (m - l) (fun i j=>U (l+i) j) (by omega) (by omega) (fun hf=>by have:=hfull hf; omega) hb him ?_ ?_ ?_
   ·intro x hx
    obtain ⟨i,hi⟩:=List.mem_iff_getElem?.1 hx
    exact hz x (List.mem_of_getElem? (key i x hi))
   ·intro i x j y hi hj
    have:=hcell (l+i) x j y (key i x hi) hj
    rw [Nat.add_mul] at this
    rw [show off+l * sz+i * sz+j=off +(l * sz+i * sz)+j by omega]
    exact this
   ·intro i x j y hi hj
    exact hs (l+i) x j y (key i x hi) hj
theorem vec_cut0{id sz n:Nat}{A:Option Addr}{cap l h:Nat}(hx:Sim w γ (.vec id sz 0 n) (.slice A n cap))(h1:l≤h)(h2:h≤cap) :
  Sim w γ (.vec id sz l (h - l)) (.slice (if cap=l then A else A.map (·.add (l * sz))) (h - l) (cap - l)):=by
 cases hx with
 | vec _ _ _ _ A cap ge hm hz hl hc hN hA =>
  refine .vec id sz l (h - l) _ (cap - l) ge hm hz (by omega) (by omega) hN (fun g hg ho=>?_)
  by_cases hcl:cap=l
  ·rw [if_pos hcl]
   have h00:l=0:=by omega
   subst h00
   exact hA g hg (.inr rfl)
  ·rw [if_neg hcl,hA g hg (.inr rfl)]
   simp only[Option.map_some,Addr.add_lit,Nat.zero_mul,Nat.zero_add]
theorem vec_cut{id sz off n:Nat}{A:Option Addr}{cap l h:Nat}(hx:Sim w γ (.vec id sz off n) (.slice A n cap))(h1:l≤h)(h2:h≤n) :
  Sim w γ (.vec id sz (off+l) (h - l)) (.slice (if cap=l then A else A.map (·.add (l * sz))) (h - l) (cap - l)):=by
 cases hx with
 | vec _ _ _ _ A cap ge hm hz hl hc hN hA =>
  refine .vec id sz (off+l) (h - l) _ (cap - l) ge hm hz (by omega) (by omega) hN (fun g hg ho=>?_)
  by_cases hcl:cap=l
  ·rw [if_pos hcl]
   have:h - l=0:=by omega
   have h0:off=0:=by omega
   have h00:l=0:=by omega
   subst h0; subst h00
   exact hA g hg (.inr rfl)
  ·rw [if_neg hcl,hA g hg (by omega)]
   simp only[Option.map_some,Addr.add_lit]
   rw [Nat.add_mul]
end
end Go.Pv
/-
 The machine of plain values,4: the other operations that look at no memory; all of them together.
-/
namespace Go.Pv
section
variable {P:Program} {w:World} {γ:Gh} {fr:Fr} {a:Act}
theorem slicev_run{t el:TypeId}(ht:P.underlying t=some (.slice el))(hok:tyOk P el=true){X:AX}{lo hi mx:Option Operand}{z:AV}{x:Value}(hf:FrR w γ fr a.tmps)(hx:Sim w γ (X.ev fr) x)
  (he:evP fr (.slicev (P.cellsOf el) X (lo.map cx) (hi.map cx) (mx.map cx))=some z):∃ v,(Instr.sliceAt t x (lo.map a.eval) (hi.map a.eval) (mx.map a.eval)).run P w=.ok v w∧Sim w γ z v:=by
 simp only[evP] at he
 generalize X.ev fr=XX at *
 cases XX <;> try (cases he; done)
 ·rename_i sz es full
  dsimp only at he
  split at he
  case isFalse=>cases he
  rename_i hsz
  have hxx:∃ A len cap,x=.slice A len cap∧len=es.length∧es.length≤cap ∧(full=true→cap=es.length):=by
   cases hx with
   | sl0 sz full A cap h=>exact⟨A,0,cap,rfl,rfl,Nat.zero_le _,h⟩
   | sl _ _ _ b off cap U hp hc hf=>exact⟨_,_,cap,rfl,rfl,hc,hf⟩
  obtain ⟨A,len,cap,rfl,rfl,hcap,hfull⟩:=hxx
  have fin:∀ l h m full',l≤h→h≤es.length→h≤m →(full'=true→m=h) →
    (Instr.sliceBounds true es.length cap (lo.map a.eval) (hi.map a.eval) (mx.map a.eval)).run P w=.ok (l,h,m) w →
    ∃ v,(Instr.sliceAt t (.slice A es.length cap) (lo.map a.eval) (hi.map a.eval) (mx.map a.eval)).run P w=.ok v w∧Sim w γ (.sl sz ((es.take h).drop l) full') v:=by
   intro l h m full' h1 h2 h3 h4 e
   refine⟨.slice (if m=l then A else A.map (·.add (l * P.cellsOf el))) (h - l) (m - l),?_,?_⟩
   ·simp [Instr.sliceAt,Instr.slice,run_underlying ht,e,run_sizeOf hok]
   ·rcases hsz with hsz | hsz
    ·rw [hsz]; exact sl_cut hx h1 h2 h3 h4
    ·subst hsz
     have e1:h=0:=by simpa using h2
     subst e1
     have e2:l=0:=by omega
     subst e2
     simp only[List.take_nil,List.drop_nil,Nat.sub_zero]
     exact .sl0 _ _ _ _ (fun hh=>h4 hh)
  cases mx with
  | none =>
   simp only[Option.map_none] at he ⊢
   obtain ⟨hn,h1,he⟩:=Option.bind_eq_some_iff.1 he
   obtain ⟨ln,h2,he⟩:=Option.map_eq_some_iff.1 he
   subst he
   have hfin:∀ h',ln≤hn→hn≤es.length→_:=fun(_:True) h1 h2=>fin ln hn cap (full && decide (hn=es.length)) h1 h2 (by omega) (fun hh=>by simp at hh; rw [hfull hh.1,hh.2])
   have e:(Instr.sliceBounds true es.length cap (lo.map a.eval) (hi.map a.eval) none).run P w=.ok (ln,hn,cap) w∧ln≤hn∧hn≤es.length:=by
    unfold Instr.sliceBounds
    cases hi with
    | none =>
     simp [boundO] at h1
     subst h1
     cases lo with
     | none=>simp [boundO] at h2; subst h2; simp
     | some y =>
      have:=bound_le (cx_sim hf y) h2 (Nat.le_refl _) .sliceB (P:=P)
      simp [this.1,this.2]
    | some y' =>
     have h1':=bound_le (cx_sim hf y') h1 hcap .sliceAcap (P:=P)
     cases lo with
     | none=>simp [boundO] at h2; subst h2; simp [h1'.1,h1'.2]
     | some y =>
      have:=bound_le (cx_sim hf y) h2 (Nat.le_refl _) .sliceB (P:=P)
      simp [this.1,this.2,h1'.1,h1'.2]
   exact hfin trivial e.2.1 e.2.2 e.1
  | some y0 =>
   simp only[Option.map_some] at he ⊢
   obtain ⟨m,h0,he⟩:=Option.bind_eq_some_iff.1 he
   obtain ⟨hn,h1,he⟩:=Option.bind_eq_some_iff.1 he
   obtain ⟨ln,h2,he⟩:=Option.map_eq_some_iff.1 he
   subst he
   have h0':=bound_le (cx_sim hf y0) h0 hcap .slice3Acap (P:=P)
   cases hi with
   | none=>simp at h1
   | some y' =>
    simp only[Option.map_some,Option.bind_some] at h1
    have h1':=bound_le (cx_sim hf y') h1 (Nat.le_refl _) .slice3B (P:=P)
    have e:(Instr.sliceBounds true es.length cap (lo.map a.eval) (some (a.eval y')) (some (a.eval y0))).run P w=.ok (ln,hn,m) w∧ln≤hn:=by
     unfold Instr.sliceBounds
     cases lo with
     | none=>simp [boundO] at h2; subst h2; simp [h0'.1,h1'.1]
     | some y =>
      have:=bound_le (cx_sim hf y) h2 (Nat.le_refl _) .slice3C (P:=P)
      simp [this.1,this.2,h1'.1,h0'.1]
    exact fin ln hn m (decide (m=hn)) e.2 (by omega) h1'.2 (fun hh=>by simpa using hh) e.1
 ·rename_i id sz off len
  dsimp only at he
  split at he
  case isFalse=>cases he
  rename_i hsz
  have hxx:∃ A cap,x=.slice A len cap∧len≤cap:=by
   cases hx with
   | vec _ _ _ _ A cap ge hm hz hl hc hN hA=>exact⟨A,cap,rfl,by omega⟩
  obtain ⟨A,cap,rfl,hcap⟩:=hxx
  cases mx with
  | some y0 =>
   simp only[Option.map_some] at he ⊢
   obtain ⟨m,h0,he⟩:=Option.bind_eq_some_iff.1 he
   obtain ⟨hn,h1,he⟩:=Option.bind_eq_some_iff.1 he
   obtain ⟨ln,h2,he⟩:=Option.map_eq_some_iff.1 he
   subst he
   have h0':=bound_le (cx_sim hf y0) h0 hcap .slice3Acap (P:=P)
   cases hi with
   | none=>simp at h1
   | some y' =>
    simp only[Option.map_some,Option.bind_some] at h1
    have h1':=bound_le (cx_sim hf y') h1 (Nat.le_refl _) .slice3B (P:=P)
    have e:(Instr.sliceBounds true len cap (lo.map a.eval) (some (a.eval y')) (some (a.eval y0))).run P w=.ok (ln,hn,m) w∧ln≤hn:=by
     unfold Instr.sliceBounds
     cases lo with
     | none=>simp [boundO] at h2; subst h2; simp [h0'.1,h1'.1]
     | some y =>
      have:=bound_le (cx_sim hf y) h2 (Nat.le_refl _) .slice3C (P:=P)
      simp [this.1,this.2,h1'.1,h0'.1]
    refine⟨.slice (if m=ln then A else A.map (·.add (ln * P.cellsOf el))) (hn - ln) (m - ln),?_,.undef _⟩
    simp [Instr.sliceAt,Instr.slice,run_underlying ht,e.1,run_sizeOf hok]
  | none =>
  simp only[Option.map_none] at he ⊢
  obtain ⟨hn,h1,he⟩:=Option.bind_eq_some_iff.1 he
  obtain ⟨ln,h2,he⟩:=Option.map_eq_some_iff.1 he
  subst he
  have e:(Instr.sliceBounds true len cap (lo.map a.eval) (hi.map a.eval) none).run P w=.ok (ln,hn,cap) w∧ln≤hn∧hn≤len:=by
   unfold Instr.sliceBounds
   cases hi with
   | none =>
    simp [boundO] at h1
    subst h1
    cases lo with
    | none=>simp [boundO] at h2; subst h2; simp
    | some y =>
     have:=bound_le (cx_sim hf y) h2 (Nat.le_refl _) .sliceB (P:=P)
     simp [this.1,this.2]
   | some y' =>
    have h1':=bound_le (cx_sim hf y') h1 hcap .sliceAcap (P:=P)
    cases lo with
    | none=>simp [boundO] at h2; subst h2; simp [h1'.1,h1'.2]
    | some y =>
     have:=bound_le (cx_sim hf y) h2 (Nat.le_refl _) .sliceB (P:=P)
     simp [this.1,this.2,h1'.1,h1'.2]
  refine⟨.slice (if cap=ln then A else A.map (·.add (ln * P.cellsOf el))) (hn - ln) (cap - ln),?_,?_⟩
  ·simp [Instr.sliceAt,Instr.slice,run_underlying ht,e.1,run_sizeOf hok]
  ·rw [hsz]; exact vec_cut hx e.2.1 e.2.2
theorem minmax_run{X Y:AX}{mx:Bool}{z:AV}{x y:Value}(hx:Sim w γ (X.ev fr) x)(hy:Sim w γ (Y.ev fr) y)(ts:Array TypeId)(ty:TypeId)(h:evP fr (.minmax mx X Y)=some z) :
  ∃ v,(if mx then Builtin.max_ ts ty #[x,y] else Builtin.min_ ts ty #[x,y]).run P w=.ok v w∧Sim w γ z v:=by
 simp only[evP] at h
 generalize X.ev fr=XX at *
 generalize Y.ev fr=YY at *
 cases XX <;> try (cases h; done)
 cases YY <;> try (cases h; done)
 rename_i k n k' n'
 dsimp only at h
 split at h
 case isFalse=>cases h
 rename_i hk
 subst hk
 cases h
 cases int_inv hx
 cases int_inv hy
 cases mx
 ·refine⟨.int k (if n' < n then n' else n),by simp [Builtin.min_,Builtin.min2],?_⟩
  have e:(if n' < n then n' else n)=min n n':=by split <;> omega
  rw [e]; exact .int _ _
 ·refine⟨.int k (if n < n' then n' else n),by simp [Builtin.max_,Builtin.max2],?_⟩
  have e:(if n < n' then n' else n)=max n n':=by split <;> omega
  rw [e]; exact .int _ _
theorem nilck_run{X:AX}{z:AV}{x:Value}(hx:Sim w γ (X.ev fr) x)(h:evP fr (.nilck X)=some z) :
  z=X.ev fr ∧((∃ b,x=.pointer (some b))∨∃ f fs cs,x=.func (.func f) fs cs):=by
 simp only[evP] at h
 generalize X.ev fr=XX at *
 cases XX <;> try (cases h; done)
 ·cases h; cases hx with | eptr=>exact⟨rfl,.inl ⟨_,rfl⟩⟩
 ·cases h; cases hx with | rptr=>exact⟨rfl,.inl ⟨_,rfl⟩⟩
 ·cases h; cases hx with | fn=>exact⟨rfl,.inr ⟨_,_,_,rfl⟩⟩
theorem eq_nil_run{t e:TypeId}(ht:P.underlying t=some (.slice e))(A:Option Addr)(n c:Nat)(neg:Bool) :
  (binOp (if neg then .neq else .eql) t (.slice A n c) (.slice none 0 0)).run P w=.ok (.bool (if neg then A.isSome else A.isNone)) w:=by
 have h:∀ d,(Op.equalIn (d+1) t (.slice A n c) (.slice none 0 0)).run P w=.ok A.isNone w:=by
  intro d
  cases A <;> simp [Op.equalIn,run_underlying ht]
 cases neg
 ·simp only[Bool.false_eq_true,if_false,binOp]
  simp [Op.equal,Op.maxDepth,h 9999]
 ·simp only[if_true,binOp]
  simp [Op.equal,Op.maxDepth,h 9999]
  try (cases A <;> rfl)
theorem isnil_run{t e:TypeId}(ht:P.underlying t=some (.slice e)){X:AX}{neg:Bool}{z:AV}{x:Value}(hx:Sim w γ (X.ev fr) x)(h:evP fr (.isnil neg X)=some z) :
  (∃ v,(binOp (if neg then .neq else .eql) t x (.slice none 0 0)).run P w=.ok v w∧Sim w γ z v)∧∃ A n c,x=.slice A n c:=by
 simp only[evP] at h
 generalize X.ev fr=XX at *
 cases XX <;> try (cases h; done)
 ·rename_i sz es full
  cases hx with
  | sl0 sz full A cap hc =>
   cases h
   exact⟨⟨_,eq_nil_run ht A 0 cap neg,.anyb _⟩,_,_,_,rfl⟩
  | sl _ _ _ b off cap U hp hc hf hb him hz hcell hs =>
   cases es with
   | nil=>simp at hp
   | cons y ys =>
    cases h
    refine⟨⟨_,eq_nil_run ht _ _ cap neg,?_⟩,_,_,_,rfl⟩
    cases neg <;> exact .bool _
 ·rename_i id sz off len
  cases hx with
  | vec _ _ _ _ A cap ge hm hz hl hc hN hA =>
   refine⟨⟨_,eq_nil_run ht A len cap neg,?_⟩,_,_,_,rfl⟩
   dsimp only at h
   split at h
   ·rename_i hlen
    cases h
    cases hg:ge.blk with
    | none=>have:=hN hg; omega
    | some g =>
     rw [hA g hg (.inl hlen)]
     cases neg <;> exact .bool _
   ·cases h; exact .anyb _
theorem basic_inv{t:TypeId}{k:Nat}(h:basicT P t=some k):(k=0∧∃ kd,P.underlying t=some (.int kd)) ∨(k=1∧P.underlying t=some .string) ∨(k=2∧P.underlying t=some .bool):=by
 unfold basicT at h
 split at h
 ·cases h; exact .inl ⟨rfl,_,by assumption⟩
 ·cases h; exact .inr (.inl ⟨rfl,by assumption⟩)
 ·cases h; exact .inr (.inr ⟨rfl,by assumption⟩)
 ·cases h
theorem part_basic{t:TypeId}{k:Nat}(h:basicT P t=some k){cs:Array Value}{i:Nat}{v:Value}(hv:cs[i]?=some v):(part t cs i).run P w=.ok v w:=by
 have hnot:(Go.isAgg t).run P w=.ok false w:=by
  rcases basic_inv h with ⟨_,kd,hk⟩ | ⟨_,hk⟩ | ⟨_,hk⟩ <;> simp [Go.isAgg,run_underlying hk]
 simp [part,hnot,hv]
theorem eqFields_run(d:Nat){xs ys:Array Value}:∀(fs:List Field) (i:Nat) (XS YS:List AV) (b:Bool),plainL P i fs=true →
  (∀(j:Nat) (X:AV),XS[j]?=some X→∃ v,xs[i+j]?=some v∧Sim w γ X v) →(∀(j:Nat) (X:AV),YS[j]?=some X→∃ v,ys[i+j]?=some v∧Sim w γ X v) →
  eqCells (fs.map fun f=>(basicT P f.type).getD 3) XS YS=some b →(Op.eqFields (d+1) xs ys fs).run P w=.ok b w
 | [],i,XS,YS,b,_,_,_,h=>by
  cases XS <;> cases YS <;> simp [eqCells] at h
  subst h
  rfl
 | f :: fs,i,XS,YS,b,hp,sX,sY,h=>by
  simp only[plainL,Bool.and_eq_true,bne_iff_ne,ne_eq,beq_iff_eq] at hp
  obtain ⟨h1,h2,h3,h4⟩:=hp
  obtain ⟨kd,h3⟩:=Option.isSome_iff_exists.1 h3
  simp only[List.map_cons,h3,Option.getD_some] at h
  match XS,YS with
  | [],_=>rcases basic_inv h3 with ⟨rfl,_⟩ | ⟨rfl,_⟩ | ⟨rfl,_⟩ <;> simp [eqCells] at h
  | X :: XS,[]=>rcases basic_inv h3 with ⟨rfl,_⟩ | ⟨rfl,_⟩ | ⟨rfl,_⟩ <;> cases X <;> simp [eqCells] at h
  | X :: XS,Y :: YS =>
  obtain ⟨vx,hvx,hsx⟩:=sX 0 X rfl
  obtain ⟨vy,hvy,hsy⟩:=sY 0 Y rfl
  have ih:=fun b h=>eqFields_run d fs (i+1) XS YS b h4
   (fun j Z hj=>by have:=sX (j+1) Z (by simpa using hj); rwa [show i+1+j=i +(j+1) by omega])
   (fun j Z hj=>by have:=sY (j+1) Z (by simpa using hj); rwa [show i+1+j=i +(j+1) by omega]) h
  have px:=part_basic (P:=P) (w:=w) h3 (cs:=xs) (i:=i) hvx
  have py:=part_basic (P:=P) (w:=w) h3 (cs:=ys) (i:=i) hvy
  simp only[Op.eqFields,h1,ne_eq,not_false_eq_true,if_true,Sem.run_bind,h2,px,py,Result.andThen_ok]
  have key:∀(e:Bool),(Op.equalIn (d+1) f.type vx vy).run P w=.ok e w→∀ c,eqCells (fs.map fun f=>(basicT P f.type).getD 3) XS YS=some c→b =(e && c)→
    ((Op.equalIn (d+1) f.type vx vy).run P w).andThen (fun r w'=>((if (!r)=true then pure false else Op.eqFields (d+1) xs ys fs:Sem Bool)).run P w')=.ok b w:=by
   intro e he c hc hb
   rw [he,Result.andThen_ok]
   cases e
   ·simp [hb]
   ·simp only[Bool.not_true,Bool.false_eq_true,if_false]
    rw [ih c hc,hb,Bool.true_and]
  rcases basic_inv h3 with ⟨rfl,k,hk⟩ | ⟨rfl,hk⟩ | ⟨rfl,hk⟩
  ·cases X <;> try (simp [eqCells] at h; done)
   cases Y <;> try (simp [eqCells] at h; done)
   simp only[eqCells] at h
   split at h
   case isFalse=>cases h
   rename_i hkk
   subst hkk
   obtain ⟨c,hc,hb⟩:=Option.map_eq_some_iff.1 h
   cases int_inv hsx; cases int_inv hsy
   exact key _ (run_equalIn_int w d f.type _ _ _ _ hk) c hc hb.symm
  ·cases X <;> try (simp [eqCells] at h; done)
   cases Y <;> try (simp [eqCells] at h; done)
   simp only[eqCells] at h
   obtain ⟨c,hc,hb⟩:=Option.map_eq_some_iff.1 h
   cases str_inv hsx; cases str_inv hsy
   refine key _ ((run_equalIn_string w d f.type _ _ hk).trans ?_) c hc hb.symm
   simp
  ·cases X <;> try (simp [eqCells] at h; done)
   cases Y <;> try (simp [eqCells] at h; done)
   simp only[eqCells] at h
   obtain ⟨c,hc,hb⟩:=Option.map_eq_some_iff.1 h
   cases bool_inv hsx; cases bool_inv hsy
   exact key _ (run_equalIn_bool' w d f.type _ _ hk) c hc hb.symm
theorem eqS_run{t:TypeId}{fs:Array Field}(ht:P.underlying t=some (.struct fs))(hp:plainS P t fs=true){X Y:AX}{neg:Bool}{z:AV}{x y:Value}(o1 o2:Operand)(hx:Sim w γ (X.ev fr) x)(hy:Sim w γ (Y.ev fr) y)
  (h:evP fr (.eqS neg (fs.toList.map fun f=>(basicT P f.type).getD 3) X Y)=some z) :
  ∃ v,(do eqGuard (if neg then .neq else .eql) t o1 o2 x y; binOp (if neg then .neq else .eql) t x y:Sem Value).run P w=.ok v w∧Sim w γ z v:=by
 simp only[plainS,Bool.and_eq_true,Bool.not_eq_true'] at hp
 obtain ⟨p1,p2,p3⟩:=hp
 simp only[evP] at h
 generalize X.ev fr=XX at *
 generalize Y.ev fr=YY at *
 cases XX <;> try (cases h; done)
 cases YY <;> try (cases h; done)
 rename_i XS YS
 obtain ⟨b,hb,h⟩:=Option.map_eq_some_iff.1 h
 subst h
 obtain ⟨xs,rfl,lx,sx⟩:=agg_inv hx
 obtain ⟨ys,rfl,ly,sy⟩:=agg_inv hy
 have hfs:P.fieldsOf t=fs:=by simp [Program.fieldsOf,ht]
 have conv:∀ {Z:List AV} {zs:Array Value},Z.length=zs.size →(∀(i:Nat) (x:AV) (u:Value),Z[i]?=some x→zs[i]?=some u→Sim w γ x u) →
   ∀(j:Nat) (X:AV),Z[j]?=some X→∃ v,zs[0+j]?=some v∧Sim w γ X v:=by
  intro Z zs hl hs j X hj
  have hlt:=(List.getElem?_eq_some_iff.1 hj).1
  have hc:zs[j]?=some (zs[j]'(by omega)):=Array.getElem?_eq_getElem (by omega)
  exact⟨_,by rw [Nat.zero_add]; exact hc,hs j X _ hj hc⟩
 have he:=eqFields_run (P:=P) 9998 fs.toList 0 XS YS b p3 (conv lx sx) (conv ly sy) hb
 have hq:(Op.equalIn 10000 t (.agg xs) (.agg ys)).run P w=.ok b w:=(run_equalIn_struct w 9999 t xs ys (by rw [hfs]; exact ht) p1).trans (by rw [hfs]; exact he)
 cases neg
 ·refine⟨.bool b,?_,.bool _⟩
  simp only[Bool.false_eq_true,if_false,Sem.run_bind,run_eqGuard_agg w _ t o1 o2 xs ys p2,Result.andThen_ok,run_eql_struct,hq]
 ·refine⟨.bool (!b),?_,.bool _⟩
  simp only[if_true,Sem.run_bind,run_eqGuard_agg w _ t o1 o2 xs ys p2,Result.andThen_ok,run_neq_struct,hq]
end
end Go.Pv
/-
 The machine of plain values,5: structs put together; each operation that looks at no memory.
-/
namespace Go.Pv
section
variable {P:Program} {w:World} {γ:Gh} {fr:Fr} {a:Act}
theorem one_val{x:AV}{v:Value}(h:Sim w γ x v)(ho:x.one=true):v.oneCell'=true∧v.cells=#[v]:=by
 cases h <;> simp_all [AV.one,Value.oneCell',Value.cells]
 split at ho <;> simp_all
theorem ones_cells{x:AV}{v:Value}(h:Sim w γ x v)(ho:x.ones=true):v.cells.size=x.flat.length ∧
  ∀(j:Nat) (y:AV),x.flat[j]?=some y→∃ u,v.cells[j]?=some u∧Sim w γ y u∧u.oneCell'=true:=by
 unfold AV.ones at ho
 by_cases hx:∃ xs,x=.agg xs
 ·obtain ⟨xs,rfl⟩:=hx
  obtain ⟨cs,rfl,hz,hs⟩:=agg_inv h
  simp only[AV.flat] at ho ⊢
  refine⟨by simp [Value.cells,hz],fun j y hj=>?_⟩
  have hlt:=(List.getElem?_eq_some_iff.1 hj).1
  have hc:cs[j]?=some (cs[j]'(by omega)):=Array.getElem?_eq_getElem (by omega)
  have hsj:=hs j y _ hj hc
  exact⟨_,hc,hsj,(one_val hsj (List.all_eq_true.1 ho y (List.mem_of_getElem? hj))).1⟩
 ·have hf:x.flat=[x]:=by
   cases x <;> first | rfl | exact absurd ⟨_,rfl⟩ hx
  rw [hf] at ho ⊢
  simp only[List.all_cons,List.all_nil,Bool.and_true] at ho
  obtain ⟨h1,h2⟩:=one_val h ho
  refine⟨by rw [h2]; rfl,fun j y hj=>?_⟩
  match j with
  | 0=>simp at hj; subst hj; exact⟨v,by rw [h2]; rfl,h,h1⟩
  | j+1=>simp at hj
def CellsR(w:World)(γ:Gh)(xs:List AV)(cs:Array Value):Prop:=cs.size=xs.length∧∀(i:Nat) (x:AV),xs[i]?=some x→∃ u,cs[i]?=some u∧Sim w γ x u∧u.oneCell'=true
theorem foldl_set_get(off:Nat):∀(l:List Value) (s:Nat) (cs:Array Value),off+s+l.length≤cs.size →
  ((l.zipIdx s).foldl (fun cs p=>cs.setIfInBounds (off+p.2) p.1) cs).size=cs.size ∧
  ∀ i,((l.zipIdx s).foldl (fun cs p=>cs.setIfInBounds (off+p.2) p.1) cs)[i]?=if off+s≤i∧i < off+s+l.length then l[i - (off+s)]? else cs[i]?
 | [],s,cs,_=>⟨rfl,fun i=>by simp; omega⟩
 | x :: l,s,cs,h=>by
  simp only[List.zipIdx_cons,List.foldl_cons,List.length_cons] at h ⊢
  obtain ⟨h1,h2⟩:=foldl_set_get off l (s+1) (cs.setIfInBounds (off+s) x) (by simp; omega)
  refine⟨by rw [h1]; simp,fun i=>?_⟩
  rw [h2 i]
  by_cases hi:i=off+s
  ·subst hi
   rw [if_neg (by omega),if_pos (by omega)]
   simp [Array.getElem?_setIfInBounds]
   omega
  ·by_cases hr:off +(s+1)≤i∧i < off +(s+1)+l.length
   ·rw [if_pos hr,if_pos (by omega)]
    rw [show i - (off+s) =(i - (off +(s+1)))+1 by omega,List.getElem?_cons_succ]
   ·rw [if_neg hr,if_neg (by omega),Array.getElem?_setIfInBounds_ne (by omega)]
theorem foldl_set_arr(off:Nat)(v cs:Array Value)(h:off+v.size≤cs.size) :
  (v.zipIdx.foldl (fun cs p=>cs.setIfInBounds (off+p.2) p.1) cs).size=cs.size ∧
  ∀ i,(v.zipIdx.foldl (fun cs p=>cs.setIfInBounds (off+p.2) p.1) cs)[i]?=if off≤i∧i < off+v.size then v[i - off]? else cs[i]?:=by
 have:=foldl_set_get off v.toList 0 cs (by simpa using h)
 rw [← Array.foldl_toList,Array.toList_zipIdx]
 simpa using this
theorem fill_run(place:Nat→Option (Nat × Nat)):∀(ps:List (Nat × Value)) (qs:List (Nat × Nat × AV)) (xs:List AV) (cs:Array Value) (zs:List AV),
  ps.length=qs.length →(∀(i:Nat) (p:Nat × Value) (q:Nat × Nat × AV),ps[i]?=some p→qs[i]?=some q→place p.1=some (q.1,q.2.1)∧Sim w γ q.2.2 p.2) →
  CellsR w γ xs cs→buildC xs qs=some zs→∃ ds,Instr.fill place cs ps=some ds∧CellsR w γ zs ds
 | [],[],xs,cs,zs,_,_,hr,h=>by cases h; exact⟨cs,rfl,hr⟩
 | (i,v) :: ps,(off,n,V) :: qs,xs,cs,zs,hl,hp,hr,h=>by
  obtain ⟨hp0,hs⟩:=hp 0 _ _ rfl rfl
  dsimp only at hp0 hs
  simp only[buildC] at h
  split at h
  case isFalse=>cases h
  rename_i hc
  obtain ⟨ho,hn,hle⟩:=hc
  obtain ⟨hsz,hcell⟩:=ones_cells hs ho
  simp only[Instr.fill,hp0]
  have hcs0:=hr.1
  rw [if_neg (by simp only[Bool.or_eq_true,decide_eq_true_eq,not_or]; omega)]
  have hcs:=hr.1
  obtain ⟨f1,f2⟩:=foldl_set_arr off v.cells cs (by omega)
  refine fill_run place ps qs _ _ zs (by simpa using hl) (fun j p q h1 h2=>hp (j+1) p q (by simpa using h1) (by simpa using h2)) ⟨?_,?_⟩ h
  ·rw [f1,hr.1]; simp; omega
  ·intro j x hx
   rw [f2 j]
   have htk:(xs.take off).length=off:=by simp; omega
   by_cases h1:j < off
   ·rw [List.getElem?_append_left (by omega),List.getElem?_take,if_pos h1] at hx
    rw [if_neg (by omega)]
    exact hr.2 j x hx
   ·rw [List.getElem?_append_right (by omega),htk] at hx
    by_cases h2:j - off < V.flat.length
    ·rw [List.getElem?_append_left h2] at hx
     rw [if_pos (by omega)]
     exact hcell _ _ hx
    ·rw [List.getElem?_append_right (by omega),List.getElem?_drop] at hx
     rw [if_neg (by omega)]
     have:=hr.2 _ _ hx
     rwa [show off+n +(j - off - V.flat.length)=j by omega] at this
 | [],_ :: _,_,_,_,hl,_,_,_=>by simp at hl
 | _ :: _,[],_,_,_,hl,_,_,_=>by simp at hl
theorem places_run:∀(fs:List Field),(fs.all fun f=>tyOk P f.type)=true →(fs.mapM fun f=>Prod.mk f.offset <$> sizeOf f.type).run P w=.ok (fs.map fun f=>(f.offset,P.cellsOf f.type)) w
 | [],_=>rfl
 | f :: fs,h=>by
  simp only[List.all_cons,Bool.and_eq_true] at h
  simp [List.mapM_cons,run_sizeOf h.1,places_run fs h.2]
theorem ofVals(zs:List Value)(h:zs.all Value.oneCell'=true):CellsR w γ (zs.map ofVal) zs.toArray :=
 ⟨by simp,fun i x hx=>by
  rw [List.getElem?_map] at hx
  obtain ⟨v,hv,rfl⟩:=Option.map_eq_some_iff.1 hx
  exact⟨v,by simpa using hv,ofVal_sim w γ v,List.all_eq_true.1 h v (List.mem_of_getElem? hv)⟩⟩
theorem CellsR.agg{xs:List AV}{cs:Array Value}(h:CellsR w γ xs cs):Sim w γ (.agg xs) (.agg cs) :=
 .agg xs cs h.1.symm fun i x v hx hv=>by
  obtain ⟨u,hu,hs,_⟩:=h.2 i x hx
  rw [hv] at hu; cases hu; exact hs
theorem zero_run{t:TypeId}{z:Value}(h:zeroOf P t=some z):(zeroValue t).run P w=.ok z w:=by
 unfold zeroOf at h
 obtain ⟨i,hi,hz⟩:=Option.bind_eq_some_iff.1 h
 simp [zeroValue,typeInfo,hi,hz]
theorem oneV_eq(v:Value):oneV v=v.oneCell':=by cases v <;> rfl
theorem buildS_run{t:TypeId}{fs:Array Field}{z:Array Value}(ht:P.underlying t=some (.struct fs))(hz:zeroOf P t=some (.agg z))(hone:z.all oneV=true)(hok:(fs.all fun f=>tyOk P f.type)=true)
  (hf:FrR w γ fr a.tmps) {parts:Array (Nat × Operand)} (hin:(parts.all fun p=>decide (p.1 < fs.size))=true) {y:AV}
  (h:evP fr (.build (z.toList.map ofVal) (parts.toList.map fun p=>((fs.getD p.1 default).offset,P.cellsOf (fs.getD p.1 default).type,cx p.2)))=some y) :
  ∃ v,(Instr.build t (parts.map fun p=>(p.1,a.eval p.2))).run P w=.ok v w∧Sim w γ y v:=by
 simp only[evP] at h
 obtain ⟨zs,hzs,h⟩:=Option.map_eq_some_iff.1 h
 subst h
 rw [List.map_map] at hzs
 have hpl:=places_run (P:=P) (w:=w) fs.toList (by simpa using hok)
 have hone':z.toList.all Value.oneCell'=true:=by
  rw [List.all_eq_true]
  intro x hx
  rw [← oneV_eq]
  exact(Array.all_eq_true_iff_forall_mem.1 hone) x (by simpa using hx)
 obtain ⟨ds,hds,hr⟩:=fill_run (w:=w) (γ:=γ) (fun i=>(fs.map fun f=>(f.offset,P.cellsOf f.type))[i]?) (parts.toList.map fun p=>(p.1,a.eval p.2)) _ (z.toList.map ofVal) z zs (by simp) (by
  intro i p q h1 h2
  rw [List.getElem?_map] at h1 h2
  obtain ⟨p0,hp0,rfl⟩:=Option.map_eq_some_iff.1 h1
  rw [hp0] at h2
  simp only[Option.map_some,Option.some.injEq] at h2
  subst h2
  have hlt:p0.1 < fs.size:=by
   have:=(Array.all_eq_true_iff_forall_mem.1 hin) p0 (by simpa using List.mem_of_getElem? hp0)
   simpa using this
  refine⟨?_,cx_sim hf _⟩
  simp [Function.comp,hlt]) (by simpa using ofVals (w:=w) (γ:=γ) z.toList hone') hzs
 refine⟨.agg ds,?_,hr.agg⟩
 simp only[Instr.build,Sem.run_bind,zero_run hz,Result.andThen_ok,run_underlying ht,Value.cells]
 simp only[Array.mapM_eq_mapM_toList,bind_pure_comp,Sem.run_map,hpl,Result.andThen_ok]
 have e:(fun(x:Nat)=>(List.map (fun f=>(f.offset,P.cellsOf f.type)) fs.toList).toArray[x]?) =(fun(i:Nat)=>(fs.map fun f=>(f.offset,P.cellsOf f.type))[i]?):=by
  funext i; simp
 rw [e,Array.toList_map,hds]
 rfl
theorem buildA_run{t e:TypeId}{n:Nat}{z:Array Value}(ht:P.underlying t=some (.array n e))(hz:zeroOf P t=some (.agg z))(hone:z.all oneV=true)(hok:tyOk P e=true)
  (hf:FrR w γ fr a.tmps) {parts:Array (Nat × Operand)} {y:AV}
  (h:evP fr (.build (z.toList.map ofVal) (parts.toList.map fun p=>(p.1 * P.cellsOf e,P.cellsOf e,cx p.2)))=some y) :
  ∃ v,(Instr.build t (parts.map fun p=>(p.1,a.eval p.2))).run P w=.ok v w∧Sim w γ y v:=by
 simp only[evP] at h
 obtain ⟨zs,hzs,h⟩:=Option.map_eq_some_iff.1 h
 subst h
 rw [List.map_map] at hzs
 have hone':z.toList.all Value.oneCell'=true:=by
  rw [List.all_eq_true]
  intro x hx
  rw [← oneV_eq]
  exact(Array.all_eq_true_iff_forall_mem.1 hone) x (by simpa using hx)
 obtain ⟨ds,hds,hr⟩:=fill_run (w:=w) (γ:=γ) (fun i=>some (i * P.cellsOf e,P.cellsOf e)) (parts.toList.map fun p=>(p.1,a.eval p.2)) _ (z.toList.map ofVal) z zs (by simp) (by
  intro i p q h1 h2
  rw [List.getElem?_map] at h1 h2
  obtain ⟨p0,hp0,rfl⟩:=Option.map_eq_some_iff.1 h1
  rw [hp0] at h2
  simp only[Option.map_some,Option.some.injEq] at h2
  subst h2
  exact⟨rfl,cx_sim hf _⟩) (by simpa using ofVals (w:=w) (γ:=γ) z.toList hone') hzs
 refine⟨.agg ds,?_,hr.agg⟩
 simp only[Instr.build,Sem.run_bind,zero_run hz,Result.andThen_ok,run_underlying ht,Value.cells,run_sizeOf hok]
 rw [Array.toList_map,hds]
 rfl
theorem mkfn_sim{f:FuncId}{caps:Array Operand}(hl:f < 1000000)(hf:FrR w γ fr a.tmps):Sim w γ (.fn f ((caps.toList.map cx).map (·.ev fr))) (.func (.func f) #[] (caps.map a.eval)):=by
 refine .fn _ _ _ _ _ (.inl ⟨rfl,rfl,hl⟩) (by simp) fun i x v hx hv=>?_
 rw [Array.empty_append] at hv
 rw [List.map_map,List.getElem?_map] at hx
 obtain ⟨o,ho,rfl⟩:=Option.map_eq_some_iff.1 hx
 rw [Array.getElem?_map] at hv
 have:caps[i]?=some o:=by simpa using ho
 rw [this] at hv
 cases hv
 exact cx_sim hf o
theorem bound_sim{f:FuncId}{caps:Array Operand}(hf:FrR w γ fr a.tmps):Sim w γ (.fn (f+1000000) ((caps.toList.map cx).map (·.ev fr))) (.func (.func f) (caps.map a.eval) #[]):=by
 refine .fn _ _ _ _ _ (.inr ⟨rfl,rfl⟩) (by simp) fun i x v hx hv=>?_
 rw [Array.append_empty] at hv
 rw [List.map_map,List.getElem?_map] at hx
 obtain ⟨o,ho,rfl⟩:=Option.map_eq_some_iff.1 hx
 rw [Array.getElem?_map] at hv
 have:caps[i]?=some o:=by simpa using ho
 rw [this] at hv
 cases hv
 exact cx_sim hf o
end
end Go.Pv
/-
 The machine of plain values,6: each operation that looks at no memory does in the model what it does in the machine.
-/
namespace Go.Pv
section
variable {P:Program} {w:World} {γ:Gh} {fr:Fr} {a:Act}
theorem bin2_shape{op:BinOp}{X Y z:AV}{x:Value}(hx:Sim w γ X x)(h:bin2 op X Y=some z):(∀ cs,x≠.agg cs)∧x≠.nilIface:=by
 unfold bin2 at h
 split at h
 ·cases int_inv hx; simp
 ·cases str_inv hx; simp
 ·cases h
theorem binB2_shape{op:BinOp}{X Y z:AV}{x:Value}(hx:Sim w γ X x)(h:binB2 op X Y=some z):(∀ cs,x≠.agg cs)∧x≠.nilIface:=by
 unfold binB2 at h
 split at h
 ·cases bool_inv hx; simp
 ·cases h
theorem guard_then{op:BinOp}{t:TypeId}{o1 o2:Operand}{x y:Value}{z:AV}(hs:(∀ cs,x≠.agg cs)∧x≠.nilIface)(h:∃ v,(binOp op t x y).run P w=.ok v w∧Sim w γ z v) :
  ∃ v,(do eqGuard op t o1 o2 x y; binOp op t x y:Sem Value).run P w=.ok v w∧Sim w γ z v:=by
 obtain ⟨v,hv,h2⟩:=h
 exact⟨v,by simp [eqGuard_run op t o1 o2 x y hs.1 hs.2,hv],h2⟩
theorem idxb_run{f:FuncId}(hi:isIdx P f=true){X Y:AX}{z:AV}{x y:Value}(hx:Sim w γ (X.ev fr) x)(hy:Sim w γ (Y.ev fr) y)(h:evP fr (.idxb X Y)=some z) :
  ∃ v,(callFunc f #[x,y]).run P w=.ok (.value v) w∧Sim w γ z v:=by
 unfold isIdx at hi
 split at hi
 case h_2=>cases hi
 rename_i fn hfn
 simp only[Bool.and_eq_true,beq_iff_eq] at hi
 obtain ⟨hb,ho,hn⟩:=hi
 have h1:Extern.find fn=some Extern.BytealgIndexByte.indexByte:=by
  unfold Extern.find
  simp only[hn]
  rfl
 have h2:Extern.findNext fn=none:=by
  unfold Extern.findNext
  simp only[hn,ho]
  rfl
 have hrun:=run_callFunc_extern (P:=P) hfn (by rw [hn]; decide) hb h2 h1
 simp only[evP] at h
 generalize X.ev fr=XX at *
 generalize Y.ev fr=YY at *
 cases XX <;> try (cases h; done)
 cases YY <;> try (cases h; done)
 rename_i s k n
 cases k <;> try (cases h; done)
 cases h
 cases str_inv hx
 cases int_inv hy
 refine⟨_,?_,.int _ _⟩
 rw [hrun,Lib.run_indexByteString]
 rfl
theorem evP_sound(hf:FrR w γ fr a.tmps){o:Oper}{d:Bool}{r:Option Nat}{p:OpP}(hc:compOp P d r o=.p p){x:AV}(hx:evP fr p=some x) :
  ∃ v,(execOp a.eval o).run P w=.ok (.value v) w∧Sim w γ x v:=by
 obtain ⟨dst,op,ty,pos,after,guard⟩:=o
 have S:=fun y=>cx_sim hf y (γ:=γ)
 have lift:∀ {s:Sem Value} {z:AV},(∃ v,s.run P w=.ok v w∧Sim w γ z v)→∃ v,(do pure (.value (← s)):Sem Next).run P w=.ok (.value v) w∧Sim w γ z v:=by
  rintro s z ⟨v,hv,hs⟩
  exact⟨v,by simp [hv],hs⟩
 cases op with
 | move y=>cases hc; simp only[evP] at hx; cases hx; exact⟨_,rfl,S y⟩
 | assign y=>cases hc; simp only[evP] at hx; cases hx; exact⟨_,rfl,S y⟩
 | pick c y z=>cases hc; exact pick_run (S c) (S y) (S z) hx
 | alloc t=>simp only[compOp] at hc; repeat' (first | (cases hc; done) | split at hc)
 | box t y=>cases hc
 | build t parts =>
  simp only[compOp] at hc
  split at hc
  ·rename_i fs z ht hz
   split at hc
   ·cases hc
   ·rename_i hcond
    cases hc
    simp at hcond
    exact lift (buildS_run ht hz (by simpa using hcond.2) (by simpa using hcond.1.1) hf (by simpa using hcond.1.2) hx)
  ·rename_i n e z ht hz
   split at hc
   ·cases hc
   ·rename_i hcond
    cases hc
    simp at hcond
    exact lift (buildA_run ht hz (by simpa using hcond.2) hcond.1 hf hx)
  ·cases hc
 | buildSlice t n parts=>simp only[compOp] at hc; repeat (split at hc <;> try cases hc)
 | load t y=>simp only[compOp] at hc; split at hc <;> cases hc
 | store t y z=>simp only[compOp] at hc; split at hc <;> cases hc
 | nilCheck y =>
  cases hc
  obtain ⟨rfl,h⟩:=nilck_run (S y) hx
  refine⟨a.eval y,?_,S y⟩
  rcases h with ⟨b,hb⟩ | ⟨f,fs,cs,hb⟩ <;> rw [show(execOp a.eval ⟨dst,.nilCheck y,ty,pos,after,guard⟩)=_ from rfl] <;> simp only[execOp,hb] <;> rfl
 | binOp op t y z yt =>
  simp only[compOp] at hc
  split at hc
  ·cases hc
   exact lift (guard_then (bin2_shape (S y) hx) (bin_run (S y) (S z) hx t))
  ·cases hc
   exact lift (guard_then (bin2_shape (S y) hx) (bin_run (S y) (S z) hx t))
  ·rename_i ht
   cases hc
   exact lift (guard_then (binB2_shape (S y) hx) (binB_run (S y) (S z) hx t ht))
  ·rename_i e ht
   split at hc
   ·cases hc
    obtain ⟨h1,A,n,c,h2⟩:=isnil_run (P:=P) ht (S y) hx
    exact lift (guard_then (by rw [h2]; simp) h1)
   ·cases hc
    obtain ⟨h1,A,n,c,h2⟩:=isnil_run (P:=P) ht (S y) hx
    exact lift (guard_then (by rw [h2]; simp) h1)
   ·cases hc
  ·rename_i fs ht
   split at hc
   ·rename_i hp
    split at hc
    ·cases hc
     exact lift (eqS_run ht hp (neg:=false) y z (S y) (S z) hx)
    ·cases hc
     exact lift (eqS_run ht hp (neg:=true) y z (S y) (S z) hx)
    ·cases hc
   ·cases hc
  ·cases hc
 | unOp op t y=>cases hc; exact lift (un_run (S y) hx)
 | convert s d y =>
  simp only[compOp] at hc
  split at hc
  ·rename_i k1 k hs hd
   cases hc
   simp only[evP] at hx
   have hy:=S y
   generalize (cx y).ev fr=Y at *
   cases Y <;> try (cases hx; done)
   cases hx
   have hv:=int_inv hy
   refine⟨.int k _,?_,.int _ _⟩
   simp [execOp,convert,run_underlying hs,run_underlying hd,hv,Conv.intToInt]
  ·rename_i hs hd
   cases hc
   simp only[evP] at hx
   have hy:=S y
   generalize (cx y).ev fr=Y at *
   cases Y <;> try (cases hx; done)
   cases hx
   have hv:=str_inv hy
   refine⟨_,?_,.str _⟩
   simp [execOp,convert,run_underlying hs,run_underlying hd,hv]
  ·split at hc <;> cases hc
  ·split at hc <;> cases hc
  ·split at hc <;> cases hc
  ·cases hc
 | sliceToArrayPointer t y=>cases hc
 | makeInterface t y=>cases hc
 | makeFunc fn first caps =>
  cases fn <;> simp only[compOp] at hc <;> try (cases hc; done)
  split at hc
  ·rename_i f hfirst
   split at hc
   ·rename_i hl
    cases hc
    simp only[evP] at hx
    cases hx
    have e:first=#[]:=by simpa using hfirst
    subst e
    exact⟨.func (.func f) #[] (caps.map a.eval),by simp [execOp,Instr.makeFunc],mkfn_sim hl hf⟩
   ·cases hc
  ·split at hc
   ·rename_i f hfirst hcaps
    cases hc
    simp only[evP] at hx
    cases hx
    have e:caps=#[]:=by simpa using hcaps
    subst e
    exact⟨.func (.func f) (first.map a.eval) #[],by simp [execOp,Instr.makeFunc],bound_sim hf⟩
   ·cases hc
 | makeMap t y=>cases hc
 | makeChan t y=>cases hc
 | makeSlice t l c=>simp only[compOp] at hc; repeat (split at hc <;> try cases hc)
 | slice t y lo hi mx =>
  simp only[compOp] at hc
  split at hc
  ·rename_i ht
   split at hc
   ·rename_i hm
    cases hc
    have e:mx=none:=by simpa using hm
    subst e
    exact lift (slices_run ht hf (S y) hx)
   ·cases hc
  ·rename_i e ht
   split at hc
   ·rename_i hok
    split at hc
    ·cases hc
    ·cases hc
     exact lift (slicev_run ht hok hf (S y) hx)
   ·cases hc
  ·cases hc
 | fieldAddr s y f =>
  simp only[compOp] at hc
  split at hc
  ·rename_i fs ht
   split at hc
   ·rename_i fd hfd
    split at hc
    ·cases hc
    ·rename_i hz
     cases hc
     obtain ⟨b,hb,hs⟩:=ptr_add (S y) hx
     refine⟨_,?_,hs⟩
     have hsz:(sizeOf fd.type).run P w=.ok (P.cellsOf fd.type) w:=by
      unfold Program.cellsOf at hz ⊢
      cases hi:P.info? fd.type with
      | none=>rw [hi] at hz; simp at hz
      | some i=>simp [sizeOf,typeInfo,hi]
     simp [execOp,Instr.fieldAt,run_underlying ht,hfd,Instr.sureAddr,hb,fieldPlace,hsz,hz]
   ·cases hc
  ·cases hc
 | field s y f =>
  simp only[compOp] at hc
  split at hc
  ·rename_i fs ht
   split at hc
   ·rename_i fd hfd
    split at hc
    ·rename_i hok
     cases hc
     simp only[evP] at hx
     have hy:=S y
     generalize (cx y).ev fr=Y at *
     cases Y <;> try (cases hx; done)
     obtain ⟨cs,hv,hl,hs⟩:=agg_inv hy
     obtain ⟨v,h1,h2⟩:=part_run (P:=P) hl hs hok hx
     refine⟨v,?_,h2⟩
     simp [execOp,Instr.field,run_underlying ht,hfd,hv,asAgg,h1]
    ·cases hc
   ·cases hc
  ·cases hc
 | indexAddr t y i =>
  simp only[compOp] at hc
  split at hc
  ·rename_i e ht
   split at hc
   ·rename_i hok
    cases hc
    exact lift (iaddr_run ht hok (S y) (S i) hx)
   ·cases hc
  ·rename_i n e ht
   split at hc
   ·rename_i hok
    cases hc
    exact lift (aaddr_run ht hok (S y) (S i) hx)
   ·cases hc
  ·cases hc
 | index t y i =>
  simp only[compOp] at hc
  split at hc
  ·rename_i ht
   cases hc
   exact lift (idxs_run ht (S y) (S i) hx)
  ·rename_i n e ht
   split at hc
   ·rename_i hok
    cases hc
    exact lift (idxa_run ht hok (S y) (S i) hx)
   ·cases hc
  ·cases hc
 | lookup=>cases hc
 | mapUpdate=>cases hc
 | mapEntry=>cases hc
 | entryStore=>cases hc
 | insert=>cases hc
 | range=>cases hc
 | next=>cases hc
 | entry=>cases hc
 | typeAssert=>cases hc
 | extract y i=>cases hc; exact lift (ext_run (S y) hx)
 | call c =>
  obtain ⟨callee,args,ts⟩:=c
  cases callee with
  | value f =>
   cases f <;> try (cases hc; done)
   rename_i g
   simp only[compOp] at hc
   split at hc
   case isFalse=>cases hc
   rename_i hi
   split at hc
   case h_2=>cases hc
   rename_i y z hargs
   cases hc
   have ha:args=#[y,z]:=by rw [← Array.toArray_toList (xs:=args),hargs]
   subst ha
   obtain ⟨v,hv,hs⟩:=idxb_run hi (S y) (S z) hx
   exact⟨v,by simpa [execOp,resolve,Deferred.ofValue,Act.eval,invoke] using hv,hs⟩
  | invoke=>cases hc
  | builtin b =>
   obtain ⟨args⟩:=args
   obtain ⟨ts⟩:=ts
   simp only[compOp] at hc
   have run:∀ {bb:Builtin} {s:Sem Value},(∀ C,builtin bb ⟨ts⟩ ty C (Array.map a.eval ⟨args⟩) =(do pure (.value (← s)):Sem Next)) →
     (∃ v,s.run P w=.ok v w∧Sim w γ x v)→∃ v,(execOp a.eval ⟨dst,.call ⟨.builtin bb,⟨args⟩,⟨ts⟩⟩,ty,pos,after,guard⟩).run P w=.ok (.value v) w∧Sim w γ x v:=by
    rintro bb s hb ⟨v,hv,hs⟩
    refine⟨v,?_,hs⟩
    simp only[execOp,resolve,invoke,Sem.run_bind,Sem.run_pure,Result.andThen_ok]
    rw [hb]
    simp [hv]
   split at hc
   ·rename_i y t
    split at hc
    ·rename_i ht
     cases hc
     exact run (fun _=>rfl) (by simpa using lenS_run ht (S y) ty hx)
    ·rename_i e ht
     cases hc
     exact run (fun _=>rfl) (by simpa using len_run ht (S y) ty hx)
    ·rename_i n e ht
     cases hc
     simp only[evP] at hx
     cases hx
     exact run (fun _=>rfl) ⟨.int .i64 n,by simp [Builtin.len_,run_underlying ht,goInt],.int _ _⟩
    ·cases hc
   ·repeat (split at hc <;> try cases hc)
   ·repeat (split at hc <;> try cases hc)
   ·repeat (split at hc <;> try cases hc)
   ·rename_i y z
    cases hc
    exact run (fun _=>rfl) (by simpa using minmax_run (P:=P) (mx:=false) (S y) (S z) ⟨ts⟩ ty hx)
   ·rename_i y z
    cases hc
    exact run (fun _=>rfl) (by simpa using minmax_run (P:=P) (mx:=true) (S y) (S z) ⟨ts⟩ ty hx)
   ·cases hc
 | go=>cases hc
 | defer=>cases hc
 | panic=>cases hc
 | send=>cases hc
 | recv=>cases hc
 | select=>cases hc
 | ready=>cases hc
 | waits=>cases hc
end
end Go.Pv
/-
 The machine of plain values,7: operations that read.
-/
namespace Go.Pv
section
variable {P:Program} {w:World} {γ:Gh} {fr:Fr} {a:Act} {H:Hp}
theorem Sim.ofBare{x:AV}{v:Value}(h:Sim w γ.bare x v):Sim w γ x v :=
 h.adv ⟨Nat.le_refl _,fun _ hb=>⟨hb,fun _=>rfl⟩,fun _ _ hi=>by cases hi⟩
def Lies(w:World)(γ:Gh)(y:AV)(b o:Nat):Prop:=∀(j:Nat) (z:AV),y.flat[j]?=some z→∃ u,w.cell? ⟨b,o+j,none⟩=some u∧u.oneCell'=true∧Sim w γ z u
theorem load_lies{t:TypeId}(ht:tyOk P t=true){y z:AV}{b o off:Nat}(hl:Lies w γ y b o)(h:cells y off (P.cellsOf t) (isAg P t)=some z) :
  ∃ v,(loadVar t ⟨b,o+off,none⟩).run P w=.ok v w∧Sim w γ z v:=by
 unfold cells at h
 simp only[loadVar,Sem.run_bind,run_isAgg ht,Result.andThen_ok]
 by_cases ha:isAg P t=true
 ·rw [if_pos ha] at h ⊢
  split at h
  ·rename_i hlen
   cases h
   simp only[Sem.run_bind,run_sizeOf ht,Result.andThen_ok]
   have hn:off+P.cellsOf t≤y.flat.length∨P.cellsOf t=0:=by simp at hlen; omega
   have key:∀ j,j < P.cellsOf t→∃ z u,y.flat[off+j]?=some z∧w.cell? ⟨b,o +(off+j),none⟩=some u∧Sim w γ z u:=by
    intro j hj
    have hlt:off+j < y.flat.length:=by omega
    obtain ⟨u,h1,_,h3⟩:=hl (off+j) _ (List.getElem?_eq_getElem hlt)
    exact⟨_,u,List.getElem?_eq_getElem hlt,h1,h3⟩
   have hld:=run_loadCells (P:=P) w ⟨b,o+off,none⟩ (P.cellsOf t) (fun j=>(w.cell? ⟨b,o +(off+j),none⟩).getD Go.undef) (fun j hj=>by
    obtain ⟨z,u,_,h2,_⟩:=key j hj
    rw [Addr.add_lit,Nat.add_assoc,h2]; rfl)
   rw [hld]
   refine⟨_,rfl,.agg _ _ (by simpa using hlen) ?_⟩
   intro i x v hx hv
   rw [List.getElem?_take] at hx
   split at hx
   ·rename_i hi
    obtain ⟨z,u,h1,h2,h3⟩:=key i hi
    rw [List.getElem?_drop,h1] at hx
    cases hx
    simp only[List.getElem?_toArray,List.getElem?_map,List.getElem?_range hi,Option.map_some] at hv
    rw [h2] at hv
    cases hv
    exact h3
   ·cases hx
  ·cases h
 ·rw [if_neg ha] at h ⊢
  obtain ⟨u,h1,_,h3⟩:=hl off z h
  exact⟨u,by simp [h1],h3⟩
theorem EntOk.lies{e:Ent}{ge:GE}{g i:Nat}{y:AV}(h:EntOk w γ e ge)(hg:ge.blk=some g)(hy:e.es[i]?=some y):Lies w γ y g (i * ge.sz):=by
 rcases (h.live (.inr (by intro hn; rw [hn] at hy; simp at hy))).2 with ⟨h1,_⟩ | ⟨g',cs,fr,h1,h2,h3,h4,h5,h6⟩
 ·rw [h1] at hg; cases hg
 ·rw [h1] at hg; cases hg
  intro j z hz
  obtain ⟨u,hu,ho,hs⟩:=(h6 i y hy).2 j z hz
  refine⟨u,?_,ho,hs⟩
  simp [World.cell?,h2,hu]
theorem load_run(hh:HRel γ H w){t:TypeId}(ht:tyOk P t=true){X:AX}{x:Value}{z:AV}(hx:Sim w γ (X.ev fr) x)(h:evR fr H (.load (P.cellsOf t) (isAg P t) X)=some z) :
  ∃ v,(Instr.loadAt t x).run P w=.ok v w∧Sim w γ z v:=by
 simp only[evR] at h
 generalize X.ev fr=XX at *
 cases XX <;> try (cases h; done)
 ·rename_i id i off
  obtain ⟨e,he,h⟩:=Option.bind_eq_some_iff.1 h
  obtain ⟨y,hy,h⟩:=Option.bind_eq_some_iff.1 h
  cases hx with
  | eptr _ _ _ g ge hm hg =>
   obtain ⟨ge',hm',hok⟩:=hh.ok id e he
   rw [hm] at hm'; cases hm'
   obtain ⟨v,hv,hs⟩:=load_lies ht (hok.lies hg hy) h
   exact⟨v,by simp [Instr.loadAt,Instr.sureAddr,hv],hs⟩
 ·rename_i y off
  cases hx with
  | rptr _ _ b o U hb hi hcell hs =>
   obtain ⟨v,hv,hs⟩:=load_lies (o:=o) ht (γ:=γ) (fun j z hz=>⟨U j,(hcell j z hz).1,(hcell j z hz).2,(hs j z hz).ofBare⟩) h
   exact⟨v,by simp [Instr.loadAt,Instr.sureAddr,hv],hs⟩
def LiesL(w:World)(γ:Gh)(sz:Nat)(es:List AV)(b o:Nat):Prop:=∀(i:Nat) (x:AV),es[i]?=some x→x.flat.length=sz∧Lies w γ x b (o+i * sz)
theorem elems_lies(hh:HRel γ H w){X:AV}{x:Value}{es:List AV}(hx:Sim w γ X x)(h:elems H X=some es) :
  (∃ s,X=.str s∧es=s.map bv)∨∃ A cap,x=.slice A es.length cap∧es.length≤cap ∧
    (es=[]∨∃ sz b o,A=some ⟨b,o,none⟩∧LiesL w γ sz es b o ∧((∃ id off len,X=.vec id sz off len)∨∃ full,X=.sl sz es full)):=by
 cases X <;> try (cases h; done)
 ·cases h; exact .inl ⟨_,rfl,rfl⟩
 ·rename_i sz es' full
  cases h
  right
  cases hx with
  | sl0 _ _ A cap h=>exact⟨A,cap,rfl,Nat.zero_le _,.inl rfl⟩
  | sl _ _ _ b off cap U hp hc hf hb hi hz hcell hs =>
   refine⟨_,cap,rfl,hc,.inr ⟨sz,b,off,rfl,fun i y hy=>⟨hz y (List.mem_of_getElem? hy),fun j z hz=>⟨U i j,(hcell i y j z hy hz).1,(hcell i y j z hy hz).2,(hs i y j z hy hz).ofBare⟩⟩,.inr ⟨full,rfl⟩⟩⟩
 ·rename_i id sz off len
  right
  simp only[elems] at h
  obtain ⟨e,he,h⟩:=Option.bind_eq_some_iff.1 h
  split at h
  case isFalse=>cases h
  rename_i hle
  cases h
  cases hx with
  | vec _ _ _ _ A cap ge hm hz hl hc hN hA =>
   obtain ⟨ge',hm',hok⟩:=hh.ok id e he
   rw [hm] at hm'; cases hm'
   have hlen:((e.es.drop off).take len).length=len:=by simp; omega
   refine⟨A,cap,by rw [hlen],by omega,?_⟩
   by_cases h0:len=0
   ·left
    exact List.eq_nil_of_length_eq_zero (by omega)
   ·right
    cases hg:ge.blk with
    | none=>have:=hN hg; omega
    | some g =>
     have:=hA g hg (.inl (by omega))
     refine⟨sz,g,off * sz,this,fun i y hy=>?_,.inl ⟨id,off,len,rfl⟩⟩
     rw [List.getElem?_take] at hy
     split at hy
     ·rw [List.getElem?_drop] at hy
      have h1:=hok.lies hg hy
      rw [hz,Nat.add_mul] at h1
      refine⟨?_,h1⟩
      rcases (hok.live (.inr (by intro hn; rw [hn] at hy; simp at hy))).2 with ⟨h2,_⟩ | ⟨g',cs,fr,_,_,_,_,_,h6⟩
      ·rw [h2] at hg; cases hg
      ·rw [← hz]; exact(h6 _ y hy).1
     ·cases hy
theorem toBytes_map{es:List AV}{l:List UInt8}(h:toBytes es=some l):∃ ns:List Int,es=ns.map (AV.int .u8)∧ns.map (fun n=>UInt8.ofNat n.toNat)=l:=by
 induction es generalizing l with
 | nil=>cases h; exact⟨[],rfl,rfl⟩
 | cons x xs ih =>
  cases x <;> try (simp [toBytes] at h; done)
  rename_i k n
  cases k <;> try (simp [toBytes] at h; done)
  simp only[toBytes] at h
  split at h
  ·obtain ⟨l',hl',rfl⟩:=Option.map_eq_some_iff.1 h
   obtain ⟨ns,rfl,rfl⟩:=ih hl'
   exact⟨n :: ns,rfl,rfl⟩
  ·cases h
theorem foldl_push(ns:List Int):∀(l:List UInt8),ns.foldl (fun(r:ByteArray) n=>r.push (UInt8.ofNat n.toNat)) ⟨l.toArray⟩ =⟨(l ++ ns.map (fun n=>UInt8.ofNat n.toNat)).toArray⟩:=by
 induction ns with
 | nil=>intro l; simp
 | cons n ns ih =>
  intro l
  simp only[List.foldl_cons,List.map_cons]
  have e:(ByteArray.mk l.toArray).push (UInt8.ofNat n.toNat) =⟨(l ++ [UInt8.ofNat n.toNat]).toArray⟩:=by
   apply ByteArray.ext
   simp [ByteArray.push]
  rw [e,ih]
  simp
theorem cut_run(hh:HRel γ H w)(hf:FrR w γ fr a.tmps){t el:TypeId}(ht:P.underlying t=some (.slice el))(hok:tyOk P el=true){X:AX}{lo hi:Operand}{z:AV}{x:Value}(hx:Sim w γ (X.ev fr) x)
  (he:evR fr H (.cut (P.cellsOf el) X (cx lo) (cx hi))=some z):∃ v,(Instr.sliceAt t x (some (a.eval lo)) (some (a.eval hi)) none).run P w=.ok v w∧Sim w γ z v:=by
 simp only[evR] at he
 split at he
 ·rename_i v hv
  cases he
  exact slicev_run (lo:=some lo) (hi:=some hi) (mx:=none) ht hok hf hx hv
 ·generalize X.ev fr=XX at *
  cases XX <;> try (cases he; done)
  rename_i id sz off len
  dsimp only at he
  obtain ⟨e,hen,hq⟩:=Option.bind_eq_some_iff.1 he
  clear he
  split at hq
  case isFalse=>cases hq
  rename_i hc
  obtain ⟨hsz,rfl⟩:=hc
  obtain ⟨hn,h1,hq⟩:=Option.bind_eq_some_iff.1 hq
  obtain ⟨ln,h2,hq⟩:=Option.map_eq_some_iff.1 hq
  subst hq
  have hxx:∃ A cap,x=.slice A len cap∧e.es.length≤cap:=by
   cases hx with
   | vec _ _ _ _ A cap ge hm hz hl hcC hN hA =>
    obtain ⟨ge',hm',hok'⟩:=hh.ok id e hen
    rw [hm] at hm'; cases hm'
    refine⟨A,cap,rfl,?_⟩
    by_cases h0:e.es=[]
    ·rw [h0]; exact Nat.zero_le _
    ·rcases (hok'.live (.inr h0)).2 with ⟨_,h2,_⟩ | ⟨g',cs,fz,_,_,_,_,h6,_⟩
     ·exact absurd h2 h0
     ·omega
  obtain ⟨A,cap,rfl,hcap⟩:=hxx
  have h1':=bound_le (cx_sim hf hi) h1 hcap .sliceAcap (P:=P)
  have h2':=bound_le (cx_sim hf lo) h2 (Nat.le_refl _) .sliceB (P:=P)
  have e':(Instr.sliceBounds true len cap (some (a.eval lo)) (some (a.eval hi)) none).run P w=.ok (ln,hn,cap) w:=by
   unfold Instr.sliceBounds
   simp [h2'.1,h1'.1]
  refine⟨.slice (if cap=ln then A else A.map (·.add (ln * P.cellsOf el))) (hn - ln) (cap - ln),?_,?_⟩
  ·simp [Instr.sliceAt,Instr.slice,run_underlying ht,e',run_sizeOf hok]
  ·rw [hsz]; exact vec_cut0 hx h2'.2 (by omega)
theorem b2s_run(hh:HRel γ H w){s d e:TypeId}(hs:P.underlying s=some (.slice e))(hu:P.underlying e=some (.int .u8))(hd:P.underlying d=some .string){X:AX}{x:Value}{z:AV}(hx:Sim w γ (X.ev fr) x)
  (h:evR fr H (.b2s X)=some z):∃ v,(convert s d x).run P w=.ok v w∧Sim w γ z v:=by
 have main:∀(es:List AV) (XX:AV),Sim w γ XX x→elems H XX=some es →(∃ id off len,XX=.vec id 1 off len) ∨(∃ sz full,XX=.sl sz es full ∧(sz=1∨es=[])) →(toBytes es).map .str=some z→∃ v,(convert s d x).run P w=.ok v w∧Sim w γ z v:=by
  intro es XX hx he hsz h
  obtain ⟨l,hl,rfl⟩:=Option.map_eq_some_iff.1 h
  obtain ⟨ns,rfl,rfl⟩:=toBytes_map hl
  rcases elems_lies hh hx he with ⟨s,rfl,_⟩ | ⟨A,cap,rfl,hcap,hA⟩
  ·rcases hsz with ⟨_,_,_,h⟩ | ⟨_,_,h,_⟩ <;> cases h
  ·rw [run_convert_bytes_string w s d e A _ cap hs hu hd]
   rcases hA with h0 | ⟨sz,b,o,rfl,hlies,hX⟩
   ·have:ns=[]:=by simpa using h0
    subst this
    refine⟨.string .empty,?_,.str []⟩
    cases A with
    | none=>rfl
    | some ad =>
     have:=run_bytesToString (P:=P) w ad 0 cap [] (by rfl)
     simpa using this
   ·by_cases hnil:ns=[]
    ·subst hnil
     have:=run_bytesToString (P:=P) w ⟨b,o,none⟩ 0 cap [] (by rfl)
     exact⟨.string .empty,by simpa using this,.str []⟩
    ·have hsz1:sz=1:=by
      rcases hsz with ⟨id,off,len,rfl⟩ | ⟨sz',full,rfl,h1⟩
      ·rcases hX with ⟨_,_,_,hX⟩ | ⟨_,hX⟩ <;> cases hX; rfl
      ·rcases hX with ⟨_,_,_,hX⟩ | ⟨_,hX⟩ <;> cases hX
       rcases h1 with h1 | h1
       ·exact h1
       ·simp at h1; exact absurd h1 hnil
     subst hsz1
     have hld:(loadCells ⟨b,o,none⟩ (ns.map (AV.int .u8)).length).run P w=.ok (ns.map (Value.int .u8)).toArray w:=by
      have:=run_loadCells_list (P:=P) w ⟨b,o,none⟩ (ns.map (Value.int .u8)) (fun j v hj=>by
       rw [List.getElem?_map] at hj
       obtain ⟨n,hn,rfl⟩:=Option.map_eq_some_iff.1 hj
       obtain ⟨_,hl⟩:=hlies j (.int .u8 n) (by rw [List.getElem?_map,hn]; rfl)
       obtain ⟨u,hu,_,hs⟩:=hl 0 _ rfl
       rw [Addr.add_lit]
       cases int_inv hs
       simpa using hu)
      simpa using this
     have:=run_bytesToString (P:=P) w ⟨b,o,none⟩ _ cap ns hld
     refine⟨_,this,?_⟩
     rw [show ByteArray.empty =⟨([]:List UInt8).toArray⟩ from rfl,foldl_push]
     exact .str _
 simp only[evR] at h
 generalize X.ev fr=XX at *
 cases XX <;> try (cases h; done)
 ·rename_i sz es full
  dsimp only at h
  split at h
  ·rename_i hsz
   exact main es _ hx rfl (.inr ⟨sz,full,rfl,hsz⟩) h
  ·cases h
 ·rename_i id sz off len
  dsimp only at h
  split at h
  ·rename_i hsz
   subst hsz
   obtain ⟨es,he,h⟩:=Option.bind_eq_some_iff.1 h
   exact main es _ hx he (.inl ⟨id,off,len,rfl⟩) h
  ·cases h
theorem evR_sound(hf:FrR w γ fr a.tmps)(hh:HRel γ H w){o:Oper}{d:Bool}{r:Option Nat}{q:OpR}(hc:compOp P d r o=.r q){x:AV}(hx:evR fr H q=some x) :
  ∃ v,(execOp a.eval o).run P w=.ok (.value v) w∧Sim w γ x v:=by
 obtain ⟨dst,op,ty,pos,after,guard⟩:=o
 have S:=fun y=>cx_sim hf y (γ:=γ)
 have lift:∀ {s:Sem Value} {z:AV},(∃ v,s.run P w=.ok v w∧Sim w γ z v)→∃ v,(do pure (.value (← s)):Sem Next).run P w=.ok (.value v) w∧Sim w γ z v:=by
  rintro s z ⟨v,hv,hs⟩
  exact⟨v,by simp [hv],hs⟩
 cases op with
 | load t y =>
  simp only[compOp] at hc
  split at hc
  ·rename_i hok
   cases hc
   exact lift (load_run hh hok (S y) hx)
  ·cases hc
 | slice t y lo hi mx =>
  simp only[compOp] at hc
  split at hc
  ·split at hc <;> cases hc
  ·rename_i e ht
   split at hc
   ·rename_i hok
    split at hc
    ·rename_i l h
     cases hc
     exact lift (cut_run hh hf ht hok (S y) hx)
    ·cases hc
   ·cases hc
  ·cases hc
 | convert s d y =>
  simp only[compOp] at hc
  split at hc
  ·cases hc
  ·cases hc
  ·rename_i e hs hd
   split at hc
   ·rename_i hu
    cases hc
    have hu':P.underlying e=some (.int .u8):=by
     unfold isU8 at hu
     split at hu
     ·assumption
     ·cases hu
    exact lift (b2s_run hh hs hu' hd (S y) hx)
   ·cases hc
  ·split at hc <;> cases hc
  ·split at hc <;> cases hc
  ·cases hc
 | call c =>
  obtain ⟨callee,args,ts⟩:=c
  cases callee with
  | value f=>cases f <;> simp only[compOp] at hc <;> repeat' (first | (cases hc; done) | split at hc)
  | invoke=>cases hc
  | builtin b =>
   simp only[compOp] at hc
   repeat' (first | (cases hc; done) | split at hc)
 | makeFunc fn first caps=>cases fn <;> simp only[compOp] at hc <;> repeat' (first | (cases hc; done) | split at hc)
 | _=>first | (cases hc; done) | (simp only[compOp] at hc; repeat' (first | (cases hc; done) | split at hc))
end
end Go.Pv
/-
 The machine of plain values,8: rows that are made,and rows that are written: what stays as it was.
-/
namespace Go.Pv
section
variable {P:Program} {w w':World} {γ γ':Gh} {H H':Hp}
structure Old(γ:Gh)(w w':World):Prop where
 os:w'.os=w.os
 tape:w'.tape=w.tape
 output:w'.output=w.output
 size:w.heap.size≤w'.heap.size
 keep:∀ b,b < w.heap.size→¬ γ.owns b→w'.heap[b]?=w.heap[b]?
theorem hrel_change(hh:HRel γ H w)(ho:Old γ w w')(himm:γ'.imm=γ.imm)(hids:Ids γ γ')
  (hown:∀ b,γ'.owns b→γ.owns b∨w.heap.size≤b)
  (hinj:∀ id id' ge ge' b,γ'.m id=some ge→γ'.m id'=some ge'→ge.st≠0→ge'.st≠0→ge.blk=some b→ge'.blk=some b→id=id')
  (hstl:∀ id ge,γ'.m id=some ge→ge.st=1→γ.m id=some ge)
  (hent:∀ id,(ent H' id=ent H id∧γ'.m id=γ.m id∧∀ ge g,γ.m id=some ge→ge.st≠0→ge.blk=some g→w'.heap[g]?=w.heap[g]?) ∨
    ∃ e ge,ent H' id=some e∧γ'.m id=some ge ∧(Adv γ γ' w w'→EntOk w' γ' e ge)):HRel γ' H' w'∧Step γ γ' w w':=by
 have hs:Step γ γ' w w':=⟨ho.os,ho.tape,ho.output,ho.size,ho.keep,hown,fun b hb=>by rw [himm]; exact hb,fun b hb=>.inl (by rw [himm] at hb; exact hb)⟩
 have ha:Adv γ γ' w w':=hs.adv hids hh.imm
 refine⟨⟨?_,?_,hinj,?_,fun id ge b h1 h2 h3=>by rw [himm]; exact hh.stl id ge b (hstl id ge h1 h2) h2 h3⟩,hs⟩
 ·intro id hid
  rcases hent id with ⟨h1,h2,_⟩ | ⟨e,ge,h1,_⟩
  ·rw [h2]; exact hh.none id (h1 ▸ hid)
  ·rw [h1] at hid; cases hid
 ·intro id e hid
  rcases hent id with ⟨h1,h2,h3⟩ | ⟨e',ge,h1,h2,h3⟩
  ·obtain ⟨ge,hm,hok⟩:=hh.ok id e (h1 ▸ hid)
   exact⟨ge,by rw [h2]; exact hm,hok.adv ha fun g hst hg=>h3 ge g hm hst hg⟩
  ·rw [h1] at hid; cases hid
   exact⟨ge,h2,h3 ha⟩
 ·intro b hb
  rw [himm] at hb
  obtain ⟨h1,h2⟩:=hh.imm b hb
  exact⟨Nat.lt_of_lt_of_le h1 ho.size,fun h=>(hown b h).elim h2 (fun h=>by omega)⟩
def Gh.add(γ:Gh)(id:Nat)(ge:GE):Gh:=⟨fun i=>if i=id then some ge else γ.m i,γ.imm⟩
theorem Gh.add_same(γ:Gh)(id:Nat)(ge:GE):(γ.add id ge).m id=some ge:=if_pos rfl
theorem Gh.add_other(γ:Gh)(id:Nat)(ge:GE){i:Nat}(h:i≠id):(γ.add id ge).m i=γ.m i:=if_neg h
theorem ent_set{id:Nat}{e e':Ent}(h:ent H id=some e)(j:Nat):ent (H.set id (some e')) j=if j=id then some e' else ent H j:=by
 have hlt:=ent_lt h
 unfold ent
 by_cases hj:j=id
 ·subst hj; simp [hlt]
 ·rw [if_neg hj,List.getElem?_set_ne (fun h=>hj h.symm)]
theorem new_ent{base:Nat}{r:Option Nat}{e:Ent}{id:Nat}(h:new base r H e=some (id,H')):ent H id=none∧∀ j,ent H' j=if j=id then some e else ent H j:=by
 cases r with
 | none =>
  simp only[new,Option.some.injEq,Prod.mk.injEq] at h
  obtain ⟨rfl,rfl⟩:=h
  refine⟨by simp [ent],fun j=>?_⟩
  unfold ent
  by_cases hj:j=H.length
  ·subst hj; simp
  ·rw [if_neg hj]
   rcases Nat.lt_or_ge j H.length with h' | h'
   ·rw [List.getElem?_append_left h']
   ·rw [List.getElem?_eq_none h',List.getElem?_eq_none (by simp; omega)]
 | some k =>
  simp only[new] at h
  split at h
  ·rename_i hk
   simp only[Option.some.injEq,Prod.mk.injEq] at h
   obtain ⟨rfl,rfl⟩:=h
   refine⟨by simpa using hk.2,fun j=>?_⟩
   unfold ent
   by_cases hj:j=base+k
   ·subst hj; simp [hk.1]
   ·rw [if_neg hj,List.getElem?_set_ne (fun h=>hj h.symm)]
  ·cases h
theorem Gh.add_ids{id:Nat}{ge:GE}(h:γ.m id=none∨∃ st,γ.m id=some { ge with st:=st }):Ids γ (γ.add id ge):=fun i ge' hi=>by
 by_cases e:i=id
 ·subst e
  rcases h with h | ⟨st,h⟩
  ·rw [h] at hi; cases hi
  ·rw [h] at hi; cases hi
   exact⟨ge.st,Gh.add_same _ _ _⟩
 ·exact⟨ge'.st,by rw [Gh.add_other _ _ _ e]; exact hi⟩
theorem hrel_new(hh:HRel γ H w){base:Nat}{r:Option Nat}{e:Ent}{id:Nat}(hn:Pv.new base r H e=some (id,H')){ge:GE}(hst:ge.st=2)(ho:Old γ w w')(hk:∀ b,b < w.heap.size→w'.heap[b]?=w.heap[b]?)
  (hb:∀ g,ge.blk=some g→w.heap.size≤g) (hok:Adv γ (γ.add id ge) w w'→EntOk w' (γ.add id ge) e ge):HRel (γ.add id ge) H' w'∧Step γ (γ.add id ge) w w'∧Ids γ (γ.add id ge):=by
 obtain ⟨h0,h1⟩:=new_ent hn
 have hm:=hh.none id h0
 have hids:=Gh.add_ids (ge:=ge) (.inl hm)
 have hc:=hrel_change (γ':=γ.add id ge) (H':=H') hh ho rfl hids ?_ ?_ ?_ ?_
 ·exact⟨hc.1,hc.2,hids⟩
 ·rintro b ⟨i,ge',hi,hst',hb'⟩
  by_cases e:i=id
  ·subst e
   rw [Gh.add_same] at hi; cases hi
   exact .inr (hb b hb')
  ·rw [Gh.add_other _ _ _ e] at hi
   exact .inl ⟨i,ge',hi,hst',hb'⟩
 ·intro i j ge1 ge2 b hi hj hs1 hs2 hb1 hb2
  by_cases ei:i=id <;> by_cases ej:j=id
  ·omega
  ·subst ei
   rw [Gh.add_same] at hi; cases hi
   rw [Gh.add_other _ _ _ ej] at hj
   have:=hh.blkLt hj hs2 hb2
   have:=hb b hb1
   omega
  ·subst ej
   rw [Gh.add_same] at hj; cases hj
   rw [Gh.add_other _ _ _ ei] at hi
   have:=hh.blkLt hi hs1 hb1
   have:=hb b hb2
   omega
  ·rw [Gh.add_other _ _ _ ei] at hi
   rw [Gh.add_other _ _ _ ej] at hj
   exact hh.inj i j ge1 ge2 b hi hj hs1 hs2 hb1 hb2
 ·intro i x hi hs
  by_cases e:i=id
  ·subst e
   rw [Gh.add_same] at hi; cases hi
   rw [hst] at hs; cases hs
  ·rw [Gh.add_other _ _ _ e] at hi; exact hi
 ·intro i
  by_cases e:i=id
  ·subst e
   exact .inr ⟨_,ge,by rw [h1,if_pos rfl],Gh.add_same _ _ _,hok⟩
  ·exact .inl ⟨by rw [h1,if_neg e],Gh.add_other _ _ _ e,fun ge' g hm' hst' hg=>hk g (hh.blkLt hm' hst' hg)⟩
theorem hrel_upd(hh:HRel γ H w){id g:Nat}{e e':Ent}{ge:GE}(he:ent H id=some e)(hm:γ.m id=some ge)(hst:ge.st=2)(hg:ge.blk=some g)(ho:Old γ w w')(hk:∀ b,b≠g→w'.heap[b]?=w.heap[b]?)
  (hok:Adv γ γ w w'→EntOk w' γ e' ge):HRel γ (H.set id (some e')) w'∧Step γ γ w w':=by
 refine hrel_change (γ':=γ) hh ho rfl (Ids.refl γ) (fun b h=>.inl h) hh.inj (fun _ _ h _=>h) fun i=>?_
 by_cases ei:i=id
 ·subst ei
  exact .inr ⟨e',ge,by rw [ent_set he,if_pos rfl],hm,hok⟩
 ·refine .inl ⟨by rw [ent_set he,if_neg ei],rfl,fun ge' g' hm' hst' hg'=>hk g' fun e=>ei ?_⟩
  subst e
  exact hh.inj i id ge' ge _ hm' hm hst' (by rw [hst]; decide) hg' hg
theorem hrel_renew(hh:HRel γ H w){base:Nat}{r:Option Nat}{id id':Nat}{e e':Ent}{ge ge':GE}(he:ent H id=some e)(hm:γ.m id=some ge)(hst:ge.st=2)
  (hn:Pv.new base r (H.set id (some { e with es:=[],wr:=false })) e'=some (id',H')) (hst':ge'.st=2) (ho:Old γ w w') (hk:∀ b,b < w.heap.size →(ge.blk≠some b∨ge'.blk≠some b)→w'.heap[b]?=w.heap[b]?)
  (hb:∀ g,ge'.blk=some g→w.heap.size≤g∨ge.blk=some g)
  (hok:Adv γ ((γ.add id { ge with st:=0 }).add id' ge') w w'→EntOk w' ((γ.add id { ge with st:=0 }).add id' ge') e' ge') :
  HRel ((γ.add id { ge with st:=0 }).add id' ge') H' w'∧Step γ ((γ.add id { ge with st:=0 }).add id' ge') w w'∧Ids γ ((γ.add id { ge with st:=0 }).add id' ge'):=by
 obtain ⟨h0,h1⟩:=new_ent hn
 have hne:id'≠id:=by
  rintro rfl
  rw [ent_set he,if_pos rfl] at h0
  cases h0
 have h0':ent H id'=none:=by rw [ent_set he,if_neg hne] at h0; exact h0
 have hm':=hh.none id' h0'
 have hids1:Ids γ (γ.add id { ge with st:=0 }):=Gh.add_ids (.inr ⟨ge.st,hm⟩)
 have hids2:Ids (γ.add id { ge with st:=0 }) ((γ.add id { ge with st:=0 }).add id' ge'):=Gh.add_ids (.inl (by rw [Gh.add_other _ _ _ hne]; exact hm'))
 have hids:=hids1.trans hids2
 have look:∀ i x,((γ.add id { ge with st:=0 }).add id' ge').m i=some x→x.st≠0 →(i=id'∧x=ge') ∨(i≠id'∧i≠id∧γ.m i=some x):=by
  intro i x hx hs
  by_cases e1:i=id'
  ·subst e1; rw [Gh.add_same] at hx; cases hx; exact .inl ⟨rfl,rfl⟩
  ·rw [Gh.add_other _ _ _ e1] at hx
   by_cases e2:i=id
   ·subst e2; rw [Gh.add_same] at hx; cases hx; exact absurd rfl hs
   ·rw [Gh.add_other _ _ _ e2] at hx; exact .inr ⟨e1,e2,hx⟩
 have hst2:ge.st≠0:=by rw [hst]; decide
 have hc:=hrel_change (γ':=(γ.add id { ge with st:=0 }).add id' ge') (H':=H') hh ho rfl hids ?_ ?_ ?_ ?_
 ·exact⟨hc.1,hc.2,hids⟩
 ·rintro b ⟨i,x,hi,hs,hb'⟩
  rcases look i x hi (by rw [hs]; decide) with ⟨_,rfl⟩ | ⟨_,_,hx⟩
  ·rcases hb b hb' with h | h
   ·exact .inr h
   ·exact .inl ⟨id,ge,hm,hst,h⟩
  ·exact .inl ⟨i,x,hx,hs,hb'⟩
 ·intro i j x y b hi hj hx hy hbx hby
  rcases look i x hi hx with ⟨rfl,rfl⟩ | ⟨i1,i2,hi'⟩ <;> rcases look j y hj hy with ⟨rfl,rfl⟩ | ⟨j1,j2,hj'⟩
  ·rfl
  ·rcases hb b hbx with h | h
   ·have:=hh.blkLt hj' hy hby; omega
   ·exact absurd (hh.inj j id y ge b hj' hm hy hst2 hby h) j2
  ·rcases hb b hby with h | h
   ·have:=hh.blkLt hi' hx hbx; omega
   ·exact absurd (hh.inj i id x ge b hi' hm hx hst2 hbx h) i2
  ·exact hh.inj i j x y b hi' hj' hx hy hbx hby
 ·intro i x hi hs
  rcases look i x hi (by rw [hs]; decide) with ⟨_,rfl⟩ | ⟨_,_,hx⟩
  ·rw [hst'] at hs; cases hs
  ·exact hx
 ·intro i
  by_cases e1:i=id'
  ·subst e1
   exact .inr ⟨e',ge',by rw [h1,if_pos rfl],Gh.add_same _ _ _,hok⟩
  ·by_cases e2:i=id
   ·subst e2
    refine .inr ⟨_,{ ge with st:=0 },by rw [h1,if_neg e1,ent_set he,if_pos rfl],by rw [Gh.add_other _ _ _ e1,Gh.add_same],fun _=>.inl ⟨rfl,rfl,rfl⟩⟩
   ·refine .inl ⟨by rw [h1,if_neg e1,ent_set he,if_neg e2],by rw [Gh.add_other _ _ _ e1,Gh.add_other _ _ _ e2],fun x g hx hs hg=>hk g (hh.blkLt hx hs hg) (.inl fun hg'=>e2 ?_)⟩
    exact hh.inj i id x ge g hx hm hs hst2 hg hg'
/-! ### Cells of rows -/
def RowC(w:World)(γ:Gh)(sz:Nat)(es:List AV)(cs:List Value):Prop :=
 ∀(i:Nat) (x:AV),es[i]?=some x→x.flat.length=sz∧∀(j:Nat) (y:AV),x.flat[j]?=some y→∃ u,cs[i * sz+j]?=some u∧u.oneCell'=true∧Sim w γ y u
theorem RowC.adv{sz:Nat}{es:List AV}{cs:List Value}(h:RowC w γ sz es cs)(a:Adv γ γ' w w'):RowC w' γ' sz es cs:=fun i x hx=>⟨(h i x hx).1,fun j y hy=>by
 obtain ⟨u,h1,h2,h3⟩:=(h i x hx).2 j y hy
 exact⟨u,h1,h2,h3.adv a⟩⟩
theorem RowC.more{sz:Nat}{es:List AV}{cs:List Value}(h:RowC w γ sz es cs)(ds:List Value):RowC w γ sz es (cs ++ ds):=fun i x hx=>⟨(h i x hx).1,fun j y hy=>by
 obtain ⟨u,h1,h2,h3⟩:=(h i x hx).2 j y hy
 exact⟨u,by rw [List.getElem?_append_left (List.getElem?_eq_some_iff.1 h1).1]; exact h1,h2,h3⟩⟩
theorem RowC.app{sz:Nat}{es fs:List AV}{cs ds:List Value}(h:RowC w γ sz es cs)(k:RowC w γ sz fs ds)(hl:cs.length=es.length * sz):RowC w γ sz (es ++ fs) (cs ++ ds):=by
 intro i x hx
 rcases Nat.lt_or_ge i es.length with hi | hi
 ·rw [List.getElem?_append_left hi] at hx
  exact h.more ds i x hx
 ·rw [List.getElem?_append_right hi] at hx
  refine⟨(k _ x hx).1,fun j y hy=>?_⟩
  obtain ⟨u,h1,h2,h3⟩:=(k _ x hx).2 j y hy
  refine⟨u,?_,h2,h3⟩
  have e:i * sz+j=es.length * sz +((i - es.length) * sz+j):=by
   rw [← Nat.add_assoc,← Nat.add_mul]; congr 2; omega
  rw [e,List.getElem?_append_right (by omega),hl]
  rw [Nat.add_sub_cancel_left]; exact h1
theorem RowC.ok{sz C g:Nat}{ty:TypeId}{es:List AV}{cs:Array Value}{fz:Nat × Nat}(h:RowC w γ sz es cs.toList)(hw:w.heap[g]?=some (.cells cs ty fz))(hs:cs.size=C * sz)(hfz:fz.1=fz.2∨cs.size≤fz.1)(hle:es.length≤C) :
  EntOk w γ ⟨ty,es,true⟩ ⟨some g,sz,C,2⟩ :=
 .inr ⟨rfl,.inr ⟨g,cs,fz,rfl,hw,hs,hfz,hle,fun i x hx=>⟨(h i x hx).1,fun j y hy=>by
  obtain ⟨u,h1,h2,h3⟩:=(h i x hx).2 j y hy
  exact⟨u,by simpa using h1,h2,h3⟩⟩⟩⟩
theorem old_alloc(γ:Gh)(w:World)(o:Obj):Old γ w (w.alloc o):=⟨rfl,rfl,rfl,by simp,fun b hb _=>heap_alloc_old w o hb⟩
def EffV(P:Program)(γ:Gh)(w:World)(s:Sem Value)(x:AV)(H':Hp):Prop :=
 ∃ v w' γ',s.run P w=.ok v w'∧Sim w' γ' x v∧HRel γ' H' w'∧Step γ γ' w w'∧Ids γ γ'
end
end Go.Pv
/-
 The machine of plain values,9: variables and rows that are made.
-/
namespace Go.Pv
section
variable {P:Program} {w w':World} {γ γ':Gh} {fr:Fr} {a:Act} {H H':Hp}
theorem info_of_zero{t:TypeId}{z:Value}(h:zeroOf P t=some z):∃ i,P.info? t=some i∧i.zero=some z∧P.cellsOf t=i.size∧P.bytesOf t=i.bytes:=by
 unfold zeroOf at h
 obtain ⟨i,hi,hz⟩:=Option.bind_eq_some_iff.1 h
 exact⟨i,hi,hz,by simp [Program.cellsOf,hi],by simp [Program.bytesOf,hi]⟩
theorem EffV.of{s:Sem Value}{v:Value}{x:AV}(hr:s.run P w=.ok v w')(hs:Sim w' γ' x v)(h:HRel γ' H' w'∧Step γ γ' w w'∧Ids γ γ'):EffV P γ w s x H':=⟨v,w',γ',hr,hs,h.1,h.2.1,h.2.2⟩
theorem EffV.same{s:Sem Value}{v:Value}{x:AV}(hh:HRel γ H w)(hr:s.run P w=.ok v w)(hs:Sim w γ x v):EffV P γ w s x H:=⟨v,w,γ,hr,hs,hh,Step.refl _ _,Ids.refl _⟩
theorem var_new(hh:HRel γ H w){base:Nat}{r:Option Nat}{ty:TypeId}{X x:AV}(hn:newVar base r H ty X=some (x,H')){s:Sem Value}{cs:Array Value}(hr:s.run P w=.ok (.pointer (some ⟨w.heap.size,0,none⟩)) (w.alloc (.cells cs ty)))
  (hc:CellsR w γ X.flat cs):EffV P γ w s x H':=by
 unfold newVar at hn
 obtain ⟨⟨id,H1⟩,hn1,he⟩:=Option.map_eq_some_iff.1 hn
 simp only[Prod.mk.injEq] at he
 obtain ⟨rfl,rfl⟩:=he
 have hnew:=heap_alloc_new w (.cells cs ty)
 have key:=hrel_new hh hn1 (ge:=⟨some w.heap.size,cs.size,1,2⟩) rfl (old_alloc γ w (.cells cs ty)) (fun b hb=>heap_alloc_old w _ hb) (fun g hg=>by cases hg; exact Nat.le_refl _) (fun ad=>by
  refine RowC.ok (cs:=cs) (fz:=(0,0)) ?_ hnew (by simp) (.inl rfl) (by simp)
  intro i y hy
  cases i with
  | succ i=>simp at hy
  | zero =>
   simp only[List.getElem?_cons_zero,Option.some.injEq] at hy
   subst hy
   refine⟨hc.1.symm,fun j y hy=>?_⟩
   obtain ⟨u,h1,h2,h3⟩:=hc.2 j y hy
   exact⟨u,by simpa using h1,h3,h2.adv ad⟩)
 refine EffV.of hr ?_ key
 have:=Sim.eptr (w:=w.alloc (.cells cs ty)) (γ:=γ.add id ⟨some w.heap.size,cs.size,1,2⟩) id 0 0 w.heap.size _ (Gh.add_same _ _ _) rfl
 simpa using this
theorem ofVal_not_agg(v:Value)(cs:List AV):ofVal v≠.agg cs:=by
 intro h
 cases v <;> simp only[ofVal] at h <;> try (cases h; done)
 ·split at h <;> cases h
 ·split at h
  ·rename_i g _ _ _; cases g <;> dsimp only at h <;>(try split at h) <;> cases h
  ·cases h
theorem flat_one{x:AV}(h:∀ cs,x≠.agg cs):x.flat=[x]:=by cases x <;> first | rfl | exact absurd rfl (h _)
theorem flat_ofZero(z:Value):(ofZero z).flat=z.cells.toList.map ofVal:=by
 cases z <;> try rfl
 ·rename_i a n c; exact flat_one (x:=ofVal (.slice a n c)) (ofVal_not_agg _)
 ·rename_i f a c; exact flat_one (x:=ofVal (.func f a c)) (ofVal_not_agg _)
theorem ofZero_cells{z:Value}(h:z.cells.all oneV=true):CellsR w γ (ofZero z).flat z.cells:=by
 rw [flat_ofZero]
 have h':z.cells.toList.all Value.oneCell'=true:=by
  rw [List.all_eq_true]
  intro x hx
  rw [← oneV_eq]
  exact(Array.all_eq_true_iff_forall_mem.1 h) x (by simpa using hx)
 simpa using ofVals (w:=w) (γ:=γ) z.cells.toList h'
theorem alloc_eff(hh:HRel γ H w){base:Nat}{r:Option Nat}{t:TypeId}{z:Value}{x:AV}(hz:zeroOf P t=some z)(ho:z.cells.all oneV=true)(h:newVar base r H t (ofZero z)=some (x,H')) :
  EffV P γ w (Instr.alloc t true (.tuple #[])) x H' :=
 var_new hh h (cs:=z.cells) (by simp [Instr.alloc,zero_run hz,_root_.Go.newVar,newRow]) (ofZero_cells ho)
theorem box_eff(hh:HRel γ H w){base:Nat}{r:Option Nat}{t:TypeId}{X x:AV}{v:Value}(hs:Sim w γ X v)(ho:X.ones=true)(h:newVar base r H t X=some (x,H')):EffV P γ w (Instr.box t v) x H' :=
 var_new hh h (cs:=v.cells) (by simp [Instr.box,_root_.Go.newVar,newRow]) ⟨(ones_cells hs ho).1,fun i y hy=>(ones_cells hs ho).2 i y hy⟩
theorem row_new(hh:HRel γ H w){base:Nat}{r:Option Nat}{ty:TypeId}{sz C:Nat}{es:List AV}{x:AV}(hn:newVec base r H sz ty es=some (x,H')){s:Sem Value}{cs:Array Value}{fz:Nat × Nat}
  (hr:s.run P w=.ok (.slice (some ⟨w.heap.size,0,none⟩) es.length C) w') (ho:Old γ w w') (hk:∀ b,b < w.heap.size→w'.heap[b]?=w.heap[b]?) (hw:w'.heap[w.heap.size]?=some (.cells cs ty fz))
  (hs:cs.size=C * sz) (hfz:fz.1=fz.2∨cs.size≤fz.1) (hle:es.length≤C) (hc:RowC w γ sz es cs.toList):EffV P γ w s x H':=by
 unfold newVec at hn
 obtain ⟨⟨id,H1⟩,hn1,he⟩:=Option.map_eq_some_iff.1 hn
 simp only[Prod.mk.injEq] at he
 obtain ⟨rfl,rfl⟩:=he
 have key:=hrel_new hh hn1 (ge:=⟨some w.heap.size,sz,C,2⟩) rfl ho hk (fun g hg=>by cases hg; exact Nat.le_refl _) (fun ad=>(hc.adv ad).ok hw hs hfz hle)
 refine EffV.of hr ?_ key
 exact .vec id sz 0 es.length _ C _ (Gh.add_same _ _ _) rfl (by simpa using hle) rfl (fun h=>by cases h) (fun g hg _=>by cases hg; simp)
theorem row_none(hh:HRel γ H w){base:Nat}{r:Option Nat}{ty:TypeId}{sz:Nat}{x:AV}(hn:newVec base r H sz ty []=some (x,H')){s:Sem Value}{A:Option Addr}
  (hr:s.run P w=.ok (.slice A 0 0) w):EffV P γ w s x H':=by
 unfold newVec at hn
 obtain ⟨⟨id,H1⟩,hn1,he⟩:=Option.map_eq_some_iff.1 hn
 simp only[Prod.mk.injEq] at he
 obtain ⟨rfl,rfl⟩:=he
 have key:=hrel_new hh hn1 (ge:=⟨none,sz,0,2⟩) rfl (w':=w) ⟨rfl,rfl,rfl,Nat.le_refl _,fun _ _ _=>rfl⟩ (fun _ _=>rfl) (fun g hg=>by cases hg) (fun ad=>.inr ⟨rfl,.inl ⟨rfl,rfl,rfl⟩⟩)
 refine EffV.of hr ?_ key
 exact .vec id sz 0 0 _ 0 _ (Gh.add_same _ _ _) rfl (Nat.le_refl _) rfl (fun _=>rfl) (fun g hg _=>by cases hg)
theorem zero_row{z:Value}(ho:z.cells.all oneV=true){n m:Nat}(hm:n * z.cells.size≤m):RowC w γ z.cells.size (List.replicate n (ofZero z)) (madeCells z.cells m).toList:=by
 intro i x hx
 rw [List.getElem?_replicate] at hx
 split at hx
 case isFalse=>cases hx
 rename_i hi
 cases hx
 have hc:=ofZero_cells (w:=w) (γ:=γ) ho
 refine⟨hc.1.symm,fun j y hy=>?_⟩
 obtain ⟨u,h1,h2,h3⟩:=hc.2 j y hy
 have hj:j < z.cells.size:=(Array.getElem?_eq_some_iff.1 h1).1
 refine⟨u,?_,h3,h2⟩
 have hlt:i * z.cells.size+j < m:=by
  have:(i+1) * z.cells.size≤n * z.cells.size:=Nat.mul_le_mul_right _ hi
  rw [Nat.add_mul,Nat.one_mul] at this
  omega
 have hmod:(i * z.cells.size+j) % z.cells.size=j:=by
  rw [Nat.add_comm,Nat.add_mul_mod_self_right,Nat.mod_eq_of_lt hj]
 obtain ⟨_,hget⟩:=Array.getElem?_eq_some_iff.1 h1
 simp [madeCells,hlt,hmod,hj,hget]
theorem parts_run{sz:Nat}:∀(ps:List (Nat × Value)) (qs:List (Nat × AV)) (es:List AV) (cs:Array Value) (zs:List AV),
  ps.length=qs.length →(∀(i:Nat) (p:Nat × Value) (q:Nat × AV),ps[i]?=some p→qs[i]?=some q→p.1=q.1∧Sim w γ q.2 p.2) →
  RowC w γ sz es cs.toList→cs.size=es.length * sz→setParts sz es qs=some zs →
  ∃ ds,Instr.fill (fun i=>some (i * sz,sz)) cs ps=some ds∧RowC w γ sz zs ds.toList∧ds.size=zs.length * sz∧zs.length=es.length
 | [],[],es,cs,zs,_,_,hr,hs,h=>by cases h; exact⟨cs,rfl,hr,hs,rfl⟩
 | (i,v) :: ps,(k,V) :: qs,es,cs,zs,hl,hp,hr,hsz,h=>by
  obtain ⟨hp0,hs⟩:=hp 0 _ _ rfl rfl
  dsimp only at hp0 hs
  subst hp0
  simp only[setParts] at h
  split at h
  case isFalse=>cases h
  rename_i hc
  obtain ⟨ho,hn,hle⟩:=hc
  obtain ⟨hvs,hcell⟩:=ones_cells hs ho
  have hlt:i * sz+sz≤cs.size:=by
   have:(i+1) * sz≤es.length * sz:=Nat.mul_le_mul_right _ hle
   rw [Nat.add_mul,Nat.one_mul] at this
   omega
  simp only[Instr.fill]
  rw [if_neg (by simp only[Bool.or_eq_true,decide_eq_true_eq,not_or]; omega)]
  obtain ⟨f1,f2⟩:=foldl_set_arr (i * sz) v.cells cs (by omega)
  obtain ⟨ds,hd1,hd2,hd3,hd4⟩:=parts_run (sz:=sz) ps qs (es.set i V) _ zs (by simpa using hl) (fun j p q h1 h2=>hp (j+1) p q (by simpa using h1) (by simpa using h2)) (by
   intro j x hx
   by_cases hj:j=i
   ·subst hj
    rw [List.getElem?_set_self hle] at hx
    cases hx
    refine⟨hn,fun k y hy=>?_⟩
    obtain ⟨u,h1,h2,h3⟩:=hcell k y hy
    have hk:k < v.cells.size:=(Array.getElem?_eq_some_iff.1 h1).1
    refine⟨u,?_,h3,h2⟩
    rw [Array.getElem?_toList,f2,if_pos (by omega),Nat.add_sub_cancel_left]
    exact h1
   ·rw [List.getElem?_set_ne (fun e=>hj e.symm)] at hx
    refine⟨(hr j x hx).1,fun k y hy=>?_⟩
    obtain ⟨u,h1,h2,h3⟩:=(hr j x hx).2 k y hy
    refine⟨u,?_,h2,h3⟩
    have hk:k < sz:=by
     have:=(List.getElem?_eq_some_iff.1 hy).1
     rw [(hr j x hx).1] at this; exact this
    rw [Array.getElem?_toList] at h1 ⊢
    rw [f2,if_neg ?_]
    ·exact h1
    ·rcases Nat.lt_or_ge j i with hji | hji
     ·have:(j+1) * sz≤i * sz:=Nat.mul_le_mul_right _ hji
      rw [Nat.add_mul,Nat.one_mul] at this
      omega
     ·have:(i+1) * sz≤j * sz:=Nat.mul_le_mul_right _ (by omega)
      rw [Nat.add_mul,Nat.one_mul] at this
      omega) (by rw [f1,hsz]; simp) h
  exact⟨ds,hd1,hd2,hd3,by rw [hd4]; simp⟩
 | [],_ :: _,_,_,_,hl,_,_,_,_=>by simp at hl
 | _ :: _,[],_,_,_,hl,_,_,_,_=>by simp at hl
theorem mks_eff(hh:HRel γ H w)(hf:FrR w γ fr a.tmps){base:Nat}{r:Option Nat}{t e:TypeId}{len:Nat}{z:Value}{parts:Array (Nat × Operand)}{x:AV}(ht:P.underlying t=some (.slice e))(hz:zeroOf P e=some z)
  (hsz:z.cells.size=P.cellsOf e) (ho:z.cells.all oneV=true) (hle:len * P.cellsOf e≤16777216)
  (h:evE base r fr H (.mks e (P.cellsOf e) (ofZero z) len (parts.toList.map fun p=>(p.1,cx p.2)))=some (x,H')) :
  EffV P γ w (Instr.buildSlice t len (parts.map fun p=>(p.1,a.eval p.2))) x H':=by
 simp only[evE] at h
 obtain ⟨es,hes,h⟩:=Option.bind_eq_some_iff.1 h
 rw [List.map_map] at hes
 obtain ⟨i,hi,hzz,hci,_⟩:=info_of_zero hz
 have hrow:=zero_row (w:=w) (γ:=γ) ho (n:=len) (m:=len * z.cells.size) (Nat.le_refl _)
 obtain ⟨ds,hd1,hd2,hd3,hd4⟩:=parts_run (w:=w) (γ:=γ) (parts.toList.map fun p=>(p.1,a.eval p.2)) _ _ _ es (by simp) (by
  intro i p q h1 h2
  rw [List.getElem?_map] at h1 h2
  obtain ⟨p0,hp0,rfl⟩:=Option.map_eq_some_iff.1 h1
  rw [hp0] at h2
  simp only[Option.map_some,Option.some.injEq] at h2
  subst h2
  exact⟨rfl,cx_sim hf p0.2⟩) (hsz ▸ hrow) (by rw [size_madeCells,List.length_replicate,← hsz]) hes
 have hlen:es.length=len:=by rw [hd4,List.length_replicate]
 have hnot:¬ 2 ^ 24 < len * i.size:=by rw [← hci]; omega
 refine row_new hh h (cs:=ds) (fz:=(0,0)) (C:=len) (w':=w.alloc (.cells ds e)) ?_ (old_alloc _ _ _) (fun b hb=>heap_alloc_old w _ hb) (heap_alloc_new w _) (by rw [hd3,hlen]) (.inl rfl) (by omega) hd2
 rw [hlen]
 have hparts:(parts.map fun p=>(p.1,a.eval p.2)).toList=parts.toList.map fun p=>(p.1,a.eval p.2):=by simp
 by_cases h0:len * i.size=0
 ·have hmade:madeCells z.cells (len * z.cells.size)=#[]:=by
   rw [hsz,hci,h0]; simp [madeCells,Array.range_zero']
  rw [← hsz,hmade,hsz,hci] at hd1
  simp [Instr.buildSlice,run_underlying ht,sizeOf,typeInfo,hi,h0,newRow,Array.range_zero',hd1]
 ·rw [hci] at hd1
  unfold madeCells at hd1
  simp [Instr.buildSlice,run_underlying ht,sizeOf,typeInfo,zeroValue,hi,hzz,hnot,h0,newRow,hd1]
theorem bound_inv{hi n:Nat}{X:AV}(h:bound hi X=some n):∃ k z,X=.int k z∧0≤z∧z≤hi∧n=z.toNat:=by
 cases X <;> simp only[bound] at h <;> try (cases h; done)
 rename_i k z
 split at h
 ·rename_i hz
  cases h
  exact⟨k,z,rfl,hz.1,hz.2,rfl⟩
 ·cases h
theorem make_eff(hh:HRel γ H w)(hf:FrR w γ fr a.tmps){base:Nat}{r:Option Nat}{t e:TypeId}{l c:Operand}{z:Value}{x:AV}(ht:P.underlying t=some (.slice e))(hz:zeroOf P e=some z)
  (hsz:z.cells.size=P.cellsOf e) (ho:z.cells.all oneV=true) (hby:P.bytesOf e≤1000)
  (h:evE base r fr H (.make e (P.cellsOf e) (ofZero z) (cx l) (cx c))=some (x,H')):EffV P γ w (Instr.makeSlice t (a.eval l) (a.eval c)) x H':=by
 simp only[evE] at h
 obtain ⟨C,hC,h⟩:=Option.bind_eq_some_iff.1 h
 obtain ⟨n,hn,h⟩:=Option.bind_eq_some_iff.1 h
 obtain ⟨i,hi,hzz,hci,hbi⟩:=info_of_zero hz
 have sl:=cx_sim hf l
 have sc:=cx_sim hf c
 obtain ⟨kc,cn,ec,hc0,hcl,rfl⟩:=bound_inv hC
 obtain ⟨kl,ln,el,hl0,hll,rfl⟩:=bound_inv hn
 rw [ec] at sc
 rw [el] at sl
 rw [int_inv sl,int_inv sc]
 have hlim:(lim:Int)=1000000000:=rfl
 have hb:(i.bytes:Int) * cn≤281474976710656:=by
  have h1:(i.bytes:Int)≤1000:=by rw [← hbi]; omega
  have h2:(i.bytes:Int) * cn≤1000 * cn:=Int.mul_le_mul_of_nonneg_right h1 hc0
  omega
 have hr:=run_make (P:=P) w t e i z ht hi hzz kl kc ln cn hl0 (by omega) hb (by omega)
 refine row_new hh h (cs:=madeCells z.cells (cn.toNat * i.size)) (fz:=(0,0)) (C:=cn.toNat) (by rw [List.length_replicate]; exact hr) (old_alloc _ _ _) (fun b hb=>heap_alloc_old w _ hb) (heap_alloc_new w _) (by rw [size_madeCells,hci]) (.inl rfl) (by simp; omega) ?_
 rw [← hsz]
 exact zero_row ho (by rw [hsz,hci]; exact Nat.mul_le_mul_right _ (by omega))
theorem s2b_eff(hh:HRel γ H w){base:Nat}{r:Option Nat}{s d e:TypeId}(hs:P.underlying s=some .string)(hd:P.underlying d=some (.slice e))(he:P.underlying e=some (.int .u8)){X:AX}{v:Value}{x:AV}(hx:Sim w γ (X.ev fr) v)
  (h:evE base r fr H (.s2b e X)=some (x,H')):EffV P γ w (convert s d v) x H':=by
 simp only[evE] at h
 generalize X.ev fr=XX at *
 cases XX <;> try (cases h; done)
 rename_i s'
 dsimp only at h
 split at h
 case isFalse=>cases h
 rename_i hl
 rw [str_inv hx]
 have hr:=Lib.run_convert_string_bytes (P:=P) w s d e ⟨s'.toArray⟩ hs hd he
 have hsize:(⟨s'.toArray⟩:ByteArray).size=s'.length:=size_mk s'
 have hge:=grownCap_ge w s'.length 0 e
 have hcs:(Lib.bytesCells w e ⟨s'.toArray⟩).size=grownCap w s'.length 0 e:=by
  simp [Lib.bytesCells,hsize]; omega
 refine row_new hh h (w':=Lib.bytesWorld w e ⟨s'.toArray⟩) (cs:=Lib.bytesCells w e ⟨s'.toArray⟩) (fz:=((Lib.bytesCells w e ⟨s'.toArray⟩).size,(Lib.bytesCells w e ⟨s'.toArray⟩).size+1)) (C:=grownCap w s'.length 0 e) (by rw [List.length_map]; rw [hsize] at hr; exact hr) ⟨rfl,rfl,rfl,by rw [Lib.bytesWorld_size]; omega,fun b hb _=>Lib.bytesWorld_at_old w e _ b hb⟩
  (fun b hb=>Lib.bytesWorld_at_old w e _ b hb) (Lib.bytesWorld_at_new w e _) (by rw [hcs,Nat.mul_one]) (.inr (Nat.le_refl _)) (by rw [List.length_map]; exact hge) ?_
 intro i y hy
 rw [List.getElem?_map] at hy
 obtain ⟨b,hb,rfl⟩:=Option.map_eq_some_iff.1 hy
 refine⟨rfl,fun j y hj=>?_⟩
 cases j with
 | succ j=>simp [bv,AV.flat] at hj
 | zero =>
  simp only[bv,AV.flat,List.getElem?_cons_zero,Option.some.injEq] at hj
  subst hj
  refine⟨.int .u8 b.toNat,?_,rfl,.int _ _⟩
  have hi:i < s'.length:=(List.getElem?_eq_some_iff.1 hb).1
  simp [Lib.bytesCells]
  rw [List.getElem?_append_left (by simpa using hi)]
  simp [hb]
end
end Go.Pv
/-
 The machine of plain values,10: rows that are written,and grown.
-/
namespace Go.Pv
section
variable {P:Program} {w w':World} {γ γ':Gh} {fr:Fr} {a:Act} {H H':Hp}
theorem setCells_same(g:Nat):∀(vs:List Value) (o:Nat) (w:World),(w.setCells g o vs).os=w.os ∧(w.setCells g o vs).tape=w.tape ∧(w.setCells g o vs).output=w.output ∧(w.setCells g o vs).heap.size=w.heap.size∧∀ b,b≠g →(w.setCells g o vs).heap[b]?=w.heap[b]?
 | [],o,w=>⟨rfl,rfl,rfl,rfl,fun _ _=>rfl⟩
 | v :: r,o,w=>by
  obtain ⟨h1,h2,h3,h4,h5⟩:=setCells_same g r (o+1) (w.setCell ⟨g,o,none⟩ v)
  refine⟨h1,h2,h3,by rw [World.setCells,h4]; simp [World.setCell],fun b hb=>?_⟩
  rw [World.setCells,h5 b hb]
  exact heap_setCell_other w _ b v hb
theorem setCell_blk{g o:Nat}{cs:Array Value}{t:TypeId}{fz:Nat × Nat}(hw:w.heap[g]?=some (.cells cs t fz))(v:Value):(w.setCell ⟨g,o,none⟩ v).heap[g]?=some (.cells (cs.setIfInBounds o v) t fz):=by
 rw [setCell_eq_setRow w g o cs t fz v hw]
 exact setRow_heap w g cs _ t _ hw
theorem setCells_blk{g:Nat}{t:TypeId}{fz:Nat × Nat}:∀(vs:List Value) (o:Nat) (w:World) (cs:Array Value),w.heap[g]?=some (.cells cs t fz)→o+vs.length≤cs.size →
  ∃ ds:Array Value,(w.setCells g o vs).heap[g]?=some (.cells ds t fz)∧ds.size=cs.size∧∀ i,ds[i]?=if o≤i∧i < o+vs.length then vs[i - o]? else cs[i]?
 | [],o,w,cs,hw,_=>⟨cs,hw,rfl,fun i=>by rw [if_neg (by simp only[List.length_nil]; omega)]⟩
 | v :: r,o,w,cs,hw,hl=>by
  have hlo:o < cs.size:=by simp at hl; omega
  obtain ⟨ds,h1,h2,h3⟩:=setCells_blk r (o+1) (w.setCell ⟨g,o,none⟩ v) (cs.setIfInBounds o v) (setCell_blk hw v) (by simp at hl ⊢; omega)
  refine⟨ds,h1,by rw [h2]; simp,fun i=>?_⟩
  rw [h3]
  by_cases hi:i=o
  ·subst hi
   rw [if_neg (by omega),if_pos (by simp),Nat.sub_self]
   simp [hlo]
  ·by_cases h4:o+1≤i∧i < o+1+r.length
   ·rw [if_pos h4,if_pos (by simp; omega),show i - o =(i - (o+1))+1 by omega]
    rfl
   ·rw [if_neg h4,if_neg (by simp; omega),Array.getElem?_setIfInBounds_ne (by omega)]
theorem old_set{id g:Nat}{ge:GE}(hm:γ.m id=some ge)(hst:ge.st=2)(hg:ge.blk=some g)(o:Nat)(vs:List Value):Old γ w (w.setCells g o vs):=by
 obtain ⟨h1,h2,h3,h4,h5⟩:=setCells_same g vs o w
 refine⟨h1,h2,h3,by rw [h4]; exact Nat.le_refl _,fun b _ hb=>h5 b fun e=>hb ?_⟩
 subst e
 exact⟨id,ge,hm,hst,hg⟩
theorem wr_live{e:Ent}{ge:GE}(h:EntOk w γ e ge)(hw:e.wr=true):ge.st=2:=by
 have:=(h.live (.inl hw)).1
 rw [hw] at this; exact this
theorem placed{e:Ent}{ge:GE}{g:Nat}(h:EntOk w γ e ge)(hw:e.wr=true)(hg:ge.blk=some g):∃ cs fz,w.heap[g]?=some (.cells cs e.ty fz)∧cs.size=ge.C * ge.sz ∧(fz.1=fz.2∨cs.size≤fz.1)∧e.es.length≤ge.C∧RowC w γ ge.sz e.es cs.toList:=by
 rcases (h.live (.inl hw)).2 with ⟨h1,_⟩ | ⟨g',cs,fr,h1,h2,h3,h4,h5,h6⟩
 ·rw [h1] at hg; cases hg
 ·rw [h1] at hg; cases hg
  exact⟨cs,fr,h2,h3,h4,h5,fun i x hx=>⟨(h6 i x hx).1,fun j y hy=>by
   obtain ⟨u,hu⟩:=(h6 i x hx).2 j y hy
   exact⟨u,by simpa using hu⟩⟩⟩
theorem blk_cell{g o:Nat}{cs:Array Value}{t:TypeId}{fz:Nat × Nat}(hw:w.heap[g]?=some (.cells cs t fz))(ho:o < cs.size):(w.cell? ⟨g,o,none⟩).isSome=true:=by simp [World.cell?,hw,ho]
theorem blk_froz{g o:Nat}{cs:Array Value}{t:TypeId}{fz:Nat × Nat}(hw:w.heap[g]?=some (.cells cs t fz))(hf:fz.1=fz.2∨cs.size≤fz.1)(ho:o < cs.size):w.frozen? ⟨g,o,none⟩=false:=by
 obtain ⟨lo,hi⟩:=fz
 simp only[World.frozen?,hw,Bool.and_eq_false_iff,decide_eq_false_iff_not]
 simp only at hf
 omega
theorem RowC.lay{sz k:Nat}{es fs:List AV}{cs ds vs:List Value}(h:RowC w γ sz es cs)(hf:RowC w γ sz fs vs)(hvs:vs.length=fs.length * sz)(hk:k≤es.length)
  (hd:∀ i,ds[i]?=if k * sz≤i∧i < k * sz+vs.length then vs[i - k * sz]? else cs[i]?):RowC w γ sz (es.take k ++(fs ++ es.drop (k+fs.length))) ds:=by
 intro i x hx
 have htk:(es.take k).length=k:=by simp; omega
 by_cases h1:i < k
 ·rw [List.getElem?_append_left (by omega),List.getElem?_take,if_pos h1] at hx
  refine⟨(h i x hx).1,fun j y hy=>?_⟩
  obtain ⟨u,h2,h3⟩:=(h i x hx).2 j y hy
  refine⟨u,?_,h3⟩
  have hj:j < sz:=by
   have:=(List.getElem?_eq_some_iff.1 hy).1
   rw [(h i x hx).1] at this; exact this
  have:(i+1) * sz≤k * sz:=Nat.mul_le_mul_right _ h1
  rw [Nat.add_mul,Nat.one_mul] at this
  rw [hd,if_neg (by omega)]; exact h2
 ·rw [List.getElem?_append_right (by omega),htk] at hx
  by_cases h2:i - k < fs.length
  ·rw [List.getElem?_append_left h2] at hx
   refine⟨(hf _ x hx).1,fun j y hy=>?_⟩
   obtain ⟨u,h3,h4⟩:=(hf _ x hx).2 j y hy
   refine⟨u,?_,h4⟩
   have e:i * sz+j=k * sz +((i - k) * sz+j):=by
    rw [← Nat.add_assoc,← Nat.add_mul]; congr 2; omega
   have hlt:=(List.getElem?_eq_some_iff.1 h3).1
   rw [hd,e,if_pos (by omega),Nat.add_sub_cancel_left]; exact h3
  ·rw [List.getElem?_append_right (by omega),List.getElem?_drop] at hx
   rw [show k+fs.length +(i - k - fs.length)=i by omega] at hx
   refine⟨(h i x hx).1,fun j y hy=>?_⟩
   obtain ⟨u,h3,h4⟩:=(h i x hx).2 j y hy
   refine⟨u,?_,h4⟩
   have:(k+fs.length) * sz≤i * sz:=Nat.mul_le_mul_right _ (by omega)
   rw [Nat.add_mul] at this
   rw [hd,if_neg (by omega)]; exact h3
theorem store_eff(hh:HRel γ H w)(hf:FrR w γ fr a.tmps){base:Nat}{r:Option Nat}{t:TypeId}{X V:Operand}{x:AV}(ht:tyOk P t=true)
  (h:evE base r fr H (.store (P.cellsOf t) (cx X) (cx V))=some (x,H')):∃ w' γ',(Instr.storeAt t (a.eval X) (a.eval V)).run P w=.ok () w'∧x=.undef∧HRel γ' H' w'∧Step γ γ' w w'∧Ids γ γ':=by
 simp only[evE] at h
 have sx:=cx_sim hf X
 have sv:=cx_sim hf V
 generalize (cx X).ev fr=XX at *
 cases XX <;> try (cases h; done)
 rename_i id i off
 obtain ⟨e,he,h⟩:=Option.bind_eq_some_iff.1 h
 split at h
 case isFalse=>cases h
 rename_i hwr
 obtain ⟨y,hy,h⟩:=Option.bind_eq_some_iff.1 h
 obtain ⟨y',hy',h⟩:=Option.map_eq_some_iff.1 h
 simp only[Prod.mk.injEq] at h
 obtain ⟨rfl,rfl⟩:=h
 generalize hA:a.eval X=ax at sx
 cases sx with
 | eptr _ _ _ g ge hm hg =>
 obtain ⟨ge',hm',hok⟩:=hh.ok id e he
 rw [hm] at hm'; cases hm'
 have hst:=wr_live hok hwr
 obtain ⟨cs,fz,hw,hs,hfz,hle,hrow⟩:=placed hok hwr hg
 unfold sC at hy'
 split at hy'
 case isFalse=>cases hy'
 rename_i hc
 simp only[Bool.and_eq_true,beq_iff_eq] at hc
 obtain ⟨hones,hlen⟩:=hc
 obtain ⟨hvs,hcell⟩:=ones_cells sv hones
 have hilt:i < e.es.length:=(List.getElem?_eq_some_iff.1 hy).1
 have hyl:=(hrow i y hy).1
 have hbound:off+P.cellsOf t≤ge.sz∧y'.flat=y.flat.take off ++((cx V).ev fr).flat ++ y.flat.drop (off+P.cellsOf t):=by
  split at hy'
  ·rename_i cs'
   split at hy'
   case isFalse=>cases hy'
   cases hy'
   exact⟨by simpa [← hyl,AV.flat] using ‹_›,by simp [AV.flat]⟩
  ·rename_i hnot
   split at hy'
   case isFalse=>cases hy'
   rename_i h0
   subst h0
   split at hy'
   ·cases hy'
   ·rename_i hnv
    cases hy'
    have f1:y.flat=[y]:=flat_one fun cs e=>hnot cs e
    have f2:((cx V).ev fr).flat=[(cx V).ev fr]:=flat_one fun cs e=>hnv cs e
    rw [f2] at hlen
    simp only[List.length_cons,List.length_nil] at hlen
    rw [f1] at hyl
    simp only[List.length_cons,List.length_nil] at hyl
    refine⟨by omega,?_⟩
    rw [← hlen,f1,f2]; rfl
 obtain ⟨hoff,hflat⟩:=hbound
 have hin:(i+1) * ge.sz≤ge.C * ge.sz:=Nat.mul_le_mul_right _ (by omega)
 rw [Nat.add_mul,Nat.one_mul] at hin
 have hvl:(a.eval V).cells.toList.length=P.cellsOf t:=by simp [hvs,hlen]
 have hrun:=run_storeCells_cells (P:=P) g (i * ge.sz+off) (a.eval V).cells.toList 0 w (fun j hj=>blk_cell hw (by omega)) (fun j hj=>blk_froz hw hfz (by omega)) (fun v hv=>by
  obtain ⟨k,hk⟩:=List.mem_iff_getElem?.1 hv
  have hk':k <((cx V).ev fr).flat.length:=by
   have:=(List.getElem?_eq_some_iff.1 hk).1; omega
  obtain ⟨u,h1,_,h3⟩:=hcell k _ (List.getElem?_eq_getElem hk')
  rw [Array.getElem?_toList] at hk
  rw [h1] at hk; cases hk; exact h3)
 obtain ⟨ds,hd1,hd2,hd3⟩:=setCells_blk (a.eval V).cells.toList (i * ge.sz+off) w cs hw (by omega)
 have key:=hrel_upd (e':={ e with es:=e.es.set i y' }) hh he hm hst hg (old_set hm hst hg _ _) (setCells_same g (a.eval V).cells.toList (i * ge.sz+off) w).2.2.2.2 (fun ad=>by
  have:=RowC.ok (w:=w.setCells g (i * ge.sz+off) (a.eval V).cells.toList) (γ:=γ) (sz:=ge.sz) (C:=ge.C) (ty:=e.ty) (es:=e.es.set i y') (cs:=ds) ?_ hd1 (by rw [hd2,hs]) (by rw [hd2]; exact hfz) (by simpa using hle)
  ·obtain ⟨blk,sz,C,st⟩:=ge
   simp only at hg hst
   subst hg hst
   obtain ⟨ety,ees,ewr⟩:=e
   simp only at hwr
   subst hwr
   exact this
  ·intro j x hx
   by_cases hj:j=i
   ·subst hj
    rw [List.getElem?_set_self hilt] at hx
    cases hx
    refine⟨by rw [hflat]; simp; omega,fun k z hz=>?_⟩
    rw [hflat,List.append_assoc] at hz
    have htk:(y.flat.take off).length=off:=by simp; omega
    rw [Array.getElem?_toList,hd3]
    by_cases h1:k < off
    ·rw [List.getElem?_append_left (by omega),List.getElem?_take,if_pos h1] at hz
     obtain ⟨u,h2,h3,h4⟩:=(hrow j y hy).2 k z hz
     refine⟨u,?_,h3,h4.adv ad⟩
     rw [if_neg (by omega)]; simpa using h2
    ·rw [List.getElem?_append_right (by omega),htk] at hz
     by_cases h2:k - off <((cx V).ev fr).flat.length
     ·rw [List.getElem?_append_left h2] at hz
      obtain ⟨u,h3,h4,h5⟩:=hcell _ z hz
      refine⟨u,?_,h5,h4.adv ad⟩
      rw [if_pos (by omega),show j * ge.sz+k - (j * ge.sz+off)=k - off by omega]; simpa using h3
     ·rw [List.getElem?_append_right (by omega),List.getElem?_drop] at hz
      rw [show off+P.cellsOf t +(k - off - ((cx V).ev fr).flat.length)=k by omega] at hz
      obtain ⟨u,h2,h3,h4⟩:=(hrow j y hy).2 k z hz
      refine⟨u,?_,h3,h4.adv ad⟩
      rw [if_neg (by omega)]; simpa using h2
   ·rw [List.getElem?_set_ne (fun e=>hj e.symm)] at hx
    refine⟨(hrow j x hx).1,fun k z hz=>?_⟩
    obtain ⟨u,h2,h3,h4⟩:=(hrow j x hx).2 k z hz
    refine⟨u,?_,h3,h4.adv ad⟩
    have hk:k < ge.sz:=by
     have:=(List.getElem?_eq_some_iff.1 hz).1
     rw [(hrow j x hx).1] at this; exact this
    rw [Array.getElem?_toList] at h2 ⊢
    rw [hd3,if_neg ?_]
    ·exact h2
    ·rcases Nat.lt_or_ge j i with hji | hji
     ·have:(j+1) * ge.sz≤i * ge.sz:=Nat.mul_le_mul_right _ hji
      rw [Nat.add_mul,Nat.one_mul] at this
      omega
     ·have:(i+1) * ge.sz≤j * ge.sz:=Nat.mul_le_mul_right _ (by omega)
      rw [Nat.add_mul,Nat.one_mul] at this
      omega)
 refine⟨_,γ,?_,rfl,key.1,key.2,Ids.refl _⟩
 have hsz:¬(a.eval V).cells.size≠P.cellsOf t:=by rw [hvs,hlen]; simp
 simp only[Nat.add_zero] at hrun
 simp [Instr.storeAt,Instr.sureAddr,storeVar,run_sizeOf ht,hvs,hlen,hrun]
end
end Go.Pv
