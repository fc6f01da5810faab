/- Part 16 of a proof that a step of one domain changes nothing of another: the machine of plain values, and what the program's functions do. -/
import Derived.Test.YtdgcdnnmodnkjaaGreatDoorG15
import Derived.KernelRfl
import Derived.Test.YtdgcdnnmodnkjaaGreatDoorProg
set_option linter.all false
set_option linter.unusedVariables false
set_option linter.unusedSectionVars false
set_option linter.unusedSimpArgs false
set_option linter.defProp false
namespace Go.Pv.W
open Go.Pv
def m(d x:Nat):Op2:=⟨some d,none,.p (.mv (.t x)),false,[]⟩
def k(d:Nat)(v:AV):Op2:=⟨some d,none,.p (.mv (.c v)),false,[]⟩
def n(d:Nat)(i:Int):Op2:=⟨some d,none,.p (.mv (.c (.int .i64 i))),false,[]⟩
def pt(d t y:Nat):Op2:=⟨some d,none,.p (.pick (.t t) (.c (.bool true)) (.t y)),false,[]⟩
def pf(d t x:Nat):Op2:=⟨some d,none,.p (.pick (.t t) (.t x) (.c (.bool false))),false,[]⟩
def pk(d t x y:Nat):Op2:=⟨some d,none,.p (.pick (.t t) (.t x) (.t y)),false,[]⟩
def b(o:BinOp)(d x y:Nat):Op2:=⟨some d,none,.p (.bin o (.t x) (.t y)),false,[]⟩
def c(o:BinOp)(d x:Nat)(i:Int):Op2:=⟨some d,none,.p (.bin o (.t x) (.c (.int .i64 i))),false,[]⟩
def nt(d x:Nat):Op2:=⟨some d,none,.p (.un .not (.t x)),false,[]⟩
def cv(d:Nat)(k:IntKind)(x:Nat):Op2:=⟨some d,none,.p (.convI k (.t x)),false,[]⟩
def fa(d o x:Nat):Op2:=⟨some d,none,.p (.faddr o (.t x)),false,[]⟩
def ia(d s x i:Nat):Op2:=⟨some d,none,.p (.iaddr s (.t x) (.t i)),false,[]⟩
def l(d x:Nat):Op2:=⟨some d,none,.p (.len (.t x)),false,[]⟩
def e(d x i:Nat):Op2:=⟨some d,none,.p (.ext (.t x) i),false,[]⟩
def ck(d x:Nat):Op2:=⟨some d,none,.p (.nilck (.t x)),false,[]⟩
def fn(d f:Nat)(xs:List Nat):Op2:=⟨some d,none,.p (.mkfn f (xs.map .t)),false,[]⟩
def p(d:Nat)(q:OpP):Op2:=⟨some d,none,.p q,false,[]⟩
def ld(d n x:Nat):Op2:=⟨some d,none,.r (.load n false (.t x)),false,[]⟩
def la(d n x:Nat):Op2:=⟨some d,none,.r (.load n true (.t x)),false,[]⟩
def lg(g:Bool)(d n x:Nat):Op2:=⟨some d,none,.r (.load n g (.t x)),false,[]⟩
def rd(d:Nat)(q:OpR)(no:List TypeId):Op2:=⟨some d,none,.r q,false,no⟩
def al(d ty:Nat)(z:AV):Op2:=⟨some d,none,.e (.alloc ty z) none,false,[]⟩
def bx(d ty x:Nat):Op2:=⟨some d,none,.e (.box ty (.t x)) none,false,[]⟩
def st(n x v:Nat):Op2:=⟨none,none,.e (.store n (.t x) (.t v)) none,false,[]⟩
def sr(j n x v:Nat):Op2:=⟨none,none,.e (.store n (.t x) (.t v)) (some j),false,[]⟩
def ef(d:Option Nat)(q:OpE)(r:Option Nat):Op2:=⟨d,none,.e q r,false,[]⟩
def ca(d f:Nat)(xs:List Nat):Op2:=⟨some d,none,.call f (xs.map .t) false,false,[]⟩
def cd(d f:Nat)(xs:List Nat)(no:List TypeId):Op2:=⟨some d,none,.call f (xs.map .t) true,false,no⟩
def cw(d x:Nat)(xs:List Nat):Op2:=⟨some d,none,.callv (.t x) (xs.map .t),false,[]⟩
def o(d:Option Nat)(q:Op1)(no:List TypeId):Op2:=⟨d,none,q,false,no⟩
def gt(t:Nat)(x:Op2):Op2:={ x with guard:=some (t,true) }
def gf(t:Nat)(x:Op2):Op2:={ x with guard:=some (t,false) }
def sf(f:Bool)(x:Op2):Op2:={ x with fm:=f }
abbrev T(n:Nat):AX:=.t n
abbrev I(n:Int):AX:=.c (.int .i64 n)
abbrev C(v:AV):AX:=.c v
def R(ks:List Nat)(ops:List Op2):AC:=.region 0 (ops.map (sf false)) (some ⟨ks,[],false⟩)
def D(j:Nat)(f g:Bool)(ks:List Nat)(ops:List Op2):AC:=.region (j+1) (ops.map (sf f)) (some ⟨ks,[],g⟩)
def A(j:Nat)(f g:Bool)(ps:List (Nat × Nat))(ks:List Nat)(ops:List Op2):AC:=.regionA (j+1) (ops.map (sf f)) ps (some ⟨ks,[],g⟩)
def q(x y:AC):AC:=.seq x y
def i(t:Nat)(x y:AC):AC:=.cond (.t t) x y
def bl(i:Nat)(x:AC):AC:=.block i x
def lo(g:Bool)(ks:List Nat)(ns:List (Nat × Nat × TypeId))(x:AC):AC:=.loop (some ⟨ks,ns,g⟩) x
def s:AC:=.skip
def x(i:Nat):AC:=.exit i
def r:AC:=.ret
section
variable [Lq] {P:Program} {K:AE→Kf} {N:Kf} {fr:Fr} {hp:Hp} {base:Nat} {f:Bool} {rest:List Op2}
def wX(f:Bool)(P:Program)(base:Nat)(ops:List Op2)(fr:Fr)(hp:Hp)(N:Kf):Prop:=wOps P base (ops.map (sf f)) fr hp N
def tK(ks:List Nat)(g:Bool)(N:Kf)(fr:Fr)(hp:Hp):Prop:=trimC (some ⟨ks,[],g⟩) N fr hp
theorem tK_0{ks:List Nat}:tK ks false N fr hp=N (ksF fr ks) hp:=by rw [tK,trimC_e,nilsC_0]
theorem tK_1{ks:List Nat}:tK ks true N fr hp=gcC N (ksF fr ks) hp:=by rw [tK,trimC_e,nilsC_g]
theorem d_R{ks:List Nat}{ops:List Op2}:aD P (R ks ops) K fr hp=wX false P hp.length ops fr hp (tK ks false (K .normal)):=d_region0
theorem d_D{j:Nat}{g:Bool}{ks:List Nat}{ops:List Op2}:aD P (D j f g ks ops) K fr hp=wX f P hp.length ops fr (hp ++ List.replicate (j+1) none) (tK ks g (K .normal)):=(rfl)
theorem d_A{j:Nat}{g:Bool}{ps:List (Nat × Nat)}{ks:List Nat}{ops:List Op2}:aD P (A j f g ps ks ops) K fr hp=wX f P hp.length ops fr (hp ++ List.replicate (j+1) none) (apsC ps (tK ks g (K .normal))):=(rfl)
theorem d_q{a b:AC}:aD P (q a b) K fr hp=aD P a (thenC (aD P b K) K) fr hp:=(rfl)
theorem d_i{t:Nat}{x y:AC}:aD P (i t x y) K fr hp=condC (getF fr t) (aD P x K) (aD P y K) fr hp:=(rfl)
theorem d_bl{i:Nat}{x:AC}:aD P (bl i x) K fr hp=aD P x (blkC i K) fr hp:=(rfl)
theorem d_s:aD P s K fr hp=K .normal fr hp:=(rfl)
theorem d_x{i:Nat}:aD P (x i) K fr hp=K (.exit i) fr hp:=(rfl)
theorem d_r:aD P r K fr hp=K .ret fr hp:=(rfl)
def lX(g:Bool)(ks:List Nat)(ns:List (Nat × Nat × TypeId))(N:Kf)(fr:Fr)(hp:Hp):Prop:=trimC (some ⟨ks,ns,g⟩) N fr hp
theorem lX_e{g:Bool}{ks:List Nat}{ns:List (Nat × Nat × TypeId)}:lX g ks ns N fr hp=nilsC ns g N (ksF fr ks) hp:=by rw [lX,trimC_e]
theorem d_lo{α:Type}{g:Bool}{ks:List Nat}{ns:List (Nat × Nat × TypeId)}{x:AC}(S:α→St)(I:α→Prop)(m:α→Nat)(h0:lX g ks ns (isAt S I) fr hp)
  (hb:∀ a,I a→aD P x (thenC (lX g ks ns (isAt S fun a'=>I a'∧m a' < m a)) K) (S a).fr (S a).hp):aD P (lo g ks ns x) K fr hp:=d_loop S I m h0 hb
theorem o_0:wX f P base [] fr hp N=N fr hp:=(rfl)
def pX(f:Bool)(P:Program)(base:Nat)(rest:List Op2)(d:Nat)(N:Kf)(fr:Fr)(hp:Hp)(v:AV):Prop:=wX f P base rest ((d,v) :: fr) hp N
theorem pX_e{d:Nat}{v:AV}:pX f P base rest d N fr hp v=wX f P base rest ((d,v) :: fr) hp N:=(rfl)
def eX(f:Bool)(P:Program)(base:Nat)(rest:List Op2)(d:Option Nat)(N:Kf)(fr:Fr)(v:AV)(hp:Hp):Prop:=wX f P base rest (consO fr d v) hp N
theorem eX_s{d:Nat}{v:AV}:eX f P base rest (some d) N fr v hp=wX f P base rest ((d,v) :: fr) hp N:=(rfl)
theorem eX_n{v:AV}:eX f P base rest none N fr v hp=wX f P base rest fr hp N:=(rfl)
theorem o_p{d:Nat}{q:OpP}:wX f P base (p d q :: rest) fr hp N=vP (fixP fr q) (pX f P base rest d N fr hp):=w_p
theorem o_m{d x:Nat}:wX f P base (m d x :: rest) fr hp N=wX f P base rest ((d,getF fr x) :: fr) hp N:=o_p (q:=.mv (.t x))
theorem o_k{d:Nat}{v:AV}:wX f P base (k d v :: rest) fr hp N=wX f P base rest ((d,v) :: fr) hp N:=o_p (q:=.mv (.c v))
theorem o_n{d:Nat}{i:Int}:wX f P base (n d i :: rest) fr hp N=wX f P base rest ((d,.int .i64 i) :: fr) hp N:=o_p (q:=.mv (.c (.int .i64 i)))
theorem o_pt{d t y:Nat}:wX f P base (pt d t y :: rest) fr hp N=vP (.pick (.c (getF fr t)) (.c (.bool true)) (.c (getF fr y))) (pX f P base rest d N fr hp):=o_p (q:=.pick (.t t) (.c (.bool true)) (.t y))
theorem o_pf{d t x:Nat}:wX f P base (pf d t x :: rest) fr hp N=vP (.pick (.c (getF fr t)) (.c (getF fr x)) (.c (.bool false))) (pX f P base rest d N fr hp):=o_p (q:=.pick (.t t) (.t x) (.c (.bool false)))
theorem o_b{o:BinOp}{d x y:Nat}:wX f P base (b o d x y :: rest) fr hp N=vP (.bin o (.c (getF fr x)) (.c (getF fr y))) (pX f P base rest d N fr hp):=o_p (q:=.bin o (.t x) (.t y))
theorem o_c{o:BinOp}{d x:Nat}{i:Int}:wX f P base (c o d x i :: rest) fr hp N=vP (.bin o (.c (getF fr x)) (.c (.int .i64 i))) (pX f P base rest d N fr hp):=o_p (q:=.bin o (.t x) (.c (.int .i64 i)))
theorem o_nt{d x:Nat}:wX f P base (nt d x :: rest) fr hp N=vP (.un .not (.c (getF fr x))) (pX f P base rest d N fr hp):=o_p (q:=.un .not (.t x))
theorem o_cv{d x:Nat}{k:IntKind}:wX f P base (cv d k x :: rest) fr hp N=vP (.convI k (.c (getF fr x))) (pX f P base rest d N fr hp):=o_p (q:=.convI k (.t x))
theorem o_fa{d o x:Nat}:wX f P base (fa d o x :: rest) fr hp N=vP (.faddr o (.c (getF fr x))) (pX f P base rest d N fr hp):=o_p (q:=.faddr o (.t x))
theorem o_ia{d s x i:Nat}:wX f P base (ia d s x i :: rest) fr hp N=vP (.iaddr s (.c (getF fr x)) (.c (getF fr i))) (pX f P base rest d N fr hp):=o_p (q:=.iaddr s (.t x) (.t i))
theorem o_l{d x:Nat}:wX f P base (l d x :: rest) fr hp N=vP (.len (.c (getF fr x))) (pX f P base rest d N fr hp):=o_p (q:=.len (.t x))
theorem o_e{d x i:Nat}:wX f P base (e d x i :: rest) fr hp N=vP (.ext (.c (getF fr x)) i) (pX f P base rest d N fr hp):=o_p (q:=.ext (.t x) i)
theorem o_ck{d x:Nat}:wX f P base (ck d x :: rest) fr hp N=vP (.nilck (.c (getF fr x))) (pX f P base rest d N fr hp):=o_p (q:=.nilck (.t x))
def gets(fr:Fr)(xs:List Nat):List AV:=xs.map (getF fr)
theorem gets_0:gets fr []=[]:=(rfl)
theorem gets_c{x:Nat}{xs:List Nat}:gets fr (x :: xs)=getF fr x :: gets fr xs:=(rfl)
theorem gets_e(xs:List Nat):(xs.map AX.t).map (evF fr)=gets fr xs:=by simp [gets,evF]
theorem gets_f:∀ xs:List Nat,evL ((xs.map AX.t).map (fix1 fr))=gets fr xs
 | []=>rfl
 | x :: xs=>by
  show _ :: evL ((xs.map AX.t).map (fix1 fr))=_
  rw [gets_f xs]; rfl
theorem o_fn{d g:Nat}{xs:List Nat}:wX f P base (fn d g xs :: rest) fr hp N=wX f P base rest ((d,.fn g (gets fr xs)) :: fr) hp N:=by
 refine(o_p (q:=.mkfn g (xs.map .t))).trans ?_
 show pX f P base rest d N fr hp (.fn g (evL ((xs.map AX.t).map (fix1 fr))))=_
 rw [gets_f]; rfl
theorem o_rd{d:Nat}{q:OpR}{no:List TypeId}:wX f P base (rd d q no :: rest) fr hp N =(nlo no hp (fixR fr q)∧vO (evR [] hp (fixR fr q)) (pX f P base rest d N fr hp)):=w_r
theorem o_ld{d n x:Nat}:wX f P base (ld d n x :: rest) fr hp N=vO (evR [] hp (.load n false (.c (getF fr x)))) (pX f P base rest d N fr hp):=by
 refine(w_r (q:=.load n false (.t x))).trans ?_
 show(nlo [] hp _∧_)=_
 rw [nlo_nil,true_and]; rfl
theorem o_la{d n x:Nat}:wX f P base (la d n x :: rest) fr hp N=vO (evR [] hp (.load n true (.c (getF fr x)))) (pX f P base rest d N fr hp):=by
 refine(w_r (q:=.load n true (.t x))).trans ?_
 show(nlo [] hp _∧_)=_
 rw [nlo_nil,true_and]; rfl
theorem o_lg{g:Bool}{d n x:Nat}:wX f P base (lg g d n x :: rest) fr hp N=vO (evR [] hp (.load n g (.c (getF fr x)))) (pX f P base rest d N fr hp):=by
 refine(w_r (q:=.load n g (.t x))).trans ?_
 show(nlo [] hp _∧_)=_
 rw [nlo_nil,true_and]; rfl
theorem o_ef{d:Option Nat}{q:OpE}{r:Option Nat}:wX f P base (ef d q r :: rest) fr hp N=vOE (evE base r [] hp (fixE fr q)) (eX f P base rest d N fr):=w_e
theorem o_al{d ty:Nat}{z:AV}:wX f P base (al d ty z :: rest) fr hp N=wX f P base rest ((d,.eptr hp.length 0 0) :: fr) (hp ++ [some ⟨ty,[z],true⟩]) N:=(o_ef (q:=.alloc ty z)).trans e_alloc
theorem o_bx{d ty x:Nat}:wX f P base (bx d ty x :: rest) fr hp N =((getF fr x).ones=true∧wX f P base rest ((d,.eptr hp.length 0 0) :: fr) (hp ++ [some ⟨ty,[getF fr x],true⟩]) N):=(o_ef (q:=.box ty (.t x))).trans e_box
theorem o_st{n x v:Nat}:wX f P base (st n x v :: rest) fr hp N=vOE (evE base none [] hp (.store n (.c (getF fr x)) (.c (getF fr v)))) (eX f P base rest none N fr):=o_ef (q:=.store n (.t x) (.t v))
theorem o_sr{j n x v:Nat}:wX f P base (sr j n x v :: rest) fr hp N=vOE (evE base (some j) [] hp (.store n (.c (getF fr x)) (.c (getF fr v)))) (eX f P base rest none N fr):=o_ef (q:=.store n (.t x) (.t v))
theorem o_ca{d g:Nat}{xs:List Nat}:wX f P base (ca d g xs :: rest) fr hp N=wCall P g (gets fr xs) hp false f [] (eX f P base rest (some d) N fr):=by
 rw [← gets_e]; exact w_call
theorem o_cd{d g:Nat}{xs:List Nat}{no:List TypeId}:wX f P base (cd d g xs no :: rest) fr hp N=wCall P g (gets fr xs) hp true f no (eX f P base rest (some d) N fr):=by
 rw [← gets_e]; exact w_call
theorem o_cw{d x:Nat}{xs:List Nat}:wX f P base (cw d x xs :: rest) fr hp N=wCallv P (getF fr x) (gets fr xs) hp (eX f P base rest (some d) N fr):=by
 rw [← gets_e]; exact w_callv
theorem o_oc{d:Option Nat}{g:FuncId}{xs:List AX}{dr:Bool}{no:List TypeId}:wX f P base (o d (.call g xs dr) no :: rest) fr hp N=wCall P g (xs.map (evF fr)) hp dr f no (eX f P base rest d N fr):=w_call
theorem o_ov{d:Option Nat}{x:AX}{xs:List AX}{no:List TypeId}:wX f P base (o d (.callv x xs) no :: rest) fr hp N=wCallv P (evF fr x) (xs.map (evF fr)) hp (eX f P base rest d N fr):=w_callv
theorem o_oi{d:Option Nat}{m:String}{x:AX}{xs:List AX}{no:List TypeId}:wX f P base (o d (.calli m x xs) no :: rest) fr hp N=wCalli P (recvI P m hp (evF fr x)) (xs.map (evF fr)) hp (eX f P base rest d N fr):=w_calli
def wK(f:Bool)(P:Program)(base:Nat)(ops:List Op2)(N:Kf):Kf:=fun fr hp=>wX f P base ops fr hp N
theorem wK_e{ops:List Op2}:wK f P base ops N fr hp=wX f P base ops fr hp N:=(rfl)
theorem o_gt{t:Nat}{y:Op2}(h:y.guard=none):wX f P base (gt t y :: rest) fr hp N=guardC (getF fr t) true (wK f P base (y :: rest) N) (wK f P base rest N) y.dst fr hp:=by
 obtain ⟨d,g,q,fm,no⟩:=y
 cases h
 exact w_g
theorem o_gf{t:Nat}{y:Op2}(h:y.guard=none):wX f P base (gf t y :: rest) fr hp N=guardC (getF fr t) false (wK f P base (y :: rest) N) (wK f P base rest N) y.dst fr hp:=by
 obtain ⟨d,g,q,fm,no⟩:=y
 cases h
 exact w_g
section
variable {d x y t i:Nat}
theorem t_m:(m d x).dst=some d:=(rfl)
theorem t_pt:(pt d t y).dst=some d:=(rfl)
theorem t_pf:(pf d t y).dst=some d:=(rfl)
theorem t_b{o:BinOp}:(b o d x y).dst=some d:=(rfl)
theorem t_c{o:BinOp}{i:Int}:(c o d x i).dst=some d:=(rfl)
theorem t_nt:(nt d x).dst=some d:=(rfl)
theorem t_fa:(fa d i x).dst=some d:=(rfl)
theorem t_ia:(ia d t x i).dst=some d:=(rfl)
theorem t_l:(l d x).dst=some d:=(rfl)
theorem t_ck:(ck d x).dst=some d:=(rfl)
theorem t_fn{xs:List Nat}:(fn d x xs).dst=some d:=(rfl)
theorem t_p{q:OpP}:(p d q).dst=some d:=(rfl)
theorem t_ld:(ld d i x).dst=some d:=(rfl)
theorem t_la:(la d i x).dst=some d:=(rfl)
theorem t_rd{q:OpR}{no:List TypeId}:(rd d q no).dst=some d:=(rfl)
theorem t_ef{d r:Option Nat}{q:OpE}:(ef d q r).dst=d:=(rfl)
theorem t_ca{xs:List Nat}:(ca d x xs).dst=some d:=(rfl)
theorem t_cd{xs:List Nat}{no:List TypeId}:(cd d x xs no).dst=some d:=(rfl)
theorem t_cw{xs:List Nat}:(cw d x xs).dst=some d:=(rfl)
theorem t_o{d:Option Nat}{q:Op1}{no:List TypeId}:(o d q no).dst=d:=(rfl)
theorem g_m:(m d x).guard=none:=(rfl)
theorem g_pt:(pt d t y).guard=none:=(rfl)
theorem g_pf:(pf d t y).guard=none:=(rfl)
theorem g_b{o:BinOp}:(b o d x y).guard=none:=(rfl)
theorem g_c{o:BinOp}{i:Int}:(c o d x i).guard=none:=(rfl)
theorem g_nt:(nt d x).guard=none:=(rfl)
theorem g_fa:(fa d i x).guard=none:=(rfl)
theorem g_ia:(ia d t x i).guard=none:=(rfl)
theorem g_l:(l d x).guard=none:=(rfl)
theorem g_ck:(ck d x).guard=none:=(rfl)
theorem g_fn{xs:List Nat}:(fn d x xs).guard=none:=(rfl)
theorem g_p{q:OpP}:(p d q).guard=none:=(rfl)
theorem g_ld:(ld d i x).guard=none:=(rfl)
theorem g_la:(la d i x).guard=none:=(rfl)
theorem g_rd{q:OpR}{no:List TypeId}:(rd d q no).guard=none:=(rfl)
theorem g_ef{d r:Option Nat}{q:OpE}:(ef d q r).guard=none:=(rfl)
theorem g_ca{xs:List Nat}:(ca d x xs).guard=none:=(rfl)
theorem g_cd{xs:List Nat}{no:List TypeId}:(cd d x xs no).guard=none:=(rfl)
theorem g_cw{xs:List Nat}:(cw d x xs).guard=none:=(rfl)
theorem g_o{d:Option Nat}{q:Op1}{no:List TypeId}:(o d q no).guard=none:=(rfl)
end
end
end Go.Pv.W
set_option maxHeartbeats 4000000
set_option maxRecDepth 100000
namespace Go.Proofs
open Go Go.Pv
theorem namesOk:(Tryz.prog.funcs.toList.all fun fn=>!(fn.name == "runtime.NumGoroutine"))=true:=by kernel_rfl
theorem progOk:ProgOk Tryz.prog:=⟨by kernel_rfl,fun f fn h=>by
 have:=List.all_eq_true.1 namesOk fn (List.mem_of_getElem? (by simpa using h))
 simpa using this⟩
variable [Lq]
theorem rv{f:FuncId}{c:AC}{xs:List AV}{Q:AV→Prop}(rs:List RV)(m:Nat)(h:okRun Tryz.prog true [] f m rs=true)(hc:shal Tryz.prog true [] f=c)(hl:xs.length≤m)(hx:aD Tryz.prog c (endC rs Q) (entry xs).fr (entry xs).hp):∃ r,Run Tryz.prog f xs r∧Q r :=
 run_v progOk h hc hl hx
end Go.Proofs
