/- Part 19 of a proof that a step of one domain changes nothing of another: the machine of plain values, and what the program's functions do. -/
import Derived.Test.YtdgcdnnmodnkjaaGreatDoorG18
set_option linter.all false
set_option linter.unusedVariables false
set_option linter.unusedSectionVars false
set_option linter.unusedSimpArgs false
set_option linter.defProp false
set_option maxHeartbeats 4000000
set_option maxRecDepth 100000
namespace Go.Proofs
open Go Go.Pv Go.Proofs.Tx
variable [Lq]
open W
open Classical
theorem clo_of{α:Type}{enc:α→AV}{φ:α→Prop}{l:List α}{g:FuncId}{caps:List AV}{inst:∀ x,Decidable (φ x)}(h:∀ x,∃ r,Run Tryz.prog (fnId g) (fnArgs g [enc x] caps) r∧r=.bool (@decide (φ x) (inst x)))(lt:g < ifB:=by decide)(nr:caps.all AV.nr1=true:=by simp only[wd]):Clo α enc φ l g caps :=
 ⟨lt,nr,fun x _=>by obtain ⟨_,h1,rfl⟩:=h x; exact⟨_,h1,_,rfl,by simp⟩⟩
theorem s198(u:SL En En.v 3){g:FuncId}{caps:List AV}{φ:En→Prop}(h:Clo En En.v φ u.l g caps):∃ r,Run Tryz.prog 198 [u.v,.fn g caps] r∧∃ i,r=.int .i64 i∧IsIdx φ u.l i:=idx_run (by kernel_rfl) (by kernel_rfl) En.ca En.nr1 u h
theorem s232(u:SL Fl Fl.v 4){g:FuncId}{caps:List AV}{φ:Fl→Prop}(h:Clo Fl Fl.v φ u.l g caps):∃ r,Run Tryz.prog 232 [u.v,.fn g caps] r∧∃ i,r=.int .i64 i∧IsIdx φ u.l i:=idx_run (by kernel_rfl) (by kernel_rfl) Fl.ca Fl.nr1 u h
theorem s234(u:SL Dm Dm.v 6){g:FuncId}{caps:List AV}{φ:Dm→Prop}(h:Clo Dm Dm.v φ u.l g caps):∃ r,Run Tryz.prog 234 [u.v,.fn g caps] r∧∃ i,r=.int .i64 i∧IsIdx φ u.l i:=idx_run (by kernel_rfl) (by kernel_rfl) Dm.ca Dm.nr1 u h
theorem s236(u:SL Dv Dv.v 5){g:FuncId}{caps:List AV}{φ:Dv→Prop}(h:Clo Dv Dv.v φ u.l g caps):∃ r,Run Tryz.prog 236 [u.v,.fn g caps] r∧∃ i,r=.int .i64 i∧IsIdx φ u.l i:=idx_run (by kernel_rfl) (by kernel_rfl) Dv.ca Dv.nr1 u h
theorem s250(u:SL Pt Pt.v 7){g:FuncId}{caps:List AV}{φ:Pt→Prop}(h:Clo Pt Pt.v φ u.l g caps):∃ r,Run Tryz.prog 250 [u.v,.fn g caps] r∧∃ i,r=.int .i64 i∧IsIdx φ u.l i:=idx_run (by kernel_rfl) (by kernel_rfl) Pt.ca Pt.nr1 u h
theorem s286(u:IL){g:FuncId}{caps:List AV}{φ:Int→Prop}(h:Clo Int (AV.int .i64) φ u.l g caps):∃ r,Run Tryz.prog 286 [u.v,.fn g caps] r∧∃ i,r=.int .i64 i∧IsIdx φ u.l i:=idx_run (ag:=false) (by kernel_rfl) (by kernel_rfl) (fun _=>rfl) (fun _=>rfl) u h
theorem s314(u:SL Sc Sc.v 4){g:FuncId}{caps:List AV}{φ:Sc→Prop}(h:Clo Sc Sc.v φ u.l g caps):∃ r,Run Tryz.prog 314 [u.v,.fn g caps] r∧∃ i,r=.int .i64 i∧IsIdx φ u.l i:=idx_run (by kernel_rfl) (by kernel_rfl) Sc.ca Sc.nr1 u h
theorem s319(u:SL Ib Ib.v 5){g:FuncId}{caps:List AV}{φ:Ib→Prop}(h:Clo Ib Ib.v φ u.l g caps):∃ r,Run Tryz.prog 319 [u.v,.fn g caps] r∧∃ i,r=.int .i64 i∧IsIdx φ u.l i:=idx_run (by kernel_rfl) (by kernel_rfl) Ib.ca Ib.nr1 u h
theorem s350(u:SL Vf Vf.v 5){g:FuncId}{caps:List AV}{φ:Vf→Prop}(h:Clo Vf Vf.v φ u.l g caps):∃ r,Run Tryz.prog 350 [u.v,.fn g caps] r∧∃ i,r=.int .i64 i∧IsIdx φ u.l i:=idx_run (by kernel_rfl) (by kernel_rfl) Vf.ca Vf.nr1 u h
theorem s161(u:SL Pt Pt.v 7){g:FuncId}{caps:List AV}{φ:Pt→Prop}(h:Clo Pt Pt.v φ u.l g caps):∃ r,Run Tryz.prog 161 [u.v,.fn g caps] r∧∃ b,r=.bool b ∧(b=true↔∃ x,x∈u.l∧φ x):=cf_run (by kernel_rfl) (by kernel_rfl) u h.lt h.nr (s250 u h)
theorem s217(u:SL Dv Dv.v 5){g:FuncId}{caps:List AV}{φ:Dv→Prop}(h:Clo Dv Dv.v φ u.l g caps):∃ r,Run Tryz.prog 217 [u.v,.fn g caps] r∧∃ b,r=.bool b ∧(b=true↔∃ x,x∈u.l∧φ x):=cf_run (by kernel_rfl) (by kernel_rfl) u h.lt h.nr (s236 u h)
theorem s229(u:SL Ib Ib.v 5){g:FuncId}{caps:List AV}{φ:Ib→Prop}(h:Clo Ib Ib.v φ u.l g caps):∃ r,Run Tryz.prog 229 [u.v,.fn g caps] r∧∃ b,r=.bool b ∧(b=true↔∃ x,x∈u.l∧φ x):=cf_run (by kernel_rfl) (by kernel_rfl) u h.lt h.nr (s319 u h)
theorem s310(u:SL Dm Dm.v 6){g:FuncId}{caps:List AV}{φ:Dm→Prop}(h:Clo Dm Dm.v φ u.l g caps):∃ r,Run Tryz.prog 310 [u.v,.fn g caps] r∧∃ b,r=.bool b ∧(b=true↔∃ x,x∈u.l∧φ x):=cf_run (by kernel_rfl) (by kernel_rfl) u h.lt h.nr (s234 u h)
theorem s354(u:IL){g:FuncId}{caps:List AV}{φ:Int→Prop}(h:Clo Int (AV.int .i64) φ u.l g caps):∃ r,Run Tryz.prog 354 [u.v,.fn g caps] r∧∃ b,r=.bool b ∧(b=true↔∃ x,x∈u.l∧φ x):=cf_run (by kernel_rfl) (by kernel_rfl) u h.lt h.nr (s286 u h)
theorem s321(d:Dm)(a b:Int):∃ r,Run Tryz.prog 321 [d.v,.rptr (.int .i64 a) 0,.rptr (.int .i64 b) 0] r∧r=.bool (decide (d.dev=a∧d.vlan=b)):=by
 refine run_w (c:=c321 true) [.t 4] 3 (by kernel_rfl) (by kernel_rfl) (Nat.le_refl 3) (by simp only[wd]) ?_
 unfold c321
 repeat' (first
 |simp (disch:=try exact Da) only[Ka,seval,reduceCtorEq]
 |(with_reducible apply gC_d1)<;>intro _
 |with_reducible refine e8 ?_
 |(refine Fa ?_;first|exact e9|fail)
 |fail)
theorem s175(d:Dm)(a b:Int):∃ r,Run Tryz.prog 175 [d.v,.rptr (.int .i64 a) 0,.rptr (.int .i64 b) 0] r∧r=.bool (decide (d.dev=a∧d.vlan=b)):=by
 refine run_w (c:=c175 true) [.t 4] 3 (by kernel_rfl) (by kernel_rfl) (Nat.le_refl 3) (by simp only[wd]) ?_
 unfold c175
 repeat' (first
 |simp (disch:=try exact Da) only[Ka,seval,reduceCtorEq]
 |(with_reducible apply gC_d1)<;>intro _
 |with_reducible refine e8 ?_
 |(refine Fa ?_;first|exact e9|fail)
 |fail)
theorem s311(d:Dm)(a b:Int):∃ r,Run Tryz.prog 311 [d.v,.rptr (.int .i64 a) 0,.rptr (.int .i64 b) 0] r∧r=.bool (decide (d.dev=a∧d.vlan=b)):=by
 refine run_w (c:=c311 true) [.t 4] 3 (by kernel_rfl) (by kernel_rfl) (Nat.le_refl 3) (by simp only[wd]) ?_
 unfold c311
 repeat' (first
 |simp (disch:=try exact Da) only[Ka,seval,reduceCtorEq]
 |(with_reducible apply gC_d1)<;>intro _
 |with_reducible refine e8 ?_
 |(refine Fa ?_;first|exact e9|fail)
 |fail)
theorem s307(d:Dv)(a:List UInt8):∃ r,Run Tryz.prog 307 [d.v,.rptr (.str a) 0] r∧r=.bool (decide (d.name=a)):=by
 refine run_w (c:=c307 true) [.t 3] 2 (by kernel_rfl) (by kernel_rfl) (Nat.le_refl 2) (by simp only[wd]) ?_
 unfold c307
 repeat' (first
 |simp (disch:=try exact Da) only[Ka,seval,reduceCtorEq]
 |with_reducible refine e8 ?_
 |(refine Fa ?_;first|exact e9|fail)
 |fail)
theorem s309(d:Pt)(a:Int)(b:List UInt8):∃ r,Run Tryz.prog 309 [d.v,.rptr (.int .i64 a) 0,.rptr (.str b) 0] r∧r=.bool (decide (d.dev=a∧d.name=b)):=by
 refine run_w (c:=c309 true) [.t 4] 3 (by kernel_rfl) (by kernel_rfl) (Nat.le_refl 3) (by simp only[wd]) ?_
 unfold c309
 repeat' (first
 |simp (disch:=try exact Da) only[Ka,seval,reduceCtorEq]
 |(with_reducible apply gC_d1)<;>intro _
 |with_reducible refine e8 ?_
 |(refine Fa ?_;first|exact e9|fail)
 |fail)
theorem s318(d:Vf)(a:Int)(b:List UInt8):∃ r,Run Tryz.prog 318 [d.v,.rptr (.int .i64 a) 0,.rptr (.str b) 0] r∧r=.bool (decide (d.dev=a∧d.name=b)):=by
 refine run_w (c:=c318 true) [.t 4] 3 (by kernel_rfl) (by kernel_rfl) (Nat.le_refl 3) (by simp only[wd]) ?_
 unfold c318
 repeat' (first
 |simp (disch:=try exact Da) only[Ka,seval,reduceCtorEq]
 |(with_reducible apply gC_d1)<;>intro _
 |with_reducible refine e8 ?_
 |(refine Fa ?_;first|exact e9|fail)
 |fail)
theorem s233(d:Fl)(a b:Int):∃ r,Run Tryz.prog 233 [d.v,.rptr (.int .i64 a) 0,.rptr (.int .i64 b) 0] r∧r=.bool (decide (d.dev=a∧d.vni=b)):=by
 refine run_w (c:=c233 true) [.t 4] 3 (by kernel_rfl) (by kernel_rfl) (Nat.le_refl 3) (by simp only[wd]) ?_
 unfold c233
 repeat' (first
 |simp (disch:=try exact Da) only[Ka,seval,reduceCtorEq]
 |(with_reducible apply gC_d1)<;>intro _
 |with_reducible refine e8 ?_
 |(refine Fa ?_;first|exact e9|fail)
 |fail)
theorem s235(d:Dm)(a b:Int):∃ r,Run Tryz.prog 235 [d.v,.rptr (.int .i64 a) 0,.rptr (.int .i64 b) 0] r∧r=.bool (decide (d.dev=a∧d.vni=b∧b≠0)):=by
 refine run_w (c:=c235 true) [.t 4] 3 (by kernel_rfl) (by kernel_rfl) (Nat.le_refl 3) (by simp only[wd]) ?_
 unfold c235
 repeat' (first
 |simp (disch:=try exact Da) only[Ka,seval,reduceCtorEq]
 |(with_reducible apply gC_d1)<;>intro _
 |with_reducible refine e8 ?_
 |(refine Fa ?_;first|exact e9|fail)
 |fail)
theorem s285(d:Dm)(a b:Int):∃ r,Run Tryz.prog 285 [d.v,.rptr (.int .i64 a) 0,.rptr (.int .i64 b) 0] r∧r=.bool (decide (d.dev=a∧d.vni=b)):=by
 refine run_w (c:=c285 true) [.t 4] 3 (by kernel_rfl) (by kernel_rfl) (Nat.le_refl 3) (by simp only[wd]) ?_
 unfold c285
 repeat' (first
 |simp (disch:=try exact Da) only[Ka,seval,reduceCtorEq]
 |(with_reducible apply gC_d1)<;>intro _
 |with_reducible refine e8 ?_
 |(refine Fa ?_;first|exact e9|fail)
 |fail)
theorem s237(d:Dv)(a:Int):∃ r,Run Tryz.prog 237 [d.v,.rptr (.int .u32 a) 0] r∧r=.bool (decide (d.vtep=a)):=by
 refine run_w (c:=c237 true) [.t 3] 2 (by kernel_rfl) (by kernel_rfl) (Nat.le_refl 2) (by simp only[wd]) ?_
 unfold c237
 repeat' (first
 |simp (disch:=try exact Da) only[Ka,seval,reduceCtorEq]
 |with_reducible refine e8 ?_
 |(refine Fa ?_;first|exact e9|fail)
 |fail)
theorem s284(d:Dv)(a:Int):∃ r,Run Tryz.prog 284 [d.v,.rptr (.int .u32 a) 0] r∧r=.bool (decide (d.vtep=a)):=by
 refine run_w (c:=c284 true) [.t 3] 2 (by kernel_rfl) (by kernel_rfl) (Nat.le_refl 2) (by simp only[wd]) ?_
 unfold c284
 repeat' (first
 |simp (disch:=try exact Da) only[Ka,seval,reduceCtorEq]
 |with_reducible refine e8 ?_
 |(refine Fa ?_;first|exact e9|fail)
 |fail)
theorem s315(d:Sc)(a b:Int):∃ r,Run Tryz.prog 315 [d.v,.rptr (.int .i64 a) 0,.rptr (.int .u64 b) 0] r∧r=.bool (decide (d.dom=a∧d.mac=b)):=by
 refine run_w (c:=c315 true) [.t 4] 3 (by kernel_rfl) (by kernel_rfl) (Nat.le_refl 3) (by simp only[wd]) ?_
 unfold c315
 repeat' (first
 |simp (disch:=try exact Da) only[Ka,seval,reduceCtorEq]
 |(with_reducible apply gC_d1)<;>intro _
 |with_reducible refine e8 ?_
 |(refine Fa ?_;first|exact e9|fail)
 |fail)
theorem s261(d:En)(a:Int):∃ r,Run Tryz.prog 261 [d.v,.rptr (.int .u64 a) 0] r∧r=.bool (decide (d.mac=a)):=by
 refine run_w (c:=c261 true) [.t 3] 2 (by kernel_rfl) (by kernel_rfl) (Nat.le_refl 2) (by simp only[wd]) ?_
 unfold c261
 repeat' (first
 |simp (disch:=try exact Da) only[Ka,seval,reduceCtorEq]
 |with_reducible refine e8 ?_
 |(refine Fa ?_;first|exact e9|fail)
 |fail)
theorem s162(p:Pt):∃ r,Run Tryz.prog 162 [p.v] r∧r=.bool (decide (p.cost < 1∨65535 < p.cost)):=by
 refine run_w (c:=c162 true) [.t 2] 1 (by kernel_rfl) (by kernel_rfl) (Nat.le_refl 1) (by simp only[wd]) ?_
 unfold c162
 repeat' (first
 |simp (disch:=try exact Da) only[Ka,seval,reduceCtorEq]
 |(with_reducible apply gC_d0)<;>intro _
 |with_reducible refine e8 ?_
 |(refine Fa ?_;first|exact e9|fail)
 |fail)
theorem s353(v:Vf)(t:Int):∃ r,Run Tryz.prog 353 [.int .i64 t,.rptr v.v 0] r∧r=.bool (decide (t∈v.imports.l)):=by
 refine run_w (c:=c353 true) [.t 3] 2 (by kernel_rfl) (by kernel_rfl) (Nat.le_refl 2) (by simp only[wd]) ?_
 unfold c353
 repeat' (first
 |simp (disch:=try exact Da) only[Ka,seval,reduceCtorEq]
 |with_reducible refine e8 ?_
 |(refine Aa (s40 _ _) ?_;rintro _ rfl;all_goals simp only[vl,ts,wb])
 |(refine Fa ?_;first|exact e9|fail)
 |fail)
theorem s218(d:Dv)(l:Ln):∃ r,Run Tryz.prog 218 [d.v,.rptr l.v 0] r∧r=.bool (decide (d.name=l.dev∨d.mac=l.mac)):=by
 refine run_w (c:=c218 true) [.t 3] 2 (by kernel_rfl) (by kernel_rfl) (Nat.le_refl 2) (by simp only[wd]) ?_
 unfold c218
 repeat' (first
 |simp (disch:=try exact Da) only[Ka,seval,reduceCtorEq]
 |(with_reducible apply gC_d0)<;>intro _
 |with_reducible refine e8 ?_
 |(refine Fa ?_;first|exact e9|fail)
 |fail)
theorem k321(a b:Int){u:List Dm}:Clo Dm Dm.v (fun d=>d.dev=a∧d.vlan=b) u 321 [.rptr (.int .i64 a) 0,.rptr (.int .i64 b) 0]:=clo_of fun d=>s321 d a b
theorem k175(a b:Int){u:List Dm}:Clo Dm Dm.v (fun d=>d.dev=a∧d.vlan=b) u 175 [.rptr (.int .i64 a) 0,.rptr (.int .i64 b) 0]:=clo_of fun d=>s175 d a b
theorem k311(a b:Int){u:List Dm}:Clo Dm Dm.v (fun d=>d.dev=a∧d.vlan=b) u 311 [.rptr (.int .i64 a) 0,.rptr (.int .i64 b) 0]:=clo_of fun d=>s311 d a b
theorem k307(a:List UInt8){u:List Dv}:Clo Dv Dv.v (fun d=>d.name=a) u 307 [.rptr (.str a) 0]:=clo_of fun d=>s307 d a
theorem k309(a:Int)(b:List UInt8){u:List Pt}:Clo Pt Pt.v (fun d=>d.dev=a∧d.name=b) u 309 [.rptr (.int .i64 a) 0,.rptr (.str b) 0]:=clo_of fun d=>s309 d a b
theorem k318(a:Int)(b:List UInt8){u:List Vf}:Clo Vf Vf.v (fun d=>d.dev=a∧d.name=b) u 318 [.rptr (.int .i64 a) 0,.rptr (.str b) 0]:=clo_of fun d=>s318 d a b
theorem k233(a b:Int){u:List Fl}:Clo Fl Fl.v (fun d=>d.dev=a∧d.vni=b) u 233 [.rptr (.int .i64 a) 0,.rptr (.int .i64 b) 0]:=clo_of fun d=>s233 d a b
theorem k235(a b:Int){u:List Dm}:Clo Dm Dm.v (fun d=>d.dev=a∧d.vni=b∧b≠0) u 235 [.rptr (.int .i64 a) 0,.rptr (.int .i64 b) 0]:=clo_of fun d=>s235 d a b
theorem k285(a b:Int){u:List Dm}:Clo Dm Dm.v (fun d=>d.dev=a∧d.vni=b) u 285 [.rptr (.int .i64 a) 0,.rptr (.int .i64 b) 0]:=clo_of fun d=>s285 d a b
theorem k237(a:Int){u:List Dv}:Clo Dv Dv.v (fun d=>d.vtep=a) u 237 [.rptr (.int .u32 a) 0]:=clo_of fun d=>s237 d a
theorem k284(a:Int){u:List Dv}:Clo Dv Dv.v (fun d=>d.vtep=a) u 284 [.rptr (.int .u32 a) 0]:=clo_of fun d=>s284 d a
theorem k315(a b:Int){u:List Sc}:Clo Sc Sc.v (fun d=>d.dom=a∧d.mac=b) u 315 [.rptr (.int .i64 a) 0,.rptr (.int .u64 b) 0]:=clo_of fun d=>s315 d a b
theorem k261(a:Int){u:List En}:Clo En En.v (fun d=>d.mac=a) u 261 [.rptr (.int .u64 a) 0]:=clo_of fun d=>s261 d a
theorem k218(l:Ln){u:List Dv}:Clo Dv Dv.v (fun d=>d.name=l.dev∨d.mac=l.mac) u 218 [.rptr l.v 0]:=clo_of fun d=>s218 d l
theorem k353(v:Vf){u:List Int}:Clo Int (AV.int .i64) (fun t=>t∈v.imports.l) u 353 [.rptr v.v 0]:=clo_of fun t=>s353 v t
end Go.Proofs
set_option maxHeartbeats 4000000
set_option maxRecDepth 100000
namespace Go.Proofs
open Go Go.Pv Go.Proofs.Tx
variable [Lq]
open W
open Classical
theorem idx_iff{α:Type}[Inhabited α]{φ:α→Prop}{l:List α}{r:Int}(h:IsIdx φ l r)(j:Int):r=j↔IsIdx φ l j:=⟨fun e=>e ▸ h,fun h'=>idx_uniq h h'⟩
def NDom(N:Nt)(a b i:Int):Prop:=IsIdx (fun d:Dm=>d.dev=a∧d.vlan=b) N.doms.l i
theorem s241(N:Nt)(a b:Int):∃ r,Run Tryz.prog 241 [N.v,.int .i64 a,.int .i64 b] r∧∃ i,r=.int .i64 i∧NDom N a b i:=by
 refine run_w (c:=c241 true) [.t 6] 3 (by kernel_rfl) (by kernel_rfl) (Nat.le_refl 3) (by simp only[wd]) ?_
 unfold c241
 repeat' (first
 |simp (disch:=try exact Da) only[Ka,seval,reduceCtorEq]
 |with_reducible refine e8 ?_
 |(refine call_rn (by simp (disch:=try exact Da) only[Ka,wp,seval,reduceCtorEq]; rfl) (by simp (disch:=try exact Da) only[Ka,wp,seval,reduceCtorEq]) (s234 _ (k321 a b)) ?_; rintro _ ⟨i,rfl,hi⟩; all_goals simp only[vl,wp,ts,wb])
 |(refine Fa ?_;first|exact⟨_,rfl,hi⟩|exact e9|fail)
 |fail)
def Few(N:Nt):Prop:=N.devs.l.length≤8∧N.ports.l.length≤40∧N.links.l.length≤20∧N.doms.l.length≤48∧N.stats.l.length≤64∧N.floods.l.length≤48∧N.vrfs.l.length≤16∧N.irbs.l.length≤48
theorem s143(N:Nt):∃ r,Run Tryz.prog 143 [N.v] r∧r=.bool (decide (Few N)):=by
 refine run_w (c:=c143 true) [.t 2] 1 (by kernel_rfl) (by kernel_rfl) (Nat.le_refl 1) (by simp only[wd]) ?_
 unfold c143
 unfold Few
 repeat' (first
 |simp (disch:=try exact Da) only[Ka,seval,reduceCtorEq]
 |(with_reducible apply gC_d1)<;>intro _
 |with_reducible refine e8 ?_
 |(refine Fa ?_;first|exact e9|fail)
 |fail)
abbrev Pl{α:Type}(l:List α)(i:Int):Prop:=0≤i∧i < l.length
def BareP(N:Nt)(i:Int)(d:Dm):Prop:=Pl N.devs.l d.dev∧1≤d.vlan∧d.vlan≤4094∧0≤d.vni∧d.vni≤16777215 ∧(d.irb=-1∨Pl N.irbs.l d.irb ∧(nth N.irbs.l d.irb.toNat).dom=i)∧NDom N d.dev d.vlan i
theorem s145(N:Nt)(i:Int)(d:Dm):∃ r,Run Tryz.prog 145 [N.v,.int .i64 i,d.v] r∧r=.bool (decide (BareP N i d)):=by
 refine run_w (c:=c145 true) [.t 6] 3 (by kernel_rfl) (by kernel_rfl) (Nat.le_refl 3) (by simp only[wd]) ?_
 unfold c145
 unfold BareP
 repeat' (first
 |simp (disch:=try exact Da) only[Ka,seval,reduceCtorEq]
 |(with_reducible first|apply gC_d0|apply gC_d1)<;>intro _
 |with_reducible refine e8 ?_
 |(refine Aa (s155 _ _) ?_;rintro _ rfl;all_goals simp only[vl,ts,wb])
 |(refine Aa (s240 _ _) ?_;rintro _ rfl;all_goals simp only[vl,ts,wb])
 |(refine Aa (s241 _ _ _) ?_;rintro _ ⟨j,rfl,hj⟩; have hj:∀ j',j=j'↔NDom N d.dev d.vlan j':=idx_iff hj;all_goals simp only[vl,ts,wb])
 |(refine Fa ?_;first|exact e9|fail)
 |fail)
theorem s322(N:Nt)(d:Dm)(h:Pl N.devs.l d.dev):∃ r,Run Tryz.prog 322 [N.v,d.v] r∧r=.bool (decide ((nth N.devs.l d.dev.toNat).vtep≠0)):=by
 refine run_w (c:=c322 true) [.t 4] 2 (by kernel_rfl) (by kernel_rfl) (Nat.le_refl 2) (by simp only[wd]) ?_
 unfold c322
 repeat' (first
 |simp (disch:=try exact Da) only[Ka,seval,reduceCtorEq]
 |with_reducible refine e8 ?_
 |(refine Fa ?_;first|exact e9|fail)
 |fail)
def PeerP(N:Nt)(i:Int)(d:Dm)(k:Int):Prop:=Pl N.doms.l k∧k≠i∧Pl N.devs.l (nth N.doms.l k.toNat).dev ∧(nth N.doms.l k.toNat).dev≠d.dev ∧(nth N.doms.l k.toNat).vni=d.vni∧d.vni≠0 ∧(nth N.devs.l (nth N.doms.l k.toNat).dev.toNat).vtep≠0 ∧(nth N.devs.l d.dev.toNat).vtep≠0∧i ∈(nth N.doms.l k.toNat).peers.l
theorem s244(N:Nt)(i:Int)(d:Dm)(k:Int)(h:Pl N.devs.l d.dev):∃ r,Run Tryz.prog 244 [N.v,.int .i64 i,d.v,.int .i64 k] r∧r=.bool (decide (PeerP N i d k)):=by
 refine run_w (c:=c244 true) [.t 8] 4 (by kernel_rfl) (by kernel_rfl) (Nat.le_refl 4) (by simp only[wd]) ?_
 unfold c244
 unfold PeerP
 repeat' (first
 |simp (disch:=try exact Da) only[Ka,seval,reduceCtorEq]
 |(with_reducible first|apply condC_d|apply gC_d0|apply gC_d1)<;>intro _
 |with_reducible refine e8 ?_
 |(refine Aa (s155 _ _) ?_;rintro _ rfl;all_goals simp only[vl,ts,wb])
 |(refine Aa (s247 _ _) ?_;rintro _ rfl;all_goals simp only[vl,ts,wb])
 |(refine Aa (s40 _ _) ?_;rintro _ rfl;all_goals simp only[vl,ts,wb])
 |(refine Aa (s322 _ _ (by first | assumption | omega)) ?_;rintro _ rfl;all_goals simp only[vl,ts,wb])
 |(refine Fa ?_;first|exact e9|fail)
 |fail)
end Go.Proofs
set_option maxHeartbeats 4000000
set_option maxRecDepth 100000
namespace Go.Proofs
open Go Go.Pv Go.Proofs.Tx
variable [Lq]
open W
open Classical
def PPeer(N:Nt)(i:Int)(d:Dm)(a:Nat)(k:Int):Prop:=PeerP N i d k∧IsIdx (fun x=>x=k) d.peers.l a
theorem s243(N:Nt)(i:Int)(d:Dm)(h:Pl N.devs.l d.dev)(a:Nat)(k:Int):∃ r,Run Tryz.prog 243 [.int .i64 a,.int .i64 k,.rptr N.v 0,.rptr (.int .i64 i) 0,.rptr d.v 0] r∧r=.bool (decide (PPeer N i d a k)):=by
 refine run_w (c:=c243 true) [.t 7] 5 (by kernel_rfl) (by kernel_rfl) (Nat.le_refl 5) (by simp only[wd]) ?_
 unfold c243
 unfold PPeer
 repeat' (first
 |simp (disch:=try exact Da) only[Ka,seval,reduceCtorEq]
 |(with_reducible apply gC_d1)<;>intro _
 |with_reducible refine e8 ?_
 |(refine Aa (s244 _ _ _ _ h) ?_;rintro _ rfl;all_goals simp only[vl,ts,wb])
 |(refine Aa (s79 _ _) ?_;rintro _ ⟨j,rfl,hj⟩; have hj:=idx_iff hj;all_goals simp only[vl,ts,wb])
 |(refine Fa ?_;first|exact e9|fail)
 |fail)
def PeersP(N:Nt)(i:Int)(d:Dm):Prop:=∀ a,a < d.peers.l.length→PPeer N i d a (nth d.peers.l a)
theorem s146(N:Nt)(i:Int)(d:Dm)(h:Pl N.devs.l d.dev):∃ r,Run Tryz.prog 146 [N.v,.int .i64 i,d.v] r∧r=.bool (decide (PeersP N i d)):=by
 have h2:CloI Int (AV.int .i64) (fun a k=>PPeer N i d a k) d.peers.l 243 [.rptr N.v 0,.rptr (.int .i64 i) 0,.rptr d.v 0]:=⟨by decide,by simp only[wd],fun a _=>s243 N i d h a _⟩
 refine run_w (c:=c146 true) [.t 6] 3 (by kernel_rfl) (by kernel_rfl) (Nat.le_refl 3) (by simp only[wd]) ?_
 unfold c146
 repeat' (first
 |simp (disch:=try exact Da) only[Ka,seval,reduceCtorEq]
 |with_reducible refine e8 ?_
 |(refine call_rn (by simp (disch:=try exact Da) only[Ka,wp,seval,reduceCtorEq]; rfl) (by simp (disch:=try exact Da) only[Ka,wp,seval,reduceCtorEq]) (s242 _ h2) ?_; rintro _ rfl; all_goals simp only[vl,wp,ts,wb])
 |(refine Fa ?_;first|exact e9|fail)
 |fail)
def HasD(N:Nt)(a b:Int):Prop:=∃ k,k < N.doms.l.length ∧((nth N.doms.l k).dev=a ∧(nth N.doms.l k).vlan=b)
theorem hasD{N:Nt}{a b j:Int}(h:NDom N a b j):0≤j↔HasD N a b:=h.nn
def PortP(N:Nt)(i:Int)(p:Pt):Prop:=Pl N.devs.l p.dev∧0≤p.native∧p.native≤4094∧Rsg p.tagged.l 4094∧¬ p.native∈p.tagged.l∧¬(p.native=0∧p.tagged.l.length=0) ∧
 (∀ a,a < p.tagged.l.length→HasD N p.dev (nth p.tagged.l a)) ∧(0 < p.native→HasD N p.dev p.native) ∧
 (p.link=-1∨Pl N.links.l p.link ∧((nth N.links.l p.link.toNat).a=i ∨(nth N.links.l p.link.toNat).b=i))
theorem s148(N:Nt)(i:Int)(p:Pt):∃ r,Run Tryz.prog 148 [N.v,.int .i64 i,p.v] r∧r=.bool (decide (PortP N i p)):=by
 refine run_w (c:=c148 true) [.t 6] 3 (by kernel_rfl) (by kernel_rfl) (Nat.le_refl 3) (by simp only[wd]) ?_
 unfold c148
 have hu:=p.tagged.n
 unfold PortP
 repeat' (first
 |simp (disch:=try exact Da) only[Ka,seval,reduceCtorEq]
 |(with_reducible first|apply condC_d|apply gC_d0|apply gC_d1)<;>intro _
 |with_reducible refine e8 ?_
 |(refine Aa (s155 _ _) ?_;rintro _ rfl;all_goals simp only[vl,ts,wb])
 |(refine Aa (s158 _ _) ?_;rintro _ rfl;all_goals simp only[vl,ts,wb])
 |(refine Aa (s40 _ _) ?_;rintro _ rfl;all_goals simp only[vl,ts,wb])
 |(refine Fa ?_;first|exact e9|fail)
 |fail)
 all_goals (
  refine d_lo (fun k:Nat=>⟨[(1,.int .i64 i),(3,.eptr 0 0 0),(5,.eptr 1 0 0),(51,p.tagged.v),(52,.int .i64 p.tagged.l.length),(53,.int .i64 k)],[some ⟨257,[N.v],true⟩,some ⟨136,[p.v],true⟩]⟩) (fun k=>k≤p.tagged.l.length∧∀ a,a < k→HasD N p.dev (nth p.tagged.l a)) (fun k=>p.tagged.l.length - k) ?_ ?_
  ·simp (disch:=try exact Da) only[Ka,seval,reduceCtorEq]
   exact⟨0,rfl,by omega,fun j hj=>by omega⟩
  rintro k ⟨hk,hall⟩
  unfold c148b0
  repeat' (first
 |simp (disch:=try exact Da) only[Ka,seval,reduceCtorEq]
 |(with_reducible first|apply condC_d|apply gC_d0|apply gC_d1)<;>intro _
 |with_reducible refine e8 ?_
 |(refine Aa (s241 _ _ _) ?_;rintro _ ⟨j,rfl,hj⟩; have hj2:=hasD hj;all_goals simp only[vl,ts,wb])
 |(refine Aa (s245 _ _) ?_;rintro _ rfl;all_goals simp only[vl,ts,wb])
 |(refine⟨k+1,rfl,⟨?_,fun a ha=>?_⟩,?_⟩; omega;(by_cases e:a=k <;> grind); omega)
 |(refine Fa ?_;first|exact e9|fail)
 |fail))
end Go.Proofs
set_option maxHeartbeats 4000000
set_option maxRecDepth 100000
namespace Go.Proofs
open Go Go.Pv Go.Proofs.Tx
variable [Lq]
open W
open Classical
def LinkP(N:Nt)(i:Int)(l:Lk):Prop:=Pl N.ports.l l.a∧Pl N.ports.l l.b ∧(nth N.ports.l l.a.toNat).dev ≠(nth N.ports.l l.b.toNat).dev ∧(nth N.ports.l l.a.toNat).link=i ∧(nth N.ports.l l.b.toNat).link=i
theorem s150(N:Nt)(i:Int)(l:Lk):∃ r,Run Tryz.prog 150 [N.v,.int .i64 i,l.v] r∧r=.bool (decide (LinkP N i l)):=by
 refine run_w (c:=c150 true) [.t 6] 3 (by kernel_rfl) (by kernel_rfl) (Nat.le_refl 3) (by simp only[wd]) ?_
 unfold c150
 unfold LinkP
 repeat' (first
 |simp (disch:=try exact Da) only[Ka,seval,reduceCtorEq]
 |(with_reducible first|apply condC_d|apply gC_d0|apply gC_d1)<;>intro _
 |with_reducible refine e8 ?_
 |(refine Aa (s246 _ _) ?_;rintro _ rfl;all_goals simp only[vl,ts,wb])
 |(refine Fa ?_;first|exact e9|fail)
 |fail)
def StatP(N:Nt)(s:Sc):Prop:=Pl N.doms.l s.dom∧Pl N.ports.l s.port ∧(nth N.ports.l s.port.toNat).dev =(nth N.doms.l s.dom.toNat).dev∧Mem (nth N.ports.l s.port.toNat) (nth N.doms.l s.dom.toNat).vlan
theorem s152(N:Nt)(i:Int)(s:Sc):∃ r,Run Tryz.prog 152 [N.v,.int .i64 i,s.v] r∧r=.bool (decide (StatP N s)):=by
 refine run_w (c:=c152 true) [.t 6] 3 (by kernel_rfl) (by kernel_rfl) (Nat.le_refl 3) (by simp only[wd]) ?_
 unfold c152
 unfold StatP
 repeat' (first
 |simp (disch:=try exact Da) only[Ka,seval,reduceCtorEq]
 |(with_reducible first|apply condC_d|apply gC_d0|apply gC_d1)<;>intro _
 |with_reducible refine e8 ?_
 |(refine Aa (s246 _ _) ?_;rintro _ rfl;all_goals simp only[vl,ts,wb])
 |(refine Aa (s247 _ _) ?_;rintro _ rfl;all_goals simp only[vl,ts,wb])
 |(refine Aa (s190 _ _) ?_;rintro _ rfl;all_goals simp only[vl,ts,wb])
 |(refine Fa ?_;first|exact e9|fail)
 |fail)
def FlP(N:Nt)(f:Fl):Prop:=Pl N.devs.l f.dev∧f.addrs.l.length≤16
theorem s154(N:Nt)(i:Int)(f:Fl):∃ r,Run Tryz.prog 154 [.int .i64 i,f.v,.rptr N.v 0] r∧r=.bool (decide (FlP N f)):=by
 refine run_w (c:=c154 true) [.t 5] 3 (by kernel_rfl) (by kernel_rfl) (Nat.le_refl 3) (by simp only[wd]) ?_
 unfold c154
 unfold FlP
 repeat' (first
 |simp (disch:=try exact Da) only[Ka,seval,reduceCtorEq]
 |(with_reducible apply gC_d1)<;>intro _
 |with_reducible refine e8 ?_
 |(refine Aa (s155 _ _) ?_;rintro _ rfl;all_goals simp only[vl,ts,wb])
 |(refine Fa ?_;first|exact e9|fail)
 |fail)
def VfP(N:Nt)(v:Vf):Prop:=Pl N.devs.l v.dev∧Rsg v.imports.l 65535∧Rsg v.exports.l 65535
theorem s157(N:Nt)(i:Int)(v:Vf):∃ r,Run Tryz.prog 157 [.int .i64 i,v.v,.rptr N.v 0] r∧r=.bool (decide (VfP N v)):=by
 refine run_w (c:=c157 true) [.t 5] 3 (by kernel_rfl) (by kernel_rfl) (Nat.le_refl 3) (by simp only[wd]) ?_
 unfold c157
 unfold VfP
 repeat' (first
 |simp (disch:=try exact Da) only[Ka,seval,reduceCtorEq]
 |(with_reducible apply gC_d1)<;>intro _
 |with_reducible refine e8 ?_
 |(refine Aa (s155 _ _) ?_;rintro _ rfl;all_goals simp only[vl,ts,wb])
 |(refine Aa (s158 _ _) ?_;rintro _ rfl;all_goals simp only[vl,ts,wb])
 |(refine Fa ?_;first|exact e9|fail)
 |fail)
def IbP(N:Nt)(i:Int)(x:Ib):Prop:=Pl N.doms.l x.dom∧Pl N.vrfs.l x.vrf ∧(nth N.doms.l x.dom.toNat).dev =(nth N.vrfs.l x.vrf.toNat).dev ∧(nth N.doms.l x.dom.toNat).irb=i∧1≤x.net.bits∧x.net.bits≤30
theorem s160(N:Nt)(i:Int)(x:Ib):∃ r,Run Tryz.prog 160 [N.v,.int .i64 i,x.v] r∧r=.bool (decide (IbP N i x)):=by
 refine run_w (c:=c160 true) [.t 6] 3 (by kernel_rfl) (by kernel_rfl) (Nat.le_refl 3) (by simp only[wd]) ?_
 unfold c160
 unfold IbP
 repeat' (first
 |simp (disch:=try exact Da) only[Ka,seval,reduceCtorEq]
 |(with_reducible apply gC_d1)<;>intro _
 |with_reducible refine e8 ?_
 |(refine callv_nr (s247 _ _) (by simp only[wd,seval,not_false_eq_true]) ?_; rintro _ rfl; all_goals simp only[vl,ts,wb])
 |(refine callv_nr (s249 _ _) (by simp only[wd,seval,not_false_eq_true]) ?_; rintro _ rfl; all_goals simp only[vl,ts,wb])
 |(refine Fa ?_;first|exact e9|fail)
 |fail)
end Go.Proofs
set_option maxHeartbeats 4000000
set_option maxRecDepth 100000
namespace Go.Proofs
open Go Go.Pv Go.Proofs.Tx
variable [Lq]
open W
open Classical
theorem s144(u:SL Dm Dm.v 6){g:FuncId}{caps:List AV}{φ:Nat→Dm→Prop}(h:CloI Dm Dm.v φ u.l g caps):∃ r,Run Tryz.prog 144 [u.v,.fn g caps] r∧r=.bool (decide (∀ k,k < u.l.length→φ k (nth u.l k))):=all_run (sz:=6) (ty:=140) (z:=z14) (by kernel_rfl) (by kernel_rfl) Dm.ca Dm.nr1 (fun x=>Dm.sa x rfl) u h
theorem s147(u:SL Pt Pt.v 7){g:FuncId}{caps:List AV}{φ:Nat→Pt→Prop}(h:CloI Pt Pt.v φ u.l g caps):∃ r,Run Tryz.prog 147 [u.v,.fn g caps] r∧r=.bool (decide (∀ k,k < u.l.length→φ k (nth u.l k))):=all_run (sz:=7) (ty:=136) (z:=z11) (by kernel_rfl) (by kernel_rfl) Pt.ca Pt.nr1 (fun x=>Pt.sa x rfl) u h
theorem s149(u:SL Lk Lk.v 3){g:FuncId}{caps:List AV}{φ:Nat→Lk→Prop}(h:CloI Lk Lk.v φ u.l g caps):∃ r,Run Tryz.prog 149 [u.v,.fn g caps] r∧r=.bool (decide (∀ k,k < u.l.length→φ k (nth u.l k))):=all_run (sz:=3) (ty:=129) (z:=z6) (by kernel_rfl) (by kernel_rfl) Lk.ca Lk.nr1 (fun x=>Lk.sa x rfl) u h
theorem s151(u:SL Sc Sc.v 4){g:FuncId}{caps:List AV}{φ:Nat→Sc→Prop}(h:CloI Sc Sc.v φ u.l g caps):∃ r,Run Tryz.prog 151 [u.v,.fn g caps] r∧r=.bool (decide (∀ k,k < u.l.length→φ k (nth u.l k))):=all_run (sz:=4) (ty:=143) (z:=z20) (by kernel_rfl) (by kernel_rfl) Sc.ca Sc.nr1 (fun x=>Sc.sa x rfl) u h
theorem s153(u:SL Fl Fl.v 4){g:FuncId}{caps:List AV}{φ:Nat→Fl→Prop}(h:CloI Fl Fl.v φ u.l g caps):∃ r,Run Tryz.prog 153 [u.v,.fn g caps] r∧r=.bool (decide (∀ k,k < u.l.length→φ k (nth u.l k))):=all_run (sz:=4) (ty:=146) (z:=z13) (by kernel_rfl) (by kernel_rfl) Fl.ca Fl.nr1 (fun x=>Fl.sa x rfl) u h
theorem s156(u:SL Vf Vf.v 5){g:FuncId}{caps:List AV}{φ:Nat→Vf→Prop}(h:CloI Vf Vf.v φ u.l g caps):∃ r,Run Tryz.prog 156 [u.v,.fn g caps] r∧r=.bool (decide (∀ k,k < u.l.length→φ k (nth u.l k))):=all_run (sz:=5) (ty:=149) (z:=z21) (by kernel_rfl) (by kernel_rfl) Vf.ca Vf.nr1 (fun x=>Vf.sa x rfl) u h
theorem s159(u:SL Ib Ib.v 5){g:FuncId}{caps:List AV}{φ:Nat→Ib→Prop}(h:CloI Ib Ib.v φ u.l g caps):∃ r,Run Tryz.prog 159 [u.v,.fn g caps] r∧r=.bool (decide (∀ k,k < u.l.length→φ k (nth u.l k))):=all_run (sz:=5) (ty:=154) (z:=z23) (by kernel_rfl) (by kernel_rfl) Ib.ca Ib.nr1 (fun x=>Ib.sa x rfl) u h
structure Good(N:Nt):Prop where
 few:Few N
 bare:∀ k,k < N.doms.l.length→BareP N k (nth N.doms.l k)
 peers:∀ k,k < N.doms.l.length→PeersP N k (nth N.doms.l k)
 ports:∀ k,k < N.ports.l.length→PortP N k (nth N.ports.l k)
 links:∀ k,k < N.links.l.length→LinkP N k (nth N.links.l k)
 stats:∀ k,k < N.stats.l.length→StatP N (nth N.stats.l k)
 floods:∀ k,k < N.floods.l.length→FlP N (nth N.floods.l k)
 vrfs:∀ k,k < N.vrfs.l.length→VfP N (nth N.vrfs.l k)
 irbs:∀ k,k < N.irbs.l.length→IbP N k (nth N.irbs.l k)
theorem good_iff{N:Nt}:Good N ↔(Few N ∧(∀ k,k < N.doms.l.length→BareP N k (nth N.doms.l k)) ∧(∀ k,k < N.doms.l.length→PeersP N k (nth N.doms.l k)) ∧(∀ k,k < N.ports.l.length→PortP N k (nth N.ports.l k)) ∧(∀ k,k < N.links.l.length→LinkP N k (nth N.links.l k)) ∧
 (∀ k,k < N.stats.l.length→StatP N (nth N.stats.l k)) ∧(∀ k,k < N.floods.l.length→FlP N (nth N.floods.l k)) ∧(∀ k,k < N.vrfs.l.length→VfP N (nth N.vrfs.l k)) ∧(∀ k,k < N.irbs.l.length→IbP N k (nth N.irbs.l k))) :=
 ⟨fun⟨a,b,c,d,e,f,g,h,i⟩=>⟨a,b,c,d,e,f,g,h,i⟩,fun⟨a,b,c,d,e,f,g,h,i⟩=>⟨a,b,c,d,e,f,g,h,i⟩⟩
section
variable (N:Nt)
theorem k145:CloI Dm Dm.v (fun k d=>BareP N k d) N.doms.l 1000145 [N.v]:=⟨by decide,by simp only[wd],fun k _=>s145 N k _⟩
theorem k146(h:∀ k,k < N.doms.l.length→BareP N k (nth N.doms.l k)):CloI Dm Dm.v (fun k d=>PeersP N k d) N.doms.l 1000146 [N.v]:=⟨by decide,by simp only[wd],fun k hk=>s146 N k _ (h k hk).1⟩
theorem k148:CloI Pt Pt.v (fun k d=>PortP N k d) N.ports.l 1000148 [N.v]:=⟨by decide,by simp only[wd],fun k _=>s148 N k _⟩
theorem k150:CloI Lk Lk.v (fun k d=>LinkP N k d) N.links.l 1000150 [N.v]:=⟨by decide,by simp only[wd],fun k _=>s150 N k _⟩
theorem k152:CloI Sc Sc.v (fun k d=>StatP N d) N.stats.l 1000152 [N.v]:=⟨by decide,by simp only[wd],fun k _=>s152 N k _⟩
theorem k154:CloI Fl Fl.v (fun k d=>FlP N d) N.floods.l 154 [.rptr N.v 0]:=⟨by decide,by simp only[wd],fun k _=>s154 N k _⟩
theorem k157:CloI Vf Vf.v (fun k d=>VfP N d) N.vrfs.l 157 [.rptr N.v 0]:=⟨by decide,by simp only[wd],fun k _=>s157 N k _⟩
theorem k160:CloI Ib Ib.v (fun k d=>IbP N k d) N.irbs.l 1000160 [N.v]:=⟨by decide,by simp only[wd],fun k _=>s160 N k _⟩
end
theorem s72(N:Nt):∃ r,Run Tryz.prog 72 [N.v] r∧r=.bool (decide (Good N)):=by
 have hg:=good_iff (N:=N)
 refine run_w (c:=c72 true) [.t 2] 1 (by kernel_rfl) (by kernel_rfl) (Nat.le_refl 1) (by simp only[wd]) ?_
 unfold c72
 repeat' (first
 |simp (disch:=try exact Da) only[Ka,vB_nt,List.isEmpty_cons,seval,reduceCtorEq]
 |(with_reducible apply gC_d1)<;>intro _
 |with_reducible refine e8 ?_
 |(refine Aa (s143 _) ?_;rintro _ rfl;all_goals simp only[vl,ts,wb])
 |(refine call_rn (by simp (disch:=try exact Da) only[Ka,vB_nt,List.isEmpty_cons,wp,seval,reduceCtorEq]; rfl) (by simp (disch:=try exact Da) only[Ka,vB_nt,List.isEmpty_cons,wp,seval,reduceCtorEq]) (s144 _ (k145 N)) ?_; rintro _ rfl; all_goals simp only[vl,wp,ts,wb])
 |(refine call_rn (by simp (disch:=try exact Da) only[Ka,vB_nt,List.isEmpty_cons,wp,seval,reduceCtorEq]; rfl) (by simp (disch:=try exact Da) only[Ka,vB_nt,List.isEmpty_cons,wp,seval,reduceCtorEq]) (s144 _ (k146 N (by assumption))) ?_; rintro _ rfl; all_goals simp only[vl,wp,ts,wb])
 |(refine call_rn (by simp (disch:=try exact Da) only[Ka,vB_nt,List.isEmpty_cons,wp,seval,reduceCtorEq]; rfl) (by simp (disch:=try exact Da) only[Ka,vB_nt,List.isEmpty_cons,wp,seval,reduceCtorEq]) (s147 _ (k148 N)) ?_; rintro _ rfl; all_goals simp only[vl,wp,ts,wb])
 |(refine call_rn (by simp (disch:=try exact Da) only[Ka,vB_nt,List.isEmpty_cons,wp,seval,reduceCtorEq]; rfl) (by simp (disch:=try exact Da) only[Ka,vB_nt,List.isEmpty_cons,wp,seval,reduceCtorEq]) (s149 _ (k150 N)) ?_; rintro _ rfl; all_goals simp only[vl,wp,ts,wb])
 |(refine call_rn (by simp (disch:=try exact Da) only[Ka,vB_nt,List.isEmpty_cons,wp,seval,reduceCtorEq]; rfl) (by simp (disch:=try exact Da) only[Ka,vB_nt,List.isEmpty_cons,wp,seval,reduceCtorEq]) (s151 _ (k152 N)) ?_; rintro _ rfl; all_goals simp only[vl,wp,ts,wb])
 |(refine call_rn (by simp (disch:=try exact Da) only[Ka,vB_nt,List.isEmpty_cons,wp,seval,reduceCtorEq]; rfl) (by simp (disch:=try exact Da) only[Ka,vB_nt,List.isEmpty_cons,wp,seval,reduceCtorEq]) (s153 _ (k154 N)) ?_; rintro _ rfl; all_goals simp only[vl,wp,ts,wb])
 |(refine call_rn (by simp (disch:=try exact Da) only[Ka,vB_nt,List.isEmpty_cons,wp,seval,reduceCtorEq]; rfl) (by simp (disch:=try exact Da) only[Ka,vB_nt,List.isEmpty_cons,wp,seval,reduceCtorEq]) (s156 _ (k157 N)) ?_; rintro _ rfl; all_goals simp only[vl,wp,ts,wb])
 |(refine call_rn (by simp (disch:=try exact Da) only[Ka,vB_nt,List.isEmpty_cons,wp,seval,reduceCtorEq]; rfl) (by simp (disch:=try exact Da) only[Ka,vB_nt,List.isEmpty_cons,wp,seval,reduceCtorEq]) (s159 _ (k160 N)) ?_; rintro _ rfl; all_goals simp only[vl,wp,ts,wb])
 |(refine Fa ?_;first|exact bd_i ⟨fun h=>hg.2 ⟨by assumption,by assumption,by assumption,by assumption,by assumption,by assumption,by assumption,by assumption,h⟩,fun h=>h.irbs⟩|exact bd_f fun h=>absurd h.few (by assumption)|exact bd_f fun h=>absurd h.bare (by assumption)|exact bd_f fun h=>absurd h.peers (by assumption)|exact bd_f fun h=>absurd h.ports (by assumption)|exact bd_f fun h=>absurd h.links (by assumption)|exact bd_f fun h=>absurd h.stats (by assumption)|exact bd_f fun h=>absurd h.floods (by assumption)|exact bd_f fun h=>absurd h.vrfs (by assumption)|exact e9|fail)
 |fail)
end Go.Proofs
set_option maxHeartbeats 4000000
set_option maxRecDepth 100000
namespace Go.Proofs
open Go Go.Pv Go.Proofs.Tx
variable [Lq]
open W
open Classical
def Fnd{α:Type}[Inhabited α](N:Nt)(φ:α→Prop)(l:List α)(i:Int):Prop:=(Good N∧IsIdx φ l i) ∨(¬ Good N∧i=-1)
theorem Fnd.good{α:Type}[Inhabited α]{N:Nt}{φ:α→Prop}{l:List α}{i:Int}(h:Fnd N φ l i)(h0:0≤i):Good N∧i < l.length∧φ (nth l i.toNat):=by
 rcases h with ⟨h1,h2⟩ | ⟨h1,h2⟩
 ·exact⟨h1,h2.at h0⟩
 ·omega
theorem Fnd.lt{α:Type}[Inhabited α]{N:Nt}{φ:α→Prop}{l:List α}{i:Int}(h:Fnd N φ l i):-1≤i∧i < l.length:=by
 rcases h with ⟨h1,h2⟩ | ⟨h1,h2⟩
 ·exact h2.lt
 ·omega
def fiC(f':FuncId)(g:Bool):AC:=q (R [1,2,3] [bx 3 40 0,n 6 0]) (q (q (R [1,2,9] [la 7 8 3,ca 8 72 [7],nt 9 8]) (i 9 (q (R [6] [n 6 (-1)]) (r)) (s))) (q (R [6] [m 10 1,m 11 2,ca 12 f' [10,11],m 6 12]) (r)))
theorem find_run{α:Type}[Inhabited α]{enc:α→AV}{sz:Nat}{f f':FuncId}(ho:okRun Tryz.prog true [] f 3 [.t 6]=true)(hc:cod Tryz.prog true [] f=fiC f' true)(N:Nt)(u:SL α enc sz){g:FuncId}{caps:List AV}{φ:α→Prop}(hn:caps.all AV.nr1=true)
  (h:∃ r,Run Tryz.prog f' [u.v,.fn g caps] r∧∃ i,r=.int .i64 i∧IsIdx φ u.l i) :
  ∃ r,Run Tryz.prog f [N.v,u.v,.fn g caps] r∧∃ i,r=.int .i64 i∧Fnd N φ u.l i:=by
 refine run_w (c:=fiC f' true) [.t 6] 3 ho hc (Nat.le_refl 3) (by simp only[wd]) ?_
 have cs:∀ hp n,mapO (snap hp (n+2)) caps=some caps:=fun hp n=>mapO_id fun x hx=>snap_nr1 (List.all_eq_true.1 hn x hx)
 have cr:∀ hp n,caps.flatMap (rows hp (n+2))=[]:=fun hp n=>by rw [List.flatMap_eq_nil_iff]; exact fun x hx=>rows_nr1 (List.all_eq_true.1 hn x hx)
 unfold fiC
 simp (disch:=try exact Da) only[Ka,seval,reduceCtorEq]
 refine Aa (s72 N) ?_
 rintro _ rfl
 simp only[vl]
 simp (disch:=try exact Da) only[Ka,seval,reduceCtorEq]
 refine condC_d (fun hb=>?_) (fun hb=>?_)
 ·simp (disch:=try exact Da) only[Ka,seval,reduceCtorEq]
  refine fin_nr (by simp only[nrR,wd]) ⟨_,rfl,.inr ⟨hb,rfl⟩⟩
 ·simp (disch:=try exact Da) only[Ka,seval,reduceCtorEq]
  refine call_rn (l:=[]) (ys:=[u.v,.fn g caps]) (by simp (disch:=try exact Da) only[Ka,wp,cs,cr,seval,reduceCtorEq]) rfl h ?_
  rintro _ ⟨i,rfl,hi⟩
  simp only[vl,wp]
  simp (disch:=try exact Da) only[Ka,seval,reduceCtorEq]
  refine fin_nr (by simp only[nrR,wd]) ⟨_,rfl,.inl ⟨Decidable.of_not_not hb,hi⟩⟩
theorem s85(N:Nt)(a b:Int):∃ r,Run Tryz.prog 85 [N.v,.int .i64 a,.int .i64 b] r∧∃ i,r=.int .i64 i∧Fnd N (fun d:Dm=>d.dev=a∧d.vlan=b) N.doms.l i:=by
 have h:=find_run (f:=174) (by kernel_rfl) (by kernel_rfl) N N.doms (by simp only[wd]) (s234 _ (k175 a b))
 refine run_w (c:=c85 true) [.t 6] 3 (by kernel_rfl) (by kernel_rfl) (Nat.le_refl 3) (by simp only[wd]) ?_
 unfold c85
 repeat' (first
 |simp (disch:=try exact Da) only[Ka,seval,reduceCtorEq]
 |with_reducible refine e8 ?_
 |(refine call_rn (by simp (disch:=try exact Da) only[Ka,wp,seval,reduceCtorEq]; rfl) (by simp (disch:=try exact Da) only[Ka,wp,seval,reduceCtorEq]) h ?_; rintro _ ⟨i,rfl,hi⟩; all_goals simp only[vl,wp,ts,wb])
 |(refine Fa ?_;first|exact⟨_,rfl,hi⟩|exact e9|fail)
 |fail)
theorem s219(N:Nt)(a:List UInt8):∃ r,Run Tryz.prog 219 [N.v,.str a] r∧∃ i,r=.int .i64 i∧Fnd N (fun d:Dv=>d.name=a) N.devs.l i:=by
 have h:=find_run (f:=306) (by kernel_rfl) (by kernel_rfl) N N.devs (by simp only[wd]) (s236 _ (k307 a))
 refine run_w (c:=c219 true) [.t 4] 2 (by kernel_rfl) (by kernel_rfl) (Nat.le_refl 2) (by simp only[wd]) ?_
 unfold c219
 repeat' (first
 |simp (disch:=try exact Da) only[Ka,seval,reduceCtorEq]
 |with_reducible refine e8 ?_
 |(refine call_rn (by simp (disch:=try exact Da) only[Ka,wp,seval,reduceCtorEq]; rfl) (by simp (disch:=try exact Da) only[Ka,wp,seval,reduceCtorEq]) h ?_; rintro _ ⟨i,rfl,hi⟩; all_goals simp only[vl,wp,ts,wb])
 |(refine Fa ?_;first|exact⟨_,rfl,hi⟩|exact e9|fail)
 |fail)
theorem s220(N:Nt)(a:Int)(b:List UInt8):∃ r,Run Tryz.prog 220 [N.v,.int .i64 a,.str b] r∧∃ i,r=.int .i64 i∧Fnd N (fun d:Pt=>d.dev=a∧d.name=b) N.ports.l i:=by
 have h:=find_run (f:=308) (by kernel_rfl) (by kernel_rfl) N N.ports (by simp only[wd]) (s250 _ (k309 a b))
 refine run_w (c:=c220 true) [.t 6] 3 (by kernel_rfl) (by kernel_rfl) (Nat.le_refl 3) (by simp only[wd]) ?_
 unfold c220
 repeat' (first
 |simp (disch:=try exact Da) only[Ka,seval,reduceCtorEq]
 |with_reducible refine e8 ?_
 |(refine call_rn (by simp (disch:=try exact Da) only[Ka,wp,seval,reduceCtorEq]; rfl) (by simp (disch:=try exact Da) only[Ka,wp,seval,reduceCtorEq]) h ?_; rintro _ ⟨i,rfl,hi⟩; all_goals simp only[vl,wp,ts,wb])
 |(refine Fa ?_;first|exact⟨_,rfl,hi⟩|exact e9|fail)
 |fail)
theorem s228(N:Nt)(a:Int)(b:List UInt8):∃ r,Run Tryz.prog 228 [N.v,.int .i64 a,.str b] r∧∃ i,r=.int .i64 i∧Fnd N (fun d:Vf=>d.dev=a∧d.name=b) N.vrfs.l i:=by
 have h:=find_run (f:=317) (by kernel_rfl) (by kernel_rfl) N N.vrfs (by simp only[wd]) (s350 _ (k318 a b))
 refine run_w (c:=c228 true) [.t 6] 3 (by kernel_rfl) (by kernel_rfl) (Nat.le_refl 3) (by simp only[wd]) ?_
 unfold c228
 repeat' (first
 |simp (disch:=try exact Da) only[Ka,seval,reduceCtorEq]
 |with_reducible refine e8 ?_
 |(refine call_rn (by simp (disch:=try exact Da) only[Ka,wp,seval,reduceCtorEq]; rfl) (by simp (disch:=try exact Da) only[Ka,wp,seval,reduceCtorEq]) h ?_; rintro _ ⟨i,rfl,hi⟩; all_goals simp only[vl,wp,ts,wb])
 |(refine Fa ?_;first|exact⟨_,rfl,hi⟩|exact e9|fail)
 |fail)
theorem s223(N:Nt)(a b:List UInt8):∃ r,Run Tryz.prog 223 [N.v,.str a,.str b] r∧∃ i,r=.int .i64 i∧-1≤i∧i < N.ports.l.length:=by
 refine run_w (c:=c223 true) [.t 6] 3 (by kernel_rfl) (by kernel_rfl) (Nat.le_refl 3) (by simp only[wd]) ?_
 unfold c223
 repeat' (first
 |simp (disch:=try exact Da) only[Ka,seval,reduceCtorEq]
 |(with_reducible apply condC_d)<;>intro _
 |with_reducible refine e8 ?_
 |(refine Aa (s219 _ _) ?_;rintro _ ⟨i,rfl,hi⟩;all_goals simp only[vl,ts,wb])
 |(refine Aa (s220 _ _ _) ?_;rintro _ ⟨i,rfl,hi⟩; have hj:=hi.lt;all_goals simp only[vl,ts,wb])
 |(refine Fa ?_;first|exact e9|fail)
 |fail)
theorem s195(N:Nt)(p:Int):∃ r,Run Tryz.prog 195 [N.v,.int .i64 p] r∧∃ i,r=.int .i64 i∧-1≤i∧i < N.ports.l.length ∧(0≤i→Good N∧Pl N.ports.l p):=by
 refine run_w (c:=c195 true) [.t 4] 2 (by kernel_rfl) (by kernel_rfl) (Nat.le_refl 2) (by simp only[wd]) ?_
 unfold c195
 have h1:Good N→∀ k,k < N.ports.l.length →(nth N.ports.l k).link=-1∨Pl N.links.l (nth N.ports.l k).link:=fun h k hk=>by
  have:=(h.ports k hk).2.2.2.2.2.2.2.2; grind
 have h2:Good N→∀ k,k < N.links.l.length→Pl N.ports.l (nth N.links.l k).a∧Pl N.ports.l (nth N.links.l k).b:=fun h k hk=>by
  have:=h.links k hk; exact⟨this.1,this.2.1⟩
 repeat' (first
 |simp (disch:=try exact Da) only[Ka,seval,reduceCtorEq]
 |(with_reducible first|apply condC_d|apply gC_d0)<;>intro _
 |with_reducible refine e8 ?_
 |(refine Aa (s72 _) ?_;rintro _ rfl;all_goals simp only[vl,ts,wb])
 |(refine Fa ?_;first|exact e9|fail)
 |fail)
end Go.Proofs
