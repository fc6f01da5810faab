/- Part 32 of a proof that a step of one domain changes nothing of another: the machine of plain values, and what the program's functions do. -/
import Derived.Test.YtdgcdnnmodnkjaaGreatDoorG25
import Derived.KernelRfl
set_option linter.all false
set_option linter.unusedVariables false
set_option linter.unusedSectionVars false
set_option linter.unusedSimpArgs false
set_option linter.defProp false
set_option maxHeartbeats 4000000
set_option maxRecDepth 100000
namespace Go.Proofs
open Go Go.Pv
def gensM:Nat:=153298432724737912674422566356035331280811966794339493410979629743036429629879896502785092046559398109348046743670528
def spT:FuncId→Option (Bool × (Cl→List AV→Hp→Option (AV × Hp)))
 | 25=>some (true,spRun (cloneR 1 4 140737488355328))
 | 27=>some (true,spRun (cloneR 3 111 1000000000))
 | 41=>some (true,spRun (cloneR 5 133 1000000000))
 | 42=>some (true,spRun (cloneR 7 136 1000000000))
 | 43=>some (true,spRun (cloneR 3 129 1000000000))
 | 44=>some (true,spRun (cloneR 6 140 1000000000))
 | 45=>some (true,spRun (cloneR 4 143 1000000000))
 | 46=>some (true,spRun (cloneR 4 146 1000000000))
 | 47=>some (true,spRun (cloneR 5 149 1000000000))
 | 48=>some (true,spRun (cloneR 5 154 1000000000))
 | 49=>some (true,spRun (cloneR 1 3 1000000000))
 | 50=>some (true,spRun (cloneR 1 68 1000000000))
 | 173=>some (true,spRun (cloneR 1 5 140737488355328))
 | 35=>some (false,spOnce)
 | 97=>some (false,spAdd)
 | _=>none
def stT(f:FuncId):Str:=bif gensM.testBit f then .gen else bif Nat.beq f 34 then .run [.own 1 5] [] else .run [] []
noncomputable def E0:Env:={ P:=Tryz.prog,st:=stT,sp:=spT,fz:=fun f=>Nat.beq f 8 }
def wa33:List AV:=[(.sl 1 [(.int .u8 100),(.int .u8 101),(.int .u8 118),(.int .u8 105),(.int .u8 99),(.int .u8 101),(.int .u8 32),(.int .u8 97),(.int .u8 32),(.int .u8 49),(.int .u8 32),(.int .u8 48),(.int .u8 48),(.int .u8 58),(.int .u8 48),(.int .u8 48),(.int .u8 58),(.int .u8 48),(.int .u8 48),(.int .u8 58),(.int .u8 48),(.int .u8 48),(.int .u8 58),(.int .u8 48),(.int .u8 48),(.int .u8 58),(.int .u8 48),(.int .u8 49),(.int .u8 10),(.int .u8 112),(.int .u8 111),(.int .u8 114),(.int .u8 116),(.int .u8 32),(.int .u8 97),(.int .u8 32),(.int .u8 112),(.int .u8 32),(.int .u8 49),(.int .u8 32),(.int .u8 97),(.int .u8 99),(.int .u8 99),(.int .u8 101),(.int .u8 115),(.int .u8 115),(.int .u8 32),(.int .u8 49),(.int .u8 48),(.int .u8 10),(.int .u8 112),(.int .u8 111),(.int .u8 114),(.int .u8 116),(.int .u8 32),(.int .u8 97),(.int .u8 32),(.int .u8 113),(.int .u8 32),(.int .u8 49),(.int .u8 32),(.int .u8 97),(.int .u8 99),(.int .u8 99),(.int .u8 101),(.int .u8 115),(.int .u8 115),(.int .u8 32),(.int .u8 49),(.int .u8 48)] false)]
def wr33:AV:=(.tup [(.sl 17 [(.agg [(.int .i64 1),(.int .i64 1),(.str [97]),(.str []),(.str []),(.str []),(.str []),(.int .u64 1),(.int .u32 0),(.int .i64 0),(.int .i64 0),(.int .i64 1),(.int .i64 0),(.sl 0 [] true),(.sl 0 [] true),(.sl 0 [] true),(.sl 0 [] true)]),(.agg [(.int .i64 2),(.int .i64 2),(.str [97]),(.str [112]),(.str []),(.str []),(.str []),(.int .u64 0),(.int .u32 0),(.int .i64 0),(.int .i64 10),(.int .i64 0),(.int .i64 1),(.sl 0 [] true),(.sl 0 [] true),(.sl 0 [] true),(.sl 0 [] true)]),(.agg [(.int .i64 3),(.int .i64 2),(.str [97]),(.str [113]),(.str []),(.str []),(.str []),(.int .u64 0),(.int .u32 0),(.int .i64 0),(.int .i64 10),(.int .i64 0),(.int .i64 1),(.sl 0 [] true),(.sl 0 [] true),(.sl 0 [] true),(.sl 0 [] true)])] false),(.int .i64 0),(.int .i64 0)])
def wa7:List AV:=[(.sl 17 [(.agg [(.int .i64 1),(.int .i64 1),(.str [97]),(.str []),(.str []),(.str []),(.str []),(.int .u64 1),(.int .u32 0),(.int .i64 0),(.int .i64 0),(.int .i64 1),(.int .i64 0),(.sl 0 [] true),(.sl 0 [] true),(.sl 0 [] true),(.sl 0 [] true)]),(.agg [(.int .i64 2),(.int .i64 2),(.str [97]),(.str [112]),(.str []),(.str []),(.str []),(.int .u64 0),(.int .u32 0),(.int .i64 0),(.int .i64 10),(.int .i64 0),(.int .i64 1),(.sl 0 [] true),(.sl 0 [] true),(.sl 0 [] true),(.sl 0 [] true)]),(.agg [(.int .i64 3),(.int .i64 2),(.str [97]),(.str [113]),(.str []),(.str []),(.str []),(.int .u64 0),(.int .u32 0),(.int .i64 0),(.int .i64 10),(.int .i64 0),(.int .i64 1),(.sl 0 [] true),(.sl 0 [] true),(.sl 0 [] true),(.sl 0 [] true)])] false)]
def wr7:AV:=(.tup [(.agg [(.sl 5 [(.agg [(.int .i64 1),(.int .i64 1),(.str [97]),(.int .u64 1),(.int .u32 0)])] false),(.sl 7 [(.agg [(.int .i64 2),(.int .i64 0),(.int .i64 10),(.int .i64 1),(.int .i64 (-1)),(.str [112]),(.sl 1 [] false)]),(.agg [(.int .i64 3),(.int .i64 0),(.int .i64 10),(.int .i64 1),(.int .i64 (-1)),(.str [113]),(.sl 1 [] false)])] false),(.sl 3 [] false),(.sl 6 [(.agg [(.int .i64 0),(.int .i64 10),(.int .i64 0),(.int .i64 (-1)),(.int .i64 0),(.sl 0 [] true)])] false),(.sl 4 [] false),(.sl 4 [] false),(.sl 5 [] false),(.sl 5 [] false)]),(.int .i64 0),(.int .i64 0)])
def wa15:List AV:=[(.agg [(.int .u64 281474976710655),(.int .u64 5),(.int .i64 0),(.sl 0 [] true)])]
def wr15:AV:=(.tup [(.sl 1 [(.int .u8 255),(.int .u8 255),(.int .u8 255),(.int .u8 255),(.int .u8 255),(.int .u8 255),(.int .u8 0),(.int .u8 0),(.int .u8 0),(.int .u8 0),(.int .u8 0),(.int .u8 5),(.int .u8 0),(.int .u8 0)] false),(.int .i64 0)])
def wa19:List AV:=[(.agg [(.sl 5 [(.agg [(.int .i64 1),(.int .i64 1),(.str [97]),(.int .u64 1),(.int .u32 0)])] false),(.sl 7 [(.agg [(.int .i64 2),(.int .i64 0),(.int .i64 10),(.int .i64 1),(.int .i64 (-1)),(.str [112]),(.sl 1 [] false)]),(.agg [(.int .i64 3),(.int .i64 0),(.int .i64 10),(.int .i64 1),(.int .i64 (-1)),(.str [113]),(.sl 1 [] false)])] false),(.sl 3 [] false),(.sl 6 [(.agg [(.int .i64 0),(.int .i64 10),(.int .i64 0),(.int .i64 (-1)),(.int .i64 0),(.sl 0 [] true)])] false),(.sl 4 [] false),(.sl 4 [] false),(.sl 5 [] false),(.sl 5 [] false)]),(.sl 1 [] false)]
def wr19:AV:=(.tup [(.sl 1 [] false),(.int .i64 0)])
def wa19b:List AV:=[(.agg [(.sl 5 [(.agg [(.int .i64 1),(.int .i64 1),(.str [97]),(.int .u64 1),(.int .u32 0)])] false),(.sl 7 [(.agg [(.int .i64 2),(.int .i64 0),(.int .i64 10),(.int .i64 1),(.int .i64 (-1)),(.str [112]),(.sl 1 [] false)]),(.agg [(.int .i64 3),(.int .i64 0),(.int .i64 10),(.int .i64 1),(.int .i64 (-1)),(.str [113]),(.sl 1 [] false)])] false),(.sl 3 [] false),(.sl 6 [(.agg [(.int .i64 0),(.int .i64 10),(.int .i64 0),(.int .i64 (-1)),(.int .i64 0),(.sl 1 [] false)])] false),(.sl 4 [] false),(.sl 4 [] false),(.sl 5 [] false),(.sl 5 [] false)]),(.sl 1 [] false)]
def wr19b:AV:=(.tup [(.sl 1 [] false),(.int .i64 0)])
def wa16:List AV:=[(.agg [(.sl 5 [(.agg [(.int .i64 1),(.int .i64 1),(.str [97]),(.int .u64 1),(.int .u32 0)])] false),(.sl 7 [(.agg [(.int .i64 2),(.int .i64 0),(.int .i64 10),(.int .i64 1),(.int .i64 (-1)),(.str [112]),(.sl 1 [] false)]),(.agg [(.int .i64 3),(.int .i64 0),(.int .i64 10),(.int .i64 1),(.int .i64 (-1)),(.str [113]),(.sl 1 [] false)])] false),(.sl 3 [] false),(.sl 6 [(.agg [(.int .i64 0),(.int .i64 10),(.int .i64 0),(.int .i64 (-1)),(.int .i64 0),(.sl 0 [] true)])] false),(.sl 4 [] false),(.sl 4 [] false),(.sl 5 [] false),(.sl 5 [] false)]),(.sl 6 [(.agg [(.int .i64 1),(.int .i64 0),(.int .i64 0),(.int .i64 0),(.sl 1 [(.int .u8 255),(.int .u8 255),(.int .u8 255),(.int .u8 255),(.int .u8 255),(.int .u8 255),(.int .u8 0),(.int .u8 0),(.int .u8 0),(.int .u8 0),(.int .u8 0),(.int .u8 5),(.int .u8 0),(.int .u8 0)] false),(.sl 0 [] true)]),(.agg [(.int .i64 2),(.int .i64 0),(.int .i64 0),(.int .i64 0),(.sl 0 [] true),(.sl 0 [] true)])] false)]
def wr16:AV:=(.tup [(.sl 3 [(.agg [(.int .i64 1),(.int .i64 1),(.sl 1 [(.int .u8 255),(.int .u8 255),(.int .u8 255),(.int .u8 255),(.int .u8 255),(.int .u8 255),(.int .u8 0),(.int .u8 0),(.int .u8 0),(.int .u8 0),(.int .u8 0),(.int .u8 5),(.int .u8 0),(.int .u8 0)] false)])] false),(.int .i64 0)])
noncomputable def E1:Env:={ E0 with sp:=fun f=>bif Nat.beq f 19 then some (true,spRun (toldR [(wa19,wr19),(wa19b,wr19b)])) else spT f }
def spW:FuncId→Option (Bool × (Cl→List AV→Hp→Option (AV × Hp)))
 | 33=>some (true,spRun (toldR [(wa33,wr33)]))
 | 7=>some (true,spRun (toldR [(wa7,wr7)]))
 | 15=>some (true,spRun (toldR [(wa15,wr15)]))
 | 16=>some (true,spRun (toldR [(wa16,wr16)]))
 | _=>none
noncomputable def E2:Env:={ E0 with sp:=spW }
variable [Lq]
theorem spT_ok:SpOk Tryz.prog spT:=by
 have run:∀ {f:FuncId} {R:List AV→Option AV} {b:Bool} {g:Cl→List AV→Hp→Option (AV × Hp)},(∀ ys r,R ys=some r→Run Tryz.prog f ys r)→some (true,spRun R)=some (b,g)→∀ cl,ClOk Tryz.prog cl→∀ xs hp r H',g cl xs hp=some (r,H') →
   Gen Tryz.prog f xs hp r H' ∧(b=true →(∀ no,Grow no hp H')∧Framed Tryz.prog f xs hp r H'):=by
  intro f R b g hR e cl hc xs hp r H' h
  cases e
  obtain ⟨h1,h2⟩:=spRun_ok hR h
  exact⟨h1,fun _=>h2⟩
 intro f b g h
 unfold spT at h
 split at h
 ·exact run (clone_ok progOk (z:=(.bool false)) Tryz.func25 rfl (by kernel_rfl) (by kernel_rfl) (by kernel_rfl) (by decide)) h
 ·exact run (clone_ok progOk (z:=(.agg [(.int .u64 0),(.int .i64 0),(.int .i64 0)])) Tryz.func27 rfl (by kernel_rfl) (by kernel_rfl) (by kernel_rfl) (by decide)) h
 ·exact run (clone_ok progOk (z:=(.agg [(.int .i64 0),(.int .i64 0),(.str []),(.int .u64 0),(.int .u32 0)])) Tryz.func41 rfl (by kernel_rfl) (by kernel_rfl) (by kernel_rfl) (by decide)) h
 ·exact run (clone_ok progOk (z:=(.agg [(.int .i64 0),(.int .i64 0),(.int .i64 0),(.int .i64 0),(.int .i64 0),(.str []),(.sl 0 [] true)])) Tryz.func42 rfl (by kernel_rfl) (by kernel_rfl) (by kernel_rfl) (by decide)) h
 ·exact run (clone_ok progOk (z:=(.agg [(.int .i64 0),(.int .i64 0),(.int .i64 0)])) Tryz.func43 rfl (by kernel_rfl) (by kernel_rfl) (by kernel_rfl) (by decide)) h
 ·exact run (clone_ok progOk (z:=(.agg [(.int .i64 0),(.int .i64 0),(.int .i64 0),(.int .i64 0),(.int .i64 0),(.sl 0 [] true)])) Tryz.func44 rfl (by kernel_rfl) (by kernel_rfl) (by kernel_rfl) (by decide)) h
 ·exact run (clone_ok progOk (z:=(.agg [(.int .i64 0),(.int .i64 0),(.int .i64 0),(.int .u64 0)])) Tryz.func45 rfl (by kernel_rfl) (by kernel_rfl) (by kernel_rfl) (by decide)) h
 ·exact run (clone_ok progOk (z:=(.agg [(.int .i64 0),(.int .i64 0),(.int .i64 0),(.sl 0 [] true)])) Tryz.func46 rfl (by kernel_rfl) (by kernel_rfl) (by kernel_rfl) (by decide)) h
 ·exact run (clone_ok progOk (z:=(.agg [(.int .i64 0),(.int .i64 0),(.str []),(.sl 0 [] true),(.sl 0 [] true)])) Tryz.func47 rfl (by kernel_rfl) (by kernel_rfl) (by kernel_rfl) (by decide)) h
 ·exact run (clone_ok progOk (z:=(.agg [(.int .i64 0),(.int .i64 0),(.int .i64 0),(.int .u32 0),(.int .i64 0)])) Tryz.func48 rfl (by kernel_rfl) (by kernel_rfl) (by kernel_rfl) (by decide)) h
 ·exact run (clone_ok progOk (z:=(.int .i64 0)) Tryz.func49 rfl (by kernel_rfl) (by kernel_rfl) (by kernel_rfl) (by decide)) h
 ·exact run (clone_ok progOk (z:=(.int .u32 0)) Tryz.func50 rfl (by kernel_rfl) (by kernel_rfl) (by kernel_rfl) (by decide)) h
 ·exact run (clone_ok progOk (z:=(.int .u8 0)) Tryz.func173 rfl (by kernel_rfl) (by kernel_rfl) (by kernel_rfl) (by decide)) h
 ·cases h; exact fun cl hc xs hp r H' h=>⟨Onc.spOnce_ok hc h,fun e=>by cases e⟩
 ·cases h; exact fun cl hc xs hp r H' h=>⟨Onc.spAdd_ok h,fun e=>by cases e⟩
 ·cases h
theorem told_ok{f:FuncId}{L:List (List AV × AV)}(hL:∀ p∈L,Run Tryz.prog f p.1 p.2){cl:Cl}{xs:List AV}{hp:Hp}{r:AV}{H':Hp}(h:spRun (toldR L) cl xs hp=some (r,H')){b:Bool}:Gen Tryz.prog f xs hp r H' ∧(b=true →(∀ no,Grow no hp H')∧Framed Tryz.prog f xs hp r H'):=by
 obtain ⟨h1,h2⟩:=spRun_ok (toldR_ok hL) h
 exact⟨h1,fun _=>h2⟩
end Go.Proofs
