/- Part 23 of a proof that a step of one domain changes nothing of another: the machine of plain values, and what the program's functions do. -/
import Derived.Test.YtdgcdnnmodnkjaaGreatDoorG22
set_option linter.all false
set_option linter.unusedVariables false
set_option linter.unusedSectionVars false
set_option linter.unusedSimpArgs false
set_option linter.defProp false
set_option maxHeartbeats 4000000
set_option maxRecDepth 100000
namespace Go.Proofs
open Go Go.Pv Go.Proofs.Tx
variable [Lq]
open W
open Classical
def prF(l:List UInt8)(a:Int):Int:=((nth l a.toNat).toNat:Int) * 256 +((nth l (a+1).toNat).toNat:Int)
theorem prF_b(l:List UInt8)(a:Int):0≤prF l a∧prF l a≤65535:=by
 have h1:=(nth l a.toNat).toNat_lt
 have h2:=(nth l (a+1).toNat).toNat_lt
 unfold prF; omega
theorem s264(u:BL)(a:Int)(h:0≤a∧a+1 < u.l.length):∃ r,Run Tryz.prog 264 [u.v,.int .i64 a] r∧r=.int .i64 (prF u.l a):=by
 have hu:=u.n
 refine run_w (c:=c264 true) [.t 4] 2 (by kernel_rfl) (by kernel_rfl) (Nat.le_refl 2) (by simp only[wd]) ?_
 unfold c264
 repeat' (first
 |simp (disch:=try exact Dd) only[Kd,seval,reduceCtorEq]
 |with_reducible refine e8 ?_
 |(refine Fd ?_;first|exact e9|fail)
 |fail)
theorem s360(n:Int)(h0:0≤n∧n < 9223372036854775808){hp:Hp}{id:Nat}(h:ent hp id=some ⟨3,[.int .i64 n],true⟩):∃ r H',Gen Tryz.prog 360 [.eptr id 0 0] hp r H' ∧(r=.tup []∧H'=hp.set id (some ⟨3,[.int .i64 (n / 65536+n % 65536)],true⟩)):=by
 refine gen_w (c:=c360 false) [] 1 (by kernel_rfl) (by kernel_rfl) (Nat.le_refl 1) ?_
 unfold c360
 simp (disch:=try exact Dd) only[Kd,h,seval,reduceCtorEq]
theorem s352(n:Int)(h:0≤n∧n < 9223372036854775808):∃ r,Run Tryz.prog 352 [.int .i64 n] r∧∃ m,r=.int .i64 m∧0≤m∧m≤65535:=by
 refine run_w (c:=c352 true) [.t 2] 1 (by kernel_rfl) (by kernel_rfl) (Nat.le_refl 1) (by simp only[wd]) ?_
 unfold c352
 simp (disch:=try exact Dd) only[Kd,seval,reduceCtorEq]
 refine d_lo (fun n:Nat=>⟨[(1,.eptr 0 0 0),(3,.fn 360 [.eptr 0 0 0])],[some ⟨3,[.int .i64 n],true⟩]⟩) (fun n=>(n:Int) < 9223372036854775808) id ?_ ?_
 ·simp (disch:=try exact Dd) only[Kd,seval,reduceCtorEq]
  exact⟨n.toNat,by simp [Int.toNat_of_nonneg h.1],by omega⟩
 rintro n hn
 unfold c352b0
 simp (disch:=try exact Dd) only[Kd,seval,reduceCtorEq]
 refine condC_d (fun hlt=>?_) (fun hlt=>?_)
 ·simp (disch:=try exact Dd) only[Kd,seval,reduceCtorEq]
  refine callv_genQ (s360 n (by omega) rfl) (by rintro _ _ ⟨_,rfl⟩; simp) ?_
  rintro _ _ ⟨rfl,rfl⟩
  simp (disch:=try exact Dd) only[Kd,seval,reduceCtorEq]
  refine⟨n / 65536+n % 65536,by simp,by omega,?_⟩
  show n / 65536+n % 65536 < n
  omega
 ·repeat' (first
 |simp (disch:=try exact Dd) only[Kd,seval,reduceCtorEq]
 |(with_reducible apply condC_d)<;>intro _
 |with_reducible refine e8 ?_
 |(refine Fd ?_;first|exact e9|fail)
 |fail)
theorem s266(u:BL)(a:Int)(h:0≤a∧a+3 < u.l.length):∃ r,Run Tryz.prog 266 [u.v,.int .i64 a] r∧∃ m,r=.int .u32 m:=by
 have hu:=u.n
 refine run_w (c:=c266 true) [.t 4] 2 (by kernel_rfl) (by kernel_rfl) (Nat.le_refl 2) (by simp only[wd]) ?_
 unfold c266
 repeat' (first
 |simp (disch:=try exact Dd) only[Kd,seval,reduceCtorEq]
 |with_reducible refine e8 ?_
 |(refine Ad (s264 _ _ (by omega)) ?_;rintro _ rfl;all_goals simp only[vl,ts,wb])
 |(refine Fd ?_;first|exact e9|fail)
 |fail)
theorem s325(u:BL):∃ r,Run Tryz.prog 325 [u.v] r∧∃ m,r=.int .i64 m∧0≤m∧m≤65535:=by
 have hu:=u.n
 refine run_w (c:=c325 true) [.t 2] 1 (by kernel_rfl) (by kernel_rfl) (Nat.le_refl 1) (by simp only[wd]) ?_
 unfold c325
 simp (disch:=try exact Dd) only[Kd,seval,reduceCtorEq]
 refine d_lo (fun p:Nat × Nat=>⟨[(0,u.v),(3,.int .i64 p.2),(4,.int .i64 p.1)],[]⟩) (fun p=>p.1≤u.l.length+1∧p.2≤32768 * p.1) (fun p=>u.l.length+2 - p.1) ?_ ?_
 ·simp (disch:=try exact Dd) only[Kd,seval,reduceCtorEq]
  exact⟨(0,0),rfl,by simp⟩
 rintro ⟨k,n⟩ ⟨hk,hn⟩
 simp only at hk hn ⊢
 have h1:=prF_b u.l k
 have e1:prF u.l k =((nth u.l k).toNat:Int) * 256 +((nth u.l (k+1)).toNat:Int):=rfl
 unfold c325b0
 simp (disch:=try exact Dd) only[Kd,seval,reduceCtorEq]
 refine condC_d (fun hlt=>?_) (fun hlt=>?_)
 ·have b1:=(nth u.l k).toNat_lt
  have b2:=(nth u.l (k+1)).toNat_lt
  have hk1:((k:Int)+1).toNat=k+1:=by omega
  simp (disch:=try exact Dd) only[Kd,hk1,seval,reduceCtorEq]
  exact⟨by omega,by omega,(k+2,n +((nth u.l k).toNat * 256 +(nth u.l (k+1)).toNat)),by simp,by simp only; omega,by simp only; omega⟩
 ·have b4:=(nth u.l ((u.l.length:Int) - 1).toNat).toNat_lt
  repeat' (first
 |simp (disch:=try exact Dd) only[Kd,seval,reduceCtorEq]
 |(with_reducible apply condC_d)<;>intro _
 |with_reducible refine e8 ?_
 |(refine Ad (s352 _ (by omega)) ?_;rintro _ ⟨m,rfl,hm1,hm2⟩;all_goals simp only[vl,ts,wb])
 |(refine Fd ?_;first|exact e9|fail)
 |fail)
theorem s265(u:BL):∃ r,Run Tryz.prog 265 [u.v] r∧∃ b,r=.bool b:=by
 refine run_w (c:=c265 true) [.t 2] 1 (by kernel_rfl) (by kernel_rfl) (Nat.le_refl 1) (by simp only[wd]) ?_
 unfold c265
 repeat' (first
 |simp (disch:=try exact Dd) only[Kd,seval,reduceCtorEq]
 |with_reducible refine e8 ?_
 |(refine Ad (s325 _) ?_;rintro _ ⟨m,rfl,hm1,hm2⟩;all_goals simp only[vl,ts,wb])
 |(refine Fd ?_;first|exact e9|fail)
 |fail)
theorem s275(u:BL):∃ r,Run Tryz.prog 275 [u.v] r∧∃ m,r=.int .i64 m∧0≤m∧m≤65535:=by
 refine run_w (c:=c275 true) [.t 2] 1 (by kernel_rfl) (by kernel_rfl) (Nat.le_refl 1) (by simp only[wd]) ?_
 unfold c275
 repeat' (first
 |simp (disch:=try exact Dd) only[Kd,seval,reduceCtorEq]
 |with_reducible refine e8 ?_
 |(refine Ad (s325 _) ?_;rintro _ ⟨m,rfl,hm1,hm2⟩;all_goals simp only[vl,ts,wb])
 |(refine Fd ?_;first|(refine⟨_,rfl,?_⟩; omega)|exact e9|fail)
 |fail)
theorem s273(a b:Int):∃ r,Run Tryz.prog 273 [.int .i64 a,.int .i64 b] r∧r=.bool (decide (0≤a∧a≤b)):=by
 refine run_w (c:=c273 true) [.t 4] 2 (by kernel_rfl) (by kernel_rfl) (Nat.le_refl 2) (by simp only[wd]) ?_
 unfold c273
 repeat' (first
 |simp (disch:=try exact Dd) only[Kd,seval,reduceCtorEq]
 |(with_reducible apply gC_d1)<;>intro _
 |with_reducible refine e8 ?_
 |(refine Fd ?_;first|exact e9|fail)
 |fail)
end Go.Proofs
namespace Go.Proofs
open Go Go.Pv Go.Proofs.Tx
variable [Lq]
open W
def Ke:=And.intro @wk <| And.intro @wy <| And.intro @wq <| And.intro @wz <| And.intro @zd <| And.intro @mk <| @bz
theorem De{p:Prop}(h:p:=by first | assumption | omega | (simp only[wd,zl,wy,wq,wz,zd,mk,bz]; done) | fail):p:=h
theorem Ae{P:Program}{f:FuncId}{args:List AV}{hp:Hp}{E:AV→Hp→Prop}{Q:AV→Prop}{dr fm:Bool}{no:List TypeId}(h:∃ r,Run P f args r∧Q r)(hk:∀ r,Q r→vLay r hp E)(hn:args.all AV.nr1=true:=by first | (simp only[wd,wy,wq,wz,zd,mk,bz]; done) | fail):wCall P f args hp dr fm no E:=call_nr h hn hk
theorem Fe{hp:Hp}{x:AV}{Q:AV→Prop}(h:Q x)(hn:nrR x=true:=by first | (simp only[wd,wy,wq,wz,zd,mk,bz]; done) | fail):fin (some x) Q hp:=fin_nr hn h
end Go.Proofs
set_option maxHeartbeats 4000000
set_option maxRecDepth 100000
namespace Go.Proofs
open Go Go.Pv Go.Proofs.Tx
variable [Lq]
open W
open Classical
theorem s183(u:BL):∃ r,Run Tryz.prog 183 [u.v] r∧∃ p:Pk,∃ e,r=.tup [p.v,.int .i64 e] ∧(0≤e∧e < 64)∧p.body.l.length≤u.l.length:=by
 refine run_w (c:=c183 true) [.c 2 7 true,.t 3] 1 (by kernel_rfl) (by kernel_rfl) (Nat.le_refl 1) (by simp only[wd]) ?_
 unfold c183
 have hu:=u.n
 have hb:=prF_b u.l 2
 have hd:∀ n,(SL.cut u 20 n).l.length≤u.l.length:=fun n=>by simp [SL.cut]; omega
 repeat' (first
 |simp (disch:=try exact De) only[Ke,seval,reduceCtorEq]
 |(with_reducible first|apply condC_d|apply gC_d0)<;>intro _
 |with_reducible refine e8 ?_
 |(refine Ae (s264 _ _ (by omega)) ?_;rintro _ rfl;all_goals simp only[vl,ts,wb])
 |(refine Ae (s265 _) ?_;rintro _ ⟨b,rfl⟩;all_goals simp only[vl,ts,wb])
 |(refine Ae (s266 _ _ (by omega)) ?_;rintro _ ⟨m,rfl⟩;all_goals simp only[vl,ts,wb])
 |with_reducible refine condC_b (fun _=>?_) (fun _=>?_)
 |(refine Ae (r173 _) ?_;rintro _ rfl;all_goals simp only[vl,ts,wb])
 |(refine Fe ?_;first|(refine⟨_,_,rfl,by omega,Nat.zero_le _⟩)|(refine⟨_,_,rfl,by omega,hd _⟩)|exact e9|fail)
 |fail)
theorem s184(p:Pk):∃ r,Run Tryz.prog 184 [p.v] r∧∃ q:Pk,∃ e,r=.tup [q.v,.int .i64 e] ∧(0≤e∧e < 64)∧q.body.l.length≤p.body.l.length:=by
 refine run_w (c:=c184 true) [.c 2 7 true,.t 3] 1 (by kernel_rfl) (by kernel_rfl) (Nat.le_refl 1) (by simp only[wd]) ?_
 unfold c184
 repeat' (first
 |simp (disch:=try exact De) only[Ke,seval,reduceCtorEq]
 |(with_reducible apply condC_d)<;>intro _
 |with_reducible refine e8 ?_
 |(refine Ae (r173 _) ?_;rintro _ rfl;all_goals simp only[vl,ts,wb])
 |(refine Fe ?_;first|(refine⟨_,_,rfl,by omega,Nat.zero_le _⟩)|(refine⟨_,_,rfl,by omega,Nat.le_refl _⟩)|exact e9|fail)
 |fail)
theorem s274(l:List Int)(hl:l.length≤1000):∃ r,Run Tryz.prog 274 [.sl 0 [] true,.sl 1 (l.map (AV.int .i64)) false] r∧∃ bs:List UInt8,r=.own 1 5 (bs.map bv)∧bs.length=2 * l.length:=by
 obtain ⟨u,hu,hv⟩:∃ u:IL,u.l=l ∧(.sl 1 (l.map (AV.int .i64)) false:AV)=u.v:=⟨SL.of l (by omega),rfl,SL.ofe⟩
 rw [hv]
 subst hu
 refine run_w (c:=c274 true) [.t 4] 2 (by kernel_rfl) (by kernel_rfl) (Nat.le_refl 2) (by simp only[wd]) ?_
 unfold c274
 simp (disch:=try exact De) only[Ke,seval,reduceCtorEq]
 refine d_lo (fun p:Nat × Nat × List UInt8=>⟨[(0,.vec 0 1 0 p.2.1),(7,u.v),(8,.int .i64 u.l.length),(9,.int .i64 p.1)],[some ⟨5,p.2.2.map bv,true⟩]⟩) (fun p=>p.1≤u.l.length∧p.2.2.length=p.2.1∧p.2.1=2 * p.1) (fun p=>u.l.length - p.1) ?_ ?_
 ·simp (disch:=try exact De) only[Ke,seval,reduceCtorEq]
  exact⟨(0,0,[]),rfl,by simp⟩
 rintro ⟨k,n,bs⟩ ⟨hk,hb,hn⟩
 simp only at hk hb hn ⊢
 unfold c274b0
 repeat' (first
 |simp (disch:=try exact De) only[Ke,hb,take_map_all,seval,reduceCtorEq]
 |(with_reducible apply condC_d)<;>intro _
 |with_reducible refine e8 ?_
 |with_reducible refine e_app_vec ?_
 |(refine⟨(k+1,n+2,_),rfl,⟨?_,?_,?_⟩,?_⟩ <;> simp only[List.length_append,List.length_cons,List.length_nil] <;> omega)
 |(refine fin_o [[.own 1 5]] ?_;simp (disch:=try exact De) only[Ke,hb,take_map_all,wo,seval,reduceCtorEq];refine⟨_,rfl,?_,?_⟩;(first|rfl|simp (disch:=try exact De) only[Ke,hb,take_map_all,wo,seval,reduceCtorEq]);first|(refine⟨bs,rfl,?_⟩; omega)|exact⟨_,rfl⟩|fail)
 |fail)
 all_goals trace_state
end Go.Proofs
set_option maxHeartbeats 4000000
set_option maxRecDepth 100000
namespace Go.Proofs
open Go Go.Pv Go.Proofs.Tx
variable [Lq]
open W
open Classical
theorem s275'(l:List UInt8)(n:l.length≤140737488355328):∃ r,Run Tryz.prog 275 [.sl 1 (l.map bv) false] r∧∃ m,r=.int .i64 m∧0≤m∧m≤65535:=by
 have:=s275 (SL.of l n)
 rwa [← SL.ofe] at this
theorem s274'(a b c d e f g h i j:Int):∃ r,Run Tryz.prog 274 [.sl 0 [] true,.sl 1 [.int .i64 a,.int .i64 b,.int .i64 c,.int .i64 d,.int .i64 e,.int .i64 f,.int .i64 g,.int .i64 h,.int .i64 i,.int .i64 j] false] r∧∃ bs:List UInt8,r=.own 1 5 (bs.map bv)∧bs.length=20:=s274 [a,b,c,d,e,f,g,h,i,j] (Nat.le_of_ble_eq_true rfl)
theorem s186(p:Pk):∃ r,Run Tryz.prog 186 [p.v] r∧∃ b:BL,∃ e,r=.tup [b.v,.int .i64 e] ∧(0≤e∧e < 64)∧b.l.length≤1500:=by
 refine run_w (c:=c186 true) [.t 2,.t 3] 1 (by kernel_rfl) (by kernel_rfl) (Nat.le_refl 1) (by simp only[wd]) ?_
 unfold c186
 have hu:=p.body.n
 have e1:∀(x:List UInt8) (n:x.length≤140737488355328),(.sl 1 (x.map bv) false:AV) =(SL.of x n:BL).v:=fun x n=>SL.ofe
 repeat' (first
 |simp (disch:=try exact Df) only[Kf,take_map_all,seval,reduceCtorEq]
 |(with_reducible first|apply condC_d|apply gC_d0)<;>intro _
 |with_reducible refine e8 ?_
 |with_reducible refine e_app_vec ?_
 |(refine callv_nr (s273 _ _) (by simp only[wd,seval,not_false_eq_true]) ?_; rintro _ rfl; all_goals simp only[vl,ts,wb])
 |(refine call_rn (by simp (disch:=try exact Df) only[Kf,take_map_all,wp,seval,reduceCtorEq]; rfl) (by simp (disch:=try exact Df) only[Kf,take_map_all,wp,seval,reduceCtorEq]) (s274' _ _ _ _ _ _ _ _ _ _) ?_; rintro _ ⟨bs,rfl,hbs⟩; all_goals simp only[vl,wp,ts,wb])
 |(refine call_pl (by simp (disch:=try exact Df) only[Kf,take_map_all,wp,seval,reduceCtorEq]; rfl) (by simp (disch:=try exact Df) only[Kf,take_map_all,wp,seval,reduceCtorEq]) (s275' bs (by omega)) (by rintro _ ⟨m,rfl,hm1,hm2⟩ <;> rfl) ?_; rintro _ ⟨m,rfl,hm1,hm2⟩; all_goals simp only[vl,wp,ts,wb])
 |(refine Ff ?_;first|(refine⟨SL.nil,_,congrArg (fun x=>AV.tup [x,_]) SL.nile,by omega,Nat.zero_le _⟩)|(refine⟨_,_,congrArg (fun x=>AV.tup [x,_]) (e1 _ (by simp; omega)),by omega,?_⟩; simp [SL.of]; omega)|exact e9|fail)
 |(refine fin_o [] ?_;simp (disch:=try exact Df) only[Kf,take_map_all,wh,seval,reduceCtorEq];refine⟨_,rfl,?_,?_⟩;(first|rfl|simp (disch:=try exact Df) only[Kf,take_map_all,wh,seval,reduceCtorEq]);first|(refine⟨SL.nil,_,congrArg (fun x=>AV.tup [x,_]) SL.nile,by omega,Nat.zero_le _⟩)|(refine⟨_,_,congrArg (fun x=>AV.tup [x,_]) (e1 _ (by simp; omega)),by omega,?_⟩; simp [SL.of]; omega)|exact⟨_,rfl⟩|fail)
 |fail)
 all_goals trace_state
end Go.Proofs
set_option maxHeartbeats 4000000
set_option maxRecDepth 100000
namespace Go.Proofs
open Go Go.Pv Go.Proofs.Tx
variable [Lq]
open W
open Classical
theorem bv_z:AV.int .u8 0=bv 0:=rfl
theorem cast0:((0:Nat):Int)=0:=rfl
theorem cast1:((1:Nat):Int)=1:=rfl
theorem cast2:((2:Nat):Int)=2:=rfl
theorem cast3:((3:Nat):Int)=3:=rfl
theorem one_mul'{n:Nat}:n * 1=n:=Nat.mul_one n
theorem s281(a b:Int):∃ r,Run Tryz.prog 281 [.int .u64 a,.int .u64 b] r∧∃ n,r=.int .i64 n:=by
 refine run_w (c:=c281 true) [.t 4] 2 (by kernel_rfl) (by kernel_rfl) (Nat.le_refl 2) (by simp only[wd]) ?_
 unfold c281
 repeat' (first
 |simp (disch:=try exact Df) only[Kf,seval,reduceCtorEq]
 |with_reducible refine e8 ?_
 |(refine Ff ?_;first|exact e9|fail)
 |fail)
theorem s279(n:Int):∃ r,Run Tryz.prog 279 [.int .i64 n] r∧∃ bs:List UInt8,∃ e,r=.tup [.own 1 5 (bs.map bv),.int .i64 e] ∧(0≤e∧e < 64)∧bs.length≤8:=by
 refine run_w (c:=c279 true) [.t 2,.t 3] 1 (by kernel_rfl) (by kernel_rfl) (Nat.le_refl 1) (by simp only[wd]) ?_
 unfold c279
 repeat' (first
 |simp (disch:=try exact Df) only[Kf,seval,reduceCtorEq]
 |(with_reducible first|apply condC_d|apply gC_d0)<;>intro _
 |with_reducible refine e8 ?_
 |(refine fin_o [[.own 1 5]] ?_;simp (disch:=try exact Df) only[Kf,wo,seval,reduceCtorEq];refine⟨_,rfl,?_,?_⟩;(first|rfl|simp (disch:=try exact Df) only[Kf,wo,seval,reduceCtorEq]);first|(refine⟨[],_,rfl,by omega,Nat.zero_le _⟩)|(refine⟨[8,0,0,0,toB (n / 65536),toB (n / 256),toB n,0],_,rfl,by omega,Nat.le_refl _⟩)|exact⟨_,rfl⟩|fail)
 |fail)
theorem s280(a b:Int)(u:BL):∃ r,Run Tryz.prog 280 [.int .i64 a,.int .i64 b,u.v] r∧∃ w:BL,∃ e,r=.tup [w.v,.int .i64 e] ∧(0≤e∧e < 64):=by
 refine run_w (c:=c280 true) [.t 6,.t 7] 3 (by kernel_rfl) (by kernel_rfl) (Nat.le_refl 3) (by simp only[wd]) ?_
 unfold c280
 have hu:=u.n
 repeat' (first
 |simp (disch:=try exact Df) only[Kf,seval,reduceCtorEq]
 |(with_reducible first|apply condC_d|apply gC_d0)<;>intro _
 |with_reducible refine e8 ?_
 |with_reducible refine e_app_vec ?_
 |(refine Ff ?_;first|(refine⟨SL.nil,_,congrArg (fun x=>AV.tup [x,_]) SL.nile,by omega⟩)|exact e9|fail)
 |(refine fin_o [] ?_;simp (disch:=try exact Df) only[Kf,wh,seval,reduceCtorEq];refine⟨_,rfl,?_,?_⟩;(first|rfl|simp (disch:=try exact Df) only[Kf,wh,seval,reduceCtorEq]);first|(refine⟨SL.nil,_,congrArg (fun x=>AV.tup [x,_]) SL.nile,by omega⟩)|exact⟨_,rfl⟩|fail)
 |fail)
 refine d_lo (fun p:Nat × Nat × List UInt8=>⟨[(2,u.v),(8,.vec 0 1 0 p.2.1),(35,.agg [.int .i64 a,.int .i64 b,.int .i64 (8+u.l.length),.int .i64 0]),(36,.int .i64 p.1)],[some ⟨5,p.2.2.map bv,true⟩]⟩) (fun p=>p.1≤4∧p.2.2.length=p.2.1∧p.2.1=2 * p.1) (fun p=>4 - p.1) ?_ ?_
 ·simp (disch:=try exact Df) only[Kf,seval,reduceCtorEq]
  exact⟨(0,0,[]),rfl,by simp⟩
 rintro ⟨k,n,bs⟩ ⟨hk,hb,hn⟩
 simp only at hk hb hn ⊢
 unfold c280b0
 by_cases h4:k < 4
 ·obtain rfl | rfl | rfl | rfl:k=0∨k=1∨k=2∨k=3:=by omega
  all_goals repeat' (first
 |simp (disch:=try exact Df) only[Kf,hb,take_map_all,cast0,cast1,cast2,cast3,one_mul',bv_z,seval,reduceCtorEq]
 |(with_reducible first|apply condC_d|apply gC_d0)<;>intro _
 |with_reducible refine e8 ?_
 |with_reducible refine e_app_vec ?_
 |(refine⟨(_,n+2,_),rfl,⟨?_,?_,?_⟩,?_⟩ <;> simp only[List.length_append,List.length_cons,List.length_nil] <;> omega)
 |(refine Ff ?_;first|exact e9|fail)
 |(refine fin_o [] ?_;simp (disch:=try exact Df) only[Kf,hb,take_map_all,cast0,cast1,cast2,cast3,one_mul',bv_z,wh,seval,reduceCtorEq];refine⟨_,rfl,?_,?_⟩;(first|rfl|simp (disch:=try exact Df) only[Kf,hb,take_map_all,cast0,cast1,cast2,cast3,one_mul',bv_z,wh,seval,reduceCtorEq]);first|exact⟨_,rfl⟩|fail)
 |fail)
  all_goals trace_state
 ·obtain rfl:k=4:=by omega
  repeat' (first
 |simp (disch:=try exact Df) only[Kf,hb,take_map_all,bl_of,seval,reduceCtorEq]
 |(with_reducible first|apply condC_d|apply gC_d0)<;>intro _
 |with_reducible refine e8 ?_
 |with_reducible refine e_app_vec ?_
 |(refine Ff ?_;first|(refine⟨_,_,rfl,by omega⟩)|exact e9|fail)
 |(refine fin_o [] ?_;simp (disch:=try exact Df) only[Kf,hb,take_map_all,bl_of,wh,seval,reduceCtorEq];refine⟨_,rfl,?_,?_⟩;(first|rfl|simp (disch:=try exact Df) only[Kf,hb,take_map_all,bl_of,wh,seval,reduceCtorEq]);first|(refine⟨_,_,rfl,by omega⟩)|exact⟨_,rfl⟩|fail)
 |fail)
  all_goals trace_state
theorem s192(a b c:Int)(f:Fm):∃ r,Run Tryz.prog 192 [.int .u32 a,.int .u32 b,.int .i64 c,f.v] r∧∃ w:BL,∃ e,r=.tup [w.v,.int .i64 e] ∧(0≤e∧e < 64)∧w.l.length≤1518:=by
 refine run_w (c:=c192 true) [.t 8,.t 9] 4 (by kernel_rfl) (by kernel_rfl) (Nat.le_refl 4) (by simp only[wd]) ?_
 unfold c192
 have hu:=f.body.n
 repeat' (first
 |simp (disch:=try exact Df) only[Kf,bl_of,take_map_all,seval,reduceCtorEq]
 |(with_reducible apply condC_d)<;>intro _
 |with_reducible refine e8 ?_
 |with_reducible refine e_app_vec ?_
 |(refine Af (s81 _) ?_;rintro _ rfl;all_goals simp only[vl,ts,wb])
 |(refine Af (s15 _) ?_;rintro _ ⟨w,e,rfl,he,hb⟩;all_goals simp only[vl,ts,wb])
 |(refine Af (s279 _) ?_;rintro _ ⟨hs,e2,rfl,he2,hhs⟩;all_goals simp only[vl,ts,wb])
 |(refine Af (s281 _ _) ?_;rintro _ ⟨n,rfl⟩;all_goals simp only[vl,ts,wb])
 |(refine call_rn (by simp (disch:=try exact Df) only[Kf,bl_of,take_map_all,wp,seval,reduceCtorEq]; rfl) (by simp (disch:=try exact Df) only[Kf,bl_of,take_map_all,wp,seval,reduceCtorEq]) (s280 _ _ _) ?_; rintro _ ⟨w2,e3,rfl,he3⟩; all_goals simp only[vl,wp,ts,wb])
 |(refine Af (s186 _) ?_;rintro _ ⟨w3,e4,rfl,he4,hw3⟩;all_goals simp only[vl,ts,wb])
 |(refine Af (s182 _) ?_;rintro _ ⟨m,rfl⟩;all_goals simp only[vl,ts,wb])
 |(refine Ff ?_;first|(refine⟨SL.nil,_,congrArg (fun x=>AV.tup [x,_]) SL.nile,by omega,Nat.zero_le _⟩)|(refine⟨_,_,rfl,he,hb⟩)|exact e9|fail)
 |fail)
 all_goals trace_state
end Go.Proofs
namespace Go.Proofs
open Go Go.Pv Go.Proofs.Tx
variable [Lq]
open W
def Kh:=And.intro @wk <| And.intro @wy <| And.intro @wq <| And.intro @wz <| And.intro @zd <| And.intro @mk <| And.intro @bz <| And.intro @tt <| @wg
theorem Dh{p:Prop}(h:p:=by first | assumption | omega | (simp only[wd,zl,wy,wq,wz,zd,mk,bz,tt,wg]; done) | (simp only[List.length_append,List.length_set,List.length_cons,List.length_nil,List.length_map,List.length_take,List.length_drop,List.length_replicate]; omega) | fail):p:=h
theorem Ah{P:Program}{f:FuncId}{args:List AV}{hp:Hp}{E:AV→Hp→Prop}{Q:AV→Prop}{dr fm:Bool}{no:List TypeId}(h:∃ r,Run P f args r∧Q r)(hk:∀ r,Q r→vLay r hp E)(hn:args.all AV.nr1=true:=by first | (simp only[wd,wy,wq,wz,zd,mk,bz,tt,wg]; done) | fail):wCall P f args hp dr fm no E:=call_nr h hn hk
theorem Fh{hp:Hp}{x:AV}{Q:AV→Prop}(h:Q x)(hn:nrR x=true:=by first | (simp only[wd,wy,wq,wz,zd,mk,bz,tt,wg]; done) | fail):fin (some x) Q hp:=fin_nr hn h
end Go.Proofs
set_option maxHeartbeats 4000000
set_option maxRecDepth 100000
namespace Go.Proofs
open Go Go.Pv Go.Proofs.Tx
variable [Lq]
open W
open Classical
theorem s328(u:BL):∃ r,Run Tryz.prog 328 [u.v] r∧∃ a b:Int,∃ w:BL,∃ e,r=.tup [.int .i64 a,.int .i64 b,w.v,.int .i64 e] ∧(0≤e∧e < 64)∧w.l.length≤u.l.length:=by
 refine run_w (c:=c328 true) [.t 2,.t 3,.t 4,.t 5] 1 (by kernel_rfl) (by kernel_rfl) (Nat.le_refl 1) (by simp only[wd]) ?_
 unfold c328
 have hu:=u.n
 have hd:∀ n,(SL.cut u 8 n).l.length≤u.l.length:=fun n=>by simp [SL.cut]; omega
 repeat' (first
 |simp (disch:=try exact Dh) only[Kh,seval,reduceCtorEq]
 |(with_reducible apply condC_d)<;>intro _
 |with_reducible refine e8 ?_
 |(refine Fh ?_;first|(refine⟨_,_,SL.nil,_,congrArg (fun x=>AV.tup [_,_,x,_]) SL.nile,by omega,Nat.zero_le _⟩)|exact e9|fail)
 |fail)
 refine d_lo (fun p:Nat × Int × Int × Int × Int=>⟨[(0,u.v),(6,.eptr 0 0 0),(11,.int .i64 p.1)],[some ⟨441,[.agg [.int .i64 p.2.1,.int .i64 p.2.2.1,.int .i64 p.2.2.2.1,.int .i64 p.2.2.2.2]],true⟩]⟩) (fun p=>p.1≤4) (fun p=>4 - p.1) ?_ ?_
 ·simp (disch:=try exact Dh) only[Kh,z26,seval,reduceCtorEq]
  exact⟨(0,0,0,0,0),rfl,by simp⟩
 rintro ⟨k,x0,x1,x2,x3⟩ hk
 simp only at hk ⊢
 unfold c328b0
 by_cases h4:k < 4
 ·obtain rfl | rfl | rfl | rfl:k=0∨k=1∨k=2∨k=3:=by omega
  all_goals repeat' (first
 |simp (disch:=try exact Dh) only[Kh,cast0,cast1,cast2,cast3,setCells.eq_1,seval,reduceCtorEq]
 |(with_reducible apply condC_d)<;>intro _
 |with_reducible refine e8 ?_
 |(refine⟨(_,_,_,_,_),rfl,?_,?_⟩ <;> simp only <;> omega)
 |(refine Fh ?_;first|exact e9|fail)
 |fail)
  all_goals trace_state
 ·obtain rfl:k=4:=by omega
  repeat' (first
 |simp (disch:=try exact Dh) only[Kh,seval,reduceCtorEq]
 |(with_reducible apply condC_d)<;>intro _
 |with_reducible refine e8 ?_
 |(refine Ah (r173 _) ?_;rintro _ rfl;all_goals simp only[vl,ts,wb])
 |(refine Fh ?_;first|(refine⟨_,_,SL.nil,_,congrArg (fun x=>AV.tup [_,_,x,_]) SL.nile,by omega,Nat.zero_le _⟩)|(refine⟨_,_,_,_,rfl,by omega,hd _⟩)|exact e9|fail)
 |fail)
  all_goals trace_state
theorem s329(u:BL):∃ r,Run Tryz.prog 329 [u.v] r∧∃ a:Int,∃ w:BL,∃ e,r=.tup [.int .i64 a,w.v,.int .i64 e] ∧(0≤e∧e < 64)∧w.l.length≤u.l.length:=by
 refine run_w (c:=c329 true) [.t 2,.t 3,.t 4] 1 (by kernel_rfl) (by kernel_rfl) (Nat.le_refl 1) (by simp only[wd]) ?_
 unfold c329
 have hu:=u.n
 have hd:∀ n,(SL.drop u n).l.length≤u.l.length:=fun n=>by simp [SL.drop]
 have hd8:=hd 8
 repeat' (first
 |simp (disch:=try exact Dh) only[Kh,bl_of,take_map_all,elems_vec,v_b2s_vec,Nat.le_refl,toBytes_bys,seval,reduceCtorEq]
 |(with_reducible first|apply condC_d|apply gC_d0)<;>intro _
 |with_reducible refine e8 ?_
 |(refine Ah (s279 _) ?_;rintro _ ⟨hs,e2,rfl,he2,hhs⟩;all_goals simp only[vl,ts,wb])
 |(refine Fh ?_;first|(refine⟨_,SL.nil,_,congrArg (fun x=>AV.tup [_,x,_]) SL.nile,by omega,Nat.zero_le _⟩)|(refine⟨_,_,_,rfl,by omega,?_⟩; first | exact hd _ | (rw [SL.of_l]; exact hd _))|exact e9|fail)
 |(refine fin_o [] ?_;simp (disch:=try exact Dh) only[Kh,bl_of,take_map_all,elems_vec,v_b2s_vec,Nat.le_refl,toBytes_bys,wh,seval,reduceCtorEq];refine⟨_,rfl,?_,?_⟩;(first|rfl|simp (disch:=try exact Dh) only[Kh,bl_of,take_map_all,elems_vec,v_b2s_vec,Nat.le_refl,toBytes_bys,wh,seval,reduceCtorEq]);first|(refine⟨_,SL.nil,_,congrArg (fun x=>AV.tup [_,x,_]) SL.nile,by omega,Nat.zero_le _⟩)|(refine⟨_,_,_,rfl,by omega,?_⟩; first | exact hd _ | (rw [SL.of_l]; exact hd _))|exact⟨_,rfl⟩|fail)
 |fail)
 all_goals trace_state
def okE(e:Int):Prop:=0≤e∧e < 64
theorem s327(x:Rd)(b:Bool)(e:Int){hp:Hp}{id:Nat}(h:ent hp id=some ⟨406,[x.v],true⟩)(he:okE e)(hx:okE x.err):∃ r H',Gen Tryz.prog 327 [.eptr id 0 0,.bool b,.int .i64 e] hp r H' ∧(r=.tup []∧∃ y:Rd,H'=hp.set id (some ⟨406,[y.v],true⟩)∧y.pk=x.pk∧okE y.err):=by
 have hs:=ent_same h
 refine gen_w (c:=c327 false) [] 3 (by kernel_rfl) (by kernel_rfl) (Nat.le_refl 3) ?_
 unfold c327
 cases b
 ·simp (disch:=try exact Dh) only[Kh,h,seval,reduceCtorEq]
  exact⟨x,hs.symm,rfl,hx⟩
 ·by_cases h0:x.err=0
  ·simp (disch:=try exact Dh) only[Kh,h,h0,seval,reduceCtorEq]
   exact⟨_,rfl,rfl,he⟩
  ·simp (disch:=try exact Dh) only[Kh,h,h0,seval,reduceCtorEq]
   exact⟨x,hs.symm,rfl,hx⟩
theorem s282(u:BL)(x:Rd){hp:Hp}{id:Nat}(h:ent hp id=some ⟨406,[x.v],true⟩)(hx:okE x.err):∃ r H',Gen Tryz.prog 282 [.eptr id 0 0,u.v] hp r H' ∧(r=.tup []∧∃ y:Rd,∃ ext,H'=hp.set id (some ⟨406,[y.v],true⟩) ++ ext ∧(y.pk.body.l.length≤u.l.length∨y.pk=x.pk)∧okE y.err):=by
 have hl:=entlt h
 refine gen_w (c:=c282 false) [] 2 (by kernel_rfl) (by kernel_rfl) (Nat.le_refl 2) ?_
 unfold c282
 simp (disch:=try exact Dh) only[Kh,seval,reduceCtorEq]
 refine Ah (s80 u) ?_
 rintro _ ⟨f,e,rfl,he0,he1,hf⟩
 simp only[vl,ts,wb]
 simp (disch:=try exact Dh) only[Kh,seval,reduceCtorEq]
 refine call_genQ (s327 x true e (ent_ap h _) ⟨he0,he1⟩ hx) ?_
 rintro _ _ ⟨rfl,y,rfl,hy1,hy2⟩
 simp (disch:=try exact Dh) only[Kh,seval,reduceCtorEq]
 refine call_genQ (s327 y _ 11 (ent_sap hl) (by unfold okE; omega) hy2) ?_
 rintro _ _ ⟨rfl,y2,rfl,hy3,hy4⟩
 simp (disch:=try exact Dh) only[Kh,seval,reduceCtorEq]
 refine condC_d (fun h0=>?_) (fun h0=>?_)
 ·simp (disch:=try exact Dh) only[Kh,seval,reduceCtorEq]
  refine Ah (s183 _) ?_
  rintro _ ⟨p,e3,rfl,he3,hp3⟩
  simp only[vl,ts,wb]
  simp (disch:=try exact Dh) only[Kh,seval,reduceCtorEq]
  refine call_genQ (s327 { y2 with pk:=p } true e3 (ent_sap hl) he3 hy4) ?_
  rintro _ _ ⟨rfl,y3,rfl,hy5,hy6⟩
  simp (disch:=try exact Dh) only[Kh,seval,reduceCtorEq]
  refine call_genQ (s327 y3 _ 11 (ent_sap hl) (by unfold okE; omega) hy6) ?_
  rintro _ _ ⟨rfl,y4,rfl,hy7,hy8⟩
  simp (disch:=try exact Dh) only[Kh,seval,reduceCtorEq]
  refine⟨y4,_,rfl,.inl ?_,hy8⟩
  rw [hy7,hy5]; exact Nat.le_trans hp3 hf
 ·simp (disch:=try exact Dh) only[Kh,seval,reduceCtorEq]
  exact⟨y2,_,rfl,.inr (hy3.trans hy1),hy4⟩
theorem s283(x:Rd){hp:Hp}{id:Nat}(h:ent hp id=some ⟨406,[x.v],true⟩)(hx:okE x.err):∃ r H',Gen Tryz.prog 283 [.eptr id 0 0] hp r H' ∧(∃ f:Fm,r=f.v∧f.body.l.length≤x.pk.body.l.length∧∃ y:Rd,∃ ext,H'=hp.set id (some ⟨406,[y.v],true⟩) ++ ext∧y.pk=x.pk∧okE y.err):=by
 have hl:=entlt h
 have hs:=ent_same h
 refine gen_w (c:=c283 false) [.c 2 4 true] 1 (by kernel_rfl) (by kernel_rfl) (Nat.le_refl 1) ?_
 unfold c283
 by_cases h0:x.err=0
 ·simp (disch:=try exact Dh) only[Kh,h,ent_ap h,h0,seval,reduceCtorEq]
  refine Ah (s328 _) ?_
  rintro _ ⟨a,b,w,e,rfl,he,hw⟩
  simp only[vl,ts,wb]
  simp (disch:=try exact Dh) only[Kh,seval,reduceCtorEq]
  refine call_genQ (s327 x true e (ent_ap h _) he hx) ?_
  rintro _ _ ⟨rfl,y,rfl,hy1,hy2⟩
  simp (disch:=try exact Dh) only[Kh,seval,reduceCtorEq]
  refine call_genQ (s327 y _ 11 (ent_sap hl) (by unfold okE; omega) hy2) ?_
  rintro _ _ ⟨rfl,y2,rfl,hy3,hy4⟩
  simp (disch:=try exact Dh) only[Kh,seval,reduceCtorEq]
  refine condC_d (fun h0=>?_) (fun h0=>?_)
  ·simp (disch:=try exact Dh) only[Kh,seval,reduceCtorEq]
   refine Ah (s329 _) ?_
   rintro _ ⟨a2,w2,e2,rfl,he2,hw2⟩
   simp only[vl,ts,wb]
   simp (disch:=try exact Dh) only[Kh,seval,reduceCtorEq]
   refine call_genQ (s327 { y2 with vni:=a2 } true e2 (ent_sap hl) he2 hy4) ?_
   rintro _ _ ⟨rfl,y3,rfl,hy5,hy6⟩
   simp (disch:=try exact Dh) only[Kh,seval,reduceCtorEq]
   refine condC_d (fun h1=>?_) (fun h1=>?_)
   ·simp (disch:=try exact Dh) only[Kh,seval,reduceCtorEq]
    exact⟨_,rfl,Nat.zero_le _,y3,_,rfl,hy5.trans (hy3.trans hy1),hy6⟩
   ·simp (disch:=try exact Dh) only[Kh,seval,reduceCtorEq]
    refine Ah (s80 _) ?_
    rintro _ ⟨f,e4,rfl,he4,he5,hf⟩
    simp only[vl,ts,wb]
    simp (disch:=try exact Dh) only[Kh,seval,reduceCtorEq]
    refine call_genQ (s327 y3 true e4 (ent_sap hl) ⟨he4,he5⟩ hy6) ?_
    rintro _ _ ⟨rfl,y4,rfl,hy7,hy8⟩
    simp (disch:=try exact Dh) only[Kh,seval,reduceCtorEq]
    refine Ah (s81 _) ?_
    rintro _ rfl
    simp only[vl,ts,wb]
    simp (disch:=try exact Dh) only[Kh,seval,reduceCtorEq]
    refine call_genQ (s327 y4 _ 15 (ent_sap hl) (by unfold okE; omega) hy8) ?_
    rintro _ _ ⟨rfl,y5,rfl,hy9,hy10⟩
    simp (disch:=try exact Dh) only[Kh,seval,reduceCtorEq]
    exact⟨_,rfl,Nat.le_trans hf (Nat.le_trans hw2 hw),y5,_,rfl,hy9.trans (hy7.trans (hy5.trans (hy3.trans hy1))),hy10⟩
  ·simp (disch:=try exact Dh) only[Kh,seval,reduceCtorEq]
   exact⟨_,rfl,Nat.zero_le _,y2,_,rfl,hy3.trans hy1,hy4⟩
 ·simp (disch:=try exact Dh) only[Kh,h,ent_ap h,h0,seval,reduceCtorEq]
  exact⟨_,rfl,Nat.zero_le _,x,_,by rw [hs],rfl,hx⟩
theorem s196(u:BL):∃ r,Run Tryz.prog 196 [u.v] r∧∃ a b c:Int,∃ f:Fm,∃ e,r=.tup [.int .u32 a,.int .u32 b,.int .i64 c,f.v,.int .i64 e]∧okE e∧f.body.l.length≤u.l.length:=by
 refine run_w (c:=c196 true) [.t 2,.t 3,.t 4,.c 5 4 true,.t 6] 1 (by kernel_rfl) (by kernel_rfl) (Nat.le_refl 1) (by simp only[wd]) ?_
 unfold c196
 simp (disch:=try exact Dh) only[Kh,seval,reduceCtorEq]
 refine call_genQ (s282 u default rfl (by unfold okE; decide)) ?_
 rintro _ _ ⟨rfl,y,ext,rfl,hy1,hy2⟩
 simp (disch:=try exact Dh) only[Kh,seval,reduceCtorEq]
 have hy1:y.pk.body.l.length≤u.l.length:=by
  rcases hy1 with h | h
  ·exact h
  ·rw [h]; exact Nat.zero_le _
 refine call_genQ (s283 y rfl hy2) ?_
 rintro _ _ ⟨f,rfl,hf,y2,ext2,rfl,hy3,hy4⟩
 simp (disch:=try exact Dh) only[Kh,seval,reduceCtorEq]
 refine condC_d (fun h0=>?_) (fun h0=>?_)
 ·repeat' (first
 |simp (disch:=try exact Dh) only[Kh,seval,reduceCtorEq]
 |(with_reducible apply condC_d)<;>intro _
 |with_reducible refine e8 ?_
 |(refine Fh ?_;first|(refine⟨_,_,_,_,_,rfl,hy4,Nat.zero_le _⟩)|exact e9|fail)
 |fail)
  all_goals trace_state
 ·repeat' (first
 |simp (disch:=try exact Dh) only[Kh,seval,reduceCtorEq]
 |(with_reducible apply condC_d)<;>intro _
 |with_reducible refine e8 ?_
 |(refine Fh ?_;first|(refine⟨_,_,_,_,_,rfl,by unfold okE; omega,Nat.le_trans hf hy1⟩)|exact e9|fail)
 |fail)
  all_goals trace_state
end Go.Proofs
namespace Go.Proofs
open Go Go.Pv Go.Proofs.Tx
variable [Lq]
open W
def Kg:=And.intro @wk <| And.intro @wy <| And.intro @wq <| And.intro @wz <| And.intro @zd <| And.intro @mk <| And.intro @bz <| @tt
theorem Dg{p:Prop}(h:p:=by first | assumption | omega | (simp only[wd,zl,wy,wq,wz,zd,mk,bz,tt]; done) | (simp only[List.length_append,List.length_set,List.length_cons,List.length_nil,List.length_map,List.length_take,List.length_drop,List.length_replicate]; omega) | fail):p:=h
theorem Ag{P:Program}{f:FuncId}{args:List AV}{hp:Hp}{E:AV→Hp→Prop}{Q:AV→Prop}{dr fm:Bool}{no:List TypeId}(h:∃ r,Run P f args r∧Q r)(hk:∀ r,Q r→vLay r hp E)(hn:args.all AV.nr1=true:=by first | (simp only[wd,wy,wq,wz,zd,mk,bz,tt]; done) | fail):wCall P f args hp dr fm no E:=call_nr h hn hk
theorem Fg{hp:Hp}{x:AV}{Q:AV→Prop}(h:Q x)(hn:nrR x=true:=by first | (simp only[wd,wy,wq,wz,zd,mk,bz,tt]; done) | fail):fin (some x) Q hp:=fin_nr hn h
end Go.Proofs
set_option maxHeartbeats 4000000
set_option maxRecDepth 100000
namespace Go.Proofs
open Go Go.Pv Go.Proofs.Tx
variable [Lq]
open W
open Classical
theorem s51(N:Nt)(p:Int)(u:BL):∃ r,Run Tryz.prog 51 [N.v,.int .i64 p,u.v] r∧∃ d,∃ f:Fm,∃ e,r=.tup [.int .i64 d,f.v,.int .i64 e]∧okE e∧f.body.l.length≤u.l.length ∧(e=0→Good N∧Pl N.doms.l d):=by
 refine run_w (c:=c51 true) [.t 6,.c 7 4 true,.t 8] 3 (by kernel_rfl) (by kernel_rfl) (Nat.le_refl 3) (by simp only[wd]) ?_
 unfold c51
 have ok:∀ e:Int,0≤e∧e < 64→okE e:=fun e h=>h
 have fin':∀ {d w:Int},Good N→Pl N.ports.l p→Mem (nth N.ports.l p.toNat) w→Fnd N (fun d:Dm=>d.dev =(nth N.ports.l p.toNat).dev∧d.vlan=w) N.doms.l d→Good N∧Pl N.doms.l d:=fun hg hp hm hd=>⟨hg,(fnd_has hd hg).2 (good_mem hg hp hm),hd.lt.2⟩
 repeat' (first
 |simp (disch:=try exact Dg) only[Kg,seval,reduceCtorEq]
 |(with_reducible first|apply condC_d|apply gC_d0|apply gC_d1)<;>intro _
 |with_reducible refine e8 ?_
 |(refine Ag (s72 _) ?_;rintro _ rfl;all_goals simp only[vl,ts,wb])
 |(refine Ag (s80 _) ?_;rintro _ ⟨f,e,rfl,he0,he1,hf⟩;all_goals simp only[vl,ts,wb])
 |(refine Ag (s81 _) ?_;rintro _ rfl;all_goals simp only[vl,ts,wb])
 |(refine Ag (s82 _) ?_;rintro _ ⟨g,x1,x2,e2,rfl,he2,hg⟩;all_goals simp only[vl,ts,wb])
 |(refine Ag (s83 _) ?_;rintro _ ⟨_ | _,rfl⟩;all_goals simp only[vl,ts,wb])
 |(refine Ag (s84 _ _ _) ?_;rintro _ ⟨w,_ | _,rfl,hw⟩;all_goals simp only[vl,ts,wb])
 |(refine Ag (s85 _ _ _) ?_;rintro _ ⟨d,rfl,hd⟩;all_goals simp only[vl,ts,wb])
 |(refine Fg ?_;first|(refine⟨_,_,_,rfl,ok _ (by omega),Nat.zero_le _,fun h=>?_⟩; omega)|(refine⟨_,_,_,rfl,ok _ (by omega),hf,fun _=>fin' (Decidable.of_not_not (by assumption)) ⟨by omega,by omega⟩ (hw rfl) hd⟩)|(refine⟨_,_,_,rfl,ok _ (by omega),Nat.le_trans hg hf,fun _=>fin' (Decidable.of_not_not (by assumption)) ⟨by omega,by omega⟩ (hw rfl) hd⟩)|exact e9|fail)
 |fail)
theorem s98(N:Nt)(p:Int)(u:BL):∃ r,Run Tryz.prog 98 [N.v,.int .i64 p,u.v] r∧∃ a d,∃ f:Fm,∃ e,r=.tup [.int .i64 a,.int .i64 d,f.v,.int .i64 e]∧okE e∧f.body.l.length≤u.l.length ∧(e=0→Good N∧Pl N.doms.l d):=by
 refine run_w (c:=c98 true) [.t 6,.t 7,.c 8 4 true,.t 9] 3 (by kernel_rfl) (by kernel_rfl) (Nat.le_refl 3) (by simp only[wd]) ?_
 unfold c98
 have ok:∀ e:Int,0≤e∧e < 64→okE e:=fun e h=>h
 repeat' (first
 |simp (disch:=try exact Dg) only[Kg,seval,reduceCtorEq]
 |(with_reducible apply condC_d)<;>intro _
 |with_reducible refine e8 ?_
 |(refine Ag (s195 _ _) ?_;rintro _ ⟨a,rfl,ha⟩;all_goals simp only[vl,ts,wb])
 |(refine Ag (s51 _ _ _) ?_;rintro _ ⟨d,f,e,rfl,he,hf,hd⟩;all_goals simp only[vl,ts,wb])
 |(refine Fg ?_;first|(refine⟨_,_,_,_,rfl,ok _ (by omega),Nat.zero_le _,fun h=>?_⟩; omega)|exact⟨_,_,_,_,rfl,he,hf,hd⟩|exact e9|fail)
 |fail)
end Go.Proofs
set_option maxHeartbeats 4000000
set_option maxRecDepth 100000
namespace Go.Proofs
open Go Go.Pv Go.Proofs.Tx
variable [Lq]
open W
open Classical
def vtep(N:Nt)(k:Int):Int:=(nth N.devs.l (nth N.doms.l k.toNat).dev.toNat).vtep
theorem good_dev{N:Nt}(h:Good N){k:Int}(hk:Pl N.doms.l k):Pl N.devs.l (nth N.doms.l k.toNat).dev:=(h.bare k.toNat (by omega)).1
theorem s193(N:Nt)(k:Int)(hg:Good N)(hk:Pl N.doms.l k):∃ r,Run Tryz.prog 193 [N.v,.int .i64 k] r∧r=.int .u32 (vtep N k):=by
 refine run_w (c:=c193 true) [.t 4] 2 (by kernel_rfl) (by kernel_rfl) (Nat.le_refl 2) (by simp only[wd]) ?_
 unfold c193
 have h2:=good_dev hg hk
 repeat' (first
 |simp (disch:=try exact Dg) only[Kg,seval,reduceCtorEq]
 |with_reducible refine e8 ?_
 |(refine Fg ?_;first|exact e9|fail)
 |fail)
theorem s287(N:Nt)(k a:Int)(hg:Good N)(hk:Pl N.doms.l k):∃ r,Run Tryz.prog 287 [.int .i64 k,.rptr N.v 0,.rptr (.int .u32 a) 0] r∧r=.bool (decide (vtep N k=a)):=by
 refine run_w (c:=c287 true) [.t 4] 3 (by kernel_rfl) (by kernel_rfl) (Nat.le_refl 3) (by simp only[wd]) ?_
 unfold c287
 repeat' (first
 |simp (disch:=try exact Dg) only[Kg,seval,reduceCtorEq]
 |with_reducible refine e8 ?_
 |(refine Ag (s193 _ _ hg hk) ?_;rintro _ rfl;all_goals simp only[vl,ts,wb])
 |(refine Fg ?_;first|exact e9|fail)
 |fail)
theorem good_peer{N:Nt}(h:Good N){k x:Int}(hk:Pl N.doms.l k)(hx:x ∈(nth N.doms.l k.toNat).peers.l):Pl N.doms.l x:=by
 obtain ⟨j,hj,rfl⟩:=nth_of hx
 exact((h.peers k.toNat (by omega)) j hj).1.1
theorem s197(N:Nt)(a b c:Int)(hg:Good N):∃ r,Run Tryz.prog 197 [N.v,.int .u32 a,.int .u32 b,.int .i64 c] r∧∃ i j,r=.tup [.int .i64 i,.int .i64 j] ∧(0≤i→Pl N.doms.l i∧Pl N.doms.l j):=by
 refine run_w (c:=c197 true) [.t 8,.t 9] 4 (by kernel_rfl) (by kernel_rfl) (Nat.le_refl 4) (by simp only[wd]) ?_
 unfold c197
 have hc:∀ k,Pl N.doms.l k→Clo Int (AV.int .i64) (fun x=>vtep N x=a) (nth N.doms.l k.toNat).peers.l 287 [.rptr N.v 0,.rptr (.int .u32 a) 0]:=fun k hk=>⟨by decide,by simp only[wd],fun x hx=>by
  obtain ⟨_,h1,rfl⟩:=s287 N x a hg (good_peer hg hk hx); exact⟨_,h1,_,rfl,by simp⟩⟩
 repeat' (first
 |simp (disch:=try exact Dg) only[Kg,seval,reduceCtorEq]
 |(with_reducible first|apply condC_d|apply gC_d0)<;>intro _
 |with_reducible refine e8 ?_
 |(refine call_rn (by simp (disch:=try exact Dg) only[Kg,wp,seval,reduceCtorEq]; rfl) (by simp (disch:=try exact Dg) only[Kg,wp,seval,reduceCtorEq]) (s236 _ (k284 _)) ?_; rintro _ ⟨i,rfl,hi⟩; have hi':=hi.lt; all_goals simp only[vl,wp,ts,wb])
 |(refine call_rn (by simp (disch:=try exact Dg) only[Kg,wp,seval,reduceCtorEq]; rfl) (by simp (disch:=try exact Dg) only[Kg,wp,seval,reduceCtorEq]) (s234 _ (k285 _ _)) ?_; rintro _ ⟨d,rfl,hd⟩; have hd':=hd.lt; all_goals simp only[vl,wp,ts,wb])
 |(refine call_rn (by simp (disch:=try exact Dg) only[Kg,wp,seval,reduceCtorEq]; rfl) (by simp (disch:=try exact Dg) only[Kg,wp,seval,reduceCtorEq]) (s286 _ (hc _ ⟨by omega,hd'.2⟩)) ?_; rintro _ ⟨x,rfl,hx⟩; have hx':=hx.lt; all_goals simp only[vl,wp,ts,wb])
 |(refine Fg ?_;first|(refine⟨_,_,rfl,fun h=>?_⟩; omega)|(refine⟨_,_,rfl,fun h=>⟨good_peer hg (k:=d) ⟨by omega,by omega⟩ (nth_mem ?_),?_⟩⟩ <;> omega)|exact e9|fail)
 |fail)
theorem s99(N:Nt)(u:BL):∃ r,Run Tryz.prog 99 [N.v,u.v] r∧∃ a d,∃ f:Fm,∃ e,r=.tup [.int .i64 a,.int .i64 d,f.v,.int .i64 e]∧okE e∧f.body.l.length≤u.l.length ∧(e=0→Good N∧Pl N.doms.l d):=by
 refine run_w (c:=c99 true) [.t 4,.t 5,.c 6 4 true,.t 7] 2 (by kernel_rfl) (by kernel_rfl) (Nat.le_refl 2) (by simp only[wd]) ?_
 unfold c99
 have ok:∀ e:Int,0≤e∧e < 64→okE e:=fun e h=>h
 repeat' (first
 |simp (disch:=try exact Dg) only[Kg,seval,reduceCtorEq]
 |(with_reducible apply condC_d)<;>intro _
 |with_reducible refine e8 ?_
 |(refine Ag (s72 _) ?_;rintro _ rfl;all_goals simp only[vl,ts,wb])
 |(refine Ag (s196 _) ?_;rintro _ ⟨x1,x2,x3,f,e,rfl,he,hf⟩;all_goals simp only[vl,ts,wb])
 |(refine Ag (s197 _ _ _ _ (Decidable.of_not_not (by assumption))) ?_;rintro _ ⟨i,j,rfl,hj⟩;all_goals simp only[vl,ts,wb])
 |(refine Ag (s83 _) ?_;rintro _ ⟨_ | _,rfl⟩;all_goals simp only[vl,ts,wb])
 |(refine Fg ?_;first|(refine⟨_,_,_,_,rfl,ok _ (by omega),Nat.zero_le _,fun h=>?_⟩; omega)|exact⟨_,_,_,_,rfl,he,Nat.zero_le _,fun h=>absurd h (by assumption)⟩|(refine⟨_,_,_,_,rfl,ok _ (by omega),hf,fun _=>⟨Decidable.of_not_not (by assumption),(hj (by omega)).2⟩⟩)|exact e9|fail)
 |fail)
theorem s94(N:Nt)(p d:Int)(f:Fm):∃ r,Run Tryz.prog 94 [N.v,.int .i64 p,.int .i64 d,f.v] r∧∃ b:BL,∃ e,r=.tup [b.v,.int .i64 e]∧okE e∧b.l.length≤1518:=by
 refine run_w (c:=c94 true) [.t 8,.t 9] 4 (by kernel_rfl) (by kernel_rfl) (Nat.le_refl 4) (by simp only[wd]) ?_
 unfold c94
 have ok:∀ e:Int,0≤e∧e < 64→okE e:=fun e h=>h
 repeat' (first
 |simp (disch:=try exact Dg) only[Kg,seval,reduceCtorEq]
 |(with_reducible first|apply condC_d|apply gC_d0)<;>intro _
 |with_reducible refine e8 ?_
 |(refine Ag (s188 _ _) ?_;rintro _ rfl;all_goals simp only[vl,ts,wb])
 |(refine Ag (s72 _) ?_;rintro _ rfl;all_goals simp only[vl,ts,wb])
 |(refine Ag (s190 _ _) ?_;rintro _ rfl;all_goals simp only[vl,ts,wb])
 |(refine Ag (s81 _) ?_;rintro _ rfl;all_goals simp only[vl,ts,wb])
 |(refine callv_nr (s189 _ _ _) (by simp only[wd,seval,not_false_eq_true]) ?_; rintro _ ⟨b,e,rfl,he,hb⟩; all_goals simp only[vl,ts,wb])
 |(refine callv_nr (s191 _ _ _) (by simp only[wd,seval,not_false_eq_true]) ?_; rintro _ ⟨b,e,rfl,he,hb⟩; all_goals simp only[vl,ts,wb])
 |(refine Fg ?_;first|(refine⟨SL.nil,_,congrArg (fun x=>AV.tup [x,_]) SL.nile,ok _ (by omega),Nat.zero_le _⟩)|exact⟨_,_,rfl,he,hb⟩|exact e9|fail)
 |fail)
theorem s95(N:Nt)(p d:Int)(f:Fm):∃ r,Run Tryz.prog 95 [N.v,.int .i64 p,.int .i64 d,f.v] r∧∃ b:BL,∃ e,r=.tup [b.v,.int .i64 e]∧okE e∧b.l.length≤1518:=by
 refine run_w (c:=c95 true) [.t 8,.t 9] 4 (by kernel_rfl) (by kernel_rfl) (Nat.le_refl 4) (by simp only[wd]) ?_
 unfold c95
 have ok:∀ e:Int,0≤e∧e < 64→okE e:=fun e h=>h
 repeat' (first
 |simp (disch:=try exact Dg) only[Kg,seval,reduceCtorEq]
 |(with_reducible first|apply condC_d|apply gC_d0)<;>intro _
 |with_reducible refine e8 ?_
 |(refine Ag (s188 _ _) ?_;rintro _ rfl;all_goals simp only[vl,ts,wb])
 |(refine Ag (s72 _) ?_;rintro _ rfl;all_goals simp only[vl,ts,wb])
 |(refine Ag (s40 _ _) ?_;rintro _ rfl;all_goals simp only[vl,ts,wb])
 |(refine Ag (s193 _ _ (Decidable.of_not_not (by assumption)) ⟨by omega,by omega⟩) ?_;rintro _ rfl;all_goals simp only[vl,ts,wb])
 |(refine callv_nr (s192 _ _ _ _) (by simp only[wd,seval,not_false_eq_true]) ?_; rintro _ ⟨b,e,rfl,he,hb⟩; all_goals simp only[vl,ts,wb])
 |(refine Fg ?_;first|(refine⟨SL.nil,_,congrArg (fun x=>AV.tup [x,_]) SL.nile,ok _ (by omega),Nat.zero_le _⟩)|exact⟨_,_,rfl,he,hb⟩|exact e9|fail)
 |fail)
end Go.Proofs
