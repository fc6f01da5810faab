/- The proofs of what the functions of this seat do. -/
import Derived.Test.YtppdpcfmkmnfjaaGreatDoorPr10
set_option linter.unusedSimpArgs false
set_option linter.unusedVariables false
set_option maxHeartbeats 2000000
set_option maxRecDepth 20000
set_option maxHeartbeats 16000000
namespace Go.Proofs
open Go.Pv
theorem rspell_run(l:List Int)(n:Nat)(f:Bool)(hn:l=[]∨n=1)(hl:l.length≤1000)(hr:∀ n∈l,-9223372036854775808≤n∧n < 9223372036854775808):Run Tryz.prog 160 [.sl n (l.map (.int .i64)) f] (.str (lsT l)):=by
 refine Tryz.run160 (by simp) ?_
 unfold Tryz.c160 lsT
 by_cases h:l=[]
 ·subst h
  rw [if_pos rfl]
  simp (disch:=try exact dq) only[↓pvd,pz,sC,List.map,seval,List.map_nil]
  exact eZ
 ·obtain rfl:n=1:=hn.resolve_left h
  have hp:=List.length_pos_iff.2 h
  have hp':¬(l.length:Int)=0:=by omega
  have q:=wir_run l f hl hr
  rw [if_neg h]
  have hlm:(l.map (AV.int .i64)).length=l.length:=by simp
  generalize l.map (AV.int .i64)=es at *
  simp (disch:=try exact dq) only[↓pvd,pz,sC,List.map,seval,hlm,hp']
  refine aC q rfl rfl ?_
  refine wZ ?_
  exact eZ
theorem rww1(r:Int)(a1 a2 a3 a4 a5:List UInt8)(b1 b2 b3 b4 b5 b6:Int)(n1 n2 n3 n4:Nat)(s1 s2 s3 s4:List AV)(f1 f2 f3 f4:Bool)(tv tn tm:List UInt8)(q1:Run Tryz.prog 108 [.int .i64 b4] (.str tv))(q2:Run Tryz.prog 108 [.int .i64 b5] (.str tn))(q3:Run Tryz.prog 109 [.int .u64 b1] (.str tm)) :
  Run Tryz.prog 146 [lnA ⟨r,1,a1,a2,a3,a4,a5,b1,b2,b3,b4,b5,b6⟩ (.sl n1 s1 f1) (.sl n2 s2 f2) (.sl n3 s3 f3) (.sl n4 s4 f4)] (.own 1 9 ([[100,101,118,105,99,101],a1,tn,tm].map .str)):=by
 simp only[List.map_cons,List.map_nil]
 refine Tryz.run146 (by simp) ?_
 unfold Tryz.c146 lnA
 refine wZ ?_
 refine aC q1 rfl rfl ?_
 refine wZ ?_
 refine aC q2 rfl rfl ?_
 refine wZ ?_
 refine aC q3 rfl rfl ?_
 refine wZ ?_
 (refine Ends_rq [[.own 1 9]] ?_; simp (disch:=try exact dq) only[↓pvd,pz,sC,List.map,seval]; exact⟨_,rfl,rfl,rfl⟩)
theorem rww2a(r:Int)(a1 a2 a3 a4 a5:List UInt8)(b1 b2 b3 b4 b5 b6:Int)(n1 n2 n3 n4:Nat)(s1 s2 s3 s4:List AV)(f1 f2 f3 f4:Bool)(tv tn tm:List UInt8)(q1:Run Tryz.prog 108 [.int .i64 b4] (.str tv))(q2:Run Tryz.prog 108 [.int .i64 b5] (.str tn))(q3:Run Tryz.prog 109 [.int .u64 b1] (.str tm))(tc:List UInt8)(q4:Run Tryz.prog 108 [.int .i64 b6] (.str tc))(h:(s1.length:Int)=0) :
  Run Tryz.prog 146 [lnA ⟨r,2,a1,a2,a3,a4,a5,b1,b2,b3,b4,b5,b6⟩ (.sl n1 s1 f1) (.sl n2 s2 f2) (.sl n3 s3 f3) (.sl n4 s4 f4)] (.own 1 9 ([[112,111,114,116],a1,a2,tc,[97,99,99,101,115,115],tv].map .str)):=by
 simp only[List.map_cons,List.map_nil]
 refine Tryz.run146 (by simp) ?_
 unfold Tryz.c146 lnA
 refine wZ ?_
 refine aC q1 rfl rfl ?_
 refine wZ ?_
 refine aC q2 rfl rfl ?_
 refine wZ ?_
 refine aC q3 rfl rfl ?_
 simp (disch:=try exact dq) only[↓pvd,pz,sC,List.map,seval,h]
 refine aC q4 rfl rfl ?_
 simp (disch:=try exact dq) only[↓pvd,pz,sC,List.map,seval,h]
 (refine Ends_rq [[.own 1 9]] ?_; simp (disch:=try exact dq) only[↓pvd,pz,sC,List.map,seval]; exact⟨_,rfl,rfl,rfl⟩)
theorem rww2b(r:Int)(a1 a2 a3 a4 a5:List UInt8)(b1 b2 b3 b4 b5 b6:Int)(n1 n2 n3 n4:Nat)(s1 s2 s3 s4:List AV)(f1 f2 f3 f4:Bool)(tv tn tm:List UInt8)(q1:Run Tryz.prog 108 [.int .i64 b4] (.str tv))(q2:Run Tryz.prog 108 [.int .i64 b5] (.str tn))(q3:Run Tryz.prog 109 [.int .u64 b1] (.str tm))(tc tl:List UInt8)(q4:Run Tryz.prog 108 [.int .i64 b6] (.str tc))(q5:Run Tryz.prog 160 [.sl n1 s1 f1] (.str tl))(h:¬(s1.length:Int)=0)(hb:¬ b4=0) :
  Run Tryz.prog 146 [lnA ⟨r,2,a1,a2,a3,a4,a5,b1,b2,b3,b4,b5,b6⟩ (.sl n1 s1 f1) (.sl n2 s2 f2) (.sl n3 s3 f3) (.sl n4 s4 f4)] (.own 1 9 ([[112,111,114,116],a1,a2,tc,[116,114,117,110,107],tv,tl].map .str)):=by
 simp only[List.map_cons,List.map_nil]
 refine Tryz.run146 (by simp) ?_
 unfold Tryz.c146 lnA
 refine wZ ?_
 refine aC q1 rfl rfl ?_
 refine wZ ?_
 refine aC q2 rfl rfl ?_
 refine wZ ?_
 refine aC q3 rfl rfl ?_
 simp (disch:=try exact dq) only[↓pvd,pz,sC,List.map,seval,h,hb]
 refine aC q4 rfl rfl ?_
 simp (disch:=try exact dq) only[↓pvd,pz,sC,List.map,seval,h,hb]
 refine aD q5 rfl rfl (fun _=>rfl) ?_
 simp (disch:=try exact dq) only[↓pvd,pz,sC,List.map,seval,h,hb]
 (refine Ends_rq [[.own 1 9]] ?_; simp (disch:=try exact dq) only[↓pvd,pz,sC,List.map,seval]; exact⟨_,rfl,rfl,rfl⟩)
theorem rww2c(r:Int)(a1 a2 a3 a4 a5:List UInt8)(b1 b2 b3 b4 b5 b6:Int)(n1 n2 n3 n4:Nat)(s1 s2 s3 s4:List AV)(f1 f2 f3 f4:Bool)(tv tn tm:List UInt8)(q1:Run Tryz.prog 108 [.int .i64 b4] (.str tv))(q2:Run Tryz.prog 108 [.int .i64 b5] (.str tn))(q3:Run Tryz.prog 109 [.int .u64 b1] (.str tm))(tc tl:List UInt8)(q4:Run Tryz.prog 108 [.int .i64 b6] (.str tc))(q5:Run Tryz.prog 160 [.sl n1 s1 f1] (.str tl))(h:¬(s1.length:Int)=0)(hb:b4=0) :
  Run Tryz.prog 146 [lnA ⟨r,2,a1,a2,a3,a4,a5,b1,b2,b3,b4,b5,b6⟩ (.sl n1 s1 f1) (.sl n2 s2 f2) (.sl n3 s3 f3) (.sl n4 s4 f4)] (.own 1 9 ([[112,111,114,116],a1,a2,tc,[116,114,117,110,107],[45],tl].map .str)):=by
 simp only[List.map_cons,List.map_nil]
 refine Tryz.run146 (by simp) ?_
 unfold Tryz.c146 lnA
 refine wZ ?_
 refine aC q1 rfl rfl ?_
 refine wZ ?_
 refine aC q2 rfl rfl ?_
 refine wZ ?_
 refine aC q3 rfl rfl ?_
 simp (disch:=try exact dq) only[↓pvd,pz,sC,List.map,seval,h,hb]
 refine aC q4 rfl rfl ?_
 simp (disch:=try exact dq) only[↓pvd,pz,sC,List.map,seval,h,hb]
 refine aD q5 rfl rfl (fun _=>rfl) ?_
 simp (disch:=try exact dq) only[↓pvd,pz,sC,List.map,seval,h,hb]
 (refine Ends_rq [[.own 1 9]] ?_; simp (disch:=try exact dq) only[↓pvd,pz,sC,List.map,seval]; exact⟨_,rfl,rfl,rfl⟩)
theorem rww3(r:Int)(a1 a2 a3 a4 a5:List UInt8)(b1 b2 b3 b4 b5 b6:Int)(n1 n2 n3 n4:Nat)(s1 s2 s3 s4:List AV)(f1 f2 f3 f4:Bool)(tv tn tm:List UInt8)(q1:Run Tryz.prog 108 [.int .i64 b4] (.str tv))(q2:Run Tryz.prog 108 [.int .i64 b5] (.str tn))(q3:Run Tryz.prog 109 [.int .u64 b1] (.str tm)) :
  Run Tryz.prog 146 [lnA ⟨r,3,a1,a2,a3,a4,a5,b1,b2,b3,b4,b5,b6⟩ (.sl n1 s1 f1) (.sl n2 s2 f2) (.sl n3 s3 f3) (.sl n4 s4 f4)] (.own 1 9 ([[108,105,110,107],a1,a2,a3,a4].map .str)):=by
 simp only[List.map_cons,List.map_nil]
 refine Tryz.run146 (by simp) ?_
 unfold Tryz.c146 lnA
 refine wZ ?_
 refine aC q1 rfl rfl ?_
 refine wZ ?_
 refine aC q2 rfl rfl ?_
 refine wZ ?_
 refine aC q3 rfl rfl ?_
 refine wZ ?_
 (refine Ends_rq [[.own 1 9]] ?_; simp (disch:=try exact dq) only[↓pvd,pz,sC,List.map,seval]; exact⟨_,rfl,rfl,rfl⟩)
theorem rww4(r:Int)(a1 a2 a3 a4 a5:List UInt8)(b1 b2 b3 b4 b5 b6:Int)(n1 n2 n3 n4:Nat)(s1 s2 s3 s4:List AV)(f1 f2 f3 f4:Bool)(tv tn tm:List UInt8)(q1:Run Tryz.prog 108 [.int .i64 b4] (.str tv))(q2:Run Tryz.prog 108 [.int .i64 b5] (.str tn))(q3:Run Tryz.prog 109 [.int .u64 b1] (.str tm)) :
  Run Tryz.prog 146 [lnA ⟨r,4,a1,a2,a3,a4,a5,b1,b2,b3,b4,b5,b6⟩ (.sl n1 s1 f1) (.sl n2 s2 f2) (.sl n3 s3 f3) (.sl n4 s4 f4)] (.own 1 9 ([[115,116,97,116,105,99],a1,tv,tm,a2].map .str)):=by
 simp only[List.map_cons,List.map_nil]
 refine Tryz.run146 (by simp) ?_
 unfold Tryz.c146 lnA
 refine wZ ?_
 refine aC q1 rfl rfl ?_
 refine wZ ?_
 refine aC q2 rfl rfl ?_
 refine wZ ?_
 refine aC q3 rfl rfl ?_
 refine wZ ?_
 (refine Ends_rq [[.own 1 9]] ?_; simp (disch:=try exact dq) only[↓pvd,pz,sC,List.map,seval]; exact⟨_,rfl,rfl,rfl⟩)
theorem rww5(r:Int)(a1 a2 a3 a4 a5:List UInt8)(b1 b2 b3 b4 b5 b6:Int)(n1 n2 n3 n4:Nat)(s1 s2 s3 s4:List AV)(f1 f2 f3 f4:Bool)(tv tn tm:List UInt8)(q1:Run Tryz.prog 108 [.int .i64 b4] (.str tv))(q2:Run Tryz.prog 108 [.int .i64 b5] (.str tn))(q3:Run Tryz.prog 109 [.int .u64 b1] (.str tm))(ta:List UInt8)(q4:Run Tryz.prog 161 [.int .u32 b2] (.str ta)) :
  Run Tryz.prog 146 [lnA ⟨r,5,a1,a2,a3,a4,a5,b1,b2,b3,b4,b5,b6⟩ (.sl n1 s1 f1) (.sl n2 s2 f2) (.sl n3 s3 f3) (.sl n4 s4 f4)] (.own 1 9 ([[118,116,101,112],a1,ta].map .str)):=by
 simp only[List.map_cons,List.map_nil]
 refine Tryz.run146 (by simp) ?_
 unfold Tryz.c146 lnA
 refine wZ ?_
 refine aC q1 rfl rfl ?_
 refine wZ ?_
 refine aC q2 rfl rfl ?_
 refine wZ ?_
 refine aC q3 rfl rfl ?_
 refine wZ ?_
 refine aD q4 rfl rfl (fun _=>rfl) ?_
 refine wZ ?_
 (refine Ends_rq [[.own 1 9]] ?_; simp (disch:=try exact dq) only[↓pvd,pz,sC,List.map,seval]; exact⟨_,rfl,rfl,rfl⟩)
theorem rww6(r:Int)(a1 a2 a3 a4 a5:List UInt8)(b1 b2 b3 b4 b5 b6:Int)(n1 n2 n3 n4:Nat)(s1 s2 s3 s4:List AV)(f1 f2 f3 f4:Bool)(tv tn tm:List UInt8)(q1:Run Tryz.prog 108 [.int .i64 b4] (.str tv))(q2:Run Tryz.prog 108 [.int .i64 b5] (.str tn))(q3:Run Tryz.prog 109 [.int .u64 b1] (.str tm)) :
  Run Tryz.prog 146 [lnA ⟨r,6,a1,a2,a3,a4,a5,b1,b2,b3,b4,b5,b6⟩ (.sl n1 s1 f1) (.sl n2 s2 f2) (.sl n3 s3 f3) (.sl n4 s4 f4)] (.own 1 9 ([[118,110,105],a1,tv,tn].map .str)):=by
 simp only[List.map_cons,List.map_nil]
 refine Tryz.run146 (by simp) ?_
 unfold Tryz.c146 lnA
 refine wZ ?_
 refine aC q1 rfl rfl ?_
 refine wZ ?_
 refine aC q2 rfl rfl ?_
 refine wZ ?_
 refine aC q3 rfl rfl ?_
 refine wZ ?_
 (refine Ends_rq [[.own 1 9]] ?_; simp (disch:=try exact dq) only[↓pvd,pz,sC,List.map,seval]; exact⟨_,rfl,rfl,rfl⟩)
theorem rww7(r:Int)(a1 a2 a3 a4 a5:List UInt8)(b1 b2 b3 b4 b5 b6:Int)(n1 n2 n3 n4:Nat)(s1 s2 s3 s4:List AV)(f1 f2 f3 f4:Bool)(tv tn tm:List UInt8)(q1:Run Tryz.prog 108 [.int .i64 b4] (.str tv))(q2:Run Tryz.prog 108 [.int .i64 b5] (.str tn))(q3:Run Tryz.prog 109 [.int .u64 b1] (.str tm))(tl:List UInt8)(q4:Run Tryz.prog 162 [.sl n4 s4 f4] (.str tl)) :
  Run Tryz.prog 146 [lnA ⟨r,7,a1,a2,a3,a4,a5,b1,b2,b3,b4,b5,b6⟩ (.sl n1 s1 f1) (.sl n2 s2 f2) (.sl n3 s3 f3) (.sl n4 s4 f4)] (.own 1 9 ([[102,108,111,111,100],a1,tn,tl].map .str)):=by
 simp only[List.map_cons,List.map_nil]
 refine Tryz.run146 (by simp) ?_
 unfold Tryz.c146 lnA
 refine wZ ?_
 refine aC q1 rfl rfl ?_
 refine wZ ?_
 refine aC q2 rfl rfl ?_
 refine wZ ?_
 refine aC q3 rfl rfl ?_
 refine wZ ?_
 refine aD q4 rfl rfl (fun _=>rfl) ?_
 refine wZ ?_
 (refine Ends_rq [[.own 1 9]] ?_; simp (disch:=try exact dq) only[↓pvd,pz,sC,List.map,seval]; exact⟨_,rfl,rfl,rfl⟩)
theorem rww8(r:Int)(a1 a2 a3 a4 a5:List UInt8)(b1 b2 b3 b4 b5 b6:Int)(n1 n2 n3 n4:Nat)(s1 s2 s3 s4:List AV)(f1 f2 f3 f4:Bool)(tv tn tm:List UInt8)(q1:Run Tryz.prog 108 [.int .i64 b4] (.str tv))(q2:Run Tryz.prog 108 [.int .i64 b5] (.str tn))(q3:Run Tryz.prog 109 [.int .u64 b1] (.str tm))(ti te:List UInt8)(q4:Run Tryz.prog 160 [.sl n2 s2 f2] (.str ti))(q5:Run Tryz.prog 160 [.sl n3 s3 f3] (.str te)) :
  Run Tryz.prog 146 [lnA ⟨r,8,a1,a2,a3,a4,a5,b1,b2,b3,b4,b5,b6⟩ (.sl n1 s1 f1) (.sl n2 s2 f2) (.sl n3 s3 f3) (.sl n4 s4 f4)] (.own 1 9 ([[118,114,102],a1,a5,ti,te].map .str)):=by
 simp only[List.map_cons,List.map_nil]
 refine Tryz.run146 (by simp) ?_
 unfold Tryz.c146 lnA
 refine wZ ?_
 refine aC q1 rfl rfl ?_
 refine wZ ?_
 refine aC q2 rfl rfl ?_
 refine wZ ?_
 refine aC q3 rfl rfl ?_
 refine wZ ?_
 refine aD q4 rfl rfl (fun _=>rfl) ?_
 refine wZ ?_
 refine aD q5 rfl rfl (fun _=>rfl) ?_
 refine wZ ?_
 (refine Ends_rq [[.own 1 9]] ?_; simp (disch:=try exact dq) only[↓pvd,pz,sC,List.map,seval]; exact⟨_,rfl,rfl,rfl⟩)
theorem rww9(r:Int)(a1 a2 a3 a4 a5:List UInt8)(b1 b2 b3 b4 b5 b6:Int)(n1 n2 n3 n4:Nat)(s1 s2 s3 s4:List AV)(f1 f2 f3 f4:Bool)(tv tn tm:List UInt8)(q1:Run Tryz.prog 108 [.int .i64 b4] (.str tv))(q2:Run Tryz.prog 108 [.int .i64 b5] (.str tn))(q3:Run Tryz.prog 109 [.int .u64 b1] (.str tm))(tp:List UInt8)(q4:Run Tryz.prog 163 [.agg [.int .u32 b2,.int .i64 b3]] (.str tp)) :
  Run Tryz.prog 146 [lnA ⟨r,9,a1,a2,a3,a4,a5,b1,b2,b3,b4,b5,b6⟩ (.sl n1 s1 f1) (.sl n2 s2 f2) (.sl n3 s3 f3) (.sl n4 s4 f4)] (.own 1 9 ([[105,114,98],a1,tv,a5,tp].map .str)):=by
 simp only[List.map_cons,List.map_nil]
 refine Tryz.run146 (by simp) ?_
 unfold Tryz.c146 lnA
 refine wZ ?_
 refine aC q1 rfl rfl ?_
 refine wZ ?_
 refine aC q2 rfl rfl ?_
 refine wZ ?_
 refine aC q3 rfl rfl ?_
 refine wZ ?_
 refine aD q4 rfl rfl (fun _=>rfl) ?_
 refine wZ ?_
 (refine Ends_rq [[.own 1 9]] ?_; simp (disch:=try exact dq) only[↓pvd,pz,sC,List.map,seval]; exact⟨_,rfl,rfl,rfl⟩)
end Go.Proofs
namespace Go.Proofs
open Go.Pv
open Nm (okW)
theorem nu_can{w:List UInt8}{a b:Int}(h:(Nm.rdF w a b).2=true):Nm.txF (nu w a b)=w:=by
 have key:∀ ds neg,(Nm.rdG w ds neg a b).2=true→Nm.txF (Nm.rdG w ds neg a b).1=w:=by
  intro ds neg h
  unfold Nm.rdG at *
  split at h
  ·cases h
  rw [if_neg (by assumption)]
  split at h
  ·cases h
  rw [if_neg (by assumption)]
  generalize (if neg then -Nm.vF ds ds.length else Nm.vF ds ds.length)=n at *
  simp only at *
  split at h
  ·cases h
  split at h
  ·cases h
  split at h
  ·cases h
  rename_i h3
  rw [if_neg (by assumption),if_neg (by assumption),if_neg (by assumption)]
  exact Classical.not_not.1 h3
 unfold nu Nm.rdF at *
 split at h
 ·rw [if_pos (by assumption)]; exact key _ _ h
 ·rw [if_neg (by assumption)]; exact key _ _ h
theorem mac_can{w:List UInt8}(h:(Mc.rdm w).2=true):Mc.tx (Mc.rdm w).1=w:=by
 by_cases hl:w.length=17
 ·rw [Mc.rdm_ref w hl] at h ⊢
  split at h
  ·rename_i e
   rw [if_pos e]
   exact e
  ·cases h
 ·unfold Mc.rdm at h
  rw [if_neg (fun x=>hl x.1)] at h
  cases h
theorem join_sp:∀ s:List UInt8,Lib.join (sp s) [46]=s
 | []=>rfl
 | c :: r=>by
  have ih:=join_sp r
  have hne:=sp_ne r
  rw [sp]
  cases h:sp r with
  | nil=>exact absurd h hne
  | cons p ps =>
   rw [h,Lib.join_cons] at ih
   by_cases hc:c=46
   ·rw [if_pos hc,Lib.join_cons,hc,show Lib.joinTail [46] (p :: ps)=46 :: (p ++ Lib.joinTail [46] ps) by simp [Lib.joinTail],ih]
    rfl
   ·rw [if_neg hc,spJ,Lib.join_cons]
    simp [ih]
theorem join_sc:∀ s:List UInt8,Lib.join (sc s) [44]=s
 | []=>rfl
 | c :: r=>by
  have ih:=join_sc r
  have hne:=sc_ne r
  rw [sc]
  cases h:sc r with
  | nil=>exact absurd h hne
  | cons p ps =>
   rw [h,Lib.join_cons] at ih
   by_cases hc:c=44
   ·rw [if_pos hc,Lib.join_cons,hc,show Lib.joinTail [44] (p :: ps)=44 :: (p ++ Lib.joinTail [44] ps) by simp [Lib.joinTail],ih]
    rfl
   ·rw [if_neg hc,spJ,Lib.join_cons]
    simp [ih]
theorem numS_can{s:List UInt8}(h:okS s=true):numS (vS s)=s:=by
 unfold okS at h
 simp only[Bool.and_eq_true,decide_eq_true_eq] at h
 exact(numS_vS ⟨h.1.1,h.1.2.1⟩ h.2).2 h.1.2.2
theorem addr_can{w:List UInt8}(h:okA w):addrS (accF (sp w))=w:=by
 have hj:=join_sp w
 obtain ⟨h1,h2⟩:=h
 match hs:sp w,h1 with
 | [p1,p2,p3,p4],_ =>
  rw [hs] at h2 hj
  simp only[List.all_cons,List.all_nil,Bool.and_true,Bool.and_eq_true] at h2
  obtain ⟨g1,g2,g3,g4⟩:=h2
  have k:∀ p,goodP p=true→okS p=true∧0≤vS p∧vS p≤255:=fun p hp=>by
   have:=goodP_b hp
   unfold goodP at hp
   simp only[Bool.and_eq_true] at hp
   exact⟨hp.1,this.1,this.2.1⟩
  obtain ⟨o1,b1,c1⟩:=k p1 g1
  obtain ⟨o2,b2,c2⟩:=k p2 g2
  obtain ⟨o3,b3,c3⟩:=k p3 g3
  obtain ⟨o4,b4,c4⟩:=k p4 g4
  have e:accF [p1,p2,p3,p4] =((vS p1 * 256+vS p2) * 256+vS p3) * 256+vS p4:=by simp [accF]
  rw [e]
  unfold addrS
  rw [show(((vS p1 * 256+vS p2) * 256+vS p3) * 256+vS p4) / 16777216=vS p1 by omega,show(((vS p1 * 256+vS p2) * 256+vS p3) * 256+vS p4) / 65536 % 256=vS p2 by omega,show(((vS p1 * 256+vS p2) * 256+vS p3) * 256+vS p4) / 256 % 256=vS p3 by omega,show(((vS p1 * 256+vS p2) * 256+vS p3) * 256+vS p4) % 256=vS p4 by omega]
  rw [numS_can o1,numS_can o2,numS_can o3,numS_can o4]
  rw [← hj,Lib.join_cons]
  simp [Lib.joinTail]
theorem rdB_can{w:List UInt8}(h:(rdB w).2=true):addrS (rdB w).1=w:=by
 unfold rdB at h ⊢
 simp only[decide_eq_true_eq] at h
 simp only[if_pos h]
 exact addr_can h
theorem ix_cut(k:UInt8):∀ s:List UInt8,0≤Lib.indexByte s k→s=s.take (Lib.indexByte s k).toNat ++ k :: s.drop ((Lib.indexByte s k).toNat+1)
 | [],h=>by simp [Lib.indexByte] at h
 | c :: r,h=>by
  have ih:=ix_cut k r
  rw [Lib.indexByte] at h ⊢
  by_cases hc:c=k
  ·simp [hc]
  ·have hc':(c == k)=false:=by simpa using hc
   rw [hc'] at h ⊢
   simp only[Bool.false_eq_true,if_false,beq_iff_eq] at h ⊢
   by_cases h1:Lib.indexByte r k=-1
   ·rw [if_pos h1] at h; omega
   ·rw [if_neg h1] at h ⊢
    have hb:=ix_b r k
    have h0:0≤Lib.indexByte r k:=by omega
    have e:(Lib.indexByte r k+1).toNat =(Lib.indexByte r k).toNat+1:=by omega
    rw [e,List.take_succ_cons,List.drop_succ_cons,List.cons_append,← ih h0]
theorem ptx_can{w:List UInt8}(h:(rpB w).2.2=true):ptxS (rpB w).1 (rpB w).2.1=w:=by
 unfold rpB at h ⊢
 split at h
 ·rename_i hc
  rw [if_pos hc]
  obtain ⟨h0,h1,h2,h3⟩:=hc
  have hv:=vS_b h2
  simp only
  unfold ptxS
  rw [if_pos ⟨hv.1,h3⟩,addr_can h1,numS_can h2]
  have:=ix_cut 47 w h0
  conv=>rhs; rw [this]
  simp
 ·cases h
theorem ls_can{w:List UInt8}{b:Int}(h:lsB w b=false):lsT (lsV w b)=w:=by
 unfold lsT lsV
 by_cases h1:w=[45]
 ·rw [if_pos h1,if_pos rfl,h1]
 ·rw [if_neg h1]
  have h2:lsG w b=true:=by
   unfold lsB at h
   rw [decide_eq_false h1] at h
   simpa using h
  rw [if_pos h2,if_neg (by simpa using sc_ne w),List.map_map]
  have h3:=(rlF_iff.1 (show rlF (gI 1 b) (sc w)=true from h2)).1
  have e:(sc w).map (Nm.txF ∘ fun p=>(gI 1 b p).1)=sc w:=by
   conv=>rhs; rw [← List.map_id (sc w)]
   exact List.map_congr_left fun p hp=>nu_can (h3 p hp)
  rw [e]
  exact join_sc w
theorem ad_can{w:List UInt8}(h:adG w=true):adT (adV w)=w:=by
 unfold adT adV
 rw [if_pos h,List.map_map]
 have h3:=(rlF_iff.1 (show rlF rdB (sc w)=true from h)).1
 have e:(sc w).map (addrS ∘ fun p=>(rdB p).1)=sc w:=by
  conv=>rhs; rw [← List.map_id (sc w)]
  exact List.map_congr_left fun p hp=>rdB_can (h3 p hp)
 rw [e]
 exact join_sc w
theorem kdF_lit(w:List UInt8):(kdF w=1→w=[100,101,118,105,99,101]) ∧(kdF w=2→w=[112,111,114,116]) ∧(kdF w=3→w=[108,105,110,107]) ∧(kdF w=4→w=[115,116,97,116,105,99]) ∧(kdF w=5→w=[118,116,101,112]) ∧(kdF w=6→w=[118,110,105]) ∧(kdF w=7→w=[102,108,111,111,100]) ∧(kdF w=8→w=[118,114,102]) ∧(kdF w=9→w=[105,114,98]):=by
 unfold kdF
 refine⟨?_,?_,?_,?_,?_,?_,?_,?_,?_⟩
 all_goals
  intro h
  repeat' split at h
  all_goals first
   | assumption
   | exact absurd h (by decide)
theorem rd_cases2{ws:List (List UInt8)}{r:Int}(h:rdE ws=0){P:LnF→Prop}(h1:kdF ws[0]! = 1→mnF 1 ws=true→er1 ws=0→P (li1 ws r))(h2:kdF ws[0]! = 2→mnF 2 ws=true→er2 ws=0→P (li2 ws r))(h3:kdF ws[0]! = 3→mnF 3 ws=true→er3 ws=0→P (li3 ws r))(h4:kdF ws[0]! = 4→mnF 4 ws=true→er4 ws=0→P (li4 ws r))(h5:kdF ws[0]! = 5→mnF 5 ws=true→er5 ws=0→P (li5 ws r))(h6:kdF ws[0]! = 6→mnF 6 ws=true→er6 ws=0→P (li6 ws r))(h7:kdF ws[0]! = 7→mnF 7 ws=true→er7 ws=0→P (li7 ws r))(h8:kdF ws[0]! = 8→mnF 8 ws=true→er8 ws=0→P (li8 ws r))(h9:kdF ws[0]! = 9→mnF 9 ws=true→er9 ws=0→P (li9 ws r)):P (rdL ws r):=by
 obtain ⟨hn,he⟩:=okN_k h
 have hm:mnF (kdF ws[0]!) ws=true:=by
  unfold okN at hn
  simp only[Bool.and_eq_true] at hn
  exact hn.2
 unfold rdL liF
 unfold erF at he
 rcases kdF_b ws[0]! with e | e | e | e | e | e | e | e | e | e
 ·rw [e] at hm; simp [mnF] at hm
 all_goals rw [e] at hm
 all_goals simp only[e,Int.reduceEq,if_true,if_false] at he ⊢
 ·exact h1 e hm he
 ·exact h2 e hm he
 ·exact h3 e hm he
 ·exact h4 e hm he
 ·exact h5 e hm he
 ·exact h6 e hm he
 ·exact h7 e hm he
 ·exact h8 e hm he
 ·exact h9 e hm he
theorem can1{ws:List (List UInt8)}{r:Int}(hk:kdF ws[0]! = 1)(hm:mnF 1 ws=true)(he:er1 ws=0):wd1 (li1 ws r)=ws:=by
 have hn:ws.length=4:=by
  unfold mnF at hm
  simp at hm
  omega
 have h0:=(kdF_lit ws[0]!).1 hk
 simp only[er1,eN_z,eU_z,eM_z] at he
 have c0:=nu_can he.1.2
 have c1:=mac_can he.2.1
 unfold wd1 li1
 simp only[c0]
 simp only[c1]
 rw [← h0]
 match ws,hn with
 | [w0,w1,w2,w3],_=>rfl
theorem can3{ws:List (List UInt8)}{r:Int}(hk:kdF ws[0]! = 3)(hm:mnF 3 ws=true)(he:er3 ws=0):wd3 (li3 ws r)=ws:=by
 have hn:ws.length=5:=by
  unfold mnF at hm
  simp at hm
  omega
 have h0:=(kdF_lit ws[0]!).2.2.1 hk
 simp only[er3,eN_z] at he
 unfold wd3 li3
 rw [← h0]
 match ws,hn with
 | [w0,w1,w2,w3,w4],_=>rfl
theorem can4{ws:List (List UInt8)}{r:Int}(hk:kdF ws[0]! = 4)(hm:mnF 4 ws=true)(he:er4 ws=0):wd4 (li4 ws r)=ws:=by
 have hn:ws.length=5:=by
  unfold mnF at hm
  simp at hm
  omega
 have h0:=(kdF_lit ws[0]!).2.2.2.1 hk
 simp only[er4,eN_z,eU_z,eM_z] at he
 have c0:=nu_can he.1.1.2
 have c1:=mac_can he.1.2.1
 unfold wd4 li4
 simp only[c0]
 simp only[c1]
 rw [← h0]
 match ws,hn with
 | [w0,w1,w2,w3,w4],_=>rfl
theorem can5{ws:List (List UInt8)}{r:Int}(hk:kdF ws[0]! = 5)(hm:mnF 5 ws=true)(he:er5 ws=0):wd5 (li5 ws r)=ws:=by
 have hn:ws.length=3:=by
  unfold mnF at hm
  simp at hm
  omega
 have h0:=(kdF_lit ws[0]!).2.2.2.2.1 hk
 simp only[er5,eN_z,eA_z] at he
 have c0:=rdB_can he.2.1
 unfold wd5 li5
 simp only[c0]
 rw [← h0]
 match ws,hn with
 | [w0,w1,w2],_=>rfl
theorem can6{ws:List (List UInt8)}{r:Int}(hk:kdF ws[0]! = 6)(hm:mnF 6 ws=true)(he:er6 ws=0):wd6 (li6 ws r)=ws:=by
 have hn:ws.length=4:=by
  unfold mnF at hm
  simp at hm
  omega
 have h0:=(kdF_lit ws[0]!).2.2.2.2.2.1 hk
 simp only[er6,eN_z,eU_z] at he
 have c0:=nu_can he.1.2
 have c1:=nu_can he.2
 unfold wd6 li6
 simp only[c0]
 simp only[c1]
 rw [← h0]
 match ws,hn with
 | [w0,w1,w2,w3],_=>rfl
theorem can7{ws:List (List UInt8)}{r:Int}(hk:kdF ws[0]! = 7)(hm:mnF 7 ws=true)(he:er7 ws=0):wd7 (li7 ws r)=ws:=by
 have hn:ws.length=4:=by
  unfold mnF at hm
  simp at hm
  omega
 have h0:=(kdF_lit ws[0]!).2.2.2.2.2.2.1 hk
 simp only[er7,eN_z,eU_z,eD_z] at he
 have c0:=nu_can he.1.2
 have c1:=ad_can he.2.1
 unfold wd7 li7
 simp only[c0]
 simp only[c1]
 rw [← h0]
 match ws,hn with
 | [w0,w1,w2,w3],_=>rfl
theorem can8{ws:List (List UInt8)}{r:Int}(hk:kdF ws[0]! = 8)(hm:mnF 8 ws=true)(he:er8 ws=0):wd8 (li8 ws r)=ws:=by
 have hn:ws.length=5:=by
  unfold mnF at hm
  simp at hm
  omega
 have h0:=(kdF_lit ws[0]!).2.2.2.2.2.2.2.1 hk
 simp only[er8,eN_z,eL_z] at he
 have c0:=ls_can he.1.2
 have c1:=ls_can he.2
 unfold wd8 li8
 simp only[c0]
 simp only[c1]
 rw [← h0]
 match ws,hn with
 | [w0,w1,w2,w3,w4],_=>rfl
theorem can9{ws:List (List UInt8)}{r:Int}(hk:kdF ws[0]! = 9)(hm:mnF 9 ws=true)(he:er9 ws=0):wd9 (li9 ws r)=ws:=by
 have hn:ws.length=5:=by
  unfold mnF at hm
  simp at hm
  omega
 have h0:=(kdF_lit ws[0]!).2.2.2.2.2.2.2.2 hk
 simp only[er9,eN_z,eU_z,eS_z] at he
 have c0:=nu_can he.1.1.2
 have c1:=ptx_can he.2.1
 unfold wd9 li9
 simp only[c0]
 simp only[c1]
 rw [← h0]
 match ws,hn with
 | [w0,w1,w2,w3,w4],_=>rfl
theorem wdF_li(ws:List (List UInt8))(r:Int):wdF (li1 ws r)=wd1 (li1 ws r)∧wdF (li2 ws r)=wd2 (li2 ws r)∧wdF (li3 ws r)=wd3 (li3 ws r)∧wdF (li4 ws r)=wd4 (li4 ws r)∧wdF (li5 ws r)=wd5 (li5 ws r)∧wdF (li6 ws r)=wd6 (li6 ws r)∧wdF (li7 ws r)=wd7 (li7 ws r)∧wdF (li8 ws r)=wd8 (li8 ws r)∧wdF (li9 ws r)=wd9 (li9 ws r):=by
 refine⟨?_,?_,?_,?_,?_,?_,?_,?_,?_⟩
 all_goals rfl
def cw2(ws:List (List UInt8)):List (List UInt8):=if ws[4]! = [116,114,117,110,107]∧pkT ws 4=[] then [ws[0]!,ws[1]!,ws[2]!,ws[3]!,[97,99,99,101,115,115],ws[5]!] else ws
theorem can2{ws:List (List UInt8)}{r:Int}(hk:kdF ws[0]! = 2)(hm:mnF 2 ws=true)(he:er2 ws=0):wd2 (li2 ws r)=cw2 ws:=by
 have h0:=(kdF_lit ws[0]!).2.1 hk
 have hn:6≤ws.length ∧(ws[4]! = [97,99,99,101,115,115]→ws.length=6) ∧(ws[4]! = [116,114,117,110,107]→ws.length=7):=by
  unfold mnF mnP at hm
  simp only[Int.reduceEq,if_false,if_true,Bool.and_eq_true,Bool.or_eq_true,decide_eq_true_eq] at hm
  refine⟨hm.1,?_,?_⟩
  ·intro h
   rcases hm.2 with h' | h' | h'
   ·exact h'.2
   ·rw [h] at h'; exact absurd h'.1 (by decide)
   ·exact absurd h h'.1.1
  ·intro h
   rcases hm.2 with h' | h' | h'
   ·rw [h] at h'; exact absurd h'.1 (by decide)
   ·exact h'.2
   ·exact absurd h h'.1.2
 unfold er2 at he
 have hp:=pk_ok he
 obtain ⟨hp0,hp1,hp2,hp3⟩:=hp
 simp only[eN_z,eU_z,eK_z] at hp0
 have c0:=nu_can hp0.1.2
 unfold pkE at he
 simp only at he
 rw [fl_z (by decide)] at he
 obtain ⟨he1,-⟩:=he
 unfold wd2 li2 cw2
 simp only[c0]
 rw [← h0]
 by_cases ha:ws[4]! = [97,99,99,101,115,115]
 ·have hl:=hn.2.1 ha
  rw [if_pos ha,fl_z (by decide)] at he1
  have e1:pkV ws 4=nu ws[5]! 1 4094:=by unfold pkV nu; rw [if_pos ha]
  have e2:pkT ws 4=[]:=by unfold pkT; rw [if_neg (by rw [ha]; decide)]
  have c1:Nm.txF (nu ws[5]! 1 4094)=ws[5]!:=nu_can (by simpa using he1.2)
  rw [if_pos e2,if_neg (fun h=>by rw [ha] at h; exact absurd h.1 (by decide)),e1,c1,← ha]
  match ws,hl with
  | [w0,w1,w2,w3,w4,w5],_=>rfl
 ·have hb:ws[4]! = [116,114,117,110,107]:=hp0.2.resolve_left ha
  have hl:=hn.2.2 hb
  rw [if_neg ha,if_pos hb,fl_z (by decide)] at he1
  have e1:pkV ws 4=if ws[5]! = [45] then(0:Int) else nu ws[5]! 1 4094:=by unfold pkV nu; rw [if_neg ha,if_pos hb]
  have e2:pkT ws 4=lsV ws[6]! 4094:=by unfold pkT; rw [if_pos hb]
  have c2:lsT (lsV ws[6]! 4094)=ws[6]!:=ls_can he1.2
  by_cases ht:pkT ws 4=[]
  ·rw [if_pos ht,if_pos ⟨hb,ht⟩]
   by_cases hd:ws[5]! = [45]
   ·rw [if_pos hd] at e1
    rw [e1,ht] at hp3
    exact absurd hp3 (by decide)
   ·rw [if_neg hd] at e1
    have h6:=he1.1
    rw [if_neg hd,fl_z (by decide)] at h6
    have c1:Nm.txF (nu ws[5]! 1 4094)=ws[5]!:=nu_can (by simpa using h6.2)
    rw [e1,c1]
  ·rw [if_neg ht,if_neg (show ¬(ws[4]! = [116,114,117,110,107]∧pkT ws 4=[]) from fun h=>ht h.2),e2,c2,← hb]
   by_cases hd:ws[5]! = [45]
   ·rw [if_pos hd] at e1
    rw [e1,if_pos rfl,← hd]
    match ws,hl with
    | [w0,w1,w2,w3,w4,w5,w6],_=>rfl
   ·rw [if_neg hd] at e1
    have h6:=he1.1
    rw [if_neg hd,fl_z (by decide)] at h6
    have hr:=rdF_range (a:=1) (b:=4094) (p:=ws[5]!) (by simpa using h6.2)
    have c1:Nm.txF (nu ws[5]! 1 4094)=ws[5]!:=nu_can (by simpa using h6.2)
    rw [e1,if_neg (by unfold nu; omega),c1]
    match ws,hl with
    | [w0,w1,w2,w3,w4,w5,w6],_=>rfl
theorem mbF_pos{v:Int}(h:mbF v []=true)(h0:0≤v):0 < v:=by
 unfold mbF at h
 simp only[Bool.and_eq_true,decide_eq_true_eq,List.length_nil] at h
 omega
theorem can{ws:List (List UInt8)}(h:rdE ws=0)(hw:ws.all okW=true):∃ cw,(∀ r,wdF (rdL ws r)=cw)∧rdE cw=0 ∧(∀ r,rdL cw r=rdL ws r)∧cw.all okW=true∧cw≠[] ∧(Lib.join cw [32]).length ≤(Lib.join ws [32]).length:=by
 have hne:ws≠[]:=by
  have:=(okN_k h).1
  unfold okN at this
  simp only[Bool.and_eq_true,decide_eq_true_eq] at this
  exact this.1
 by_cases hp:kdF ws[0]! = 2∧ws[4]! = [116,114,117,110,107]∧pkT ws 4=[]
 case neg =>
  refine⟨ws,fun r=>?_,h,fun r=>rfl,hw,hne,Nat.le_refl _⟩
  obtain ⟨w1,w2,w3,w4,w5,w6,w7,w8,w9⟩:=wdF_li ws r
  refine rd_cases2 (P:=fun x=>wdF x=ws) h ?_ ?_ ?_ ?_ ?_ ?_ ?_ ?_ ?_
  all_goals intro hk hm he
  ·rw [w1,can1 hk hm he]
  ·rw [w2,can2 hk hm he]
   unfold cw2
   rw [if_neg (fun h=>hp ⟨hk,h⟩)]
  ·rw [w3,can3 hk hm he]
  ·rw [w4,can4 hk hm he]
  ·rw [w5,can5 hk hm he]
  ·rw [w6,can6 hk hm he]
  ·rw [w7,can7 hk hm he]
  ·rw [w8,can8 hk hm he]
  ·rw [w9,can9 hk hm he]
 obtain ⟨hk,hb,ht⟩:=hp
 have hm:mnF 2 ws=true:=by
  have:=(okN_k h).1
  unfold okN at this
  simp only[Bool.and_eq_true] at this
  rw [hk] at this
  exact this.2
 have he:er2 ws=0:=by
  have:=(okN_k h).2
  rw [hk] at this
  unfold erF at this
  simpa using this
 have hl:ws.length=7:=by
  unfold mnF mnP at hm
  simp only[Int.reduceEq,if_false,if_true,Bool.and_eq_true,Bool.or_eq_true,decide_eq_true_eq] at hm
  rcases hm.2 with h' | h' | h'
  ·rw [hb] at h'; exact absurd h'.1 (by decide)
  ·exact h'.2
  ·exact absurd hb h'.1.2
 have hrd:∀ r,rdL ws r=li2 ws r:=fun r=>by unfold rdL; rw [hk]; unfold liF; simp
 have e2:=he
 unfold er2 at e2
 obtain ⟨p0,p1,p2,p3⟩:=pk_ok e2
 simp only[eN_z,eU_z,eK_z] at p0
 unfold pkE at e2
 simp only at e2
 have ha:¬ ws[4]! = [97,99,99,101,115,115]:=by rw [hb]; decide
 rw [fl_z (by decide),if_neg ha,if_pos hb,fl_z (by decide)] at e2
 rw [ht] at p3
 simp only[decide_eq_true_eq] at p1
 have hv:=mbF_pos p3 p1.1
 have e1:pkV ws 4=if ws[5]! = [45] then(0:Int) else nu ws[5]! 1 4094:=by unfold pkV nu; rw [if_neg ha,if_pos hb]
 have hd:¬ ws[5]! = [45]:=fun h=>by rw [if_pos h] at e1; omega
 rw [if_neg hd] at e1
 have e3:=e2.1.1
 rw [if_neg hd,fl_z (by decide)] at e3
 match ws,hl with
 | [w0,w1,w2,w3,w4,w5,w6],_ =>
  have hb':w4=[116,114,117,110,107]:=hb
  have hk':kdF w0=2:=hk
  have e1':pkV [w0,w1,w2,w3,w4,w5,w6] 4=nu w5 1 4094:=e1
  have g4:([w0,w1,w2,w3,[97,99,99,101,115,115],w5]:List (List UInt8))[4]! = [97,99,99,101,115,115]:=rfl
  have hk2:kdF ([w0,w1,w2,w3,[97,99,99,101,115,115],w5]:List (List UInt8))[0]! = 2:=hk
  have f1:pkV [w0,w1,w2,w3,[97,99,99,101,115,115],w5] 4=nu w5 1 4094:=by unfold pkV nu; rw [g4,if_pos rfl]; rfl
  have f2:pkT [w0,w1,w2,w3,[97,99,99,101,115,115],w5] 4=[]:=by unfold pkT; rw [g4,if_neg (by decide)]
  refine⟨[w0,w1,w2,w3,[97,99,99,101,115,115],w5],fun r=>?_,?_,fun r=>?_,?_,by simp,?_⟩
  ·rw [hrd,(wdF_li _ r).2.1,can2 hk hm he]
   unfold cw2
   rw [if_pos ⟨hb,ht⟩]
   rfl
  ·unfold rdE okN
   rw [hk2,show mnF 2 [w0,w1,w2,w3,[97,99,99,101,115,115],w5]=true from by unfold mnF mnP; simp]
   rw [if_pos (by simp)]
   unfold erF
   simp only[Int.reduceEq,if_true,if_false]
   unfold er2 pkE
   simp only
   rw [fl_z (by decide),f1,f2,if_pos g4,fl_z (by decide)]
   refine⟨⟨?_,by have:=e3.2; simpa using this⟩,?_⟩
   ·rw [eK_z,eU_z,eN_z,eN_z]
    exact⟨⟨⟨⟨rfl,p0.1.1.1.2⟩,p0.1.1.2⟩,p0.1.2⟩,.inl rfl⟩
   ·rw [e1'] at p3
    rw [p3]
    rfl
  ·rw [hrd]
   unfold rdL
   rw [hk2]
   unfold liF
   simp only[Int.reduceEq,if_true,if_false]
   unfold li2
   rw [f1,f2,ht,e1]
   rfl
  ·simp only[List.all_cons,List.all_nil,Bool.and_true,Bool.and_eq_true] at hw ⊢
   exact⟨hw.1,hw.2.1,hw.2.2.1,hw.2.2.2.1,by decide,hw.2.2.2.2.2.1⟩
  ·rw [hb']
   simp only[Lib.join_cons,Lib.joinTail,List.map_cons,List.map_nil,List.flatten_cons,List.flatten_nil,List.length_append,List.length_cons,List.length_nil]
   omega
end Go.Proofs
namespace Go.Proofs
open Go.Pv
open Nm (spl swV okW okB strR words_run wordsR rows_big rows_run swF_len swF_num swF)
theorem EndsD_rq{P:Program}{c:AC}{g m t:Nat}{X:St→Option AV}{r:AV}{fr:Fr}{hp:Hp}(ms:List (List Pv.Mode))(caps:List AV)(H2:Hp)(h1:get fr t=.fn g caps)(h2:caps.length≤m)
  (h3:aw P c (EndsG [] (.tup []) H2) ⟨caps.zipIdx.map fun p=>(p.2,p.1),hp⟩) (h4:∃ p,(X ⟨fr,H2⟩).bind (hand H2 ms)=some p∧p.1=r∧liveB p.2.1 p.2.2=true):EndsD P c g m t X r .ret ⟨fr,hp⟩:=by
 obtain ⟨⟨y,H1,l⟩,h5,rfl,h6⟩:=h4
 obtain ⟨x,hx,hy⟩:=Option.bind_eq_some_iff.1 h5
 exact⟨caps,H2,h1,h2,h3,x,hx,ms,H1,l,hy,h6⟩
theorem spl_mem:∀(s:List UInt8),∀ r∈spl s,r.length≤s.length
 | [],r,hr=>by simp [spl] at hr
 | c :: s,r,hr=>by
  have ih:=spl_mem s
  simp only[spl] at hr
  split at hr
  ·rcases List.mem_cons.1 hr with rfl | hr
   ·simp
   ·have:=ih r hr; simp; omega
  ·cases hs:spl s with
   | nil=>rw [hs] at hr; simp at hr; subst hr; simp
   | cons h t =>
    rw [hs] at hr ih
    rcases List.mem_cons.1 hr with rfl | hr
    ·have:=ih h (by simp); simp; omega
    ·have:=ih r (by simp [hr]); simp; omega
noncomputable def stepX(i:Nat)(r:List UInt8)(acc:List LnF):Int ⊕ List LnF :=
 if (swV r).all okW=true then
  if swV r=[] then .inr acc
  else if rdE (swV r)=0 then .inr (acc ++ [rdL (swV r) ((i:Int)+1)]) else .inl (rdE (swV r))
 else .inl 20
noncomputable def rdX(rows:List (List UInt8)):Nat →(Int × Int) ⊕ List LnF
 | 0=>.inr []
 | k+1=>match rdX rows k with
  | .inl x=>.inl x
  | .inr acc=>match stepX k rows[k]! acc with
   | .inl e=>.inl ((k:Int)+1,e)
   | .inr acc'=>.inr acc'
theorem rdX_s(rows:List (List UInt8))(k:Nat)(acc:List LnF)(h:rdX rows k=.inr acc):rdX rows (k+1)=match stepX k rows[k]! acc with
   | .inl e=>.inl ((k:Int)+1,e)
   | .inr acc'=>.inr acc':=by
 simp only[rdX,h]
theorem rdX_stay(rows:List (List UInt8))(k:Nat)(x:Int × Int)(h:rdX rows k=.inl x):∀ n,k≤n→rdX rows n=.inl x:=by
 intro n hn
 induction n with
 | zero=>rw [show k=0 by omega] at h; exact h
 | succ n ih =>
  by_cases e:k=n+1
  ·rw [← e]; exact h
  ·have:=ih (by omega)
   simp only[rdX,this]
theorem rdX_err(rows:List (List UInt8))(k:Nat)(acc:List LnF)(e:Int)(h:rdX rows k=.inr acc)(hk:k < rows.length)(hs:stepX k rows[k]! acc=.inl e):rdX rows rows.length=.inl ((k:Int)+1,e):=by
 refine rdX_stay rows (k+1) _ ?_ _ hk
 rw [rdX_s rows k acc h,hs]
noncomputable def readX(b:List UInt8):(Int × Int) ⊕ List LnF:=if 20000 < b.length∨400 <(spl b).length then .inl (0,3) else rdX (spl b) (spl b).length
def readXA:(Int × Int) ⊕ List LnF→AV
 | .inl (r,e)=>.tup [.sl 0 [] true,.int .i64 r,.int .i64 e]
 | .inr l=>.tup [.own 17 39 (l.map lnV),.int .i64 0,.int .i64 0]
theorem strR_frz(l:List (List UInt8)):frz (.tup [strR l,.int .i64 0])=if l=[] then .tup [.sl 0 [] true,.int .i64 0] else .tup [.sl 1 (l.map .str) false,.int .i64 0]:=by
 unfold strR
 by_cases h:l=[]
 ·rw [if_pos h,if_pos h]; rfl
 ·rw [if_neg h,if_neg h]; rfl
theorem words_frz(w:List UInt8)(hw:w.length≤40000):Run Tryz.prog 25 [.str w] (if (swV w).all okW=true then(if swV w=[] then .tup [.sl 0 [] true,.int .i64 0] else .tup [.sl 1 ((swV w).map .str) false,.int .i64 0]) else .tup [.sl 0 [] true,.int .i64 20]):=by
 have q:=run_frz (words_run w hw)
 unfold wordsR at q
 by_cases h:(swV w).all okW=true
 ·rw [if_pos h] at q ⊢
  rwa [strR_frz] at q
 ·rw [if_neg h] at q ⊢
  exact q
theorem slV_pl(l:List Int):(slV l).pl0=true:=by unfold slV nilA; split <;> rfl
theorem sl32_pl(l:List Int):(sl32 l).pl0=true:=by unfold sl32 nilA; split <;> rfl
theorem slV_nr(l:List Int):(slV l).nr0=true:=by unfold slV nilA; split <;> rfl
theorem sl32_nr(l:List Int):(sl32 l).nr0=true:=by unfold sl32 nilA; split <;> rfl
theorem ln_pl(x:LnF):(lnV x).pl=true:=by
 unfold lnV lnA AV.pl
 simp only[List.all_cons,List.all_nil,slV_pl,sl32_pl,Bool.and_true]
 rfl
theorem ln_nr(x:LnF):(lnV x).nr1=true:=by
 unfold lnV lnA AV.nr1
 simp only[List.all_cons,List.all_nil,slV_nr,sl32_nr,Bool.and_true]
 rfl
def tH(ls:List LnF):Hp:=if ls=[] then [some ⟨24,[.sl 0 [] true],true⟩,some ⟨25,[.int .i64 0],true⟩] else [some ⟨24,[.vec 1 17 0 ls.length],true⟩,some ⟨39,ls.map lnV,true⟩,some ⟨25,[.int .i64 0],true⟩]
def tK(ls:List LnF):Nat:=if ls=[] then 1 else 2
theorem tH_n:tH []=[some ⟨24,[.sl 0 [] true],true⟩,some ⟨25,[.int .i64 0],true⟩]:=if_pos rfl
theorem tK_n:tK []=1:=if_pos rfl
theorem tH_c{ls:List LnF}(h:ls≠[]):tH ls=[some ⟨24,[.vec 1 17 0 ls.length],true⟩,some ⟨39,ls.map lnV,true⟩,some ⟨25,[.int .i64 0],true⟩]:=if_neg h
theorem tK_c{ls:List LnF}(h:ls≠[]):tK ls=2:=if_neg h
theorem xread_run(b:List UInt8)(f:Bool)(hb:b.length≤100000):Run Tryz.prog 8 [.sl 1 (bys b) f] (readXA (readX b)):=by
 refine Tryz.run8 (by simp) ?_
 unfold Tryz.c8a
 refine wZ ?_
 unfold Tryz.c8b
 refine wZ ?_
 refine⟨⟨_,rfl⟩,?_⟩
 unfold Tryz.c8 readX
 have early:∀ e:Int,e≠0→∀ K,K=readXA (.inl (0,e))→Run Tryz.prog 24 [.sl 1 (bys b) f] (.tup [.sl 0 [] true,.int .i64 e])→True:=fun _ _ _ _ _=>trivial
 by_cases h20:b.length≤20000
 case neg =>
  have q:=run_frz (rows_big b f hb h20)
  simp only[frz,frzA,frzC,List.map] at q
  rw [if_pos (.inl (by omega))]
  unfold readXA
  refine wZ ?_
  refine aC q rfl rfl ?_
  refine wZ ?_
  refine EndsD_rq [] _ [some ⟨24,[.sl 0 [] true],true⟩,some ⟨25,[.int .i64 3],true⟩] rfl (by simp) ?_ ?_
  ·unfold Tryz.c23
   refine wZ ?_
   exact⟨rfl,rfl⟩
  ·refine wZ ?_
   exact⟨_,rfl,rfl,rfl⟩
 have q:=run_frz (rows_run b f hb h20)
 by_cases h4:400 <(spl b).length
 ·rw [if_pos h4] at q
  simp only[frz,frzA,frzC,List.map] at q
  rw [if_pos (.inr h4)]
  unfold readXA
  refine wZ ?_
  refine aC q rfl rfl ?_
  refine wZ ?_
  refine EndsD_rq [] _ [some ⟨24,[.sl 0 [] true],true⟩,some ⟨25,[.int .i64 3],true⟩] rfl (by simp) ?_ ?_
  ·unfold Tryz.c23
   refine wZ ?_
   exact⟨rfl,rfl⟩
  ·refine wZ ?_
   exact⟨_,rfl,rfl,rfl⟩
 rw [if_neg h4] at q
 simp only[frz,frzA,frzC,List.map] at q
 rw [if_neg (by omega)]
 have hsm:=spl_mem b
 generalize spl b=rows at *
 refine wZ ?_
 refine aC q rfl rfl ?_
 refine wZ ?_
 refine aw_loop (fun a:Nat × List LnF=>⟨[(2,.eptr 0 0 0),(4,.eptr (tK a.2) 0 0),(11,.fn 23 [.eptr (tK a.2) 0 0,.eptr 0 0 0]),(20,.sl 1 (rows.map .str) false),(21,.int .i64 rows.length),(22,.int .i64 a.1)],tH a.2⟩) (fun a=>a.1≤rows.length∧a.2.length≤a.1∧rdX rows a.1=.inr a.2) (fun a=>rows.length - a.1) (0,[]) ?_ ⟨by simp,by simp,rfl⟩ ?_
 ·simp (disch:=try exact dq) only[↓pvd,pz,sC,List.map,seval,true_and,List.length_map]
  rfl
 rintro ⟨k,acc⟩ ⟨hk,hal,hrd⟩
 dsimp only at hk hal hrd ⊢
 unfold Tryz.c8b0
 by_cases hx:k < rows.length
 ·have hgi:(rows.map AV.str)[k]?=some (.str rows[k]!):=mG hx
  have hrl:=hsm _ (get_mem hx)
  have herr:=rdX_err rows k acc
  have hnx:=rdX_s rows k acc hrd
  have q1:=words_frz rows[k]! (by omega)
  have hwl:=swF_len rows[k]! rows[k]!.length (Nat.le_refl _) (rows[k]!.length+1) 0 0 [] (by simp)
  change ∀ x∈swV rows[k]!,_ at hwl
  have hwn:=swF_num rows[k]! (rows[k]!.length+1) 0 0 []
  change (swV rows[k]!).length≤_ at hwn
  simp only[List.length_nil] at hwn
  unfold stepX at herr hnx
  by_cases ho:(swV rows[k]!).all okW=true
  ·rw [if_pos ho] at q1
   simp only[if_pos ho] at herr hnx
   by_cases hn:swV rows[k]! = []
   ·rw [if_pos hn] at q1
    simp only[if_pos hn] at hnx
    by_cases hac:acc=[]
    ·subst hac
     rw [tH_n,tK_n]
     simp (disch:=try exact dq) only[↓pvd,pz,sC,List.map,seval,hgi]
     refine aC q1 rfl rfl ?_
     refine wZ ?_
     refine⟨(k+1,[]),?_,⟨by dsimp only; omega,by simp,hnx⟩,by dsimp only; omega⟩
     dsimp only
     rw [tH_n,tK_n]
     rfl
    ·rw [tH_c hac,tK_c hac]
     simp (disch:=try exact dq) only[↓pvd,pz,sC,List.map,seval,hgi]
     refine aC q1 rfl rfl ?_
     simp (disch:=try exact dq) only[↓pvd,pz,sC,List.map,seval,iM ln_pl,rM ln_pl]
     refine⟨(k+1,acc),?_,⟨by dsimp only; omega,by dsimp only; omega,hnx⟩,by dsimp only; omega⟩
     dsimp only
     rw [tH_c hac,tK_c hac]
     rfl
   ·rw [if_neg hn] at q1
    simp only[if_neg hn] at herr hnx
    have hnl:=List.length_pos_iff.2 hn
    have q2:=sread_run (swV rows[k]!) false ((k:Int)+1) (by omega) (fun w hw=>by
     have:=List.all_eq_true.1 ho w hw
     unfold okW at this
     simp only[Bool.and_eq_true,decide_eq_true_eq] at this
     omega)
    have hwl1:((swV rows[k]!).map AV.str).length =(swV rows[k]!).length:=by simp
    generalize swV rows[k]! = ws at *
    by_cases he:rdE ws=0
    ·simp only[if_pos he] at hnx
     rw [he,rdT_z] at q2
     obtain ⟨n1,f1,n2,f2,n3,f3,n4,f4,hv,-⟩:=isLn_V (rdL ws ((k:Int)+1))
     rw [hv] at q2
     generalize rdL ws ((k:Int)+1)=x at *
     have hm:acc.map lnV ++ [lnV x] =(acc ++ [x]).map lnV:=by simp
     rw [hv] at hm
     have hm0:[lnV x]=[x].map lnV:=rfl
     rw [hv] at hm0
     have hml:acc.length+1 =(acc ++ [x]).length:=by simp
     obtain ⟨⟨xr,xk,a1,a2,a3,a4,a5,b1,b2,b3,b4,b5,b6⟩,xt,xi,xe,xa⟩:=x
     simp only at q2 hm hm0
     generalize xt.map (AV.int .i64)=s1 at *
     generalize xi.map (AV.int .i64)=s2 at *
     generalize xe.map (AV.int .i64)=s3 at *
     generalize xa.map (AV.int .u32)=s4 at *
     generalize (⟨⟨xr,xk,a1,a2,a3,a4,a5,b1,b2,b3,b4,b5,b6⟩,xt,xi,xe,xa⟩:LnF)=x at *
     unfold lnA at q2 hm hm0
     generalize ws.map AV.str=row at *
     by_cases hac:acc=[]
     ·subst hac
      rw [tH_n,tK_n]
      simp (disch:=try exact dq) only[↓pvd,pz,sC,List.map,seval,hgi]
      refine aC q1 rfl rfl ?_
      simp (disch:=try exact dq) only[↓pvd,pz,sC,List.map,seval,hwl1]
      refine aC q2 rfl rfl ?_
      refine wZ ?_
      refine⟨(k+1,[x]),?_,⟨by dsimp only; omega,by simp,hnx⟩,by dsimp only; omega⟩
      dsimp only
      rw [tH_c (by simp),tK_c (by simp),← hm0]
      rfl
     ·have hln:(acc.map lnV).length=acc.length:=by simp
      rw [tH_c hac,tK_c hac]
      simp (disch:=try exact dq) only[↓pvd,pz,sC,List.map,seval,hgi]
      refine aC q1 rfl rfl ?_
      simp (disch:=try exact dq) only[↓pvd,pz,sC,List.map,seval,hwl1]
      refine aC q2 rfl rfl ?_
      simp (disch:=try exact dq) only[↓pvd,pz,sC,List.map,seval,iM ln_pl,rM ln_pl,hm,hln]
      refine⟨(k+1,acc ++ [x]),?_,⟨by dsimp only; omega,by simp; omega,hnx⟩,by dsimp only; omega⟩
      dsimp only
      rw [tH_c (by simp),tK_c (by simp),hml]
      rfl
    ·simp only[if_neg he] at herr
     rw [herr _ hrd hx rfl]
     unfold readXA
     rw [rdT_e he] at q2
     unfold lnA lnZ at q2
     generalize rdE ws=e at *
     generalize ws.map AV.str=row at *
     by_cases hac:acc=[]
     ·subst hac
      rw [tH_n,tK_n]
      simp (disch:=try exact dq) only[↓pvd,pz,sC,List.map,seval,hgi]
      refine aC q1 rfl rfl ?_
      simp (disch:=try exact dq) only[↓pvd,pz,sC,List.map,seval,hwl1]
      refine aC q2 rfl rfl ?_
      simp (disch:=try exact dq) only[↓pvd,pz,sC,List.map,seval,he]
      refine EndsD_rq [] _ [some ⟨24,[.sl 0 [] true],true⟩,some ⟨25,[.int .i64 e],true⟩,some ⟨39,[.agg [.int .i64 0,.int .i64 0,.str [],.str [],.str [],.str [],.str [],.int .u64 0,.int .u32 0,.int .i64 0,.int .i64 0,.int .i64 0,.int .i64 0,.sl 0 [] true,.sl 0 [] true,.sl 0 [] true,.sl 0 [] true]],true⟩] rfl (by simp) ?_ ?_
      ·unfold Tryz.c23
       simp (disch:=try exact dq) only[↓pvd,pz,sC,List.map,seval,he]
       exact⟨rfl,rfl⟩
      ·refine wZ ?_
       exact⟨_,rfl,rfl,rfl⟩
     ·rw [tH_c hac,tK_c hac]
      simp (disch:=try exact dq) only[↓pvd,pz,sC,List.map,seval,hgi]
      refine aC q1 rfl rfl ?_
      simp (disch:=try exact dq) only[↓pvd,pz,sC,List.map,seval,hwl1]
      refine aC q2 rfl rfl ?_
      simp (disch:=try exact dq) only[↓pvd,pz,sC,List.map,seval,he]
      refine EndsD_rq [] _ [some ⟨24,[.sl 0 [] true],true⟩,some ⟨39,acc.map lnV,true⟩,some ⟨25,[.int .i64 e],true⟩,some ⟨39,[.agg [.int .i64 0,.int .i64 0,.str [],.str [],.str [],.str [],.str [],.int .u64 0,.int .u32 0,.int .i64 0,.int .i64 0,.int .i64 0,.int .i64 0,.sl 0 [] true,.sl 0 [] true,.sl 0 [] true,.sl 0 [] true]],true⟩] rfl (by simp) ?_ ?_
      ·unfold Tryz.c23
       simp (disch:=try exact dq) only[↓pvd,pz,sC,List.map,seval,he]
       exact⟨rfl,rfl⟩
      ·refine wZ ?_
       exact⟨_,rfl,rfl,rfl⟩
  ·rw [if_neg ho] at q1
   simp only[if_neg ho] at herr
   rw [herr 20 hrd hx rfl]
   unfold readXA
   by_cases hac:acc=[]
   ·subst hac
    rw [tH_n,tK_n]
    simp (disch:=try exact dq) only[↓pvd,pz,sC,List.map,seval,hgi]
    refine aC q1 rfl rfl ?_
    refine wZ ?_
    refine EndsD_rq [] _ [some ⟨24,[.sl 0 [] true],true⟩,some ⟨25,[.int .i64 20],true⟩] rfl (by simp) ?_ ?_
    ·unfold Tryz.c23
     refine wZ ?_
     exact⟨rfl,rfl⟩
    ·refine wZ ?_
     exact⟨_,rfl,rfl,rfl⟩
   ·rw [tH_c hac,tK_c hac]
    simp (disch:=try exact dq) only[↓pvd,pz,sC,List.map,seval,hgi]
    refine aC q1 rfl rfl ?_
    refine wZ ?_
    refine EndsD_rq [] _ [some ⟨24,[.sl 0 [] true],true⟩,some ⟨39,acc.map lnV,true⟩,some ⟨25,[.int .i64 20],true⟩] rfl (by simp) ?_ ?_
    ·unfold Tryz.c23
     refine wZ ?_
     exact⟨rfl,rfl⟩
    ·refine wZ ?_
     exact⟨_,rfl,rfl,rfl⟩
 ·obtain rfl:k=rows.length:=by omega
  rw [hrd]
  unfold readXA
  by_cases hac:acc=[]
  ·subst hac
   rw [tH_n,tK_n]
   refine wZ ?_
   refine EndsD_rq [[.own 17 39],[.snap],[.snap]] _ [some ⟨24,[.sl 0 [] true],true⟩,some ⟨25,[.int .i64 0],true⟩] rfl (by simp) ?_ ?_
   ·unfold Tryz.c23
    refine wZ ?_
    exact⟨rfl,rfl⟩
   ·refine wZ ?_
    exact⟨_,rfl,rfl,rfl⟩
  ·rw [tH_c hac,tK_c hac]
   refine wZ ?_
   refine EndsD_rq [[.own 17 39],[.snap],[.snap]] _ [some ⟨24,[.vec 1 17 0 acc.length],true⟩,some ⟨39,acc.map lnV,true⟩,some ⟨25,[.int .i64 0],true⟩] rfl (by simp) ?_ ?_
   ·unfold Tryz.c23
    refine wZ ?_
    exact⟨rfl,rfl⟩
   ·simp (disch:=try exact dq) only[↓pvd,pz,sC,List.map,seval,true_and,mapO_map ln_nr,rows_map ln_nr,List.length_map]
    exact⟨_,rfl,rfl,rfl⟩
end Go.Proofs
namespace Go.Proofs
open Go.Pv
open Nm (spl swV okW okB swF enO)
instance:Inhabited LnF:=⟨lnfZ⟩
def nr(x:LnF):LnF:={ x with l:={ x.l with row:=0 } }
def withRow(x:LnF)(r:Int):LnF:={ x with l:={ x.l with row:=r } }
end Go.Proofs
namespace Go.Proofs
open Go.Pv
open Nm (spl swV okW okB swF enO wsF finF swV_ws)
noncomputable def rdR:Nat→List (List UInt8) →(Int × Int) ⊕ List LnF
 | _,[]=>.inr []
 | i,r :: rs=>if (swV r).all okW=true then
   if swV r=[] then rdR (i+1) rs
   else if rdE (swV r)=0 then match rdR (i+1) rs with
    | .inl x=>.inl x
    | .inr l=>.inr (rdL (swV r) ((i:Int)+1) :: l)
   else .inl ((i:Int)+1,rdE (swV r))
  else .inl ((i:Int)+1,20)
theorem rdX_go(rows:List (List UInt8)):∀(n k:Nat) (acc:List LnF),rows.length - k=n→k≤rows.length→rdX rows k=.inr acc→rdX rows rows.length=match rdR k (rows.drop k) with | .inl x=>.inl x | .inr l=>.inr (acc ++ l):=by
 intro n
 induction n with
 | zero =>
  intro k acc hn hk h
  obtain rfl:k=rows.length:=by omega
  rw [List.drop_length,h]
  simp [rdR]
 | succ n ih =>
  intro k acc hn hk h
  have hx:k < rows.length:=by omega
  have hd:rows.drop k=rows[k]! :: rows.drop (k+1):=by rw [getElem!_pos rows k hx]; exact List.drop_eq_getElem_cons hx
  have hs:=rdX_s rows k acc h
  have hr:=rdX_err rows k acc
  rw [hd,rdR]
  unfold stepX at hs hr
  by_cases ho:(swV rows[k]!).all okW=true
  ·simp only[if_pos ho] at hs hr ⊢
   by_cases hn0:swV rows[k]! = []
   ·simp only[if_pos hn0] at hs ⊢
    exact ih (k+1) acc (by omega) (by omega) hs
   ·simp only[if_neg hn0] at hs hr ⊢
    by_cases he:rdE (swV rows[k]!)=0
    ·simp only[if_pos he] at hs ⊢
     rw [ih (k+1) _ (by omega) (by omega) hs]
     cases rdR (k+1) (rows.drop (k+1)) with
     | inl x=>rfl
     | inr l=>simp
    ·simp only[if_neg he] at hr ⊢
     exact hr _ h hx rfl
  ·simp only[if_neg ho] at hr ⊢
   exact hr 20 h hx rfl
theorem rdX_R(rows:List (List UInt8)):rdX rows rows.length=rdR 0 rows:=by
 rw [rdX_go rows rows.length 0 [] (by omega) (by omega) rfl,List.drop_zero]
 cases rdR 0 rows <;> simp
theorem readX_R(b:List UInt8):readX b=if 20000 < b.length∨400 <(spl b).length then .inl (0,3) else rdR 0 (spl b):=by
 unfold readX
 rw [rdX_R]
theorem rdL_row(ws:List (List UInt8))(r o:Int)(h:rdE ws=0):withRow (rdL ws r) o=rdL ws o:=by
 unfold rdL liF
 repeat' split
 all_goals rfl
def boundX(i n:Nat):(Int × Int) ⊕ List LnF→Prop
 | .inl (r,_)=>(i:Int) < r∧r≤i+n
 | .inr l=>l.length≤n∧∀ x∈l,(i:Int) < x.l.row∧x.l.row≤i+n
theorem rdR_bound:∀(i:Nat) (rs:List (List UInt8)),boundX i rs.length (rdR i rs)
 | i,[]=>⟨by simp,by simp⟩
 | i,r :: rs=>by
  have ih:=rdR_bound (i+1) rs
  rw [rdR]
  rw [List.length_cons]
  by_cases ho:(swV r).all okW=true
  ·simp only[if_pos ho]
   by_cases hn:swV r=[]
   ·simp only[if_pos hn]
    cases hr:rdR (i+1) rs with
    | inl x=>rw [hr] at ih; simp only[boundX] at ih ⊢; omega
    | inr l =>
     rw [hr] at ih
     simp only[boundX] at ih ⊢
     exact⟨by omega,fun x hx=>by have:=ih.2 x hx; omega⟩
   ·simp only[if_neg hn]
    by_cases he:rdE (swV r)=0
    ·simp only[if_pos he]
     cases hr:rdR (i+1) rs with
     | inl x=>rw [hr] at ih; simp only[boundX] at ih ⊢; omega
     | inr l =>
      rw [hr] at ih
      simp only[boundX] at ih ⊢
      refine⟨by simp; omega,fun x hx=>?_⟩
      rcases List.mem_cons.1 hx with rfl | hx
      ·rw [rd_row he]; omega
      ·have:=ih.2 x hx; omega
    ·simp only[if_neg he,boundX]; omega
  ·simp only[if_neg ho,boundX]; omega
def goodX:(Int × Int) ⊕ List LnF→Prop
 | .inl (_,e)=>e≠0
 | .inr l=>∀ x∈l,lnB x∧∃ ws r,rdE ws=0∧ws.all okW=true∧x=rdL ws r
theorem rdR_good:∀(i:Nat) (rs:List (List UInt8)),goodX (rdR i rs)
 | i,[]=>by simp [rdR,goodX]
 | i,r :: rs=>by
  have ih:=rdR_good (i+1) rs
  rw [rdR]
  by_cases ho:(swV r).all okW=true
  ·simp only[if_pos ho]
   by_cases hn:swV r=[]
   ·simp only[if_pos hn]
    exact ih
   ·simp only[if_neg hn]
    by_cases he:rdE (swV r)=0
    ·simp only[if_pos he]
     cases hr:rdR (i+1) rs with
     | inl x=>rw [hr] at ih; exact ih
     | inr l =>
      rw [hr] at ih
      simp only[goodX] at ih ⊢
      intro x hx
      rcases List.mem_cons.1 hx with rfl | hx
      ·exact⟨rd_B he,_,_,he,ho,rfl⟩
      ·exact ih x hx
    ·simp only[if_neg he,goodX]; exact he
  ·simp only[if_neg ho,goodX]; decide
def blk(m:Nat):List UInt8:=(List.replicate m [32,9,35,10]).flatten
end Go.Proofs
namespace Go.Proofs
open Go.Pv
open Nm (spl swV okW okB swF enO wsF finF swV_ws back_words okW_all spl_ends ends no10 ljoin_run)
theorem wordsR_run{v:AV}{x:LnF}(hv:isLn v x)(hB:lnB x)(hr:rtO x=true):Run Tryz.prog 117 [v] (.own 1 9 ((wdF x).map .str)):=by
 have q0:=right_runS hv hB
 rw [hr] at q0
 obtain ⟨r1,r2,r3,r4⟩:=rt_range hr
 obtain ⟨l1,l2,l3⟩:=rt_lists hr
 obtain ⟨hs,hb,hd⟩:=hB
 have q1:=txl_run x.l.vlan (by omega) (by omega)
 have q2:=txl_run x.l.num (by omega) (by omega)
 have q6:=txl_run x.l.cost (by omega) (by omega)
 obtain ⟨n1,f1,n2,f2,n3,f3,n4,f4,rfl,c1,c2,c3,c4⟩:=hv
 have qt:=plist_run x.t n1 f1 c1 (by omega) (fun n hn=>by have:=l1 n hn; omega)
 have qi:=plist_run x.im n2 f2 c2 (by omega) (fun n hn=>by have:=l2 n hn; omega)
 have qe:=plist_run x.ex n3 f3 c3 (by omega) (fun n hn=>by have:=l3 n hn; omega)
 have hk:x.l.kind=1∨x.l.kind=2∨x.l.kind=3∨x.l.kind=4∨x.l.kind=5∨x.l.kind=6∨x.l.kind=7∨x.l.kind=8∨x.l.kind=9:=by omega
 rcases hk with hk | hk | hk | hk | hk | hk | hk | hk | hk
 ·have e:wdF x=wd1 x:=by unfold wdF; rw [hk]; rfl
  rw [e]
  have q3:=Mc.text_run x.l.mac (by omega) (by omega)
  unfold wd1
  obtain ⟨⟨r,k,a1,a2,a3,a4,a5,b1,b2,b3,b4,b5,b6⟩,t,im,ex,ad⟩:=x
  simp only at hk q0 q1 q2 q6 qt qi qe c1 q3
  obtain rfl:=hk
  exact pwords1 r a1 a2 a3 a4 a5 b1 b2 b3 b4 b5 b6 n1 n2 n3 n4 _ _ _ _ f1 f2 f3 f4 _ _ q0 q1 q2 _ q3
 ·have e:wdF x=wd2 x:=by unfold wdF; rw [hk]; rfl
  rw [e]
  unfold wd2
  obtain ⟨⟨r,k,a1,a2,a3,a4,a5,b1,b2,b3,b4,b5,b6⟩,t,im,ex,ad⟩:=x
  simp only at hk q0 q1 q2 q6 qt qi qe c1
  obtain rfl:=hk
  have q3:=pport_run r a1 a2 a3 a4 a5 b1 b2 b3 b4 b5 b6 n1 n2 n3 n4 (t.map (.int .i64)) (im.map (.int .i64)) (ex.map (.int .i64)) (ad.map (.int .u32)) f1 f2 f3 f4 2 _ [] [] _ _ _ rfl q1 q6 qt
  have hl:(t.map (AV.int .i64)).length=t.length:=by simp
  rw [hl] at q3
  by_cases ht:t=[]
  ·subst ht
   simp only[List.length_nil,if_true] at q3
   rw [if_pos rfl]
   exact pwords2 r a1 a2 a3 a4 a5 b1 b2 b3 b4 b5 b6 n1 n2 n3 n4 _ _ _ _ f1 f2 f3 f4 _ _ _ q0 q1 q2 q3
  ·have ht':¬ t.length=0:=fun h=>ht (List.eq_nil_of_length_eq_zero h)
   rw [if_neg ht'] at q3
   rw [if_neg ht]
   exact pwords2 r a1 a2 a3 a4 a5 b1 b2 b3 b4 b5 b6 n1 n2 n3 n4 _ _ _ _ f1 f2 f3 f4 _ _ _ q0 q1 q2 q3
 ·have e:wdF x=wd3 x:=by unfold wdF; rw [hk]; rfl
  rw [e]
  unfold wd3
  obtain ⟨⟨r,k,a1,a2,a3,a4,a5,b1,b2,b3,b4,b5,b6⟩,t,im,ex,ad⟩:=x
  simp only at hk q0 q1 q2 q6 qt qi qe c1
  obtain rfl:=hk
  exact pwords3 r a1 a2 a3 a4 a5 b1 b2 b3 b4 b5 b6 n1 n2 n3 n4 _ _ _ _ f1 f2 f3 f4 _ _ q0 q1 q2
 ·have e:wdF x=wd4 x:=by unfold wdF; rw [hk]; rfl
  rw [e]
  have q3:=Mc.text_run x.l.mac (by omega) (by omega)
  unfold wd4
  obtain ⟨⟨r,k,a1,a2,a3,a4,a5,b1,b2,b3,b4,b5,b6⟩,t,im,ex,ad⟩:=x
  simp only at hk q0 q1 q2 q6 qt qi qe c1 q3
  obtain rfl:=hk
  exact pwords4 r a1 a2 a3 a4 a5 b1 b2 b3 b4 b5 b6 n1 n2 n3 n4 _ _ _ _ f1 f2 f3 f4 _ _ q0 q1 q2 _ q3
 ·have e:wdF x=wd5 x:=by unfold wdF; rw [hk]; rfl
  rw [e]
  have q3:=text_run x.l.addr (by omega)
  unfold wd5
  obtain ⟨⟨r,k,a1,a2,a3,a4,a5,b1,b2,b3,b4,b5,b6⟩,t,im,ex,ad⟩:=x
  simp only at hk q0 q1 q2 q6 qt qi qe c1 q3
  obtain rfl:=hk
  exact pwords5 r a1 a2 a3 a4 a5 b1 b2 b3 b4 b5 b6 n1 n2 n3 n4 _ _ _ _ f1 f2 f3 f4 _ _ q0 q1 q2 _ q3
 ·have e:wdF x=wd6 x:=by unfold wdF; rw [hk]; rfl
  rw [e]
  unfold wd6
  obtain ⟨⟨r,k,a1,a2,a3,a4,a5,b1,b2,b3,b4,b5,b6⟩,t,im,ex,ad⟩:=x
  simp only at hk q0 q1 q2 q6 qt qi qe c1
  obtain rfl:=hk
  exact pwords6 r a1 a2 a3 a4 a5 b1 b2 b3 b4 b5 b6 n1 n2 n3 n4 _ _ _ _ f1 f2 f3 f4 _ _ q0 q1 q2
 ·have e:wdF x=wd7 x:=by unfold wdF; rw [hk]; rfl
  rw [e]
  have had:x.ad≠[]:=fun h=>by
   unfold rtO okF at hr
   rw [hk] at hr
   simp only[Int.reduceEq,if_false,if_true,ok7,h] at hr
   simp [adO,rsF] at hr
  obtain rfl:n4=1:=c4.resolve_left had
  have q3:=wul_run x.ad f4 (by omega) hd
  unfold wd7
  obtain ⟨⟨r,k,a1,a2,a3,a4,a5,b1,b2,b3,b4,b5,b6⟩,t,im,ex,ad⟩:=x
  simp only at hk q0 q1 q2 q6 qt qi qe c1 q3
  obtain rfl:=hk
  exact pwords7 r a1 a2 a3 a4 a5 b1 b2 b3 b4 b5 b6 n1 n2 n3 1 _ _ _ _ f1 f2 f3 f4 _ _ q0 q1 q2 _ q3
 ·have e:wdF x=wd8 x:=by unfold wdF; rw [hk]; rfl
  rw [e]
  unfold wd8
  have q3:=qi
  have q4:=qe
  obtain ⟨⟨r,k,a1,a2,a3,a4,a5,b1,b2,b3,b4,b5,b6⟩,t,im,ex,ad⟩:=x
  simp only at hk q0 q1 q2 q6 qt qi qe c1 q3 q4
  obtain rfl:=hk
  exact pwords8 r a1 a2 a3 a4 a5 b1 b2 b3 b4 b5 b6 n1 n2 n3 n4 _ _ _ _ f1 f2 f3 f4 _ _ q0 q1 q2 _ _ q3 q4
 ·have e:wdF x=wd9 x:=by unfold wdF; rw [hk]; rfl
  rw [e]
  have q3:=ptx_run x.l.addr x.l.bits (by omega)
  unfold wd9
  obtain ⟨⟨r,k,a1,a2,a3,a4,a5,b1,b2,b3,b4,b5,b6⟩,t,im,ex,ad⟩:=x
  simp only at hk q0 q1 q2 q6 qt qi qe c1 q3
  obtain rfl:=hk
  exact pwords9 r a1 a2 a3 a4 a5 b1 b2 b3 b4 b5 b6 n1 n2 n3 n4 _ _ _ _ f1 f2 f3 f4 _ _ q0 q1 q2 _ q3
theorem lns_ln(l:List LnF):(l.map lnV).length=l.length:=by simp
theorem wdF_ne(x:LnF):wdF x≠[]:=by
 unfold wdF wd1 wd2 wd3 wd4 wd5 wd6 wd7 wd8 wd9
 repeat' split
 all_goals simp
theorem wdF_len(x:LnF):(wdF x).length≤7:=by
 unfold wdF wd1 wd2 wd3 wd4 wd5 wd6 wd7 wd8 wd9
 repeat' split
 all_goals simp
def jnL(x:LnF):List UInt8:=Lib.join (wdF x) [32]
theorem pline_run{v:AV}{x:LnF}(hv:isLn v x)(hB:lnB x)(hr:rtO x=true)(hj:(jnL x).length≤100000):Run Tryz.prog 86 [v] (.tup [.str (jnL x),.int .i64 0]):=by
 have q1:=wordsR_run hv hB hr
 have hl:=wdF_len x
 have hp:=List.length_pos_iff.2 (wdF_ne x)
 have q2:=ljoin_run (wdF x) false (by omega) (by unfold jnL at hj; omega)
 obtain ⟨n1,f1,n2,f2,n3,f3,n4,f4,rfl,-⟩:=hv
 refine Tryz.run86 (by simp) ?_
 unfold Tryz.c86
 unfold jnL
 unfold lnA at q1 ⊢
 have hwl:((wdF x).map AV.str).length =(wdF x).length:=by simp
 generalize Lib.join (wdF x) [32]=J at *
 refine wZ ?_
 refine aC q1 rfl rfl ?_
 simp (disch:=try exact dq) only[↓pvd,pz,sC,List.map,seval,hwl]
 refine awR_callR (ms:=[]) q2 (by simp (disch:=try exact dq) only[↓pvd,pz,sC,List.map,seval,mapO_map str_nr,rows_map str_nr,hwl]; rfl) (by simp (disch:=try exact dq) only[↓pvd,pz,sC,List.map,seval,mapO_map str_nr,rows_map str_nr,hwl]) rfl ?_
 refine wZ ?_
 exact eZ
end Go.Proofs
