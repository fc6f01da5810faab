/- Part 33 of a proof that a step of one domain changes nothing of another: the machine of plain values, and what the program's functions do. -/
import Derived.Test.YtdgcdnnmodnkjaaGreatDoorG31
import Derived.Test.YtdgcdnnmodnkjaaGreatDoorG32
set_option linter.all false
set_option linter.unusedVariables false
set_option linter.unusedSectionVars false
set_option linter.unusedSimpArgs false
set_option linter.defProp false
set_option maxHeartbeats 4000000
set_option maxRecDepth 100000
namespace Go.Proofs
open Go Go.Pv Go.Proofs.Tx
variable [Lq]
open W
open Classical
theorem rp0:Run Tryz.prog 18 [.sl 1 [.bool true] false,.int .i64 0] (.sl 1 [] false):=runTop_sound (E:=E0) (n:=60) progOk rfl spT_ok (by kernel_rfl)
theorem rp1:Run Tryz.prog 18 [.sl 1 [.bool true] false,.int .i64 1] (.sl 1 [.bool true] false):=runTop_sound (E:=E0) (n:=60) progOk rfl spT_ok (by kernel_rfl)
theorem rp2:Run Tryz.prog 18 [.sl 1 [.bool true] false,.int .i64 2] (.sl 1 [.bool true,.bool true] false):=runTop_sound (E:=E0) (n:=60) progOk rfl spT_ok (by kernel_rfl)
theorem rp3:Run Tryz.prog 18 [.sl 1 [.bool true] false,.int .i64 3] (.sl 1 [.bool true,.bool true,.bool true] false):=runTop_sound (E:=E0) (n:=60) progOk rfl spT_ok (by kernel_rfl)
theorem rp4:Run Tryz.prog 18 [.sl 1 [.bool true] false,.int .i64 4] (.sl 1 [.bool true,.bool true,.bool true,.bool true] false):=runTop_sound (E:=E0) (n:=60) progOk rfl spT_ok (by kernel_rfl)
theorem rp5:Run Tryz.prog 18 [.sl 1 [.bool true] false,.int .i64 5] (.sl 1 [.bool true,.bool true,.bool true,.bool true,.bool true] false):=runTop_sound (E:=E0) (n:=60) progOk rfl spT_ok (by kernel_rfl)
theorem rp6:Run Tryz.prog 18 [.sl 1 [.bool true] false,.int .i64 6] (.sl 1 [.bool true,.bool true,.bool true,.bool true,.bool true,.bool true] false):=runTop_sound (E:=E0) (n:=60) progOk rfl spT_ok (by kernel_rfl)
theorem rp7:Run Tryz.prog 18 [.sl 1 [.bool true] false,.int .i64 7] (.sl 1 [.bool true,.bool true,.bool true,.bool true,.bool true,.bool true,.bool true] false):=runTop_sound (E:=E0) (n:=60) progOk rfl spT_ok (by kernel_rfl)
theorem rp8:Run Tryz.prog 18 [.sl 1 [.bool true] false,.int .i64 8] (.sl 1 [.bool true,.bool true,.bool true,.bool true,.bool true,.bool true,.bool true,.bool true] false):=runTop_sound (E:=E0) (n:=60) progOk rfl spT_ok (by kernel_rfl)
theorem rp9:Run Tryz.prog 18 [.sl 1 [.bool true] false,.int .i64 9] (.sl 1 [.bool true,.bool true,.bool true,.bool true,.bool true,.bool true,.bool true,.bool true,.bool true] false):=runTop_sound (E:=E0) (n:=60) progOk rfl spT_ok (by kernel_rfl)
theorem rp10:Run Tryz.prog 18 [.sl 1 [.bool true] false,.int .i64 10] (.sl 1 [.bool true,.bool true,.bool true,.bool true,.bool true,.bool true,.bool true,.bool true,.bool true,.bool true] false):=runTop_sound (E:=E0) (n:=60) progOk rfl spT_ok (by kernel_rfl)
theorem rp11:Run Tryz.prog 18 [.sl 1 [.bool true] false,.int .i64 11] (.sl 1 [.bool true,.bool true,.bool true,.bool true,.bool true,.bool true,.bool true,.bool true,.bool true,.bool true,.bool true] false):=runTop_sound (E:=E0) (n:=60) progOk rfl spT_ok (by kernel_rfl)
theorem rp12:Run Tryz.prog 18 [.sl 1 [.bool true] false,.int .i64 12] (.sl 1 [.bool true,.bool true,.bool true,.bool true,.bool true,.bool true,.bool true,.bool true,.bool true,.bool true,.bool true,.bool true] false):=runTop_sound (E:=E0) (n:=60) progOk rfl spT_ok (by kernel_rfl)
theorem rp13:Run Tryz.prog 18 [.sl 1 [.bool true] false,.int .i64 13] (.sl 1 [.bool true,.bool true,.bool true,.bool true,.bool true,.bool true,.bool true,.bool true,.bool true,.bool true,.bool true,.bool true,.bool true] false):=runTop_sound (E:=E0) (n:=60) progOk rfl spT_ok (by kernel_rfl)
theorem rp14:Run Tryz.prog 18 [.sl 1 [.bool true] false,.int .i64 14] (.sl 1 [.bool true,.bool true,.bool true,.bool true,.bool true,.bool true,.bool true,.bool true,.bool true,.bool true,.bool true,.bool true,.bool true,.bool true] false):=runTop_sound (E:=E0) (n:=60) progOk rfl spT_ok (by kernel_rfl)
theorem rp15:Run Tryz.prog 18 [.sl 1 [.bool true] false,.int .i64 15] (.sl 1 [.bool true,.bool true,.bool true,.bool true,.bool true,.bool true,.bool true,.bool true,.bool true,.bool true,.bool true,.bool true,.bool true,.bool true,.bool true] false):=runTop_sound (E:=E0) (n:=60) progOk rfl spT_ok (by kernel_rfl)
theorem rp16:Run Tryz.prog 18 [.sl 1 [.bool true] false,.int .i64 16] (.sl 1 [.bool true,.bool true,.bool true,.bool true,.bool true,.bool true,.bool true,.bool true,.bool true,.bool true,.bool true,.bool true,.bool true,.bool true,.bool true,.bool true] false):=runTop_sound (E:=E0) (n:=60) progOk rfl spT_ok (by kernel_rfl)
theorem rp17:Run Tryz.prog 18 [.sl 1 [.bool true] false,.int .i64 17] (.sl 1 [.bool true,.bool true,.bool true,.bool true,.bool true,.bool true,.bool true,.bool true,.bool true,.bool true,.bool true,.bool true,.bool true,.bool true,.bool true,.bool true,.bool true] false):=runTop_sound (E:=E0) (n:=60) progOk rfl spT_ok (by kernel_rfl)
theorem rp18:Run Tryz.prog 18 [.sl 1 [.bool true] false,.int .i64 18] (.sl 1 [.bool true,.bool true,.bool true,.bool true,.bool true,.bool true,.bool true,.bool true,.bool true,.bool true,.bool true,.bool true,.bool true,.bool true,.bool true,.bool true,.bool true,.bool true] false):=runTop_sound (E:=E0) (n:=60) progOk rfl spT_ok (by kernel_rfl)
theorem rp19:Run Tryz.prog 18 [.sl 1 [.bool true] false,.int .i64 19] (.sl 1 [.bool true,.bool true,.bool true,.bool true,.bool true,.bool true,.bool true,.bool true,.bool true,.bool true,.bool true,.bool true,.bool true,.bool true,.bool true,.bool true,.bool true,.bool true,.bool true] false):=runTop_sound (E:=E0) (n:=60) progOk rfl spT_ok (by kernel_rfl)
theorem rp20:Run Tryz.prog 18 [.sl 1 [.bool true] false,.int .i64 20] (.sl 1 [.bool true,.bool true,.bool true,.bool true,.bool true,.bool true,.bool true,.bool true,.bool true,.bool true,.bool true,.bool true,.bool true,.bool true,.bool true,.bool true,.bool true,.bool true,.bool true,.bool true] false):=runTop_sound (E:=E0) (n:=60) progOk rfl spT_ok (by kernel_rfl)
theorem s18(n:Nat)(h:n≤20):∃ r,Run Tryz.prog 18 [.sl 1 [.bool true] false,.int .i64 n] r∧∃ w:TL,r=w.v∧w.l.length=n:=by
 match n,h with
 | 0,_=>exact⟨_,rp0,SL.of (List.replicate 0 true) (Nat.le_of_ble_eq_true rfl),by rw [← SL.ofe]; rfl,rfl⟩
 | 1,_=>exact⟨_,rp1,SL.of (List.replicate 1 true) (Nat.le_of_ble_eq_true rfl),by rw [← SL.ofe]; rfl,rfl⟩
 | 2,_=>exact⟨_,rp2,SL.of (List.replicate 2 true) (Nat.le_of_ble_eq_true rfl),by rw [← SL.ofe]; rfl,rfl⟩
 | 3,_=>exact⟨_,rp3,SL.of (List.replicate 3 true) (Nat.le_of_ble_eq_true rfl),by rw [← SL.ofe]; rfl,rfl⟩
 | 4,_=>exact⟨_,rp4,SL.of (List.replicate 4 true) (Nat.le_of_ble_eq_true rfl),by rw [← SL.ofe]; rfl,rfl⟩
 | 5,_=>exact⟨_,rp5,SL.of (List.replicate 5 true) (Nat.le_of_ble_eq_true rfl),by rw [← SL.ofe]; rfl,rfl⟩
 | 6,_=>exact⟨_,rp6,SL.of (List.replicate 6 true) (Nat.le_of_ble_eq_true rfl),by rw [← SL.ofe]; rfl,rfl⟩
 | 7,_=>exact⟨_,rp7,SL.of (List.replicate 7 true) (Nat.le_of_ble_eq_true rfl),by rw [← SL.ofe]; rfl,rfl⟩
 | 8,_=>exact⟨_,rp8,SL.of (List.replicate 8 true) (Nat.le_of_ble_eq_true rfl),by rw [← SL.ofe]; rfl,rfl⟩
 | 9,_=>exact⟨_,rp9,SL.of (List.replicate 9 true) (Nat.le_of_ble_eq_true rfl),by rw [← SL.ofe]; rfl,rfl⟩
 | 10,_=>exact⟨_,rp10,SL.of (List.replicate 10 true) (Nat.le_of_ble_eq_true rfl),by rw [← SL.ofe]; rfl,rfl⟩
 | 11,_=>exact⟨_,rp11,SL.of (List.replicate 11 true) (Nat.le_of_ble_eq_true rfl),by rw [← SL.ofe]; rfl,rfl⟩
 | 12,_=>exact⟨_,rp12,SL.of (List.replicate 12 true) (Nat.le_of_ble_eq_true rfl),by rw [← SL.ofe]; rfl,rfl⟩
 | 13,_=>exact⟨_,rp13,SL.of (List.replicate 13 true) (Nat.le_of_ble_eq_true rfl),by rw [← SL.ofe]; rfl,rfl⟩
 | 14,_=>exact⟨_,rp14,SL.of (List.replicate 14 true) (Nat.le_of_ble_eq_true rfl),by rw [← SL.ofe]; rfl,rfl⟩
 | 15,_=>exact⟨_,rp15,SL.of (List.replicate 15 true) (Nat.le_of_ble_eq_true rfl),by rw [← SL.ofe]; rfl,rfl⟩
 | 16,_=>exact⟨_,rp16,SL.of (List.replicate 16 true) (Nat.le_of_ble_eq_true rfl),by rw [← SL.ofe]; rfl,rfl⟩
 | 17,_=>exact⟨_,rp17,SL.of (List.replicate 17 true) (Nat.le_of_ble_eq_true rfl),by rw [← SL.ofe]; rfl,rfl⟩
 | 18,_=>exact⟨_,rp18,SL.of (List.replicate 18 true) (Nat.le_of_ble_eq_true rfl),by rw [← SL.ofe]; rfl,rfl⟩
 | 19,_=>exact⟨_,rp19,SL.of (List.replicate 19 true) (Nat.le_of_ble_eq_true rfl),by rw [← SL.ofe]; rfl,rfl⟩
 | 20,_=>exact⟨_,rp20,SL.of (List.replicate 20 true) (Nat.le_of_ble_eq_true rfl),by rw [← SL.ofe]; rfl,rfl⟩
 | n+21,h=>exact absurd h (by omega)
def cpN(N:Nt):Nt:=⟨SL.of N.devs.l N.devs.n,SL.of (N.ports.l.map cpPt) (by rw [List.length_map]; exact N.ports.n),SL.of N.links.l N.links.n,SL.of (N.doms.l.map cpDm) (by rw [List.length_map]; exact N.doms.n),SL.of N.stats.l N.stats.n,SL.of (N.floods.l.map cpFl) (by rw [List.length_map]; exact N.floods.n),SL.of (N.vrfs.l.map cpVf) (by rw [List.length_map]; exact N.vrfs.n),SL.of N.irbs.l N.irbs.n⟩
theorem s20'(N:Nt)(hg:Good N):∃ r,Run Tryz.prog 20 [N.v] r∧r =(cpN N).v:=by
 obtain ⟨r,h,e⟩:=s20 N hg
 refine⟨_,run_frz h,?_⟩
 rw [e,Nt.e]
 unfold cpN
 simp only[← SL.ofe]
 rfl
theorem cost_cpN{N:Nt}(h:CostOk N):CostOk (cpN N):=cost_cp h
theorem s8(N:Nt)(hg:Good N)(hc:CostOk N){hp:Hp}:∃ r H',Gen Tryz.prog 8 [N.v] hp r H' ∧(∃ i x g ta qs,r=.tup [.eptr i 0 0,.int .i64 0]∧SimAt H' i x g ta qs∧x.n.doms.l.length=N.doms.l.length ∧(∀ j,j < hp.length→ent H' j=ent hp j)∧hp.length≤i∧hp.length≤x.sp∧hp.length≤x.ti∧hp.length≤x.qi):=by
 have h20:=hg.few.2.2.1
 have h48:=hg.few.2.2.2.1
 refine gen_w (c:=c8 false) [.t 2,.t 3] 1 (by kernel_rfl) (by kernel_rfl) (Nat.le_refl 1) ?_
 unfold c8
 simp (disch:=try exact Dn) only[Kn,seval,reduceCtorEq]
 refine call_rn (by simp (disch:=try exact Dn) only[Kn,wp,seval,reduceCtorEq]; rfl) (by simp (disch:=try exact Dn) only[Kn,wp,seval,reduceCtorEq]) (s18 N.links.l.length h20) ?_
 rintro _ ⟨up,rfl,hup⟩
 simp only[vl,wp,ts,wb]
 simp (disch:=try exact Dn) only[Kn,seval,reduceCtorEq]
 refine An (s19 N up hc) ?_
 rintro _ (⟨_,_,w,_,rfl⟩ | ⟨hn,_⟩)
 case inr=>exact absurd ⟨hg,hup⟩ hn
 simp only[vl,ts,wb]
 simp (disch:=try exact Dn) only[Kn,seval,reduceCtorEq]
 refine An (s20' N hg) ?_
 rintro _ rfl
 simp only[vl,ts,wb]
 simp (disch:=try exact Dn) only[Kn,Nt.flat_e,Nat.add_assoc,seval,reduceCtorEq]
 have hk:(0:Int) ≤(N.doms.l.length:Int) ∧(N.doms.l.length:Int) ≤(N.doms.l.length:Int) ∧(N.doms.l.length:Int)≤1000000000:=⟨by omega,by omega,by omega⟩
 refine⟨by omega,hk,by omega,hk,by omega,by omega,hp.length+16,⟨cpN N,hp.length+6,hp.length+10,hp.length+14,N.doms.l.length,0,0,List.replicate 64 0⟩,⟨up,0,0,0,SL.nil⟩,List.replicate N.doms.l.length SL.nil,List.replicate N.doms.l.length SL.nil,rfl,?_,?_,fun j hj=>ent_apl hj,by omega,by simp only; omega,by simp only; omega,by simp only; omega⟩
 ·refine⟨ent_apn.trans (by rw [Si.e]; rfl),ent_apn.trans (by rw [Sg.e,← SL.nile]; rfl),ent_apn.trans (by rw [List.map_replicate,← SL.nile]; rfl),ent_apn.trans (by rw [List.map_replicate,← SL.nile]; rfl),by simp only; omega,by simp only; omega,by simp only; omega,by simp only; omega,by simp only; omega,by simp only; omega,rfl,List.length_replicate,List.length_replicate,List.length_replicate,?_,h48,cost_cpN hc,?_,?_⟩
  ·show N.doms.l.length =(N.doms.l.map cpDm).length
   rw [List.length_map]
  ·intro t ht
   rw [List.eq_of_mem_replicate ht]; exact Nat.zero_le _
  ·intro t ht
   rw [List.eq_of_mem_replicate ht]; exact⟨fun q hq=>absurd hq List.not_mem_nil,Nat.zero_le _⟩
 ·show(N.doms.l.map cpDm).length=N.doms.l.length
  rw [List.length_map]
end Go.Proofs
set_option maxHeartbeats 4000000
set_option maxRecDepth 100000
namespace Go.Proofs
open Go Go.Pv Go.Proofs.Tx
variable [Lq]
open W
open Classical
structure FOk(F:List Int)(n:Nat):Prop where
 len:F.length=n
 le:∀ i,i < n→0≤nth F i∧nth F i≤i
theorem nth_setn{α:Type}[Inhabited α]{l:List α}{i k:Nat}{x:α}(h:i≠k):nth (l.set i x) k=nth l k:=by
 unfold nth
 simp only[List.getElem!_eq_getElem?_getD,List.getElem?_set_ne h]
theorem FOk.set{F:List Int}{n:Nat}(h:FOk F n){i:Nat}(hi:i < n){x:Int}(h0:0≤x)(h1:x≤i):FOk (F.set i x) n:=by
 refine⟨by rw [List.length_set]; exact h.len,fun k hk=>?_⟩
 by_cases e:i=k
 ·subst e; rw [nth_set (by rw [h.len]; exact hi)]; exact⟨h0,h1⟩
 ·rw [nth_setn e]; exact h.le k hk
theorem s239(F:List Int)(n i:Nat)(hF:FOk F n)(hi:i < n){hp:Hp}{id:Nat}(h:ent hp id=some ⟨3,F.map (AV.int .i64),true⟩):∃ r H',Gen Tryz.prog 239 [.vec id 1 0 n,.int .i64 i] hp r H' ∧
  (∃ j:Nat,r=.int .i64 j∧j≤i∧∃ F2:List Int,H'=hp.set id (some ⟨3,F2.map (AV.int .i64),true⟩)∧FOk F2 n):=by
 have hl:=entlt h
 have hs:=ent_same h
 refine gen_w (c:=c239 false) [.t 4] 2 (by kernel_rfl) (by kernel_rfl) (Nat.le_refl 2) ?_
 unfold c239
 simp (disch:=try exact Dl) only[Kl,seval,reduceCtorEq]
 refine d_lo (fun p:List Int × Nat=>⟨[(0,.vec id 1 0 n),(1,.int .i64 p.2)],hp.set id (some ⟨3,p.1.map (AV.int .i64),true⟩)⟩) (fun p=>FOk p.1 n∧p.2≤i) (fun p=>p.2) ?_ ?_
 ·simp (disch:=try exact Dl) only[Kl,seval,reduceCtorEq]
  exact⟨(F,i),by simp only[hs],hF,Nat.le_refl _⟩
 rintro ⟨G,j⟩ ⟨hG,hj⟩
 simp only at hG hj ⊢
 unfold c239b0
 have hGl:=hG.len
 have h1:=hG.le j (by omega)
 obtain ⟨a,ha⟩:=Int.eq_ofNat_of_zero_le h1.1
 rw [ha] at h1
 have h2:=hG.le a (by omega)
 obtain ⟨b,hb⟩:=Int.eq_ofNat_of_zero_le h2.1
 rw [hb] at h2
 by_cases he:(a:Int)=j
 ·repeat' (first
 |simp (disch:=try exact Dl) only[Kl,ha,hb,he,seval,reduceCtorEq]
 |with_reducible refine e8 ?_
 |(refine⟨j,rfl,by omega,G,rfl,hG⟩)
 |fail)
 ·repeat' (first
 |simp (disch:=try exact Dl) only[Kl,ha,hb,he,seval,reduceCtorEq]
 |with_reducible refine e8 ?_
 |fail)
  exact⟨(G.set j b,b),rfl,⟨hG.set (by omega) (by omega) (by omega),by simp only; omega⟩,by simp only; omega⟩
theorem s142(F:List Int)(n a b:Nat)(hF:FOk F n)(ha:a < n)(hb:b < n){hp:Hp}{id:Nat}(h:ent hp id=some ⟨3,F.map (AV.int .i64),true⟩):∃ r H',Gen Tryz.prog 142 [.vec id 1 0 n,.int .i64 a,.int .i64 b] hp r H' ∧
  (∃ c,r=.bool c∧∃ F2:List Int,H'=hp.set id (some ⟨3,F2.map (AV.int .i64),true⟩)∧FOk F2 n):=by
 have hl:=entlt h
 refine gen_w (c:=c142 false) [.t 6] 3 (by kernel_rfl) (by kernel_rfl) (Nat.le_refl 3) ?_
 unfold c142
 simp (disch:=try exact Dl) only[Kl,seval,reduceCtorEq]
 refine call_genQ (s239 F n a hF ha h) ?_
 rintro _ _ ⟨a2,rfl,ha2,F2,rfl,hF2⟩
 simp (disch:=try exact Dl) only[Kl,seval,reduceCtorEq]
 refine call_genQ (s239 F2 n b hF2 hb (entset hl)) ?_
 rintro _ _ ⟨b2,rfl,hb2,F3,rfl,hF3⟩
 simp (disch:=try exact Dl) only[Kl,seval,reduceCtorEq]
 obtain ⟨c,hc⟩:∃ c:Nat,max (a2:Int) (b2:Int)=c:=⟨max a2 b2,by omega⟩
 obtain ⟨d,hd⟩:∃ d:Nat,min (a2:Int) (b2:Int)=d:=⟨min a2 b2,by omega⟩
 have hl3:=hF3.len
 repeat' (first
 |simp (disch:=try exact Dl) only[Kl,hc,hd,seval,reduceCtorEq]
 |with_reducible refine e8 ?_
 |fail)
 exact⟨_,rfl,_,rfl,hF3.set (by omega) (by omega) (by omega)⟩
theorem s141(u:IL)(hu:0 < u.l.length):∃ r,Run Tryz.prog 141 [u.v] r∧∃ x,r=.int .i64 x∧x∈u.l:=by
 have hn:=u.n
 refine run_w (c:=c141 true) [.t 2] 1 (by kernel_rfl) (by kernel_rfl) (Nat.le_refl 1) (by simp only[wd]) ?_
 unfold c141
 simp (disch:=try exact Dl) only[Kl,seval,reduceCtorEq]
 refine⟨by omega,?_⟩
 refine d_lo (fun p:Nat × Int=>⟨[(0,u.v),(3,.int .i64 p.2),(4,.int .i64 p.1)],[]⟩) (fun p=>p.1≤u.l.length∧p.2∈u.l) (fun p=>u.l.length - p.1) ?_ ?_
 ·simp (disch:=try exact Dl) only[Kl,seval,reduceCtorEq]
  exact⟨(1,_),rfl,by simp only; omega,nth_mem hu⟩
 rintro ⟨k,m⟩ ⟨hk,hm⟩
 simp only at hk hm ⊢
 unfold c141b0
 by_cases hlt:k < u.l.length
 ·have hy:=nth_mem (l:=u.l) (k:=k) hlt
  have hmin:min m (nth u.l k)∈u.l:=by
   rcases Int.le_total m (nth u.l k) with h | h
   ·rw [Int.min_eq_left h]; exact hm
   ·rw [Int.min_eq_right h]; exact hy
  repeat' (first
 |simp (disch:=try exact Dl) only[Kl,seval,reduceCtorEq]
 |with_reducible refine e8 ?_
 |(refine Fq ?_;first|exact e9|fail)
 |fail)
  exact⟨(k+1,_),rfl,⟨by simp only; omega,hmin⟩,by simp only; omega⟩
 ·repeat' (first
 |simp (disch:=try exact Dl) only[Kl,seval,reduceCtorEq]
 |with_reducible refine e8 ?_
 |(refine Fq ?_;first|exact⟨_,rfl,hm⟩|exact e9|fail)
 |fail)
theorem s139(n:Nat)(hn:n≤1000):∃ r,Run Tryz.prog 139 [.int .i64 n] r∧∃ F:List Int,r=.own 1 3 (F.map (AV.int .i64))∧FOk F n:=by
 refine run_w (c:=c139 true) [.t 2] 1 (by kernel_rfl) (by kernel_rfl) (Nat.le_refl 1) (by simp only[wd]) ?_
 unfold c139
 simp (disch:=try exact Dl) only[Kl,seval,reduceCtorEq]
 refine⟨by omega,?_⟩
 refine d_lo (fun p:Nat × List Int=>⟨[(3,.vec 0 1 0 n),(8,.int .i64 n),(9,.int .i64 p.1)],[some ⟨3,p.2.map (AV.int .i64),true⟩]⟩) (fun p=>p.1≤n∧FOk p.2 n) (fun p=>n - p.1) ?_ ?_
 ·simp (disch:=try exact Dl) only[Kl,rep_i,seval,reduceCtorEq]
  exact⟨(0,List.replicate n 0),by simp,Nat.zero_le _,by simp,fun i hi=>by unfold nth; simp [hi]⟩
 rintro ⟨k,F⟩ ⟨hk,hF⟩
 simp only at hk hF ⊢
 unfold c139b0
 have hl:=hF.len
 by_cases hlt:k < n
 ·repeat' (first
 |simp (disch:=try exact Dl) only[Kl,hl,seval,reduceCtorEq]
 |with_reducible refine e8 ?_
 |(refine fin_o [] ?_;simp (disch:=try exact Dl) only[Kl,hl,wh,seval,reduceCtorEq];refine⟨_,rfl,?_,?_⟩;(first|rfl|simp (disch:=try exact Dl) only[Kl,hl,wh,seval,reduceCtorEq]);first|exact⟨_,rfl⟩|fail)
 |fail)
  exact⟨(k+1,_),rfl,⟨by simp only; omega,hF.set hlt (by omega) (by omega)⟩,by simp only; omega⟩
 ·repeat' (first
 |simp (disch:=try exact Dl) only[Kl,hl,take_map_all,seval,reduceCtorEq]
 |with_reducible refine e8 ?_
 |(refine fin_o [[.own 1 3]] ?_;simp (disch:=try exact Dl) only[Kl,hl,take_map_all,wo,seval,reduceCtorEq];refine⟨_,rfl,?_,?_⟩;(first|rfl|simp (disch:=try exact Dl) only[Kl,hl,take_map_all,wo,seval,reduceCtorEq]);first|exact⟨F,rfl,hF⟩|exact⟨_,rfl⟩|fail)
 |fail)
end Go.Proofs
set_option maxHeartbeats 4000000
set_option maxRecDepth 100000
namespace Go.Proofs
open Go Go.Pv Go.Proofs.Tx
variable [Lq]
open W
open Classical
theorem s140(N:Nt)(F:List Int)(n:Nat)(hg:Good N)(hF:FOk F n)(hn:N.doms.l.length≤n)(A:Option Ent):∃ r H',Gen Tryz.prog 140 [N.v,.vec 1 1 0 n] [A,some ⟨3,F.map (AV.int .i64),true⟩] r H' ∧
  (r=.tup []∧∃ F2:List Int,∃ ext,H'=A :: some ⟨3,F2.map (AV.int .i64),true⟩ :: ext∧FOk F2 n):=by
 have hp40:=hg.few.2.1
 refine gen_w (c:=c140 false) [] 2 (by kernel_rfl) (by kernel_rfl) (Nat.le_refl 2) ?_
 unfold c140
 simp (disch:=try exact Dl) only[Kl,seval,reduceCtorEq]
 refine d_lo (fun p:Nat × List Int × Hp=>⟨[(1,.vec 1 1 0 n),(2,.eptr 2 0 0),(11,N.ports.v),(12,.int .i64 N.ports.l.length),(13,.int .i64 p.1)],A :: some ⟨3,p.2.1.map (AV.int .i64),true⟩ :: some ⟨40,[N.v],true⟩ :: p.2.2⟩) (fun p=>p.1≤N.ports.l.length∧FOk p.2.1 n) (fun p=>N.ports.l.length - p.1) ?_ ?_
 ·simp (disch:=try exact Dl) only[Kl,seval,reduceCtorEq]
  exact⟨(0,F,[]),rfl,Nat.zero_le _,hF⟩
 rintro ⟨k,G,ext⟩ ⟨hk,hG⟩
 simp only at hk hG ⊢
 unfold c140b0
 by_cases hlt:k < N.ports.l.length
 ·have ht:=rsg_len (hg.ports k hlt).2.2.2.1
  have e1:∀(l:Hp),ent (ext ++ l) ext.length=ent l 0:=fun l=>ent_ap0
  have e2:∀(l:Hp) i,ent (ext ++ l) (ext.length+i)=ent l i:=fun l i=>ent_apn
  repeat' (first
 |simp (disch:=try exact Dl) only[Kl,e1,e2,seval,reduceCtorEq]
 |with_reducible refine e8 ?_
 |with_reducible refine e_app_vec ?_
 |(refine Al (o49 _ (by omega)) ?_;rintro _ rfl;all_goals simp only[vl,ts,wb])
 |fail)
  obtain ⟨X,hX⟩:∃ X:Hp,X=ext ++ [some ⟨136,[(nth N.ports.l k).v],true⟩,none,none,none,none,none,some ⟨3,[.int .i64 (nth N.ports.l k).native],true⟩,some ⟨3,((nth N.ports.l k).tagged.l ++ [(nth N.ports.l k).native]).map (AV.int .i64),true⟩,none,none,some ⟨3,[],false⟩]:=⟨_,rfl⟩
  have x1:ent X ext.length=some ⟨136,[(nth N.ports.l k).v],true⟩:=by rw [hX,ent_ap0]; rfl
  have x2:ent X (ext.length+1+6)=some ⟨3,((nth N.ports.l k).tagged.l ++ [(nth N.ports.l k).native]).map (AV.int .i64),true⟩:=by rw [hX,Nat.add_assoc,ent_apn]; rfl
  have x3:ent X (ext.length+7)=some ⟨3,((nth N.ports.l k).tagged.l ++ [(nth N.ports.l k).native]).map (AV.int .i64),true⟩:=x2
  first | rw [← hX] | trace_state
  obtain ⟨L,hL⟩:∃ L:List Int,L =(nth N.ports.l k).tagged.l ++ [(nth N.ports.l k).native]:=⟨_,rfl⟩
  have hLl:L.length =(nth N.ports.l k).tagged.l.length+1:=by rw [hL]; simp
  rw [← hL] at x2 x3
  rw [← hLl]
  clear hX hL
  refine d_lo (fun p:Nat × List Int=>⟨[(1,.vec 1 1 0 n),(2,.eptr 2 0 0),(4,.int .i64 k),(5,.eptr (ext.length+1+1+1) 0 0),(11,N.ports.v),(12,.int .i64 N.ports.l.length),(13,.int .i64 k),(24,.vec (ext.length+1+1+1+1+6) 1 0 L.length),(25,.int .i64 L.length),(26,.int .i64 p.1)],A :: some ⟨3,p.2.map (AV.int .i64),true⟩ :: some ⟨40,[N.v],true⟩ :: X⟩) (fun p=>p.1≤L.length∧FOk p.2 n) (fun p=>L.length - p.1) ?_ ?_
  ·simp (disch:=try exact Dl) only[Kl,seval,reduceCtorEq]
   exact⟨(0,G),rfl,Nat.zero_le _,hG⟩
  rintro ⟨m,G2⟩ ⟨hm,hG2⟩
  simp only at hm hG2 ⊢
  unfold c140b1
  by_cases hlt2:m < L.length
  ·simp (disch:=try exact Dl) only[Kl,x1,x2,x3,seval,reduceCtorEq]
   refine⟨by omega,by omega,?_⟩
   refine Al (s238 N k (nth L m)) ?_
   rintro _ ⟨to,b,rfl,hb⟩
   simp only[vl,ts,wb]
   simp (disch:=try exact Dl) only[Kl,seval,reduceCtorEq]
   cases b
   ·repeat' (first
 |simp (disch:=try exact Dl) only[Kl,seval,reduceCtorEq]
 |with_reducible refine e8 ?_
 |with_reducible refine e_app_vec ?_
 |fail)
    exact⟨(m+1,G2),rfl,⟨by simp only; omega,hG2⟩,by simp only; omega⟩
   ·obtain ⟨_,hto,hpk,hmem⟩:=hb rfl
    simp (disch:=try exact Dl) only[Kl,x1,x2,x3,seval,reduceCtorEq]
    refine Al (s85 N (nth N.ports.l k).dev (nth L m)) ?_
    rintro _ ⟨dd,rfl,hd⟩
    simp only[vl,ts,wb]
    simp (disch:=try exact Dl) only[Kl,seval,reduceCtorEq]
    have hd1:=(fnd_has hd hg).2 (good_mem hg hpk hmem)
    have hd2:=hd.lt
    obtain ⟨dn,rfl⟩:=Int.eq_ofNat_of_zero_le hd1
    obtain ⟨tn,rfl⟩:=Int.eq_ofNat_of_zero_le hto.1
    have hto2:=hto.2
    refine call_genQ (s142 G2 n dn tn hG2 (by omega) (by omega) rfl) ?_
    rintro _ _ ⟨c,rfl,G3,rfl,hG3⟩
    repeat' (first
 |simp (disch:=try exact Dl) only[Kl,seval,reduceCtorEq]
 |with_reducible refine e8 ?_
 |with_reducible refine e_app_vec ?_
 |fail)
    exact⟨(m+1,G3),rfl,⟨by simp only; omega,hG3⟩,by simp only; omega⟩
  ·repeat' (first
 |simp (disch:=try exact Dl) only[Kl,seval,reduceCtorEq]
 |with_reducible refine e8 ?_
 |with_reducible refine e_app_vec ?_
 |fail)
   exact⟨(k+1,G2,X),rfl,⟨by simp only; omega,hG2⟩,by simp only; omega⟩
 ·repeat' (first
 |simp (disch:=try exact Dl) only[Kl,seval,reduceCtorEq]
 |with_reducible refine e8 ?_
 |with_reducible refine e_app_vec ?_
 |fail)
  exact⟨G,_,rfl,hG⟩
end Go.Proofs
set_option maxHeartbeats 4000000
set_option maxRecDepth 100000
namespace Go.Proofs
open Go Go.Pv Go.Proofs.Tx
variable [Lq]
open W
open Classical
theorem s69(N:Nt):∃ r,Run Tryz.prog 69 [N.v] r∧∃ a b,r=.tup [.int .i64 a,.bool b]:=by
 refine run_w (c:=c69 true) [.t 2,.t 3] 1 (by kernel_rfl) (by kernel_rfl) (Nat.le_refl 1) (by simp only[wd]) ?_
 unfold c69
 by_cases hg:Good N
 ·have h48:=hg.few.2.2.2.1
  obtain ⟨n,hn⟩:∃ n:Nat,n=2 * N.doms.l.length:=⟨_,rfl⟩
  have hn2:(2:Int) *(N.doms.l.length:Int) =(n:Int):=by omega
  repeat' (first
 |simp (disch:=try exact Dl) only[Kl,hg,hn2,seval,reduceCtorEq]
 |with_reducible refine e8 ?_
 |(refine Al (s72 _) ?_;rintro _ rfl;all_goals simp only[vl,ts,wb])
 |(refine Al (s139 n (by omega)) ?_;rintro _ ⟨F,rfl,hF⟩;all_goals simp only[vl,ts,wb])
 |(refine Fq ?_;first|exact e9|fail)
 |fail)
  have hFl:=hF.len
  rw [hFl]
  refine call_genQ (s140 N F n hg hF (by omega) _) ?_
  rintro _ _ ⟨rfl,F2,ext,rfl,hF2⟩
  simp (disch:=try exact Dl) only[Kl,seval,reduceCtorEq]
  refine d_lo (fun p:Nat × List Int=>⟨[(4,.int .i64 N.doms.l.length),(5,.vec 0 1 0 n),(22,N.doms.v),(23,.int .i64 N.doms.l.length),(24,.int .i64 p.1)],[some ⟨3,p.2.map (AV.int .i64),true⟩]⟩) (fun p=>p.1≤N.doms.l.length∧FOk p.2 n) (fun p=>N.doms.l.length - p.1) ?_ ?_
  ·simp (disch:=try exact Dl) only[Kl,seval,reduceCtorEq]
   exact⟨(0,F2),rfl,Nat.zero_le _,hF2⟩
  rintro ⟨k,G⟩ ⟨hk,hG⟩
  simp only at hk hG ⊢
  unfold c69b0
  by_cases hlt:k < N.doms.l.length
  ·by_cases h0:(nth N.doms.l k).peers.l.length=0
   ·have h0':((nth N.doms.l k).peers.l.length:Int)=0:=by omega
    repeat' (first
 |simp (disch:=try exact Dl) only[Kl,h0',seval,reduceCtorEq]
 |with_reducible refine e8 ?_
 |(refine Fq ?_;first|exact e9|fail)
 |fail)
    exact⟨(k+1,G),rfl,⟨by simp only; omega,hG⟩,by simp only; omega⟩
   ·have h0':¬((nth N.doms.l k).peers.l.length:Int)=0:=by omega
    simp (disch:=try exact Dl) only[Kl,h0',seval,reduceCtorEq]
    refine⟨by omega,?_⟩
    refine Al (s141 (nth N.doms.l k).peers (by omega)) ?_
    rintro _ ⟨x,rfl,hx⟩
    simp only[vl,ts,wb]
    simp (disch:=try exact Dl) only[Kl,seval,reduceCtorEq]
    have hpx:=good_peer hg (k:=k) (x:=x) ⟨by omega,by omega⟩ hx
    obtain ⟨m,hm⟩:∃ m:Nat,min (k:Int) x=m:=⟨(min (k:Int) x).toNat,by omega⟩
    have hm2:m≤k:=by omega
    simp (disch:=try exact Dl) only[Kl,hm,seval,reduceCtorEq]
    refine call_genQ (s142 G n k (N.doms.l.length+m) hG (by omega) (by omega) rfl) ?_
    rintro _ _ ⟨_ | _,rfl,G3,rfl,hG3⟩
    ·repeat' (first
 |simp (disch:=try exact Dl) only[Kl,seval,reduceCtorEq]
 |with_reducible refine e8 ?_
 |(refine Fq ?_;first|exact⟨_,_,rfl⟩|exact e9|fail)
 |fail)
    ·repeat' (first
 |simp (disch:=try exact Dl) only[Kl,seval,reduceCtorEq]
 |with_reducible refine e8 ?_
 |(refine Fq ?_;first|exact e9|fail)
 |fail)
     exact⟨(k+1,G3),rfl,⟨by simp only; omega,hG3⟩,by simp only; omega⟩
  ·repeat' (first
 |simp (disch:=try exact Dl) only[Kl,seval,reduceCtorEq]
 |with_reducible refine e8 ?_
 |(refine Fq ?_;first|exact⟨_,_,rfl⟩|exact e9|fail)
 |fail)
 ·repeat' (first
 |simp (disch:=try exact Dl) only[Kl,hg,seval,reduceCtorEq]
 |with_reducible refine e8 ?_
 |(refine Al (s72 _) ?_;rintro _ rfl;all_goals simp only[vl,ts,wb])
 |(refine Fq ?_;first|exact⟨_,_,rfl⟩|exact e9|fail)
 |fail)
end Go.Proofs
set_option maxHeartbeats 4000000
set_option maxRecDepth 100000
namespace Go.Proofs
open Go Go.Pv Go.Proofs.Tx
variable [Lq]
open W
open Classical
structure SuOk(x:Su):Prop where
 e:okE x.e
 good:x.e=0→Good x.n∧CostOk x.n
theorem s36(x:Su)(hx:∀ l,l∈x.lines.l→LnS l)(hn:CostOk x.n){hp:Hp}{i:Nat}(h:ent hp i=some ⟨86,[x.v],true⟩) :
  ∃ r H',Gen Tryz.prog 36 [.eptr i 0 0] hp r H' ∧(r=.tup []∧∃ y:Su,∃ ext,H'=hp.set i (some ⟨86,[y.v],true⟩) ++ ext∧y.d=x.d∧y.m=x.m∧SuOk y):=by
 have hl:=entlt h
 have h':=fun l=>ent_ap h l
 have hL:=x.lines.n
 refine gen_w (c:=c36 false) [] 1 (by kernel_rfl) (by kernel_rfl) (Nat.le_refl 1) ?_
 unfold c36
 simp (disch:=try exact Dn) only[Kn,h,seval,reduceCtorEq]
 refine d_lo (fun p:Nat × Su × Hp=>⟨[(0,.eptr i 0 0),(9,x.lines.v),(10,.int .i64 x.lines.l.length),(11,.int .i64 p.1)],hp.set i (some ⟨86,[p.2.1.v],true⟩) ++ p.2.2⟩) (fun p=>p.1≤x.lines.l.length∧p.2.1.d=x.d∧p.2.1.m=x.m∧CostOk p.2.1.n) (fun p=>x.lines.l.length - p.1) ?_ ?_
 ·simp (disch:=try exact Dn) only[Kn,seval,reduceCtorEq]
  exact⟨(0,x,[]),by simp only[ent_same h,List.append_nil]; rfl,Nat.zero_le _,rfl,rfl,hn⟩
 clear hn
 rintro ⟨k,y,ext⟩ ⟨hk,hd,hm,hc⟩
 simp only at hk hd hm hc ⊢
 unfold c36b0
 by_cases hlt:k < x.lines.l.length
 ·have hLn:=hx _ (nth_mem hlt)
  generalize hgl:nth x.lines.l k=ln at hLn
  simp (disch:=try exact Dn) only[Kn,hgl,hl,seval,reduceCtorEq]
  refine⟨⟨by omega,by omega⟩,?_⟩
  refine An (s67 y.n ln hLn) ?_
  rintro _ ⟨M,e,rfl,he,hcM⟩
  simp only[vl,ts,wb]
  simp (disch:=try exact Dn) only[Kn,hl,seval,reduceCtorEq]
  refine condC_d (fun h0=>?_) (fun h0=>?_)
  ·simp (disch:=try exact Dn) only[Kn,hl,seval,reduceCtorEq]
   exact⟨_,_,rfl,hd,hm,he,fun h=>absurd h h0⟩
  ·simp (disch:=try exact Dn) only[Kn,hl,seval,reduceCtorEq]
   exact⟨(k+1,_,_),rfl,⟨by simp only; omega,hd,hm,hcM hc⟩,by simp only; omega⟩
 ·simp (disch:=try exact Dn) only[Kn,hl,seval,reduceCtorEq]
  refine An (s68 y.n) ?_
  rintro _ ⟨M,a,e,rfl,he,hg,hcM⟩
  simp only[vl,ts,wb]
  simp (disch:=try exact Dn) only[Kn,hl,seval,reduceCtorEq]
  refine condC_d (fun h0=>?_) (fun h0=>?_)
  ·simp (disch:=try exact Dn) only[Kn,hl,seval,reduceCtorEq]
   exact⟨_,_,rfl,hd,hm,he,fun h=>absurd h h0⟩
  ·simp (disch:=try exact Dn) only[Kn,hl,seval,reduceCtorEq]
   refine An (s69 M) ?_
   rintro _ ⟨a2,b,rfl⟩
   simp only[vl,ts,wb]
   cases b
   ·simp (disch:=try exact Dn) only[Kn,hl,seval,reduceCtorEq]
    exact⟨_,_,rfl,hd,hm,he,fun h=>⟨hg h,hcM hc⟩⟩
   ·simp (disch:=try exact Dn) only[Kn,hl,seval,reduceCtorEq]
    exact⟨_,_,rfl,hd,hm,show okE 38 from⟨by decide,by decide⟩,fun h=>absurd (show(38:Int)=0 from h) (by decide)⟩
theorem s17(x:Su)(hx:∀ l,l∈x.lines.l→LnS l)(hn:CostOk x.n)(hd:x.d=0)(hm:x.m=0){hp:Hp}{i:Nat}(h:ent hp i=some ⟨86,[x.v],true⟩) :
  ∃ r H',Gen Tryz.prog 17 [.eptr i 0 0] hp r H' ∧(∃ y:Su,SuOk y∧r=.tup [y.n.v,.int .i64 y.row,.int .i64 y.e]∧∃ z:Su,∃ ext,H'=hp.set i (some ⟨86,[z.v],true⟩) ++ ext):=by
 have hl:=entlt h
 have h':=fun l=>ent_ap h l
 obtain ⟨d,m,z,lines,n,row,e⟩:=x
 simp only at hd hm
 subst hd hm
 refine gen_w (c:=c17 false) [.c 2 8 true,.t 3,.t 4] 1 (by kernel_rfl) (by kernel_rfl) (Nat.le_refl 1) ?_
 unfold c17
 simp (disch:=try exact Dn) only[Kn,h',seval,reduceCtorEq]
 obtain ⟨H0,hH0⟩:∃ H0,H0=hp ++ [some ⟨40,[(default:Nt).v],true⟩]:=⟨_,rfl⟩
 have hl0:i < H0.length:=by rw [hH0,List.length_append]; omega
 obtain ⟨r,H2,hg,rfl,y,ext,rfl,hyd,hym,hy⟩:=s36 (Su.mk 0 1 z lines n row e) hx hn (hp:=H0.set i (some ⟨86,[Su.v ⟨0,1,z,lines,n,row,e⟩],true⟩)) (i:=i) (entset hl0)
 rw [set_set] at hg
 obtain ⟨yd,ym,yz,yl,yn,yr,ye⟩:=y
 simp only at hyd hym
 subst hyd hym
 have hon:=Onc.once_do (hp:=H0) (id:=i) (off:=0) (f:=1000036) (caps:=[.eptr i 0 0]) (by decide) (x:=Su.v ⟨0,0,z,lines,n,row,e⟩) (by rw [hH0]; exact h' _) (Su.c_d _) (Su.c_m _) (Su.s_m _ 1) hg (by simp) (ent_sap hl0) (Su.c_d _) (Su.c_m _) (Su.s_d _ 1) (Su.s_m _ 0)
 rw [hH0] at hon
 refine call_gen hon ?_
 have hlx:i <(hp ++ [some ⟨40,[(default:Nt).v],true⟩]:Hp).length:=by rw [List.length_append]; omega
 rw [set_sap hlx,set_apl hl]
 have hne:¬ i=hp.length:=by omega
 simp (disch:=try exact Dn) only[Kn,hl,seval,reduceCtorEq]
 exact⟨⟨0,1,yz,yl,yn,yr,ye⟩,hy,rfl,_,_,rfl⟩
theorem s7(u:SL Ln Ln.v 17)(hu:∀ l,l∈u.l→LnS l):∃ r,Run Tryz.prog 7 [u.v] r∧∃ N:Nt,∃ a e,r=.tup [N.v,.int .i64 a,.int .i64 e]∧okE e ∧(e=0→Good N∧CostOk N):=by
 have hsu:(.agg [.int .u32 0,.int .i32 0,.int .u32 0,u.v,.sl 0 [] true,.sl 0 [] true,.sl 0 [] true,.sl 0 [] true,.sl 0 [] true,.sl 0 [] true,.sl 0 [] true,.sl 0 [] true,.int .i64 0,.int .i64 0]:AV)=Su.v ⟨0,0,0,u,⟨SL.nil,SL.nil,SL.nil,SL.nil,SL.nil,SL.nil,SL.nil,SL.nil⟩,0,0⟩:=by
  rw [Su.ee]; simp only[← SL.nile]
 refine run_w (c:=c7 true) [.c 2 8 true,.t 3,.t 4] 1 (by kernel_rfl) (by kernel_rfl) (Nat.le_refl 1) (by simp only[wd]) ?_
 unfold c7
 simp (disch:=try exact Dn) only[Kn,seval,reduceCtorEq]
 rw [hsu]
 refine call_genQ (s17 ⟨0,0,0,u,⟨SL.nil,SL.nil,SL.nil,SL.nil,SL.nil,SL.nil,SL.nil,SL.nil⟩,0,0⟩ hu (fun p h=>absurd h List.not_mem_nil) rfl rfl rfl) ?_
 rintro _ _ ⟨y,hy,rfl,z,ext,rfl⟩
 repeat' (first
 |simp (disch:=try exact Dn) only[Kn,seval,reduceCtorEq]
 |with_reducible refine e8 ?_
 |(refine Fn ?_;first|exact⟨_,_,_,rfl,hy.e,hy.good⟩|exact e9|fail)
 |fail)
end Go.Proofs
set_option maxHeartbeats 4000000
set_option maxRecDepth 100000
namespace Go.Proofs
open Go Go.Pv Go.Proofs.Tx
variable [Lq]
open W
open Classical
theorem mem_nth{α:Type}[Inhabited α]{l:List α}{x:α}(h:x∈l):∃ j,j < l.length∧nth l j=x:=by
 obtain ⟨j,hj⟩:=List.mem_iff_getElem?.1 h
 have hl:j < l.length:=(List.getElem?_eq_some_iff.1 hj).1
 exact⟨j,hl,by rw [nth_get hl] at hj; exact Option.some.inj hj⟩
theorem s5(u:SL Ln Ln.v 17):∃ r,Run Tryz.prog 5 [u.v] r∧∃ b,r=.bool b ∧(b=false→∀ l,l∈u.l→LnS l):=by
 have hu:=u.n
 refine run_w (c:=c5 true) [.t 2] 1 (by kernel_rfl) (by kernel_rfl) (Nat.le_refl 1) (by simp only[wd]) ?_
 unfold c5
 simp (disch:=try exact Dk) only[Kk,seval,reduceCtorEq]
 refine condC_d (fun h0=>?_) (fun h0=>?_)
 ·repeat' (first
 |simp (disch:=try exact Dk) only[Kk,seval,reduceCtorEq]
 |(with_reducible apply condC_d)<;>intro _
 |with_reducible refine e8 ?_
 |(refine Fk ?_;first|exact⟨_,rfl,fun h=>absurd h.symm Bool.false_ne_true⟩|exact e9|fail)
 |fail)
 simp (disch:=try exact Dk) only[Kk,seval,reduceCtorEq]
 refine d_lo (fun p:Nat × Int=>⟨[(0,u.v),(3,.int .i64 p.2),(4,.int .i64 p.1)],[]⟩) (fun p=>p.1≤u.l.length ∧(0≤p.2∧p.2≤2700 * p.1)∧∀ j,j < p.1→LnS (nth u.l j)) (fun p=>u.l.length - p.1) ?_ ?_
 ·simp (disch:=try exact Dk) only[Kk,seval,reduceCtorEq]
  exact⟨(0,0),rfl,Nat.zero_le _,⟨Int.le_refl _,by simp only; omega⟩,fun j hj=>absurd hj (Nat.not_lt_zero _)⟩
 rintro ⟨k,n⟩ ⟨hk,⟨hn0,hn⟩,hall⟩
 simp only at hk hn0 hn hall ⊢
 unfold c5b0
 by_cases hlt:k < u.l.length
 ·generalize hgl:nth u.l k=l
  obtain ⟨L,hL⟩:∃ L:List Int,L=[(l.dev.length:Int),l.port.length,l.peer.length,l.far.length,l.name.length,l.tagged.l.length,l.imports.l.length,l.exports.l.length,l.addrs.l.length]:=⟨_,rfl⟩
  have hL9:L.length=9:=by rw [hL]; rfl
  have hL0:∀ j,j < 9→0≤nth L j:=fun j hj=>by
   rw [hL]
   match j,hj with
   | 0,_ | 1,_ | 2,_ | 3,_ | 4,_ | 5,_ | 6,_ | 7,_ | 8,_=>exact Int.natCast_nonneg _
  have hK:0 ≤(k:Int) ∧(k:Int) < u.l.length:=⟨by omega,by omega⟩
  simp (disch:=try exact Dk) only[Kk,hgl,hK,and_self,true_and,seval,reduceCtorEq]
  refine d_lo (fun p:Nat × Int=>⟨[(0,u.v),(3,.int .i64 p.2),(4,.int .i64 k),(70,.vec 0 1 0 9),(71,.int .i64 9),(72,.int .i64 p.1)],[some ⟨3,L.map (AV.int .i64),true⟩]⟩) (fun p=>p.1≤9 ∧(0≤p.2∧p.2≤2700 * k+300 * p.1)∧∀ j,j < p.1→nth L j≤300) (fun p=>9 - p.1) ?_ ?_
  ·simp (disch:=try exact Dk) only[Kk,seval,reduceCtorEq]
   exact⟨(0,n),by rw [hL]; rfl,Nat.zero_le _,⟨hn0,by simp only; omega⟩,fun j hj=>absurd hj (Nat.not_lt_zero _)⟩
  rintro ⟨j,m⟩ ⟨hj,⟨hm0,hm⟩,hal⟩
  simp only at hj hm0 hm hal ⊢
  unfold c5b1
  by_cases hlt2:j < 9
  ·have h0:=hL0 j hlt2
   by_cases h3:nth L j≤300
   ·simp (disch:=try exact Dk) only[Kk,hL9,seval,reduceCtorEq]
    refine⟨by omega,?_⟩
    exact⟨hlt2,(j+1,m+nth L j),rfl,⟨by simp only; omega,⟨by simp only; omega,by simp only; omega⟩,fun i hi=>by
     rcases Nat.lt_or_ge i j with h | h
     ·exact hal i h
     ·rw [show i=j by simp only at hi; omega]; exact h3⟩,by simp only; omega⟩
   ·simp (disch:=try exact Dk) only[Kk,hL9,seval,reduceCtorEq]
    refine⟨by omega,?_⟩
    repeat' (first
 |simp (disch:=try exact Dk) only[Kk,hL9,seval,reduceCtorEq]
 |(with_reducible apply condC_d)<;>intro _
 |with_reducible refine e8 ?_
 |(refine Fk ?_;first|exact⟨_,rfl,fun h=>absurd h.symm Bool.false_ne_true⟩|exact e9|fail)
 |fail)
  ·obtain rfl:j=9:=by omega
   simp (disch:=try exact Dk) only[Kk,hL9,seval,reduceCtorEq]
   have hS:LnS (nth u.l k):=by
    rw [hgl]
    have a0:=hal 0 (by decide)
    have a1:=hal 1 (by decide)
    have a2:=hal 2 (by decide)
    have a3:=hal 3 (by decide)
    have a4:=hal 4 (by decide)
    rw [hL] at a0 a1 a2 a3 a4
    have a0:(l.dev.length:Int)≤300:=a0
    have a1:(l.port.length:Int)≤300:=a1
    have a2:(l.peer.length:Int)≤300:=a2
    have a3:(l.far.length:Int)≤300:=a3
    have a4:(l.name.length:Int)≤300:=a4
    exact⟨by omega,by omega,by omega,by omega,by omega⟩
   exact⟨(k+1,m),rfl,⟨by simp only; omega,⟨hm0,by simp only; omega⟩,fun i hi=>by
    rcases Nat.lt_or_ge i k with h | h
    ·exact hall i h
    ·rw [show i=k by simp only at hi; omega]; exact hS⟩,by simp only; omega⟩
 ·have hkk:u.l.length≤k:=by omega
  repeat' (first
 |simp (disch:=try exact Dk) only[Kk,seval,reduceCtorEq]
 |(with_reducible apply condC_d)<;>intro _
 |with_reducible refine e8 ?_
 |(refine Fk ?_;first|exact⟨_,rfl,fun _ l hl=>(mem_nth hl).elim fun j h=>h.2 ▸ hall j (Nat.lt_of_lt_of_le h.1 hkk)⟩|exact e9|fail)
 |fail)
theorem s6(u:SL Sp Sp.v 6):∃ r,Run Tryz.prog 6 [u.v] r∧∃ b,r=.bool b ∧(b=false→u.l.length≤60∧∀ s,s∈u.l→s.bytes.l.length≤2000):=by
 have hu:=u.n
 refine run_w (c:=c6 true) [.t 2] 1 (by kernel_rfl) (by kernel_rfl) (Nat.le_refl 1) (by simp only[wd]) ?_
 unfold c6
 simp (disch:=try exact Dk) only[Kk,seval,reduceCtorEq]
 refine condC_d (fun h0=>?_) (fun h0=>?_)
 ·repeat' (first
 |simp (disch:=try exact Dk) only[Kk,seval,reduceCtorEq]
 |(with_reducible apply condC_d)<;>intro _
 |with_reducible refine e8 ?_
 |(refine Fk ?_;first|exact⟨_,rfl,fun h=>absurd h.symm Bool.false_ne_true⟩|exact e9|fail)
 |fail)
 simp (disch:=try exact Dk) only[Kk,seval,reduceCtorEq]
 refine d_lo (fun p:Nat=>⟨[(0,u.v),(3,.int .i64 p)],[]⟩) (fun p=>p≤u.l.length∧∀ j,j < p →(nth u.l j).bytes.l.length≤2000) (fun p=>u.l.length - p) ?_ ?_
 ·simp (disch:=try exact Dk) only[Kk,seval,reduceCtorEq]
  exact⟨0,rfl,Nat.zero_le _,fun j hj=>absurd hj (Nat.not_lt_zero _)⟩
 rintro k ⟨hk,hall⟩
 unfold c6b0
 by_cases hlt:k < u.l.length
 ·by_cases h1:(nth u.l k).bytes.l.length≤2000
  ·by_cases h2:(nth u.l k).up.l.length≤60
   ·repeat' (first
 |simp (disch:=try exact Dk) only[Kk,seval,reduceCtorEq]
 |(with_reducible apply condC_d)<;>intro _
 |with_reducible refine e8 ?_
 |exact⟨k+1,rfl,⟨by omega,fun j hj=>if h:j < k then hall j h else(show j=k by omega) ▸ h1⟩,by omega⟩
 |(refine Fk ?_;first|exact e9|fail)
 |fail)
   ·repeat' (first
 |simp (disch:=try exact Dk) only[Kk,seval,reduceCtorEq]
 |(with_reducible apply condC_d)<;>intro _
 |with_reducible refine e8 ?_
 |(refine Fk ?_;first|exact⟨_,rfl,fun h=>absurd h.symm Bool.false_ne_true⟩|exact e9|fail)
 |fail)
  ·repeat' (first
 |simp (disch:=try exact Dk) only[Kk,seval,reduceCtorEq]
 |(with_reducible apply condC_d)<;>intro _
 |with_reducible refine e8 ?_
 |(refine Fk ?_;first|exact⟨_,rfl,fun h=>absurd h.symm Bool.false_ne_true⟩|exact e9|fail)
 |fail)
 ·have hkk:u.l.length≤k:=by omega
  have h60:u.l.length≤60:=by omega
  repeat' (first
 |simp (disch:=try exact Dk) only[Kk,seval,reduceCtorEq]
 |(with_reducible apply condC_d)<;>intro _
 |with_reducible refine e8 ?_
 |(refine Fk ?_;first|exact⟨_,rfl,fun _=>⟨h60,fun l hl=>(mem_nth hl).elim fun j h=>h.2 ▸ hall j (Nat.lt_of_lt_of_le h.1 hkk)⟩⟩|exact e9|fail)
 |fail)
end Go.Proofs
