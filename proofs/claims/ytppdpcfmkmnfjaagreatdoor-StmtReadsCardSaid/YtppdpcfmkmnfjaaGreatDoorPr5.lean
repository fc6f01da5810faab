/- The proofs of what the functions of this seat do. -/
import Derived.Test.YtppdpcfmkmnfjaaGreatDoorPr4
import Derived.Below
import Derived.Lib.Join
import Derived.Shelf.Strings.OnBuilder
set_option linter.unusedSimpArgs false
set_option linter.unusedVariables false
set_option maxHeartbeats 2000000
set_option maxRecDepth 20000
namespace Go.Proofs
namespace Mc
open Go.Pv
def num (s : List UInt8) : Nat → Int
 | 0=>0
 | k + 1=>num s k * 256 + (dg s[3 * k]! * 16 + dg s[3 * k + 1]!)
def okR (s : List UInt8) (k : Nat) : Prop:=∀ i, i < k → dg s[3 * i]! ≤ 15 ∧ dg s[3 * i + 1]! ≤ 15 ∧ (i + 1 < 6 → s[3 * i + 2]!.toNat = 58)
theorem dg_b (c : UInt8) : 0 ≤ dg c ∧ dg c ≤ 16:=by
 have:=c.toNat_lt
 unfold dg; split
 ·omega
 ·split <;> omega
theorem num_b (s : List UInt8) (k : Nat) (h : okR s k) : 0 ≤ num s k ∧ num s k < 256 ^ k:=by
 induction k with
 | zero=>simp [num]
 | succ k ih =>
  have h1:=ih (fun i hi=>h i (by omega))
  have h2:=h k (by omega)
  have d1:=dg_b s[3 * k]!
  have d2:=dg_b s[3 * k + 1]!
  rw [num, Int.pow_succ]
  generalize (256 : Int) ^ k = q at *
  omega
theorem num_s (s : List UInt8) (k : Nat) (hk : k < 6) (h : okR s k) : 0 ≤ num s k ∧ num s k < 1099511627776:=by
 have h1:=num_b s k h
 have : (256 : Int) ^ k ≤ 256 ^ 5:=by exact_mod_cast Nat.pow_le_pow_right (by decide) (by omega)
 omega
open Classical in
noncomputable def rdm (s : List UInt8) : Int × Bool:=if s.length = 17 ∧ okR s 6 then (num s 6, true) else (0, false)
theorem str_get {s : List UInt8} {k : Nat} (h : k < s.length) : Option.map bv (s[k]?) = some (.int .u8 (s[k]!).toNat):=by
 rw [List.getElem?_eq_getElem h, List.getElem!_eq_getElem?_getD, List.getElem?_eq_getElem h]; rfl
theorem or_u64_4 {a b : Int} (ha : 0 ≤ a) (ha' : a < 18446744073709551616) (hb : 0 ≤ b) (hb' : b < 16) (hd : a % 16 = 0) : or2 .u64 a b = a + b :=
 or2_un (j:=4) rfl ha ha' hb hb' (by decide) hd
theorem read_run (s : List UInt8) (hm : s.length ≤ maxLen) : Run Tryz.prog 65 [.str s] (.tup [.int .u64 (rdm s).1, .bool (rdm s).2]):=by
 unfold maxLen at hm
 refine Tryz.run65 (by simp) ?_
 unfold Tryz.c65
 simp (disch:=first|omega|(simp only[pvl] at *;omega)) only [↓pvd,pva,pvr,bin2,binB2,un1,setCells,List.map,seval,reduceCtorEq]
 refine condP_d (fun hl=>?_) (fun hl=>?_)
 ·have e : rdm s = (0, false):=by unfold rdm; rw [if_neg]; rintro ⟨h1, _⟩; omega
  rw [e]
  simp (disch:=first|omega|(simp only[pvl] at *;omega)) only [↓pvd,pva,pvr,bin2,binB2,un1,setCells,List.map,seval,reduceCtorEq]
  (refine Ends_rq [] ?_; simp (disch:=first|omega|(simp only[pvl];omega)) only [↓pvd,pva,pvr,bin2,binB2,un1,setCells,List.map,seval,reduceCtorEq]; exact ⟨_,rfl,rfl,rfl⟩)
 have hl' : s.length = 17:=by omega
 simp (disch:=first|omega|(simp only[pvl] at *;omega)) only [↓pvd,pva,pvr,bin2,binB2,un1,setCells,List.map,seval,reduceCtorEq]
 refine aw_loop (fun k : Nat=>⟨[(0, .str s), (4, .int .u64 (num s k)), (11, .int .i64 k)], []⟩) (fun k=>k ≤ 6 ∧ okR s k) (fun k=>6 - k) 0 ?_ ⟨by omega, fun i hi=>by omega⟩ ?_
 ·simp (disch:=first|omega|(simp only[pvl] at *;omega)) only [↓pvd,pva,pvr,bin2,binB2,un1,setCells,List.map,seval,reduceCtorEq]
  rfl
 intro k ⟨hk, hok⟩
 unfold Tryz.c65b0
 simp (disch:=first|omega|(simp only[pvl] at *;omega)) only [↓pvd,pva,pvr,bin2,binB2,un1,setCells,List.map,seval,reduceCtorEq]
 refine condP_d (fun hc=>?_) (fun hc=>?_)
 ·have hn:=num_s s k (by omega) hok
  have d1:=dg_b s[3 * k]!
  have d2:=dg_b s[3 * k + 1]!
  have g1:=digit_run s[3 * k]!
  have g2:=digit_run s[3 * k + 1]!
  simp (disch:=first|omega|(simp only[pvl];omega)) only [↓pvd,pva,pvr,bin2,binB2,un1,setCells,List.map,seval,reduceCtorEq,str_get]
  refine awR_callD g1 rfl rfl (fun _=>rfl) ?_
  simp (disch:=first|omega|(simp only[pvl] at *;omega)) only [↓pvd,pva,pvr,bin2,binB2,un1,setCells,List.map,seval,reduceCtorEq]
  refine awR_callD g2 rfl rfl (fun _=>rfl) ?_
  simp (disch:=first|omega|(simp only[pvl] at *;omega)) only [↓pvd,pva,pvr,bin2,binB2,un1,setCells,List.map,seval,reduceCtorEq]
  have hno : ¬ (dg s[3 * k]! ≤ 15 ∧ dg s[3 * k + 1]! ≤ 15 ∧ (k + 1 < 6 → s[3 * k + 2]!.toNat = 58)) → rdm s = (0, false):=by
   intro hx
   unfold rdm; rw [if_neg]; rintro ⟨_, h2⟩; exact hx (h2 k (by omega))
  have hyes : (dg s[3 * k]! ≤ 15 ∧ dg s[3 * k + 1]! ≤ 15 ∧ (k + 1 < 6 → s[3 * k + 2]!.toNat = 58)) → okR s (k + 1):=by
   intro hx i hi
   by_cases h : i < k
   ·exact hok i h
   ·have : i = k:=by omega
    subst this; exact hx
  have hns : num s (k + 1) = num s k * 256 + (dg s[3 * k]! * 16 + dg s[3 * k + 1]!):=rfl
  generalize dg s[3 * k]! = x at *
  generalize dg s[3 * k + 1]! = y at *
  generalize num s k = n at *
  generalize hn' : num s (k + 1) = n' at *
  have tk : (3 * (k : Int) + 2).toNat = 3 * k + 2:=by omega
  repeat' (first | simp (disch:=first|omega|(simp only[pvl];omega)) only [↓pvd,pva,pvr,bin2,binB2,un1,setCells,List.map,seval,reduceCtorEq,str_get,or_u64_4] | (with_reducible first|refine condP_d (fun _=>?_) (fun _=>?_)|refine guardP_d0 (fun _=>?_) (fun _=>?_)|refine guardP_d1 (fun _=>?_) (fun _=>?_)|refine condP_any ?_ ?_))
  all_goals simp only [tk] at *
  all_goals first
   | (rw [hno (by omega)]; (refine Ends_rq [] ?_; simp (disch:=first|omega|(simp only[pvl];omega)) only [↓pvd,pva,pvr,bin2,binB2,un1,setCells,List.map,seval,reduceCtorEq]; exact ⟨_,rfl,rfl,rfl⟩); done)
   | (refine ⟨k + 1, ?_, ⟨by omega, hyes (by omega)⟩, by omega⟩
      rw [hn', hns]
      simp only [St.mk.injEq,List.cons.injEq,Prod.mk.injEq,AV.int.injEq,and_true,true_and]
      omega)
 ·have : k = 6:=by omega
  subst this
  have e : rdm s = (num s 6, true):=by unfold rdm; rw [if_pos ⟨hl', hok⟩]
  rw [e]
  simp (disch:=first|omega|(simp only[pvl] at *;omega)) only [↓pvd,pva,pvr,bin2,binB2,un1,setCells,List.map,seval,reduceCtorEq]
  (refine Ends_rq [] ?_; simp (disch:=first|omega|(simp only[pvl];omega)) only [↓pvd,pva,pvr,bin2,binB2,un1,setCells,List.map,seval,reduceCtorEq]; exact ⟨_,rfl,rfl,rfl⟩)
/-! The reference's. -/
def de (c : UInt8) : Int:=if dg c ≤ 15 then dg c else 0
def rn (s : List UInt8) : Nat → Int
 | 0=>0
 | k + 1=>if k % 3 ≠ 2 then rn s k * 16 + de s[k]! else rn s k
theorem hx_de (c : UInt8) : hx (de c) = c ↔ dg c ≤ 15:=by
 have h : ∀ x : Fin 256, hx (de (UInt8.ofNat x)) = UInt8.ofNat x ↔ dg (UInt8.ofNat x) ≤ 15:=by decide +kernel
 have:=h ⟨c.toNat, c.toNat_lt⟩
 simpa using this
theorem de_b (c : UInt8) : 0 ≤ de c ∧ de c ≤ 15:=by
 have:=dg_b c
 unfold de; split <;> omega
theorem list17 {s : List UInt8} (h : s.length = 17) : ∃ c0 c1 c2 c3 c4 c5 c6 c7 c8 c9 c10 c11 c12 c13 c14 c15 c16, s = [c0, c1, c2, c3, c4, c5, c6, c7, c8, c9, c10, c11, c12, c13, c14, c15, c16]:=by
 rcases s with _ | ⟨c0, _ | ⟨c1, _ | ⟨c2, _ | ⟨c3, _ | ⟨c4, _ | ⟨c5, _ | ⟨c6, _ | ⟨c7, _ | ⟨c8, _ | ⟨c9, _ | ⟨c10, _ | ⟨c11, _ | ⟨c12, _ | ⟨c13, _ | ⟨c14, _ | ⟨c15, _ | ⟨c16, _ | ⟨c17, s⟩⟩⟩⟩⟩⟩⟩⟩⟩⟩⟩⟩⟩⟩⟩⟩⟩⟩
 all_goals first
  | exact ⟨_, _, _, _, _, _, _, _, _, _, _, _, _, _, _, _, _, rfl⟩
  | (simp at h; done)
theorem rn_tx (s : List UInt8) (h : s.length = 17) : tx (rn s 17) = s ↔ okR s 6:=by
 obtain ⟨c0, c1, c2, c3, c4, c5, c6, c7, c8, c9, c10, c11, c12, c13, c14, c15, c16, rfl⟩:=list17 h
 have e : rn [c0, c1, c2, c3, c4, c5, c6, c7, c8, c9, c10, c11, c12, c13, c14, c15, c16] 17 =
  ((((((((((de c0 * 16 + de c1) * 16 + de c3) * 16 + de c4) * 16 + de c6) * 16 + de c7) * 16 + de c9) * 16 + de c10) * 16 + de c12) * 16 + de c13) * 16 + de c15) * 16 + de c16:=by
  simp [rn]
 rw [e]
 have b0:=de_b c0
 have b1:=de_b c1
 have b3:=de_b c3
 have b4:=de_b c4
 have b6:=de_b c6
 have b7:=de_b c7
 have b9:=de_b c9
 have b10:=de_b c10
 have b12:=de_b c12
 have b13:=de_b c13
 have b15:=de_b c15
 have b16:=de_b c16
 have x0:=hx_de c0
 have x1:=hx_de c1
 have x3:=hx_de c3
 have x4:=hx_de c4
 have x6:=hx_de c6
 have x7:=hx_de c7
 have x9:=hx_de c9
 have x10:=hx_de c10
 have x12:=hx_de c12
 have x13:=hx_de c13
 have x15:=hx_de c15
 have x16:=hx_de c16
 have ho : okR [c0, c1, c2, c3, c4, c5, c6, c7, c8, c9, c10, c11, c12, c13, c14, c15, c16] 6 ↔ ((dg c0 ≤ 15 ∧ dg c1 ≤ 15 ∧ c2.toNat = 58) ∧ (dg c3 ≤ 15 ∧ dg c4 ≤ 15 ∧ c5.toNat = 58) ∧ (dg c6 ≤ 15 ∧ dg c7 ≤ 15 ∧ c8.toNat = 58) ∧ (dg c9 ≤ 15 ∧ dg c10 ≤ 15 ∧ c11.toNat = 58) ∧ (dg c12 ≤ 15 ∧ dg c13 ≤ 15 ∧ c14.toNat = 58) ∧ (dg c15 ≤ 15 ∧ dg c16 ≤ 15)):=by
  constructor
  ·intro k
   have k0:=k 0 (by omega)
   have k1:=k 1 (by omega)
   have k2:=k 2 (by omega)
   have k3:=k 3 (by omega)
   have k4:=k 4 (by omega)
   have k5:=k 5 (by omega)
   simp at k0 k1 k2 k3 k4 k5
   exact ⟨k0, k1, k2, k3, k4, k5⟩
  ·rintro ⟨k0, k1, k2, k3, k4, k5⟩ i hi
   have hi' : i = 0 ∨ i = 1 ∨ i = 2 ∨ i = 3 ∨ i = 4 ∨ i = 5:=by omega
   rcases hi' with rfl | rfl | rfl | rfl | rfl | rfl
   ·simpa using k0
   ·simpa using k1
   ·simpa using k2
   ·simpa using k3
   ·simpa using k4
   ·simpa using k5
 rw [ho, ← x0, ← x1, ← x3, ← x4, ← x6, ← x7, ← x9, ← x10, ← x12, ← x13, ← x15, ← x16]
 clear ho x0 x1 x3 x4 x6 x7 x9 x10 x12 x13 x15 x16 e h
 generalize de c0 = d0 at *
 generalize de c1 = d1 at *
 generalize de c3 = d3 at *
 generalize de c4 = d4 at *
 generalize de c6 = d6 at *
 generalize de c7 = d7 at *
 generalize de c9 = d9 at *
 generalize de c10 = d10 at *
 generalize de c12 = d12 at *
 generalize de c13 = d13 at *
 generalize de c15 = d15 at *
 generalize de c16 = d16 at *
 generalize hn : ((((((((((d0 * 16 + d1) * 16 + d3) * 16 + d4) * 16 + d6) * 16 + d7) * 16 + d9) * 16 + d10) * 16 + d12) * 16 + d13) * 16 + d15) * 16 + d16 = n
 have q5 : n / 256 = (((((((((d0 * 16 + d1) * 16 + d3) * 16 + d4) * 16 + d6) * 16 + d7) * 16 + d9) * 16 + d10) * 16 + d12) * 16 + d13):=by omega
 have q4 : n / 65536 = (((((((d0 * 16 + d1) * 16 + d3) * 16 + d4) * 16 + d6) * 16 + d7) * 16 + d9) * 16 + d10):=by omega
 have q3 : n / 16777216 = (((((d0 * 16 + d1) * 16 + d3) * 16 + d4) * 16 + d6) * 16 + d7):=by omega
 have q2 : n / 4294967296 = (((d0 * 16 + d1) * 16 + d3) * 16 + d4):=by omega
 have q1 : n / 1099511627776 = d0 * 16 + d1:=by omega
 have e0 : n / 1099511627776 % 256 / 16 = d0:=by omega
 have e1 : n / 1099511627776 % 256 % 16 = d1:=by omega
 have e3 : n / 4294967296 % 256 / 16 = d3:=by omega
 have e4 : n / 4294967296 % 256 % 16 = d4:=by omega
 have e6 : n / 16777216 % 256 / 16 = d6:=by omega
 have e7 : n / 16777216 % 256 % 16 = d7:=by omega
 have e9 : n / 65536 % 256 / 16 = d9:=by omega
 have e10 : n / 65536 % 256 % 16 = d10:=by omega
 have e12 : n / 256 % 256 / 16 = d12:=by omega
 have e13 : n / 256 % 256 % 16 = d13:=by omega
 have e15 : n % 256 / 16 = d15:=by omega
 have e16 : n % 256 % 16 = d16:=by omega
 have k (c : UInt8) : (58 = c) = (c.toNat = 58):=by
  rw [← UInt8.toNat_inj]; apply propext; constructor <;> intro h <;> exact h.symm
 unfold tx
 simp only [e0,e1,e3,e4,e6,e7,e9,e10,e12,e13,e15,e16,List.cons.injEq,k,and_true,and_assoc]
theorem rn_num (s : List UInt8) (h : s.length = 17) (ho : okR s 6) : rn s 17 = num s 6:=by
 have k0:=ho 0 (by omega)
 have k1:=ho 1 (by omega)
 have k2:=ho 2 (by omega)
 have k3:=ho 3 (by omega)
 have k4:=ho 4 (by omega)
 have k5:=ho 5 (by omega)
 simp [rn, num, de] at *
 simp only [if_pos,k0,k1,k2,k3,k4,k5]
 omega
end Mc
end Go.Proofs
namespace Go.Proofs
namespace Mc
open Go.Pv
theorem rn_b (s : List UInt8) (k : Nat) : 0 ≤ rn s k ∧ rn s k < 16 ^ (k - k / 3):=by
 induction k with
 | zero=>simp [rn]
 | succ k ih =>
  have hd:=de_b s[k]!
  rw [rn]
  split
  ·rename_i h
   have e : k + 1 - (k + 1) / 3 = (k - k / 3) + 1:=by omega
   rw [e, Int.pow_succ]
   generalize (16 : Int) ^ (k - k / 3) = q at *
   omega
  ·rename_i h
   have e : k + 1 - (k + 1) / 3 = k - k / 3:=by omega
   rw [e]; exact ih
theorem rn_s (s : List UInt8) (k : Nat) (hk : k ≤ 17) : 0 ≤ rn s k ∧ rn s k < 281474976710656:=by
 have h1:=rn_b s k
 have : (16 : Int) ^ (k - k / 3) ≤ 16 ^ 12:=by exact_mod_cast Nat.pow_le_pow_right (by decide) (by omega)
 omega
theorem rdm_ref (s : List UInt8) (h : s.length = 17) : rdm s = if tx (rn s 17) = s then (rn s 17, true) else (0, false):=by
 unfold rdm
 by_cases ho : okR s 6
 ·rw [if_pos ⟨h, ho⟩, if_pos ((rn_tx s h).2 ho), rn_num s h ho]
 ·rw [if_neg (fun x=>ho x.2), if_neg (fun x=>ho ((rn_tx s h).1 x))]
theorem ref_read_run (s : List UInt8) (hm : s.length ≤ maxLen) : Run Tryz.prog 77 [.str s] (.tup [.int .u64 (rdm s).1, .bool (rdm s).2]):=by
 unfold maxLen at hm
 refine Tryz.run77 (by simp) ?_
 unfold Tryz.c77
 simp (disch:=first|omega|(simp only[pvl] at *;omega)) only [↓pvd,pva,pvr,bin2,binB2,un1,setCells,List.map,seval,reduceCtorEq]
 refine condP_d (fun hl=>?_) (fun hl=>?_)
 ·have e : rdm s = (0, false):=by unfold rdm; rw [if_neg]; rintro ⟨h1, _⟩; omega
  rw [e]
  simp (disch:=first|omega|(simp only[pvl] at *;omega)) only [↓pvd,pva,pvr,bin2,binB2,un1,setCells,List.map,seval,reduceCtorEq]
  (refine Ends_rq [] ?_; simp (disch:=first|omega|(simp only[pvl];omega)) only [↓pvd,pva,pvr,bin2,binB2,un1,setCells,List.map,seval,reduceCtorEq]; exact ⟨_,rfl,rfl,rfl⟩)
 have hl' : s.length = 17:=by omega
 rw [rdm_ref s hl']
 simp (disch:=first|omega|(simp only[pvl] at *;omega)) only [↓pvd,pva,pvr,bin2,binB2,un1,setCells,List.map,seval,reduceCtorEq]
 refine aw_loop (fun k : Nat=>⟨[(0, .str s), (4, .int .u64 (rn s k)), (5, .int .i64 k)], []⟩) (fun k=>k ≤ 17) (fun k=>17 - k) 0 ?_ (by omega) ?_
 ·simp (disch:=first|omega|(simp only[pvl] at *;omega)) only [↓pvd,pva,pvr,bin2,binB2,un1,setCells,List.map,seval,reduceCtorEq]
  rfl
 intro k hk
 unfold Tryz.c77b0
 simp (disch:=first|omega|(simp only[pvl] at *;omega)) only [↓pvd,pva,pvr,bin2,binB2,un1,setCells,List.map,seval,reduceCtorEq]
 refine condP_d (fun hc=>?_) (fun hc=>?_)
 ·have hn:=rn_s s k (by omega)
  have hx:=(s[k]!).toNat_lt
  have hr : rn s (k + 1) = if k % 3 ≠ 2 then rn s k * 16 + de s[k]! else rn s k:=rfl
  unfold de dg at hr
  generalize rn s k = n at *
  generalize hn' : rn s (k + 1) = n' at *
  repeat' (first | simp (disch:=first|omega|(simp only[pvl];omega)) only [↓pvd,pva,pvr,bin2,binB2,un1,setCells,List.map,seval,reduceCtorEq,str_get] | (with_reducible first|refine condP_d (fun _=>?_) (fun _=>?_)|refine guardP_d0 (fun _=>?_) (fun _=>?_)|refine guardP_d1 (fun _=>?_) (fun _=>?_)|refine condP_any ?_ ?_))
  all_goals
   refine ⟨k + 1, ?_, by omega, by omega⟩
   rw [hn']
   simp only [St.mk.injEq,List.cons.injEq,Prod.mk.injEq,AV.int.injEq,and_true,true_and]
   (try split at hr) <;> (try split at hr) <;> (try split at hr) <;> (try split at hr) <;> omega
 ·have : k = 17:=by omega
  subst this
  have hn:=rn_s s 17 (by omega)
  generalize rn s 17 = n at *
  simp (disch:=first|omega|(simp only[pvl] at *;omega)) only [↓pvd,pva,pvr,bin2,binB2,un1,setCells,List.map,seval,reduceCtorEq]
  refine awR_call (ref_text_run n (by omega) (by omega)) rfl rfl ?_
  repeat' (first | simp (disch:=first|omega|(simp only[pvl];omega)) only [↓pvd,pva,pvr,bin2,binB2,un1,setCells,List.map,seval,reduceCtorEq] | (with_reducible first|refine condP_d (fun _=>?_) (fun _=>?_)|refine guardP_d0 (fun _=>?_) (fun _=>?_)|refine guardP_d1 (fun _=>?_) (fun _=>?_)|refine condP_any ?_ ?_))
  ·rename_i ht
   first | ((refine Ends_rq [] ?_; simp (disch:=first|omega|(simp only[pvl];omega)) only [↓pvd,pva,pvr,bin2,binB2,un1,setCells,List.map,seval,reduceCtorEq]; exact ⟨_,rfl,rfl,rfl⟩); done) | (rw [if_neg ht]; (refine Ends_rq [] ?_; simp (disch:=first|omega|(simp only[pvl];omega)) only [↓pvd,pva,pvr,bin2,binB2,un1,setCells,List.map,seval,reduceCtorEq]; exact ⟨_,rfl,rfl,rfl⟩))
  ·rename_i ht
   first | ((refine Ends_rq [] ?_; simp (disch:=first|omega|(simp only[pvl];omega)) only [↓pvd,pva,pvr,bin2,binB2,un1,setCells,List.map,seval,reduceCtorEq]; exact ⟨_,rfl,rfl,rfl⟩); done) | (rw [if_pos (Classical.not_not.1 ht)]; (refine Ends_rq [] ?_; simp (disch:=first|omega|(simp only[pvl];omega)) only [↓pvd,pva,pvr,bin2,binB2,un1,setCells,List.map,seval,reduceCtorEq]; exact ⟨_,rfl,rfl,rfl⟩))
end Mc
end Go.Proofs
namespace Go.Proofs
namespace Nm
open Go.Pv
theorem str_pl (l : List UInt8) : (AV.str l).pl = true:=rfl
theorem str_nr (l : List UInt8) : (AV.str l).nr1 = true:=rfl
theorem rows_run (b : List UInt8) (f : Bool) (hb : b.length ≤ 100000) (h1 : b.length ≤ 20000) :
  Run Tryz.prog 24 [.sl 1 (bys b) f] (if 400 < (spl b).length then .tup [.sl 0 [] true, .int .i64 3] else .tup [.own 1 9 ((spl b).map .str), .int .i64 0]):=by
 have hs:=spl_le b
 refine Tryz.run24 (by simp) ?_
 unfold Tryz.c24
 simp (disch:=first|omega|(simp only[pvl] at *;omega)) only [↓pvd,pva,pvr,bin2,binB2,un1,setCells,List.map,seval,reduceCtorEq]
 refine aw_loop (fun a : List (List UInt8) × List UInt8=>⟨[(4, .vec 0 1 0 a.1.length), (5, .str a.2)], [some ⟨9, a.1.map .str, true⟩]⟩) (fun a=>a.1 ++ spl a.2 = spl b ∧ a.2.length ≤ b.length) (fun a=>a.2.length) ([], b) ?_ ⟨rfl, Nat.le_refl _⟩ ?_
 ·simp (disch:=first|omega|(simp only[pvl] at *;omega)) only [↓pvd,pva,pvr,bin2,binB2,un1,setCells,List.map,seval,reduceCtorEq]
 rintro ⟨o, r⟩ ⟨ho, hr⟩
 dsimp only at ho hr ⊢
 unfold Tryz.c24b0
 have q:=cut_run r 10 (by omega)
 by_cases he : r = []
 ·subst he
  simp only [spl,List.append_nil] at ho
  subst ho
  simp (disch:=first|omega|(simp only[pvl] at *;omega)) only [↓pvd,pva,pvr,bin2,binB2,un1,setCells,List.map,seval,reduceCtorEq]
  by_cases h4 : 400 < (spl b).length
  ·rw [if_pos h4]
   simp (disch:=first|omega|(simp only[pvl] at *;omega)) only [↓pvd,pva,pvr,bin2,binB2,un1,setCells,List.map,seval,reduceCtorEq]
   (refine Ends_rq [] ?_; simp (disch:=first|omega|(simp only[pvl];omega)) only [↓pvd,pva,pvr,bin2,binB2,un1,setCells,List.map,seval,reduceCtorEq]; exact ⟨_,rfl,rfl,rfl⟩)
  ·rw [if_neg h4]
   simp (disch:=first|omega|(simp only[pvl] at *;omega)) only [↓pvd,pva,pvr,bin2,binB2,un1,setCells,List.map,seval,reduceCtorEq]
   (refine Ends_rq [[.own 1 9], [.snap]] ?_; simp (disch:=first|omega|(simp only[pvl];omega)) only [↓pvd,pva,pvr,bin2,binB2,un1,setCells,List.map,seval,reduceCtorEq,ids_map str_pl,ren_map str_pl,mapO_map str_nr,rows_map str_nr]; exact ⟨_,rfl,rfl,rfl⟩)
 ·have h2:=spl_cut r he
  have h3:=cut_len r he
  have h5 : o.length + (spl r).length = (spl b).length:=by rw [← ho, List.length_append]
  have h6:=congrArg List.length h2
  rw [List.length_cons] at h6
  generalize cutV r 10 = cv at *
  obtain ⟨w, r2, fd⟩:=cv
  dsimp only at h2 h3 h6 q ⊢
  simp (disch:=first|omega|(simp only[pvl] at *;omega)) only [↓pvd,pva,pvr,bin2,binB2,un1,setCells,List.map,seval,reduceCtorEq]
  refine awR_call q rfl rfl ?_
  simp (disch:=first|omega|(simp only[pvl];omega)) only [↓pvd,pva,pvr,bin2,binB2,un1,setCells,List.map,seval,reduceCtorEq,ids_map str_pl,ren_map str_pl,List.flatMap_append,List.map_append]
  refine ⟨(o ++ [w], r2), ?_, ⟨?_, ?_⟩, h3⟩
  ·simp (disch:=first|omega|(simp only[pvl];omega)) only [↓pvd,pva,pvr,bin2,binB2,un1,setCells,List.map,seval,reduceCtorEq,ids_map str_pl,ren_map str_pl,List.flatMap_append,List.map_append]
   try simp
  ·rw [← ho, h2]; simp
  ·dsimp only; omega
end Nm
end Go.Proofs
namespace Go.Proofs
namespace Nm
open Go.Pv
end Nm
end Go.Proofs
namespace Go.Proofs
namespace Nm
open Go.Pv
theorem rows_big (b : List UInt8) (f : Bool) (hb : b.length ≤ 100000) (h1 : ¬ b.length ≤ 20000) :
  Run Tryz.prog 24 [.sl 1 (bys b) f] (.tup [.sl 0 [] true, .int .i64 3]):=by
 refine Tryz.run24 (by simp) ?_
 unfold Tryz.c24
 simp (disch:=first|omega|(simp only[pvl] at *;omega)) only [↓pvd,pva,pvr,bin2,binB2,un1,setCells,List.map,seval,reduceCtorEq]
 (refine Ends_rq [] ?_; simp (disch:=first|omega|(simp only[pvl];omega)) only [↓pvd,pva,pvr,bin2,binB2,un1,setCells,List.map,seval,reduceCtorEq]; exact ⟨_,rfl,rfl,rfl⟩)
end Nm
end Go.Proofs
namespace Go.Proofs
namespace Nm
open Go.Pv
def stH (w : List UInt8) (fr : Nat) : List (List UInt8) → Hp
 | []=>[some ⟨9, [.str w], true⟩, some ⟨32, [.sl 0 [] true], true⟩, some ⟨3, [.int .i64 fr], true⟩]
 | o :: r=>[some ⟨9, [.str w], true⟩, some ⟨32, [.vec 2 1 0 (o :: r).length], true⟩, some ⟨9, (o :: r).map .str, true⟩, some ⟨3, [.int .i64 fr], true⟩]
def stK : List (List UInt8) → Nat
 | []=>2
 | _ :: _=>3
theorem stK_ne {L : List (List UInt8)} (h : L ≠ []) : stK L = 3:=by
 cases L with
 | nil=>exact absurd rfl h
 | cons o r=>rfl
theorem stK_nil : stK [] = 2:=rfl
theorem str1_no (w : List UInt8) (i fr : Nat) (out : List (List UInt8)) (hw : w.length ≤ 100000) (hi : i ≤ w.length) (h : i ≤ fr) :
  Gen Tryz.prog 92 [.int .i64 i, .eptr (stK out) 0 0, .eptr 1 0 0, .eptr 0 0 0] (stH w fr out) (.tup []) (stH w (i + 1) out):=by
 refine Tryz.gen92 (by simp) ?_
 unfold Tryz.c92
 cases out with
 | nil =>
  unfold stH stK
  simp (disch:=first|omega|(simp only[pvl] at *;omega)) only [↓pvd,pva,pvr,bin2,binB2,un1,setCells,List.map,seval,reduceCtorEq]
  exact ⟨rfl, rfl⟩
 | cons o r =>
  unfold stH stK
  simp (disch:=first|omega|(simp only[pvl] at *;omega)) only [↓pvd,pva,pvr,bin2,binB2,un1,setCells,List.map,seval,reduceCtorEq]
  exact ⟨rfl, rfl⟩
theorem str1_nil (w : List UInt8) (i fr : Nat) (hw : w.length ≤ 100000) (hi : i ≤ w.length) (h : fr < i) :
  Gen Tryz.prog 92 [.int .i64 i, .eptr 2 0 0, .eptr 1 0 0, .eptr 0 0 0] (stH w fr []) (.tup [])
   ([some ⟨9, [.str w], true⟩, some ⟨32, [.vec 9 1 0 1], true⟩, some ⟨3, [.int .i64 (i + 1)], true⟩, none, none, none, none, none, some ⟨9, [.str ((w.take i).drop fr)], true⟩, some ⟨9, [.str ((w.take i).drop fr)], true⟩, none]):=by
 refine Tryz.gen92 (by simp) ?_
 unfold Tryz.c92
 unfold stH
 simp (disch:=first|omega|(simp only[pvl] at *;omega)) only [↓pvd,pva,pvr,bin2,binB2,un1,setCells,List.map,seval,reduceCtorEq]
 exact ⟨rfl, rfl⟩
theorem str1_app (w : List UInt8) (i fr : Nat) (o : List UInt8) (r : List (List UInt8)) (hw : w.length ≤ 100000) (hi : i ≤ w.length) (h : fr < i) (hr : r.length ≤ 100000) :
  Gen Tryz.prog 92 [.int .i64 i, .eptr 3 0 0, .eptr 1 0 0, .eptr 0 0 0] (stH w fr (o :: r)) (.tup [])
   ([some ⟨9, [.str w], true⟩, some ⟨32, [.vec 10 1 0 ((o :: r).length + 1)], true⟩, some ⟨9, [], false⟩, some ⟨3, [.int .i64 (i + 1)], true⟩, none, none, none, none, none, some ⟨9, [.str ((w.take i).drop fr)], true⟩, some ⟨9, (o :: r).map .str ++ [.str ((w.take i).drop fr)], true⟩, none]):=by
 refine Tryz.gen92 (by simp) ?_
 unfold Tryz.c92
 unfold stH
 simp (disch:=first|omega|(simp only[pvl] at *;omega)) only [↓pvd,pva,pvr,bin2,binB2,un1,setCells,List.map,seval,reduceCtorEq]
 exact ⟨rfl, rfl⟩
theorem stH_ne (w : List UInt8) (fr : Nat) (L : List (List UInt8)) (h : L ≠ []) : stH w fr L = [some ⟨9, [.str w], true⟩, some ⟨32, [.vec 2 1 0 L.length], true⟩, some ⟨9, L.map .str, true⟩, some ⟨3, [.int .i64 fr], true⟩]:=by
 cases L with
 | nil=>exact absurd rfl h
 | cons o r=>rfl
theorem str1_appL (w : List UInt8) (i fr : Nat) (L : List (List UInt8)) (h0 : L ≠ []) (hw : w.length ≤ 100000) (hi : i ≤ w.length) (h : fr < i) (hr : L.length ≤ 100000) :
  Gen Tryz.prog 92 [.int .i64 i, .eptr 3 0 0, .eptr 1 0 0, .eptr 0 0 0] (stH w fr L) (.tup [])
   ([some ⟨9, [.str w], true⟩, some ⟨32, [.vec 10 1 0 (L.length + 1)], true⟩, some ⟨9, [], false⟩, some ⟨3, [.int .i64 (i + 1)], true⟩, none, none, none, none, none, some ⟨9, [.str ((w.take i).drop fr)], true⟩, some ⟨9, L.map .str ++ [.str ((w.take i).drop fr)], true⟩, none]):=by
 cases L with
 | nil=>exact absurd rfl h0
 | cons o r=>exact str1_app w i fr o r hw hi h (by simp at hr; omega)
end Nm
end Go.Proofs
namespace Go.Proofs
namespace Nm
open Go.Pv
def enO (w : List UInt8) (i fr : Nat) (out : List (List UInt8)) : List (List UInt8):=if fr < i then out ++ [(w.take i).drop fr] else out
def swF (w : List UInt8) : Nat → Nat → Nat → List (List UInt8) → List (List UInt8)
 | 0, i, fr, out=>enO w i fr out
 | n + 1, i, fr, out=>if i < w.length then
   if w[i]! = 35 then enO w i fr out
   else if w[i]! = 32 ∨ w[i]! = 9 then swF w n (i + 1) (i + 1) (enO w i fr out)
   else swF w n (i + 1) fr out
  else enO w i fr out
def swV (w : List UInt8) : List (List UInt8):=swF w (w.length + 1) 0 0 []
def strR (l : List (List UInt8)) : AV:=if l = [] then .sl 0 [] true else .own 1 9 (l.map .str)
def stS (w : List UInt8) (a : Nat × Nat × List (List UInt8)) : St:=⟨[(1, .eptr 0 0 0), (3, .eptr 1 0 0), (5, .fn 92 [.eptr (stK a.2.2) 0 0, .eptr 1 0 0, .eptr 0 0 0]), (6, .int .i64 a.1)], stH w a.2.1 a.2.2⟩
end Nm
end Go.Proofs
namespace Go.Proofs
namespace Nm
open Go.Pv
theorem swF_stop (w : List UInt8) (n i fr : Nat) (out : List (List UInt8)) (h : i < w.length → w[i]! = 35) : swF w n i fr out = enO w i fr out:=by
 cases n with
 | zero=>rfl
 | succ n =>
  unfold swF
  split
  ·rw [if_pos (h ‹_›)]
  ·rfl
theorem swF_blank (w : List UInt8) (i fr : Nat) (out : List (List UInt8)) (hi : i < w.length) (h : w[i]! ≠ 35) (hb : w[i]! = 32 ∨ w[i]! = 9) : swF w (w.length + 1 - i) i fr out = swF w (w.length + 1 - (i + 1)) (i + 1) (i + 1) (enO w i fr out):=by
 rw [show w.length + 1 - i = (w.length + 1 - (i + 1)) + 1 by omega, swF, if_pos hi, if_neg h, if_pos hb]
theorem swF_other (w : List UInt8) (i fr : Nat) (out : List (List UInt8)) (hi : i < w.length) (h : w[i]! ≠ 35) (hb : ¬(w[i]! = 32 ∨ w[i]! = 9)) : swF w (w.length + 1 - i) i fr out = swF w (w.length + 1 - (i + 1)) (i + 1) fr out:=by
 rw [show w.length + 1 - i = (w.length + 1 - (i + 1)) + 1 by omega, swF, if_pos hi, if_neg h, if_neg hb]
theorem stH_nil (w : List UInt8) (fr : Nat) : stH w fr [] = [some ⟨9, [.str w], true⟩, some ⟨32, [.sl 0 [] true], true⟩, some ⟨3, [.int .i64 fr], true⟩]:=rfl
theorem u8ne {x : UInt8} {n : Nat} (h : x ≠ n.toUInt8) (hn : n < 256) : ¬((x.toNat : Int) = n):=by
 intro e
 apply h
 apply UInt8.toNat_inj.1
 simp
 omega
theorem stretches_run (w : List UInt8) (hw : w.length ≤ 50000) :
  Run Tryz.prog 57 [.str w] (strR (swV w)):=by
 refine Tryz.run57 (by simp) ?_
 unfold Tryz.c57
 simp (disch:=first|omega|(simp only[pvl] at *;omega)) only [↓pvd,pva,pvr,bin2,binB2,un1,setCells,List.map,seval,reduceCtorEq]
 refine aw_loop (stS w) (fun a=>swF w (w.length + 1 - a.1) a.1 a.2.1 a.2.2 = swV w ∧ a.1 ≤ w.length ∧ a.2.2.length ≤ a.1) (fun a=>w.length - a.1) (0, 0, []) rfl ⟨rfl, by simp, by simp⟩ ?_
 rintro ⟨i, fr, out⟩ ⟨hs, hi, hl⟩
 dsimp only at hs hi hl
 unfold stS Tryz.c57b0
 dsimp only
 by_cases h0 : out = []
 ·subst h0
  by_cases hx : i < w.length
  ·have hgi : w[i]? = some w[i]!:=by rw [getElem!_pos w i hx, List.getElem?_eq_getElem hx]
   by_cases h35 : w[i]! = 35
   ·have hq : ((w[i]!.toNat : Nat) : Int) = 35:=by rw [h35]; rfl
    rw [swF_stop w _ i fr [] (fun _=>h35)] at hs
    unfold strR
    rw [← hs]
    by_cases hf : fr < i
    ·have q:=str1_nil w i fr (by omega) hi hf
     rw [show enO w i fr [] = [(w.take i).drop fr] by unfold enO; rw [if_pos hf]; rfl, if_neg (by simp)]
     simp only [stH_nil,stK_nil] at q ⊢
     simp (disch:=first|omega|(simp only[pvl];omega)) only [↓pvd,pva,pvr,bin2,binB2,un1,setCells,List.map,seval,reduceCtorEq,hgi,bv]
     skip
     refine awR_callv rfl q (by simp) ?_
     simp (disch:=first|omega|(simp only[pvl] at *;omega)) only [↓pvd,pva,pvr,bin2,binB2,un1,setCells,List.map,seval,reduceCtorEq]
     (refine Ends_rq [[.own 1 9]] ?_; simp (disch:=first|omega|(simp only[pvl];omega)) only [↓pvd,pva,pvr,bin2,binB2,un1,setCells,List.map,seval,reduceCtorEq]; exact ⟨_,rfl,rfl,rfl⟩)
    ·have q:=str1_no w i fr [] (by omega) hi (by omega)
     rw [show enO w i fr [] = [] by unfold enO; rw [if_neg hf]]
     rw [if_pos rfl]
     simp only [stH_nil,stK_nil] at q ⊢
     simp (disch:=first|omega|(simp only[pvl];omega)) only [↓pvd,pva,pvr,bin2,binB2,un1,setCells,List.map,seval,reduceCtorEq,hgi,bv]
     skip
     refine awR_callv rfl q (by simp) ?_
     simp (disch:=first|omega|(simp only[pvl] at *;omega)) only [↓pvd,pva,pvr,bin2,binB2,un1,setCells,List.map,seval,reduceCtorEq]
     (refine Ends_rq [] ?_; simp (disch:=first|omega|(simp only[pvl];omega)) only [↓pvd,pva,pvr,bin2,binB2,un1,setCells,List.map,seval,reduceCtorEq]; exact ⟨_,rfl,rfl,rfl⟩)
   ·have h35' : ¬ ((w[i]!.toNat : Nat) : Int) = 35:=u8ne (n:=35) h35 (by omega)
    by_cases hb : w[i]! = 32 ∨ w[i]! = 9
    ·rw [swF_blank w i fr [] hx h35 hb] at hs
     by_cases hf : fr < i
     ·have q:=str1_nil w i fr (by omega) hi hf
      rw [show enO w i fr [] = [(w.take i).drop fr] by unfold enO; rw [if_pos hf]; rfl] at hs
      simp only [stH_nil,stK_nil] at q ⊢
      have hq : ((w[i]!.toNat : Nat) : Int) = 32 ∨ ((w[i]!.toNat : Nat) : Int) = 9:=by rcases hb with hb | hb <;> rw [hb] <;> simp
      rcases hq with hq | hq
      all_goals
       simp (disch:=first|omega|(simp only[pvl];omega)) only [↓pvd,pva,pvr,bin2,binB2,un1,setCells,List.map,seval,reduceCtorEq,hgi,bv]
       refine awR_callv rfl q (by simp) ?_
       simp (disch:=first|omega|(simp only[pvl];omega)) only [↓pvd,pva,pvr,bin2,binB2,un1,setCells,List.map,seval,reduceCtorEq,ids_map str_pl,ren_map str_pl]
       refine ⟨(i + 1, i + 1, [(w.take i).drop fr]), rfl, ⟨hs, ?_, ?_⟩, ?_⟩ <;> dsimp only
       ·omega
       ·simp
       ·omega
     ·have q:=str1_no w i fr [] (by omega) hi (by omega)
      rw [show enO w i fr [] = [] by unfold enO; rw [if_neg hf]] at hs
      simp only [stH_nil,stK_nil] at q ⊢
      have hq : ((w[i]!.toNat : Nat) : Int) = 32 ∨ ((w[i]!.toNat : Nat) : Int) = 9:=by rcases hb with hb | hb <;> rw [hb] <;> simp
      rcases hq with hq | hq
      all_goals
       simp (disch:=first|omega|(simp only[pvl];omega)) only [↓pvd,pva,pvr,bin2,binB2,un1,setCells,List.map,seval,reduceCtorEq,hgi,bv]
       refine awR_callv rfl q (by simp) ?_
       simp (disch:=first|omega|(simp only[pvl];omega)) only [↓pvd,pva,pvr,bin2,binB2,un1,setCells,List.map,seval,reduceCtorEq,ids_map str_pl,ren_map str_pl]
       refine ⟨(i + 1, i + 1, []), rfl, ⟨hs, ?_, ?_⟩, ?_⟩ <;> dsimp only
       ·omega
       ·simp
       ·omega
    ·rw [swF_other w i fr [] hx h35 hb] at hs
     have h32 : ¬ ((w[i]!.toNat : Nat) : Int) = 32:=u8ne (n:=32) (fun e=>hb (.inl e)) (by omega)
     have h9 : ¬ ((w[i]!.toNat : Nat) : Int) = 9:=u8ne (n:=9) (fun e=>hb (.inr e)) (by omega)
     simp only [stH_nil,stK_nil]
     simp (disch:=first|omega|(simp only[pvl];omega)) only [↓pvd,pva,pvr,bin2,binB2,un1,setCells,List.map,seval,reduceCtorEq,hgi,bv,ids_map str_pl,ren_map str_pl]
     refine ⟨(i + 1, fr, []), rfl, ⟨hs, ?_, ?_⟩, ?_⟩ <;> dsimp only
     ·omega
     ·simp
     ·omega
  ·rw [swF_stop w _ i fr [] (fun h=>absurd h hx)] at hs
   unfold strR
   rw [← hs]
   by_cases hf : fr < i
   ·have q:=str1_nil w i fr (by omega) hi hf
    rw [show enO w i fr [] = [(w.take i).drop fr] by unfold enO; rw [if_pos hf]; rfl, if_neg (by simp)]
    simp only [stH_nil,stK_nil] at q ⊢
    simp (disch:=first|omega|(simp only[pvl] at *;omega)) only [↓pvd,pva,pvr,bin2,binB2,un1,setCells,List.map,seval,reduceCtorEq]
    refine awR_callv rfl q (by simp) ?_
    simp (disch:=first|omega|(simp only[pvl] at *;omega)) only [↓pvd,pva,pvr,bin2,binB2,un1,setCells,List.map,seval,reduceCtorEq]
    (refine Ends_rq [[.own 1 9]] ?_; simp (disch:=first|omega|(simp only[pvl];omega)) only [↓pvd,pva,pvr,bin2,binB2,un1,setCells,List.map,seval,reduceCtorEq]; exact ⟨_,rfl,rfl,rfl⟩)
   ·have q:=str1_no w i fr [] (by omega) hi (by omega)
    rw [show enO w i fr [] = [] by unfold enO; rw [if_neg hf]]
    rw [if_pos rfl]
    simp only [stH_nil,stK_nil] at q ⊢
    simp (disch:=first|omega|(simp only[pvl] at *;omega)) only [↓pvd,pva,pvr,bin2,binB2,un1,setCells,List.map,seval,reduceCtorEq]
    refine awR_callv rfl q (by simp) ?_
    simp (disch:=first|omega|(simp only[pvl] at *;omega)) only [↓pvd,pva,pvr,bin2,binB2,un1,setCells,List.map,seval,reduceCtorEq]
    (refine Ends_rq [] ?_; simp (disch:=first|omega|(simp only[pvl];omega)) only [↓pvd,pva,pvr,bin2,binB2,un1,setCells,List.map,seval,reduceCtorEq]; exact ⟨_,rfl,rfl,rfl⟩)
 ·by_cases hx : i < w.length
  ·have hgi : w[i]? = some w[i]!:=by rw [getElem!_pos w i hx, List.getElem?_eq_getElem hx]
   by_cases h35 : w[i]! = 35
   ·have hq : ((w[i]!.toNat : Nat) : Int) = 35:=by rw [h35]; rfl
    rw [swF_stop w _ i fr out (fun _=>h35)] at hs
    unfold strR
    rw [← hs]
    by_cases hf : fr < i
    ·have q:=str1_appL w i fr out h0 (by omega) hi hf (by omega)
     rw [show enO w i fr out = out ++ [(w.take i).drop fr] by unfold enO; rw [if_pos hf], if_neg (by simp)]
     simp only [stH_ne w fr out h0] at q
     generalize (w.take i).drop fr = z at q ⊢
     simp only [stK_ne h0,stH_ne w fr out h0]
     simp (disch:=first|omega|(simp only[pvl];omega)) only [↓pvd,pva,pvr,bin2,binB2,un1,setCells,List.map,seval,reduceCtorEq,hgi,bv]
     skip
     refine awR_callv rfl q (by simp) ?_
     simp (disch:=first|omega|(simp only[pvl];omega)) only [↓pvd,pva,pvr,bin2,binB2,un1,setCells,List.map,seval,reduceCtorEq,ids_map str_pl,ren_map str_pl,List.flatMap_append,List.map_append]
     rw [show out.length + 1 = (out ++ [z]).length by simp, show out.map AV.str ++ [AV.str z] = (out ++ [z]).map AV.str by simp]
     generalize out ++ [z] = L2
     (refine Ends_rq [[.own 1 9]] ?_; simp (disch:=first|omega|(simp only[pvl];omega)) only [↓pvd,pva,pvr,bin2,binB2,un1,setCells,List.map,seval,reduceCtorEq,ids_map str_pl,ren_map str_pl,mapO_map str_nr,rows_map str_nr]; exact ⟨_,rfl,rfl,rfl⟩)
    ·have q:=str1_no w i fr out (by omega) hi (by omega)
     rw [show enO w i fr out = out by unfold enO; rw [if_neg hf], if_neg h0]
     simp only [stK_ne h0,stH_ne w fr out h0,stH_ne w (i + 1) out h0] at q
     simp only [stK_ne h0,stH_ne w fr out h0]
     simp (disch:=first|omega|(simp only[pvl];omega)) only [↓pvd,pva,pvr,bin2,binB2,un1,setCells,List.map,seval,reduceCtorEq,hgi,bv]
     skip
     refine awR_callv rfl q (by simp) ?_
     simp (disch:=first|omega|(simp only[pvl];omega)) only [↓pvd,pva,pvr,bin2,binB2,un1,setCells,List.map,seval,reduceCtorEq,ids_map str_pl,ren_map str_pl]
     (refine Ends_rq [[.own 1 9]] ?_; simp (disch:=first|omega|(simp only[pvl];omega)) only [↓pvd,pva,pvr,bin2,binB2,un1,setCells,List.map,seval,reduceCtorEq,ids_map str_pl,ren_map str_pl,mapO_map str_nr,rows_map str_nr]; exact ⟨_,rfl,rfl,rfl⟩)
   ·have h35' : ¬ ((w[i]!.toNat : Nat) : Int) = 35:=u8ne (n:=35) h35 (by omega)
    by_cases hb : w[i]! = 32 ∨ w[i]! = 9
    ·rw [swF_blank w i fr out hx h35 hb] at hs
     by_cases hf : fr < i
     ·have q:=str1_appL w i fr out h0 (by omega) hi hf (by omega)
      rw [show enO w i fr out = out ++ [(w.take i).drop fr] by unfold enO; rw [if_pos hf]] at hs
      simp only [stK_ne h0,stH_ne w fr out h0] at q ⊢
      have hq : ((w[i]!.toNat : Nat) : Int) = 32 ∨ ((w[i]!.toNat : Nat) : Int) = 9:=by rcases hb with hb | hb <;> rw [hb] <;> simp
      rcases hq with hq | hq
      all_goals
       simp (disch:=first|omega|(simp only[pvl];omega)) only [↓pvd,pva,pvr,bin2,binB2,un1,setCells,List.map,seval,reduceCtorEq,hgi,bv]
       refine awR_callv rfl q (by simp) ?_
       simp (disch:=first|omega|(simp only[pvl];omega)) only [↓pvd,pva,pvr,bin2,binB2,un1,setCells,List.map,seval,reduceCtorEq,ids_map str_pl,ren_map str_pl,List.flatMap_append,List.map_append]
       refine ⟨(i + 1, i + 1, out ++ [(w.take i).drop fr]), ?_, ⟨hs, ?_, ?_⟩, ?_⟩ <;> dsimp only
       ·rw [stH_ne _ _ _ (by simp), stK_ne (by simp)]
        simp
       ·omega
       ·simp; omega
       ·omega
     ·have q:=str1_no w i fr out (by omega) hi (by omega)
      rw [show enO w i fr out = out by unfold enO; rw [if_neg hf]] at hs
      simp only [stK_ne h0,stH_ne w fr out h0,stH_ne w (i + 1) out h0] at q ⊢
      have hq : ((w[i]!.toNat : Nat) : Int) = 32 ∨ ((w[i]!.toNat : Nat) : Int) = 9:=by rcases hb with hb | hb <;> rw [hb] <;> simp
      rcases hq with hq | hq
      all_goals
       simp (disch:=first|omega|(simp only[pvl];omega)) only [↓pvd,pva,pvr,bin2,binB2,un1,setCells,List.map,seval,reduceCtorEq,hgi,bv]
       refine awR_callv rfl q (by simp) ?_
       simp (disch:=first|omega|(simp only[pvl];omega)) only [↓pvd,pva,pvr,bin2,binB2,un1,setCells,List.map,seval,reduceCtorEq,ids_map str_pl,ren_map str_pl]
       refine ⟨(i + 1, i + 1, out), ?_, ⟨hs, ?_, ?_⟩, ?_⟩ <;> dsimp only
       ·rw [stH_ne _ _ _ h0, stK_ne h0]
        rfl
       ·omega
       ·omega
       ·omega
    ·rw [swF_other w i fr out hx h35 hb] at hs
     have h32 : ¬ ((w[i]!.toNat : Nat) : Int) = 32:=u8ne (n:=32) (fun e=>hb (.inl e)) (by omega)
     have h9 : ¬ ((w[i]!.toNat : Nat) : Int) = 9:=u8ne (n:=9) (fun e=>hb (.inr e)) (by omega)
     simp only [stK_ne h0,stH_ne w fr out h0]
     simp (disch:=first|omega|(simp only[pvl];omega)) only [↓pvd,pva,pvr,bin2,binB2,un1,setCells,List.map,seval,reduceCtorEq,hgi,bv,ids_map str_pl,ren_map str_pl]
     refine ⟨(i + 1, fr, out), ?_, ⟨hs, ?_, ?_⟩, ?_⟩ <;> dsimp only
     ·rw [stH_ne _ _ _ h0, stK_ne h0]
      rfl
     ·omega
     ·omega
     ·omega
  ·rw [swF_stop w _ i fr out (fun h=>absurd h hx)] at hs
   unfold strR
   rw [← hs]
   by_cases hf : fr < i
   ·have q:=str1_appL w i fr out h0 (by omega) hi hf (by omega)
    rw [show enO w i fr out = out ++ [(w.take i).drop fr] by unfold enO; rw [if_pos hf], if_neg (by simp)]
    simp only [stH_ne w fr out h0] at q
    generalize (w.take i).drop fr = z at q ⊢
    simp only [stK_ne h0,stH_ne w fr out h0]
    simp (disch:=first|omega|(simp only[pvl] at *;omega)) only [↓pvd,pva,pvr,bin2,binB2,un1,setCells,List.map,seval,reduceCtorEq]
    refine awR_callv rfl q (by simp) ?_
    simp (disch:=first|omega|(simp only[pvl];omega)) only [↓pvd,pva,pvr,bin2,binB2,un1,setCells,List.map,seval,reduceCtorEq,ids_map str_pl,ren_map str_pl,List.flatMap_append,List.map_append]
    rw [show out.length + 1 = (out ++ [z]).length by simp, show out.map AV.str ++ [AV.str z] = (out ++ [z]).map AV.str by simp]
    generalize out ++ [z] = L2
    (refine Ends_rq [[.own 1 9]] ?_; simp (disch:=first|omega|(simp only[pvl];omega)) only [↓pvd,pva,pvr,bin2,binB2,un1,setCells,List.map,seval,reduceCtorEq,ids_map str_pl,ren_map str_pl,mapO_map str_nr,rows_map str_nr]; exact ⟨_,rfl,rfl,rfl⟩)
   ·have q:=str1_no w i fr out (by omega) hi (by omega)
    rw [show enO w i fr out = out by unfold enO; rw [if_neg hf], if_neg h0]
    simp only [stK_ne h0,stH_ne w fr out h0,stH_ne w (i + 1) out h0] at q
    simp only [stK_ne h0,stH_ne w fr out h0]
    simp (disch:=first|omega|(simp only[pvl] at *;omega)) only [↓pvd,pva,pvr,bin2,binB2,un1,setCells,List.map,seval,reduceCtorEq]
    refine awR_callv rfl q (by simp) ?_
    simp (disch:=first|omega|(simp only[pvl];omega)) only [↓pvd,pva,pvr,bin2,binB2,un1,setCells,List.map,seval,reduceCtorEq,ids_map str_pl,ren_map str_pl]
    (refine Ends_rq [[.own 1 9]] ?_; simp (disch:=first|omega|(simp only[pvl];omega)) only [↓pvd,pva,pvr,bin2,binB2,un1,setCells,List.map,seval,reduceCtorEq,ids_map str_pl,ren_map str_pl,mapO_map str_nr,rows_map str_nr]; exact ⟨_,rfl,rfl,rfl⟩)
end Nm
end Go.Proofs
namespace Go.Proofs
namespace Nm
open Go.Pv
def okB (c : UInt8) : Bool:=decide (32 < (c.toNat : Int) ∧ (c.toNat : Int) ≤ 126 ∧ ¬ (c.toNat : Int) = 35)
def okW (w : List UInt8) : Bool:=w.all okB && decide (w ≠ [] ∧ w.length ≤ 40)
theorem all_no {w : List UInt8} {i : Nat} (hi : i < w.length) (h : okB w[i]! = false) : w.all okB = false:=by
 rw [List.all_eq_false]
 exact ⟨w[i]!, by rw [getElem!_pos w i hi]; exact List.getElem_mem hi, by rw [h]; simp⟩
theorem all_yes {w : List UInt8} (h : ∀ k, k < w.length → okB w[k]! = true) : w.all okB = true:=by
 rw [List.all_eq_true]
 intro c hc
 obtain ⟨k, hk, rfl⟩:=List.mem_iff_getElem.1 hc
 have:=h k hk
 rwa [getElem!_pos w k hk] at this
theorem lword_run (w : List UInt8) (hw : w.length ≤ 100000) : Run Tryz.prog 58 [.str w] (.bool (okW w)):=by
 refine Tryz.run58 (by simp) ?_
 unfold Tryz.c58
 simp (disch:=first|omega|(simp only[pvl] at *;omega)) only [↓pvd,pva,pvr,bin2,binB2,un1,setCells,List.map,seval,reduceCtorEq]
 refine aw_loop (fun k : Nat=>⟨[(0, .str w), (5, .int .i64 w.length), (6, .int .i64 k)], []⟩) (fun k=>k ≤ w.length ∧ ∀ j < k, okB w[j]! = true) (fun k=>w.length - k) 0 rfl ⟨by omega, by simp⟩ ?_
 rintro k ⟨hk, hp⟩
 unfold Tryz.c58b0
 by_cases hx : k < w.length
 ·have hgi : w[k]? = some w[k]!:=by rw [getElem!_pos w k hx, List.getElem?_eq_getElem hx]
  by_cases ho : okB w[k]! = true
  ·have h2:=of_decide_eq_true ho
   repeat' (first | (simp (disch:=first|omega|(simp only[pvl];omega)) only [↓pvd,pva,pvr,bin2,binB2,un1,setCells,List.map,seval,reduceCtorEq,hgi,bv,still]) | (with_reducible first|refine condP_d (fun _=>?_) (fun _=>?_)|refine guardP_d0 (fun _=>?_) (fun _=>?_)|refine guardP_d1 (fun _=>?_) (fun _=>?_)|refine condP_any ?_ ?_) | (refine Ends_rq [] ?_; simp (disch:=first|omega|(simp only[pvl];omega)) only [↓pvd,pva,pvr,bin2,binB2,un1,setCells,List.map,seval,reduceCtorEq]; exact ⟨_,rfl,rfl,rfl⟩))
   refine ⟨k + 1, rfl, ⟨by omega, fun j hj=>?_⟩, by omega⟩
   by_cases hjk : j = k
   ·rw [hjk]; exact ho
   ·exact hp j (by omega)
  ·have h1 : okB w[k]! = false:=by simpa using ho
   have h2:=of_decide_eq_false h1
   have h3 : okW w = false:=by unfold okW; rw [all_no hx h1]; rfl
   rw [h3]
   repeat' (first | (simp (disch:=first|omega|(simp only[pvl];omega)) only [↓pvd,pva,pvr,bin2,binB2,un1,setCells,List.map,seval,reduceCtorEq,hgi,bv,still]) | (with_reducible first|refine condP_d (fun _=>?_) (fun _=>?_)|refine guardP_d0 (fun _=>?_) (fun _=>?_)|refine guardP_d1 (fun _=>?_) (fun _=>?_)|refine condP_any ?_ ?_) | (refine Ends_rq [] ?_; simp (disch:=first|omega|(simp only[pvl];omega)) only [↓pvd,pva,pvr,bin2,binB2,un1,setCells,List.map,seval,reduceCtorEq]; exact ⟨_,rfl,rfl,rfl⟩))
 ·have h3 : w.all okB = true:=all_yes fun k' hk'=>hp k' (by omega)
  have h4 : okW w = decide (w ≠ [] ∧ w.length ≤ 40):=by unfold okW; rw [h3]; rfl
  rw [h4]
  by_cases he : w = []
  ·subst he
   simp (disch:=first|omega|(simp only[pvl] at *;omega)) only [↓pvd,pva,pvr,bin2,binB2,un1,setCells,List.map,seval,reduceCtorEq]
   (refine Ends_rq [] ?_; simp (disch:=first|omega|(simp only[pvl];omega)) only [↓pvd,pva,pvr,bin2,binB2,un1,setCells,List.map,seval,reduceCtorEq]; exact ⟨_,rfl,rfl,rfl⟩)
  ·have : 0 < w.length:=List.length_pos_iff.2 he
   repeat' (first | (simp (disch:=first|omega|(simp only[pvl];omega)) only [↓pvd,pva,pvr,bin2,binB2,un1,setCells,List.map,seval,reduceCtorEq,still]) | (with_reducible first|refine condP_d (fun _=>?_) (fun _=>?_)|refine guardP_d0 (fun _=>?_) (fun _=>?_)|refine guardP_d1 (fun _=>?_) (fun _=>?_)|refine condP_any ?_ ?_) | (refine Ends_rq [] ?_; simp (disch:=first|omega|(simp only[pvl];omega)) only [↓pvd,pva,pvr,bin2,binB2,un1,setCells,List.map,seval,reduceCtorEq]; exact ⟨_,rfl,rfl,rfl⟩))
   rw [show decide (¬w = [] ∧ w.length ≤ 40) = decide ((w.length : Int) ≤ 40) by simp [he]; omega]
   (refine Ends_rq [] ?_; simp (disch:=first|omega|(simp only[pvl];omega)) only [↓pvd,pva,pvr,bin2,binB2,un1,setCells,List.map,seval,reduceCtorEq]; exact ⟨_,rfl,rfl,rfl⟩)
def wordsR (w : List UInt8) : AV:=if (swV w).all okW then .tup [strR (swV w), .int .i64 0] else .tup [.sl 0 [] true, .int .i64 20]
theorem enO_len (w : List UInt8) (i fr : Nat) (out : List (List UInt8)) (n : Nat) (hw : w.length ≤ n) (h : ∀ x ∈ out, x.length ≤ n) : ∀ x ∈ enO w i fr out, x.length ≤ n:=by
 unfold enO
 split
 ·intro x hx
  simp at hx
  rcases hx with hx | rfl
  ·exact h x hx
  ·simp; omega
 ·exact h
theorem swF_len (w : List UInt8) (n : Nat) (hw : w.length ≤ n) : ∀ (m i fr : Nat) (out : List (List UInt8)), (∀ x ∈ out, x.length ≤ n) → ∀ x ∈ swF w m i fr out, x.length ≤ n:=by
 intro m
 induction m with
 | zero=>intro i fr out h; exact enO_len w i fr out n hw h
 | succ m ih =>
  intro i fr out h
  unfold swF
  split
  ·split
   ·exact enO_len w i fr out n hw h
   ·split
    ·exact ih _ _ _ (enO_len w i fr out n hw h)
    ·exact ih _ _ _ h
  ·exact enO_len w i fr out n hw h
theorem swF_num (w : List UInt8) : ∀ (m i fr : Nat) (out : List (List UInt8)), (swF w m i fr out).length ≤ out.length + m + 1:=by
 have e : ∀ i fr out, (enO w i fr out).length ≤ out.length + 1:=by
  intro i fr out; unfold enO; split <;> simp
 intro m
 induction m with
 | zero=>intro i fr out; exact e i fr out
 | succ m ih =>
  intro i fr out
  have e1:=e i fr out
  unfold swF
  split
  ·split
   ·omega
   ·split
    ·have:=ih (i + 1) (i + 1) (enO w i fr out); omega
    ·have:=ih (i + 1) fr out; omega
  ·omega
theorem words_run (w : List UInt8) (hw : w.length ≤ 40000) : Run Tryz.prog 25 [.str w] (wordsR w):=by
 have q:=stretches_run w (by omega)
 have hl:=swF_len w w.length (Nat.le_refl _) (w.length + 1) 0 0 [] (by simp)
 have hn:=swF_num w (w.length + 1) 0 0 []
 change ∀ x ∈ swV w, _ at hl
 change (swV w).length ≤ _ at hn
 refine Tryz.run25 (by simp) ?_
 unfold Tryz.c25 wordsR
 generalize swV w = L at *
 by_cases h0 : L = []
 ·subst h0
  rw [strR, if_pos rfl] at *
  simp (disch:=first|omega|(simp only[pvl] at *;omega)) only [↓pvd,pva,pvr,bin2,binB2,un1,setCells,List.map,seval,reduceCtorEq]
  refine awR_call q rfl rfl ?_
  simp (disch:=first|omega|(simp only[pvl] at *;omega)) only [↓pvd,pva,pvr,bin2,binB2,un1,setCells,List.map,seval,reduceCtorEq]
  refine aw_loop (fun k : Nat=>⟨[(4, .sl 0 [] true), (9, .sl 0 [] true), (10, .int .i64 0), (11, .int .i64 k)], []⟩) (fun k=>k = 0) (fun k=>k) 0 rfl rfl ?_
  rintro k rfl
  unfold Tryz.c25b0
  simp (disch:=first|omega|(simp only[pvl] at *;omega)) only [↓pvd,pva,pvr,bin2,binB2,un1,setCells,List.map,seval,reduceCtorEq]
  (refine Ends_rq [] ?_; simp (disch:=first|omega|(simp only[pvl];omega)) only [↓pvd,pva,pvr,bin2,binB2,un1,setCells,List.map,seval,reduceCtorEq]; exact ⟨_,rfl,rfl,rfl⟩)
 ·rw [strR, if_neg h0] at *
  simp (disch:=first|omega|(simp only[pvl] at *;omega)) only [↓pvd,pva,pvr,bin2,binB2,un1,setCells,List.map,seval,reduceCtorEq]
  refine awR_call q rfl rfl ?_
  simp (disch:=first|omega|(simp only[pvl] at *;omega)) only [↓pvd,pva,pvr,bin2,binB2,un1,setCells,List.map,seval,reduceCtorEq]
  refine aw_loop (fun k : Nat=>⟨[(4, .vec 0 1 0 L.length), (9, .vec 0 1 0 L.length), (10, .int .i64 L.length), (11, .int .i64 k)], [some ⟨9, L.map .str, true⟩]⟩) (fun k=>k ≤ L.length ∧ ∀ j < k, okW L[j]! = true) (fun k=>L.length - k) 0 ?_ ⟨by omega, by simp⟩ ?_
  ·simp (disch:=first|omega|(simp only[pvl];omega)) only [↓pvd,pva,pvr,bin2,binB2,un1,setCells,List.map,seval,reduceCtorEq,ids_map str_pl,ren_map str_pl]
  rintro k ⟨hk, hp⟩
  unfold Tryz.c25b0
  simp only [List.length_nil] at hn
  by_cases hx : k < L.length
  ·have q2:=lword_run L[k]! (by have:=hl _ (get_mem hx); omega)
   by_cases ho : okW L[k]! = true
   ·rw [ho] at q2
    simp (disch:=first|omega|(simp only[pvl] at *;omega)) only [↓pvd,pva,pvr,bin2,binB2,un1,setCells,List.map,seval,reduceCtorEq]
    refine awR_call q2 rfl rfl ?_
    simp (disch:=first|omega|(simp only[pvl];omega)) only [↓pvd,pva,pvr,bin2,binB2,un1,setCells,List.map,seval,reduceCtorEq,ids_map str_pl,ren_map str_pl]
    refine ⟨k + 1, rfl, ⟨by omega, fun j hj=>?_⟩, by omega⟩
    by_cases hjk : j = k
    ·rw [hjk]; exact ho
    ·exact hp j (by omega)
   ·have h1 : okW L[k]! = false:=by simpa using ho
    have h2 : ¬ (L.all okW = true):=by
     rw [Bool.not_eq_true, List.all_eq_false]
     exact ⟨L[k]!, get_mem hx, by rw [h1]; simp⟩
    rw [if_neg h2]
    rw [h1] at q2
    simp (disch:=first|omega|(simp only[pvl] at *;omega)) only [↓pvd,pva,pvr,bin2,binB2,un1,setCells,List.map,seval,reduceCtorEq]
    refine awR_call q2 rfl rfl ?_
    simp (disch:=first|omega|(simp only[pvl];omega)) only [↓pvd,pva,pvr,bin2,binB2,un1,setCells,List.map,seval,reduceCtorEq,ids_map str_pl,ren_map str_pl]
    (refine Ends_rq [] ?_; simp (disch:=first|omega|(simp only[pvl];omega)) only [↓pvd,pva,pvr,bin2,binB2,un1,setCells,List.map,seval,reduceCtorEq]; exact ⟨_,rfl,rfl,rfl⟩)
  ·have h3 : L.all okW = true:=by
    rw [List.all_eq_true]
    intro c hc
    obtain ⟨j, hj, rfl⟩:=List.mem_iff_getElem.1 hc
    have:=hp j (by omega)
    rwa [getElem!_pos L j hj] at this
   rw [if_pos h3]
   simp (disch:=first|omega|(simp only[pvl] at *;omega)) only [↓pvd,pva,pvr,bin2,binB2,un1,setCells,List.map,seval,reduceCtorEq]
   (refine Ends_rq [[.own 1 9], [.snap]] ?_; simp (disch:=first|omega|(simp only[pvl];omega)) only [↓pvd,pva,pvr,bin2,binB2,un1,setCells,List.map,seval,reduceCtorEq,ids_map str_pl,ren_map str_pl,mapO_map str_nr,rows_map str_nr]; exact ⟨_,rfl,rfl,rfl⟩)
end Nm
end Go.Proofs
namespace Go.Proofs
namespace Nm
open Go.Pv
end Nm
end Go.Proofs
namespace Go.Proofs
namespace Nm
open Go.Pv
def ends (l : List (List UInt8)) : List UInt8:=l.flatMap fun r=>r ++ [10]
end Nm
end Go.Proofs
/- The library's strings.Join at this seat's program: its contract, laid. (Printed by a program of ours.) -/
namespace Go.Proofs
open Go.Shelf
def Tryz.renT (n : Nat) : Nat :=
 if n = 0 then 0 else if n = 3 then 3 else if n = 4 then 4 else if n = 5 then 5 else if n = 9 then 9 else if n = 20 then 20 else if n = 31 then 32 else if n = 37 then 22 else if n = 70 then 183 else if n = 72 then 185 else if n = 75 then 187 else if n = 76 then 188 else if n = 80 then 69 else if n = 127 then 196 else if n = 164 then 197 else 0
def Tryz.renF (n : Nat) : Nat :=
 if n = 156 then 144 else if n = 165 then 157 else if n = 166 then 158 else if n = 169 then 159 else if n = 240 then 167 else if n = 241 then 168 else if n = 276 then 170 else if n = 277 then 171 else 0
def Tryz.ren : Ren:=⟨Tryz.renF, Tryz.renT, fun n=>n⟩
theorem Tryz.lays156 : Lays.n156 Tryz.prog Tryz.ren where
 mixed:=Tryz.mixed
 f156:=by kernel_rfl
 f165:=by kernel_rfl
 f166:=by kernel_rfl
 f169:=by kernel_rfl
 f240:=by kernel_rfl
 f241:=by kernel_rfl
 f276:=by kernel_rfl
 f277:=by kernel_rfl
 t0:=Tryz.underlying0
 a0:=Tryz.isAgg0
 z0:=Tryz.sizeOf0
 v0:=Tryz.zeroValue0
 t3:=Tryz.underlying3
 a3:=Tryz.isAgg3
 z3:=Tryz.sizeOf3
 v3:=Tryz.zeroValue3
 t4:=Tryz.underlying4
 a4:=Tryz.isAgg4
 z4:=Tryz.sizeOf4
 v4:=Tryz.zeroValue4
 t9:=Tryz.underlying9
 a9:=Tryz.isAgg9
 z9:=Tryz.sizeOf9
 v9:=Tryz.zeroValue9
 t20:=Tryz.underlying20
 a20:=Tryz.isAgg20
 z20:=Tryz.sizeOf20
 v20:=Tryz.zeroValue20
 t31:=Tryz.underlying32
 a31:=Tryz.isAgg32
 z31:=Tryz.sizeOf32
 v31:=Tryz.zeroValue32
 t37:=Tryz.underlying22
 a37:=Tryz.isAgg22
 z37:=Tryz.sizeOf22
 v37:=Tryz.zeroValue22
 t70:=Tryz.underlying183
 a70:=Tryz.isAgg183
 z70:=Tryz.sizeOf183
 v70:=Tryz.zeroValue183
 t72:=Tryz.underlying185
 a72:=Tryz.isAgg185
 z72:=Tryz.sizeOf185
 v72:=Tryz.zeroValue185
 t75:=Tryz.underlying187
 a75:=Tryz.isAgg187
 z75:=Tryz.sizeOf187
 v75:=Tryz.zeroValue187
 t76:=Tryz.underlying188
 a76:=Tryz.isAgg188
 z76:=Tryz.sizeOf188
 v76:=Tryz.zeroValue188
 t127:=Tryz.underlying196
 a127:=Tryz.isAgg196
 z127:=Tryz.sizeOf196
 v127:=Tryz.zeroValue196
 t164:=Tryz.underlying197
 a164:=Tryz.isAgg197
 z164:=Tryz.sizeOf197
 v164:=Tryz.zeroValue197
theorem Tryz.extra156 : Builder.Extra Tryz.prog Tryz.ren where
 sizeBuilder:=by kernel_rfl
 liesBuilder:=by kernel_rfl
 t5:=Tryz.underlying5
 a5:=Tryz.isAgg5
 z5:=Tryz.sizeOf5
 v5:=Tryz.zeroValue5
 infoByte:=by kernel_rfl
 cellsByte:=by kernel_rfl
 sizeByte:=by kernel_rfl
 neB5:=by decide
end Go.Proofs
/-
 The machine of plain values: the library's strings.Join, from its contract.
-/
namespace Go.Pv
set_option linter.unusedSectionVars false
variable [Lq]
open Go.RowKit
end Go.Pv
namespace Go.Proofs
namespace Nm
open Go.Pv
end Nm
end Go.Proofs
namespace Go.Proofs
namespace Nm
open Go.Pv
end Nm
end Go.Proofs
namespace Go.Proofs
namespace Nm
open Go.Pv
end Nm
end Go.Proofs
namespace Go.Proofs
open Go.Pv
theorem ent_nones (H : Hp) (n id : Nat) : ent (H ++ List.replicate n none) id = ent H id:=by
 unfold ent
 rcases Nat.lt_or_ge id H.length with h | h
 ·rw [List.getElem?_append_left h]
 ·rw [List.getElem?_append_right h, List.getElem?_eq_none h, List.getElem?_replicate]
  split <;> rfl
theorem gen_strip {P : Program} {f : FuncId} {xs : List AV} {H H' : Hp} {r : AV} {n : Nat} (h : Gen P f xs H r (H' ++ List.replicate n none)) : Gen P f xs H r H' :=
 ⟨h.1, fun w γ args hq hh hl hs=>(h.2 w γ args hq hh hl hs).mono fun e W ⟨v, γ', he, hv, hh', st, ids⟩ =>
  ⟨v, γ', he, hv, ⟨fun id hid=>hh'.none id (by rw [ent_nones]; exact hid), fun id e hid=>hh'.ok id e (by rw [ent_nones]; exact hid), hh'.inj, hh'.imm, hh'.stl⟩, st, ids⟩⟩
def rdo (ws : List (List UInt8)) (f : Bool) (k : Nat) (e : Int) : Option Ent:=some ⟨68, [.agg [.sl 1 (ws.map .str) f, .int .i64 k, .int .i64 e]], true⟩
def fl (e : Int) (bad : Bool) (c : Int) : Int:=if bad = true ∧ e = 0 then c else e
theorem next_gen (ws : List (List UInt8)) (f : Bool) (k : Nat) (e : Int) (A : Option Ent) (T : Hp) (hk : k < ws.length) (hw : ws.length ≤ 1000) :
  Gen Tryz.prog 39 [.eptr 1 0 0] (A :: rdo ws f k e :: T) (.str ws[k]!) (A :: rdo ws f (k + 1) e :: T):=by
 have hgi : (ws.map AV.str)[k]? = some (.str ws[k]!):=map_get hk
 refine gen_strip (n:=12) (Tryz.gen39 (by simp) ?_)
 unfold Tryz.g39 rdo
 simp (disch:=first|omega|(simp only[pvl];omega)) only [↓pvd,pva,pvr,bin2,binB2,un1,setCells,List.map,seval,reduceCtorEq,hgi,List.length_map]
 rw [show ((k : Int) + 1 - 1).toNat = k by omega]
 exact ⟨rfl, by simp⟩
theorem fail_gen (ws : List (List UInt8)) (f : Bool) (k : Nat) (e c : Int) (b : Bool) (A : Option Ent) (T : Hp) :
  Gen Tryz.prog 36 [.eptr 1 0 0, .bool b, .int .i64 c] (A :: rdo ws f k e :: T) (.tup []) (A :: rdo ws f k (fl e b c) :: T):=by
 refine Tryz.gen36 (by simp) ?_
 unfold Tryz.g36 rdo fl
 cases b with
 | false =>
  simp (disch:=first|omega|(simp only[pvl] at *;omega)) only [↓pvd,pva,pvr,bin2,binB2,un1,setCells,List.map,seval,reduceCtorEq]
  exact ⟨rfl, rfl⟩
 | true =>
  by_cases he : e = 0
  ·subst he
   simp (disch:=first|omega|(simp only[pvl] at *;omega)) only [↓pvd,pva,pvr,bin2,binB2,un1,setCells,List.map,seval,reduceCtorEq]
   exact ⟨rfl, rfl⟩
  ·simp (disch:=first|omega|(simp only[pvl];omega)) only [↓pvd,pva,pvr,bin2,binB2,un1,setCells,List.map,seval,reduceCtorEq,he]
   exact ⟨rfl, rfl⟩
def nmO (s : List UInt8) : Bool:=decide (Nm.nmP s)
theorem name_gen (ws : List (List UInt8)) (f : Bool) (k : Nat) (e : Int) (A : Option Ent) (T : Hp) (hk : k < ws.length) (hw : ws.length ≤ 1000) (hl : ∀ w ∈ ws, w.length ≤ 1000) :
  Gen Tryz.prog 32 [.eptr 1 0 0] (A :: rdo ws f k e :: T) (.str ws[k]!) (A :: rdo ws f (k + 1) (fl e (!nmO ws[k]!) 20) :: T):=by
 have hwl : ws[k]!.length ≤ 1000:=hl _ (by rw [getElem!_pos ws k hk]; exact List.getElem_mem hk)
 have q : Run Tryz.prog 63 [.str ws[k]!] (.bool (nmO ws[k]!)):=Nm.name_run ws[k]! (by omega)
 generalize nmO ws[k]! = b at *
 refine Tryz.gen32 (by simp) ?_
 unfold Tryz.g32
 simp (disch:=first|omega|(simp only[pvl] at *;omega)) only [↓pvd,pva,pvr,bin2,binB2,un1,setCells,List.map,seval,reduceCtorEq]
 refine awR_callG (next_gen ws f k e A T hk hw) ?_
 simp (disch:=first|omega|(simp only[pvl] at *;omega)) only [↓pvd,pva,pvr,bin2,binB2,un1,setCells,List.map,seval,reduceCtorEq]
 refine awR_call q rfl rfl ?_
 simp (disch:=first|omega|(simp only[pvl] at *;omega)) only [↓pvd,pva,pvr,bin2,binB2,un1,setCells,List.map,seval,reduceCtorEq]
 refine awR_callG (fail_gen ws f (k + 1) e 20 (!b) A T) ?_
 simp (disch:=first|omega|(simp only[pvl] at *;omega)) only [↓pvd,pva,pvr,bin2,binB2,un1,setCells,List.map,seval,reduceCtorEq]
 exact ⟨rfl, rfl⟩
theorem number_gen (ws : List (List UInt8)) (f : Bool) (k : Nat) (e a b : Int) (A : Option Ent) (T : Hp) (hk : k < ws.length) (hw : ws.length ≤ 1000) (hl : ∀ w ∈ ws, w.length ≤ 1000) :
  Gen Tryz.prog 34 [.eptr 1 0 0, .int .i64 a, .int .i64 b] (A :: rdo ws f k e :: T) (.int .i64 (Nm.rdF ws[k]! a b).1) (A :: rdo ws f (k + 1) (fl e (!(Nm.rdF ws[k]! a b).2) 21) :: T):=by
 have hwl : ws[k]!.length ≤ 1000:=hl _ (by rw [getElem!_pos ws k hk]; exact List.getElem_mem hk)
 have q:=Nm.read_run ws[k]! a b (by omega)
 unfold Nm.rdR at q
 generalize (Nm.rdF ws[k]! a b).1 = n at *
 generalize (Nm.rdF ws[k]! a b).2 = ok at *
 refine Tryz.gen34 (by simp) ?_
 unfold Tryz.g34
 simp (disch:=first|omega|(simp only[pvl] at *;omega)) only [↓pvd,pva,pvr,bin2,binB2,un1,setCells,List.map,seval,reduceCtorEq]
 refine awR_callG (next_gen ws f k e A T hk hw) ?_
 simp (disch:=first|omega|(simp only[pvl] at *;omega)) only [↓pvd,pva,pvr,bin2,binB2,un1,setCells,List.map,seval,reduceCtorEq]
 refine awR_call q rfl rfl ?_
 simp (disch:=first|omega|(simp only[pvl] at *;omega)) only [↓pvd,pva,pvr,bin2,binB2,un1,setCells,List.map,seval,reduceCtorEq]
 refine awR_callG (fail_gen ws f (k + 1) e 21 (!ok) A T) ?_
 simp (disch:=first|omega|(simp only[pvl] at *;omega)) only [↓pvd,pva,pvr,bin2,binB2,un1,setCells,List.map,seval,reduceCtorEq]
 exact ⟨rfl, rfl⟩
theorem vlan_gen (ws : List (List UInt8)) (f : Bool) (k : Nat) (e : Int) (A : Option Ent) (T : Hp) (hk : k < ws.length) (hw : ws.length ≤ 1000) (hl : ∀ w ∈ ws, w.length ≤ 1000) :
  Gen Tryz.prog 33 [.eptr 1 0 0] (A :: rdo ws f k e :: T) (.int .i64 (Nm.rdF ws[k]! 1 4094).1) (A :: rdo ws f (k + 1) (fl e (!(Nm.rdF ws[k]! 1 4094).2) 21) :: T):=by
 refine Tryz.gen33 (by simp) ?_
 unfold Tryz.g33
 simp (disch:=first|omega|(simp only[pvl] at *;omega)) only [↓pvd,pva,pvr,bin2,binB2,un1,setCells,List.map,seval,reduceCtorEq]
 refine awR_callG (number_gen ws f k e 1 4094 A T hk hw hl) ?_
 simp (disch:=first|omega|(simp only[pvl] at *;omega)) only [↓pvd,pva,pvr,bin2,binB2,un1,setCells,List.map,seval,reduceCtorEq]
 exact ⟨rfl, rfl⟩
theorem vni_gen (ws : List (List UInt8)) (f : Bool) (k : Nat) (e : Int) (A : Option Ent) (T : Hp) (hk : k < ws.length) (hw : ws.length ≤ 1000) (hl : ∀ w ∈ ws, w.length ≤ 1000) :
  Gen Tryz.prog 40 [.eptr 1 0 0] (A :: rdo ws f k e :: T) (.int .i64 (Nm.rdF ws[k]! 1 16777215).1) (A :: rdo ws f (k + 1) (fl e (!(Nm.rdF ws[k]! 1 16777215).2) 21) :: T):=by
 refine Tryz.gen40 (by simp) ?_
 unfold Tryz.g40
 simp (disch:=first|omega|(simp only[pvl] at *;omega)) only [↓pvd,pva,pvr,bin2,binB2,un1,setCells,List.map,seval,reduceCtorEq]
 refine awR_callG (number_gen ws f k e 1 16777215 A T hk hw hl) ?_
 simp (disch:=first|omega|(simp only[pvl] at *;omega)) only [↓pvd,pva,pvr,bin2,binB2,un1,setCells,List.map,seval,reduceCtorEq]
 exact ⟨rfl, rfl⟩
def stn (m : Int) : Bool:=decide (m ≤ 281474976710655) && (!(Mc.ish m).2 && !decide (m / 1099511627776 % 2 = 1))
theorem station_run (m : Int) (h : 0 ≤ m) (h' : m < 18446744073709551616) : Run Tryz.prog 66 [.int .u64 m] (.bool (stn m)):=by
 have q1:=Mc.ishost_run m h h'
 have q2:=Mc.group_run m h h'
 refine Tryz.run66 (by simp) ?_
 unfold Tryz.c66 stn
 generalize (Mc.ish m).1 = x at *
 generalize (Mc.ish m).2 = b at *
 generalize decide (m / 1099511627776 % 2 = 1) = g at *
 by_cases hm : m ≤ 281474976710655
 ·rw [decide_eq_true hm]
  cases b
  ·repeat' (first | (simp (disch:=first|omega|(simp only[pvl];omega)) only [↓pvd,pva,pvr,bin2,binB2,un1,setCells,List.map,seval,reduceCtorEq,still]) | (with_reducible first|refine condP_d (fun _=>?_) (fun _=>?_)|refine guardP_d0 (fun _=>?_) (fun _=>?_)|refine guardP_d1 (fun _=>?_) (fun _=>?_)|refine condP_any ?_ ?_) | refine awR_call q1 rfl rfl ?_ | refine awR_callD q1 rfl rfl (fun _=>rfl) ?_ | refine awR_call q2 rfl rfl ?_ | refine awR_callD q2 rfl rfl (fun _=>rfl) ?_ | (refine Ends_rq [] ?_; simp (disch:=first|omega|(simp only[pvl];omega)) only [↓pvd,pva,pvr,bin2,binB2,un1,setCells,List.map,seval,reduceCtorEq]; exact ⟨_,rfl,rfl,rfl⟩))
  ·repeat' (first | (simp (disch:=first|omega|(simp only[pvl];omega)) only [↓pvd,pva,pvr,bin2,binB2,un1,setCells,List.map,seval,reduceCtorEq,still]) | (with_reducible first|refine condP_d (fun _=>?_) (fun _=>?_)|refine guardP_d0 (fun _=>?_) (fun _=>?_)|refine guardP_d1 (fun _=>?_) (fun _=>?_)|refine condP_any ?_ ?_) | refine awR_call q1 rfl rfl ?_ | refine awR_callD q1 rfl rfl (fun _=>rfl) ?_ | refine awR_call q2 rfl rfl ?_ | refine awR_callD q2 rfl rfl (fun _=>rfl) ?_ | (refine Ends_rq [] ?_; simp (disch:=first|omega|(simp only[pvl];omega)) only [↓pvd,pva,pvr,bin2,binB2,un1,setCells,List.map,seval,reduceCtorEq]; exact ⟨_,rfl,rfl,rfl⟩))
 ·rw [decide_eq_false hm]
  repeat' (first | (simp (disch:=first|omega|(simp only[pvl];omega)) only [↓pvd,pva,pvr,bin2,binB2,un1,setCells,List.map,seval,reduceCtorEq,still]) | (with_reducible first|refine condP_d (fun _=>?_) (fun _=>?_)|refine guardP_d0 (fun _=>?_) (fun _=>?_)|refine guardP_d1 (fun _=>?_) (fun _=>?_)|refine condP_any ?_ ?_) | refine awR_call q1 rfl rfl ?_ | refine awR_callD q1 rfl rfl (fun _=>rfl) ?_ | refine awR_call q2 rfl rfl ?_ | refine awR_callD q2 rfl rfl (fun _=>rfl) ?_ | (refine Ends_rq [] ?_; simp (disch:=first|omega|(simp only[pvl];omega)) only [↓pvd,pva,pvr,bin2,binB2,un1,setCells,List.map,seval,reduceCtorEq]; exact ⟨_,rfl,rfl,rfl⟩))
theorem rdm_b (s : List UInt8) : 0 ≤ (Mc.rdm s).1 ∧ (Mc.rdm s).1 < 18446744073709551616:=by
 unfold Mc.rdm
 split
 ·rename_i h
  have:=Mc.num_b s 6 h.2
  simp only
  omega
 ·simp
theorem mac_gen (ws : List (List UInt8)) (f : Bool) (k : Nat) (e : Int) (A : Option Ent) (T : Hp) (hk : k < ws.length) (hw : ws.length ≤ 1000) (hl : ∀ w ∈ ws, w.length ≤ 1000) :
  Gen Tryz.prog 35 [.eptr 1 0 0] (A :: rdo ws f k e :: T) (.int .u64 (Mc.rdm ws[k]!).1) (A :: rdo ws f (k + 1) (fl e (!((Mc.rdm ws[k]!).2 && stn (Mc.rdm ws[k]!).1)) 21) :: T):=by
 have hwl : ws[k]!.length ≤ 1000:=hl _ (by rw [getElem!_pos ws k hk]; exact List.getElem_mem hk)
 have q:=Mc.read_run ws[k]! (by simp only [maxLen]; omega)
 have hb:=rdm_b ws[k]!
 have q2:=station_run (Mc.rdm ws[k]!).1 hb.1 hb.2
 refine Tryz.gen35 (by simp) ?_
 unfold Tryz.g35
 generalize (Mc.rdm ws[k]!).1 = m at *
 generalize (Mc.rdm ws[k]!).2 = ok at *
 generalize stn m = st at *
 simp (disch:=first|omega|(simp only[pvl] at *;omega)) only [↓pvd,pva,pvr,bin2,binB2,un1,setCells,List.map,seval,reduceCtorEq]
 refine awR_callG (next_gen ws f k e A T hk hw) ?_
 simp (disch:=first|omega|(simp only[pvl] at *;omega)) only [↓pvd,pva,pvr,bin2,binB2,un1,setCells,List.map,seval,reduceCtorEq]
 refine awR_call q rfl rfl ?_
 cases ok with
 | false =>
  simp (disch:=first|omega|(simp only[pvl] at *;omega)) only [↓pvd,pva,pvr,bin2,binB2,un1,setCells,List.map,seval,reduceCtorEq]
  refine awR_callG (fail_gen ws f (k + 1) e 21 true A T) ?_
  simp (disch:=first|omega|(simp only[pvl] at *;omega)) only [↓pvd,pva,pvr,bin2,binB2,un1,setCells,List.map,seval,reduceCtorEq]
  exact ⟨rfl, rfl⟩
 | true =>
  simp (disch:=first|omega|(simp only[pvl] at *;omega)) only [↓pvd,pva,pvr,bin2,binB2,un1,setCells,List.map,seval,reduceCtorEq]
  refine awR_call q2 rfl rfl ?_
  simp (disch:=first|omega|(simp only[pvl] at *;omega)) only [↓pvd,pva,pvr,bin2,binB2,un1,setCells,List.map,seval,reduceCtorEq]
  refine awR_callG (fail_gen ws f (k + 1) e 21 (!st) A T) ?_
  simp (disch:=first|omega|(simp only[pvl] at *;omega)) only [↓pvd,pva,pvr,bin2,binB2,un1,setCells,List.map,seval,reduceCtorEq]
  exact ⟨rfl, rfl⟩
end Go.Proofs
namespace Go.Proofs
open Go.Pv
def idF (v : Int) : List Int → Nat → Int
 | [], _=>-1
 | x :: r, k=>if v = x then k else idF v r (k + 1)
theorem idF_mem (v : Int) : ∀ (l : List Int) (k : Nat), decide (0 ≤ idF v l k) = decide (v ∈ l)
 | [], k=>by simp [idF]
 | x :: r, k=>by
  rw [idF]
  by_cases h : v = x
  ·rw [if_pos h]; simp [h]
  ·rw [if_neg h, idF_mem v r (k + 1)]; simp [h]
theorem index_run (l : List Int) (v : Int) (n : Nat) (f : Bool) (hn : l = [] ∨ n = 1) (hl : l.length ≤ 100000) : Run Tryz.prog 126 [.sl n (l.map (.int .i64)) f, .int .i64 v] (.int .i64 (idF v l 0)):=by
 refine Tryz.run126 (by simp) ?_
 unfold Tryz.c126
 simp (disch:=first|omega|(simp only[pvl];omega)) only [↓pvd,pva,pvr,bin2,binB2,un1,setCells,List.map,seval,reduceCtorEq,List.length_map]
 refine aw_loop (fun k : Nat=>⟨[(0, .sl n (l.map (.int .i64)) f), (1, .int .i64 v), (7, .int .i64 l.length), (8, .int .i64 k)], []⟩) (fun k=>k ≤ l.length ∧ idF v l 0 = idF v (l.drop k) k) (fun k=>l.length - k) 0 ?_ ⟨by omega, by simp⟩ ?_
 ·simp (disch:=first|omega|(simp only[pvl] at *;omega)) only [↓pvd,pva,pvr,bin2,binB2,un1,setCells,List.map,seval,reduceCtorEq]
  try rfl
 rintro k ⟨hk, hi⟩
 unfold Tryz.c126b0
 by_cases hx : k < l.length
 ·obtain rfl : n = 1:=hn.resolve_left (by rintro rfl; simp at hx)
  have hgi : (l.map (AV.int .i64))[k]? = some (.int .i64 l[k]!):=map_get hx
  have hd : l.drop k = l[k]! :: l.drop (k + 1):=by rw [getElem!_pos l k hx]; exact List.drop_eq_getElem_cons hx
  rw [hd, idF] at hi
  by_cases h : v = l[k]!
  ·rw [if_pos h] at hi
   rw [hi]
   repeat' (first | (simp (disch:=first|omega|(simp only[pvl];omega)) only [↓pvd,pva,pvr,bin2,binB2,un1,setCells,List.map,seval,reduceCtorEq,hgi,List.length_map,still]) | (with_reducible first|refine condP_d (fun _=>?_) (fun _=>?_)|refine guardP_d0 (fun _=>?_) (fun _=>?_)|refine guardP_d1 (fun _=>?_) (fun _=>?_)|refine condP_any ?_ ?_) | (refine Ends_rq [] ?_; simp (disch:=first|omega|(simp only[pvl];omega)) only [↓pvd,pva,pvr,bin2,binB2,un1,setCells,List.map,seval,reduceCtorEq]; exact ⟨_,rfl,rfl,rfl⟩))
  ·rw [if_neg h] at hi
   repeat' (first | (simp (disch:=first|omega|(simp only[pvl];omega)) only [↓pvd,pva,pvr,bin2,binB2,un1,setCells,List.map,seval,reduceCtorEq,hgi,List.length_map,still]) | (with_reducible first|refine condP_d (fun _=>?_) (fun _=>?_)|refine guardP_d0 (fun _=>?_) (fun _=>?_)|refine guardP_d1 (fun _=>?_) (fun _=>?_)|refine condP_any ?_ ?_) | (refine Ends_rq [] ?_; simp (disch:=first|omega|(simp only[pvl];omega)) only [↓pvd,pva,pvr,bin2,binB2,un1,setCells,List.map,seval,reduceCtorEq]; exact ⟨_,rfl,rfl,rfl⟩))
   exact ⟨k + 1, rfl, ⟨hx, hi⟩, by omega⟩
 ·have e : k = l.length:=by omega
  rw [e, List.drop_length, idF] at hi
  rw [hi]
  repeat' (first | (simp (disch:=first|omega|(simp only[pvl];omega)) only [↓pvd,pva,pvr,bin2,binB2,un1,setCells,List.map,seval,reduceCtorEq,List.length_map,still]) | (with_reducible first|refine condP_d (fun _=>?_) (fun _=>?_)|refine guardP_d0 (fun _=>?_) (fun _=>?_)|refine guardP_d1 (fun _=>?_) (fun _=>?_)|refine condP_any ?_ ?_) | (refine Ends_rq [] ?_; simp (disch:=first|omega|(simp only[pvl];omega)) only [↓pvd,pva,pvr,bin2,binB2,un1,setCells,List.map,seval,reduceCtorEq]; exact ⟨_,rfl,rfl,rfl⟩))
theorem contains_run (l : List Int) (v : Int) (n : Nat) (f : Bool) (hn : l = [] ∨ n = 1) (hl : l.length ≤ 100000) : Run Tryz.prog 102 [.sl n (l.map (.int .i64)) f, .int .i64 v] (.bool (decide (v ∈ l))):=by
 have q:=index_run l v n f hn hl
 refine Tryz.run102 (by simp) ?_
 unfold Tryz.c102
 rw [← idF_mem v l 0]
 generalize idF v l 0 = i at *
 generalize l.map (AV.int .i64) = es at *
 simp (disch:=first|omega|(simp only[pvl] at *;omega)) only [↓pvd,pva,pvr,bin2,binB2,un1,setCells,List.map,seval,reduceCtorEq]
 refine awR_call q rfl rfl ?_
 simp (disch:=first|omega|(simp only[pvl] at *;omega)) only [↓pvd,pva,pvr,bin2,binB2,un1,setCells,List.map,seval,reduceCtorEq]
 (refine Ends_rq [] ?_; simp (disch:=first|omega|(simp only[pvl];omega)) only [↓pvd,pva,pvr,bin2,binB2,un1,setCells,List.map,seval,reduceCtorEq]; exact ⟨_,rfl,rfl,rfl⟩)
structure Ln where
 row : Int
 kind : Int
 dev : List UInt8
 port : List UInt8
 peer : List UInt8
 far : List UInt8
 name : List UInt8
 mac : Int
 addr : Int
 bits : Int
 vlan : Int
 num : Int
 cost : Int
deriving DecidableEq
def lnA (l : Ln) (t im ex ad : AV) : AV:=.agg [.int .i64 l.row, .int .i64 l.kind, .str l.dev, .str l.port, .str l.peer, .str l.far, .str l.name, .int .u64 l.mac, .int .u32 l.addr, .int .i64 l.bits, .int .i64 l.vlan, .int .i64 l.num, .int .i64 l.cost, t, im, ex, ad]
def lnZ : Ln:=⟨0, 0, [], [], [], [], [], 0, 0, 0, 0, 0, 0⟩
def nilA : AV:=.sl 0 [] true
def mbF (v : Int) (tg : List Int) : Bool:=decide (0 < v ∨ 0 < tg.length) && !decide (v ∈ tg)
theorem members_run (l : Ln) (tg : List Int) (n : Nat) (f : Bool) (im ex ad : List AV) (a b c : Nat) (p q r : Bool) (hn : tg = [] ∨ n = 1) (hl : tg.length ≤ 100000) :
  Run Tryz.prog 67 [lnA l (.sl n (tg.map (.int .i64)) f) (.sl a im p) (.sl b ex q) (.sl c ad r)] (.bool (mbF l.vlan tg)):=by
 have q:=contains_run tg l.vlan n f hn hl
 refine Tryz.run67 (by simp) ?_
 unfold Tryz.c67 lnA mbF
 generalize decide (l.vlan ∈ tg) = ct at *
 have htl : (tg.map (AV.int .i64)).length = tg.length:=by simp
 generalize tg.map (AV.int .i64) = es at *
 by_cases h1 : 0 < l.vlan
 ·rw [decide_eq_true (.inl h1)]
  repeat' (first | (simp (disch:=first|omega|(simp only[pvl];omega)) only [↓pvd,pva,pvr,bin2,binB2,un1,setCells,List.map,seval,reduceCtorEq,htl,still]) | (with_reducible first|refine condP_d (fun _=>?_) (fun _=>?_)|refine guardP_d0 (fun _=>?_) (fun _=>?_)|refine guardP_d1 (fun _=>?_) (fun _=>?_)|refine condP_any ?_ ?_) | refine awR_call q rfl rfl ?_ | refine awR_callD q rfl rfl (fun _=>rfl) ?_ | (refine Ends_rq [] ?_; simp (disch:=first|omega|(simp only[pvl];omega)) only [↓pvd,pva,pvr,bin2,binB2,un1,setCells,List.map,seval,reduceCtorEq]; exact ⟨_,rfl,rfl,rfl⟩))
 ·by_cases h2 : 0 < tg.length
  ·rw [decide_eq_true (.inr h2)]
   repeat' (first | (simp (disch:=first|omega|(simp only[pvl];omega)) only [↓pvd,pva,pvr,bin2,binB2,un1,setCells,List.map,seval,reduceCtorEq,htl,still]) | (with_reducible first|refine condP_d (fun _=>?_) (fun _=>?_)|refine guardP_d0 (fun _=>?_) (fun _=>?_)|refine guardP_d1 (fun _=>?_) (fun _=>?_)|refine condP_any ?_ ?_) | refine awR_call q rfl rfl ?_ | refine awR_callD q rfl rfl (fun _=>rfl) ?_ | (refine Ends_rq [] ?_; simp (disch:=first|omega|(simp only[pvl];omega)) only [↓pvd,pva,pvr,bin2,binB2,un1,setCells,List.map,seval,reduceCtorEq]; exact ⟨_,rfl,rfl,rfl⟩))
  ·rw [decide_eq_false (fun h=>h.elim h1 h2)]
   repeat' (first | (simp (disch:=first|omega|(simp only[pvl];omega)) only [↓pvd,pva,pvr,bin2,binB2,un1,setCells,List.map,seval,reduceCtorEq,htl,still]) | (with_reducible first|refine condP_d (fun _=>?_) (fun _=>?_)|refine guardP_d0 (fun _=>?_) (fun _=>?_)|refine guardP_d1 (fun _=>?_) (fun _=>?_)|refine condP_any ?_ ?_) | refine awR_call q rfl rfl ?_ | refine awR_callD q rfl rfl (fun _=>rfl) ?_ | (refine Ends_rq [] ?_; simp (disch:=first|omega|(simp only[pvl];omega)) only [↓pvd,pva,pvr,bin2,binB2,un1,setCells,List.map,seval,reduceCtorEq]; exact ⟨_,rfl,rfl,rfl⟩))
end Go.Proofs
