/- The proofs of what the functions of this seat do. -/
import Derived.Test.YtppdpcfmkmnfjaaGreatDoorRzCodeB
import Derived.LoopIn
import Derived.LoopNIn
import Derived.OwnWalkIn
import Derived.RangeFuncBound
import Derived.RangeFuncCalls
import Derived.RangeFuncFrom
import Derived.RangeFuncLeaves
import Derived.RangeFuncNested
import Derived.Shelf.Abstract
import Derived.Shelf.RegionOpen
import Derived.TacticsInMore
import Derived.WalkKit
set_option linter.unusedSimpArgs false
set_option linter.unusedVariables false
set_option maxHeartbeats 2000000
set_option maxRecDepth 20000
namespace Go.Proofs
open Go.Pv
abbrev pfx (a b : Int) : AV:=.agg [.int .u32 a, .int .i64 b]
def okb (b : Int) : Bool:=decide (0 ≤ b ∧ b ≤ 32)
def szb (b : Int) : Int:=2 ^ (32 - b).toNat
theorem szb_b {b : Int} (h : 0 ≤ b ∧ b ≤ 32) : 1 ≤ szb b ∧ szb b ≤ 4294967296:=by
 unfold szb
 have h1 : (2 : Nat) ^ (32 - b).toNat ≤ 2 ^ 32:=Nat.pow_le_pow_right (by decide) (by omega)
 have h2 : 1 ≤ (2 : Nat) ^ (32 - b).toNat:=Nat.one_le_two_pow
 have h3 : (2 : Int) ^ (32 - b).toNat = ((2 ^ (32 - b).toNat : Nat) : Int):=by simp
 rw [h3]
 omega
theorem right_run (a b : Int) : Run Tryz.prog 106 [pfx a b] (.bool (okb b)):=by
 refine Tryz.run106 (by simp) ?_
 unfold Tryz.c106 okb
 rw [show decide (0 ≤ b ∧ b ≤ 32) = (decide (0 ≤ b) && decide (b ≤ 32)) by rw [Bool.eq_iff_iff]; simp]
 repeat' (first | simp (disch:=first|omega|(simp only[pvl];omega)) only [↓pvd,pva,pvr,bin2,binB2,un1,setCells,List.map,seval,reduceCtorEq] | (with_reducible first|refine condP_d (fun _=>?_) (fun _=>?_)|refine guardP_d0 (fun _=>?_) (fun _=>?_)|refine guardP_d1 (fun _=>?_) (fun _=>?_)|refine condP_any ?_ ?_))
 all_goals ((refine Ends_rq [] ?_; simp (disch:=first|omega|(simp only[pvl];omega)) only [↓pvd,pva,pvr,bin2,binB2,un1,setCells,List.map,seval,reduceCtorEq]; exact ⟨_,rfl,rfl,rfl⟩))
theorem rest_run (a b : Int) (h : 0 ≤ b ∧ b ≤ 32) : Run Tryz.prog 107 [pfx a b] (.int .u32 (szb b - 1)):=by
 refine Tryz.run107 (by simp) ?_
 unfold Tryz.c107
 have e : (1 * 2 ^ (32 - b).toNat % 4294967296 - 1) % 4294967296 = szb b - 1:=by
  have:=szb_b h
  unfold szb at *
  generalize (2 : Int) ^ (32 - b).toNat = n at *
  omega
 simp (disch:=first|omega|(simp only[pvl];omega)) only [↓pvd,pva,pvr,bin2,binB2,un1,setCells,List.map,seval,reduceCtorEq,e]
 (refine Ends_rq [] ?_; simp (disch:=first|omega|(simp only[pvl];omega)) only [↓pvd,pva,pvr,bin2,binB2,un1,setCells,List.map,seval,reduceCtorEq,e]; exact ⟨_,rfl,rfl,rfl⟩)
theorem size_run (a b : Int) (h : 0 ≤ b ∧ b ≤ 32) : Run Tryz.prog 136 [pfx a b] (.int .i64 (szb b)):=by
 refine Tryz.run136 (by simp) ?_
 unfold Tryz.c136
 simp (disch:=first|omega|(simp only[pvl] at *;omega)) only [↓pvd,pva,pvr,bin2,binB2,un1,setCells,List.map,seval,reduceCtorEq]
 obtain ⟨A, hA⟩ : ∃ A : Nat → Int, ∀ k, A k = 2 ^ k:=⟨_, fun _=>rfl⟩
 refine aw_loop (fun k : Nat=>⟨[(3, .int .i64 (A k)), (4, .int .i64 (b + k))], []⟩) (fun k=>b + k ≤ 32) (fun k=>(32 - b).toNat - k) 0 (by rw [hA]; simp; rfl) (by omega) ?_
 intro k hk
 unfold Tryz.c136b0
 have h1 : (2 : Nat) ^ k ≤ 2 ^ 32:=Nat.pow_le_pow_right (by decide) (by omega)
 have h3 : (2 : Int) ^ k = ((2 ^ k : Nat) : Int):=by simp
 have h4 : 0 ≤ A k ∧ A k ≤ 4294967296:=by
  rw [hA, h3]
  generalize (2 : Nat) ^ k = m at *
  omega
 have h5 : A (k + 1) = A k * 2:=by rw [hA, hA, Int.pow_succ]
 by_cases hc : b + k < 32
 ·simp (disch:=first|omega|(simp only[pvl] at *;omega)) only [↓pvd,pva,pvr,bin2,binB2,un1,setCells,List.map,seval,reduceCtorEq]
  refine ⟨k + 1, ?_, by omega, by omega⟩
  rw [h5]
  have e1 : (b : Int) + (k + 1 : Nat) = b + k + 1:=by omega
  rw [e1]
 ·have e : A k = szb b:=by rw [hA]; unfold szb; congr 1; omega
  simp (disch:=first|omega|(simp only[pvl] at *;omega)) only [↓pvd,pva,pvr,bin2,binB2,un1,setCells,List.map,seval,reduceCtorEq]
  rw [e]
  refine Ends_r ?_ ?_ <;> rfl
theorem toNat_cast32 {a : Int} (h : 0 ≤ a ∧ a ≤ 4294967295) : (BitVec.ofInt 32 a).toNat = a.toNat:=by
 rw [BitVec.toNat_ofInt]; omega
theorem nand_pow {a : Int} {k : Nat} (h : 0 ≤ a ∧ a ≤ 4294967295) (hk : k ≤ 32) : andNot2 .u32 a (2 ^ k - 1) = a / 2 ^ k * 2 ^ k:=by
 obtain ⟨n, rfl⟩ : ∃ n : Nat, a = n:=⟨a.toNat, by omega⟩
 have hp : (2 : Int) ^ k = ((2 ^ k : Nat) : Int):=by simp
 have hq : (2 : Nat) ^ k ≤ 2 ^ 32:=Nat.pow_le_pow_right (by decide) hk
 have hq1 : 1 ≤ (2 : Nat) ^ k:=Nat.one_le_two_pow
 have e1 : (2 : Int) ^ k - 1 = ((2 ^ k - 1 : Nat) : Int):=by rw [hp]; omega
 unfold andNot2
 rw [e1, show IntKind.u32.bits = 32 from rfl, wrap_u32]
 have e2 : (BitVec.ofInt 32 (n : Int) &&& ~~~BitVec.ofInt 32 ((2 ^ k - 1 : Nat) : Int)).toNat = n / 2 ^ k * 2 ^ k:=by
  apply Nat.eq_of_testBit_eq
  intro i
  change BitVec.getLsbD (BitVec.ofInt 32 (n : Int) &&& ~~~BitVec.ofInt 32 ((2 ^ k - 1 : Nat) : Int)) i = _
  rw [BitVec.getLsbD_and, BitVec.getLsbD_not]
  unfold BitVec.getLsbD
  rw [toNat_cast32 h, toNat_cast32 (by omega), Int.toNat_natCast, Int.toNat_natCast, Nat.testBit_two_pow_sub_one, Nat.mul_comm, Nat.testBit_two_pow_mul, Nat.testBit_div_two_pow]
  by_cases hi : i < 32
  ·by_cases hk2 : i < k
   ·simp [hi, hk2]; intro h9; omega
   ·rw [show i - k + k = i by omega]
    simp [hi, hk2]; omega
  ·have : n.testBit i = false:=Nat.testBit_lt_two_pow (Nat.lt_of_lt_of_le (show n < 2 ^ 32 by omega) (Nat.pow_le_pow_right (by decide) (by omega)))
   by_cases hk2 : i < k
   ·simp [this, hk2]; intro h9; omega
   ·rw [show i - k + k = i by omega]
    simp [this]
 rw [e2, hp]
 have e3 : n / 2 ^ k * 2 ^ k ≤ n:=Nat.div_mul_le_self _ _
 have e4 : ((n / 2 ^ k * 2 ^ k : Nat) : Int) = (n : Int) / ((2 ^ k : Nat) : Int) * ((2 ^ k : Nat) : Int):=by rw [Int.natCast_mul, Int.natCast_ediv]
 rw [← e4]
 generalize n / 2 ^ k * 2 ^ k = m at *
 omega
theorem or_pow {a : Int} {k : Nat} (h : 0 ≤ a ∧ a ≤ 4294967295) (hk : k ≤ 32) : or2 .u32 a (2 ^ k - 1) = a / 2 ^ k * 2 ^ k + (2 ^ k - 1):=by
 obtain ⟨n, rfl⟩ : ∃ n : Nat, a = n:=⟨a.toNat, by omega⟩
 have hp : (2 : Int) ^ k = ((2 ^ k : Nat) : Int):=by simp
 have hq : (2 : Nat) ^ k ≤ 2 ^ 32:=Nat.pow_le_pow_right (by decide) hk
 have hq1 : 1 ≤ (2 : Nat) ^ k:=Nat.one_le_two_pow
 have e1 : (2 : Int) ^ k - 1 = ((2 ^ k - 1 : Nat) : Int):=by rw [hp]; omega
 unfold or2
 rw [e1, show IntKind.u32.bits = 32 from rfl, wrap_u32]
 have e2 : (BitVec.ofInt 32 (n : Int) ||| BitVec.ofInt 32 ((2 ^ k - 1 : Nat) : Int)).toNat = 2 ^ k * (n / 2 ^ k) + (2 ^ k - 1):=by
  rw [BitVec.toNat_or, toNat_cast32 h, toNat_cast32 (by omega), Int.toNat_natCast, Int.toNat_natCast, Nat.two_pow_add_eq_or_of_lt (by omega)]
  apply Nat.eq_of_testBit_eq
  intro i
  rw [Nat.testBit_or, Nat.testBit_or, Nat.testBit_two_pow_sub_one, Nat.testBit_two_pow_mul, Nat.testBit_div_two_pow]
  by_cases hk2 : i < k
  ·simp [hk2]
  ·rw [show i - k + k = i by omega]
   simp [hk2]; intro _; omega
 have e5 : 2 ^ k * (n / 2 ^ k) + (2 ^ k - 1) < 2 ^ 32:=by
  rw [← e2]; exact BitVec.isLt _
 rw [e2, hp]
 have e4 : ((2 ^ k * (n / 2 ^ k) : Nat) : Int) = (n : Int) / ((2 ^ k : Nat) : Int) * ((2 ^ k : Nat) : Int):=by rw [Int.natCast_mul, Int.natCast_ediv, Int.mul_comm]
 rw [← e4]
 generalize 2 ^ k * (n / 2 ^ k) = m at *
 omega
def firstF (a b : Int) : Int:=if 0 ≤ b ∧ b ≤ 32 then a / szb b * szb b else 0
def lastF (a b : Int) : Int:=if 0 ≤ b ∧ b ≤ 32 then a / szb b * szb b + (szb b - 1) else 0
theorem first_run (a b : Int) (ha : 0 ≤ a ∧ a ≤ 4294967295) : Run Tryz.prog 72 [pfx a b] (.int .u32 (firstF a b)):=by
 refine Tryz.run72 (by simp) ?_
 unfold Tryz.c72 firstF
 simp (disch:=first|omega|(simp only[pvl] at *;omega)) only [↓pvd,pva,pvr,bin2,binB2,un1,setCells,List.map,seval,reduceCtorEq]
 have q:=right_run a b
 by_cases h : 0 ≤ b ∧ b ≤ 32
 ·rw [if_pos h]
  rw [show okb b = true from decide_eq_true h] at q
  refine awR_call q rfl rfl ?_
  simp (disch:=first|omega|(simp only[pvl] at *;omega)) only [↓pvd,pva,pvr,bin2,binB2,un1,setCells,List.map,seval,reduceCtorEq]
  refine awR_callD (rest_run a b h) rfl rfl (fun _=>rfl) ?_
  have e : andNot2 .u32 a (szb b - 1) = a / szb b * szb b:=nand_pow ha (by omega)
  simp (disch:=first|omega|(simp only[pvl];omega)) only [↓pvd,pva,pvr,bin2,binB2,un1,setCells,List.map,seval,reduceCtorEq,e]
  (refine Ends_rq [] ?_; simp (disch:=first|omega|(simp only[pvl];omega)) only [↓pvd,pva,pvr,bin2,binB2,un1,setCells,List.map,seval,reduceCtorEq,e]; exact ⟨_,rfl,rfl,rfl⟩)
 ·rw [if_neg h]
  rw [show okb b = false from decide_eq_false h] at q
  refine awR_call q rfl rfl ?_
  simp (disch:=first|omega|(simp only[pvl] at *;omega)) only [↓pvd,pva,pvr,bin2,binB2,un1,setCells,List.map,seval,reduceCtorEq]
  (refine Ends_rq [] ?_; simp (disch:=first|omega|(simp only[pvl];omega)) only [↓pvd,pva,pvr,bin2,binB2,un1,setCells,List.map,seval,reduceCtorEq]; exact ⟨_,rfl,rfl,rfl⟩)
theorem last_run (a b : Int) (ha : 0 ≤ a ∧ a ≤ 4294967295) : Run Tryz.prog 73 [pfx a b] (.int .u32 (lastF a b)):=by
 refine Tryz.run73 (by simp) ?_
 unfold Tryz.c73 lastF
 simp (disch:=first|omega|(simp only[pvl] at *;omega)) only [↓pvd,pva,pvr,bin2,binB2,un1,setCells,List.map,seval,reduceCtorEq]
 have q:=right_run a b
 by_cases h : 0 ≤ b ∧ b ≤ 32
 ·rw [if_pos h]
  rw [show okb b = true from decide_eq_true h] at q
  refine awR_call q rfl rfl ?_
  simp (disch:=first|omega|(simp only[pvl] at *;omega)) only [↓pvd,pva,pvr,bin2,binB2,un1,setCells,List.map,seval,reduceCtorEq]
  refine awR_callD (rest_run a b h) rfl rfl (fun _=>rfl) ?_
  have e : or2 .u32 a (szb b - 1) = a / szb b * szb b + (szb b - 1):=or_pow ha (by omega)
  simp (disch:=first|omega|(simp only[pvl];omega)) only [↓pvd,pva,pvr,bin2,binB2,un1,setCells,List.map,seval,reduceCtorEq,e]
  (refine Ends_rq [] ?_; simp (disch:=first|omega|(simp only[pvl];omega)) only [↓pvd,pva,pvr,bin2,binB2,un1,setCells,List.map,seval,reduceCtorEq,e]; exact ⟨_,rfl,rfl,rfl⟩)
 ·rw [if_neg h]
  rw [show okb b = false from decide_eq_false h] at q
  refine awR_call q rfl rfl ?_
  simp (disch:=first|omega|(simp only[pvl] at *;omega)) only [↓pvd,pva,pvr,bin2,binB2,un1,setCells,List.map,seval,reduceCtorEq]
  (refine Ends_rq [] ?_; simp (disch:=first|omega|(simp only[pvl];omega)) only [↓pvd,pva,pvr,bin2,binB2,un1,setCells,List.map,seval,reduceCtorEq]; exact ⟨_,rfl,rfl,rfl⟩)
end Go.Proofs
namespace Go.Proofs
open Go.Pv
end Go.Proofs
namespace Go.Proofs
open Go.Pv
end Go.Proofs
/-
 The machine of plain values, 34: loops of few rounds, run round by round.
-/
namespace Go.Pv
set_option linter.unusedSectionVars false
variable [Lq]
def unr (P : Program) (tr : Option Trim) (b : AC) (K : AE → St → Prop) : Nat → St → Prop
 | 0, _=>False
 | n + 1, σ=>aw P b (andThen (fun σ'=>unr P tr b K n (trim tr σ')) K) σ
def unrT (P : Program) (tr : Option Trim) (b : AC) (K : AE → St → Prop) (n : Nat) (σ : St) : Prop:=unr P tr b K n (trim tr σ)
section
variable {P : Program} {tr : Option Trim} {b : AC} {K : AE → St → Prop} {n : Nat} {fr : Fr} {hp : Hp} {σ : St}
theorem unr_s : unr P tr b K (n + 1) ⟨fr, hp⟩ = aw P b (andThen (unrT P tr b K n) K) ⟨fr, hp⟩:=(rfl)
theorem unrT_e : unrT P tr b K n ⟨fr, hp⟩ = unr P tr b K n (trim tr ⟨fr, hp⟩):=(rfl)
theorem aw_unroll (n : Nat) (h : unr P tr b K n (trim tr σ)) : aw P (.loop tr b) K σ:=by
 refine ⟨fun n σ=>unr P tr b K n σ, ⟨n, h⟩, ?_⟩
 rintro n σ hn
 cases n with
 | zero=>exact hn.elim
 | succ n =>
  refine aw_mono b _ _ _ ?_ hn
  intro e σ' hx
  cases e with
  | normal=>exact ⟨n, Nat.lt_succ_self n, hx⟩
  | exit i=>exact hx
  | ret=>exact hx
end
end Go.Pv
namespace Go.Proofs
open Go.Pv
def numS (n : Int) : List UInt8:=if n < 10 then [u8i (48 + n)] else if n < 100 then [u8i (48 + n / 10), u8i (48 + n % 10)] else [u8i (48 + n / 100), u8i (48 + n / 10 % 10), u8i (48 + n % 10)]
end Go.Proofs
namespace Go.Proofs
open Go.Pv
theorem numS_len (n : Int) : 1 ≤ (numS n).length ∧ (numS n).length ≤ 3:=by
 unfold numS; split
 ·simp
 ·split <;> simp
def addrS (a : Int) : List UInt8:=numS (a / 16777216) ++ [46] ++ numS (a / 65536 % 256) ++ [46] ++ numS (a / 256 % 256) ++ [46] ++ numS (a % 256)
def ptxS (a b : Int) : List UInt8:=if 0 ≤ b ∧ b ≤ 32 then addrS a ++ [47] ++ numS b else []
theorem addrS_len (a : Int) : (addrS a).length ≤ 15:=by
 have h1:=numS_len (a / 16777216)
 have h2:=numS_len (a / 65536 % 256)
 have h3:=numS_len (a / 256 % 256)
 have h4:=numS_len (a % 256)
 unfold addrS
 simp only [List.length_append,List.length_cons,List.length_nil]
 omega
end Go.Proofs
namespace Go.Proofs
open Go.Pv
theorem put_run1 (b : List UInt8) (n : Int) (hb : b.length ≤ 1000) (h : 0 ≤ n ∧ n < 10) : Run Tryz.prog 154 [.own 1 5 (bys b), .int .i64 n] (.own 1 5 (bys (b ++ numS n))):=by
 refine Tryz.run154 (by simp) ?_
 unfold Tryz.c154 numS
 rw [if_pos h.2]
 simp (disch:=first|omega|(simp only[pvl] at *;omega)) only [↓pvd,pva,pvr,bin2,binB2,un1,setCells,List.map,seval,reduceCtorEq]
 refine Ends_rq [[.own 1 5]] ?_
 simp (disch:=first|omega|(simp only[pvl] at *;omega)) only [↓pvd,pva,pvr,bin2,binB2,un1,setCells,List.map,seval,reduceCtorEq]
 exact ⟨_, rfl, by simp [bys, bv, u8i_nat] <;> omega, rfl⟩
theorem put_run2 (b : List UInt8) (n : Int) (hb : b.length ≤ 1000) (h : 0 ≤ n ∧ n < 100) : Run Tryz.prog 154 [.own 1 5 (bys b), .int .i64 n] (.own 1 5 (bys (b ++ numS n))):=by
 by_cases h1 : n < 10
 ·exact put_run1 b n hb ⟨h.1, h1⟩
 refine Tryz.run154 (by simp) ?_
 unfold Tryz.c154 numS
 rw [if_neg h1, if_pos h.2]
 have q:=put_run1 b (n / 10) hb (by omega)
 unfold numS at q
 rw [if_pos (by omega)] at q
 simp (disch:=first|omega|(simp only[pvl] at *;omega)) only [↓pvd,pva,pvr,bin2,binB2,un1,setCells,List.map,seval,reduceCtorEq]
 refine awR_callS (ms:=[.own 1 5]) q (by simp (disch:=first|omega|(simp only[pvl] at *;omega)) only [↓pvd,pva,pvr,bin2,binB2,un1,setCells,List.map,seval,reduceCtorEq]; rfl) (by simp (disch:=first|omega|(simp only[pvl] at *;omega)) only [↓pvd,pva,pvr,bin2,binB2,un1,setCells,List.map,seval,reduceCtorEq]) ?_
 simp (disch:=first|omega|(simp only[pvl] at *;omega)) only [↓pvd,pva,pvr,bin2,binB2,un1,setCells,List.map,seval,reduceCtorEq]
 refine Ends_rq [[.own 1 5]] ?_
 simp (disch:=first|omega|(simp only[pvl] at *;omega)) only [↓pvd,pva,pvr,bin2,binB2,un1,setCells,List.map,seval,reduceCtorEq]
 exact ⟨_, rfl, by simp [bys, bv, u8i_nat] <;> omega, rfl⟩
theorem put_run3 (b : List UInt8) (n : Int) (hb : b.length ≤ 1000) (h : 0 ≤ n ∧ n < 1000) : Run Tryz.prog 154 [.own 1 5 (bys b), .int .i64 n] (.own 1 5 (bys (b ++ numS n))):=by
 by_cases h1 : n < 100
 ·exact put_run2 b n hb ⟨h.1, h1⟩
 refine Tryz.run154 (by simp) ?_
 unfold Tryz.c154 numS
 rw [if_neg (by omega), if_neg h1]
 have q:=put_run2 b (n / 10) hb (by omega)
 unfold numS at q
 rw [if_neg (by omega), if_pos (by omega)] at q
 have e1 : n / 10 / 10 = n / 100:=by omega
 rw [e1] at q
 simp (disch:=first|omega|(simp only[pvl] at *;omega)) only [↓pvd,pva,pvr,bin2,binB2,un1,setCells,List.map,seval,reduceCtorEq]
 refine awR_callS (ms:=[.own 1 5]) q (by simp (disch:=first|omega|(simp only[pvl] at *;omega)) only [↓pvd,pva,pvr,bin2,binB2,un1,setCells,List.map,seval,reduceCtorEq]; rfl) (by simp (disch:=first|omega|(simp only[pvl] at *;omega)) only [↓pvd,pva,pvr,bin2,binB2,un1,setCells,List.map,seval,reduceCtorEq]) ?_
 simp (disch:=first|omega|(simp only[pvl] at *;omega)) only [↓pvd,pva,pvr,bin2,binB2,un1,setCells,List.map,seval,reduceCtorEq]
 refine Ends_rq [[.own 1 5]] ?_
 simp (disch:=first|omega|(simp only[pvl] at *;omega)) only [↓pvd,pva,pvr,bin2,binB2,un1,setCells,List.map,seval,reduceCtorEq]
 exact ⟨_, rfl, by simp [bys, bv, u8i_nat] <;> omega, rfl⟩
end Go.Proofs
namespace Go.Proofs
open Go.Pv
theorem text_run (a : Int) (h : 0 ≤ a ∧ a ≤ 4294967295) : Run Tryz.prog 140 [.int .u32 a] (.str (addrS a)):=by
 refine Tryz.run140 (by simp) ?_
 unfold Tryz.c140
 have l1:=numS_len (a / 16777216)
 have l2:=numS_len (a / 65536 % 256)
 have l3:=numS_len (a / 256 % 256)
 have l4:=numS_len (a % 256)
 have q1:=put_run3 [] (a / 16777216) (by simp) (by omega)
 have q2:=put_run3 (numS (a / 16777216) ++ [46]) (a / 65536 % 256) (by simp; omega) (by omega)
 have q3:=put_run3 (numS (a / 16777216) ++ [46] ++ numS (a / 65536 % 256) ++ [46]) (a / 256 % 256) (by simp; omega) (by omega)
 have q4:=put_run3 (numS (a / 16777216) ++ [46] ++ numS (a / 65536 % 256) ++ [46] ++ numS (a / 256 % 256) ++ [46]) (a % 256) (by simp; omega) (by omega)
 simp (disch:=first|omega|(simp only[pvl] at *;omega)) only [↓pvd,pva,pvr,bin2,binB2,un1,setCells,List.map,seval,reduceCtorEq]
 simp only [bys,List.nil_append] at q1 q2 q3 q4
 have hfold : ∀ x : List UInt8, List.map bv x ++ [AV.int .u8 46] = List.map bv (x ++ [46]):=fun x=>by rw [List.map_append]; rfl
 refine aw_unroll 5 ?_
 simp (disch:=first|omega|(simp only[pvl];omega)) only [↓pvd,pva,pvr,bin2,binB2,un1,setCells,List.map,seval,reduceCtorEq,unr_s,unrT_e,Tryz.c140b0]
 have e1 : a / 16777216 % 256 = a / 16777216:=by omega
 refine awR_callS (ms:=[.own 1 5]) q1 (by simp (disch:=first|omega|(simp only[pvl];omega)) only [↓pvd,pva,pvr,bin2,binB2,un1,setCells,List.map,seval,reduceCtorEq,e1]; rfl) (by simp (disch:=first|omega|(simp only[pvl] at *;omega)) only [↓pvd,pva,pvr,bin2,binB2,un1,setCells,List.map,seval,reduceCtorEq]) ?_
 simp (disch:=first|omega|(simp only[pvl];omega)) only [↓pvd,pva,pvr,bin2,binB2,un1,setCells,List.map,seval,reduceCtorEq,unr_s,unrT_e,Tryz.c140b0,hfold]
 refine awR_callS (ms:=[.own 1 5]) q2 (by simp (disch:=first|omega|(simp only[pvl];omega)) only [↓pvd,pva,pvr,bin2,binB2,un1,setCells,List.map,seval,reduceCtorEq,e1]; rfl) (by simp (disch:=first|omega|(simp only[pvl] at *;omega)) only [↓pvd,pva,pvr,bin2,binB2,un1,setCells,List.map,seval,reduceCtorEq]) ?_
 simp (disch:=first|omega|(simp only[pvl];omega)) only [↓pvd,pva,pvr,bin2,binB2,un1,setCells,List.map,seval,reduceCtorEq,unr_s,unrT_e,Tryz.c140b0,hfold]
 refine awR_callS (ms:=[.own 1 5]) q3 (by simp (disch:=first|omega|(simp only[pvl];omega)) only [↓pvd,pva,pvr,bin2,binB2,un1,setCells,List.map,seval,reduceCtorEq,e1]; rfl) (by simp (disch:=first|omega|(simp only[pvl] at *;omega)) only [↓pvd,pva,pvr,bin2,binB2,un1,setCells,List.map,seval,reduceCtorEq]) ?_
 simp (disch:=first|omega|(simp only[pvl];omega)) only [↓pvd,pva,pvr,bin2,binB2,un1,setCells,List.map,seval,reduceCtorEq,unr_s,unrT_e,Tryz.c140b0,hfold]
 refine awR_callS (ms:=[.own 1 5]) q4 (by simp (disch:=first|omega|(simp only[pvl];omega)) only [↓pvd,pva,pvr,bin2,binB2,un1,setCells,List.map,seval,reduceCtorEq,e1,Int.ediv_one]; rfl) (by simp (disch:=first|omega|(simp only[pvl] at *;omega)) only [↓pvd,pva,pvr,bin2,binB2,un1,setCells,List.map,seval,reduceCtorEq]) ?_
 have ha : addrS a = numS (a / 16777216) ++ [46] ++ numS (a / 65536 % 256) ++ [46] ++ numS (a / 256 % 256) ++ [46] ++ numS (a % 256):=rfl
 rw [ha]
 simp (disch:=first|omega|(simp only[pvl];omega)) only [↓pvd,pva,pvr,bin2,binB2,un1,setCells,List.map,seval,reduceCtorEq,unr_s,unrT_e,Tryz.c140b0,hfold]
 (refine Ends_rq [] ?_; simp (disch:=first|omega|(simp only[pvl];omega)) only [↓pvd,pva,pvr,bin2,binB2,un1,setCells,List.map,seval,reduceCtorEq]; exact ⟨_,rfl,rfl,rfl⟩)
end Go.Proofs
namespace Go.Proofs
open Go.Pv
theorem ib_run (s : List UInt8) (c : UInt8) (hs : s.length ≤ 100000) : Run Tryz.prog 147 [.str s, .int .u8 (c.toNat : Int)] (.int .i64 (Lib.indexByte s c)):=by
 refine Tryz.run147 (by simp) ?_
 unfold Tryz.c147
 have e : (c.toNat : Int).toNat.toUInt8 = c:=by simp
 simp (disch:=first|omega|(simp only[pvl] at *;omega)) only [↓pvd,pva,pvr,bin2,binB2,un1,setCells,List.map,seval,reduceCtorEq]
 simp only [Int.toNat_natCast] at e
 rw [e]
 (refine Ends_rq [] ?_; simp (disch:=first|omega|(simp only[pvl];omega)) only [↓pvd,pva,pvr,bin2,binB2,un1,setCells,List.map,seval,reduceCtorEq]; exact ⟨_,rfl,rfl,rfl⟩)
theorem ix_b : ∀ (s : List UInt8) (c : UInt8), -1 ≤ Lib.indexByte s c ∧ Lib.indexByte s c < s.length
 | [], c=>by simp [Lib.indexByte]
 | b :: s, c=>by
  have h:=ix_b s c
  unfold Lib.indexByte
  simp only [List.length_cons]
  split
  ·omega
  ·split
   ·omega
   ·omega
theorem ix_run (s : List UInt8) (c : UInt8) (hs : s.length ≤ 100000) : Run Tryz.prog 121 [.str s, .str [c]] (.int .i64 (Lib.indexByte s c)):=by
 have q:=ib_run s c hs
 refine Tryz.run121 (by simp) ?_
 unfold Tryz.c121
 have e : s = [c] → Lib.indexByte s c = 0:=fun h=>by rw [h]; simp [Lib.indexByte]
 generalize Lib.indexByte s c = r at *
 by_cases h : s = [c]
 ·rw [e h]
  subst h
  simp (disch:=first|omega|(simp only[pvl] at *;omega)) only [↓pvd,pva,pvr,bin2,binB2,un1,setCells,List.map,seval,reduceCtorEq]
  (refine Ends_rq [] ?_; simp (disch:=first|omega|(simp only[pvl];omega)) only [↓pvd,pva,pvr,bin2,binB2,un1,setCells,List.map,seval,reduceCtorEq]; exact ⟨_,rfl,rfl,rfl⟩)
 ·have h' : decide ([c] = s) = false:=decide_eq_false (fun x=>h x.symm)
  have hb : ∀ x : List UInt8, ([c] = s) = False:=fun _=>eq_false (fun x=>h x.symm)
  simp (disch:=first|omega|(simp only[pvl] at *;omega)) only [↓pvd,pva,pvr,bin2,binB2,un1,setCells,List.map,seval,reduceCtorEq]
  refine condP_d (fun h2=>absurd h2.symm h) (fun _=>?_)
  simp (disch:=first|omega|(simp only[pvl];omega)) only [↓pvd,pva,pvr,bin2,binB2,un1,setCells,List.map,seval,reduceCtorEq,bv,List.getElem?_cons_zero]
  refine awR_call q rfl rfl ?_
  simp (disch:=first|omega|(simp only[pvl] at *;omega)) only [↓pvd,pva,pvr,bin2,binB2,un1,setCells,List.map,seval,reduceCtorEq]
  (refine Ends_rq [] ?_; simp (disch:=first|omega|(simp only[pvl];omega)) only [↓pvd,pva,pvr,bin2,binB2,un1,setCells,List.map,seval,reduceCtorEq]; exact ⟨_,rfl,rfl,rfl⟩)
theorem sindex_run (s : List UInt8) (c : UInt8) (hs : s.length ≤ 100000) : Run Tryz.prog 129 [.str s, .str [c]] (.int .i64 (Lib.indexByte s c)):=by
 have q:=ix_run s c hs
 refine Tryz.run129 (by simp) ?_
 unfold Tryz.c129
 simp (disch:=first|omega|(simp only[pvl] at *;omega)) only [↓pvd,pva,pvr,bin2,binB2,un1,setCells,List.map,seval,reduceCtorEq]
 refine awR_call q rfl rfl ?_
 simp (disch:=first|omega|(simp only[pvl] at *;omega)) only [↓pvd,pva,pvr,bin2,binB2,un1,setCells,List.map,seval,reduceCtorEq]
 (refine Ends_rq [] ?_; simp (disch:=first|omega|(simp only[pvl];omega)) only [↓pvd,pva,pvr,bin2,binB2,un1,setCells,List.map,seval,reduceCtorEq]; exact ⟨_,rfl,rfl,rfl⟩)
def cutF (c : UInt8) (s : List UInt8) : List UInt8 × List UInt8 × Bool :=
 if 0 ≤ Lib.indexByte s c then (s.take (Lib.indexByte s c).toNat, s.drop ((Lib.indexByte s c).toNat + 1), true) else (s, [], false)
def cutR (p : List UInt8 × List UInt8 × Bool) : AV:=.tup [.str p.1, .str p.2.1, .bool p.2.2]
theorem slcut_run (s : List UInt8) (c : UInt8) (hs : s.length ≤ 100000) : Run Tryz.prog 91 [.str s, .str [c]] (cutR (cutF c s)):=by
 have q:=ix_run s c hs
 refine Tryz.run91 (by simp) ?_
 unfold Tryz.c91 cutF
 have hb:=ix_b s c
 generalize Lib.indexByte s c = r at *
 by_cases h : 0 ≤ r
 ·rw [if_pos h]
  obtain ⟨k, rfl⟩ : ∃ k : Nat, r = k:=⟨r.toNat, by omega⟩
  simp (disch:=first|omega|(simp only[pvl] at *;omega)) only [↓pvd,pva,pvr,bin2,binB2,un1,setCells,List.map,seval,reduceCtorEq]
  refine awR_call q rfl rfl ?_
  simp (disch:=first|omega|(simp only[pvl];omega)) only [↓pvd,pva,pvr,bin2,binB2,un1,setCells,List.map,seval,reduceCtorEq,cutR]
  (refine Ends_rq [] ?_; simp (disch:=first|omega|(simp only[pvl];omega)) only [↓pvd,pva,pvr,bin2,binB2,un1,setCells,List.map,seval,reduceCtorEq,cutR]; exact ⟨_,rfl,rfl,rfl⟩)
 ·rw [if_neg h]
  simp (disch:=first|omega|(simp only[pvl] at *;omega)) only [↓pvd,pva,pvr,bin2,binB2,un1,setCells,List.map,seval,reduceCtorEq]
  refine awR_call q rfl rfl ?_
  simp (disch:=first|omega|(simp only[pvl];omega)) only [↓pvd,pva,pvr,bin2,binB2,un1,setCells,List.map,seval,reduceCtorEq,cutR]
  (refine Ends_rq [] ?_; simp (disch:=first|omega|(simp only[pvl];omega)) only [↓pvd,pva,pvr,bin2,binB2,un1,setCells,List.map,seval,reduceCtorEq,cutR]; exact ⟨_,rfl,rfl,rfl⟩)
theorem cut_run (s : List UInt8) (c : UInt8) (hs : s.length ≤ 100000) : Run Tryz.prog 56 [.str s, .str [c]] (cutR (cutF c s)):=by
 have q:=slcut_run s c hs
 refine Tryz.run56 (by simp) ?_
 unfold Tryz.c56
 generalize cutF c s = p at *
 obtain ⟨a, b, d⟩:=p
 simp only [cutR] at *
 simp (disch:=first|omega|(simp only[pvl] at *;omega)) only [↓pvd,pva,pvr,bin2,binB2,un1,setCells,List.map,seval,reduceCtorEq]
 refine awR_call q rfl rfl ?_
 simp (disch:=first|omega|(simp only[pvl] at *;omega)) only [↓pvd,pva,pvr,bin2,binB2,un1,setCells,List.map,seval,reduceCtorEq]
 (refine Ends_rq [] ?_; simp (disch:=first|omega|(simp only[pvl];omega)) only [↓pvd,pva,pvr,bin2,binB2,un1,setCells,List.map,seval,reduceCtorEq]; exact ⟨_,rfl,rfl,rfl⟩)
end Go.Proofs
namespace Go.Proofs
open Go.Pv
def isD (c : UInt8) : Bool:=decide (48 ≤ (c.toNat : Int) ∧ (c.toNat : Int) ≤ 57)
def vF (ds : List UInt8) : Nat → Int
 | 0=>0
 | k + 1=>10 * vF ds k + ((ds[k]!.toNat : Int) - 48)
theorem vF_b (ds : List UInt8) : ∀ (k : Nat), (∀ j < k, isD ds[j]! = true) → 0 ≤ vF ds k ∧ vF ds k < 10 ^ k
 | 0, _=>by simp [vF]
 | k + 1, h=>by
  have h1:=vF_b ds k (fun j hj=>h j (by omega))
  have h2:=of_decide_eq_true (h k (by omega))
  rw [vF, Int.pow_succ]
  omega
theorem vF_b3 (ds : List UInt8) (k : Nat) (hk : k ≤ 3) (h : ∀ j < k, isD ds[j]! = true) : 0 ≤ vF ds k ∧ vF ds k < 1000:=by
 have h1:=vF_b ds k h
 have h3 : ((10 ^ k : Nat) : Int) ≤ ((10 ^ 3 : Nat) : Int):=by exact_mod_cast Nat.pow_le_pow_right (n:=10) (by omega) hk
 have h2 : (10 : Int) ^ k ≤ 1000:=by simpa using h3
 omega
theorem allD_no {w : List UInt8} {i : Nat} (hi : i < w.length) (h : isD w[i]! = false) : w.all isD = false:=by
 rw [List.all_eq_false]
 exact ⟨w[i]!, by rw [getElem!_pos w i hi]; exact List.getElem_mem hi, by rw [h]; simp⟩
theorem allD_yes {w : List UInt8} (h : ∀ k, k < w.length → isD w[k]! = true) : w.all isD = true:=by
 rw [List.all_eq_true]
 intro c hc
 obtain ⟨k, hk, rfl⟩:=List.mem_iff_getElem.1 hc
 have:=h k hk
 rwa [getElem!_pos w k hk] at this
def okS (s : List UInt8) : Bool:=decide (1 ≤ s.length ∧ s.length ≤ 3 ∧ ¬ (1 < s.length ∧ s[0]! = 48)) && s.all isD
def vS (s : List UInt8) : Int:=vF s s.length
def smR (s : List UInt8) (m : Int) : AV:=if okS s then .tup [.int .i64 (vS s), .bool (decide (vS s ≤ m))] else .tup [.int .i64 0, .bool false]
theorem small_run (s : List UInt8) (m : Int) (hs : s.length ≤ 100000) (hm : 0 ≤ m ∧ m ≤ 1000) : Run Tryz.prog 69 [.str s, .int .i64 m] (smR s m):=by
 refine Tryz.run69 (by simp) ?_
 unfold Tryz.c69
 by_cases h1 : 1 ≤ s.length ∧ s.length ≤ 3 ∧ ¬ (1 < s.length ∧ s[0]! = 48)
 ·have hg0 : s[0]? = some s[0]!:=by rw [getElem!_pos s 0 (by omega), List.getElem?_eq_getElem (by omega)]
  have hx0 : 1 < s.length → (s[0]!.toNat : Int) ≠ 48:=fun h2 h3=>h1.2.2 ⟨h2, UInt8.toNat_inj.1 (by simpa using (by omega : s[0]!.toNat = 48))⟩
  by_cases h2 : 1 < s.length
  case' pos=>have hx1:=hx0 h2
  all_goals
   repeat' (first | (simp (disch:=first|omega|(simp only[pvl];omega)) only [↓pvd,pva,pvr,bin2,binB2,un1,setCells,List.map,seval,reduceCtorEq,hg0,bv,still]) | (with_reducible first|refine condP_d (fun _=>?_) (fun _=>?_)|refine guardP_d0 (fun _=>?_) (fun _=>?_)|refine guardP_d1 (fun _=>?_) (fun _=>?_)|refine condP_any ?_ ?_) | (refine Ends_rq [] ?_; simp (disch:=first|omega|(simp only[pvl];omega)) only [↓pvd,pva,pvr,bin2,binB2,un1,setCells,List.map,seval,reduceCtorEq]; exact ⟨_,rfl,rfl,rfl⟩))
   refine aw_loop (fun k : Nat=>⟨[(0, .str s), (1, .int .i64 m), (6, .int .i64 (vF s k)), (27, .int .i64 s.length), (28, .int .i64 k)], []⟩) (fun k=>k ≤ s.length ∧ ∀ j < k, isD s[j]! = true) (fun k=>s.length - k) 0 rfl ⟨by omega, by simp⟩ ?_
   rintro k ⟨hk, hp⟩
   unfold Tryz.c69b0
   have hv:=vF_b3 s k (by omega) hp
   by_cases hx : k < s.length
   ·have hgi : s[k]? = some s[k]!:=by rw [getElem!_pos s k hx, List.getElem?_eq_getElem hx]
    by_cases hd : isD s[k]! = true
    ·have h4:=of_decide_eq_true hd
     have hv2 : vF s (k + 1) = 10 * vF s k + ((s[k]!.toNat : Int) - 48):=rfl
     repeat' (first | (simp (disch:=first|omega|(simp only[pvl];omega)) only [↓pvd,pva,pvr,bin2,binB2,un1,setCells,List.map,seval,reduceCtorEq,hgi,bv,still]) | (with_reducible first|refine condP_d (fun _=>?_) (fun _=>?_)|refine guardP_d0 (fun _=>?_) (fun _=>?_)|refine guardP_d1 (fun _=>?_) (fun _=>?_)|refine condP_any ?_ ?_) | (refine Ends_rq [] ?_; simp (disch:=first|omega|(simp only[pvl];omega)) only [↓pvd,pva,pvr,bin2,binB2,un1,setCells,List.map,seval,reduceCtorEq]; exact ⟨_,rfl,rfl,rfl⟩))
     refine ⟨k + 1, ?_, ⟨by omega, fun j hj=>?_⟩, by omega⟩
     ·have hm : (((s[k]!.toNat : Nat) : Int) - 48) % 256 = (s[k]!.toNat : Int) - 48:=by omega
      rw [hv2, hm]
      simp
     ·by_cases hjk : j = k
      ·rw [hjk]; exact hd
      ·exact hp j (by omega)
    ·have h3 : isD s[k]! = false:=by simpa using hd
     have h4:=of_decide_eq_false h3
     have h5 : okS s = false:=by unfold okS; rw [allD_no hx h3, Bool.and_false]
     unfold smR
     rw [h5]
     repeat' (first | (simp (disch:=first|omega|(simp only[pvl];omega)) only [↓pvd,pva,pvr,bin2,binB2,un1,setCells,List.map,seval,reduceCtorEq,hgi,bv,still]) | (with_reducible first|refine condP_d (fun _=>?_) (fun _=>?_)|refine guardP_d0 (fun _=>?_) (fun _=>?_)|refine guardP_d1 (fun _=>?_) (fun _=>?_)|refine condP_any ?_ ?_) | (refine Ends_rq [] ?_; simp (disch:=first|omega|(simp only[pvl];omega)) only [↓pvd,pva,pvr,bin2,binB2,un1,setCells,List.map,seval,reduceCtorEq]; exact ⟨_,rfl,rfl,rfl⟩))
   ·have hkl : k = s.length:=by omega
    subst hkl
    have h5 : okS s = true:=by unfold okS; rw [allD_yes hp, Bool.and_true]; exact decide_eq_true h1
    have h6 : vS s = vF s s.length:=rfl
    unfold smR
    rw [h5, h6]
    repeat' (first | (simp (disch:=first|omega|(simp only[pvl];omega)) only [↓pvd,pva,pvr,bin2,binB2,un1,setCells,List.map,seval,reduceCtorEq,still]) | (with_reducible first|refine condP_d (fun _=>?_) (fun _=>?_)|refine guardP_d0 (fun _=>?_) (fun _=>?_)|refine guardP_d1 (fun _=>?_) (fun _=>?_)|refine condP_any ?_ ?_) | (refine Ends_rq [] ?_; simp (disch:=first|omega|(simp only[pvl];omega)) only [↓pvd,pva,pvr,bin2,binB2,un1,setCells,List.map,seval,reduceCtorEq]; exact ⟨_,rfl,rfl,rfl⟩))
 ·have h5 : okS s = false:=by unfold okS; rw [decide_eq_false h1, Bool.false_and]
  unfold smR
  rw [h5]
  by_cases h2 : 1 ≤ s.length ∧ s.length ≤ 3
  ·have hg0 : s[0]? = some s[0]!:=by rw [getElem!_pos s 0 (by omega), List.getElem?_eq_getElem (by omega)]
   have h3 : 1 < s.length ∧ s[0]! = 48:=by
    by_cases h3 : 1 < s.length ∧ s[0]! = 48
    ·exact h3
    ·exact absurd ⟨h2.1, h2.2, h3⟩ h1
   have h4 : (s[0]!.toNat : Int) = 48:=by rw [h3.2]; rfl
   have h6:=h3.1
   repeat' (first | (simp (disch:=first|omega|(simp only[pvl];omega)) only [↓pvd,pva,pvr,bin2,binB2,un1,setCells,List.map,seval,reduceCtorEq,hg0,bv,still]) | (with_reducible first|refine condP_d (fun _=>?_) (fun _=>?_)|refine guardP_d0 (fun _=>?_) (fun _=>?_)|refine guardP_d1 (fun _=>?_) (fun _=>?_)|refine condP_any ?_ ?_) | (refine Ends_rq [] ?_; simp (disch:=first|omega|(simp only[pvl];omega)) only [↓pvd,pva,pvr,bin2,binB2,un1,setCells,List.map,seval,reduceCtorEq]; exact ⟨_,rfl,rfl,rfl⟩))
  ·by_cases h3 : s.length = 0
   ·have : s = []:=List.eq_nil_of_length_eq_zero h3
    subst this
    repeat' (first | (simp (disch:=first|omega|(simp only[pvl];omega)) only [↓pvd,pva,pvr,bin2,binB2,un1,setCells,List.map,seval,reduceCtorEq,still]) | (with_reducible first|refine condP_d (fun _=>?_) (fun _=>?_)|refine guardP_d0 (fun _=>?_) (fun _=>?_)|refine guardP_d1 (fun _=>?_) (fun _=>?_)|refine condP_any ?_ ?_) | (refine Ends_rq [] ?_; simp (disch:=first|omega|(simp only[pvl];omega)) only [↓pvd,pva,pvr,bin2,binB2,un1,setCells,List.map,seval,reduceCtorEq]; exact ⟨_,rfl,rfl,rfl⟩))
   ·have : 3 < s.length:=by omega
    repeat' (first | (simp (disch:=first|omega|(simp only[pvl];omega)) only [↓pvd,pva,pvr,bin2,binB2,un1,setCells,List.map,seval,reduceCtorEq,still]) | (with_reducible first|refine condP_d (fun _=>?_) (fun _=>?_)|refine guardP_d0 (fun _=>?_) (fun _=>?_)|refine guardP_d1 (fun _=>?_) (fun _=>?_)|refine condP_any ?_ ?_) | (refine Ends_rq [] ?_; simp (disch:=first|omega|(simp only[pvl];omega)) only [↓pvd,pva,pvr,bin2,binB2,un1,setCells,List.map,seval,reduceCtorEq]; exact ⟨_,rfl,rfl,rfl⟩))
theorem isD_b {c : UInt8} (h : isD c = true) : 48 ≤ (c.toNat : Int) ∧ (c.toNat : Int) ≤ 57:=of_decide_eq_true h
theorem u8i_digit {c : UInt8} (h : isD c = true) {n : Int} (hn : n = (c.toNat : Int)) : u8i n = c:=u8i_of (by have:=isD_b h; omega)
theorem numS_vS {s : List UInt8} (hs : 1 ≤ s.length ∧ s.length ≤ 3) (hd : s.all isD = true) : numS (vS s) = s ↔ ¬ (1 < s.length ∧ s[0]! = 48):=by
 have x48 : ∀ c : UInt8, c = 48 ↔ (c.toNat : Int) = 48:=fun c=>⟨fun h=>by rw [h]; rfl, fun h=>UInt8.toNat_inj.1 (by simpa using (by omega : c.toNat = 48))⟩
 match s, hs, hd with
 | [a], _, hd =>
  simp only [List.all_cons,List.all_nil,Bool.and_true] at hd
  have ha:=isD_b hd
  have e : vS [a] = (a.toNat : Int) - 48:=by simp [vS, vF]
  rw [e]
  unfold numS
  rw [if_pos (by omega)]
  simp [u8i_digit hd (by omega : 48 + ((a.toNat : Int) - 48) = _)]
 | [a, b], _, hd =>
  simp only [List.all_cons,List.all_nil,Bool.and_true,Bool.and_eq_true] at hd
  have ha:=isD_b hd.1
  have hb:=isD_b hd.2
  have e : vS [a, b] = 10 * ((a.toNat : Int) - 48) + ((b.toNat : Int) - 48):=by simp [vS, vF]
  have x:=x48 a
  have e0 : ([a, b] : List UInt8)[0]! = a:=rfl
  rw [e, e0, x]
  unfold numS
  by_cases h : (a.toNat : Int) = 48
  ·rw [if_pos (by omega)]; simp [h]
  ·rw [if_neg (by omega), if_pos (by omega), u8i_digit hd.1 (by omega), u8i_digit hd.2 (by omega)]
   simp [h]
 | [a, b, c], _, hd =>
  simp only [List.all_cons,List.all_nil,Bool.and_true,Bool.and_eq_true] at hd
  have ha:=isD_b hd.1
  have hb:=isD_b hd.2.1
  have hc:=isD_b hd.2.2
  have e : vS [a, b, c] = 10 * (10 * ((a.toNat : Int) - 48) + ((b.toNat : Int) - 48)) + ((c.toNat : Int) - 48):=by simp [vS, vF]
  have x:=x48 a
  have e0 : ([a, b, c] : List UInt8)[0]! = a:=rfl
  rw [e, e0, x]
  unfold numS
  by_cases h : (a.toNat : Int) = 48
  ·generalize hv : 10 * (10 * ((a.toNat : Int) - 48) + ((b.toNat : Int) - 48)) + ((c.toNat : Int) - 48) = v
   by_cases h2 : v < 10
   ·rw [if_pos h2]; simp [h]
   ·rw [if_neg h2, if_pos (by omega)]; simp [h]
  ·rw [if_neg (by omega), if_neg (by omega), u8i_digit hd.1 (by omega), u8i_digit hd.2.1 (by omega), u8i_digit hd.2.2 (by omega)]
   simp [h]
theorem vS_b {s : List UInt8} (h : okS s = true) : 0 ≤ vS s ∧ vS s < 1000:=by
 unfold okS at h
 simp only [Bool.and_eq_true,decide_eq_true_eq] at h
 refine vF_b3 s s.length h.1.2.1 fun j hj=>?_
 have:=List.all_eq_true.1 h.2 s[j]! (by rw [getElem!_pos s j hj]; exact List.getElem_mem hj)
 exact this
end Go.Proofs
namespace Go.Proofs
open Go.Pv
def spJ (part : List UInt8) : List (List UInt8) → List (List UInt8)
 | p :: r=>(part ++ p) :: r
 | []=>[part]
def sp : List UInt8 → List (List UInt8)
 | []=>[[]]
 | c :: r=>if c = 46 then [] :: sp r else spJ [c] (sp r)
theorem sp_ne (s : List UInt8) : sp s ≠ []:=by
 cases s with
 | nil=>simp [sp]
 | cons c r =>
  unfold sp
  split
  ·simp
  ·unfold spJ; split <;> simp
def goodP (p : List UInt8) : Bool:=okS p && decide (vS p ≤ 255)
def accF (ps : List (List UInt8)) : Int:=ps.foldl (fun a p=>a * 256 + vS p) 0
theorem accF_snoc (ps : List (List UInt8)) (p : List UInt8) : accF (ps ++ [p]) = accF ps * 256 + vS p:=by simp [accF]
def rdA (ps : List (List UInt8)) : AV:=if ps.length = 4 ∧ ps.all goodP = true then .tup [.int .u32 (accF ps), .bool true] else .tup [.int .u32 0, .bool false]
theorem goodP_b {p : List UInt8} (h : goodP p = true) : 0 ≤ vS p ∧ vS p ≤ 255 ∧ p.length ≤ 3:=by
 unfold goodP at h
 simp only [Bool.and_eq_true,decide_eq_true_eq] at h
 have:=vS_b h.1
 have h2:=h.1
 unfold okS at h2
 simp only [Bool.and_eq_true,decide_eq_true_eq] at h2
 omega
theorem accF_r : ∀ (n : Nat) (ps : List (List UInt8)), ps.length = n → ps.all goodP = true → 0 ≤ accF ps ∧ accF ps < 256 ^ n
 | 0, ps, hl, _=>by
  have : ps = []:=List.eq_nil_of_length_eq_zero hl
  subst this
  simp [accF]
 | n + 1, ps, hl, h=>by
  obtain ⟨qs, p, rfl⟩ : ∃ qs p, ps = qs ++ [p]:=⟨ps.dropLast, ps.getLast (by intro e; subst e; simp at hl), (List.dropLast_concat_getLast _).symm⟩
  simp only [List.length_append,List.length_cons,List.length_nil,List.all_append,List.all_cons,List.all_nil,Bool.and_true,Bool.and_eq_true] at hl h
  have h1:=accF_r n qs (by omega) h.1
  have h2:=goodP_b h.2
  rw [accF_snoc, Int.pow_succ]
  omega
theorem accF_b (ps : List (List UInt8)) (hl : ps.length ≤ 4) (h : ps.all goodP = true) : 0 ≤ accF ps ∧ accF ps ≤ 4294967295 ∧ (ps.length ≤ 3 → accF ps < 16777216):=by
 have h1:=accF_r ps.length ps rfl h
 have h3 : ((256 ^ ps.length : Nat) : Int) ≤ ((256 ^ 4 : Nat) : Int):=by exact_mod_cast Nat.pow_le_pow_right (n:=256) (by omega) hl
 have h4 : ps.length ≤ 3 → ((256 ^ ps.length : Nat) : Int) ≤ ((256 ^ 3 : Nat) : Int):=fun h=>by exact_mod_cast Nat.pow_le_pow_right (n:=256) (by omega) h
 have h5 : (256 : Int) ^ ps.length ≤ 4294967296:=by simpa using h3
 have h6 : ps.length ≤ 3 → (256 : Int) ^ ps.length ≤ 16777216:=fun h=>by simpa using h4 h
 refine ⟨h1.1, by omega, fun h=>by have:=h6 h; omega⟩
end Go.Proofs
/-
 A loop over a function whose function keeps state in cells of its own: what the loop's body owns lies below n₁, what the function owns from there to n₂.
-/
namespace Go.Pv
open Go.RowKit
structure Inner (n₁ n₂ : Nat) (A B : World) : Prop where
 low : Below n₁ A B
 high : ∀ k, n₂ ≤ k → k < A.heap.size → B.heap[k]? = A.heap[k]?
theorem Inner.refl (n₁ n₂ : Nat) (A : World) : Inner n₁ n₂ A A:=⟨Below.refl _ _, fun _ _ _=>rfl⟩
theorem Inner.trans {n₁ n₂ : Nat} {A B C : World} (h : Inner n₁ n₂ A B) (k : Inner n₁ n₂ B C) : Inner n₁ n₂ A C :=
 ⟨h.low.trans k.low, fun i h1 h2=>(k.high i h1 (Nat.lt_of_lt_of_le h2 h.low.size)).trans (h.high i h1 h2)⟩
def Iter {α : Type} (F : Fence) (n : Nat) (P : Program) (g : Nat) (lb : Array Value) (enc : α → Value) (n₁ n₂ : Nat) (xs : List α) (w : World) : Prop :=
 ∀ (l : Nat) (J Jx : List α → World → Prop) (W : World), w.heap.size ≤ W.heap.size → (∀ k, n₁ ≤ k → k < n₂ → W.heap[k]? = w.heap[k]?) →
  (∀ pre A B, J pre A → Inner n₁ n₂ A B → J pre B) →
  (∀ pre x A, x ∈ xs → J pre A → YieldAt F (n - 1) P l #[enc x] A fun e B =>
    (e = .returned (.bool true) ∧ J (pre ++ [x]) B ∧ A.heap.size ≤ B.heap.size ∧ (∀ k, n₁ ≤ k → k < n₂ → B.heap[k]? = A.heap[k]?)) ∨ (e = .returned (.bool false) ∧ Jx (pre ++ [x]) B)) →
  J [] W →
  CallsIn F n P g (#[.func (.yield l) #[] #[]] ++ lb) W fun e W'=>(∃ v, e = .returned v) ∧ (J xs W' ∨ ∃ pre, pre <+: xs ∧ Jx pre W')
def bodyEnd {α : Type} (n₁ : Nat) (I : List α → World → Prop) (Ix : Nat → List α → World → Prop) (xs : List α) (W : World) : Exit → Act → World → Prop
 | .normal, _, W'=>W.heap.size ≤ W'.heap.size ∧ (∀ k, n₁ ≤ k → k < W.heap.size → W'.heap[k]? = W.heap[k]?) ∧ I xs W'
 | .exit id, _, W'=>W.heap.size ≤ W'.heap.size ∧ (∀ k, n₁ ≤ k → k < W.heap.size → W'.heap[k]? = W.heap[k]?) ∧ Ix id xs W'
 | _, _, _=>False
variable {F : Fence} {n : Nat} {P : Program}
theorem wpIn_range {α : Type} {g : Operand} {p : Tmp} {assign body : Code} {Q : Exit → Act → World → Prop} {a : Act} {w : World}
  (hro : F.round = none) (h1 : 1 ≤ n) {gf : Nat} {lb : Array Value} (hg : a.eval g = .func (.func gf) #[] lb) (hFg : F.fn gf) (eg : ∀ args w, (callFunc gf args).run P w = .ok (.enter gf args) w)
  {enc : α → Value} {n₁ : Nat} {xs : List α} (hn : n₁ ≤ w.heap.size) (hseq : Iter F (n - 1) P gf lb enc n₁ w.heap.size xs w)
  (I : List α → World → Prop) (Ix : Nat → List α → World → Prop) (hI : ∀ pre A B, I pre A → Below n₁ A B → I pre B) (hIx : ∀ id pre A B, Ix id pre A → Below n₁ A B → Ix id pre B) (h0 : I [] w) (a₁ : α → Act)
  (hassign : ∀ (l : Nat) (x : α) (W : World) (K : Act → World → Prop), K (a₁ x) W →
    assign.wpIn (F.inRound l) (n - 1 - 1) P (Exit.then K (fun _ _ _=>False)) { tmps:=a.tmps.setIfInBounds p (enc x), defers:=[] } W)
  (hbody : ∀ (l : Nat) (pre : List α) (x : α) (W : World), x ∈ xs → I pre W → body.wpIn (F.inRound l) (n - 1 - 1) P (bodyEnd n₁ I Ix (pre ++ [x]) W) (a₁ x) W)
  (hdone : ∀ (D : Nat) (W : World), w.heap.size ≤ D → I xs W → W.heap[D]? = some (.deferred (some [])) → Q .normal { a with defers:={ target:=.collected D, args:=#[] } :: a.defers } W)
  (hstop : ∀ (D : Nat) (id : Nat) (pre : List α) (W : World), w.heap.size ≤ D → pre <+: xs → Ix id pre W → W.heap[D]? = some (.deferred (some [])) → (Code.exit id).wpIn F n P Q { a with defers:={ target:=.collected D, args:=#[] } :: a.defers } W) :
  (Code.rangeFunc g #[p] assign body).wpIn F n P Q a w:=by
 refine wpIn_rangeFunc fun fn hfn=>?_
 rw [hro]
 obtain ⟨rc, hrc⟩ : ∃ rc : LoopState → Option Code → Loop, rc = fun st pe=>{ state:=st, pending:=pe, fn, tmps:=a.tmps, params:=#[p], assign, body, defers:=w.heap.size }:=⟨_, rfl⟩
 obtain ⟨W1, hW1⟩ : ∃ W1, (w.alloc (.deferred (some []))).alloc (.loop (rc .ready none)) = W1:=⟨_, rfl⟩
 have hB1 : Below w.heap.size w W1:=by
  rw [← hW1]; exact ((Below.refl _ w).alloc (Nat.le_refl _) _).alloc (by simp) _
 have hL1 : W1.heap[w.heap.size + 1]? = some (.loop (rc .ready none)):=by
  rw [← hW1]; have:=World.alloc_heap_new (w.alloc (.deferred (some []))) (.loop (rc .ready none)); rwa [World.size_alloc] at this
 have hK1 : W1.heap[w.heap.size]? = some (.deferred (some [])):=by
  rw [← hW1]; exact (Below.heap_alloc _ _ _ (by simp)).trans (World.alloc_heap_new w _)
 have hput : ∀ (W : World) (o : Obj), Below n₁ W (W.putObj (w.heap.size + 1) o):=fun W o =>
  (Below.refl n₁ W).trans ⟨rfl, rfl, rfl, by simp [World.putObj], fun k hk=>World.putObj_heap_other (by omega)⟩
 refine ⟨w.heap.size + 1, [{ target:=.collected w.heap.size, args:=#[] }], W1, { target:=.fn (.func gf) lb, args:=#[.func (.yield (w.heap.size + 1)) #[] #[]] }, W1, gf,
  #[.func (.yield (w.heap.size + 1)) #[] #[]] ++ lb, W1, ?_, ?_, ?_, ?_, fun _=>h1, ?_⟩
 ·rw [← hW1, hrc]; exact run_enterLoop_outer _ _ _ _ _
 ·simp only [resolve,hg]
  simp [go_sem]
 ·intro f' hf'; simp [Target.leads] at hf'; subst hf'; exact hFg
 ·simp [invoke, go_sem, eg]
 ·refine (hseq (w.heap.size + 1)
   (fun pre W=>I pre W ∧ W.heap[w.heap.size + 1]? = some (.loop (rc .ready none)) ∧ W.heap[w.heap.size]? = some (.deferred (some [])))
   (fun pre W=>∃ id, Ix id pre W ∧ W.heap[w.heap.size + 1]? = some (.loop (rc .done (some (.exit id)))) ∧ W.heap[w.heap.size]? = some (.deferred (some [])))
   W1 hB1.size (fun k _ hk=>hB1.block k hk)
   (fun pre A B h hk=>⟨hI pre A B h.1 hk.low, (hk.high _ (by omega) (Array.getElem?_eq_some_iff.1 h.2.1).1).trans h.2.1, (hk.high _ (by omega) (Array.getElem?_eq_some_iff.1 h.2.2).1).trans h.2.2⟩)
   ?_ ⟨hI _ _ _ h0 (hB1.mono hn), hL1, hK1⟩).mono ?_
  ·rintro pre x W hxs ⟨hi, hl, hk⟩
   have hlt : w.heap.size + 1 < W.heap.size:=(Array.getElem?_eq_some_iff.1 hl).1
   have hy:=run_yield (P:=P) (args:=#[enc x]) hl (by rw [hrc]; rfl)
   refine ⟨fn, _, assign, body, by rw [hrc] at hy; exact hy, roundIn_of_wpIn hfn ?_⟩
   have e1 : ((#[p].zip #[enc x]).foldl (fun tmps (t, a)=>tmps.setIfInBounds t a) a.tmps) = a.tmps.setIfInBounds p (enc x):=by simp
   rw [e1]
   refine hassign _ x W _ ⟨_, run_beginRound hl (by rw [hrc]), ?_⟩
   obtain ⟨Wb, hWb⟩ : ∃ Wb, W.putObj (w.heap.size + 1) (.loop { rc .ready none with state:=.busy }) = Wb:=⟨_, rfl⟩
   have hl2 : Wb.heap[w.heap.size + 1]? = some (.loop { rc .ready none with state:=.busy }):=by rw [← hWb]; exact World.putObj_heap_same hlt
   have hk2 : Wb.heap[w.heap.size]? = some (.deferred (some [])):=by rw [← hWb]; exact (World.putObj_heap_other (by omega)).trans hk
   have hs2 : Wb.heap.size = W.heap.size:=by rw [← hWb]; simp [World.putObj]
   have hb2 : Below n₁ W Wb:=by rw [← hWb]; exact hput _ _
   have ho2 : ∀ k, k < w.heap.size → Wb.heap[k]? = W.heap[k]?:=fun k hk=>by rw [← hWb]; exact World.putObj_heap_other (by omega)
   have hgo:=hbody (w.heap.size + 1) pre x Wb hxs (hI _ _ _ hi hb2)
   rw [hWb]
   clear hWb
   refine wpIn_mono hgo ?_
   have fin : ∀ (jump : Option Code) (W3 : World), Wb.heap.size ≤ W3.heap.size → (∀ k, n₁ ≤ k → k < Wb.heap.size → W3.heap[k]? = Wb.heap[k]?) →
     (Instr.endRound (w.heap.size + 1) jump).run P W3 = .ok (.bool jump.isNone) (W3.putObj (w.heap.size + 1) (.loop (rc (if jump.isNone then .ready else .done) jump))) ∧
     (W3.putObj (w.heap.size + 1) (.loop (rc (if jump.isNone then .ready else .done) jump))).heap[w.heap.size + 1]? = some (.loop (rc (if jump.isNone then .ready else .done) jump)) ∧
     (W3.putObj (w.heap.size + 1) (.loop (rc (if jump.isNone then .ready else .done) jump))).heap[w.heap.size]? = some (.deferred (some [])):=fun jump W3 hsz hk3=>by
    have hl3:=(hk3 _ (by omega) (by omega)).trans hl2
    have hd3:=(hk3 w.heap.size hn (by omega)).trans hk2
    have:=run_endRound (P:=P) jump hl3
    rw [hrc] at this ⊢
    exact ⟨this, World.putObj_heap_same (Array.getElem?_eq_some_iff.1 hl3).1, (World.putObj_heap_other (by omega)).trans hd3⟩
   rintro e a3 W3 hp
   cases e with
   | normal =>
    obtain ⟨hsz, hk3, hi3⟩:=hp
    obtain ⟨hr, hl4, hk4⟩:=fin none W3 hsz hk3
    refine ⟨_, _, hr, .inl ⟨rfl, ⟨hI _ _ _ hi3 (hput _ _), hl4, hk4⟩, by simp [World.putObj]; omega, fun k h2 h3=>?_⟩⟩
    rw [World.putObj_heap_other (by omega), hk3 k h2 (by omega), ho2 k h3]
   | exit id =>
    obtain ⟨hsz, hk3, hi3⟩:=hp
    obtain ⟨hr, hl4, hk4⟩:=fin (some (.exit id)) W3 hsz hk3
    exact ⟨_, _, hr, .inr ⟨rfl, id, hIx _ _ _ _ hi3 (hput _ _), hl4, hk4⟩⟩
   | ret=>exact hp.elim
   | goto t=>exact hp.elim
   | panic ch=>exact hp.elim
   | outgrown=>exact hp.elim
  ·rintro e W2 ⟨⟨v, rfl⟩, (⟨hi, hl, hk⟩ | ⟨pre, hpre, id, hi, hl, hk⟩)⟩
   ·exact ⟨none, _, by have:=run_endLoop (P:=P) hl (by rw [hrc]; simp); rw [hrc] at this; exact this, hdone _ _ (Nat.le_refl _) (hI _ _ _ hi (hput _ _)) ((World.putObj_heap_other (by omega)).trans hk)⟩
   ·exact ⟨some (.exit id), _, by have:=run_endLoop (P:=P) hl (by rw [hrc]; simp); rw [hrc] at this; exact this, hstop _ id pre _ (Nat.le_refl _) hpre (hIx _ _ _ _ hi (hput _ _)) ((World.putObj_heap_other (by omega)).trans hk)⟩
end Go.Pv
namespace Go.Proofs
open Go.Pv Go.RowKit Go.Shelf
attribute [local go_sem] Oper.semAt_some
abbrev tx (s : List UInt8) : Value:=.string ⟨s.toArray⟩
theorem calls_of_run {P : Program} {f : FuncId} {xs : List AV} {r : AV} (h : Run P f xs r) (w : World) (args : Array Value) (ho : OwnL (OwnC w fun _=>False) [] xs args.toList) :
  Calls P f args w fun e W=>∃ v I' os', e = .returned v ∧ OwnT W I' os' r v ∧ Below w.heap.size w W:=by
 refine (h.2 w (fun _=>False) [] args trivial ⟨fun b h=>h.elim, fun b h=>absurd h (blks_nil b), .nil⟩ ho).mono ?_
 rintro e W ⟨v, I', os', he, ht, hok, hs⟩
 exact ⟨v, I', os', he, ht, hs.osk, hs.tape, hs.output, hs.size, fun b hb=>hs.keep b hb (blks_nil b)⟩
theorem ownl_nil {w : World} : OwnL (OwnC w fun _=>False) [] [] []:=.nil
theorem ownl_str {w : World} {s : List UInt8} {xs : List AV} {vs : List Value} (h : OwnL (OwnC w fun _=>False) [] xs vs) : OwnL (OwnC w fun _=>False) [] (.str s :: xs) (tx s :: vs) :=
 .cons (os:=[]) (os':=[]) ⟨rfl, .str s⟩ h
theorem ownl_int {w : World} {k : IntKind} {n : Int} {xs : List AV} {vs : List Value} (h : OwnL (OwnC w fun _=>False) [] xs vs) : OwnL (OwnC w fun _=>False) [] (.int k n :: xs) (.int k n :: vs) :=
 .cons (os:=[]) (os':=[]) ⟨rfl, .int k n⟩ h
theorem index_calls (s : List UInt8) (hs : s.length ≤ 100000) (w : World) : Calls Tryz.prog 129 #[tx s, .string ⟨#[46]⟩] w fun e W=>e = .returned (.int .i64 (Lib.indexByte s 46)) ∧ Below w.heap.size w W:=by
 refine (calls_of_run (sindex_run s 46 hs) w _ (ownl_str (s:=s) (ownl_str (s:=[46]) ownl_nil))).mono ?_
 rintro e W ⟨v, I', os', rfl, ht, hB⟩
 refine ⟨?_, hB⟩
 cases int_inv ht.2
 rfl
theorem small_calls (s : List UInt8) (hs : s.length ≤ 100000) (w : World) : Calls Tryz.prog 69 #[tx s, .int .i64 255] w fun e W=>e = .returned (.tuple #[.int .i64 (if okS s then vS s else 0), .bool (goodP s)]) ∧ Below w.heap.size w W:=by
 refine (calls_of_run (small_run s 255 hs (by omega)) w _ (ownl_str (s:=s) (ownl_int (k:=.i64) (n:=255) ownl_nil))).mono ?_
 rintro e W ⟨v, I', os', rfl, ht, hB⟩
 refine ⟨?_, hB⟩
 have key : ∀ (n : Int) (b : Bool), OwnT W I' os' (.tup [.int .i64 n, .bool b]) v → v = .tuple #[.int .i64 n, .bool b]:=by
  rintro n b ⟨cs, rfl, h⟩
  obtain ⟨cs⟩:=cs
  simp only at h
  generalize hx : [AV.int .i64 n, AV.bool b] = xs at h
  cases h with
  | nil=>cases hx
  | cons h1 h =>
   cases hx
   cases h with
   | cons h2 h =>
    cases h with
    | nil =>
     cases int_inv h1.2
     cases bool_inv h2.2
     rfl
 unfold smR at ht
 unfold goodP
 cases ho : okS s with
 | true=>rw [ho] at ht; rw [key _ _ ht]; rfl
 | false=>rw [ho] at ht; rw [key _ _ ht]; rfl
theorem sp_index (s : List UInt8) : sp s = if Lib.indexByte s 46 < 0 then [s] else s.take (Lib.indexByte s 46).toNat :: sp (s.drop ((Lib.indexByte s 46).toNat + 1)):=by
 induction s with
 | nil=>simp [sp, Lib.indexByte]
 | cons c r ih =>
  have hb:=ix_b r 46
  rw [show sp (c :: r) = if c = 46 then [] :: sp r else spJ [c] (sp r) by rw [sp], show Lib.indexByte (c :: r) 46 = if c == 46 then 0 else if Lib.indexByte r 46 == -1 then -1 else Lib.indexByte r 46 + 1 by rw [Lib.indexByte]]
  by_cases hc : c = 46
  ·simp [hc]
  ·simp only [hc,if_false,beq_iff_eq]
   rw [ih]
   by_cases hx : Lib.indexByte r 46 < 0
   ·have : Lib.indexByte r 46 = -1:=by omega
    rw [if_pos hx, if_pos this]
    simp [spJ]
   ·have e : (Lib.indexByte r 46 + 1).toNat = (Lib.indexByte r 46).toNat + 1:=by omega
    rw [if_neg hx, if_neg (by omega), if_neg (by omega), e]
    simp [spJ]
def boxLen (W : World) (B : Nat) : Nat:=match W.cell? ⟨B, 0, none⟩ with
 | some (.string b)=>b.size
 | _=>0
theorem ba_ext (s : List UInt8) (a b : Nat) : (⟨s.toArray⟩ : ByteArray).extract a b = ⟨((s.take b).drop a).toArray⟩:=by
 apply ByteArray.ext
 rw [ByteArray.data_extract]
 apply Array.ext'
 simp [List.drop_take]
theorem ba_take (s : List UInt8) (k : Nat) : tx (s.take k) = .string ((⟨s.toArray⟩ : ByteArray).extract 0 k):=by rw [ba_ext]; rfl
theorem ba_drop (s : List UInt8) (k : Nat) : tx (s.drop k) = .string ((⟨s.toArray⟩ : ByteArray).extract k s.length):=by rw [ba_ext, List.take_length]
theorem heap_set {W : World} {B : Nat} {u : Value} {t : TypeId} (h : W.heap[B]? = some (.cells #[u] t (0, 0))) (v : Value) : (W.setCell ⟨B, 0, none⟩ v).heap[B]? = some (.cells #[v] t (0, 0)):=by
 simp only [World.setCell,Array.getElem?_modify,h]
 simp
set_option maxRecDepth 100000 in
set_option maxHeartbeats 2000000 in
theorem split1_in (n l B n₁ n₂ : Nat) (hn : 1 ≤ n) (s : List UInt8) (hs : s.length ≤ 100000) (J Jx : List (List UInt8) → World → Prop) (hB : n₁ ≤ B ∧ B + 3 ≤ n₂)
  (hJ : ∀ pre A C, J pre A → Inner n₁ n₂ A C → J pre C)
  (hY : ∀ pre x A, x ∈ sp s → J pre A → YieldAt Fence.wide (n - 1) Tryz.prog l #[tx x] A fun e C =>
    (e = .returned (.bool true) ∧ J (pre ++ [x]) C ∧ A.heap.size ≤ C.heap.size ∧ (∀ k, n₁ ≤ k → k < n₂ → C.heap[k]? = A.heap[k]?)) ∨ (e = .returned (.bool false) ∧ Jx (pre ++ [x]) C))
  (W : World) (hsz : n₂ ≤ W.heap.size) (hb : W.heap[B]? = some (.cells #[tx s] 9 (0, 0))) (hb1 : W.heap[B + 1]? = some (.cells #[.string ⟨#[46]⟩] 9 (0, 0))) (hb2 : W.heap[B + 2]? = some (.cells #[.int .i64 0] 3 (0, 0))) (h0 : J [] W) :
  CallsIn Fence.wide n Tryz.prog 127 #[.func (.yield l) #[] #[], .pointer (some ⟨B + 1, 0, none⟩), .pointer (some ⟨B, 0, none⟩), .pointer (some ⟨B + 2, 0, none⟩)] W fun e W'=>(∃ v, e = .returned v) ∧
   (J (sp s) W' ∨ ∃ pre, pre <+: sp s ∧ Jx pre W'):=by
 refine callsIn_of_wp Tryz.func127 rfl trivial ?_ rfl
 simp only [Tryz.ntmps127,List.size_toArray,List.length_cons,List.length_nil,Nat.reduceAdd,Nat.reduceSub,Array.replicate_succ,Array.replicate_zero,List.push_toArray,List.append_toArray,List.nil_append,List.cons_append]
 have hc1 : W.cell? ⟨B + 1, 0, none⟩ = some (.string ⟨#[46]⟩):=by simp [World.cell?, hb1]
 gi_wp2
 gi_loopw [7] (fun _ wr=>∃ (pre : List (List UInt8)) (s' : List UInt8), sp s = pre ++ sp s' ∧ s'.length ≤ s.length ∧ J pre wr ∧ n₂ ≤ wr.heap.size ∧ wr.heap[B]? = some (.cells #[tx s'] 9 (0, 0)) ∧ wr.heap[B + 1]? = some (.cells #[.string ⟨#[46]⟩] 9 (0, 0)) ∧ wr.heap[B + 2]? = some (.cells #[.int .i64 0] 3 (0, 0)))
  (fun _ wr=>boxLen wr B)
 case atStart=>exact ⟨[], s, rfl, Nat.le_refl _, h0, hsz, hb, hb1, hb2⟩
 case round =>
  obtain ⟨pre, s', hsp, hlen, hJs, hz, g0, g1, g2⟩:=hrel
  have c0 : wr.cell? ⟨B, 0, none⟩ = some (tx s'):=by simp [World.cell?, g0]
  have c1 : wr.cell? ⟨B + 1, 0, none⟩ = some (.string ⟨#[46]⟩):=by simp [World.cell?, g1]
  have c2 : wr.cell? ⟨B + 2, 0, none⟩ = some (.int .i64 0):=by simp [World.cell?, g2]
  have hx:=ix_b s' 46
  have hsi:=sp_index s'
  by_cases hx0 : Lib.indexByte s' 46 < 0
  ·rw [if_pos hx0] at hsi
   gi_wp2_with (refine ⟨trivial, ?_⟩; gi_at_call 129; refine (callsIn_wide.2 (index_calls s' (by omega) _)).mono ?_; rintro e W1 ⟨rfl, hB1⟩; have k0:=(hB1.cell (p:=⟨B, 0, none⟩) (by show B < _; omega)).trans c0; obtain ⟨fn, tmps, assign, body, hy, hR⟩:=hY pre s' W1 (by rw [hsp, hsi]; simp) (hJ _ _ _ hJs ⟨hB1.mono (by omega), fun k _ h2=>hB1.block k h2⟩))
   refine hR.mono ?_
   rintro e W3 (⟨rfl, hJ3, hz3, hk3⟩ | ⟨rfl, hJx3⟩)
   ·gi_wp2
    go_end0
    exact ⟨⟨_, rfl⟩, .inl (by rw [hsp, hsi]; exact hJ3)⟩
   ·gi_wp2
    go_end0
    exact ⟨⟨_, rfl⟩, .inr ⟨_, by rw [hsp, hsi]; exact List.prefix_refl _, hJx3⟩⟩
  ·rw [if_neg hx0] at hsi
   have htk : tx (s'.take (Lib.indexByte s' 46).toNat) = .string ((⟨s'.toArray⟩ : ByteArray).extract 0 (Lib.indexByte s' 46).toNat):=ba_take _ _
   have hdr : tx (s'.drop ((Lib.indexByte s' 46).toNat + 1)) = .string ((⟨s'.toArray⟩ : ByteArray).extract ((Lib.indexByte s' 46).toNat + 1) s'.length):=ba_drop _ _
   gi_wp2_with (refine ⟨trivial, ?_⟩; gi_at_call 129; refine (callsIn_wide.2 (index_calls s' (by omega) _)).mono ?_; rintro e W1 ⟨rfl, hB1⟩; have k0:=(hB1.cell (p:=⟨B, 0, none⟩) (by show B < _; omega)).trans c0; have k1:=(hB1.cell (p:=⟨B + 1, 0, none⟩) (by show B + 1 < _; omega)).trans c1; have k2:=(hB1.cell (p:=⟨B + 2, 0, none⟩) (by show B + 2 < _; omega)).trans c2; obtain ⟨fn, tmps, assign, body, hy, hR⟩:=hY pre (s'.take (Lib.indexByte s' 46).toNat) W1 (by rw [hsp, hsi]; simp) (hJ _ _ _ hJs ⟨hB1.mono (by omega), fun k _ h2=>hB1.block k h2⟩); rw [htk] at hy)
   refine hR.mono ?_
   rintro e W3 (⟨rfl, hJ3, hz3, hk3⟩ | ⟨rfl, hJx3⟩)
   ·have q0 : W3.heap[B]? = some (.cells #[tx s'] 9 (0, 0)):=(hk3 B (by omega) (by omega)).trans ((hB1.block B (by omega)).trans g0)
    have q1 : W3.heap[B + 1]? = some (.cells #[.string ⟨#[46]⟩] 9 (0, 0)):=(hk3 (B + 1) (by omega) (by omega)).trans ((hB1.block (B + 1) (by omega)).trans g1)
    have q2 : W3.heap[B + 2]? = some (.cells #[.int .i64 0] 3 (0, 0)):=(hk3 (B + 2) (by omega) (by omega)).trans ((hB1.block (B + 2) (by omega)).trans g2)
    have d0 : W3.cell? ⟨B, 0, none⟩ = some (tx s'):=by simp [World.cell?, q0]
    have d1 : W3.cell? ⟨B + 1, 0, none⟩ = some (.string ⟨#[46]⟩):=by simp [World.cell?, q1]
    have f0 : W3.frozen? ⟨B, 0, none⟩ = false:=by simp [World.frozen?, q0]
    gi_wp2
    have e1 : (Lib.indexByte s' 46 + 1).toNat = (Lib.indexByte s' 46).toNat + 1:=by omega
    rw [e1, ← hdr]
    have p0:=heap_set q0 (tx (s'.drop ((Lib.indexByte s' 46).toNat + 1)))
    refine ⟨⟨pre ++ [s'.take (Lib.indexByte s' 46).toNat], s'.drop ((Lib.indexByte s' 46).toNat + 1), by rw [hsp, hsi]; simp, by simp; omega, ?_, by rw [World.size_setCell]; have:=hB1.size; omega, p0, ?_, ?_⟩, ?_⟩
    ·refine hJ _ _ _ hJ3 ⟨(Below.refl n₁ W3).setCell (by exact hB.1) _, fun k h1 _=>Below.heap_setCell _ _ _ _ (by show k ≠ B; omega)⟩
    ·rw [Below.heap_setCell _ _ _ _ (by show B + 1 ≠ B; omega)]; exact q1
    ·rw [Below.heap_setCell _ _ _ _ (by show B + 2 ≠ B; omega)]; exact q2
    ·have l0 : boxLen wr B = s'.length:=by simp only [boxLen,c0]; rfl
     have l1 : boxLen (W3.setCell ⟨B, 0, none⟩ (tx (s'.drop ((Lib.indexByte s' 46).toNat + 1)))) B = (s'.drop ((Lib.indexByte s' 46).toNat + 1)).length:=by
      have : (W3.setCell ⟨B, 0, none⟩ (tx (s'.drop ((Lib.indexByte s' 46).toNat + 1)))).cell? ⟨B, 0, none⟩ = some (tx (s'.drop ((Lib.indexByte s' 46).toNat + 1))):=by simp [World.cell?, p0]
      simp only [boxLen,this]; rfl
     rw [l0, l1, List.length_drop]
     omega
   ·gi_wp2
    refine bodyPost_ret (results_none rfl _ _ _) rfl ?_
    refine ⟨⟨_, rfl⟩, .inr ⟨_, ?_, hJx3⟩⟩
    rw [hsp, hsi]
    exact ⟨sp (s'.drop ((Lib.indexByte s' 46).toNat + 1)), by simp⟩
end Go.Proofs
namespace Go.Proofs
open Go.Pv Go.RowKit Go.Shelf
attribute [local go_sem] Oper.semAt_some
theorem sp_mem : ∀ (s : List UInt8) (x : List UInt8), x ∈ sp s → x.length ≤ s.length
 | [], x, h=>by simp [sp] at h; simp [h]
 | c :: r, x, h=>by
  have ih:=sp_mem r
  rw [show sp (c :: r) = if c = 46 then [] :: sp r else spJ [c] (sp r) by rw [sp]] at h
  split at h
  ·rcases List.mem_cons.1 h with rfl | h
   ·simp
   ·have:=ih x h; simp; omega
  ·obtain ⟨p, q, e⟩:=List.exists_cons_of_ne_nil (sp_ne r)
   rw [e] at ih h
   simp only [spJ,List.mem_cons] at h ih
   rcases h with rfl | h
   ·have:=ih p (.inl rfl); simp; omega
   ·have:=ih x (.inr h); simp; omega
theorem box_new (W : World) (v : Value) (t : TypeId) : (W.alloc (.cells #[v] t)).heap[W.heap.size]? = some (.cells #[v] t (0, 0)):=World.alloc_heap_new W _
theorem cell_of {W : World} {B : Nat} {v : Value} {t : TypeId} (h : W.heap[B]? = some (.cells #[v] t (0, 0))) : W.cell? ⟨B, 0, none⟩ = some v:=by simp [World.cell?, h]
theorem frozen_of {W : World} {B : Nat} {v : Value} {t : TypeId} (h : W.heap[B]? = some (.cells #[v] t (0, 0))) : W.frozen? ⟨B, 0, none⟩ = false:=by simp [World.frozen?, h]
set_option maxRecDepth 100000 in
set_option maxHeartbeats 2000000 in
theorem split0_in (n : Nat) (a b : ByteArray) (w : World) : CallsIn Fence.wide n Tryz.prog 103 #[.string a, .string b, .int .i64 0] w fun e w' =>
  e = .returned (.func (.func 127) #[] #[.pointer (some ⟨w.heap.size + 1, 0, none⟩), .pointer (some ⟨w.heap.size, 0, none⟩), .pointer (some ⟨w.heap.size + 2, 0, none⟩)]) ∧ w' = ((w.alloc (.cells #[.string a] 9)).alloc (.cells #[.string b] 9)).alloc (.cells #[.int .i64 0] 3):=by
 refine callsIn_of_wp Tryz.func103 rfl trivial ?_ rfl
 simp only [Tryz.ntmps103,List.size_toArray,List.length_cons,List.length_nil,Nat.reduceAdd,Nat.reduceSub,Array.replicate_succ,Array.replicate_zero,List.push_toArray,List.append_toArray,List.nil_append,List.cons_append]
 gi_wp2
 go_ret
 exact ⟨rfl, rfl⟩
set_option maxRecDepth 100000 in
set_option maxHeartbeats 2000000 in
theorem split_in (n : Nat) (hn : 1 ≤ n) (a b : ByteArray) (w : World) : CallsIn Fence.wide n Tryz.prog 68 #[.string a, .string b] w fun e w' =>
  e = .returned (.func (.func 127) #[] #[.pointer (some ⟨w.heap.size + 1, 0, none⟩), .pointer (some ⟨w.heap.size, 0, none⟩), .pointer (some ⟨w.heap.size + 2, 0, none⟩)]) ∧ w' = ((w.alloc (.cells #[.string a] 9)).alloc (.cells #[.string b] 9)).alloc (.cells #[.int .i64 0] 3):=by
 refine callsIn_of_wp Tryz.func68 rfl trivial ?_ rfl
 simp only [Tryz.ntmps68,List.size_toArray,List.length_cons,List.length_nil,Nat.reduceAdd,Nat.reduceSub,Array.replicate_succ,Array.replicate_zero,List.push_toArray,List.append_toArray,List.nil_append,List.cons_append]
 gi_wp2_with (refine ⟨trivial, ?_⟩; gi_at_call 103; refine (split0_in _ a b _).mono ?_; rintro e w' ⟨rfl, rfl⟩)
 go_ret
 exact ⟨rfl, rfl⟩
set_option maxRecDepth 100000 in
set_option maxHeartbeats 2000000 in
theorem read_calls (s : List UInt8) (hs : s.length ≤ 100000) (w : World) : Calls Tryz.prog 38 #[tx s] w fun e W=>(e = .returned (.tuple #[.int .u32 (if (sp s).length = 4 ∧ (sp s).all goodP = true then accF (sp s) else 0), .bool (decide ((sp s).length = 4 ∧ (sp s).all goodP = true))])) ∧ Below w.heap.size w W:=by
 refine (callsIn_wide (n:=6)).1 ?_
 refine callsIn_of_wp_marks Tryz.func38 rfl trivial ?_ rfl
 simp only [Tryz.ntmps38,List.size_toArray,List.length_cons,List.length_nil,Nat.reduceAdd,Nat.reduceSub,Array.replicate_succ,Array.replicate_zero,List.push_toArray,List.append_toArray,List.nil_append,List.cons_append]
 gi_wp2
 refine wpIn_wide.2 (wp_scope_straight (wpIn_wide (n:=6).1 ?_))
 gi_wp2
 refine wpIn_label ?_
 have h61 : 1 ≤ 6:=by omega
 gi_wp2_with (refine ⟨trivial, ?_⟩; gi_at_call 68; refine (split_in _ (by omega) _ _ _).mono ?_; rintro e w' ⟨rfl, rfl⟩)
 obtain ⟨W0, hW0⟩ : ∃ W0, (((((w.alloc (.cells #[.int .u32 0] 35)).alloc (.cells #[.int .i64 0] 3)).alloc (.cells #[tx s] 9)).alloc (.cells #[.string ⟨#[46]⟩] 9)).alloc (.cells #[.int .i64 0] 3)) = W0:=⟨_, rfl⟩
 have z0 : W0.heap.size = w.heap.size + 5:=by rw [← hW0]; simp
 have hB0 : Below w.heap.size w W0:=by
  rw [← hW0]
  exact (((((Below.refl _ w).alloc (Nat.le_refl _) _).alloc (by simp) _).alloc (by simp; omega) _).alloc (by simp; omega) _).alloc (by simp; omega) _
 obtain ⟨b0, b1, b2, b3, b4⟩ : W0.heap[w.heap.size]? = some (.cells #[.int .u32 0] 35 (0, 0)) ∧ W0.heap[w.heap.size + 1]? = some (.cells #[.int .i64 0] 3 (0, 0)) ∧ W0.heap[w.heap.size + 2]? = some (.cells #[tx s] 9 (0, 0)) ∧ W0.heap[w.heap.size + 3]? = some (.cells #[.string ⟨#[46]⟩] 9 (0, 0)) ∧ W0.heap[w.heap.size + 4]? = some (.cells #[.int .i64 0] 3 (0, 0)):=by
  rw [← hW0]
  have x0:=box_new w (.int .u32 0) 35
  generalize hw1 : w.alloc (.cells #[.int .u32 0] 35) = w1 at *
  have s1 : w1.heap.size = w.heap.size + 1:=by rw [← hw1]; simp
  have x1:=box_new w1 (.int .i64 0) 3
  generalize hw2 : w1.alloc (.cells #[.int .i64 0] 3) = w2 at *
  have s2 : w2.heap.size = w.heap.size + 2:=by rw [← hw2]; simp; omega
  have k2 : ∀ k, k < w1.heap.size → w2.heap[k]? = w1.heap[k]?:=fun k hk=>by rw [← hw2]; exact Below.heap_alloc _ _ _ hk
  have x2:=box_new w2 (tx s) 9
  generalize hw3 : w2.alloc (.cells #[tx s] 9) = w3 at *
  have s3 : w3.heap.size = w.heap.size + 3:=by rw [← hw3]; simp; omega
  have k3 : ∀ k, k < w2.heap.size → w3.heap[k]? = w2.heap[k]?:=fun k hk=>by rw [← hw3]; exact Below.heap_alloc _ _ _ hk
  have x3:=box_new w3 (.string ⟨#[46]⟩) 9
  generalize hw4 : w3.alloc (.cells #[.string ⟨#[46]⟩] 9) = w4 at *
  have s4 : w4.heap.size = w.heap.size + 4:=by rw [← hw4]; simp; omega
  have k4 : ∀ k, k < w3.heap.size → w4.heap[k]? = w3.heap[k]?:=fun k hk=>by rw [← hw4]; exact Below.heap_alloc _ _ _ hk
  have x4:=box_new w4 (.int .i64 0) 3
  generalize hw5 : w4.alloc (.cells #[.int .i64 0] 3) = w5 at *
  have k5 : ∀ k, k < w4.heap.size → w5.heap[k]? = w4.heap[k]?:=fun k hk=>by rw [← hw5]; exact Below.heap_alloc _ _ _ hk
  rw [s1] at x1
  rw [s2] at x2
  rw [s3] at x3
  rw [s4] at x4
  refine ⟨?_, ?_, ?_, ?_, x4⟩
  ·rw [k5 _ (by omega), k4 _ (by omega), k3 _ (by omega), k2 _ (by omega)]; exact x0
  ·rw [k5 _ (by omega), k4 _ (by omega), k3 _ (by omega)]; exact x1
  ·rw [k5 _ (by omega), k4 _ (by omega)]; exact x2
  ·rw [k5 _ (by omega)]; exact x3
 simp only [World.size_alloc,Nat.add_assoc,Nat.reduceAdd]
 rw [hW0]
 clear hW0
 refine wpIn_range (n:=6) rfl (by omega) (gf:=127) (lb:=#[.pointer (some ⟨w.heap.size + 3, 0, none⟩), .pointer (some ⟨w.heap.size + 2, 0, none⟩), .pointer (some ⟨w.heap.size + 4, 0, none⟩)]) rfl trivial (enters_of Tryz.func127 (by kernel_rfl) rfl)
  (enc:=tx) (n₁:=w.heap.size + 2) (xs:=sp s) (by omega) ?iter
  (fun pre W=>pre.all goodP = true ∧ pre.length ≤ 4 ∧ W.heap[w.heap.size]? = some (.cells #[.int .u32 (accF pre)] 35 (0, 0)) ∧ W.heap[w.heap.size + 1]? = some (.cells #[.int .i64 pre.length] 3 (0, 0)) ∧ Below w.heap.size w W)
  (fun id pre W=>id = 0 ∧ (pre.all goodP = false ∨ pre.length = 5) ∧ (∃ v, W.heap[w.heap.size]? = some (.cells #[.int .u32 v] 35 (0, 0))) ∧ W.heap[w.heap.size + 1]? = some (.cells #[.int .i64 0] 3 (0, 0)) ∧ Below w.heap.size w W)
  ?hI ?hIx ⟨rfl, by simp, b0, b1, hB0⟩
  (fun x=>{ tmps:=#[tx s, undef, .int .u32 0, .bool false, .pointer (some ⟨w.heap.size, 0, none⟩), .pointer (some ⟨w.heap.size + 1, 0, none⟩), tx x, undef, undef, tx s, .func (.func 127) #[] #[.pointer (some ⟨w.heap.size + 3, 0, none⟩), .pointer (some ⟨w.heap.size + 2, 0, none⟩), .pointer (some ⟨w.heap.size + 4, 0, none⟩)], tx x, undef, undef, undef, undef, undef, undef, undef, undef, undef, undef, undef, undef, undef, undef, undef, undef, undef, undef, undef, undef, undef], defers:=[] }) ?assign ?body ?done ?stop
 case hI =>
  rintro pre A B ⟨h1, h2, h3, h4, h5⟩ hB
  exact ⟨h1, h2, (hB.block _ (by omega)).trans h3, (hB.block _ (by omega)).trans h4, h5.trans (hB.mono (by omega))⟩
 case hIx =>
  rintro id pre A B ⟨h1, h2, ⟨v, h3⟩, h4, h5⟩ hB
  exact ⟨h1, h2, ⟨v, (hB.block _ (by omega)).trans h3⟩, (hB.block _ (by omega)).trans h4, h5.trans (hB.mono (by omega))⟩
 case iter =>
  intro l J Jx W hsz hk hJ hY h0
  exact split1_in 5 l (w.heap.size + 2) (w.heap.size + 2) W0.heap.size (by omega) s hs J Jx ⟨by omega, by omega⟩ hJ hY W hsz
   ((hk _ (by omega) (by omega)).trans b2) ((hk _ (by omega) (by omega)).trans b3) ((hk _ (by omega) (by omega)).trans b4) h0
 case assign =>
  intro l x W K hK
  gi_wp2
  exact hK
 case body =>
  rintro l pre x W hxs ⟨hg, hl, g0, g1, hB⟩
  have hx:=sp_mem s x hxs
  have hW:=hB.size
  have hWz : w.heap.size + 1 < W.heap.size:=(Array.getElem?_eq_some_iff.1 g1).1
  have hab:=accF_b pre hl hg
  by_cases hgx : goodP x = true
  ·have hox : okS x = true:=by unfold goodP at hgx; simp only [Bool.and_eq_true] at hgx; exact hgx.1
   have hgb:=goodP_b hgx
   have hsc:=small_calls x (by omega) 
   rw [if_pos hox, hgx] at hsc
   by_cases hl3 : pre.length ≤ 3
   ·have hab3:=hab.2.2 hl3
    gi_wp2_with (refine ⟨trivial, ?_⟩; gi_at_call 69; refine (CallsIn.inRound l (callsIn_wide.2 (hsc _))).mono ?_; rintro e W1 ⟨rfl, hB1⟩; have q0:=(hB1.block w.heap.size (by omega)).trans g0; have q1:=(hB1.block (w.heap.size + 1) (by omega)).trans g1; have k0:=cell_of q0; have k1:=cell_of q1; have f0:=frozen_of q0; have f1:=frozen_of q1)
    have hbits : bits BinOp.or IntKind.u32 (accF pre * 256) (vS x) = accF pre * 256 + vS x:=or2_un (k:=.u32) (j:=8) rfl (by omega) (by show _ < (2 : Int) ^ 32; omega) (by omega) (by simpa using (by omega : vS x < 256)) (by decide) (by simp)
    rw [hbits]
    refine ⟨by rw [World.size_setCell, World.size_setCell]; exact hB1.size, fun k h1 h2=>?_, ?_, ?_, ?_, ?_, ?_⟩
    ·rw [Below.heap_setCell _ _ _ _ (by show k ≠ w.heap.size; omega), Below.heap_setCell _ _ _ _ (by show k ≠ w.heap.size + 1; omega)]; exact hB1.block k h2
    ·rw [List.all_append, hg]; simp [hgx]
    ·simp; omega
    ·rw [accF_snoc]; exact heap_set (by rw [Below.heap_setCell _ _ _ _ (by show w.heap.size ≠ w.heap.size + 1; omega)]; exact q0) _
    ·rw [Below.heap_setCell _ _ _ _ (by show w.heap.size + 1 ≠ w.heap.size; omega), List.length_append]; exact heap_set q1 _
    ·exact ((hB.trans (hB1.mono hW)).setCell (p:=⟨w.heap.size + 1, 0, none⟩) (by show w.heap.size ≤ w.heap.size + 1; omega) _).setCell (p:=⟨w.heap.size, 0, none⟩) (Nat.le_refl _) _
   ·have hl4 : pre.length = 4:=by omega
    gi_wp2_with (refine ⟨trivial, ?_⟩; gi_at_call 69; refine (CallsIn.inRound l (callsIn_wide.2 (hsc _))).mono ?_; rintro e W1 ⟨rfl, hB1⟩; have q0:=(hB1.block w.heap.size (by omega)).trans g0; have q1:=(hB1.block (w.heap.size + 1) (by omega)).trans g1; have k0:=cell_of q0; have k1:=cell_of q1; have f0:=frozen_of q0; have f1:=frozen_of q1)
    refine ⟨by rw [World.size_setCell, World.size_setCell]; exact hB1.size, fun k h1 h2=>?_, rfl, ?_, ⟨accF pre, ?_⟩, ?_, ?_⟩
    ·rw [Below.heap_setCell _ _ _ _ (by show k ≠ w.heap.size + 1; omega), Below.heap_setCell _ _ _ _ (by show k ≠ w.heap.size + 1; omega)]; exact hB1.block k h2
    ·exact .inr (by simp [hl4])
    ·rw [Below.heap_setCell _ _ _ _ (by show w.heap.size ≠ w.heap.size + 1; omega), Below.heap_setCell _ _ _ _ (by show w.heap.size ≠ w.heap.size + 1; omega)]; exact q0
    ·exact heap_set (heap_set q1 _) _
    ·exact ((hB.trans (hB1.mono hW)).setCell (p:=⟨w.heap.size + 1, 0, none⟩) (by show w.heap.size ≤ w.heap.size + 1; omega) _).setCell (p:=⟨w.heap.size + 1, 0, none⟩) (by show w.heap.size ≤ w.heap.size + 1; omega) _
  ·have hgx : goodP x = false:=by simpa using hgx
   have hsc:=small_calls x (by omega)
   rw [hgx] at hsc
   generalize (if okS x = true then vS x else 0) = z at hsc
   gi_wp2_with (refine ⟨trivial, ?_⟩; gi_at_call 69; refine (CallsIn.inRound l (callsIn_wide.2 (hsc _))).mono ?_; rintro e W1 ⟨rfl, hB1⟩; have q0:=(hB1.block w.heap.size (by omega)).trans g0; have q1:=(hB1.block (w.heap.size + 1) (by omega)).trans g1; have k0:=cell_of q0; have k1:=cell_of q1; have f0:=frozen_of q0; have f1:=frozen_of q1)
   refine ⟨by rw [World.size_setCell, World.size_setCell]; exact hB1.size, fun k h1 h2=>?_, rfl, ?_, ⟨accF pre, ?_⟩, ?_, ?_⟩
   ·rw [Below.heap_setCell _ _ _ _ (by show k ≠ w.heap.size + 1; omega), Below.heap_setCell _ _ _ _ (by show k ≠ w.heap.size + 1; omega)]; exact hB1.block k h2
   ·first | exact .inl ⟨x, by simp, hgx⟩ | exact .inl (by rw [List.all_append]; simp [hgx])
   ·rw [Below.heap_setCell _ _ _ _ (by show w.heap.size ≠ w.heap.size + 1; omega), Below.heap_setCell _ _ _ _ (by show w.heap.size ≠ w.heap.size + 1; omega)]; exact q0
   ·exact heap_set (heap_set q1 _) _
   ·exact ((hB.trans (hB1.mono hW)).setCell (p:=⟨w.heap.size + 1, 0, none⟩) (by show w.heap.size ≤ w.heap.size + 1; omega) _).setCell (p:=⟨w.heap.size + 1, 0, none⟩) (by show w.heap.size ≤ w.heap.size + 1; omega) _
 case done =>
  rintro D W hD ⟨hg, hl, g0, g1, hB⟩ hK
  have c0:=cell_of g0
  have c1:=cell_of g1
  have hend : Below w.heap.size w (W.putObj D (.deferred none)):=hB.trans (belowK_b (w:=w) (Nat.le_refl _) W D _ _ (by omega) hK rfl rfl)
  by_cases h4 : (sp s).length = 4
  ·gi_wp2
   refine ⟨by simp, .inl ⟨_, _, rfl, run_takeDeferred hK, ?_⟩⟩
   exact ⟨_, results_tmp2 rfl _ _ _, by simp [h4, hg], hend⟩
  ·gi_wp2
   refine ⟨by simp, .inl ⟨_, _, rfl, run_takeDeferred hK, ?_⟩⟩
   exact ⟨_, results_tmp2 rfl _ _ _, by simp [h4], hend⟩
 case stop =>
  rintro D id pre W hD hpre ⟨rfl, hbad, ⟨v, g0⟩, g1, hB⟩ hK
  have c0:=cell_of g0
  have c1:=cell_of g1
  have hend : Below w.heap.size w (W.putObj D (.deferred none)):=hB.trans (belowK_b (w:=w) (Nat.le_refl _) W D _ _ (by omega) hK rfl rfl)
  have hno : ¬ ((sp s).length = 4 ∧ (sp s).all goodP = true):=by
   obtain ⟨r, hr⟩:=hpre
   rintro ⟨h1, h2⟩
   rw [← hr] at h1 h2
   rw [List.all_append, Bool.and_eq_true] at h2
   rw [List.length_append] at h1
   rcases hbad with h | h
   ·rw [h] at h2; cases h2.1
   ·omega
  gi_wp2
  refine ⟨by simp, .inl ⟨_, _, rfl, run_takeDeferred hK, ?_⟩⟩
  exact ⟨_, results_tmp2 rfl _ _ _, by simp only [hno,if_false,decide_false]; rfl, hend⟩
end Go.Proofs
namespace Go.Proofs
open Go.Pv
theorem ptx_run (a b : Int) (h : 0 ≤ a ∧ a ≤ 4294967295) : Run Tryz.prog 143 [pfx a b] (.str (ptxS a b)):=by
 refine Tryz.run143 (by simp) ?_
 unfold Tryz.c143 ptxS
 have q:=right_run a b
 have q1:=text_run a h
 have l1:=addrS_len a
 by_cases hb : 0 ≤ b ∧ b ≤ 32
 ·rw [if_pos hb]
  have q2:=put_run3 (addrS a ++ [47]) b (by simp only [List.length_append,List.length_cons,List.length_nil]; omega) (by omega)
  rw [show okb b = true from decide_eq_true hb] at q
  have l2:=numS_len b
  generalize addrS a = s at *
  generalize numS b = t at *
  simp only [bys] at q2
  have hfold : ∀ x : List UInt8, List.map bv x ++ [AV.int .u8 47] = List.map bv (x ++ [47]):=fun x=>by rw [List.map_append]; rfl
  simp (disch:=first|omega|(simp only[pvl] at *;omega)) only [↓pvd,pva,pvr,bin2,binB2,un1,setCells,List.map,seval,reduceCtorEq]
  refine awR_call q rfl rfl ?_
  simp (disch:=first|omega|(simp only[pvl] at *;omega)) only [↓pvd,pva,pvr,bin2,binB2,un1,setCells,List.map,seval,reduceCtorEq]
  refine awR_callD q1 rfl rfl (fun _=>rfl) ?_
  simp (disch:=first|omega|(simp only[pvl] at *;omega)) only [↓pvd,pva,pvr,bin2,binB2,un1,setCells,List.map,seval,reduceCtorEq]
  refine awR_callDF (ms:=[.own 1 5]) q2 (by simp (disch:=first|omega|(simp only[pvl] at *;omega)) only [↓pvd,pva,pvr,bin2,binB2,un1,setCells,List.map,seval,reduceCtorEq]; rfl) (by simp (disch:=first|omega|(simp only[pvl] at *;omega)) only [↓pvd,pva,pvr,bin2,binB2,un1,setCells,List.map,seval,reduceCtorEq]) (by simp [growL, still, ent, lay, layA, layC, layL]) ?_
  simp (disch:=first|omega|(simp only[pvl] at *;omega)) only [↓pvd,pva,pvr,bin2,binB2,un1,setCells,List.map,seval,reduceCtorEq]
  (refine Ends_rq [] ?_; simp (disch:=first|omega|(simp only[pvl];omega)) only [↓pvd,pva,pvr,bin2,binB2,un1,setCells,List.map,seval,reduceCtorEq]; exact ⟨_,rfl,rfl,rfl⟩)
 ·rw [if_neg hb]
  rw [show okb b = false from decide_eq_false hb] at q
  simp (disch:=first|omega|(simp only[pvl] at *;omega)) only [↓pvd,pva,pvr,bin2,binB2,un1,setCells,List.map,seval,reduceCtorEq]
  refine awR_call q rfl rfl ?_
  simp (disch:=first|omega|(simp only[pvl] at *;omega)) only [↓pvd,pva,pvr,bin2,binB2,un1,setCells,List.map,seval,reduceCtorEq]
  (refine Ends_rq [] ?_; simp (disch:=first|omega|(simp only[pvl];omega)) only [↓pvd,pva,pvr,bin2,binB2,un1,setCells,List.map,seval,reduceCtorEq]; exact ⟨_,rfl,rfl,rfl⟩)
end Go.Proofs
namespace Go.Proofs
open Go.Pv Go.RowKit
theorem read_run (s : List UInt8) (hs : s.length ≤ 100000) : Run Tryz.prog 38 [.str s] (rdA (sp s)):=by
 refine ⟨?_, ?_⟩
 ·exact can_of Tryz.func38 rfl rfl
 intro w I os args hq hos ho
 obtain ⟨args⟩:=args
 generalize hxs : [AV.str s] = ys at ho
 cases ho with
 | nil=>cases hxs
 | cons ha ho =>
  cases hxs
  cases ho with
  | nil =>
   unfold OwnC at ha
   obtain ⟨rfl, ha⟩:=ha
   cases ha
   refine (read_calls s hs w).mono ?_
   rintro e W ⟨rfl, hB⟩
   refine ⟨_, I, [], rfl, ?_, ⟨fun b h=>⟨Nat.lt_of_lt_of_le (hos.imm b h).1 hB.size, blks_nil b⟩, fun b h=>absurd h (blks_nil b), .nil⟩, ⟨hB.os, hB.tape, hB.output, hB.size, fun b h _=>hB.block b h, fun b h=>absurd h (blks_nil b), fun b h=>h, fun b h=>.inl h⟩⟩
   have key : ∀ (n : Int) (b : Bool), OwnT W I [] (.tup [.int .u32 n, .bool b]) (.tuple #[.int .u32 n, .bool b]):=fun n b =>
    ⟨#[.int .u32 n, .bool b], rfl, .cons (os:=[]) (os':=[]) ⟨rfl, .int _ _⟩ (.cons (os:=[]) (os':=[]) ⟨rfl, .bool _⟩ .nil)⟩
   unfold rdA
   by_cases h : (sp s).length = 4 ∧ (sp s).all goodP = true
   ·rw [if_pos h, if_pos h, decide_eq_true h]; exact key _ _
   ·rw [if_neg h, if_neg h, decide_eq_false h]; exact key _ _
end Go.Proofs
