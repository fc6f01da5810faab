/- The proofs of what the functions of this seat do. -/
import Derived.Test.YtppdpcfmkmnfjaaGreatDoorRzCodeC
set_option linter.unusedSectionVars false
set_option linter.unusedSimpArgs false
set_option linter.unusedVariables false
set_option maxHeartbeats 2000000
set_option maxRecDepth 20000
namespace Go.Proofs
open Go.Pv
abbrev pfx(a b:Int):AV:=.agg [.int .u32 a,.int .i64 b]
def okb(b:Int):Bool:=decide (0≤b∧b≤32)
def szb(b:Int):Int:=2 ^ (32 - b).toNat
theorem szb_b{b:Int}(h:0≤b∧b≤32):1≤szb b∧szb b≤4294967296:=by
 unfold szb
 have h1:(2:Nat) ^ (32 - b).toNat≤2 ^ 32:=Nat.pow_le_pow_right (by decide) (by omega)
 have h2:1 ≤(2:Nat) ^ (32 - b).toNat:=Nat.one_le_two_pow
 have h3:(2:Int) ^ (32 - b).toNat =((2 ^ (32 - b).toNat:Nat):Int):=by simp
 rw [h3]
 omega
theorem right_run(a b:Int):Run Tryz.prog 106 [pfx a b] (.bool (okb b)):=by
 refine Tryz.run106 (by simp) ?_
 unfold Tryz.c106 okb
 rw [show decide (0≤b∧b≤32) =(decide (0≤b) && decide (b≤32)) by rw [Bool.eq_iff_iff]; simp]
 repeat' (first | simp (disch:=try exact dq) only[↓pvd,pz,sC,List.map,seval] | (with_reducible first|refine cB (fun _=>?_) (fun _=>?_)|refine gB (fun _=>?_) (fun _=>?_)|refine hB (fun _=>?_) (fun _=>?_)|refine cA ?_ ?_))
 all_goals (exact eZ)
theorem ref_right_run(a b:Int):Run Tryz.prog 135 [pfx a b] (.bool (okb b)):=by
 refine Tryz.run135 (by simp) ?_
 unfold Tryz.c135 okb
 rw [show decide (0≤b∧b≤32) =(decide (0≤b) && decide (b≤32)) by rw [Bool.eq_iff_iff]; simp]
 repeat' (first | simp (disch:=try exact dq) only[↓pvd,pz,sC,List.map,seval] | (with_reducible first|refine cB (fun _=>?_) (fun _=>?_)|refine gB (fun _=>?_) (fun _=>?_)|refine hB (fun _=>?_) (fun _=>?_)|refine cA ?_ ?_))
 all_goals (exact eZ)
theorem rest_run(a b:Int)(h:0≤b∧b≤32):Run Tryz.prog 107 [pfx a b] (.int .u32 (szb b - 1)):=by
 refine Tryz.run107 (by simp) ?_
 unfold Tryz.c107
 have e:(1 * 2 ^ (32 - b).toNat % 4294967296 - 1) % 4294967296=szb b - 1:=by
  have:=szb_b h
  unfold szb at *
  generalize (2:Int) ^ (32 - b).toNat=n at *
  omega
 simp (disch:=try exact dq) only[↓pvd,pz,sC,List.map,seval,e]
 (refine Ends_rq [] ?_; simp (disch:=try exact dq) only[↓pvd,pz,sC,List.map,seval,e]; exact⟨_,rfl,rfl,rfl⟩)
theorem size_run(a b:Int)(h:0≤b∧b≤32):Run Tryz.prog 136 [pfx a b] (.int .i64 (szb b)):=by
 refine Tryz.run136 (by simp) ?_
 unfold Tryz.c136
 refine vZ ?_
 obtain ⟨A,hA⟩:∃ A:Nat→Int,∀ k,A k=2 ^ k:=⟨_,fun _=>rfl⟩
 refine aw_loop (fun k:Nat=>⟨[(3,.int .i64 (A k)),(4,.int .i64 (b+k))],[]⟩) (fun k=>b+k≤32) (fun k=>(32 - b).toNat - k) 0 (by rw [hA]; simp; rfl) (by omega) ?_
 intro k hk
 unfold Tryz.c136b0
 have h1:(2:Nat) ^ k≤2 ^ 32:=Nat.pow_le_pow_right (by decide) (by omega)
 have h3:(2:Int) ^ k =((2 ^ k:Nat):Int):=by simp
 have h4:0≤A k∧A k≤4294967296:=by
  rw [hA,h3]
  generalize (2:Nat) ^ k=m at *
  omega
 have h5:A (k+1)=A k * 2:=by rw [hA,hA,Int.pow_succ]
 by_cases hc:b+k < 32
 ·refine vZ ?_
  refine⟨k+1,?_,by omega,by omega⟩
  rw [h5]
  have e1:(b:Int) +(k+1:Nat)=b+k+1:=by omega
  rw [e1]
 ·have e:A k=szb b:=by rw [hA]; unfold szb; congr 1; omega
  refine vZ ?_
  rw [e]
  refine Ends_r ?_ ?_ <;> rfl
theorem toNat_cast32{a:Int}(h:0≤a∧a≤4294967295):(BitVec.ofInt 32 a).toNat=a.toNat:=by
 rw [BitVec.toNat_ofInt]; omega
theorem nand_pow{a:Int}{k:Nat}(h:0≤a∧a≤4294967295)(hk:k≤32):andNot2 .u32 a (2 ^ k - 1)=a / 2 ^ k * 2 ^ k:=by
 obtain ⟨n,rfl⟩:∃ n:Nat,a=n:=⟨a.toNat,by omega⟩
 have hp:(2:Int) ^ k =((2 ^ k:Nat):Int):=by simp
 have hq:(2:Nat) ^ k≤2 ^ 32:=Nat.pow_le_pow_right (by decide) hk
 have hq1:1 ≤(2:Nat) ^ k:=Nat.one_le_two_pow
 have e1:(2:Int) ^ k - 1 =((2 ^ k - 1:Nat):Int):=by rw [hp]; omega
 unfold andNot2
 rw [e1,show IntKind.u32.bits=32 from rfl,wrap_u32]
 have e2:(BitVec.ofInt 32 (n:Int) &&& ~~~BitVec.ofInt 32 ((2 ^ k - 1:Nat):Int)).toNat=n / 2 ^ k * 2 ^ k:=by
  apply Nat.eq_of_testBit_eq
  intro i
  change BitVec.getLsbD (BitVec.ofInt 32 (n:Int) &&& ~~~BitVec.ofInt 32 ((2 ^ k - 1:Nat):Int)) i=_
  rw [BitVec.getLsbD_and,BitVec.getLsbD_not]
  unfold BitVec.getLsbD
  rw [toNat_cast32 h,toNat_cast32 (by omega),Int.toNat_natCast,Int.toNat_natCast,Nat.testBit_two_pow_sub_one,Nat.mul_comm,Nat.testBit_two_pow_mul,Nat.testBit_div_two_pow]
  by_cases hi:i < 32
  ·by_cases hk2:i < k
   ·simp [hi,hk2]; intro h9; omega
   ·rw [show i - k+k=i by omega]
    simp [hi,hk2]; omega
  ·have:n.testBit i=false:=Nat.testBit_lt_two_pow (Nat.lt_of_lt_of_le (show n < 2 ^ 32 by omega) (Nat.pow_le_pow_right (by decide) (by omega)))
   by_cases hk2:i < k
   ·simp [this,hk2]; intro h9; omega
   ·rw [show i - k+k=i by omega]
    simp [this]
 rw [e2,hp]
 have e3:n / 2 ^ k * 2 ^ k≤n:=Nat.div_mul_le_self _ _
 have e4:((n / 2 ^ k * 2 ^ k:Nat):Int) =(n:Int) / ((2 ^ k:Nat):Int) *((2 ^ k:Nat):Int):=by rw [Int.natCast_mul,Int.natCast_ediv]
 rw [← e4]
 generalize n / 2 ^ k * 2 ^ k=m at *
 omega
theorem or_pow{a:Int}{k:Nat}(h:0≤a∧a≤4294967295)(hk:k≤32):or2 .u32 a (2 ^ k - 1)=a / 2 ^ k * 2 ^ k +(2 ^ k - 1):=by
 obtain ⟨n,rfl⟩:∃ n:Nat,a=n:=⟨a.toNat,by omega⟩
 have hp:(2:Int) ^ k =((2 ^ k:Nat):Int):=by simp
 have hq:(2:Nat) ^ k≤2 ^ 32:=Nat.pow_le_pow_right (by decide) hk
 have hq1:1 ≤(2:Nat) ^ k:=Nat.one_le_two_pow
 have e1:(2:Int) ^ k - 1 =((2 ^ k - 1:Nat):Int):=by rw [hp]; omega
 unfold or2
 rw [e1,show IntKind.u32.bits=32 from rfl,wrap_u32]
 have e2:(BitVec.ofInt 32 (n:Int) ||| BitVec.ofInt 32 ((2 ^ k - 1:Nat):Int)).toNat=2 ^ k *(n / 2 ^ k) +(2 ^ k - 1):=by
  rw [BitVec.toNat_or,toNat_cast32 h,toNat_cast32 (by omega),Int.toNat_natCast,Int.toNat_natCast,Nat.two_pow_add_eq_or_of_lt (by omega)]
  apply Nat.eq_of_testBit_eq
  intro i
  rw [Nat.testBit_or,Nat.testBit_or,Nat.testBit_two_pow_sub_one,Nat.testBit_two_pow_mul,Nat.testBit_div_two_pow]
  by_cases hk2:i < k
  ·simp [hk2]
  ·rw [show i - k+k=i by omega]
   simp [hk2]; intro _; omega
 have e5:2 ^ k *(n / 2 ^ k) +(2 ^ k - 1) < 2 ^ 32:=by
  rw [← e2]; exact BitVec.isLt _
 rw [e2,hp]
 have e4:((2 ^ k *(n / 2 ^ k):Nat):Int) =(n:Int) / ((2 ^ k:Nat):Int) *((2 ^ k:Nat):Int):=by rw [Int.natCast_mul,Int.natCast_ediv,Int.mul_comm]
 rw [← e4]
 generalize 2 ^ k *(n / 2 ^ k)=m at *
 omega
def firstF(a b:Int):Int:=if 0≤b∧b≤32 then a / szb b * szb b else 0
def lastF(a b:Int):Int:=if 0≤b∧b≤32 then a / szb b * szb b +(szb b - 1) else 0
theorem first_run(a b:Int)(ha:0≤a∧a≤4294967295):Run Tryz.prog 72 [pfx a b] (.int .u32 (firstF a b)):=by
 refine Tryz.run72 (by simp) ?_
 unfold Tryz.c72 firstF
 refine vZ ?_
 have q:=right_run a b
 by_cases h:0≤b∧b≤32
 ·rw [if_pos h]
  rw [show okb b=true from decide_eq_true h] at q
  refine aC q rfl rfl ?_
  refine vZ ?_
  refine aD (rest_run a b h) rfl rfl (fun _=>rfl) ?_
  have e:andNot2 .u32 a (szb b - 1)=a / szb b * szb b:=nand_pow ha (by omega)
  simp (disch:=try exact dq) only[↓pvd,pz,sC,List.map,seval,e]
  (refine Ends_rq [] ?_; simp (disch:=try exact dq) only[↓pvd,pz,sC,List.map,seval,e]; exact⟨_,rfl,rfl,rfl⟩)
 ·rw [if_neg h]
  rw [show okb b=false from decide_eq_false h] at q
  refine aC q rfl rfl ?_
  refine vZ ?_
  exact eZ
theorem last_run(a b:Int)(ha:0≤a∧a≤4294967295):Run Tryz.prog 73 [pfx a b] (.int .u32 (lastF a b)):=by
 refine Tryz.run73 (by simp) ?_
 unfold Tryz.c73 lastF
 refine vZ ?_
 have q:=right_run a b
 by_cases h:0≤b∧b≤32
 ·rw [if_pos h]
  rw [show okb b=true from decide_eq_true h] at q
  refine aC q rfl rfl ?_
  refine vZ ?_
  refine aD (rest_run a b h) rfl rfl (fun _=>rfl) ?_
  have e:or2 .u32 a (szb b - 1)=a / szb b * szb b +(szb b - 1):=or_pow ha (by omega)
  simp (disch:=try exact dq) only[↓pvd,pz,sC,List.map,seval,e]
  (refine Ends_rq [] ?_; simp (disch:=try exact dq) only[↓pvd,pz,sC,List.map,seval,e]; exact⟨_,rfl,rfl,rfl⟩)
 ·rw [if_neg h]
  rw [show okb b=false from decide_eq_false h] at q
  refine aC q rfl rfl ?_
  refine vZ ?_
  exact eZ
end Go.Proofs
namespace Go.Proofs
open Go.Pv
theorem ref_first_run(a b:Int)(ha:0≤a∧a≤4294967295):Run Tryz.prog 115 [pfx a b] (.int .u32 (firstF a b)):=by
 refine Tryz.run115 (by simp) ?_
 unfold Tryz.c115 firstF
 refine vZ ?_
 have q:=ref_right_run a b
 by_cases h:0≤b∧b≤32
 ·rw [if_pos h]
  rw [show okb b=true from decide_eq_true h] at q
  refine aC q rfl rfl ?_
  refine vZ ?_
  have hz:=szb_b h
  have ed:Int.tdiv a (szb b)=a / szb b:=Int.tdiv_eq_ediv_of_nonneg ha.1
  have e1:a / szb b * szb b≤a:=Int.ediv_mul_le _ (by omega)
  have e2:0≤a / szb b:=Int.ediv_nonneg ha.1 (by omega)
  have e2':a / szb b≤a:=Int.ediv_le_self _ ha.1
  have e3:0≤a / szb b * szb b:=Int.mul_nonneg e2 (by omega)
  refine aD (size_run a b h) rfl rfl (fun _=>rfl) ?_
  simp (disch:=try exact dq) only[↓pvd,pz,sC,List.map,seval,ed]
  refine aD (size_run a b h) rfl rfl (fun _=>rfl) ?_
  generalize a / szb b=Q at *
  generalize hM:Q * szb b=M at *
  simp (disch:=try exact dq) only[↓pvd,pz,sC,List.map,seval,hM]
  (refine Ends_rq [] ?_; simp (disch:=try exact dq) only[↓pvd,pz,sC,List.map,seval,hM]; exact⟨_,rfl,rfl,rfl⟩)
 ·rw [if_neg h]
  rw [show okb b=false from decide_eq_false h] at q
  refine aC q rfl rfl ?_
  refine vZ ?_
  exact eZ
end Go.Proofs
namespace Go.Proofs
open Go.Pv
theorem last_b{a b:Int}(ha:0≤a∧a≤4294967295)(h:0≤b∧b≤32):a / szb b * szb b +(szb b - 1)≤4294967295:=by
 have e:=or_pow (k:=(32 - b).toNat) ha (by omega)
 have e1:or2 .u32 a (2 ^ (32 - b).toNat - 1)=a / szb b * szb b +(szb b - 1):=e
 rw [← e1]
 unfold or2
 rw [wrap_u32]
 omega
theorem ref_last_run(a b:Int)(ha:0≤a∧a≤4294967295):Run Tryz.prog 116 [pfx a b] (.int .u32 (lastF a b)):=by
 refine Tryz.run116 (by simp) ?_
 unfold Tryz.c116 lastF
 refine vZ ?_
 have q:=ref_right_run a b
 by_cases h:0≤b∧b≤32
 ·rw [if_pos h]
  rw [show okb b=true from decide_eq_true h] at q
  have hf:=ref_first_run a b ha
  unfold firstF at hf
  rw [if_pos h] at hf
  have hz:=szb_b h
  have hl:=last_b ha h
  have e2:0≤a / szb b:=Int.ediv_nonneg ha.1 (by omega)
  have e3:0≤a / szb b * szb b:=Int.mul_nonneg e2 (by omega)
  have hs:=size_run a b h
  generalize a / szb b * szb b=M at *
  generalize szb b=s at *
  refine aC q rfl rfl ?_
  refine vZ ?_
  refine aD hf rfl rfl (fun _=>rfl) ?_
  refine vZ ?_
  refine aD hs rfl rfl (fun _=>rfl) ?_
  have e5:M+s - 1=M +(s - 1):=by omega
  simp (disch:=try exact dq) only[↓pvd,pz,sC,List.map,seval,e5]
  (refine Ends_rq [] ?_; simp (disch:=try exact dq) only[↓pvd,pz,sC,List.map,seval,e5]; exact⟨_,rfl,rfl,rfl⟩)
 ·rw [if_neg h]
  rw [show okb b=false from decide_eq_false h] at q
  refine aC q rfl rfl ?_
  refine vZ ?_
  exact eZ
end Go.Proofs
/-
 The machine of plain values,34: loops of few rounds,run round by round.
-/
namespace Go.Pv
variable [Lq]
def unr(P:Program)(tr:Option Trim)(b:AC)(K:AE→St→Prop):Nat→St→Prop
 | 0,_=>False
 | n+1,σ=>aw P b (andThen (fun σ'=>unr P tr b K n (trim tr σ')) K) σ
def unrT(P:Program)(tr:Option Trim)(b:AC)(K:AE→St→Prop)(n:Nat)(σ:St):Prop:=unr P tr b K n (trim tr σ)
section
variable {P:Program} {tr:Option Trim} {b:AC} {K:AE→St→Prop} {n:Nat} {fr:Fr} {hp:Hp} {σ:St}
theorem unr_s:unr P tr b K (n+1) ⟨fr,hp⟩=aw P b (andThen (unrT P tr b K n) K) ⟨fr,hp⟩:=(rfl)
theorem unrT_e:unrT P tr b K n ⟨fr,hp⟩=unr P tr b K n (trim tr ⟨fr,hp⟩):=(rfl)
theorem aw_unroll(n:Nat)(h:unr P tr b K n (trim tr σ)):aw P (.loop tr b) K σ:=by
 refine⟨fun n σ=>unr P tr b K n σ,⟨n,h⟩,?_⟩
 rintro n σ hn
 cases n with
 | zero=>exact hn.elim
 | succ n =>
  refine aw_mono b _ _ _ ?_ hn
  intro e σ' hx
  cases e with
  | normal=>exact⟨n,Nat.lt_succ_self n,hx⟩
  | exit i=>exact hx
  | ret=>exact hx
end
end Go.Pv
namespace Go.Proofs
open Go.Pv
def numS(n:Int):List UInt8:=if n < 10 then [u8i (48+n)] else if n < 100 then [u8i (48+n / 10),u8i (48+n % 10)] else [u8i (48+n / 100),u8i (48+n / 10 % 10),u8i (48+n % 10)]
theorem toB_one(n:Int):toBytes [.int .u8 (n % 256)]=some [u8i n]:=by
 simp only[toBytes]
 rw [if_pos (by omega)]
 rfl
theorem number_run(n:Int)(h:0≤n∧n < 1000):Run Tryz.prog 134 [.int .i64 n] (.str (numS n)):=by
 refine Tryz.run134 (by simp) ?_
 unfold Tryz.c134 numS
 refine vZ ?_
 refine aw_unroll 4 ?_
 by_cases h1:n < 10
 ·rw [if_pos h1]
  simp (disch:=try exact dq) only[↓pvd,pz,sC,List.map,seval,unr_s,unrT_e,Tryz.c134b0,toB_one]
  exact eZ
 ·rw [if_neg h1]
  by_cases h2:n < 100
  ·rw [if_pos h2]
   simp (disch:=try exact dq) only[↓pvd,pz,sC,List.map,seval,unr_s,unrT_e,Tryz.c134b0,toB_one]
   exact eZ
  ·rw [if_neg h2]
   have e1:n / 10 / 10=n / 100:=by omega
   simp (disch:=try exact dq) only[↓pvd,pz,sC,List.map,seval,unr_s,unrT_e,Tryz.c134b0,toB_one,e1]
   exact eZ
end Go.Proofs
namespace Go.Proofs
open Go.Pv
theorem numS_len(n:Int):1 ≤(numS n).length ∧(numS n).length≤3:=by
 unfold numS; split
 ·simp
 ·split <;> simp
def addrS(a:Int):List UInt8:=numS (a / 16777216) ++ [46] ++ numS (a / 65536 % 256) ++ [46] ++ numS (a / 256 % 256) ++ [46] ++ numS (a % 256)
def ptxS(a b:Int):List UInt8:=if 0≤b∧b≤32 then addrS a ++ [47] ++ numS b else []
theorem addrS_len(a:Int):(addrS a).length≤15:=by
 have h1:=numS_len (a / 16777216)
 have h2:=numS_len (a / 65536 % 256)
 have h3:=numS_len (a / 256 % 256)
 have h4:=numS_len (a % 256)
 unfold addrS
 simp only[List.length_append,List.length_cons,List.length_nil]
 omega
theorem ref_text_run(a:Int)(h:0≤a∧a≤4294967295):Run Tryz.prog 161 [.int .u32 a] (.str (addrS a)):=by
 refine Tryz.run161 (by simp) ?_
 unfold Tryz.c161 addrS
 have l1:=numS_len (a / 16777216)
 have l2:=numS_len (a / 65536 % 256)
 have l3:=numS_len (a / 256 % 256)
 have l4:=numS_len (a % 256)
 have q1:=number_run (a / 16777216) (by omega)
 have q2:=number_run (a / 65536 % 256) (by omega)
 have q3:=number_run (a / 256 % 256) (by omega)
 have q4:=number_run (a % 256) (by omega)
 generalize numS (a / 16777216)=s1 at *
 generalize numS (a / 65536 % 256)=s2 at *
 generalize numS (a / 256 % 256)=s3 at *
 generalize numS (a % 256)=s4 at *
 refine vZ ?_
 refine aC q1 rfl rfl ?_
 refine vZ ?_
 refine aC q2 rfl rfl ?_
 refine vZ ?_
 refine aC q3 rfl rfl ?_
 refine vZ ?_
 refine aC q4 rfl rfl ?_
 refine vZ ?_
 exact eZ
theorem ref_ptx_run(a b:Int)(h:0≤a∧a≤4294967295):Run Tryz.prog 163 [pfx a b] (.str (ptxS a b)):=by
 refine Tryz.run163 (by simp) ?_
 unfold Tryz.c163 ptxS
 have q:=ref_right_run a b
 have q1:=ref_text_run a h
 have l1:=addrS_len a
 have l2:=numS_len b
 generalize addrS a=s at *
 by_cases hb:0≤b∧b≤32
 ·rw [if_pos hb]
  have q2:=number_run b (by omega)
  rw [show okb b=true from decide_eq_true hb] at q
  generalize numS b=t at *
  refine vZ ?_
  refine aC q rfl rfl ?_
  refine vZ ?_
  refine aD q1 rfl rfl (fun _=>rfl) ?_
  refine vZ ?_
  refine aD q2 rfl rfl (fun _=>rfl) ?_
  refine vZ ?_
  exact eZ
 ·rw [if_neg hb]
  rw [show okb b=false from decide_eq_false hb] at q
  refine vZ ?_
  refine aC q rfl rfl ?_
  refine vZ ?_
  exact eZ
end Go.Proofs
namespace Go.Proofs
open Go.Pv
theorem put_run1(b:List UInt8)(n:Int)(hb:b.length≤1000)(h:0≤n∧n < 10):Run Tryz.prog 154 [.own 1 5 (bys b),.int .i64 n] (.own 1 5 (bys (b ++ numS n))):=by
 refine Tryz.run154 (by simp) ?_
 unfold Tryz.c154 numS
 rw [if_pos h.2]
 refine vZ ?_
 refine Ends_rq [[.own 1 5]] ?_
 refine vZ ?_
 exact⟨_,rfl,by simp [bys,bv,u8i_nat] <;> omega,rfl⟩
theorem put_run2(b:List UInt8)(n:Int)(hb:b.length≤1000)(h:0≤n∧n < 100):Run Tryz.prog 154 [.own 1 5 (bys b),.int .i64 n] (.own 1 5 (bys (b ++ numS n))):=by
 by_cases h1:n < 10
 ·exact put_run1 b n hb ⟨h.1,h1⟩
 refine Tryz.run154 (by simp) ?_
 unfold Tryz.c154 numS
 rw [if_neg h1,if_pos h.2]
 have q:=put_run1 b (n / 10) hb (by omega)
 unfold numS at q
 rw [if_pos (by omega)] at q
 refine vZ ?_
 refine awR_callS (ms:=[.own 1 5]) q (by simp (disch:=try exact dr) only[↓pvd,pz,sC,List.map,seval]; rfl) (by simp (disch:=try exact dr) only[↓pvd,pz,sC,List.map,seval]) ?_
 refine vZ ?_
 refine Ends_rq [[.own 1 5]] ?_
 refine vZ ?_
 exact⟨_,rfl,by simp [bys,bv,u8i_nat] <;> omega,rfl⟩
theorem put_run3(b:List UInt8)(n:Int)(hb:b.length≤1000)(h:0≤n∧n < 1000):Run Tryz.prog 154 [.own 1 5 (bys b),.int .i64 n] (.own 1 5 (bys (b ++ numS n))):=by
 by_cases h1:n < 100
 ·exact put_run2 b n hb ⟨h.1,h1⟩
 refine Tryz.run154 (by simp) ?_
 unfold Tryz.c154 numS
 rw [if_neg (by omega),if_neg h1]
 have q:=put_run2 b (n / 10) hb (by omega)
 unfold numS at q
 rw [if_neg (by omega),if_pos (by omega)] at q
 have e1:n / 10 / 10=n / 100:=by omega
 rw [e1] at q
 refine vZ ?_
 refine awR_callS (ms:=[.own 1 5]) q (by simp (disch:=try exact dr) only[↓pvd,pz,sC,List.map,seval]; rfl) (by simp (disch:=try exact dr) only[↓pvd,pz,sC,List.map,seval]) ?_
 refine vZ ?_
 refine Ends_rq [[.own 1 5]] ?_
 refine vZ ?_
 exact⟨_,rfl,by simp [bys,bv,u8i_nat] <;> omega,rfl⟩
end Go.Proofs
namespace Go.Proofs
open Go.Pv
theorem text_run(a:Int)(h:0≤a∧a≤4294967295):Run Tryz.prog 140 [.int .u32 a] (.str (addrS a)):=by
 refine Tryz.run140 (by simp) ?_
 unfold Tryz.c140
 have l1:=numS_len (a / 16777216)
 have l2:=numS_len (a / 65536 % 256)
 have l3:=numS_len (a / 256 % 256)
 have l4:=numS_len (a % 256)
 have q1:=put_run3 [] (a / 16777216) (by simp) (by omega)
 have q2:=put_run3 (numS (a / 16777216) ++ [46]) (a / 65536 % 256) (by simp; omega) (by omega)
 have q3:=put_run3 (numS (a / 16777216) ++ [46] ++ numS (a / 65536 % 256) ++ [46]) (a / 256 % 256) (by simp; omega) (by omega)
 have q4:=put_run3 (numS (a / 16777216) ++ [46] ++ numS (a / 65536 % 256) ++ [46] ++ numS (a / 256 % 256) ++ [46]) (a % 256) (by simp; omega) (by omega)
 refine vZ ?_
 simp only[bys,List.nil_append] at q1 q2 q3 q4
 have hfold:∀ x:List UInt8,List.map bv x ++ [AV.int .u8 46]=List.map bv (x ++ [46]):=fun x=>by rw [List.map_append]; rfl
 refine aw_unroll 5 ?_
 simp (disch:=try exact dq) only[↓pvd,pz,sC,List.map,seval,unr_s,unrT_e,Tryz.c140b0]
 have e1:a / 16777216 % 256=a / 16777216:=by omega
 refine awR_callS (ms:=[.own 1 5]) q1 (by simp (disch:=try exact dq) only[↓pvd,pz,sC,List.map,seval,e1]; rfl) (by simp (disch:=try exact dr) only[↓pvd,pz,sC,List.map,seval]) ?_
 simp (disch:=try exact dq) only[↓pvd,pz,sC,List.map,seval,unr_s,unrT_e,Tryz.c140b0,hfold]
 refine awR_callS (ms:=[.own 1 5]) q2 (by simp (disch:=try exact dq) only[↓pvd,pz,sC,List.map,seval,e1]; rfl) (by simp (disch:=try exact dr) only[↓pvd,pz,sC,List.map,seval]) ?_
 simp (disch:=try exact dq) only[↓pvd,pz,sC,List.map,seval,unr_s,unrT_e,Tryz.c140b0,hfold]
 refine awR_callS (ms:=[.own 1 5]) q3 (by simp (disch:=try exact dq) only[↓pvd,pz,sC,List.map,seval,e1]; rfl) (by simp (disch:=try exact dr) only[↓pvd,pz,sC,List.map,seval]) ?_
 simp (disch:=try exact dq) only[↓pvd,pz,sC,List.map,seval,unr_s,unrT_e,Tryz.c140b0,hfold]
 refine awR_callS (ms:=[.own 1 5]) q4 (by simp (disch:=try exact dq) only[↓pvd,pz,sC,List.map,seval,e1,Int.ediv_one]; rfl) (by simp (disch:=try exact dr) only[↓pvd,pz,sC,List.map,seval]) ?_
 have ha:addrS a=numS (a / 16777216) ++ [46] ++ numS (a / 65536 % 256) ++ [46] ++ numS (a / 256 % 256) ++ [46] ++ numS (a % 256):=rfl
 rw [ha]
 simp (disch:=try exact dq) only[↓pvd,pz,sC,List.map,seval,unr_s,unrT_e,Tryz.c140b0,hfold]
 exact eZ
end Go.Proofs
namespace Go.Proofs
open Go.Pv
theorem ib_run(s:List UInt8)(c:UInt8)(hs:s.length≤100000):Run Tryz.prog 147 [.str s,.int .u8 (c.toNat:Int)] (.int .i64 (Lib.indexByte s c)):=by
 refine Tryz.run147 (by simp) ?_
 unfold Tryz.c147
 have e:(c.toNat:Int).toNat.toUInt8=c:=by simp
 refine vZ ?_
 simp only[Int.toNat_natCast] at e
 rw [e]
 exact eZ
theorem ix_b:∀(s:List UInt8) (c:UInt8),-1≤Lib.indexByte s c∧Lib.indexByte s c < s.length
 | [],c=>by simp [Lib.indexByte]
 | b :: s,c=>by
  have h:=ix_b s c
  unfold Lib.indexByte
  simp only[List.length_cons]
  split
  ·omega
  ·split
   ·omega
   ·omega
theorem ix_run(s:List UInt8)(c:UInt8)(hs:s.length≤100000):Run Tryz.prog 121 [.str s,.str [c]] (.int .i64 (Lib.indexByte s c)):=by
 have q:=ib_run s c hs
 refine Tryz.run121 (by simp) ?_
 unfold Tryz.c121
 have e:s=[c]→Lib.indexByte s c=0:=fun h=>by rw [h]; simp [Lib.indexByte]
 generalize Lib.indexByte s c=r at *
 by_cases h:s=[c]
 ·rw [e h]
  subst h
  refine vZ ?_
  exact eZ
 ·have h':decide ([c]=s)=false:=decide_eq_false (fun x=>h x.symm)
  have hb:∀ x:List UInt8,([c]=s)=False:=fun _=>eq_false (fun x=>h x.symm)
  refine vZ ?_
  refine cB (fun h2=>absurd h2.symm h) (fun _=>?_)
  simp (disch:=try exact dq) only[↓pvd,pz,sC,List.map,seval,bv,List.getElem?_cons_zero]
  refine aC q rfl rfl ?_
  refine vZ ?_
  exact eZ
theorem sindex_run(s:List UInt8)(c:UInt8)(hs:s.length≤100000):Run Tryz.prog 129 [.str s,.str [c]] (.int .i64 (Lib.indexByte s c)):=by
 have q:=ix_run s c hs
 refine Tryz.run129 (by simp) ?_
 unfold Tryz.c129
 refine vZ ?_
 refine aC q rfl rfl ?_
 refine vZ ?_
 exact eZ
def cutF(c:UInt8)(s:List UInt8):List UInt8 × List UInt8 × Bool :=
 if 0≤Lib.indexByte s c then(s.take (Lib.indexByte s c).toNat,s.drop ((Lib.indexByte s c).toNat+1),true) else(s,[],false)
def cutR(p:List UInt8 × List UInt8 × Bool):AV:=.tup [.str p.1,.str p.2.1,.bool p.2.2]
theorem slcut_run(s:List UInt8)(c:UInt8)(hs:s.length≤100000):Run Tryz.prog 91 [.str s,.str [c]] (cutR (cutF c s)):=by
 have q:=ix_run s c hs
 refine Tryz.run91 (by simp) ?_
 unfold Tryz.c91 cutF
 have hb:=ix_b s c
 generalize Lib.indexByte s c=r at *
 by_cases h:0≤r
 ·rw [if_pos h]
  obtain ⟨k,rfl⟩:∃ k:Nat,r=k:=⟨r.toNat,by omega⟩
  refine vZ ?_
  refine aC q rfl rfl ?_
  simp (disch:=try exact dq) only[↓pvd,pz,sC,List.map,seval,cutR]
  (refine Ends_rq [] ?_; simp (disch:=try exact dq) only[↓pvd,pz,sC,List.map,seval,cutR]; exact⟨_,rfl,rfl,rfl⟩)
 ·rw [if_neg h]
  refine vZ ?_
  refine aC q rfl rfl ?_
  simp (disch:=try exact dq) only[↓pvd,pz,sC,List.map,seval,cutR]
  (refine Ends_rq [] ?_; simp (disch:=try exact dq) only[↓pvd,pz,sC,List.map,seval,cutR]; exact⟨_,rfl,rfl,rfl⟩)
theorem cut_run(s:List UInt8)(c:UInt8)(hs:s.length≤100000):Run Tryz.prog 56 [.str s,.str [c]] (cutR (cutF c s)):=by
 have q:=slcut_run s c hs
 refine Tryz.run56 (by simp) ?_
 unfold Tryz.c56
 generalize cutF c s=p at *
 obtain ⟨a,b,d⟩:=p
 simp only[cutR] at *
 refine vZ ?_
 refine aC q rfl rfl ?_
 refine vZ ?_
 exact eZ
end Go.Proofs
namespace Go.Proofs
open Go.Pv
def isD(c:UInt8):Bool:=decide (48 ≤(c.toNat:Int) ∧(c.toNat:Int)≤57)
def vF(ds:List UInt8):Nat→Int
 | 0=>0
 | k+1=>10 * vF ds k +((ds[k]!.toNat:Int) - 48)
theorem vF_b(ds:List UInt8):∀(k:Nat),(∀ j < k,isD ds[j]! = true)→0≤vF ds k∧vF ds k < 10 ^ k
 | 0,_=>by simp [vF]
 | k+1,h=>by
  have h1:=vF_b ds k (fun j hj=>h j (by omega))
  have h2:=of_decide_eq_true (h k (by omega))
  rw [vF,Int.pow_succ]
  omega
theorem vF_b3(ds:List UInt8)(k:Nat)(hk:k≤3)(h:∀ j < k,isD ds[j]! = true):0≤vF ds k∧vF ds k < 1000:=by
 have h1:=vF_b ds k h
 have h3:((10 ^ k:Nat):Int) ≤((10 ^ 3:Nat):Int):=by exact_mod_cast Nat.pow_le_pow_right (n:=10) (by omega) hk
 have h2:(10:Int) ^ k≤1000:=by simpa using h3
 omega
theorem allD_no{w:List UInt8}{i:Nat}(hi:i < w.length)(h:isD w[i]! = false):w.all isD=false:=by
 rw [List.all_eq_false]
 exact⟨w[i]!,by rw [getElem!_pos w i hi]; exact List.getElem_mem hi,by rw [h]; simp⟩
theorem allD_yes{w:List UInt8}(h:∀ k,k < w.length→isD w[k]! = true):w.all isD=true:=by
 rw [List.all_eq_true]
 intro c hc
 obtain ⟨k,hk,rfl⟩:=List.mem_iff_getElem.1 hc
 have:=h k hk
 rwa [getElem!_pos w k hk] at this
def okS(s:List UInt8):Bool:=decide (1≤s.length∧s.length≤3∧¬(1 < s.length∧s[0]! = 48)) && s.all isD
def vS(s:List UInt8):Int:=vF s s.length
def smR(s:List UInt8)(m:Int):AV:=if okS s then .tup [.int .i64 (vS s),.bool (decide (vS s≤m))] else .tup [.int .i64 0,.bool false]
theorem small_run(s:List UInt8)(m:Int)(hs:s.length≤100000)(hm:0≤m∧m≤1000):Run Tryz.prog 69 [.str s,.int .i64 m] (smR s m):=by
 refine Tryz.run69 (by simp) ?_
 unfold Tryz.c69
 by_cases h1:1≤s.length∧s.length≤3∧¬(1 < s.length∧s[0]! = 48)
 ·have hg0:s[0]?=some s[0]!:=by rw [getElem!_pos s 0 (by omega),List.getElem?_eq_getElem (by omega)]
  have hx0:1 < s.length →(s[0]!.toNat:Int)≠48:=fun h2 h3=>h1.2.2 ⟨h2,UInt8.toNat_inj.1 (by simpa using (by omega:s[0]!.toNat=48))⟩
  by_cases h2:1 < s.length
  case' pos=>have hx1:=hx0 h2
  all_goals
   repeat' (first | (simp (disch:=try exact dq) only[↓pvd,pz,sC,List.map,seval,hg0,bv,still]) | (with_reducible first|refine cB (fun _=>?_) (fun _=>?_)|refine gB (fun _=>?_) (fun _=>?_)|refine hB (fun _=>?_) (fun _=>?_)|refine cA ?_ ?_) | exact eZ | fail)
   refine aw_loop (fun k:Nat=>⟨[(0,.str s),(1,.int .i64 m),(6,.int .i64 (vF s k)),(27,.int .i64 s.length),(28,.int .i64 k)],[]⟩) (fun k=>k≤s.length∧∀ j < k,isD s[j]! = true) (fun k=>s.length - k) 0 rfl ⟨by omega,by simp⟩ ?_
   rintro k ⟨hk,hp⟩
   unfold Tryz.c69b0
   have hv:=vF_b3 s k (by omega) hp
   by_cases hx:k < s.length
   ·have hgi:s[k]?=some s[k]!:=by rw [getElem!_pos s k hx,List.getElem?_eq_getElem hx]
    by_cases hd:isD s[k]! = true
    ·have h4:=of_decide_eq_true hd
     have hv2:vF s (k+1)=10 * vF s k +((s[k]!.toNat:Int) - 48):=rfl
     repeat' (first | (simp (disch:=try exact dq) only[↓pvd,pz,sC,List.map,seval,hgi,bv,still]) | (with_reducible first|refine cB (fun _=>?_) (fun _=>?_)|refine gB (fun _=>?_) (fun _=>?_)|refine hB (fun _=>?_) (fun _=>?_)|refine cA ?_ ?_) | exact eZ | fail)
     refine⟨k+1,?_,⟨by omega,fun j hj=>?_⟩,by omega⟩
     ·have hm:(((s[k]!.toNat:Nat):Int) - 48) % 256 =(s[k]!.toNat:Int) - 48:=by omega
      rw [hv2,hm]
      simp
     ·by_cases hjk:j=k
      ·rw [hjk]; exact hd
      ·exact hp j (by omega)
    ·have h3:isD s[k]! = false:=by simpa using hd
     have h4:=of_decide_eq_false h3
     have h5:okS s=false:=by unfold okS; rw [allD_no hx h3,Bool.and_false]
     unfold smR
     rw [h5]
     repeat' (first | (simp (disch:=try exact dq) only[↓pvd,pz,sC,List.map,seval,hgi,bv,still]) | (with_reducible first|refine cB (fun _=>?_) (fun _=>?_)|refine gB (fun _=>?_) (fun _=>?_)|refine hB (fun _=>?_) (fun _=>?_)|refine cA ?_ ?_) | exact eZ | fail)
   ·have hkl:k=s.length:=by omega
    subst hkl
    have h5:okS s=true:=by unfold okS; rw [allD_yes hp,Bool.and_true]; exact decide_eq_true h1
    have h6:vS s=vF s s.length:=rfl
    unfold smR
    rw [h5,h6]
    exact kZ
 ·have h5:okS s=false:=by unfold okS; rw [decide_eq_false h1,Bool.false_and]
  unfold smR
  rw [h5]
  by_cases h2:1≤s.length∧s.length≤3
  ·have hg0:s[0]?=some s[0]!:=by rw [getElem!_pos s 0 (by omega),List.getElem?_eq_getElem (by omega)]
   have h3:1 < s.length∧s[0]! = 48:=by
    by_cases h3:1 < s.length∧s[0]! = 48
    ·exact h3
    ·exact absurd ⟨h2.1,h2.2,h3⟩ h1
   have h4:(s[0]!.toNat:Int)=48:=by rw [h3.2]; rfl
   have h6:=h3.1
   repeat' (first | (simp (disch:=try exact dq) only[↓pvd,pz,sC,List.map,seval,hg0,bv,still]) | (with_reducible first|refine cB (fun _=>?_) (fun _=>?_)|refine gB (fun _=>?_) (fun _=>?_)|refine hB (fun _=>?_) (fun _=>?_)|refine cA ?_ ?_) | exact eZ | fail)
  ·by_cases h3:s.length=0
   ·have:s=[]:=List.eq_nil_of_length_eq_zero h3
    subst this
    exact kZ
   ·have:3 < s.length:=by omega
    exact kZ
theorem isD_b{c:UInt8}(h:isD c=true):48 ≤(c.toNat:Int) ∧(c.toNat:Int)≤57:=of_decide_eq_true h
theorem u8i_digit{c:UInt8}(h:isD c=true){n:Int}(hn:n =(c.toNat:Int)):u8i n=c:=u8i_of (by have:=isD_b h; omega)
theorem numS_vS{s:List UInt8}(hs:1≤s.length∧s.length≤3)(hd:s.all isD=true):numS (vS s)=s↔¬(1 < s.length∧s[0]! = 48):=by
 have x48:∀ c:UInt8,c=48 ↔(c.toNat:Int)=48:=fun c=>⟨fun h=>by rw [h]; rfl,fun h=>UInt8.toNat_inj.1 (by simpa using (by omega:c.toNat=48))⟩
 match s,hs,hd with
 | [a],_,hd =>
  simp only[List.all_cons,List.all_nil,Bool.and_true] at hd
  have ha:=isD_b hd
  have e:vS [a] =(a.toNat:Int) - 48:=by simp [vS,vF]
  rw [e]
  unfold numS
  rw [if_pos (by omega)]
  simp [u8i_digit hd (by omega:48 +((a.toNat:Int) - 48)=_)]
 | [a,b],_,hd =>
  simp only[List.all_cons,List.all_nil,Bool.and_true,Bool.and_eq_true] at hd
  have ha:=isD_b hd.1
  have hb:=isD_b hd.2
  have e:vS [a,b]=10 *((a.toNat:Int) - 48) +((b.toNat:Int) - 48):=by simp [vS,vF]
  have x:=x48 a
  have e0:([a,b]:List UInt8)[0]! = a:=rfl
  rw [e,e0,x]
  unfold numS
  by_cases h:(a.toNat:Int)=48
  ·rw [if_pos (by omega)]; simp [h]
  ·rw [if_neg (by omega),if_pos (by omega),u8i_digit hd.1 (by omega),u8i_digit hd.2 (by omega)]
   simp [h]
 | [a,b,c],_,hd =>
  simp only[List.all_cons,List.all_nil,Bool.and_true,Bool.and_eq_true] at hd
  have ha:=isD_b hd.1
  have hb:=isD_b hd.2.1
  have hc:=isD_b hd.2.2
  have e:vS [a,b,c]=10 *(10 *((a.toNat:Int) - 48) +((b.toNat:Int) - 48)) +((c.toNat:Int) - 48):=by simp [vS,vF]
  have x:=x48 a
  have e0:([a,b,c]:List UInt8)[0]! = a:=rfl
  rw [e,e0,x]
  unfold numS
  by_cases h:(a.toNat:Int)=48
  ·generalize hv:10 *(10 *((a.toNat:Int) - 48) +((b.toNat:Int) - 48)) +((c.toNat:Int) - 48)=v
   by_cases h2:v < 10
   ·rw [if_pos h2]; simp [h]
   ·rw [if_neg h2,if_pos (by omega)]; simp [h]
  ·rw [if_neg (by omega),if_neg (by omega),u8i_digit hd.1 (by omega),u8i_digit hd.2.1 (by omega),u8i_digit hd.2.2 (by omega)]
   simp [h]
def dgF(s:List UInt8):Int:=if okS s then vS s else 1000
theorem vS_b{s:List UInt8}(h:okS s=true):0≤vS s∧vS s < 1000:=by
 unfold okS at h
 simp only[Bool.and_eq_true,decide_eq_true_eq] at h
 refine vF_b3 s s.length h.1.2.1 fun j hj=>?_
 have:=List.all_eq_true.1 h.2 s[j]! (by rw [getElem!_pos s j hj]; exact List.getElem_mem hj)
 exact this
theorem digits_run(s:List UInt8)(hs:s.length≤100000):Run Tryz.prog 113 [.str s] (.int .i64 (dgF s)):=by
 refine Tryz.run113 (by simp) ?_
 unfold Tryz.c113 dgF
 by_cases h1:1≤s.length∧s.length≤3
 ·repeat' (first | (simp (disch:=try exact dq) only[↓pvd,pz,sC,List.map,seval,still]) | (with_reducible first|refine cB (fun _=>?_) (fun _=>?_)|refine gB (fun _=>?_) (fun _=>?_)|refine hB (fun _=>?_) (fun _=>?_)|refine cA ?_ ?_) | exact eZ | fail)
  refine aw_loop (fun k:Nat=>⟨[(0,.str s),(3,.int .i64 (vF s k)),(4,.int .i64 k)],[]⟩) (fun k=>k≤s.length∧∀ j < k,isD s[j]! = true) (fun k=>s.length - k) 0 rfl ⟨by omega,by simp⟩ ?_
  rintro k ⟨hk,hp⟩
  unfold Tryz.c113b0
  have hv:=vF_b3 s k (by omega) hp
  by_cases hx:k < s.length
  ·have hgi:s[k]?=some s[k]!:=by rw [getElem!_pos s k hx,List.getElem?_eq_getElem hx]
   by_cases hd:isD s[k]! = true
   ·have h4:=of_decide_eq_true hd
    have hv2:vF s (k+1)=10 * vF s k +((s[k]!.toNat:Int) - 48):=rfl
    repeat' (first | (simp (disch:=try exact dq) only[↓pvd,pz,sC,List.map,seval,hgi,bv,still]) | (with_reducible first|refine cB (fun _=>?_) (fun _=>?_)|refine gB (fun _=>?_) (fun _=>?_)|refine hB (fun _=>?_) (fun _=>?_)|refine cA ?_ ?_) | exact eZ | fail)
    refine⟨k+1,?_,⟨by omega,fun j hj=>?_⟩,by omega⟩
    ·have hm:vF s k * 10 +(s[k]!.toNat:Int) - 48=vF s (k+1):=by omega
     rw [hm]
     simp
    ·by_cases hjk:j=k
     ·rw [hjk]; exact hd
     ·exact hp j (by omega)
   ·have h3:isD s[k]! = false:=by simpa using hd
    have h4:=of_decide_eq_false h3
    have h5:okS s=false:=by unfold okS; rw [allD_no hx h3,Bool.and_false]
    rw [h5]
    repeat' (first | (simp (disch:=try exact dq) only[↓pvd,pz,sC,List.map,seval,hgi,bv,still]) | (with_reducible first|refine cB (fun _=>?_) (fun _=>?_)|refine gB (fun _=>?_) (fun _=>?_)|refine hB (fun _=>?_) (fun _=>?_)|refine cA ?_ ?_) | exact eZ | fail)
  ·have hkl:k=s.length:=by omega
   subst hkl
   have ha:=allD_yes hp
   have hn:=numS_vS h1 ha
   have q:=number_run (vS s) (vF_b3 s s.length h1.2 hp)
   have h6:vS s=vF s s.length:=rfl
   have hl:=numS_len (vS s)
   by_cases h2:1 < s.length∧s[0]! = 48
   ·have h5:okS s=false:=by unfold okS; rw [decide_eq_false (fun h=>h.2.2 h2),Bool.false_and]
    have h7:¬ numS (vS s)=s:=fun h=>hn.1 h h2
    rw [h5]
    rw [h6] at q h7 hl
    generalize numS (vF s s.length)=t at *
    repeat' (first | (simp (disch:=try exact dq) only[↓pvd,pz,sC,List.map,seval,h7,still]) | (with_reducible first|refine cB (fun _=>?_) (fun _=>?_)|refine gB (fun _=>?_) (fun _=>?_)|refine hB (fun _=>?_) (fun _=>?_)|refine cA ?_ ?_) | refine aC q rfl rfl ?_ | refine aD q rfl rfl (fun _=>rfl) ?_ | exact eZ | fail)
   ·have h5:okS s=true:=by unfold okS; rw [ha,Bool.and_true]; exact decide_eq_true ⟨h1.1,h1.2,h2⟩
    have h7:numS (vS s)=s:=hn.2 h2
    rw [h5]
    rw [h7,h6] at q
    rw [h6]
    repeat' (first | (simp (disch:=try exact dq) only[↓pvd,pz,sC,List.map,seval,still]) | (with_reducible first|refine cB (fun _=>?_) (fun _=>?_)|refine gB (fun _=>?_) (fun _=>?_)|refine hB (fun _=>?_) (fun _=>?_)|refine cA ?_ ?_) | refine aC q rfl rfl ?_ | refine aD q rfl rfl (fun _=>rfl) ?_ | exact eZ | fail)
 ·have h5:okS s=false:=by unfold okS; rw [decide_eq_false (fun h=>h1 ⟨h.1,h.2.1⟩),Bool.false_and]
  rw [h5]
  by_cases h3:s.length=0
  ·have:s=[]:=List.eq_nil_of_length_eq_zero h3
   subst this
   exact kZ
  ·have:3 < s.length:=by omega
   exact kZ
end Go.Proofs
namespace Go.Proofs
open Go.Pv
def spJ(part:List UInt8):List (List UInt8)→List (List UInt8)
 | p :: r=>(part ++ p) :: r
 | []=>[part]
def sp:List UInt8→List (List UInt8)
 | []=>[[]]
 | c :: r=>if c=46 then [] :: sp r else spJ [c] (sp r)
theorem sp_ne(s:List UInt8):sp s≠[]:=by
 cases s with
 | nil=>simp [sp]
 | cons c r =>
  unfold sp
  split
  ·simp
  ·unfold spJ; split <;> simp
theorem spJ_app(a b:List UInt8){l:List (List UInt8)}(h:l≠[]):spJ a (spJ b l)=spJ (a ++ b) l:=by
 cases l with
 | nil=>exact absurd rfl h
 | cons p r=>simp [spJ]
theorem spJ_nil{l:List (List UInt8)}(h:l≠[]):spJ [] l=l:=by
 cases l with
 | nil=>exact absurd rfl h
 | cons p r=>rfl
def goodP(p:List UInt8):Bool:=okS p && decide (vS p≤255)
def accF(ps:List (List UInt8)):Int:=ps.foldl (fun a p=>a * 256+vS p) 0
theorem accF_snoc(ps:List (List UInt8))(p:List UInt8):accF (ps ++ [p])=accF ps * 256+vS p:=by simp [accF]
def rdA(ps:List (List UInt8)):AV:=if ps.length=4∧ps.all goodP=true then .tup [.int .u32 (accF ps),.bool true] else .tup [.int .u32 0,.bool false]
theorem goodP_b{p:List UInt8}(h:goodP p=true):0≤vS p∧vS p≤255∧p.length≤3:=by
 unfold goodP at h
 simp only[Bool.and_eq_true,decide_eq_true_eq] at h
 have:=vS_b h.1
 have h2:=h.1
 unfold okS at h2
 simp only[Bool.and_eq_true,decide_eq_true_eq] at h2
 omega
theorem accF_r:∀(n:Nat) (ps:List (List UInt8)),ps.length=n→ps.all goodP=true→0≤accF ps∧accF ps < 256 ^ n
 | 0,ps,hl,_=>by
  have:ps=[]:=List.eq_nil_of_length_eq_zero hl
  subst this
  simp [accF]
 | n+1,ps,hl,h=>by
  obtain ⟨qs,p,rfl⟩:∃ qs p,ps=qs ++ [p]:=⟨ps.dropLast,ps.getLast (by intro e; subst e; simp at hl),(List.dropLast_concat_getLast _).symm⟩
  simp only[List.length_append,List.length_cons,List.length_nil,List.all_append,List.all_cons,List.all_nil,Bool.and_true,Bool.and_eq_true] at hl h
  have h1:=accF_r n qs (by omega) h.1
  have h2:=goodP_b h.2
  rw [accF_snoc,Int.pow_succ]
  omega
theorem accF_b(ps:List (List UInt8))(hl:ps.length≤4)(h:ps.all goodP=true):0≤accF ps∧accF ps≤4294967295 ∧(ps.length≤3→accF ps < 16777216):=by
 have h1:=accF_r ps.length ps rfl h
 have h3:((256 ^ ps.length:Nat):Int) ≤((256 ^ 4:Nat):Int):=by exact_mod_cast Nat.pow_le_pow_right (n:=256) (by omega) hl
 have h4:ps.length≤3 →((256 ^ ps.length:Nat):Int) ≤((256 ^ 3:Nat):Int):=fun h=>by exact_mod_cast Nat.pow_le_pow_right (n:=256) (by omega) h
 have h5:(256:Int) ^ ps.length≤4294967296:=by simpa using h3
 have h6:ps.length≤3 →(256:Int) ^ ps.length≤16777216:=fun h=>by simpa using h4 h
 refine⟨h1.1,by omega,fun h=>by have:=h6 h; omega⟩
theorem rdA_bad{ps:List (List UInt8)}{p:List UInt8}(hp:p∈ps)(h:goodP p=false):rdA ps=.tup [.int .u32 0,.bool false]:=by
 unfold rdA
 rw [if_neg]
 rintro ⟨_,h2⟩
 have:=List.all_eq_true.1 h2 p hp
 rw [h] at this
 cases this
theorem rdA_len{ps:List (List UInt8)}(h:ps.length≠4):rdA ps=.tup [.int .u32 0,.bool false]:=by
 unfold rdA
 rw [if_neg]
 rintro ⟨h2,_⟩
 exact h h2
theorem goodP_long{p:List UInt8}(h:3 < p.length):goodP p=false:=by
 unfold goodP okS
 rw [decide_eq_false (by omega)]
 rfl
def raS(s:List UInt8)(x:Nat × List (List UInt8) × List UInt8):St:=⟨[(0,.str s),(4,.int .i64 (accF x.2.1)),(5,.int .i64 x.2.1.length),(6,.str x.2.2),(7,.int .i64 x.1)],[]⟩
def raI(s:List UInt8)(x:Nat × List (List UInt8) × List UInt8):Prop :=
 x.2.1.length≤4∧x.2.1.all goodP=true∧x.2.2.length≤3 ∧((x.1≤s.length∧sp s=x.2.1 ++ spJ x.2.2 (sp (s.drop x.1))) ∨(x.1=s.length+1∧sp s=x.2.1))
theorem ref_read_run(s:List UInt8)(hs:s.length≤100000):Run Tryz.prog 80 [.str s] (rdA (sp s)):=by
 refine Tryz.run80 (by simp) ?_
 unfold Tryz.c80
 refine vZ ?_
 refine aw_loop (raS s) (raI s) (fun x=>s.length+1 - x.1) (0,[],[]) rfl ⟨by simp,by simp,by simp,.inl ⟨by simp,by simp [spJ_nil (sp_ne _)]⟩⟩ ?_
 rintro ⟨k,ds,pt⟩ ⟨h1,h2,h3,h4⟩
 simp only at h1 h2 h3 h4
 unfold raS Tryz.c80b0
 simp only
 have hb:=accF_b ds h1 h2
 have q:=digits_run pt (by omega)
 rcases h4 with ⟨hk,h4⟩ | ⟨hk,h4⟩
 ·by_cases hx:k < s.length∧s[k]!≠46
  ·have hgi:s[k]?=some s[k]!:=by rw [getElem!_pos s k hx.1,List.getElem?_eq_getElem hx.1]
   have hne:(s[k]!.toNat:Int)≠46:=fun h=>hx.2 (UInt8.toNat_inj.1 (by simpa using (by omega:s[k]!.toNat=46)))
   have hd:s.drop k=s[k]! :: s.drop (k+1):=by
    have hx2:=hx.1
    rw [getElem!_pos s k hx2]
    exact List.drop_eq_getElem_cons hx2
   have h5:sp s=ds ++ spJ (pt ++ [s[k]!]) (sp (s.drop (k+1))):=by
    rw [h4,hd,sp,if_neg hx.2,spJ_app _ _ (sp_ne _)]
   have htd:List.drop k (List.take (k+1) s)=[s[k]!]:=by
    rw [take_snoc hx.1,List.drop_append_of_le_length (by simp; omega),List.drop_eq_nil_of_le (by simp; omega)]
    rfl
   have hx1:=hx.1
   by_cases hl:pt.length < 3
   ·repeat' (first | (simp (disch:=try exact dq) only[↓pvd,pz,sC,List.map,seval,hgi,bv,htd,still]) | (with_reducible first|refine cB (fun _=>?_) (fun _=>?_)|refine gB (fun _=>?_) (fun _=>?_)|refine hB (fun _=>?_) (fun _=>?_)|refine cA ?_ ?_) | exact eZ | fail)
    refine⟨(k+1,ds,pt ++ [s[k]!]),by simp [raS],⟨h1,h2,by simp; omega,.inl ⟨hx1,h5⟩⟩,by simp; omega⟩
   ·have hbad:rdA (sp s)=.tup [.int .u32 0,.bool false]:=by
     obtain ⟨p,r,hp⟩:=List.exists_cons_of_ne_nil (sp_ne (s.drop (k+1)))
     rw [hp,spJ] at h5
     refine rdA_bad (p:=pt ++ [s[k]!] ++ p) (by rw [h5]; simp) (goodP_long (by simp; omega))
    rw [hbad]
    repeat' (first | (simp (disch:=try exact dq) only[↓pvd,pz,sC,List.map,seval,hgi,bv,htd,still]) | (with_reducible first|refine cB (fun _=>?_) (fun _=>?_)|refine gB (fun _=>?_) (fun _=>?_)|refine hB (fun _=>?_) (fun _=>?_)|refine cA ?_ ?_) | exact eZ | fail)
  ·have hsp:∃ r,sp s=ds ++ pt :: r ∧((k=s.length∧r=[]) ∨(k < s.length∧s[k]! = 46∧r=sp (s.drop (k+1)))):=by
    by_cases hk2:k < s.length
    ·have h46:s[k]! = 46:=by
      by_cases h:s[k]! = 46
      ·exact h
      ·exact absurd ⟨hk2,h⟩ hx
     have hd:s.drop k=s[k]! :: s.drop (k+1):=by
      rw [getElem!_pos s k hk2]
      exact List.drop_eq_getElem_cons hk2
     exact⟨_,by rw [h4,hd,sp,if_pos h46]; simp [spJ],.inr ⟨hk2,h46,rfl⟩⟩
    ·have e:k=s.length:=by omega
     exact⟨[],by rw [h4,e,List.drop_length]; simp [sp,spJ],.inl ⟨e,rfl⟩⟩
   obtain ⟨r,hsp,hr⟩:=hsp
   have hd:(goodP pt=true∧dgF pt=vS pt∧0≤vS pt∧vS pt≤255) ∨(goodP pt=false∧255 < dgF pt):=by
    by_cases hg:goodP pt=true
    ·have:=goodP_b hg
     refine .inl ⟨hg,?_,this.1,this.2.1⟩
     unfold goodP at hg
     simp only[Bool.and_eq_true] at hg
     unfold dgF
     rw [hg.1]
     rfl
    ·have hg:goodP pt=false:=by simpa using hg
     refine .inr ⟨hg,?_⟩
     unfold dgF
     unfold goodP at hg
     cases ho:okS pt with
     | false=>simp
     | true =>
      rw [ho,Bool.true_and] at hg
      have:=of_decide_eq_false hg
      simp only[if_true]
      omega
   rcases hd with ⟨hg,hv,hv0,hv1⟩ | ⟨hg,hv⟩
   ·rw [hv] at q
    have hacc:=accF_snoc ds pt
    generalize vS pt=v at *
    generalize accF ds=a at *
    by_cases hl:ds.length≤3
    ·have h8:=hb.2.2 hl
     rcases hr with ⟨e,hr⟩ | ⟨e,h46,hr⟩
     case' inl=>have h9:=e
     case' inr =>
      have hgi:s[k]?=some s[k]!:=by rw [getElem!_pos s k e,List.getElem?_eq_getElem e]
      rw [h46] at hgi
     case inl =>
      repeat' (first | (simp (disch:=try exact dq) only[↓pvd,pz,sC,List.map,seval,bv,still]) | (with_reducible first|refine cB (fun _=>?_) (fun _=>?_)|refine gB (fun _=>?_) (fun _=>?_)|refine hB (fun _=>?_) (fun _=>?_)|refine cA ?_ ?_) | refine aC q rfl rfl ?_ | refine aD q rfl rfl (fun _=>rfl) ?_ | refine aC q rfl rfl ?_ | refine aD q rfl rfl (fun _=>rfl) ?_ | exact eZ | fail)
      refine⟨(k+1,ds ++ [pt],[]),by simp [raS,hacc],⟨by simp; omega,by simp [h2,hg],by simp,.inr ⟨by simp; omega,by rw [hsp,hr]⟩⟩,by simp; omega⟩
     case inr =>
      repeat' (first | (simp (disch:=try exact dq) only[↓pvd,pz,sC,List.map,seval,hgi,bv,still]) | (with_reducible first|refine cB (fun _=>?_) (fun _=>?_)|refine gB (fun _=>?_) (fun _=>?_)|refine hB (fun _=>?_) (fun _=>?_)|refine cA ?_ ?_) | refine aC q rfl rfl ?_ | refine aD q rfl rfl (fun _=>rfl) ?_ | refine aC q rfl rfl ?_ | refine aD q rfl rfl (fun _=>rfl) ?_ | exact eZ | fail)
      refine⟨(k+1,ds ++ [pt],[]),by simp [raS,hacc],⟨by simp; omega,by simp [h2,hg],by simp,.inl ⟨by simp; omega,by rw [hsp,hr,spJ_nil (sp_ne _)]; simp⟩⟩,by simp; omega⟩
    ·have hbad:rdA (sp s)=.tup [.int .u32 0,.bool false]:=rdA_len (by rw [hsp]; simp; omega)
     rw [hbad]
     rcases hr with ⟨e,hr⟩ | ⟨e,h46,hr⟩
     ·repeat' (first | (simp (disch:=try exact dq) only[↓pvd,pz,sC,List.map,seval,bv,still]) | (with_reducible first|refine cB (fun _=>?_) (fun _=>?_)|refine gB (fun _=>?_) (fun _=>?_)|refine hB (fun _=>?_) (fun _=>?_)|refine cA ?_ ?_) | refine aC q rfl rfl ?_ | refine aD q rfl rfl (fun _=>rfl) ?_ | refine aC q rfl rfl ?_ | refine aD q rfl rfl (fun _=>rfl) ?_ | exact eZ | fail)
     ·have hgi:s[k]?=some s[k]!:=by rw [getElem!_pos s k e,List.getElem?_eq_getElem e]
      rw [h46] at hgi
      repeat' (first | (simp (disch:=try exact dq) only[↓pvd,pz,sC,List.map,seval,hgi,bv,still]) | (with_reducible first|refine cB (fun _=>?_) (fun _=>?_)|refine gB (fun _=>?_) (fun _=>?_)|refine hB (fun _=>?_) (fun _=>?_)|refine cA ?_ ?_) | refine aC q rfl rfl ?_ | refine aD q rfl rfl (fun _=>rfl) ?_ | refine aC q rfl rfl ?_ | refine aD q rfl rfl (fun _=>rfl) ?_ | exact eZ | fail)
   ·have hbad:rdA (sp s)=.tup [.int .u32 0,.bool false]:=rdA_bad (p:=pt) (by rw [hsp]; simp) hg
    rw [hbad]
    generalize dgF pt=v at *
    rcases hr with ⟨e,hr⟩ | ⟨e,h46,hr⟩
    ·repeat' (first | (simp (disch:=try exact dq) only[↓pvd,pz,sC,List.map,seval,bv,still]) | (with_reducible first|refine cB (fun _=>?_) (fun _=>?_)|refine gB (fun _=>?_) (fun _=>?_)|refine hB (fun _=>?_) (fun _=>?_)|refine cA ?_ ?_) | refine aC q rfl rfl ?_ | refine aD q rfl rfl (fun _=>rfl) ?_ | refine aC q rfl rfl ?_ | refine aD q rfl rfl (fun _=>rfl) ?_ | exact eZ | fail)
    ·have hgi:s[k]?=some s[k]!:=by rw [getElem!_pos s k e,List.getElem?_eq_getElem e]
     rw [h46] at hgi
     repeat' (first | (simp (disch:=try exact dq) only[↓pvd,pz,sC,List.map,seval,hgi,bv,still]) | (with_reducible first|refine cB (fun _=>?_) (fun _=>?_)|refine gB (fun _=>?_) (fun _=>?_)|refine hB (fun _=>?_) (fun _=>?_)|refine cA ?_ ?_) | refine aC q rfl rfl ?_ | refine aD q rfl rfl (fun _=>rfl) ?_ | refine aC q rfl rfl ?_ | refine aD q rfl rfl (fun _=>rfl) ?_ | exact eZ | fail)
 ·rw [h4]
  by_cases hl:ds.length=4
  ·have h5:rdA ds=.tup [.int .u32 (accF ds),.bool true]:=by unfold rdA; rw [if_pos ⟨hl,h2⟩]
   rw [h5]
   generalize accF ds=a at *
   exact kZ
  ·rw [rdA_len hl]
   generalize accF ds=a at *
   exact kZ
end Go.Proofs
