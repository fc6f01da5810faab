/- The proofs of what the functions of this seat do. -/
import Derived.Test.YtppdpcfmkmnfjaaGreatDoorPr1
import Derived.Lib.Bytealg
import Derived.Lib.IndexLaws
set_option linter.unusedSimpArgs false
set_option linter.unusedVariables false
set_option maxHeartbeats 2000000
set_option maxRecDepth 20000
namespace Go.Proofs
open Go.Pv
def okA (s : List UInt8) : Prop:=(sp s).length = 4 ∧ (sp s).all goodP = true
instance (s : List UInt8) : Decidable (okA s):=by unfold okA; exact inferInstance
theorem rdA_pos {s : List UInt8} (h : okA s) : rdA (sp s) = .tup [.int .u32 (accF (sp s)), .bool true]:=by unfold rdA; exact if_pos h
theorem rdA_neg {s : List UInt8} (h : ¬ okA s) : rdA (sp s) = .tup [.int .u32 0, .bool false]:=by unfold rdA; exact if_neg h
def rpF (s : List UInt8) : AV :=
 if 0 ≤ Lib.indexByte s 47 ∧ okA (s.take (Lib.indexByte s 47).toNat) ∧ okS (s.drop ((Lib.indexByte s 47).toNat + 1)) = true ∧ vS (s.drop ((Lib.indexByte s 47).toNat + 1)) ≤ 32
 then .tup [pfx (accF (sp (s.take (Lib.indexByte s 47).toNat))) (vS (s.drop ((Lib.indexByte s 47).toNat + 1))), .bool true] else .tup [pfx 0 0, .bool false]
theorem rp_run (s : List UInt8) (hs : s.length ≤ 100000) : Run Tryz.prog 43 [.str s] (rpF s):=by
 refine Tryz.run43 (by simp) ?_
 unfold Tryz.c43
 have q:=cut_run s 47 hs
 unfold cutF at q
 have hb:=ix_b s 47
 unfold rpF
 by_cases h : 0 ≤ Lib.indexByte s 47
 ·rw [if_pos h, cutR] at q
  have hl1 : (s.take (Lib.indexByte s 47).toNat).length ≤ 100000:=by simp; omega
  have hl2 : (s.drop ((Lib.indexByte s 47).toNat + 1)).length ≤ 100000:=by simp; omega
  generalize s.take (Lib.indexByte s 47).toNat = a at *
  generalize s.drop ((Lib.indexByte s 47).toNat + 1) = b at *
  have q1:=read_run a hl1
  have q2:=small_run b 32 hl2 (by omega)
  by_cases ha : okA a
  ·have hab:=accF_b (sp a) (by have:=ha.1; omega) ha.2
   rw [rdA_pos ha] at q1
   unfold smR at q2
   generalize accF (sp a) = v at *
   by_cases hk : okS b = true
   ·have hvb:=vS_b hk
    rw [if_pos hk] at q2
    by_cases h32 : vS b ≤ 32
    ·rw [if_pos ⟨h, ha, hk, h32⟩]
     rw [decide_eq_true h32] at q2
     generalize vS b = u at *
     simp (disch:=first|omega|(simp only[pvl] at *;omega)) only [↓pvd,pva,pvr,bin2,binB2,un1,setCells,List.map,seval,reduceCtorEq]
     refine awR_call q rfl rfl ?_
     simp (disch:=first|omega|(simp only[pvl] at *;omega)) only [↓pvd,pva,pvr,bin2,binB2,un1,setCells,List.map,seval,reduceCtorEq]
     refine awR_call q1 rfl rfl ?_
     simp (disch:=first|omega|(simp only[pvl] at *;omega)) only [↓pvd,pva,pvr,bin2,binB2,un1,setCells,List.map,seval,reduceCtorEq]
     refine awR_call q2 rfl rfl ?_
     simp (disch:=first|omega|(simp only[pvl] at *;omega)) only [↓pvd,pva,pvr,bin2,binB2,un1,setCells,List.map,seval,reduceCtorEq]
     (refine EndsX_rq [] ?_; simp (disch:=first|omega|(simp only[pvl];omega)) only [↓pvd,pva,pvr,bin2,binB2,un1,setCells,List.map,seval,reduceCtorEq]; exact ⟨_,rfl,rfl,rfl⟩)
    ·rw [if_neg (fun h=>h32 h.2.2.2)]
     rw [decide_eq_false h32] at q2
     generalize vS b = u at *
     simp (disch:=first|omega|(simp only[pvl] at *;omega)) only [↓pvd,pva,pvr,bin2,binB2,un1,setCells,List.map,seval,reduceCtorEq]
     refine awR_call q rfl rfl ?_
     simp (disch:=first|omega|(simp only[pvl] at *;omega)) only [↓pvd,pva,pvr,bin2,binB2,un1,setCells,List.map,seval,reduceCtorEq]
     refine awR_call q1 rfl rfl ?_
     simp (disch:=first|omega|(simp only[pvl] at *;omega)) only [↓pvd,pva,pvr,bin2,binB2,un1,setCells,List.map,seval,reduceCtorEq]
     refine awR_call q2 rfl rfl ?_
     simp (disch:=first|omega|(simp only[pvl] at *;omega)) only [↓pvd,pva,pvr,bin2,binB2,un1,setCells,List.map,seval,reduceCtorEq]
     (refine EndsX_rq [] ?_; simp (disch:=first|omega|(simp only[pvl];omega)) only [↓pvd,pva,pvr,bin2,binB2,un1,setCells,List.map,seval,reduceCtorEq]; exact ⟨_,rfl,rfl,rfl⟩)
   ·rw [if_neg (fun h=>hk h.2.2.1)]
    rw [if_neg hk] at q2
    simp (disch:=first|omega|(simp only[pvl] at *;omega)) only [↓pvd,pva,pvr,bin2,binB2,un1,setCells,List.map,seval,reduceCtorEq]
    refine awR_call q rfl rfl ?_
    simp (disch:=first|omega|(simp only[pvl] at *;omega)) only [↓pvd,pva,pvr,bin2,binB2,un1,setCells,List.map,seval,reduceCtorEq]
    refine awR_call q1 rfl rfl ?_
    simp (disch:=first|omega|(simp only[pvl] at *;omega)) only [↓pvd,pva,pvr,bin2,binB2,un1,setCells,List.map,seval,reduceCtorEq]
    refine awR_call q2 rfl rfl ?_
    simp (disch:=first|omega|(simp only[pvl] at *;omega)) only [↓pvd,pva,pvr,bin2,binB2,un1,setCells,List.map,seval,reduceCtorEq]
    (refine EndsX_rq [] ?_; simp (disch:=first|omega|(simp only[pvl];omega)) only [↓pvd,pva,pvr,bin2,binB2,un1,setCells,List.map,seval,reduceCtorEq]; exact ⟨_,rfl,rfl,rfl⟩)
  ·rw [if_neg (fun h=>ha h.2.1)]
   rw [rdA_neg ha] at q1
   obtain ⟨n, d, hn⟩ : ∃ n d, smR b 32 = .tup [.int .i64 n, .bool d]:=by unfold smR; split <;> exact ⟨_, _, rfl⟩
   rw [hn] at q2
   simp (disch:=first|omega|(simp only[pvl] at *;omega)) only [↓pvd,pva,pvr,bin2,binB2,un1,setCells,List.map,seval,reduceCtorEq]
   refine awR_call q rfl rfl ?_
   simp (disch:=first|omega|(simp only[pvl] at *;omega)) only [↓pvd,pva,pvr,bin2,binB2,un1,setCells,List.map,seval,reduceCtorEq]
   refine awR_call q1 rfl rfl ?_
   simp (disch:=first|omega|(simp only[pvl] at *;omega)) only [↓pvd,pva,pvr,bin2,binB2,un1,setCells,List.map,seval,reduceCtorEq]
   refine awR_call q2 rfl rfl ?_
   simp (disch:=first|omega|(simp only[pvl] at *;omega)) only [↓pvd,pva,pvr,bin2,binB2,un1,setCells,List.map,seval,reduceCtorEq]
   (refine EndsX_rq [] ?_; simp (disch:=first|omega|(simp only[pvl];omega)) only [↓pvd,pva,pvr,bin2,binB2,un1,setCells,List.map,seval,reduceCtorEq]; exact ⟨_,rfl,rfl,rfl⟩)
 ·rw [if_neg h, cutR] at q
  rw [if_neg (fun h'=>h h'.1)]
  have q1:=read_run s hs
  have q2:=small_run [] 32 (by simp) (by omega)
  obtain ⟨n, d, hn⟩ : ∃ n d, smR [] 32 = .tup [.int .i64 n, .bool d]:=by unfold smR; split <;> exact ⟨_, _, rfl⟩
  obtain ⟨n', d', hn'⟩ : ∃ n d, rdA (sp s) = .tup [.int .u32 n, .bool d]:=by unfold rdA; split <;> exact ⟨_, _, rfl⟩
  rw [hn] at q2
  rw [hn'] at q1
  simp (disch:=first|omega|(simp only[pvl] at *;omega)) only [↓pvd,pva,pvr,bin2,binB2,un1,setCells,List.map,seval,reduceCtorEq]
  refine awR_call q rfl rfl ?_
  simp (disch:=first|omega|(simp only[pvl] at *;omega)) only [↓pvd,pva,pvr,bin2,binB2,un1,setCells,List.map,seval,reduceCtorEq]
  refine awR_call q1 rfl rfl ?_
  simp (disch:=first|omega|(simp only[pvl] at *;omega)) only [↓pvd,pva,pvr,bin2,binB2,un1,setCells,List.map,seval,reduceCtorEq]
  refine awR_call q2 rfl rfl ?_
  simp (disch:=first|omega|(simp only[pvl] at *;omega)) only [↓pvd,pva,pvr,bin2,binB2,un1,setCells,List.map,seval,reduceCtorEq]
  (refine EndsX_rq [] ?_; simp (disch:=first|omega|(simp only[pvl];omega)) only [↓pvd,pva,pvr,bin2,binB2,un1,setCells,List.map,seval,reduceCtorEq]; exact ⟨_,rfl,rfl,rfl⟩)
end Go.Proofs
namespace Go.Proofs
open Go.Pv
end Go.Proofs
namespace Go.Proofs
open Go.Pv
end Go.Proofs
namespace Go.Proofs
open Go.Pv
end Go.Proofs
namespace Go.Proofs
open Go.Pv
def sc : List UInt8 → List (List UInt8)
 | []=>[[]]
 | c :: r=>if c = 44 then [] :: sc r else spJ [c] (sc r)
theorem sc_ne (s : List UInt8) : sc s ≠ []:=by
 cases s with
 | nil=>simp [sc]
 | cons c r =>
  unfold sc
  split
  ·simp
  ·unfold spJ; split <;> simp
theorem sc_index (s : List UInt8) : sc s = if 0 ≤ Lib.indexByte s 44 then s.take (Lib.indexByte s 44).toNat :: sc (s.drop ((Lib.indexByte s 44).toNat + 1)) else [s]:=by
 induction s with
 | nil=>simp [sc, Lib.indexByte]
 | cons c r ih =>
  have hb:=ix_b r 44
  rw [show sc (c :: r) = if c = 44 then [] :: sc r else spJ [c] (sc r) by rw [sc], show Lib.indexByte (c :: r) 44 = if c == 44 then 0 else if Lib.indexByte r 44 == -1 then -1 else Lib.indexByte r 44 + 1 by rw [Lib.indexByte]]
  by_cases hc : c = 44
  ·simp [hc]
  ·simp only [hc,if_false,beq_iff_eq]
   rw [ih]
   by_cases hx : Lib.indexByte r 44 < 0
   ·have : Lib.indexByte r 44 = -1:=by omega
    rw [if_neg (by omega), if_pos this]
    simp [spJ]
   ·have e : (Lib.indexByte r 44 + 1).toNat = (Lib.indexByte r 44).toNat + 1:=by omega
    have h1 : ¬ Lib.indexByte r 44 = -1:=by omega
    rw [if_pos (by omega : 0 ≤ Lib.indexByte r 44), if_neg h1, if_pos (by omega : 0 ≤ Lib.indexByte r 44 + 1), e]
    simp [spJ]
theorem str_nr (l : List UInt8) : (AV.str l).nr1 = true:=rfl
theorem str_pl (l : List UInt8) : (AV.str l).pl = true:=rfl
end Go.Proofs
namespace Go.Proofs
namespace Nm
open Go.Pv
theorem u8b (c : UInt8) : c.toNat.toUInt8 = c:=by simp
theorem ib_b (s : List UInt8) (c : UInt8) : -1 ≤ Lib.indexByte s c ∧ Lib.indexByte s c < s.length ∨ Lib.indexByte s c = -1:=by
 by_cases h : Lib.indexByte s c = -1
 ·exact .inr h
 ·have:=Lib.indexByte_ge s c
  obtain ⟨o, ho⟩ : ∃ o : Nat, Lib.indexByte s c = o:=⟨_, (Int.toNat_of_nonneg (by omega)).symm⟩
  have:=(Lib.indexByte_some ho).1
  have hl:=(List.getElem?_eq_some_iff.1 this).1
  left; omega
theorem ixb_run (s : List UInt8) (c : UInt8) : Run Tryz.prog 147 [.str s, .int .u8 c.toNat] (.int .i64 (Lib.indexByte s c)):=by
 refine Tryz.run147 (by simp) ?_
 unfold Tryz.c147
 simp (disch:=first|omega|(simp only[pvl];omega)) only [↓pvd,pva,pvr,bin2,binB2,un1,setCells,List.map,seval,reduceCtorEq,u8b]
 (refine Ends_rq [] ?_; simp (disch:=first|omega|(simp only[pvl];omega)) only [↓pvd,pva,pvr,bin2,binB2,un1,setCells,List.map,seval,reduceCtorEq]; exact ⟨_,rfl,rfl,rfl⟩)
theorem index1_run (s : List UInt8) (c : UInt8) : Run Tryz.prog 121 [.str s, .str [c]] (.int .i64 (Lib.indexByte s c)):=by
 have q:=ixb_run s c
 refine Tryz.run121 (by simp) ?_
 unfold Tryz.c121
 by_cases h : [c] = s
 ·subst h
  have e : Lib.indexByte [c] c = 0:=by simp [Lib.indexByte]
  rw [e] at *
  repeat' (first | (simp (disch:=first|omega|(simp only[pvl];omega)) only [↓pvd,pva,pvr,bin2,binB2,un1,setCells,List.map,seval,reduceCtorEq,still]) | (with_reducible first|refine condP_d (fun _=>?_) (fun _=>?_)|refine guardP_d0 (fun _=>?_) (fun _=>?_)|refine guardP_d1 (fun _=>?_) (fun _=>?_)|refine condP_any ?_ ?_) | refine awR_call q rfl rfl ?_ | refine awR_callD q rfl rfl (fun _=>rfl) ?_ | (refine Ends_rq [] ?_; simp (disch:=first|omega|(simp only[pvl];omega)) only [↓pvd,pva,pvr,bin2,binB2,un1,setCells,List.map,seval,reduceCtorEq]; exact ⟨_,rfl,rfl,rfl⟩))
 ·repeat' (first | (simp (disch:=first|omega|(simp only[pvl];omega)) only [↓pvd,pva,pvr,bin2,binB2,un1,setCells,List.map,seval,reduceCtorEq,bv,still]) | (with_reducible first|refine condP_d (fun _=>?_) (fun _=>?_)|refine guardP_d0 (fun _=>?_) (fun _=>?_)|refine guardP_d1 (fun _=>?_) (fun _=>?_)|refine condP_any ?_ ?_) | refine awR_call q rfl rfl ?_ | refine awR_callD q rfl rfl (fun _=>rfl) ?_ | (refine Ends_rq [] ?_; simp (disch:=first|omega|(simp only[pvl];omega)) only [↓pvd,pva,pvr,bin2,binB2,un1,setCells,List.map,seval,reduceCtorEq]; exact ⟨_,rfl,rfl,rfl⟩))
end Nm
end Go.Proofs
namespace Go.Proofs
namespace Nm
open Go.Pv
def cutV (s : List UInt8) (c : UInt8) : List UInt8 × List UInt8 × Bool :=
 if Lib.indexByte s c = -1 then (s, [], false) else (s.take (Lib.indexByte s c).toNat, s.drop ((Lib.indexByte s c).toNat + 1), true)
theorem cutl_run (s : List UInt8) (c : UInt8) (hs : s.length ≤ 100000) : Run Tryz.prog 91 [.str s, .str [c]] (.tup [.str (cutV s c).1, .str (cutV s c).2.1, .bool (cutV s c).2.2]):=by
 have q:=index1_run s c
 have hb:=ib_b s c
 refine Tryz.run91 (by simp) ?_
 unfold Tryz.c91
 unfold cutV
 by_cases h : Lib.indexByte s c = -1
 ·rw [if_pos h]
  rw [h] at q
  repeat' (first | (simp (disch:=first|omega|(simp only[pvl];omega)) only [↓pvd,pva,pvr,bin2,binB2,un1,setCells,List.map,seval,reduceCtorEq,still]) | (with_reducible first|refine condP_d (fun _=>?_) (fun _=>?_)|refine guardP_d0 (fun _=>?_) (fun _=>?_)|refine guardP_d1 (fun _=>?_) (fun _=>?_)|refine condP_any ?_ ?_) | refine awR_call q rfl rfl ?_ | refine awR_callD q rfl rfl (fun _=>rfl) ?_ | (refine Ends_rq [] ?_; simp (disch:=first|omega|(simp only[pvl];omega)) only [↓pvd,pva,pvr,bin2,binB2,un1,setCells,List.map,seval,reduceCtorEq]; exact ⟨_,rfl,rfl,rfl⟩))
 ·rw [if_neg h]
  obtain ⟨o, ho⟩ : ∃ o : Nat, Lib.indexByte s c = o:=⟨_, (Int.toNat_of_nonneg (by omega)).symm⟩
  rw [ho] at q
  rw [ho]
  have : o < s.length:=by omega
  clear h hb
  repeat' (first | (simp (disch:=first|omega|(simp only[pvl];omega)) only [↓pvd,pva,pvr,bin2,binB2,un1,setCells,List.map,seval,reduceCtorEq,still]) | (with_reducible first|refine condP_d (fun _=>?_) (fun _=>?_)|refine guardP_d0 (fun _=>?_) (fun _=>?_)|refine guardP_d1 (fun _=>?_) (fun _=>?_)|refine condP_any ?_ ?_) | refine awR_call q rfl rfl ?_ | refine awR_callD q rfl rfl (fun _=>rfl) ?_ | (refine Ends_rq [] ?_; simp (disch:=first|omega|(simp only[pvl];omega)) only [↓pvd,pva,pvr,bin2,binB2,un1,setCells,List.map,seval,reduceCtorEq]; exact ⟨_,rfl,rfl,rfl⟩))
theorem cut_run (s : List UInt8) (c : UInt8) (hs : s.length ≤ 100000) : Run Tryz.prog 56 [.str s, .str [c]] (.tup [.str (cutV s c).1, .str (cutV s c).2.1, .bool (cutV s c).2.2]):=by
 have q:=cutl_run s c hs
 refine Tryz.run56 (by simp) ?_
 unfold Tryz.c56
 repeat' (first | (simp (disch:=first|omega|(simp only[pvl];omega)) only [↓pvd,pva,pvr,bin2,binB2,un1,setCells,List.map,seval,reduceCtorEq,still]) | (with_reducible first|refine condP_d (fun _=>?_) (fun _=>?_)|refine guardP_d0 (fun _=>?_) (fun _=>?_)|refine guardP_d1 (fun _=>?_) (fun _=>?_)|refine condP_any ?_ ?_) | refine awR_call q rfl rfl ?_ | refine awR_callD q rfl rfl (fun _=>rfl) ?_ | (refine Ends_rq [] ?_; simp (disch:=first|omega|(simp only[pvl];omega)) only [↓pvd,pva,pvr,bin2,binB2,un1,setCells,List.map,seval,reduceCtorEq]; exact ⟨_,rfl,rfl,rfl⟩))
def spl : List UInt8 → List (List UInt8)
 | []=>[]
 | c :: r=>if c = 10 then [] :: spl r else match spl r with
  | []=>[[c]]
  | h :: t=>(c :: h) :: t
theorem spl_hit : ∀ (a r : List UInt8), (∀ c ∈ a, c ≠ 10) → spl (a ++ 10 :: r) = a :: spl r
 | [], r, _=>by simp [spl]
 | c :: a, r, h=>by
  have:=spl_hit a r (fun x hx=>h x (by simp [hx]))
  simp [spl, this, h c (by simp)]
theorem spl_miss : ∀ (a : List UInt8), (∀ c ∈ a, c ≠ 10) → a ≠ [] → spl a = [a]
 | [], _, h=>absurd rfl h
 | [c], h, _=>by simp [spl, h c (by simp)]
 | c :: d :: a, h, _=>by
  have:=spl_miss (d :: a) (fun x hx=>h x (by simp_all)) (by simp)
  rw [spl, this]
  simp [h c (by simp)]
theorem spl_cut (s : List UInt8) (hs : s ≠ []) : spl s = (cutV s 10).1 :: spl (cutV s 10).2.1:=by
 have hb:=ib_b s 10
 unfold cutV
 by_cases h : Lib.indexByte s 10 = -1
 ·rw [if_pos h]
  have:=Lib.indexByte_none h
  rw [spl_miss s ?_ hs]
  ·simp [spl]
  intro c hc e
  subst e
  obtain ⟨k, hk, e⟩:=List.mem_iff_getElem.1 hc
  exact this k (by rw [List.getElem?_eq_getElem hk, e])
 ·rw [if_neg h]
  obtain ⟨o, ho⟩ : ∃ o : Nat, Lib.indexByte s 10 = o:=⟨_, (Int.toNat_of_nonneg (by omega)).symm⟩
  rw [ho]
  obtain ⟨h1, h2⟩:=Lib.indexByte_some ho
  obtain ⟨hl, h1⟩:=List.getElem?_eq_some_iff.1 h1
  have e : s = s.take o ++ 10 :: s.drop (o + 1):=by
   rw [← h1, ← List.drop_eq_getElem_cons hl, List.take_append_drop]
  have:=spl_hit (s.take o) (s.drop (o + 1)) (fun c hc e=>by
   subst e
   obtain ⟨k, hk, e⟩:=List.mem_iff_getElem.1 hc
   simp at hk e
   exact h2 k (by omega) (by rw [List.getElem?_eq_getElem (by omega), e]))
  rw [← e] at this
  simpa using this
theorem cut_len (s : List UInt8) (hs : s ≠ []) : (cutV s 10).2.1.length < s.length:=by
 have:=List.length_pos_iff.2 hs
 unfold cutV
 split
 ·simpa using this
 ·simp; omega
theorem spl_le : ∀ (s : List UInt8), (spl s).length ≤ s.length
 | []=>by simp [spl]
 | c :: r=>by
  have:=spl_le r
  rw [spl]
  split
  ·simp; omega
  ·split
   ·simp
   ·rename_i h t e
    rw [e] at this
    simp at this ⊢
    omega
end Nm
end Go.Proofs
namespace Go.Proofs
namespace Nm
open Go.Pv
def digF (n : Nat) : List UInt8:=if n < 10 then [u8i (48 + n)] else digF (n / 10) ++ [u8i (48 + ((n % 10 : Nat) : Int))]
termination_by n
decreasing_by omega
theorem digF_lt {n : Nat} (h : n < 10) : digF n = [u8i (48 + n)]:=by rw [digF, if_pos h]
theorem digF_ge {n : Nat} (h : 10 ≤ n) : digF n = digF (n / 10) ++ [u8i (48 + ((n % 10 : Nat) : Int))]:=by rw [digF, if_neg (by omega)]
theorem digF_len : ∀ (n k : Nat), n < 10 ^ (k + 1) → (digF n).length ≤ k + 1
 | n, 0, h=>by rw [digF_lt (by omega)]; simp
 | n, k + 1, h=>by
  by_cases h1 : n < 10
  ·rw [digF_lt h1]; simp
  ·rw [digF_ge (by omega)]
   have:=digF_len (n / 10) k (by rw [Nat.pow_succ] at h; omega)
   simp; omega
def txF (n : Int) : List UInt8:=if n < 0 then 45 :: digF (-n).toNat else digF n.toNat
def rvF (L : List UInt8) (i : Nat) : List UInt8:=(List.range L.length).map fun j=>if j < i ∨ L.length - 1 - i < j then L[L.length - 1 - j]! else L[j]!
theorem rvF_len (L : List UInt8) (i : Nat) : (rvF L i).length = L.length:=by simp [rvF]
theorem rvF_get (L : List UInt8) (i j : Nat) (h : j < L.length) : (rvF L i)[j]! = if j < i ∨ L.length - 1 - i < j then L[L.length - 1 - j]! else L[j]!:=by
 rw [getElem!_pos _ _ (by rw [rvF_len]; exact h)]
 simp [rvF]
theorem rvF_ext {a b : List UInt8} (hl : a.length = b.length) (h : ∀ j, j < a.length → a[j]! = b[j]!) : a = b :=
 List.ext_getElem hl fun j h1 h2=>by
  have:=h j h1
  rwa [getElem!_pos a j h1, getElem!_pos b j h2] at this
theorem set_get {a : List UInt8} {i j : Nat} {x : UInt8} (h : j < a.length) : (a.set i x)[j]! = if i = j then x else a[j]!:=by
 rw [getElem!_pos _ _ (by simpa using h), List.getElem_set]
 split
 ·rfl
 ·rw [getElem!_pos a j h]
theorem rvF_zero (L : List UInt8) : rvF L 0 = L:=rvF_ext (rvF_len L 0) fun j h=>by
 rw [rvF_len] at h
 rw [rvF_get L 0 j h, if_neg (by omega)]
theorem rvF_step (L : List UInt8) (i : Nat) (h : i < L.length - 1 - i) : ((rvF L i).set i (rvF L i)[L.length - 1 - i]!).set (L.length - 1 - i) (rvF L i)[i]! = rvF L (i + 1) :=
 rvF_ext (by simp [rvF_len]) fun j hj=>by
  simp only [List.length_set,rvF_len] at hj
  have e1:=rvF_get L i (L.length - 1 - i) (by omega)
  have e2:=rvF_get L i i (by omega)
  have e3:=rvF_get L i j hj
  have e4:=rvF_get L (i + 1) j hj
  rw [set_get (by simp [rvF_len]; omega), set_get (by rw [rvF_len]; omega), e1, e2, e3, e4]
  by_cases h1 : L.length - 1 - i = j
  ·rw [if_pos h1, if_neg (by omega), if_pos (by omega)]
   congr 1; omega
  ·rw [if_neg h1]
   by_cases h2 : i = j
   ·rw [if_pos h2, if_neg (by omega), if_pos (by omega), h2]
   ·rw [if_neg h2]
    by_cases h3 : j < i ∨ L.length - 1 - i < j
    ·rw [if_pos h3, if_pos (by omega)]
    ·rw [if_neg h3, if_neg (by omega)]
theorem rvF_end (L : List UInt8) (i : Nat) (h : ¬ i < L.length - 1 - i) : rvF L i = L.reverse:=rvF_ext (by simp [rvF_len]) fun j hj=>by
 rw [rvF_len] at hj
 rw [rvF_get L i j hj, getElem!_pos L.reverse j (by simpa using hj), List.getElem_reverse]
 split
 ·rw [getElem!_pos L _ (by omega)]
 ·rw [getElem!_pos L _ (by omega)]
  congr 1; omega
theorem digF_ne (n : Nat) : digF n ≠ []:=by
 by_cases h : n < 10
 ·rw [digF_lt h]; simp
 ·rw [digF_ge (by omega)]; simp
def lpI (N : Nat) (a : Nat × Bool × List UInt8) : Prop:=a.1 ≤ N ∧ (if a.2.1 = true then digF a.1 ++ a.2.2.reverse = digF N else a.2.2.reverse = digF N)
theorem text_run (n : Int) (h0 : -9223372036854775808 ≤ n) (h1 : n < 9223372036854775808) (hd : (digF n.natAbs).length ≤ 1000) : Run Tryz.prog 98 [.int .i64 n] (.str (txF n)):=by
 refine Tryz.run98 (by simp) ?_
 unfold Tryz.c98
 by_cases hn : n < 0
 ·obtain ⟨N, hN⟩ : ∃ N : Nat, n = -(N : Int):=⟨n.natAbs, by omega⟩
  have htx : txF n = 45 :: digF N:=by unfold txF; rw [if_pos hn, show (-n).toNat = N by omega]
  have hd2 : (digF N).length ≤ 1000:=by rw [show n.natAbs = N by omega] at hd; exact hd
  rw [htx]
  have he : (0 - n % 18446744073709551616) % 18446744073709551616 = (N : Int):=by omega
  simp (disch:=first|omega|(simp only[pvl];omega)) only [↓pvd,pva,pvr,bin2,binB2,un1,setCells,List.map,seval,reduceCtorEq,he]
  refine aw_loop (fun a : Nat × Bool × List UInt8=>⟨[(0, .int .i64 n), (3, .vec 0 1 0 a.2.2.length), (4, .int .u64 a.1), (5, .bool a.2.1)], [some ⟨5, bys a.2.2, true⟩]⟩) (lpI N) (fun a=>if a.2.1 = true then a.1 + 1 else 0) (N, true, []) ?_ ⟨Nat.le_refl _, by simp⟩ ?_
  ·simp (disch:=first|omega|(simp only[pvl] at *;omega)) only [↓pvd,pva,pvr,bin2,binB2,un1,setCells,List.map,seval,reduceCtorEq]
  rintro ⟨m, b, s⟩ ⟨hm, hs⟩
  dsimp only at hm hs ⊢
  unfold Tryz.c98b0
  cases b with
  | true =>
   rw [if_pos rfl] at hs
   have hsl : s.length ≤ 1000:=by
    have:=congrArg List.length hs
    simp at this; omega
   simp (disch:=first|omega|(simp only[pvl] at *;omega)) only [↓pvd,pva,pvr,bin2,binB2,un1,setCells,List.map,seval,reduceCtorEq]
   by_cases h10 : m < 10
   ·rw [digF_lt h10] at hs
    refine ⟨(m / 10, false, s ++ [u8i (48 + (m : Int) % 10)]), ?_, ⟨?_, ?_⟩, ?_⟩ <;> dsimp only
    ·simp; omega
    ·omega
    ·rw [if_neg (by simp), ← hs]; simp; congr 1; omega
    ·simp
   ·rw [digF_ge (by omega)] at hs
    refine ⟨(m / 10, true, s ++ [u8i (48 + (m : Int) % 10)]), ?_, ⟨?_, ?_⟩, ?_⟩ <;> dsimp only
    ·simp; omega
    ·omega
    ·rw [if_pos rfl, ← hs]; simp
    ·simp; omega
  | false =>
   rw [if_neg (by simp)] at hs
   have hsl : s.length = (digF N).length:=by rw [← hs]; simp
   have hpos:=List.length_pos_iff.2 (digF_ne N)
   have hL : (s ++ [45]).reverse = 45 :: digF N:=by simp [hs]
   rw [← hL]
   simp (disch:=first|omega|(simp only[pvl] at *;omega)) only [↓pvd,pva,pvr,bin2,binB2,un1,setCells,List.map,seval,reduceCtorEq]
   rw [show bys s ++ [AV.int .u8 45] = bys (s ++ [45]) by simp [bys, bv], show s.length + 1 = (s ++ [45]).length by simp]
   have hLl : (s ++ [45]).length ≤ 1001:=by simp; omega
   have hLp : 0 < (s ++ [45]).length:=by simp
   generalize s ++ [45] = L at *
   refine aw_loop (fun i : Nat=>⟨[(3, .vec 0 1 0 L.length), (6, .int .i64 i), (7, .int .i64 ((L.length : Int) - 1 - i))], [some ⟨5, bys (rvF L i), true⟩]⟩) (fun i=>2 * i ≤ L.length) (fun i=>L.length - i) 0 ?_ (by omega) ?_
   ·simp (disch:=first|omega|(simp only[pvl];omega)) only [↓pvd,pva,pvr,bin2,binB2,un1,setCells,List.map,seval,reduceCtorEq,rvF_zero]
    try simp
   intro i hi
   unfold Tryz.c98b1
   have hrl:=rvF_len L i
   by_cases hik : i < L.length - 1 - i
   ·have hst:=rvF_step L i hik
    have hk : ((L.length : Int) - 1 - i).toNat = L.length - 1 - i:=by omega
    simp (disch:=first|omega|(simp only[pvl];omega)) only [↓pvd,pva,pvr,bin2,binB2,un1,setCells,List.map,seval,reduceCtorEq,hrl,hk]
    rw [hst]
    refine ⟨i + 1, ?_, by omega, by omega⟩
    simp
    omega
   ·have hst:=rvF_end L i hik
    rw [← hst]
    simp (disch:=first|omega|(simp only[pvl];omega)) only [↓pvd,pva,pvr,bin2,binB2,un1,setCells,List.map,seval,reduceCtorEq,hrl]
    (refine Ends_rq [] ?_; simp (disch:=first|omega|(simp only[pvl];omega)) only [↓pvd,pva,pvr,bin2,binB2,un1,setCells,List.map,seval,reduceCtorEq]; exact ⟨_,rfl,rfl,rfl⟩)
 ·obtain ⟨N, hN⟩ : ∃ N : Nat, n = (N : Int):=⟨n.natAbs, by omega⟩
  have htx : txF n = digF N:=by unfold txF; rw [if_neg hn, show n.toNat = N by omega]
  have hd2 : (digF N).length ≤ 1000:=by rw [show n.natAbs = N by omega] at hd; exact hd
  rw [htx]
  subst hN
  simp (disch:=first|omega|(simp only[pvl] at *;omega)) only [↓pvd,pva,pvr,bin2,binB2,un1,setCells,List.map,seval,reduceCtorEq]
  refine aw_loop (fun a : Nat × Bool × List UInt8=>⟨[(0, .int .i64 N), (3, .vec 0 1 0 a.2.2.length), (4, .int .u64 a.1), (5, .bool a.2.1)], [some ⟨5, bys a.2.2, true⟩]⟩) (lpI N) (fun a=>if a.2.1 = true then a.1 + 1 else 0) (N, true, []) ?_ ⟨Nat.le_refl _, by simp⟩ ?_
  ·simp (disch:=first|omega|(simp only[pvl] at *;omega)) only [↓pvd,pva,pvr,bin2,binB2,un1,setCells,List.map,seval,reduceCtorEq]
  rintro ⟨m, b, s⟩ ⟨hm, hs⟩
  dsimp only at hm hs ⊢
  unfold Tryz.c98b0
  cases b with
  | true =>
   rw [if_pos rfl] at hs
   have hsl : s.length ≤ 1000:=by
    have:=congrArg List.length hs
    simp at this; omega
   simp (disch:=first|omega|(simp only[pvl] at *;omega)) only [↓pvd,pva,pvr,bin2,binB2,un1,setCells,List.map,seval,reduceCtorEq]
   by_cases h10 : m < 10
   ·rw [digF_lt h10] at hs
    refine ⟨(m / 10, false, s ++ [u8i (48 + (m : Int) % 10)]), ?_, ⟨?_, ?_⟩, ?_⟩ <;> dsimp only
    ·simp; omega
    ·omega
    ·rw [if_neg (by simp), ← hs]; simp; congr 1; omega
    ·simp
   ·rw [digF_ge (by omega)] at hs
    refine ⟨(m / 10, true, s ++ [u8i (48 + (m : Int) % 10)]), ?_, ⟨?_, ?_⟩, ?_⟩ <;> dsimp only
    ·simp; omega
    ·omega
    ·rw [if_pos rfl, ← hs]; simp
    ·simp; omega
  | false =>
   rw [if_neg (by simp)] at hs
   have hsl : s.length = (digF N).length:=by rw [← hs]; simp
   have hpos:=List.length_pos_iff.2 (digF_ne N)
   rw [← hs]
   simp (disch:=first|omega|(simp only[pvl] at *;omega)) only [↓pvd,pva,pvr,bin2,binB2,un1,setCells,List.map,seval,reduceCtorEq]
   refine aw_loop (fun i : Nat=>⟨[(3, .vec 0 1 0 s.length), (6, .int .i64 i), (7, .int .i64 ((s.length : Int) - 1 - i))], [some ⟨5, bys (rvF s i), true⟩]⟩) (fun i=>2 * i ≤ s.length) (fun i=>s.length - i) 0 ?_ (by omega) ?_
   ·simp (disch:=first|omega|(simp only[pvl];omega)) only [↓pvd,pva,pvr,bin2,binB2,un1,setCells,List.map,seval,reduceCtorEq,rvF_zero]
    try simp
   intro i hi
   unfold Tryz.c98b1
   have hrl:=rvF_len s i
   by_cases hik : i < s.length - 1 - i
   ·have hst:=rvF_step s i hik
    have hk : ((s.length : Int) - 1 - i).toNat = s.length - 1 - i:=by omega
    simp (disch:=first|omega|(simp only[pvl];omega)) only [↓pvd,pva,pvr,bin2,binB2,un1,setCells,List.map,seval,reduceCtorEq,hrl,hk]
    rw [hst]
    refine ⟨i + 1, ?_, by omega, by omega⟩
    simp
    omega
   ·have hst:=rvF_end s i hik
    rw [← hst]
    simp (disch:=first|omega|(simp only[pvl];omega)) only [↓pvd,pva,pvr,bin2,binB2,un1,setCells,List.map,seval,reduceCtorEq,hrl]
    (refine Ends_rq [] ?_; simp (disch:=first|omega|(simp only[pvl];omega)) only [↓pvd,pva,pvr,bin2,binB2,un1,setCells,List.map,seval,reduceCtorEq]; exact ⟨_,rfl,rfl,rfl⟩)
end Nm
end Go.Proofs
namespace Go.Proofs
namespace Nm
open Go.Pv
theorem text_runx (n : Int) (h0 : -9223372036854775808 ≤ n) (h1 : n < 9223372036854775808) : Run Tryz.prog 98 [.int .i64 n] (.str (txF n)) :=
 text_run n h0 h1 (by have:=digF_len n.natAbs 19 (by omega); omega)
def isD (c : UInt8) : Bool:=decide (48 ≤ (c.toNat : Int) ∧ (c.toNat : Int) ≤ 57)
def vF (ds : List UInt8) : Nat → Int
 | 0=>0
 | k + 1=>10 * vF ds k + ((ds[k]!.toNat : Int) - 48)
theorem vF_b (ds : List UInt8) : ∀ (k : Nat), (∀ j < k, isD ds[j]! = true) → 0 ≤ vF ds k ∧ vF ds k < 10 ^ k
 | 0, _=>by simp [vF]
 | k + 1, h=>by
  have h1:=vF_b ds k (fun j hj=>h j (by omega))
  have h2:=of_decide_eq_true (h k (by omega))
  rw [vF, Int.pow_succ]
  omega
theorem vF_b10 (ds : List UInt8) (k : Nat) (hk : k ≤ 10) (h : ∀ j < k, isD ds[j]! = true) : 0 ≤ vF ds k ∧ vF ds k < 10000000000:=by
 have h1:=vF_b ds k h
 have h3 : ((10 ^ k : Nat) : Int) ≤ ((10 ^ 10 : Nat) : Int):=by exact_mod_cast Nat.pow_le_pow_right (n:=10) (by omega) hk
 have h2 : (10 : Int) ^ k ≤ 10000000000:=by simpa using h3
 omega
def rdG (s ds : List UInt8) (neg : Bool) (least most : Int) : Int × Bool :=
 if ds.length < 1 ∨ 10 < ds.length then (0, false) else
 if ds.all isD = false then (0, false) else
 let n:=if neg then -vF ds ds.length else vF ds ds.length
 if n < least then (0, false) else if most < n then (0, false) else if txF n ≠ s then (0, false) else (n, true)
def rdF (s : List UInt8) (least most : Int) : Int × Bool:=if s[0]? = some 45 then rdG s (s.drop 1) true least most else rdG s s false least most
def rdR (p : Int × Bool) : AV:=.tup [.int .i64 p.1, .bool p.2]
theorem allD_no {w : List UInt8} {i : Nat} (hi : i < w.length) (h : isD w[i]! = false) : w.all isD = false:=by
 rw [List.all_eq_false]
 exact ⟨w[i]!, by rw [getElem!_pos w i hi]; exact List.getElem_mem hi, by rw [h]; simp⟩
theorem allD_yes {w : List UInt8} (h : ∀ k, k < w.length → isD w[k]! = true) : w.all isD = true:=by
 rw [List.all_eq_true]
 intro c hc
 obtain ⟨k, hk, rfl⟩:=List.mem_iff_getElem.1 hc
 have:=h k hk
 rwa [getElem!_pos w k hk] at this
theorem hasp_run (s : List UInt8) (hs : s.length ≤ 100000) : Run Tryz.prog 151 [.str s, .str [45]] (.bool (decide (s[0]? = some 45))):=by
 refine Tryz.run151 (by simp) ?_
 unfold Tryz.c151
 cases s with
 | nil=>repeat' (first | (simp (disch:=first|omega|(simp only[pvl];omega)) only [↓pvd,pva,pvr,bin2,binB2,un1,setCells,List.map,seval,reduceCtorEq,still]) | (with_reducible first|refine condP_d (fun _=>?_) (fun _=>?_)|refine guardP_d0 (fun _=>?_) (fun _=>?_)|refine guardP_d1 (fun _=>?_) (fun _=>?_)|refine condP_any ?_ ?_) | (refine Ends_rq [] ?_; simp (disch:=first|omega|(simp only[pvl];omega)) only [↓pvd,pva,pvr,bin2,binB2,un1,setCells,List.map,seval,reduceCtorEq]; exact ⟨_,rfl,rfl,rfl⟩))
 | cons c r =>
  simp only [List.length_cons] at hs
  by_cases hc : c = 45
  ·subst hc
   repeat' (first | (simp (disch:=first|omega|(simp only[pvl];omega)) only [↓pvd,pva,pvr,bin2,binB2,un1,setCells,List.map,seval,reduceCtorEq,still]) | (with_reducible first|refine condP_d (fun _=>?_) (fun _=>?_)|refine guardP_d0 (fun _=>?_) (fun _=>?_)|refine guardP_d1 (fun _=>?_) (fun _=>?_)|refine condP_any ?_ ?_) | (refine Ends_rq [] ?_; simp (disch:=first|omega|(simp only[pvl];omega)) only [↓pvd,pva,pvr,bin2,binB2,un1,setCells,List.map,seval,reduceCtorEq]; exact ⟨_,rfl,rfl,rfl⟩))
  ·rw [decide_eq_false (by simpa using hc)]
   have hx : decide ([c] = [(45 : UInt8)]) = false:=decide_eq_false (by simpa using hc)
   repeat' (first | (simp (disch:=first|omega|(simp only[pvl];omega)) only [↓pvd,pva,pvr,bin2,binB2,un1,setCells,List.map,seval,reduceCtorEq,still]) | (with_reducible first|refine condP_d (fun _=>?_) (fun _=>?_)|refine guardP_d0 (fun _=>?_) (fun _=>?_)|refine guardP_d1 (fun _=>?_) (fun _=>?_)|refine condP_any ?_ ?_) | (refine Ends_rq [] ?_; simp (disch:=first|omega|(simp only[pvl];omega)) only [↓pvd,pva,pvr,bin2,binB2,un1,setCells,List.map,seval,reduceCtorEq]; exact ⟨_,rfl,rfl,rfl⟩))
   simp only [List.take,List.take_succ_cons,List.take_zero,hx]
   (refine Ends_rq [] ?_; simp (disch:=first|omega|(simp only[pvl];omega)) only [↓pvd,pva,pvr,bin2,binB2,un1,setCells,List.map,seval,reduceCtorEq]; exact ⟨_,rfl,rfl,rfl⟩)
theorem trim_run (s : List UInt8) (hs : s.length ≤ 100000) : Run Tryz.prog 97 [.str s, .str [45]] (.str (if s[0]? = some 45 then s.drop 1 else s)):=by
 have q : Run Tryz.prog 125 [.str s, .str [45]] (.str (if s[0]? = some 45 then s.drop 1 else s)):=by
  have q:=hasp_run s hs
  refine Tryz.run125 (by simp) ?_
  unfold Tryz.c125
  by_cases h : s[0]? = some 45
  ·have : 0 < s.length:=by
    cases s with
    | nil=>simp at h
    | cons c r=>simp
   rw [decide_eq_true h] at q
   rw [if_pos h]
   repeat' (first | (simp (disch:=first|omega|(simp only[pvl];omega)) only [↓pvd,pva,pvr,bin2,binB2,un1,setCells,List.map,seval,reduceCtorEq,still]) | (with_reducible first|refine condP_d (fun _=>?_) (fun _=>?_)|refine guardP_d0 (fun _=>?_) (fun _=>?_)|refine guardP_d1 (fun _=>?_) (fun _=>?_)|refine condP_any ?_ ?_) | refine awR_call q rfl rfl ?_ | refine awR_callD q rfl rfl (fun _=>rfl) ?_ | (refine Ends_rq [] ?_; simp (disch:=first|omega|(simp only[pvl];omega)) only [↓pvd,pva,pvr,bin2,binB2,un1,setCells,List.map,seval,reduceCtorEq]; exact ⟨_,rfl,rfl,rfl⟩))
  ·rw [decide_eq_false h] at q
   rw [if_neg h]
   repeat' (first | (simp (disch:=first|omega|(simp only[pvl];omega)) only [↓pvd,pva,pvr,bin2,binB2,un1,setCells,List.map,seval,reduceCtorEq,still]) | (with_reducible first|refine condP_d (fun _=>?_) (fun _=>?_)|refine guardP_d0 (fun _=>?_) (fun _=>?_)|refine guardP_d1 (fun _=>?_) (fun _=>?_)|refine condP_any ?_ ?_) | refine awR_call q rfl rfl ?_ | refine awR_callD q rfl rfl (fun _=>rfl) ?_ | (refine Ends_rq [] ?_; simp (disch:=first|omega|(simp only[pvl];omega)) only [↓pvd,pva,pvr,bin2,binB2,un1,setCells,List.map,seval,reduceCtorEq]; exact ⟨_,rfl,rfl,rfl⟩))
 refine Tryz.run97 (by simp) ?_
 unfold Tryz.c97
 repeat' (first | (simp (disch:=first|omega|(simp only[pvl];omega)) only [↓pvd,pva,pvr,bin2,binB2,un1,setCells,List.map,seval,reduceCtorEq,still]) | (with_reducible first|refine condP_d (fun _=>?_) (fun _=>?_)|refine guardP_d0 (fun _=>?_) (fun _=>?_)|refine guardP_d1 (fun _=>?_) (fun _=>?_)|refine condP_any ?_ ?_) | refine awR_call q rfl rfl ?_ | refine awR_callD q rfl rfl (fun _=>rfl) ?_ | (refine Ends_rq [] ?_; simp (disch:=first|omega|(simp only[pvl];omega)) only [↓pvd,pva,pvr,bin2,binB2,un1,setCells,List.map,seval,reduceCtorEq]; exact ⟨_,rfl,rfl,rfl⟩))
theorem read_true_run (ds : List UInt8) (least most : Int) (hs : ds.length ≤ 50000) (ql : Run Tryz.prog 97 [.str (45 :: ds), .str [45]] (.str ds)) :
  Run Tryz.prog 64 [.str (45 :: ds), .int .i64 least, .int .i64 most] (rdR (rdG (45 :: ds) ds true least most)):=by
 refine Tryz.run64 (by simp) ?_
 unfold Tryz.c64 rdR
 by_cases h1 : ds.length < 1 ∨ 10 < ds.length
 ·rw [show rdG (45 :: ds) ds true least most = (0, false) by unfold rdG; rw [if_pos h1]]
  by_cases h0 : ds = []
  ·subst h0
   repeat' (first | (simp (disch:=first|omega|(simp only[pvl];omega)) only [↓pvd,pva,pvr,bin2,binB2,un1,setCells,List.map,seval,reduceCtorEq,still]) | (with_reducible first|refine condP_d (fun _=>?_) (fun _=>?_)|refine guardP_d0 (fun _=>?_) (fun _=>?_)|refine guardP_d1 (fun _=>?_) (fun _=>?_)|refine condP_any ?_ ?_) | refine awR_call ql rfl rfl ?_ | refine awR_callD ql rfl rfl (fun _=>rfl) ?_ | (refine Ends_rq [] ?_; simp (disch:=first|omega|(simp only[pvl];omega)) only [↓pvd,pva,pvr,bin2,binB2,un1,setCells,List.map,seval,reduceCtorEq]; exact ⟨_,rfl,rfl,rfl⟩))
  ·have : 10 < ds.length:=by
    have:=List.length_pos_iff.2 h0
    omega
   repeat' (first | (simp (disch:=first|omega|(simp only[pvl];omega)) only [↓pvd,pva,pvr,bin2,binB2,un1,setCells,List.map,seval,reduceCtorEq,h0,still]) | (with_reducible first|refine condP_d (fun _=>?_) (fun _=>?_)|refine guardP_d0 (fun _=>?_) (fun _=>?_)|refine guardP_d1 (fun _=>?_) (fun _=>?_)|refine condP_any ?_ ?_) | refine awR_call ql rfl rfl ?_ | refine awR_callD ql rfl rfl (fun _=>rfl) ?_ | (refine Ends_rq [] ?_; simp (disch:=first|omega|(simp only[pvl];omega)) only [↓pvd,pva,pvr,bin2,binB2,un1,setCells,List.map,seval,reduceCtorEq]; exact ⟨_,rfl,rfl,rfl⟩))
 have h0 : ¬ ds = []:=fun e=>by rw [e] at h1; simp at h1
 simp (disch:=first|omega|(simp only[pvl] at *;omega)) only [↓pvd,pva,pvr,bin2,binB2,un1,setCells,List.map,seval,reduceCtorEq]
 refine awR_call ql rfl rfl ?_
 simp (disch:=first|omega|(simp only[pvl];omega)) only [↓pvd,pva,pvr,bin2,binB2,un1,setCells,List.map,seval,reduceCtorEq,h0]
 refine aw_loop (fun k : Nat=>⟨[(0, .str (45 :: ds)), (1, .int .i64 least), (2, .int .i64 most), (8, .str ds), (9, .int .i64 (vF ds k)), (21, .int .i64 ds.length), (22, .int .i64 k)], []⟩) (fun k=>k ≤ ds.length ∧ ∀ j < k, isD ds[j]! = true) (fun k=>ds.length - k) 0 rfl ⟨by omega, by simp⟩ ?_
 rintro k ⟨hk, hp⟩
 unfold Tryz.c64b0
 have hv:=vF_b10 ds k (by omega) hp
 by_cases hx : k < ds.length
 ·have hgi : ds[k]? = some ds[k]!:=by rw [getElem!_pos ds k hx, List.getElem?_eq_getElem hx]
  by_cases hd : isD ds[k]! = true
  ·have h2:=of_decide_eq_true hd
   have hv2 : vF ds (k + 1) = 10 * vF ds k + ((ds[k]!.toNat : Int) - 48):=rfl
   repeat' (first | (simp (disch:=first|omega|(simp only[pvl];omega)) only [↓pvd,pva,pvr,bin2,binB2,un1,setCells,List.map,seval,reduceCtorEq,hgi,bv,still]) | (with_reducible first|refine condP_d (fun _=>?_) (fun _=>?_)|refine guardP_d0 (fun _=>?_) (fun _=>?_)|refine guardP_d1 (fun _=>?_) (fun _=>?_)|refine condP_any ?_ ?_) | (refine Ends_rq [] ?_; simp (disch:=first|omega|(simp only[pvl];omega)) only [↓pvd,pva,pvr,bin2,binB2,un1,setCells,List.map,seval,reduceCtorEq]; exact ⟨_,rfl,rfl,rfl⟩))
   refine ⟨k + 1, ?_, ⟨by omega, fun j hj=>?_⟩, by omega⟩
   ·have hm : (((ds[k]!.toNat : Nat) : Int) - 48) % 256 = (ds[k]!.toNat : Int) - 48:=by omega
    rw [hv2, hm]
    simp
   ·by_cases hjk : j = k
    ·rw [hjk]; exact hd
    ·exact hp j (by omega)
  ·have h3 : isD ds[k]! = false:=by simpa using hd
   have h2:=of_decide_eq_false h3
   rw [show rdG (45 :: ds) ds true least most = (0, false) by unfold rdG; rw [if_neg h1, if_pos (allD_no hx h3)]]
   repeat' (first | (simp (disch:=first|omega|(simp only[pvl];omega)) only [↓pvd,pva,pvr,bin2,binB2,un1,setCells,List.map,seval,reduceCtorEq,hgi,bv,still]) | (with_reducible first|refine condP_d (fun _=>?_) (fun _=>?_)|refine guardP_d0 (fun _=>?_) (fun _=>?_)|refine guardP_d1 (fun _=>?_) (fun _=>?_)|refine condP_any ?_ ?_) | (refine Ends_rq [] ?_; simp (disch:=first|omega|(simp only[pvl];omega)) only [↓pvd,pva,pvr,bin2,binB2,un1,setCells,List.map,seval,reduceCtorEq]; exact ⟨_,rfl,rfl,rfl⟩))
 ·have hkl : k = ds.length:=by omega
  subst hkl
  have hall:=allD_yes hp
  have q2:=text_runx (0 - vF ds ds.length) (by omega) (by omega)
  have e0 : rdG (45 :: ds) ds true least most = if 0 - vF ds ds.length < least then (0, false) else if most < 0 - vF ds ds.length then (0, false) else if txF (0 - vF ds ds.length) ≠ (45 :: ds) then (0, false) else (0 - vF ds ds.length, true):=by
   unfold rdG
   rw [if_neg h1, if_neg (by rw [hall]; simp)]
   rw [show 0 - vF ds ds.length = -vF ds ds.length by omega]; rfl
  rw [e0]
  by_cases h2 : 0 - vF ds ds.length < least
  ·rw [if_pos h2]
   repeat' (first | (simp (disch:=first|omega|(simp only[pvl];omega)) only [↓pvd,pva,pvr,bin2,binB2,un1,setCells,List.map,seval,reduceCtorEq,still]) | (with_reducible first|refine condP_d (fun _=>?_) (fun _=>?_)|refine guardP_d0 (fun _=>?_) (fun _=>?_)|refine guardP_d1 (fun _=>?_) (fun _=>?_)|refine condP_any ?_ ?_) | refine awR_call q2 rfl rfl ?_ | refine awR_callD q2 rfl rfl (fun _=>rfl) ?_ | (refine Ends_rq [] ?_; simp (disch:=first|omega|(simp only[pvl];omega)) only [↓pvd,pva,pvr,bin2,binB2,un1,setCells,List.map,seval,reduceCtorEq]; exact ⟨_,rfl,rfl,rfl⟩))
  by_cases h3 : most < 0 - vF ds ds.length
  ·rw [if_neg h2, if_pos h3]
   repeat' (first | (simp (disch:=first|omega|(simp only[pvl];omega)) only [↓pvd,pva,pvr,bin2,binB2,un1,setCells,List.map,seval,reduceCtorEq,still]) | (with_reducible first|refine condP_d (fun _=>?_) (fun _=>?_)|refine guardP_d0 (fun _=>?_) (fun _=>?_)|refine guardP_d1 (fun _=>?_) (fun _=>?_)|refine condP_any ?_ ?_) | refine awR_call q2 rfl rfl ?_ | refine awR_callD q2 rfl rfl (fun _=>rfl) ?_ | (refine Ends_rq [] ?_; simp (disch:=first|omega|(simp only[pvl];omega)) only [↓pvd,pva,pvr,bin2,binB2,un1,setCells,List.map,seval,reduceCtorEq]; exact ⟨_,rfl,rfl,rfl⟩))
  rw [if_neg h2, if_neg h3]
  by_cases h4 : txF (0 - vF ds ds.length) = (45 :: ds)
  ·rw [if_neg (by rw [h4]; simp)]
   rw [h4] at q2
   repeat' (first | (simp (disch:=first|omega|(simp only[pvl];omega)) only [↓pvd,pva,pvr,bin2,binB2,un1,setCells,List.map,seval,reduceCtorEq,still]) | (with_reducible first|refine condP_d (fun _=>?_) (fun _=>?_)|refine guardP_d0 (fun _=>?_) (fun _=>?_)|refine guardP_d1 (fun _=>?_) (fun _=>?_)|refine condP_any ?_ ?_) | refine awR_call q2 rfl rfl ?_ | refine awR_callD q2 rfl rfl (fun _=>rfl) ?_ | (refine Ends_rq [] ?_; simp (disch:=first|omega|(simp only[pvl];omega)) only [↓pvd,pva,pvr,bin2,binB2,un1,setCells,List.map,seval,reduceCtorEq]; exact ⟨_,rfl,rfl,rfl⟩))
  ·rw [if_pos h4]
   repeat' (first | (simp (disch:=first|omega|(simp only[pvl];omega)) only [↓pvd,pva,pvr,bin2,binB2,un1,setCells,List.map,seval,reduceCtorEq,h4,still]) | (with_reducible first|refine condP_d (fun _=>?_) (fun _=>?_)|refine guardP_d0 (fun _=>?_) (fun _=>?_)|refine guardP_d1 (fun _=>?_) (fun _=>?_)|refine condP_any ?_ ?_) | refine awR_call q2 rfl rfl ?_ | refine awR_callD q2 rfl rfl (fun _=>rfl) ?_ | (refine Ends_rq [] ?_; simp (disch:=first|omega|(simp only[pvl];omega)) only [↓pvd,pva,pvr,bin2,binB2,un1,setCells,List.map,seval,reduceCtorEq]; exact ⟨_,rfl,rfl,rfl⟩))
theorem read_false_run (ds : List UInt8) (least most : Int) (hs : ds.length ≤ 50000) (ql : Run Tryz.prog 97 [.str ds, .str [45]] (.str ds)) :
  Run Tryz.prog 64 [.str ds, .int .i64 least, .int .i64 most] (rdR (rdG ds ds false least most)):=by
 refine Tryz.run64 (by simp) ?_
 unfold Tryz.c64 rdR
 by_cases h1 : ds.length < 1 ∨ 10 < ds.length
 ·rw [show rdG ds ds false least most = (0, false) by unfold rdG; rw [if_pos h1]]
  by_cases h0 : ds = []
  ·subst h0
   repeat' (first | (simp (disch:=first|omega|(simp only[pvl];omega)) only [↓pvd,pva,pvr,bin2,binB2,un1,setCells,List.map,seval,reduceCtorEq,still]) | (with_reducible first|refine condP_d (fun _=>?_) (fun _=>?_)|refine guardP_d0 (fun _=>?_) (fun _=>?_)|refine guardP_d1 (fun _=>?_) (fun _=>?_)|refine condP_any ?_ ?_) | refine awR_call ql rfl rfl ?_ | refine awR_callD ql rfl rfl (fun _=>rfl) ?_ | (refine Ends_rq [] ?_; simp (disch:=first|omega|(simp only[pvl];omega)) only [↓pvd,pva,pvr,bin2,binB2,un1,setCells,List.map,seval,reduceCtorEq]; exact ⟨_,rfl,rfl,rfl⟩))
  ·have : 10 < ds.length:=by
    have:=List.length_pos_iff.2 h0
    omega
   repeat' (first | (simp (disch:=first|omega|(simp only[pvl];omega)) only [↓pvd,pva,pvr,bin2,binB2,un1,setCells,List.map,seval,reduceCtorEq,h0,still]) | (with_reducible first|refine condP_d (fun _=>?_) (fun _=>?_)|refine guardP_d0 (fun _=>?_) (fun _=>?_)|refine guardP_d1 (fun _=>?_) (fun _=>?_)|refine condP_any ?_ ?_) | refine awR_call ql rfl rfl ?_ | refine awR_callD ql rfl rfl (fun _=>rfl) ?_ | (refine Ends_rq [] ?_; simp (disch:=first|omega|(simp only[pvl];omega)) only [↓pvd,pva,pvr,bin2,binB2,un1,setCells,List.map,seval,reduceCtorEq]; exact ⟨_,rfl,rfl,rfl⟩))
 have h0 : ¬ ds = []:=fun e=>by rw [e] at h1; simp at h1
 simp (disch:=first|omega|(simp only[pvl] at *;omega)) only [↓pvd,pva,pvr,bin2,binB2,un1,setCells,List.map,seval,reduceCtorEq]
 refine awR_call ql rfl rfl ?_
 simp (disch:=first|omega|(simp only[pvl];omega)) only [↓pvd,pva,pvr,bin2,binB2,un1,setCells,List.map,seval,reduceCtorEq,h0]
 refine aw_loop (fun k : Nat=>⟨[(0, .str ds), (1, .int .i64 least), (2, .int .i64 most), (8, .str ds), (9, .int .i64 (vF ds k)), (21, .int .i64 ds.length), (22, .int .i64 k)], []⟩) (fun k=>k ≤ ds.length ∧ ∀ j < k, isD ds[j]! = true) (fun k=>ds.length - k) 0 rfl ⟨by omega, by simp⟩ ?_
 rintro k ⟨hk, hp⟩
 unfold Tryz.c64b0
 have hv:=vF_b10 ds k (by omega) hp
 by_cases hx : k < ds.length
 ·have hgi : ds[k]? = some ds[k]!:=by rw [getElem!_pos ds k hx, List.getElem?_eq_getElem hx]
  by_cases hd : isD ds[k]! = true
  ·have h2:=of_decide_eq_true hd
   have hv2 : vF ds (k + 1) = 10 * vF ds k + ((ds[k]!.toNat : Int) - 48):=rfl
   repeat' (first | (simp (disch:=first|omega|(simp only[pvl];omega)) only [↓pvd,pva,pvr,bin2,binB2,un1,setCells,List.map,seval,reduceCtorEq,hgi,bv,still]) | (with_reducible first|refine condP_d (fun _=>?_) (fun _=>?_)|refine guardP_d0 (fun _=>?_) (fun _=>?_)|refine guardP_d1 (fun _=>?_) (fun _=>?_)|refine condP_any ?_ ?_) | (refine Ends_rq [] ?_; simp (disch:=first|omega|(simp only[pvl];omega)) only [↓pvd,pva,pvr,bin2,binB2,un1,setCells,List.map,seval,reduceCtorEq]; exact ⟨_,rfl,rfl,rfl⟩))
   refine ⟨k + 1, ?_, ⟨by omega, fun j hj=>?_⟩, by omega⟩
   ·have hm : (((ds[k]!.toNat : Nat) : Int) - 48) % 256 = (ds[k]!.toNat : Int) - 48:=by omega
    rw [hv2, hm]
    simp
   ·by_cases hjk : j = k
    ·rw [hjk]; exact hd
    ·exact hp j (by omega)
  ·have h3 : isD ds[k]! = false:=by simpa using hd
   have h2:=of_decide_eq_false h3
   rw [show rdG ds ds false least most = (0, false) by unfold rdG; rw [if_neg h1, if_pos (allD_no hx h3)]]
   repeat' (first | (simp (disch:=first|omega|(simp only[pvl];omega)) only [↓pvd,pva,pvr,bin2,binB2,un1,setCells,List.map,seval,reduceCtorEq,hgi,bv,still]) | (with_reducible first|refine condP_d (fun _=>?_) (fun _=>?_)|refine guardP_d0 (fun _=>?_) (fun _=>?_)|refine guardP_d1 (fun _=>?_) (fun _=>?_)|refine condP_any ?_ ?_) | (refine Ends_rq [] ?_; simp (disch:=first|omega|(simp only[pvl];omega)) only [↓pvd,pva,pvr,bin2,binB2,un1,setCells,List.map,seval,reduceCtorEq]; exact ⟨_,rfl,rfl,rfl⟩))
 ·have hkl : k = ds.length:=by omega
  subst hkl
  have hall:=allD_yes hp
  have q2:=text_runx (vF ds ds.length) (by omega) (by omega)
  have e0 : rdG ds ds false least most = if vF ds ds.length < least then (0, false) else if most < vF ds ds.length then (0, false) else if txF (vF ds ds.length) ≠ ds then (0, false) else (vF ds ds.length, true):=by
   unfold rdG
   rw [if_neg h1, if_neg (by rw [hall]; simp)]
   rfl
  rw [e0]
  by_cases h2 : vF ds ds.length < least
  ·rw [if_pos h2]
   repeat' (first | (simp (disch:=first|omega|(simp only[pvl];omega)) only [↓pvd,pva,pvr,bin2,binB2,un1,setCells,List.map,seval,reduceCtorEq,still]) | (with_reducible first|refine condP_d (fun _=>?_) (fun _=>?_)|refine guardP_d0 (fun _=>?_) (fun _=>?_)|refine guardP_d1 (fun _=>?_) (fun _=>?_)|refine condP_any ?_ ?_) | refine awR_call q2 rfl rfl ?_ | refine awR_callD q2 rfl rfl (fun _=>rfl) ?_ | (refine Ends_rq [] ?_; simp (disch:=first|omega|(simp only[pvl];omega)) only [↓pvd,pva,pvr,bin2,binB2,un1,setCells,List.map,seval,reduceCtorEq]; exact ⟨_,rfl,rfl,rfl⟩))
  by_cases h3 : most < vF ds ds.length
  ·rw [if_neg h2, if_pos h3]
   repeat' (first | (simp (disch:=first|omega|(simp only[pvl];omega)) only [↓pvd,pva,pvr,bin2,binB2,un1,setCells,List.map,seval,reduceCtorEq,still]) | (with_reducible first|refine condP_d (fun _=>?_) (fun _=>?_)|refine guardP_d0 (fun _=>?_) (fun _=>?_)|refine guardP_d1 (fun _=>?_) (fun _=>?_)|refine condP_any ?_ ?_) | refine awR_call q2 rfl rfl ?_ | refine awR_callD q2 rfl rfl (fun _=>rfl) ?_ | (refine Ends_rq [] ?_; simp (disch:=first|omega|(simp only[pvl];omega)) only [↓pvd,pva,pvr,bin2,binB2,un1,setCells,List.map,seval,reduceCtorEq]; exact ⟨_,rfl,rfl,rfl⟩))
  rw [if_neg h2, if_neg h3]
  by_cases h4 : txF (vF ds ds.length) = ds
  ·rw [if_neg (by rw [h4]; simp)]
   rw [h4] at q2
   repeat' (first | (simp (disch:=first|omega|(simp only[pvl];omega)) only [↓pvd,pva,pvr,bin2,binB2,un1,setCells,List.map,seval,reduceCtorEq,still]) | (with_reducible first|refine condP_d (fun _=>?_) (fun _=>?_)|refine guardP_d0 (fun _=>?_) (fun _=>?_)|refine guardP_d1 (fun _=>?_) (fun _=>?_)|refine condP_any ?_ ?_) | refine awR_call q2 rfl rfl ?_ | refine awR_callD q2 rfl rfl (fun _=>rfl) ?_ | (refine Ends_rq [] ?_; simp (disch:=first|omega|(simp only[pvl];omega)) only [↓pvd,pva,pvr,bin2,binB2,un1,setCells,List.map,seval,reduceCtorEq]; exact ⟨_,rfl,rfl,rfl⟩))
  ·rw [if_pos h4]
   repeat' (first | (simp (disch:=first|omega|(simp only[pvl];omega)) only [↓pvd,pva,pvr,bin2,binB2,un1,setCells,List.map,seval,reduceCtorEq,h4,still]) | (with_reducible first|refine condP_d (fun _=>?_) (fun _=>?_)|refine guardP_d0 (fun _=>?_) (fun _=>?_)|refine guardP_d1 (fun _=>?_) (fun _=>?_)|refine condP_any ?_ ?_) | refine awR_call q2 rfl rfl ?_ | refine awR_callD q2 rfl rfl (fun _=>rfl) ?_ | (refine Ends_rq [] ?_; simp (disch:=first|omega|(simp only[pvl];omega)) only [↓pvd,pva,pvr,bin2,binB2,un1,setCells,List.map,seval,reduceCtorEq]; exact ⟨_,rfl,rfl,rfl⟩))
end Nm
end Go.Proofs
namespace Go.Proofs
namespace Nm
open Go.Pv
end Nm
end Go.Proofs
namespace Go.Proofs
namespace Nm
open Go.Pv
theorem read_run (s : List UInt8) (least most : Int) (hs : s.length ≤ 50000) :
  Run Tryz.prog 64 [.str s, .int .i64 least, .int .i64 most] (rdR (rdF s least most)):=by
 have q:=trim_run s (by omega)
 unfold rdF
 by_cases h : s[0]? = some 45
 ·rw [if_pos h] at q ⊢
  cases s with
  | nil=>simp at h
  | cons c r =>
   simp only [List.getElem?_cons_zero,Option.some.injEq] at h
   subst h
   simp only [List.length_cons] at hs
   exact read_true_run r least most (by omega) q
 ·rw [if_neg h] at q ⊢
  exact read_false_run s least most hs q
def nmB (s : List UInt8) (j : Nat) : Prop:=(97 ≤ (s[j]!.toNat : Int) ∧ (s[j]!.toNat : Int) ≤ 122) ∨ ((48 ≤ (s[j]!.toNat : Int) ∧ (s[j]!.toNat : Int) ≤ 57) ∧ j ≠ 0)
instance (s : List UInt8) (j : Nat) : Decidable (nmB s j):=by unfold nmB; infer_instance
def nmP (s : List UInt8) : Prop:=(0 < s.length ∧ s.length ≤ 12) ∧ ∀ j, j < s.length → nmB s j
instance (s : List UInt8) : Decidable (nmP s):=by unfold nmP; infer_instance
theorem name_run (s : List UInt8) (hs : s.length ≤ 50000) : Run Tryz.prog 63 [.str s] (.bool (decide (nmP s))):=by
 refine Tryz.run63 (by simp) ?_
 unfold Tryz.c63
 simp (disch:=first|omega|(simp only[pvl] at *;omega)) only [↓pvd,pva,pvr,bin2,binB2,un1,setCells,List.map,seval,reduceCtorEq]
 refine aw_loop (fun k : Nat=>⟨[(0, .str s), (7, .int .i64 s.length), (8, .int .i64 k)], []⟩) (fun k=>k ≤ s.length ∧ ∀ j, j < k → nmB s j) (fun k=>s.length - k) 0 rfl ⟨by omega, fun j hj=>by omega⟩ ?_
 rintro k ⟨hk, hp⟩
 unfold Tryz.c63b0
 by_cases hx : k < s.length
 ·have hgi : s[k]? = some s[k]!:=by rw [getElem!_pos s k hx, List.getElem?_eq_getElem hx]
  by_cases hd : nmB s k
  ·have h2:=hd
   unfold nmB at h2
   have hstep : ∃ a', (⟨[(0, AV.str s), (7, .int .i64 s.length), (8, .int .i64 (k + 1))], []⟩ : St) = ⟨[(0, .str s), (7, .int .i64 s.length), (8, .int .i64 (a' : Nat))], []⟩ ∧ (a' ≤ s.length ∧ ∀ j, j < a' → nmB s j) ∧ s.length - a' < s.length - k :=
    ⟨k + 1, rfl, ⟨by omega, fun j hj=>by
     by_cases hjk : j = k
     ·rw [hjk]; exact hd
     ·exact hp j (by omega)⟩, by omega⟩
   repeat' (first | (simp (disch:=first|omega|(simp only[pvl];omega)) only [↓pvd,pva,pvr,bin2,binB2,un1,setCells,List.map,seval,reduceCtorEq,hgi,bv,still]) | (with_reducible first|refine condP_d (fun _=>?_) (fun _=>?_)|refine guardP_d0 (fun _=>?_) (fun _=>?_)|refine guardP_d1 (fun _=>?_) (fun _=>?_)|refine condP_any ?_ ?_) | (refine Ends_rq [] ?_; simp (disch:=first|omega|(simp only[pvl];omega)) only [↓pvd,pva,pvr,bin2,binB2,un1,setCells,List.map,seval,reduceCtorEq]; exact ⟨_,rfl,rfl,rfl⟩))
   all_goals exact hstep
  ·have h2:=hd
   unfold nmB at h2
   rw [decide_eq_false (fun h : nmP s=>hd (h.2 k hx))]
   repeat' (first | (simp (disch:=first|omega|(simp only[pvl];omega)) only [↓pvd,pva,pvr,bin2,binB2,un1,setCells,List.map,seval,reduceCtorEq,hgi,bv,still]) | (with_reducible first|refine condP_d (fun _=>?_) (fun _=>?_)|refine guardP_d0 (fun _=>?_) (fun _=>?_)|refine guardP_d1 (fun _=>?_) (fun _=>?_)|refine condP_any ?_ ?_) | (refine Ends_rq [] ?_; simp (disch:=first|omega|(simp only[pvl];omega)) only [↓pvd,pva,pvr,bin2,binB2,un1,setCells,List.map,seval,reduceCtorEq]; exact ⟨_,rfl,rfl,rfl⟩))
 ·by_cases h1 : 0 < s.length ∧ s.length ≤ 12
  ·rw [decide_eq_true (show nmP s from ⟨h1, fun j hj=>hp j (by omega)⟩)]
   repeat' (first | (simp (disch:=first|omega|(simp only[pvl];omega)) only [↓pvd,pva,pvr,bin2,binB2,un1,setCells,List.map,seval,reduceCtorEq,still]) | (with_reducible first|refine condP_d (fun _=>?_) (fun _=>?_)|refine guardP_d0 (fun _=>?_) (fun _=>?_)|refine guardP_d1 (fun _=>?_) (fun _=>?_)|refine condP_any ?_ ?_) | (refine Ends_rq [] ?_; simp (disch:=first|omega|(simp only[pvl];omega)) only [↓pvd,pva,pvr,bin2,binB2,un1,setCells,List.map,seval,reduceCtorEq]; exact ⟨_,rfl,rfl,rfl⟩))
  ·rw [decide_eq_false (fun h : nmP s=>h1 h.1)]
   by_cases h3 : 0 < s.length
   ·have : 12 < s.length:=by omega
    repeat' (first | (simp (disch:=first|omega|(simp only[pvl];omega)) only [↓pvd,pva,pvr,bin2,binB2,un1,setCells,List.map,seval,reduceCtorEq,still]) | (with_reducible first|refine condP_d (fun _=>?_) (fun _=>?_)|refine guardP_d0 (fun _=>?_) (fun _=>?_)|refine guardP_d1 (fun _=>?_) (fun _=>?_)|refine condP_any ?_ ?_) | (refine Ends_rq [] ?_; simp (disch:=first|omega|(simp only[pvl];omega)) only [↓pvd,pva,pvr,bin2,binB2,un1,setCells,List.map,seval,reduceCtorEq]; exact ⟨_,rfl,rfl,rfl⟩))
   ·repeat' (first | (simp (disch:=first|omega|(simp only[pvl];omega)) only [↓pvd,pva,pvr,bin2,binB2,un1,setCells,List.map,seval,reduceCtorEq,still]) | (with_reducible first|refine condP_d (fun _=>?_) (fun _=>?_)|refine guardP_d0 (fun _=>?_) (fun _=>?_)|refine guardP_d1 (fun _=>?_) (fun _=>?_)|refine condP_any ?_ ?_) | (refine Ends_rq [] ?_; simp (disch:=first|omega|(simp only[pvl];omega)) only [↓pvd,pva,pvr,bin2,binB2,un1,setCells,List.map,seval,reduceCtorEq]; exact ⟨_,rfl,rfl,rfl⟩))
end Nm
end Go.Proofs
namespace Go.Proofs
namespace Nm
open Go.Pv
theorem rl1_run (s : List UInt8) (least most : Int) (hs : s.length ≤ 50000) : Run Tryz.prog 105 [.str s, .rptr (.int .i64 least) 0, .rptr (.int .i64 most) 0] (rdR (rdF s least most)):=by
 have q:=read_run s least most hs
 refine Tryz.run105 (by simp) ?_
 unfold Tryz.c105
 unfold rdR at *
 repeat' (first | (simp (disch:=first|omega|(simp only[pvl];omega)) only [↓pvd,pva,pvr,bin2,binB2,un1,setCells,List.map,seval,reduceCtorEq,still]) | (with_reducible first|refine condP_d (fun _=>?_) (fun _=>?_)|refine guardP_d0 (fun _=>?_) (fun _=>?_)|refine guardP_d1 (fun _=>?_) (fun _=>?_)|refine condP_any ?_ ?_) | refine awR_call q rfl rfl ?_ | refine awR_callD q rfl rfl (fun _=>rfl) ?_ | (refine Ends_rq [] ?_; simp (disch:=first|omega|(simp only[pvl];omega)) only [↓pvd,pva,pvr,bin2,binB2,un1,setCells,List.map,seval,reduceCtorEq]; exact ⟨_,rfl,rfl,rfl⟩))
end Nm
end Go.Proofs
namespace Go.Proofs
namespace Nm
open Go.Pv
end Nm
end Go.Proofs
