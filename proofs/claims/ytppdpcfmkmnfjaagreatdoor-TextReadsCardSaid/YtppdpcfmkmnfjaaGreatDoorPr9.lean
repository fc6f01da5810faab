/- The proofs of what the functions of this seat do. -/
import Derived.Test.YtppdpcfmkmnfjaaGreatDoorPr8
set_option linter.unusedSimpArgs false
set_option linter.unusedVariables false
set_option maxHeartbeats 2000000
set_option maxRecDepth 20000
namespace Go.Proofs
open Go.Pv
theorem rkdF_lit (w : List UInt8) : (kdF w = 1 → w = [100, 101, 118, 105, 99, 101]) ∧ (kdF w = 2 → w = [112, 111, 114, 116]) ∧ (kdF w = 3 → w = [108, 105, 110, 107]) ∧ (kdF w = 4 → w = [115, 116, 97, 116, 105, 99]) ∧ (kdF w = 5 → w = [118, 116, 101, 112]) ∧ (kdF w = 6 → w = [118, 110, 105]) ∧ (kdF w = 7 → w = [102, 108, 111, 111, 100]) ∧ (kdF w = 8 → w = [118, 114, 102]) ∧ (kdF w = 9 → w = [105, 114, 98]):=by
 unfold kdF
 refine ⟨?_, ?_, ?_, ?_, ?_, ?_, ?_, ?_, ?_⟩
 all_goals
  intro h
  repeat' split at h
  all_goals first
   | assumption
   | exact absurd h (by decide)
theorem fl_nz {e c : Int} {b : Bool} (h : e ≠ 0) : fl e b c = e:=if_neg (fun x=>h x.2)
theorem fl_t {e c : Int} : fl e false c = e:=if_neg (fun x=>by cases x.1)
theorem fl_f {c : Int} : fl 0 true c = c:=if_pos ⟨rfl, rfl⟩
theorem eN_nz (w : List UInt8) {e : Int} (h : e ≠ 0) : eN w e = e:=fl_nz h
theorem eN_t (w : List UInt8) {e : Int} (h : nmO w = true) : eN w e = e:=by
 by_cases he : e = 0
 ·rw [he, eN_z]; exact ⟨rfl, h⟩
 ·exact eN_nz w he
theorem eN_f (w : List UInt8) (h : ¬ (nmO w = true)) : eN w 0 = 20:=by
 have h1 : eN w 0 ≠ 0:=fun e=>h (eN_z.1 e).2
 unfold eN fl at h1 ⊢
 split at h1
 ·rename_i h2; rw [if_pos h2]
 ·exact absurd rfl h1
theorem eU_nz (w : List UInt8) (a b : Int) {e : Int} (h : e ≠ 0) : eU w a b e = e:=fl_nz h
theorem eU_t (w : List UInt8) (a b : Int) {e : Int} (h : (Nm.rdF w a b).2 = true) : eU w a b e = e:=by
 by_cases he : e = 0
 ·rw [he, eU_z]; exact ⟨rfl, h⟩
 ·exact eU_nz w a b he
theorem eU_f (w : List UInt8) (a b : Int) (h : ¬ ((Nm.rdF w a b).2 = true)) : eU w a b 0 = 21:=by
 have h1 : eU w a b 0 ≠ 0:=fun e=>h (eU_z.1 e).2
 unfold eU fl at h1 ⊢
 split at h1
 ·rename_i h2; rw [if_pos h2]
 ·exact absurd rfl h1
theorem eM_nz (w : List UInt8) {e : Int} (h : e ≠ 0) : eM w e = e:=fl_nz h
theorem eM_t (w : List UInt8) {e : Int} (h : (Mc.rdm w).2 = true ∧ stn (Mc.rdm w).1 = true) : eM w e = e:=by
 by_cases he : e = 0
 ·rw [he, eM_z]; exact ⟨rfl, h⟩
 ·exact eM_nz w he
theorem eM_f (w : List UInt8) (h : ¬ ((Mc.rdm w).2 = true ∧ stn (Mc.rdm w).1 = true)) : eM w 0 = 21:=by
 have h1 : eM w 0 ≠ 0:=fun e=>h (eM_z.1 e).2
 unfold eM fl at h1 ⊢
 split at h1
 ·rename_i h2; rw [if_pos h2]
 ·exact absurd rfl h1
theorem eL_nz (w : List UInt8) (b : Int) {e : Int} (h : e ≠ 0) : eL w b e = e:=fl_nz h
theorem eL_t (w : List UInt8) (b : Int) {e : Int} (h : lsB w b = false) : eL w b e = e:=by
 by_cases he : e = 0
 ·rw [he, eL_z]; exact ⟨rfl, h⟩
 ·exact eL_nz w b he
theorem eL_f (w : List UInt8) (b : Int) (h : ¬ (lsB w b = false)) : eL w b 0 = 21:=by
 have h1 : eL w b 0 ≠ 0:=fun e=>h (eL_z.1 e).2
 unfold eL fl at h1 ⊢
 split at h1
 ·rename_i h2; rw [if_pos h2]
 ·exact absurd rfl h1
theorem eA_nz (w : List UInt8) {e : Int} (h : e ≠ 0) : eA w e = e:=fl_nz h
theorem eA_t (w : List UInt8) {e : Int} (h : (rdB w).2 = true ∧ (rdB w).1 ≠ 0) : eA w e = e:=by
 by_cases he : e = 0
 ·rw [he, eA_z]; exact ⟨rfl, h⟩
 ·exact eA_nz w he
theorem eA_f (w : List UInt8) (h : ¬ ((rdB w).2 = true ∧ (rdB w).1 ≠ 0)) : eA w 0 = 21:=by
 have h1 : eA w 0 ≠ 0:=fun e=>h (eA_z.1 e).2
 unfold eA fl at h1 ⊢
 split at h1
 ·rename_i h2; rw [if_pos h2]
 ·exact absurd rfl h1
theorem eD_nz (w : List UInt8) {e : Int} (h : e ≠ 0) : eD w e = e:=fl_nz h
theorem eD_t (w : List UInt8) {e : Int} (h : adG w = true ∧ (adV w)[0]! ≠ 0) : eD w e = e:=by
 by_cases he : e = 0
 ·rw [he, eD_z]; exact ⟨rfl, h⟩
 ·exact eD_nz w he
theorem eD_f (w : List UInt8) (h : ¬ (adG w = true ∧ (adV w)[0]! ≠ 0)) : eD w 0 = 21:=by
 have h1 : eD w 0 ≠ 0:=fun e=>h (eD_z.1 e).2
 unfold eD fl at h1 ⊢
 split at h1
 ·rename_i h2; rw [if_pos h2]
 ·exact absurd rfl h1
theorem eS_nz (w : List UInt8) {e : Int} (h : e ≠ 0) : eS w e = e:=fl_nz h
theorem eS_t (w : List UInt8) {e : Int} (h : (rpB w).2.2 = true ∧ sbF (rpB w).1 (rpB w).2.1 = true) : eS w e = e:=by
 by_cases he : e = 0
 ·rw [he, eS_z]; exact ⟨rfl, h⟩
 ·exact eS_nz w he
theorem eS_f (w : List UInt8) (h : ¬ ((rpB w).2.2 = true ∧ sbF (rpB w).1 (rpB w).2.1 = true)) : eS w 0 = 21:=by
 have h1 : eS w 0 ≠ 0:=fun e=>h (eS_z.1 e).2
 unfold eS fl at h1 ⊢
 split at h1
 ·rename_i h2; rw [if_pos h2]
 ·exact absurd rfl h1
theorem eK_nz (w : List UInt8) {e : Int} (h : e ≠ 0) : eK w e = e:=fl_nz h
theorem eK_t (w : List UInt8) {e : Int} (h : w = [97, 99, 99, 101, 115, 115] ∨ w = [116, 114, 117, 110, 107]) : eK w e = e:=by
 by_cases he : e = 0
 ·rw [he, eK_z]; exact ⟨rfl, h⟩
 ·exact eK_nz w he
theorem eK_f (w : List UInt8) (h : ¬ (w = [97, 99, 99, 101, 115, 115] ∨ w = [116, 114, 117, 110, 107])) : eK w 0 = 20:=by
 have h1 : eK w 0 ≠ 0:=fun e=>h (eK_z.1 e).2
 unfold eK fl at h1 ⊢
 split at h1
 ·rename_i h2; rw [if_pos h2]
 ·exact absurd rfl h1
theorem pkE_nz {ws : List (List UInt8)} {k : Nat} {e : Int} (h : e ≠ 0) : pkE ws k e = e:=by
 unfold pkE
 simp only
 have h1 : ∀ x : Int, x = e → fl x (!mbF (pkV ws k) (pkT ws k)) 21 = e:=fun x hx=>by rw [hx, fl_nz h]
 apply h1
 split
 ·exact fl_nz h
 ·split
  ·split
   ·exact fl_nz h
   ·rw [fl_nz h, fl_nz h]
  ·rfl
set_option maxHeartbeats 4000000 in
theorem rmembers_run (l : Ln) (tg : List Int) (n : Nat) (f : Bool) (im ex ad : List AV) (a b c : Nat) (p q r : Bool) (hn : tg = [] ∨ n = 1) (hl : tg.length ≤ 100000) :
  Run Tryz.prog 48 [lnA l (.sl n (tg.map (.int .i64)) f) (.sl a im p) (.sl b ex q) (.sl c ad r)] (.bool (mbF l.vlan tg)):=by
 refine Tryz.run48 (by simp) ?_
 unfold Tryz.c48 lnA
 obtain ⟨lr, lk, a1, a2, a3, a4, a5, b1, b2, b3, b4, b5, b6⟩:=l
 have htl : (tg.map (AV.int .i64)).length = tg.length:=by simp
 simp (disch:=first|omega|(simp only[pvl];omega)) only [↓pvd,pva,pvr,bin2,binB2,un1,setCells,List.map,seval,reduceCtorEq,true_and]
 refine aw_loop (fun k : Nat=>⟨[(1, .eptr 0 0 0), (3, .int .i64 k)], [some ⟨39, [.agg [.int .i64 lr, .int .i64 lk, .str a1, .str a2, .str a3, .str a4, .str a5, .int .u64 b1, .int .u32 b2, .int .i64 b3, .int .i64 b4, .int .i64 b5, .int .i64 b6, .sl n (tg.map (.int .i64)) f, .sl a im p, .sl b ex q, .sl c ad r]], true⟩]⟩) (fun k=>k ≤ tg.length ∧ ∀ j < k, tg[j]! ≠ b4) (fun k=>tg.length - k) 0 ?_ ⟨by omega, by simp⟩ ?_
 ·simp (disch:=first|omega|(simp only[pvl];omega)) only [↓pvd,pva,pvr,bin2,binB2,un1,setCells,List.map,seval,reduceCtorEq,true_and]
  try rfl
 rintro k ⟨hk, hp⟩
 unfold Tryz.c48b0
 by_cases hx : k < tg.length
 ·obtain rfl : n = 1:=hn.resolve_left (by rintro rfl; simp at hx)
  have hgi : (tg.map (AV.int .i64))[k]? = some (.int .i64 tg[k]!):=map_get hx
  by_cases h : tg[k]! = b4
  ·have hm : mbF b4 tg = false:=by
    unfold mbF
    rw [decide_eq_true (show b4 ∈ tg from h ▸ get_mem hx)]
    simp
   rw [hm]
   simp (disch:=first|omega|(simp only[pvl];omega)) only [↓pvd,pva,pvr,bin2,binB2,un1,setCells,List.map,seval,reduceCtorEq,hgi,htl,h]
   (refine Ends_rq [] ?_; simp (disch:=first|omega|(simp only[pvl];omega)) only [↓pvd,pva,pvr,bin2,binB2,un1,setCells,List.map,seval,reduceCtorEq]; exact ⟨_,rfl,rfl,rfl⟩)
  ·have h' : ¬ tg[k]! = b4:=h
   simp (disch:=first|omega|(simp only[pvl];omega)) only [↓pvd,pva,pvr,bin2,binB2,un1,setCells,List.map,seval,reduceCtorEq,hgi,htl,h']
   refine ⟨k + 1, rfl, ⟨hx, fun j hj=>?_⟩, by omega⟩
   by_cases e : j = k
   ·rw [e]; exact h
   ·exact hp j (by omega)
 ·obtain rfl : k = tg.length:=by omega
  have hno : ¬ b4 ∈ tg:=fun h=>by
   obtain ⟨j, hj, e⟩:=List.mem_iff_getElem.1 h
   have:=hp j hj
   rw [getElem!_pos tg j hj] at this
   exact this e
  have hm : mbF b4 tg = decide (0 < b4 ∨ 0 < tg.length):=by
   unfold mbF
   rw [decide_eq_false hno]
   simp
  rw [hm]
  generalize tg.map (AV.int .i64) = es at *
  by_cases h1 : 0 < b4
  ·rw [decide_eq_true (.inl h1)]
   simp (disch:=first|omega|(simp only[pvl];omega)) only [↓pvd,pva,pvr,bin2,binB2,un1,setCells,List.map,seval,reduceCtorEq,htl,h1]
   (refine Ends_rq [] ?_; simp (disch:=first|omega|(simp only[pvl];omega)) only [↓pvd,pva,pvr,bin2,binB2,un1,setCells,List.map,seval,reduceCtorEq]; exact ⟨_,rfl,rfl,rfl⟩)
  ·by_cases h2 : 0 < tg.length
   ·rw [decide_eq_true (.inr h2)]
    simp (disch:=first|omega|(simp only[pvl];omega)) only [↓pvd,pva,pvr,bin2,binB2,un1,setCells,List.map,seval,reduceCtorEq,htl,h1,h2]
    (refine Ends_rq [] ?_; simp (disch:=first|omega|(simp only[pvl];omega)) only [↓pvd,pva,pvr,bin2,binB2,un1,setCells,List.map,seval,reduceCtorEq]; exact ⟨_,rfl,rfl,rfl⟩)
   ·rw [decide_eq_false (fun h=>h.elim h1 h2)]
    simp (disch:=first|omega|(simp only[pvl];omega)) only [↓pvd,pva,pvr,bin2,binB2,un1,setCells,List.map,seval,reduceCtorEq,htl,h1,h2]
    (refine Ends_rq [] ?_; simp (disch:=first|omega|(simp only[pvl];omega)) only [↓pvd,pva,pvr,bin2,binB2,un1,setCells,List.map,seval,reduceCtorEq]; exact ⟨_,rfl,rfl,rfl⟩)
theorem rform1 (ws : List (List UInt8)) (f : Bool) (hk : kdF ws[0]! = 1) (hn : 0 < ws.length) (hl : ws.length ≤ 100000) : Run Tryz.prog 45 [.sl 1 (ws.map .str) f] (.str [78, 80, 77]):=by
 have h0:=(rkdF_lit ws[0]!).1 hk
 have hg0 : (ws.map AV.str)[0]? = some (.str ws[0]!):=map_get hn
 rw [h0] at hg0
 have hlm : (ws.map AV.str).length = ws.length:=by simp
 generalize ws.map AV.str = row at *
 refine Tryz.run45 (by simp) ?_
 unfold Tryz.c45
 simp (disch:=first|omega|(simp only[pvl];omega)) only [↓pvd,pva,pvr,bin2,binB2,un1,setCells,List.map,seval,reduceCtorEq,hlm,hg0,ne_1_2,ne_1_3,ne_1_4,ne_1_5,ne_1_6,ne_1_7,ne_1_8,ne_1_9]
 (refine Ends_rq [] ?_; simp (disch:=first|omega|(simp only[pvl];omega)) only [↓pvd,pva,pvr,bin2,binB2,un1,setCells,List.map,seval,reduceCtorEq]; exact ⟨_,rfl,rfl,rfl⟩)
theorem rform3 (ws : List (List UInt8)) (f : Bool) (hk : kdF ws[0]! = 3) (hn : 0 < ws.length) (hl : ws.length ≤ 100000) : Run Tryz.prog 45 [.sl 1 (ws.map .str) f] (.str [78, 78, 78, 78]):=by
 have h0:=(rkdF_lit ws[0]!).2.2.1 hk
 have hg0 : (ws.map AV.str)[0]? = some (.str ws[0]!):=map_get hn
 rw [h0] at hg0
 have hlm : (ws.map AV.str).length = ws.length:=by simp
 generalize ws.map AV.str = row at *
 refine Tryz.run45 (by simp) ?_
 unfold Tryz.c45
 simp (disch:=first|omega|(simp only[pvl];omega)) only [↓pvd,pva,pvr,bin2,binB2,un1,setCells,List.map,seval,reduceCtorEq,hlm,hg0,ne_3_1,ne_3_2,ne_3_4,ne_3_5,ne_3_6,ne_3_7,ne_3_8,ne_3_9]
 (refine Ends_rq [] ?_; simp (disch:=first|omega|(simp only[pvl];omega)) only [↓pvd,pva,pvr,bin2,binB2,un1,setCells,List.map,seval,reduceCtorEq]; exact ⟨_,rfl,rfl,rfl⟩)
theorem rform4 (ws : List (List UInt8)) (f : Bool) (hk : kdF ws[0]! = 4) (hn : 0 < ws.length) (hl : ws.length ≤ 100000) : Run Tryz.prog 45 [.sl 1 (ws.map .str) f] (.str [78, 86, 77, 78]):=by
 have h0:=(rkdF_lit ws[0]!).2.2.2.1 hk
 have hg0 : (ws.map AV.str)[0]? = some (.str ws[0]!):=map_get hn
 rw [h0] at hg0
 have hlm : (ws.map AV.str).length = ws.length:=by simp
 generalize ws.map AV.str = row at *
 refine Tryz.run45 (by simp) ?_
 unfold Tryz.c45
 simp (disch:=first|omega|(simp only[pvl];omega)) only [↓pvd,pva,pvr,bin2,binB2,un1,setCells,List.map,seval,reduceCtorEq,hlm,hg0,ne_4_1,ne_4_2,ne_4_3,ne_4_5,ne_4_6,ne_4_7,ne_4_8,ne_4_9]
 (refine Ends_rq [] ?_; simp (disch:=first|omega|(simp only[pvl];omega)) only [↓pvd,pva,pvr,bin2,binB2,un1,setCells,List.map,seval,reduceCtorEq]; exact ⟨_,rfl,rfl,rfl⟩)
theorem rform5 (ws : List (List UInt8)) (f : Bool) (hk : kdF ws[0]! = 5) (hn : 0 < ws.length) (hl : ws.length ≤ 100000) : Run Tryz.prog 45 [.sl 1 (ws.map .str) f] (.str [78, 65]):=by
 have h0:=(rkdF_lit ws[0]!).2.2.2.2.1 hk
 have hg0 : (ws.map AV.str)[0]? = some (.str ws[0]!):=map_get hn
 rw [h0] at hg0
 have hlm : (ws.map AV.str).length = ws.length:=by simp
 generalize ws.map AV.str = row at *
 refine Tryz.run45 (by simp) ?_
 unfold Tryz.c45
 simp (disch:=first|omega|(simp only[pvl];omega)) only [↓pvd,pva,pvr,bin2,binB2,un1,setCells,List.map,seval,reduceCtorEq,hlm,hg0,ne_5_1,ne_5_2,ne_5_3,ne_5_4,ne_5_6,ne_5_7,ne_5_8,ne_5_9]
 (refine Ends_rq [] ?_; simp (disch:=first|omega|(simp only[pvl];omega)) only [↓pvd,pva,pvr,bin2,binB2,un1,setCells,List.map,seval,reduceCtorEq]; exact ⟨_,rfl,rfl,rfl⟩)
theorem rform6 (ws : List (List UInt8)) (f : Bool) (hk : kdF ws[0]! = 6) (hn : 0 < ws.length) (hl : ws.length ≤ 100000) : Run Tryz.prog 45 [.sl 1 (ws.map .str) f] (.str [78, 86, 73]):=by
 have h0:=(rkdF_lit ws[0]!).2.2.2.2.2.1 hk
 have hg0 : (ws.map AV.str)[0]? = some (.str ws[0]!):=map_get hn
 rw [h0] at hg0
 have hlm : (ws.map AV.str).length = ws.length:=by simp
 generalize ws.map AV.str = row at *
 refine Tryz.run45 (by simp) ?_
 unfold Tryz.c45
 simp (disch:=first|omega|(simp only[pvl];omega)) only [↓pvd,pva,pvr,bin2,binB2,un1,setCells,List.map,seval,reduceCtorEq,hlm,hg0,ne_6_1,ne_6_2,ne_6_3,ne_6_4,ne_6_5,ne_6_7,ne_6_8,ne_6_9]
 (refine Ends_rq [] ?_; simp (disch:=first|omega|(simp only[pvl];omega)) only [↓pvd,pva,pvr,bin2,binB2,un1,setCells,List.map,seval,reduceCtorEq]; exact ⟨_,rfl,rfl,rfl⟩)
theorem rform7 (ws : List (List UInt8)) (f : Bool) (hk : kdF ws[0]! = 7) (hn : 0 < ws.length) (hl : ws.length ≤ 100000) : Run Tryz.prog 45 [.sl 1 (ws.map .str) f] (.str [78, 73, 76]):=by
 have h0:=(rkdF_lit ws[0]!).2.2.2.2.2.2.1 hk
 have hg0 : (ws.map AV.str)[0]? = some (.str ws[0]!):=map_get hn
 rw [h0] at hg0
 have hlm : (ws.map AV.str).length = ws.length:=by simp
 generalize ws.map AV.str = row at *
 refine Tryz.run45 (by simp) ?_
 unfold Tryz.c45
 simp (disch:=first|omega|(simp only[pvl];omega)) only [↓pvd,pva,pvr,bin2,binB2,un1,setCells,List.map,seval,reduceCtorEq,hlm,hg0,ne_7_1,ne_7_2,ne_7_3,ne_7_4,ne_7_5,ne_7_6,ne_7_8,ne_7_9]
 (refine Ends_rq [] ?_; simp (disch:=first|omega|(simp only[pvl];omega)) only [↓pvd,pva,pvr,bin2,binB2,un1,setCells,List.map,seval,reduceCtorEq]; exact ⟨_,rfl,rfl,rfl⟩)
theorem rform8 (ws : List (List UInt8)) (f : Bool) (hk : kdF ws[0]! = 8) (hn : 0 < ws.length) (hl : ws.length ≤ 100000) : Run Tryz.prog 45 [.sl 1 (ws.map .str) f] (.str [78, 78, 82, 82]):=by
 have h0:=(rkdF_lit ws[0]!).2.2.2.2.2.2.2.1 hk
 have hg0 : (ws.map AV.str)[0]? = some (.str ws[0]!):=map_get hn
 rw [h0] at hg0
 have hlm : (ws.map AV.str).length = ws.length:=by simp
 generalize ws.map AV.str = row at *
 refine Tryz.run45 (by simp) ?_
 unfold Tryz.c45
 simp (disch:=first|omega|(simp only[pvl];omega)) only [↓pvd,pva,pvr,bin2,binB2,un1,setCells,List.map,seval,reduceCtorEq,hlm,hg0,ne_8_1,ne_8_2,ne_8_3,ne_8_4,ne_8_5,ne_8_6,ne_8_7,ne_8_9]
 (refine Ends_rq [] ?_; simp (disch:=first|omega|(simp only[pvl];omega)) only [↓pvd,pva,pvr,bin2,binB2,un1,setCells,List.map,seval,reduceCtorEq]; exact ⟨_,rfl,rfl,rfl⟩)
theorem rform9 (ws : List (List UInt8)) (f : Bool) (hk : kdF ws[0]! = 9) (hn : 0 < ws.length) (hl : ws.length ≤ 100000) : Run Tryz.prog 45 [.sl 1 (ws.map .str) f] (.str [78, 86, 78, 83]):=by
 have h0:=(rkdF_lit ws[0]!).2.2.2.2.2.2.2.2 hk
 have hg0 : (ws.map AV.str)[0]? = some (.str ws[0]!):=map_get hn
 rw [h0] at hg0
 have hlm : (ws.map AV.str).length = ws.length:=by simp
 generalize ws.map AV.str = row at *
 refine Tryz.run45 (by simp) ?_
 unfold Tryz.c45
 simp (disch:=first|omega|(simp only[pvl];omega)) only [↓pvd,pva,pvr,bin2,binB2,un1,setCells,List.map,seval,reduceCtorEq,hlm,hg0,ne_9_1,ne_9_2,ne_9_3,ne_9_4,ne_9_5,ne_9_6,ne_9_7,ne_9_8]
 (refine Ends_rq [] ?_; simp (disch:=first|omega|(simp only[pvl];omega)) only [↓pvd,pva,pvr,bin2,binB2,un1,setCells,List.map,seval,reduceCtorEq]; exact ⟨_,rfl,rfl,rfl⟩)
theorem rform2 (ws : List (List UInt8)) (f : Bool) (hk : kdF ws[0]! = 2) (hn : 0 < ws.length) (hl : ws.length ≤ 100000) : Run Tryz.prog 45 [.sl 1 (ws.map .str) f] (.str (if ws.length = 7 ∧ ws[4]! ≠ [97, 99, 99, 101, 115, 115] then [78, 78, 67, 75, 87, 84] else if ws.length = 6 ∧ ws[4]! ≠ [116, 114, 117, 110, 107] then [78, 78, 67, 75, 86] else [])):=by
 have h0:=(rkdF_lit ws[0]!).2.1 hk
 have hg0 : (ws.map AV.str)[0]? = some (.str ws[0]!):=map_get hn
 rw [h0] at hg0
 have hg4 : 4 < ws.length → (ws.map AV.str)[4]? = some (.str ws[4]!):=fun h=>map_get h
 have hlm : (ws.map AV.str).length = ws.length:=by simp
 generalize ws.map AV.str = row at *
 generalize ws[4]! = w at *
 refine Tryz.run45 (by simp) ?_
 unfold Tryz.c45
 by_cases h7 : ws.length = 7
 ·have hg:=hg4 (by omega)
  have h7' : (ws.length : Int) = 7:=by omega
  by_cases ha : w = [97, 99, 99, 101, 115, 115]
  ·have da:=decide_eq_true ha
   rw [if_neg (fun h=>h.2 ha), if_neg (fun h=>by omega)]
   simp (disch:=first|omega|(simp only[pvl];omega)) only [↓pvd,pva,pvr,bin2,binB2,un1,setCells,List.map,seval,reduceCtorEq,ne_2_1,ne_2_3,ne_2_4,ne_2_5,ne_2_6,ne_2_7,ne_2_8,ne_2_9,hlm,hg0,hg,h7',da]
   (refine Ends_rq [] ?_; simp (disch:=first|omega|(simp only[pvl];omega)) only [↓pvd,pva,pvr,bin2,binB2,un1,setCells,List.map,seval,reduceCtorEq]; exact ⟨_,rfl,rfl,rfl⟩)
  ·have da:=decide_eq_false ha
   rw [if_pos ⟨h7, ha⟩]
   simp (disch:=first|omega|(simp only[pvl];omega)) only [↓pvd,pva,pvr,bin2,binB2,un1,setCells,List.map,seval,reduceCtorEq,ne_2_1,ne_2_3,ne_2_4,ne_2_5,ne_2_6,ne_2_7,ne_2_8,ne_2_9,hlm,hg0,hg,h7',da]
   (refine Ends_rq [] ?_; simp (disch:=first|omega|(simp only[pvl];omega)) only [↓pvd,pva,pvr,bin2,binB2,un1,setCells,List.map,seval,reduceCtorEq]; exact ⟨_,rfl,rfl,rfl⟩)
 ·have h7' : ¬ (ws.length : Int) = 7:=by omega
  rw [if_neg (fun h=>h7 h.1)]
  by_cases h6 : ws.length = 6
  ·have hg:=hg4 (by omega)
   have h6' : (ws.length : Int) = 6:=by omega
   by_cases ha : w = [116, 114, 117, 110, 107]
   ·have da:=decide_eq_true ha
    rw [if_neg (fun h=>h.2 ha)]
    simp (disch:=first|omega|(simp only[pvl];omega)) only [↓pvd,pva,pvr,bin2,binB2,un1,setCells,List.map,seval,reduceCtorEq,ne_2_1,ne_2_3,ne_2_4,ne_2_5,ne_2_6,ne_2_7,ne_2_8,ne_2_9,hlm,hg0,hg,h7',h6',da]
    (refine Ends_rq [] ?_; simp (disch:=first|omega|(simp only[pvl];omega)) only [↓pvd,pva,pvr,bin2,binB2,un1,setCells,List.map,seval,reduceCtorEq]; exact ⟨_,rfl,rfl,rfl⟩)
   ·have da:=decide_eq_false ha
    rw [if_pos ⟨h6, ha⟩]
    simp (disch:=first|omega|(simp only[pvl];omega)) only [↓pvd,pva,pvr,bin2,binB2,un1,setCells,List.map,seval,reduceCtorEq,ne_2_1,ne_2_3,ne_2_4,ne_2_5,ne_2_6,ne_2_7,ne_2_8,ne_2_9,hlm,hg0,hg,h7',h6',da]
    (refine Ends_rq [] ?_; simp (disch:=first|omega|(simp only[pvl];omega)) only [↓pvd,pva,pvr,bin2,binB2,un1,setCells,List.map,seval,reduceCtorEq]; exact ⟨_,rfl,rfl,rfl⟩)
  ·have h6' : ¬ (ws.length : Int) = 6:=by omega
   rw [if_neg (fun h=>h6 h.1)]
   simp (disch:=first|omega|(simp only[pvl];omega)) only [↓pvd,pva,pvr,bin2,binB2,un1,setCells,List.map,seval,reduceCtorEq,ne_2_1,ne_2_3,ne_2_4,ne_2_5,ne_2_6,ne_2_7,ne_2_8,ne_2_9,hlm,hg0,h7',h6']
   (refine Ends_rq [] ?_; simp (disch:=first|omega|(simp only[pvl];omega)) only [↓pvd,pva,pvr,bin2,binB2,un1,setCells,List.map,seval,reduceCtorEq]; exact ⟨_,rfl,rfl,rfl⟩)
theorem rform0 (ws : List (List UInt8)) (f : Bool) (hk : ws = [] ∨ kdF ws[0]! = 0) (hl : ws.length ≤ 100000) : Run Tryz.prog 45 [.sl 1 (ws.map .str) f] (.str []):=by
 refine Tryz.run45 (by simp) ?_
 unfold Tryz.c45
 by_cases hn : ws = []
 ·subst hn
  simp (disch:=first|omega|(simp only[pvl];omega)) only [↓pvd,pva,pvr,bin2,binB2,un1,setCells,List.map,seval,reduceCtorEq,List.map_nil]
  (refine Ends_rq [] ?_; simp (disch:=first|omega|(simp only[pvl];omega)) only [↓pvd,pva,pvr,bin2,binB2,un1,setCells,List.map,seval,reduceCtorEq]; exact ⟨_,rfl,rfl,rfl⟩)
 have hp:=List.length_pos_iff.2 hn
 have h0:=hk.resolve_left hn
 have hg0 : (ws.map AV.str)[0]? = some (.str ws[0]!):=map_get hp
 have hlm : (ws.map AV.str).length = ws.length:=by simp
 generalize ws.map AV.str = row at *
 generalize ws[0]! = w at *
 unfold kdF at h0
 by_cases k0 : w = [100, 101, 118, 105, 99, 101]
 ·rw [if_pos k0] at h0; exact absurd h0 (by decide)
 by_cases k1 : w = [112, 111, 114, 116]
 ·rw [if_neg k0, if_pos k1] at h0; exact absurd h0 (by decide)
 by_cases k2 : w = [108, 105, 110, 107]
 ·rw [if_neg k0, if_neg k1, if_pos k2] at h0; exact absurd h0 (by decide)
 by_cases k3 : w = [115, 116, 97, 116, 105, 99]
 ·rw [if_neg k0, if_neg k1, if_neg k2, if_pos k3] at h0; exact absurd h0 (by decide)
 by_cases k4 : w = [118, 116, 101, 112]
 ·rw [if_neg k0, if_neg k1, if_neg k2, if_neg k3, if_pos k4] at h0; exact absurd h0 (by decide)
 by_cases k5 : w = [118, 110, 105]
 ·rw [if_neg k0, if_neg k1, if_neg k2, if_neg k3, if_neg k4, if_pos k5] at h0; exact absurd h0 (by decide)
 by_cases k6 : w = [102, 108, 111, 111, 100]
 ·rw [if_neg k0, if_neg k1, if_neg k2, if_neg k3, if_neg k4, if_neg k5, if_pos k6] at h0; exact absurd h0 (by decide)
 by_cases k7 : w = [118, 114, 102]
 ·rw [if_neg k0, if_neg k1, if_neg k2, if_neg k3, if_neg k4, if_neg k5, if_neg k6, if_pos k7] at h0; exact absurd h0 (by decide)
 by_cases k8 : w = [105, 114, 98]
 ·rw [if_neg k0, if_neg k1, if_neg k2, if_neg k3, if_neg k4, if_neg k5, if_neg k6, if_neg k7, if_pos k8] at h0; exact absurd h0 (by decide)
 have d0:=decide_eq_false k0
 have d1:=decide_eq_false k1
 have d2:=decide_eq_false k2
 have d3:=decide_eq_false k3
 have d4:=decide_eq_false k4
 have d5:=decide_eq_false k5
 have d6:=decide_eq_false k6
 have d7:=decide_eq_false k7
 have d8:=decide_eq_false k8
 simp (disch:=first|omega|(simp only[pvl];omega)) only [↓pvd,pva,pvr,bin2,binB2,un1,setCells,List.map,seval,reduceCtorEq,hlm,hg0,d0,d1,d2,d3,d4,d5,d6,d7,d8]
 (refine Ends_rq [] ?_; simp (disch:=first|omega|(simp only[pvl];omega)) only [↓pvd,pva,pvr,bin2,binB2,un1,setCells,List.map,seval,reduceCtorEq]; exact ⟨_,rfl,rfl,rfl⟩)
end Go.Proofs
