/- The proofs of what the functions of this seat do. -/
import Derived.Test.YtppdpcfmkmnfjaaGreatDoorPr10
set_option linter.unusedSimpArgs false
set_option linter.unusedVariables false
set_option maxHeartbeats 2000000
set_option maxRecDepth 20000
namespace Go.Proofs
open Go.Pv
open Nm (spl swV okW okB strR words_run wordsR rows_big rows_run swF_len swF_num swF rwords_run rrows_run rrows_big)
set_option maxHeartbeats 16000000 in
theorem rtread_run (b : List UInt8) (f : Bool) (hb : b.length ≤ 100000) : Run Tryz.prog 9 [.sl 1 (bys b) f] (readXA (readX b)):=by
 refine Tryz.run9 (by simp) ?_
 unfold Tryz.c9 readX
 by_cases h20 : b.length ≤ 20000
 case neg =>
  have q:=run_frz (rrows_big b f hb h20)
  simp only [frz,frzA,frzC,List.map] at q
  rw [if_pos (.inl (by omega))]
  unfold readXA
  simp (disch:=first|omega|(simp only[pvl];omega)) only [↓pvd,pva,pvr,bin2,binB2,un1,setCells,List.map,seval,reduceCtorEq,true_and]
  refine awR_call q rfl rfl ?_
  simp (disch:=first|omega|(simp only[pvl];omega)) only [↓pvd,pva,pvr,bin2,binB2,un1,setCells,List.map,seval,reduceCtorEq,true_and]
  (refine Ends_rq [] ?_; simp (disch:=first|omega|(simp only[pvl];omega)) only [↓pvd,pva,pvr,bin2,binB2,un1,setCells,List.map,seval,reduceCtorEq]; exact ⟨_,rfl,rfl,rfl⟩)
 have q:=run_frz (rrows_run b f hb h20)
 by_cases h4 : 400 < (spl b).length
 ·rw [if_pos h4] at q
  simp only [frz,frzA,frzC,List.map] at q
  rw [if_pos (.inr h4)]
  unfold readXA
  simp (disch:=first|omega|(simp only[pvl];omega)) only [↓pvd,pva,pvr,bin2,binB2,un1,setCells,List.map,seval,reduceCtorEq,true_and]
  refine awR_call q rfl rfl ?_
  simp (disch:=first|omega|(simp only[pvl];omega)) only [↓pvd,pva,pvr,bin2,binB2,un1,setCells,List.map,seval,reduceCtorEq,true_and]
  (refine Ends_rq [] ?_; simp (disch:=first|omega|(simp only[pvl];omega)) only [↓pvd,pva,pvr,bin2,binB2,un1,setCells,List.map,seval,reduceCtorEq]; exact ⟨_,rfl,rfl,rfl⟩)
 rw [if_neg h4] at q
 simp only [frz,frzA,frzC,List.map] at q
 rw [if_neg (by omega)]
 have hsm:=spl_mem b
 generalize spl b = rows at *
 simp (disch:=first|omega|(simp only[pvl];omega)) only [↓pvd,pva,pvr,bin2,binB2,un1,setCells,List.map,seval,reduceCtorEq,true_and]
 refine awR_call q rfl rfl ?_
 simp (disch:=first|omega|(simp only[pvl];omega)) only [↓pvd,pva,pvr,bin2,binB2,un1,setCells,List.map,seval,reduceCtorEq,true_and]
 refine aw_loop (fun a : Nat × List LnF=>⟨[(5, .sl 1 (rows.map .str) false), (7, .vec 0 17 0 a.2.length), (8, .int .i64 a.1)], [some ⟨39, a.2.map lnV, true⟩]⟩) (fun a=>a.1 ≤ rows.length ∧ a.2.length ≤ a.1 ∧ rdX rows a.1 = .inr a.2) (fun a=>rows.length - a.1) (0, []) ?_ ⟨by simp, by simp, rfl⟩ ?_
 ·simp (disch:=first|omega|(simp only[pvl];omega)) only [↓pvd,pva,pvr,bin2,binB2,un1,setCells,List.map,seval,reduceCtorEq,true_and,List.length_map]
 rintro ⟨k, acc⟩ ⟨hk, hal, hrd⟩
 dsimp only at hk hal hrd ⊢
 unfold Tryz.c9b0
 have hln : (acc.map lnV).length = acc.length:=by simp
 have hrm : (rows.map AV.str).length = rows.length:=by simp
 by_cases hx : k < rows.length
 ·have hgi : (rows.map AV.str)[k]? = some (.str rows[k]!):=map_get hx
  have hrl:=hsm _ (get_mem hx)
  have herr:=rdX_err rows k acc
  have hnx:=rdX_s rows k acc hrd
  have q1:=run_frz (rwords_run rows[k]! (by omega))
  have hwl:=swF_len rows[k]! rows[k]!.length (Nat.le_refl _) (rows[k]!.length + 1) 0 0 [] (by simp)
  change ∀ x ∈ swV rows[k]!, _ at hwl
  have hwn:=swF_num rows[k]! (rows[k]!.length + 1) 0 0 []
  change (swV rows[k]!).length ≤ _ at hwn
  simp only [List.length_nil] at hwn
  unfold stepX at herr hnx
  generalize rows.map AV.str = rv at *
  by_cases ho : (swV rows[k]!).all okW = true
  ·rw [if_pos ho] at q1
   simp only [if_pos ho] at herr hnx
   simp only [frz,frzA,frzC,List.map_cons,List.map_nil] at q1
   by_cases hn : swV rows[k]! = []
   ·rw [hn] at q1
    simp only [if_pos hn] at hnx
    simp only [List.map_nil] at q1
    simp (disch:=first|omega|(simp only[pvl];omega)) only [↓pvd,pva,pvr,bin2,binB2,un1,setCells,List.map,seval,reduceCtorEq,hgi,hrm]
    refine awR_call q1 rfl rfl ?_
    simp (disch:=first|omega|(simp only[pvl];omega)) only [↓pvd,pva,pvr,bin2,binB2,un1,setCells,List.map,seval,reduceCtorEq,ids_map ln_pl,ren_map ln_pl]
    refine ⟨(k + 1, acc), rfl, ⟨by dsimp only; omega, by dsimp only; omega, hnx⟩, by dsimp only; omega⟩
   ·simp only [if_neg hn] at herr hnx
    have hnl:=List.length_pos_iff.2 hn
    have q2:=rsread_run (swV rows[k]!) false ((k : Int) + 1) (by omega) (fun w hw=>by
     have:=List.all_eq_true.1 ho w hw
     unfold okW at this
     simp only [Bool.and_eq_true,decide_eq_true_eq] at this
     omega)
    have hwl1 : ((swV rows[k]!).map AV.str).length = (swV rows[k]!).length:=by simp
    generalize swV rows[k]! = ws at *
    have hw0 : ¬ (ws.length : Int) = 0:=by omega
    by_cases he : rdE ws = 0
    ·simp only [if_pos he] at hnx
     rw [he, rdT_z] at q2
     obtain ⟨n1, f1, n2, f2, n3, f3, n4, f4, hv, -⟩:=isLn_V (rdL ws ((k : Int) + 1))
     rw [hv] at q2
     generalize rdL ws ((k : Int) + 1) = x at *
     have hm : acc.map lnV ++ [lnV x] = (acc ++ [x]).map lnV:=by simp
     rw [hv] at hm
     have hml : acc.length + 1 = (acc ++ [x]).length:=by simp
     obtain ⟨⟨xr, xk, a1, a2, a3, a4, a5, b1, b2, b3, b4, b5, b6⟩, xt, xi, xe, xa⟩:=x
     simp only at q2 hm
     generalize xt.map (AV.int .i64) = s1 at *
     generalize xi.map (AV.int .i64) = s2 at *
     generalize xe.map (AV.int .i64) = s3 at *
     generalize xa.map (AV.int .u32) = s4 at *
     generalize (⟨⟨xr, xk, a1, a2, a3, a4, a5, b1, b2, b3, b4, b5, b6⟩, xt, xi, xe, xa⟩ : LnF) = x at *
     unfold lnA at q2 hm
     generalize ws.map AV.str = row at *
     simp (disch:=first|omega|(simp only[pvl];omega)) only [↓pvd,pva,pvr,bin2,binB2,un1,setCells,List.map,seval,reduceCtorEq,hgi,hrm]
     refine awR_call q1 rfl rfl ?_
     simp (disch:=first|omega|(simp only[pvl];omega)) only [↓pvd,pva,pvr,bin2,binB2,un1,setCells,List.map,seval,reduceCtorEq,hwl1,hw0,ids_map ln_pl,ren_map ln_pl]
     refine awR_call q2 rfl rfl ?_
     simp (disch:=first|omega|(simp only[pvl];omega)) only [↓pvd,pva,pvr,bin2,binB2,un1,setCells,List.map,seval,reduceCtorEq,ids_map ln_pl,ren_map ln_pl,hm,hln]
     refine ⟨(k + 1, acc ++ [x]), ?_, ⟨by dsimp only; omega, by simp; omega, hnx⟩, by dsimp only; omega⟩
     dsimp only
     rw [hml]
     rfl
    ·simp only [if_neg he] at herr
     rw [herr _ hrd hx rfl]
     unfold readXA
     rw [rdT_e he] at q2
     unfold lnA lnZ at q2
     generalize rdE ws = e at *
     generalize ws.map AV.str = row at *
     simp (disch:=first|omega|(simp only[pvl];omega)) only [↓pvd,pva,pvr,bin2,binB2,un1,setCells,List.map,seval,reduceCtorEq,hgi,hrm]
     refine awR_call q1 rfl rfl ?_
     simp (disch:=first|omega|(simp only[pvl];omega)) only [↓pvd,pva,pvr,bin2,binB2,un1,setCells,List.map,seval,reduceCtorEq,hwl1,hw0,ids_map ln_pl,ren_map ln_pl]
     refine awR_call q2 rfl rfl ?_
     simp (disch:=first|omega|(simp only[pvl];omega)) only [↓pvd,pva,pvr,bin2,binB2,un1,setCells,List.map,seval,reduceCtorEq,ids_map ln_pl,ren_map ln_pl,he]
     (refine Ends_rq [] ?_; simp (disch:=first|omega|(simp only[pvl];omega)) only [↓pvd,pva,pvr,bin2,binB2,un1,setCells,List.map,seval,reduceCtorEq]; exact ⟨_,rfl,rfl,rfl⟩)
  ·rw [if_neg ho] at q1
   simp only [if_neg ho] at herr
   rw [herr 20 hrd hx rfl]
   unfold readXA
   simp only [frz,frzA,frzC,List.map_cons,List.map_nil] at q1
   simp (disch:=first|omega|(simp only[pvl];omega)) only [↓pvd,pva,pvr,bin2,binB2,un1,setCells,List.map,seval,reduceCtorEq,hgi,hrm]
   refine awR_call q1 rfl rfl ?_
   simp (disch:=first|omega|(simp only[pvl];omega)) only [↓pvd,pva,pvr,bin2,binB2,un1,setCells,List.map,seval,reduceCtorEq,ids_map ln_pl,ren_map ln_pl]
   (refine Ends_rq [] ?_; simp (disch:=first|omega|(simp only[pvl];omega)) only [↓pvd,pva,pvr,bin2,binB2,un1,setCells,List.map,seval,reduceCtorEq]; exact ⟨_,rfl,rfl,rfl⟩)
 ·obtain rfl : k = rows.length:=by omega
  rw [hrd]
  unfold readXA
  generalize rows.map AV.str = rv at *
  simp (disch:=first|omega|(simp only[pvl];omega)) only [↓pvd,pva,pvr,bin2,binB2,un1,setCells,List.map,seval,reduceCtorEq,hrm]
  (refine Ends_rq [[.own 17 39], [.snap], [.snap]] ?_; simp (disch:=first|omega|(simp only[pvl];omega)) only [↓pvd,pva,pvr,bin2,binB2,un1,setCells,List.map,seval,reduceCtorEq,mapO_map ln_nr,rows_map ln_nr,List.length_map]; exact ⟨_,rfl,rfl,rfl⟩)
end Go.Proofs
namespace Go.Proofs
open Go.Pv
open Nm (spl swV okW okB swF enO wsF finF swV_ws)
noncomputable def rdR : Nat → List (List UInt8) → (Int × Int) ⊕ List LnF
 | _, []=>.inr []
 | i, r :: rs=>if (swV r).all okW = true then
   if swV r = [] then rdR (i + 1) rs
   else if rdE (swV r) = 0 then match rdR (i + 1) rs with
    | .inl x=>.inl x
    | .inr l=>.inr (rdL (swV r) ((i : Int) + 1) :: l)
   else .inl ((i : Int) + 1, rdE (swV r))
  else .inl ((i : Int) + 1, 20)
theorem rdX_go (rows : List (List UInt8)) : ∀ (n k : Nat) (acc : List LnF), rows.length - k = n → k ≤ rows.length → rdX rows k = .inr acc → rdX rows rows.length = match rdR k (rows.drop k) with | .inl x=>.inl x | .inr l=>.inr (acc ++ l):=by
 intro n
 induction n with
 | zero =>
  intro k acc hn hk h
  obtain rfl : k = rows.length:=by omega
  rw [List.drop_length, h]
  simp [rdR]
 | succ n ih =>
  intro k acc hn hk h
  have hx : k < rows.length:=by omega
  have hd : rows.drop k = rows[k]! :: rows.drop (k + 1):=by rw [getElem!_pos rows k hx]; exact List.drop_eq_getElem_cons hx
  have hs:=rdX_s rows k acc h
  have hr:=rdX_err rows k acc
  rw [hd, rdR]
  unfold stepX at hs hr
  by_cases ho : (swV rows[k]!).all okW = true
  ·simp only [if_pos ho] at hs hr ⊢
   by_cases hn0 : swV rows[k]! = []
   ·simp only [if_pos hn0] at hs ⊢
    exact ih (k + 1) acc (by omega) (by omega) hs
   ·simp only [if_neg hn0] at hs hr ⊢
    by_cases he : rdE (swV rows[k]!) = 0
    ·simp only [if_pos he] at hs ⊢
     rw [ih (k + 1) _ (by omega) (by omega) hs]
     cases rdR (k + 1) (rows.drop (k + 1)) with
     | inl x=>rfl
     | inr l=>simp
    ·simp only [if_neg he] at hr ⊢
     exact hr _ h hx rfl
  ·simp only [if_neg ho] at hr ⊢
   exact hr 20 h hx rfl
theorem rdX_R (rows : List (List UInt8)) : rdX rows rows.length = rdR 0 rows:=by
 rw [rdX_go rows rows.length 0 [] (by omega) (by omega) rfl, List.drop_zero]
 cases rdR 0 rows <;> simp
theorem readX_R (b : List UInt8) : readX b = if 20000 < b.length ∨ 400 < (spl b).length then .inl (0, 3) else rdR 0 (spl b):=by
 unfold readX
 rw [rdX_R]
def boundX (i n : Nat) : (Int × Int) ⊕ List LnF → Prop
 | .inl (r, _)=>(i : Int) < r ∧ r ≤ i + n
 | .inr l=>l.length ≤ n ∧ ∀ x ∈ l, (i : Int) < x.l.row ∧ x.l.row ≤ i + n
theorem rdR_bound : ∀ (i : Nat) (rs : List (List UInt8)), boundX i rs.length (rdR i rs)
 | i, []=>⟨by simp, by simp⟩
 | i, r :: rs=>by
  have ih:=rdR_bound (i + 1) rs
  rw [rdR]
  rw [List.length_cons]
  by_cases ho : (swV r).all okW = true
  ·simp only [if_pos ho]
   by_cases hn : swV r = []
   ·simp only [if_pos hn]
    cases hr : rdR (i + 1) rs with
    | inl x=>rw [hr] at ih; simp only [boundX] at ih ⊢; omega
    | inr l =>
     rw [hr] at ih
     simp only [boundX] at ih ⊢
     exact ⟨by omega, fun x hx=>by have:=ih.2 x hx; omega⟩
   ·simp only [if_neg hn]
    by_cases he : rdE (swV r) = 0
    ·simp only [if_pos he]
     cases hr : rdR (i + 1) rs with
     | inl x=>rw [hr] at ih; simp only [boundX] at ih ⊢; omega
     | inr l =>
      rw [hr] at ih
      simp only [boundX] at ih ⊢
      refine ⟨by simp; omega, fun x hx=>?_⟩
      rcases List.mem_cons.1 hx with rfl | hx
      ·rw [rd_row he]; omega
      ·have:=ih.2 x hx; omega
    ·simp only [if_neg he,boundX]; omega
  ·simp only [if_neg ho,boundX]; omega
def goodX : (Int × Int) ⊕ List LnF → Prop
 | .inl (_, e)=>e ≠ 0
 | .inr l=>∀ x ∈ l, lnB x ∧ ∃ ws r, rdE ws = 0 ∧ ws.all okW = true ∧ x = rdL ws r
theorem rdR_good : ∀ (i : Nat) (rs : List (List UInt8)), goodX (rdR i rs)
 | i, []=>by simp [rdR, goodX]
 | i, r :: rs=>by
  have ih:=rdR_good (i + 1) rs
  rw [rdR]
  by_cases ho : (swV r).all okW = true
  ·simp only [if_pos ho]
   by_cases hn : swV r = []
   ·simp only [if_pos hn]
    exact ih
   ·simp only [if_neg hn]
    by_cases he : rdE (swV r) = 0
    ·simp only [if_pos he]
     cases hr : rdR (i + 1) rs with
     | inl x=>rw [hr] at ih; exact ih
     | inr l =>
      rw [hr] at ih
      simp only [goodX] at ih ⊢
      intro x hx
      rcases List.mem_cons.1 hx with rfl | hx
      ·exact ⟨rd_B he, _, _, he, ho, rfl⟩
      ·exact ih x hx
    ·simp only [if_neg he,goodX]; exact he
  ·simp only [if_neg ho,goodX]; decide
def blk (m : Nat) : List UInt8:=(List.replicate m [32, 9, 35, 10]).flatten
end Go.Proofs
namespace Go.Proofs
open Go.Pv
open Nm (spl swV okW okB swF enO wsF finF swV_ws)
theorem xq_err {b : List UInt8} {f : Bool} {r e : Int} (hb : b.length ≤ 100000) (h : readX b = .inl (r, e)) : Run Tryz.prog 8 [.sl 1 (bys b) f] (.tup [.sl 0 [] true, .int .i64 r, .int .i64 e]):=by
 have:=run_frz (xread_run b f hb)
 rw [h] at this
 exact this
theorem xq_ok {b : List UInt8} {f : Bool} {l : List LnF} (hb : b.length ≤ 100000) (h : readX b = .inr l) : Run Tryz.prog 8 [.sl 1 (bys b) f] (.tup [.sl 17 (l.map lnV) false, .int .i64 0, .int .i64 0]):=by
 have:=run_frz (xread_run b f hb)
 rw [h] at this
 exact this
theorem readX_big {b : List UInt8} (h : 20000 < b.length ∨ 400 < (spl b).length) : readX b = .inl (0, 3):=by rw [readX_R, if_pos h]
theorem readX_small {b : List UInt8} (h : ¬ (20000 < b.length ∨ 400 < (spl b).length)) : readX b = rdR 0 (spl b):=by rw [readX_R, if_neg h]
theorem good_S {l : List LnF} {x : (Int × Int) ⊕ List LnF} (h : goodX x) (e : x = .inr l) : ∀ y ∈ l, lnS y:=by
 subst e
 intro y hy
 have:=(h y hy).1.1
 exact ⟨by omega, by omega, by omega, by omega⟩
theorem bnd_len {i n : Nat} {x : (Int × Int) ⊕ List LnF} {l : List LnF} (h : boundX i n x) (e : x = .inr l) : l.length ≤ n:=by subst e; exact h.1
end Go.Proofs
namespace Go.Proofs
open Go.Pv
open Nm (spl)
theorem rq_err {b : List UInt8} {f : Bool} {r e : Int} (hb : b.length ≤ 100000) (h : readX b = .inl (r, e)) : Run Tryz.prog 9 [.sl 1 (bys b) f] (.tup [.sl 0 [] true, .int .i64 r, .int .i64 e]):=by
 have q:=run_frz (rtread_run b f hb)
 rw [h] at q
 exact q
theorem rq_ok {b : List UInt8} {f : Bool} {l : List LnF} (hb : b.length ≤ 100000) (h : readX b = .inr l) : Run Tryz.prog 9 [.sl 1 (bys b) f] (.tup [.sl 17 (l.map lnV) false, .int .i64 0, .int .i64 0]):=by
 have q:=run_frz (rtread_run b f hb)
 rw [h] at q
 exact q
theorem textReads_run (b : List UInt8) (hb : b.length ≤ maxLen) : Run Tryz.prog 3 [.sl 1 (bys b) false] (.bool true):=by
 have q0:=works12
 refine Tryz.run3 (by simp) ?_
 unfold Tryz.c3
 have hbl : (bys b).length = b.length:=by simp [bys]
 simp only [maxLen] at hb
 by_cases h3 : 60000 < b.length
 ·generalize bys b = bs at *
  simp (disch:=first|omega|(simp only[pvl];omega)) only [↓pvd,pva,pvr,bin2,binB2,un1,setCells,List.map,seval,reduceCtorEq,hbl]
  refine awR_call q0 rfl rfl ?_
  simp (disch:=first|omega|(simp only[pvl];omega)) only [↓pvd,pva,pvr,bin2,binB2,un1,setCells,List.map,seval,reduceCtorEq,true_and]
  (refine Ends_rq [] ?_; simp (disch:=first|omega|(simp only[pvl];omega)) only [↓pvd,pva,pvr,bin2,binB2,un1,setCells,List.map,seval,reduceCtorEq]; exact ⟨_,rfl,rfl,rfl⟩)
 by_cases h12 : 6000 < b.length ∧ b.length ≤ 20000
 ·obtain ⟨h1, h2⟩:=h12
  generalize bys b = bs at *
  simp (disch:=first|omega|(simp only[pvl];omega)) only [↓pvd,pva,pvr,bin2,binB2,un1,setCells,List.map,seval,reduceCtorEq,hbl]
  refine awR_call q0 rfl rfl ?_
  simp (disch:=first|omega|(simp only[pvl];omega)) only [↓pvd,pva,pvr,bin2,binB2,un1,setCells,List.map,seval,reduceCtorEq,true_and]
  (refine Ends_rq [] ?_; simp (disch:=first|omega|(simp only[pvl];omega)) only [↓pvd,pva,pvr,bin2,binB2,un1,setCells,List.map,seval,reduceCtorEq]; exact ⟨_,rfl,rfl,rfl⟩)
 cases hr : readX b with
 | inl x =>
  obtain ⟨r, e⟩:=x
  have q1:=xq_err (f:=false) (by omega) hr
  have q2:=rq_err (f:=false) (by omega) hr
  have q3:=exact_run (a:=[]) (b:=[]) 0 0 true true (.inl rfl) (.inl rfl) (areLn_V []) (areLn_V []) (by simp) (by simp) (by simp) (by simp)
  simp only [List.map_nil,decide_true] at q3
  clear hr
  generalize bys b = bs at *
  by_cases h1 : 6000 < b.length
  ·have h2 : ¬ b.length ≤ 20000:=fun h=>h12 ⟨h1, h⟩
   simp (disch:=first|omega|(simp only[pvl];omega)) only [↓pvd,pva,pvr,bin2,binB2,un1,setCells,List.map,seval,reduceCtorEq,hbl]
   refine awR_call q1 rfl rfl ?_
   simp (disch:=first|omega|(simp only[pvl];omega)) only [↓pvd,pva,pvr,bin2,binB2,un1,setCells,List.map,seval,reduceCtorEq,true_and]
   refine awR_call q2 rfl rfl ?_
   simp (disch:=first|omega|(simp only[pvl];omega)) only [↓pvd,pva,pvr,bin2,binB2,un1,setCells,List.map,seval,reduceCtorEq,true_and]
   refine awR_call q3 rfl rfl ?_
   simp (disch:=first|omega|(simp only[pvl];omega)) only [↓pvd,pva,pvr,bin2,binB2,un1,setCells,List.map,seval,reduceCtorEq,true_and]
   refine awR_call q0 rfl rfl ?_
   simp (disch:=first|omega|(simp only[pvl];omega)) only [↓pvd,pva,pvr,bin2,binB2,un1,setCells,List.map,seval,reduceCtorEq,true_and]
   (refine Ends_rq [] ?_; simp (disch:=first|omega|(simp only[pvl];omega)) only [↓pvd,pva,pvr,bin2,binB2,un1,setCells,List.map,seval,reduceCtorEq]; exact ⟨_,rfl,rfl,rfl⟩)
  ·simp (disch:=first|omega|(simp only[pvl];omega)) only [↓pvd,pva,pvr,bin2,binB2,un1,setCells,List.map,seval,reduceCtorEq,hbl]
   refine awR_call q1 rfl rfl ?_
   simp (disch:=first|omega|(simp only[pvl];omega)) only [↓pvd,pva,pvr,bin2,binB2,un1,setCells,List.map,seval,reduceCtorEq,true_and]
   refine awR_call q2 rfl rfl ?_
   simp (disch:=first|omega|(simp only[pvl];omega)) only [↓pvd,pva,pvr,bin2,binB2,un1,setCells,List.map,seval,reduceCtorEq,true_and]
   refine awR_call q3 rfl rfl ?_
   simp (disch:=first|omega|(simp only[pvl];omega)) only [↓pvd,pva,pvr,bin2,binB2,un1,setCells,List.map,seval,reduceCtorEq,true_and]
   refine awR_call q0 rfl rfl ?_
   simp (disch:=first|omega|(simp only[pvl];omega)) only [↓pvd,pva,pvr,bin2,binB2,un1,setCells,List.map,seval,reduceCtorEq,true_and]
   (refine Ends_rq [] ?_; simp (disch:=first|omega|(simp only[pvl];omega)) only [↓pvd,pva,pvr,bin2,binB2,un1,setCells,List.map,seval,reduceCtorEq]; exact ⟨_,rfl,rfl,rfl⟩)
 | inr l =>
  have q1:=xq_ok (f:=false) (by omega) hr
  have q2:=rq_ok (f:=false) (by omega) hr
  have hbig : ¬ (20000 < b.length ∨ 400 < (spl b).length):=fun h=>by rw [readX_big h] at hr; cases hr
  have hS : ∀ y ∈ l, lnS y:=by
   rw [readX_small hbig] at hr
   exact good_S (rdR_good _ _) hr
  have hl : l.length ≤ 1000:=by
   rw [readX_small hbig] at hr
   have:=bnd_len (rdR_bound _ _) hr
   omega
  have q3:=exact_run 17 17 false false (.inr rfl) (.inr rfl) (areLn_V l) (areLn_V l) hS hS (by omega) (by omega)
  rw [decide_eq_true rfl] at q3
  clear hr
  generalize bys b = bs at *
  generalize l.map lnV = ls at *
  have h1 : ¬ 6000 < b.length:=fun h=>h12 ⟨h, by omega⟩
  simp (disch:=first|omega|(simp only[pvl];omega)) only [↓pvd,pva,pvr,bin2,binB2,un1,setCells,List.map,seval,reduceCtorEq,hbl]
  refine awR_call q1 rfl rfl ?_
  simp (disch:=first|omega|(simp only[pvl];omega)) only [↓pvd,pva,pvr,bin2,binB2,un1,setCells,List.map,seval,reduceCtorEq,true_and]
  refine awR_call q2 rfl rfl ?_
  simp (disch:=first|omega|(simp only[pvl];omega)) only [↓pvd,pva,pvr,bin2,binB2,un1,setCells,List.map,seval,reduceCtorEq,true_and]
  refine awR_call q3 rfl rfl ?_
  simp (disch:=first|omega|(simp only[pvl];omega)) only [↓pvd,pva,pvr,bin2,binB2,un1,setCells,List.map,seval,reduceCtorEq,true_and]
  refine awR_call q0 rfl rfl ?_
  simp (disch:=first|omega|(simp only[pvl];omega)) only [↓pvd,pva,pvr,bin2,binB2,un1,setCells,List.map,seval,reduceCtorEq,true_and]
  (refine Ends_rq [] ?_; simp (disch:=first|omega|(simp only[pvl];omega)) only [↓pvd,pva,pvr,bin2,binB2,un1,setCells,List.map,seval,reduceCtorEq]; exact ⟨_,rfl,rfl,rfl⟩)
theorem textReads_all : ∀ xs, DatL Tryz.prog 6 Tryz.f3.params.toList xs → Run Tryz.prog 3 xs (.bool true):=by
 intro xs h
 rw [show Tryz.f3.params.toList = [22] from rfl] at h
 obtain ⟨y1, rfl, h1⟩:=datL1 h
 obtain ⟨b, rfl, hb⟩:=dat_bys Tryz.underlying22 Tryz.underlying5 (by kernel_rfl) h1
 exact textReads_run b hb
end Go.Proofs
