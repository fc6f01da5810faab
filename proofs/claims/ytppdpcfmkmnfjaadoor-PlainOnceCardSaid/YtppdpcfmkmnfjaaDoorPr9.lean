/- The proofs of what the functions of this seat do. -/
import Derived.Test.YtppdpcfmkmnfjaaDoorPr8
set_option linter.unusedSimpArgs false
set_option linter.unusedVariables false
set_option maxHeartbeats 2000000
set_option maxRecDepth 20000
namespace Go.Proofs
open Go.Pv
open Nm (spl swV okW okB strR words_run wordsR rows_big rows_run swF_len swF_num swF)
theorem EndsD_rq {P : Program} {c : AC} {g m t : Nat} {X : St → Option AV} {r : AV} {fr : Fr} {hp : Hp} (ms : List (List Pv.Mode)) (caps : List AV) (H2 : Hp) (h1 : get fr t = .fn g caps) (h2 : caps.length ≤ m)
    (h3 : aw P c (EndsG [] (.tup []) H2) ⟨caps.zipIdx.map fun p => (p.2, p.1), hp⟩) (h4 : ∃ p, (X ⟨fr, H2⟩).bind (hand H2 ms) = some p ∧ p.1 = r ∧ liveB p.2.1 p.2.2 = true) : EndsD P c g m t X r .ret ⟨fr, hp⟩ := by
  obtain ⟨⟨y, H1, l⟩, h5, rfl, h6⟩ := h4
  obtain ⟨x, hx, hy⟩ := Option.bind_eq_some_iff.1 h5
  exact ⟨caps, H2, h1, h2, h3, x, hx, ms, H1, l, hy, h6⟩
theorem spl_mem : ∀ (s : List UInt8), ∀ r ∈ spl s, r.length ≤ s.length
  | [], r, hr => by simp [spl] at hr
  | c :: s, r, hr => by
    have ih := spl_mem s
    simp only [spl] at hr
    split at hr
    · rcases List.mem_cons.1 hr with rfl | hr
      · simp
      · have := ih r hr; simp; omega
    · cases hs : spl s with
      | nil => rw [hs] at hr; simp at hr; subst hr; simp
      | cons h t =>
        rw [hs] at hr ih
        rcases List.mem_cons.1 hr with rfl | hr
        · have := ih h (by simp); simp; omega
        · have := ih r (by simp [hr]); simp; omega
noncomputable def stepX (i : Nat) (r : List UInt8) (acc : List LnF) : Int ⊕ List LnF :=
  if (swV r).all okW = true then
    if swV r = [] then .inr acc
    else if rdE (swV r) = 0 then .inr (acc ++ [rdL (swV r) ((i : Int) + 1)]) else .inl (rdE (swV r))
  else .inl 20
noncomputable def rdX (rows : List (List UInt8)) : Nat → (Int × Int) ⊕ List LnF
  | 0 => .inr []
  | k + 1 => match rdX rows k with
    | .inl x => .inl x
    | .inr acc => match stepX k rows[k]! acc with
      | .inl e => .inl ((k : Int) + 1, e)
      | .inr acc' => .inr acc'
theorem rdX_s (rows : List (List UInt8)) (k : Nat) (acc : List LnF) (h : rdX rows k = .inr acc) : rdX rows (k + 1) = match stepX k rows[k]! acc with
      | .inl e => .inl ((k : Int) + 1, e)
      | .inr acc' => .inr acc' := by
  simp only [rdX,h]
theorem rdX_stay (rows : List (List UInt8)) (k : Nat) (x : Int × Int) (h : rdX rows k = .inl x) : ∀ n, k ≤ n → rdX rows n = .inl x := by
  intro n hn
  induction n with
  | zero => rw [show k = 0 by omega] at h; exact h
  | succ n ih =>
    by_cases e : k = n + 1
    · rw [← e]; exact h
    · have := ih (by omega)
      simp only [rdX,this]
theorem rdX_err (rows : List (List UInt8)) (k : Nat) (acc : List LnF) (e : Int) (h : rdX rows k = .inr acc) (hk : k < rows.length) (hs : stepX k rows[k]! acc = .inl e) : rdX rows rows.length = .inl ((k : Int) + 1, e) := by
  refine rdX_stay rows (k + 1) _ ?_ _ hk
  rw [rdX_s rows k acc h, hs]
noncomputable def readX (b : List UInt8) : (Int × Int) ⊕ List LnF := if 20000 < b.length ∨ 400 < (spl b).length then .inl (0, 3) else rdX (spl b) (spl b).length
def readXA : (Int × Int) ⊕ List LnF → AV
  | .inl (r, e) => .tup [.sl 0 [] true, .int .i64 r, .int .i64 e]
  | .inr l => .tup [.own 17 35 (l.map lnV), .int .i64 0, .int .i64 0]
theorem strR_frz (l : List (List UInt8)) : frz (.tup [strR l, .int .i64 0]) = if l = [] then .tup [.sl 0 [] true, .int .i64 0] else .tup [.sl 1 (l.map .str) false, .int .i64 0] := by
  unfold strR
  by_cases h : l = []
  · rw [if_pos h, if_pos h]; rfl
  · rw [if_neg h, if_neg h]; rfl
theorem words_frz (w : List UInt8) (hw : w.length ≤ 40000) : Run Tryd.prog 24 [.str w] (if (swV w).all okW = true then (if swV w = [] then .tup [.sl 0 [] true, .int .i64 0] else .tup [.sl 1 ((swV w).map .str) false, .int .i64 0]) else .tup [.sl 0 [] true, .int .i64 20]) := by
  have q := run_frz (words_run w hw)
  unfold wordsR at q
  by_cases h : (swV w).all okW = true
  · rw [if_pos h] at q ⊢
    rwa [strR_frz] at q
  · rw [if_neg h] at q ⊢
    exact q
theorem slV_pl (l : List Int) : (slV l).pl0 = true := by unfold slV nilA; split <;> rfl
theorem sl32_pl (l : List Int) : (sl32 l).pl0 = true := by unfold sl32 nilA; split <;> rfl
theorem slV_nr (l : List Int) : (slV l).nr0 = true := by unfold slV nilA; split <;> rfl
theorem sl32_nr (l : List Int) : (sl32 l).nr0 = true := by unfold sl32 nilA; split <;> rfl
theorem ln_pl (x : LnF) : (lnV x).pl = true := by
  unfold lnV lnA AV.pl
  simp only [List.all_cons,List.all_nil,slV_pl,sl32_pl,Bool.and_true]
  rfl
theorem ln_nr (x : LnF) : (lnV x).nr1 = true := by
  unfold lnV lnA AV.nr1
  simp only [List.all_cons,List.all_nil,slV_nr,sl32_nr,Bool.and_true]
  rfl
def tH (ls : List LnF) : Hp := if ls = [] then [some ⟨22, [.sl 0 [] true], true⟩, some ⟨27, [.int .i64 0], true⟩] else [some ⟨22, [.vec 1 17 0 ls.length], true⟩, some ⟨35, ls.map lnV, true⟩, some ⟨27, [.int .i64 0], true⟩]
def tK (ls : List LnF) : Nat := if ls = [] then 1 else 2
theorem tH_n : tH [] = [some ⟨22, [.sl 0 [] true], true⟩, some ⟨27, [.int .i64 0], true⟩] := if_pos rfl
theorem tK_n : tK [] = 1 := if_pos rfl
theorem tH_c {ls : List LnF} (h : ls ≠ []) : tH ls = [some ⟨22, [.vec 1 17 0 ls.length], true⟩, some ⟨35, ls.map lnV, true⟩, some ⟨27, [.int .i64 0], true⟩] := if_neg h
theorem tK_c {ls : List LnF} (h : ls ≠ []) : tK ls = 2 := if_neg h
set_option maxHeartbeats 16000000 in
theorem xread_run (b : List UInt8) (f : Bool) (hb : b.length ≤ 100000) : Run Tryd.prog 12 [.sl 1 (bys b) f] (readXA (readX b)) := by
  refine Tryd.run12 (by simp) ?_
  unfold Tryd.c12a
  simp (disch := first|omega|(simp only[pvl];omega)) only [↓pvd,pva,Pv.put,bin2,int2,binB2,un1,AV.flat,pvf,szOk,notStr,setCells,AV.one,resX,layC,layA,lay,List.map,List.replicate,List.length_replicate,pve,seval,reduceCtorEq,true_and]
  unfold Tryd.c12b
  simp (disch := first|omega|(simp only[pvl];omega)) only [↓pvd,pva,Pv.put,bin2,int2,binB2,un1,AV.flat,pvf,szOk,notStr,setCells,AV.one,resX,layC,layA,lay,List.map,List.replicate,List.length_replicate,pve,seval,reduceCtorEq,true_and]
  refine ⟨⟨_, rfl⟩, ?_⟩
  unfold Tryd.c12 readX
  have early : ∀ e : Int, e ≠ 0 → ∀ K, K = readXA (.inl (0, e)) → Run Tryd.prog 23 [.sl 1 (bys b) f] (.tup [.sl 0 [] true, .int .i64 e]) → True := fun _ _ _ _ _ => trivial
  by_cases h20 : b.length ≤ 20000
  case neg =>
    have q := run_frz (rows_big b f hb h20)
    simp only [frz,frzA,frzC,List.map] at q
    rw [if_pos (.inl (by omega))]
    unfold readXA
    simp (disch := first|omega|(simp only[pvl];omega)) only [↓pvd,pva,Pv.put,bin2,int2,binB2,un1,AV.flat,pvf,szOk,notStr,setCells,AV.one,resX,layC,layA,lay,List.map,List.replicate,List.length_replicate,pve,seval,reduceCtorEq,true_and]
    refine awR_call q rfl rfl ?_
    simp (disch := first|omega|(simp only[pvl];omega)) only [↓pvd,pva,Pv.put,bin2,int2,binB2,un1,AV.flat,pvf,szOk,notStr,setCells,AV.one,resX,layC,layA,lay,List.map,List.replicate,List.length_replicate,pve,seval,reduceCtorEq,true_and]
    refine EndsD_rq [] _ [some ⟨22, [.sl 0 [] true], true⟩, some ⟨27, [.int .i64 3], true⟩] rfl (by simp) ?_ ?_
    · unfold Tryd.c22
      simp (disch := first|omega|(simp only[pvl];omega)) only [↓pvd,pva,Pv.put,bin2,int2,binB2,un1,AV.flat,pvf,szOk,notStr,setCells,AV.one,resX,layC,layA,lay,List.map,List.replicate,List.length_replicate,pve,seval,reduceCtorEq,true_and]
      exact ⟨rfl, rfl⟩
    · simp (disch := first|omega|(simp only[pvl];omega)) only [↓pvd,pva,Pv.put,bin2,int2,binB2,un1,AV.flat,pvf,szOk,notStr,setCells,AV.one,resX,layC,layA,lay,List.map,List.replicate,List.length_replicate,pve,seval,reduceCtorEq,true_and]
      exact ⟨_,rfl,rfl,rfl⟩
  have q := run_frz (rows_run b f hb h20)
  by_cases h4 : 400 < (spl b).length
  · rw [if_pos h4] at q
    simp only [frz,frzA,frzC,List.map] at q
    rw [if_pos (.inr h4)]
    unfold readXA
    simp (disch := first|omega|(simp only[pvl];omega)) only [↓pvd,pva,Pv.put,bin2,int2,binB2,un1,AV.flat,pvf,szOk,notStr,setCells,AV.one,resX,layC,layA,lay,List.map,List.replicate,List.length_replicate,pve,seval,reduceCtorEq,true_and]
    refine awR_call q rfl rfl ?_
    simp (disch := first|omega|(simp only[pvl];omega)) only [↓pvd,pva,Pv.put,bin2,int2,binB2,un1,AV.flat,pvf,szOk,notStr,setCells,AV.one,resX,layC,layA,lay,List.map,List.replicate,List.length_replicate,pve,seval,reduceCtorEq,true_and]
    refine EndsD_rq [] _ [some ⟨22, [.sl 0 [] true], true⟩, some ⟨27, [.int .i64 3], true⟩] rfl (by simp) ?_ ?_
    · unfold Tryd.c22
      simp (disch := first|omega|(simp only[pvl];omega)) only [↓pvd,pva,Pv.put,bin2,int2,binB2,un1,AV.flat,pvf,szOk,notStr,setCells,AV.one,resX,layC,layA,lay,List.map,List.replicate,List.length_replicate,pve,seval,reduceCtorEq,true_and]
      exact ⟨rfl, rfl⟩
    · simp (disch := first|omega|(simp only[pvl];omega)) only [↓pvd,pva,Pv.put,bin2,int2,binB2,un1,AV.flat,pvf,szOk,notStr,setCells,AV.one,resX,layC,layA,lay,List.map,List.replicate,List.length_replicate,pve,seval,reduceCtorEq,true_and]
      exact ⟨_,rfl,rfl,rfl⟩
  rw [if_neg h4] at q
  simp only [frz,frzA,frzC,List.map] at q
  rw [if_neg (by omega)]
  have hsm := spl_mem b
  generalize spl b = rows at *
  simp (disch := first|omega|(simp only[pvl];omega)) only [↓pvd,pva,Pv.put,bin2,int2,binB2,un1,AV.flat,pvf,szOk,notStr,setCells,AV.one,resX,layC,layA,lay,List.map,List.replicate,List.length_replicate,pve,seval,reduceCtorEq,true_and]
  refine awR_call q rfl rfl ?_
  simp (disch := first|omega|(simp only[pvl];omega)) only [↓pvd,pva,Pv.put,bin2,int2,binB2,un1,AV.flat,pvf,szOk,notStr,setCells,AV.one,resX,layC,layA,lay,List.map,List.replicate,List.length_replicate,pve,seval,reduceCtorEq,true_and]
  refine aw_loop (fun a : Nat × List LnF => ⟨[(2, .eptr 0 0 0), (4, .eptr (tK a.2) 0 0), (11, .fn 22 [.eptr (tK a.2) 0 0, .eptr 0 0 0]), (20, .sl 1 (rows.map .str) false), (21, .int .i64 rows.length), (22, .int .i64 a.1)], tH a.2⟩) (fun a => a.1 ≤ rows.length ∧ a.2.length ≤ a.1 ∧ rdX rows a.1 = .inr a.2) (fun a => rows.length - a.1) (0, []) ?_ ⟨by simp, by simp, rfl⟩ ?_
  · simp (disch := first|omega|(simp only[pvl];omega)) only [↓pvd,pva,Pv.put,bin2,int2,binB2,un1,AV.flat,pvf,szOk,notStr,setCells,AV.one,resX,layC,layA,lay,List.map,List.replicate,List.length_replicate,pve,seval,reduceCtorEq,true_and,List.length_map]
    rfl
  rintro ⟨k, acc⟩ ⟨hk, hal, hrd⟩
  dsimp only at hk hal hrd ⊢
  unfold Tryd.c12b0
  by_cases hx : k < rows.length
  · have hgi : (rows.map AV.str)[k]? = some (.str rows[k]!) := map_get hx
    have hrl := hsm _ (get_mem hx)
    have herr := rdX_err rows k acc
    have hnx := rdX_s rows k acc hrd
    have q1 := words_frz rows[k]! (by omega)
    have hwl := swF_len rows[k]! rows[k]!.length (Nat.le_refl _) (rows[k]!.length + 1) 0 0 [] (by simp)
    change ∀ x ∈ swV rows[k]!, _ at hwl
    have hwn := swF_num rows[k]! (rows[k]!.length + 1) 0 0 []
    change (swV rows[k]!).length ≤ _ at hwn
    simp only [List.length_nil] at hwn
    unfold stepX at herr hnx
    by_cases ho : (swV rows[k]!).all okW = true
    · rw [if_pos ho] at q1
      simp only [if_pos ho] at herr hnx
      by_cases hn : swV rows[k]! = []
      · rw [if_pos hn] at q1
        simp only [if_pos hn] at hnx
        by_cases hac : acc = []
        · subst hac
          rw [tH_n, tK_n]
          simp (disch := first|omega|(simp only[pvl];omega)) only [↓pvd,pva,Pv.put,bin2,int2,binB2,un1,AV.flat,pvf,szOk,notStr,setCells,AV.one,resX,layC,layA,lay,List.map,List.replicate,List.length_replicate,pve,seval,reduceCtorEq,hgi]
          refine awR_call q1 rfl rfl ?_
          simp (disch := first|omega|(simp only[pvl];omega)) only [↓pvd,pva,Pv.put,bin2,int2,binB2,un1,AV.flat,pvf,szOk,notStr,setCells,AV.one,resX,layC,layA,lay,List.map,List.replicate,List.length_replicate,pve,seval,reduceCtorEq,true_and]
          refine ⟨(k + 1, []), ?_, ⟨by dsimp only; omega, by simp, hnx⟩, by dsimp only; omega⟩
          dsimp only
          rw [tH_n, tK_n]
          rfl
        · rw [tH_c hac, tK_c hac]
          simp (disch := first|omega|(simp only[pvl];omega)) only [↓pvd,pva,Pv.put,bin2,int2,binB2,un1,AV.flat,pvf,szOk,notStr,setCells,AV.one,resX,layC,layA,lay,List.map,List.replicate,List.length_replicate,pve,seval,reduceCtorEq,hgi]
          refine awR_call q1 rfl rfl ?_
          simp (disch := first|omega|(simp only[pvl];omega)) only [↓pvd,pva,Pv.put,bin2,int2,binB2,un1,AV.flat,pvf,szOk,notStr,setCells,AV.one,resX,layC,layA,lay,List.map,List.replicate,List.length_replicate,pve,seval,reduceCtorEq,ids_map ln_pl,ren_map ln_pl]
          refine ⟨(k + 1, acc), ?_, ⟨by dsimp only; omega, by dsimp only; omega, hnx⟩, by dsimp only; omega⟩
          dsimp only
          rw [tH_c hac, tK_c hac]
          rfl
      · rw [if_neg hn] at q1
        simp only [if_neg hn] at herr hnx
        have hnl := List.length_pos_iff.2 hn
        have q2 := sread_run (swV rows[k]!) false ((k : Int) + 1) (by omega) (fun w hw => by
          have := List.all_eq_true.1 ho w hw
          unfold okW at this
          simp only [Bool.and_eq_true,decide_eq_true_eq] at this
          omega)
        have hwl1 : ((swV rows[k]!).map AV.str).length = (swV rows[k]!).length := by simp
        generalize swV rows[k]! = ws at *
        by_cases he : rdE ws = 0
        · simp only [if_pos he] at hnx
          rw [he, rdT_z] at q2
          obtain ⟨n1, f1, n2, f2, n3, f3, n4, f4, hv, -⟩ := isLn_V (rdL ws ((k : Int) + 1))
          rw [hv] at q2
          generalize rdL ws ((k : Int) + 1) = x at *
          have hm : acc.map lnV ++ [lnV x] = (acc ++ [x]).map lnV := by simp
          rw [hv] at hm
          have hm0 : [lnV x] = [x].map lnV := rfl
          rw [hv] at hm0
          have hml : acc.length + 1 = (acc ++ [x]).length := by simp
          obtain ⟨⟨xr, xk, a1, a2, a3, a4, a5, b1, b2, b3, b4, b5, b6⟩, xt, xi, xe, xa⟩ := x
          simp only at q2 hm hm0
          generalize xt.map (AV.int .i64) = s1 at *
          generalize xi.map (AV.int .i64) = s2 at *
          generalize xe.map (AV.int .i64) = s3 at *
          generalize xa.map (AV.int .u32) = s4 at *
          generalize (⟨⟨xr, xk, a1, a2, a3, a4, a5, b1, b2, b3, b4, b5, b6⟩, xt, xi, xe, xa⟩ : LnF) = x at *
          unfold lnA at q2 hm hm0
          generalize ws.map AV.str = row at *
          by_cases hac : acc = []
          · subst hac
            rw [tH_n, tK_n]
            simp (disch := first|omega|(simp only[pvl];omega)) only [↓pvd,pva,Pv.put,bin2,int2,binB2,un1,AV.flat,pvf,szOk,notStr,setCells,AV.one,resX,layC,layA,lay,List.map,List.replicate,List.length_replicate,pve,seval,reduceCtorEq,hgi]
            refine awR_call q1 rfl rfl ?_
            simp (disch := first|omega|(simp only[pvl];omega)) only [↓pvd,pva,Pv.put,bin2,int2,binB2,un1,AV.flat,pvf,szOk,notStr,setCells,AV.one,resX,layC,layA,lay,List.map,List.replicate,List.length_replicate,pve,seval,reduceCtorEq,hwl1]
            refine awR_call q2 rfl rfl ?_
            simp (disch := first|omega|(simp only[pvl];omega)) only [↓pvd,pva,Pv.put,bin2,int2,binB2,un1,AV.flat,pvf,szOk,notStr,setCells,AV.one,resX,layC,layA,lay,List.map,List.replicate,List.length_replicate,pve,seval,reduceCtorEq,true_and]
            refine ⟨(k + 1, [x]), ?_, ⟨by dsimp only; omega, by simp, hnx⟩, by dsimp only; omega⟩
            dsimp only
            rw [tH_c (by simp), tK_c (by simp), ← hm0]
            rfl
          · have hln : (acc.map lnV).length = acc.length := by simp
            rw [tH_c hac, tK_c hac]
            simp (disch := first|omega|(simp only[pvl];omega)) only [↓pvd,pva,Pv.put,bin2,int2,binB2,un1,AV.flat,pvf,szOk,notStr,setCells,AV.one,resX,layC,layA,lay,List.map,List.replicate,List.length_replicate,pve,seval,reduceCtorEq,hgi]
            refine awR_call q1 rfl rfl ?_
            simp (disch := first|omega|(simp only[pvl];omega)) only [↓pvd,pva,Pv.put,bin2,int2,binB2,un1,AV.flat,pvf,szOk,notStr,setCells,AV.one,resX,layC,layA,lay,List.map,List.replicate,List.length_replicate,pve,seval,reduceCtorEq,hwl1]
            refine awR_call q2 rfl rfl ?_
            simp (disch := first|omega|(simp only[pvl];omega)) only [↓pvd,pva,Pv.put,bin2,int2,binB2,un1,AV.flat,pvf,szOk,notStr,setCells,AV.one,resX,layC,layA,lay,List.map,List.replicate,List.length_replicate,pve,seval,reduceCtorEq,ids_map ln_pl,ren_map ln_pl,hm,hln]
            refine ⟨(k + 1, acc ++ [x]), ?_, ⟨by dsimp only; omega, by simp; omega, hnx⟩, by dsimp only; omega⟩
            dsimp only
            rw [tH_c (by simp), tK_c (by simp), hml]
            rfl
        · simp only [if_neg he] at herr
          rw [herr _ hrd hx rfl]
          unfold readXA
          rw [rdT_e he] at q2
          unfold lnA lnZ at q2
          generalize rdE ws = e at *
          generalize ws.map AV.str = row at *
          by_cases hac : acc = []
          · subst hac
            rw [tH_n, tK_n]
            simp (disch := first|omega|(simp only[pvl];omega)) only [↓pvd,pva,Pv.put,bin2,int2,binB2,un1,AV.flat,pvf,szOk,notStr,setCells,AV.one,resX,layC,layA,lay,List.map,List.replicate,List.length_replicate,pve,seval,reduceCtorEq,hgi]
            refine awR_call q1 rfl rfl ?_
            simp (disch := first|omega|(simp only[pvl];omega)) only [↓pvd,pva,Pv.put,bin2,int2,binB2,un1,AV.flat,pvf,szOk,notStr,setCells,AV.one,resX,layC,layA,lay,List.map,List.replicate,List.length_replicate,pve,seval,reduceCtorEq,hwl1]
            refine awR_call q2 rfl rfl ?_
            simp (disch := first|omega|(simp only[pvl];omega)) only [↓pvd,pva,Pv.put,bin2,int2,binB2,un1,AV.flat,pvf,szOk,notStr,setCells,AV.one,resX,layC,layA,lay,List.map,List.replicate,List.length_replicate,pve,seval,reduceCtorEq,he]
            refine EndsD_rq [] _ [some ⟨22, [.sl 0 [] true], true⟩, some ⟨27, [.int .i64 e], true⟩, some ⟨35, [.agg [.int .i64 0, .int .i64 0, .str [], .str [], .str [], .str [], .str [], .int .u64 0, .int .u32 0, .int .i64 0, .int .i64 0, .int .i64 0, .int .i64 0, .sl 0 [] true, .sl 0 [] true, .sl 0 [] true, .sl 0 [] true]], true⟩] rfl (by simp) ?_ ?_
            · unfold Tryd.c22
              simp (disch := first|omega|(simp only[pvl];omega)) only [↓pvd,pva,Pv.put,bin2,int2,binB2,un1,AV.flat,pvf,szOk,notStr,setCells,AV.one,resX,layC,layA,lay,List.map,List.replicate,List.length_replicate,pve,seval,reduceCtorEq,he]
              exact ⟨rfl, rfl⟩
            · simp (disch := first|omega|(simp only[pvl];omega)) only [↓pvd,pva,Pv.put,bin2,int2,binB2,un1,AV.flat,pvf,szOk,notStr,setCells,AV.one,resX,layC,layA,lay,List.map,List.replicate,List.length_replicate,pve,seval,reduceCtorEq,true_and]
              exact ⟨_,rfl,rfl,rfl⟩
          · rw [tH_c hac, tK_c hac]
            simp (disch := first|omega|(simp only[pvl];omega)) only [↓pvd,pva,Pv.put,bin2,int2,binB2,un1,AV.flat,pvf,szOk,notStr,setCells,AV.one,resX,layC,layA,lay,List.map,List.replicate,List.length_replicate,pve,seval,reduceCtorEq,hgi]
            refine awR_call q1 rfl rfl ?_
            simp (disch := first|omega|(simp only[pvl];omega)) only [↓pvd,pva,Pv.put,bin2,int2,binB2,un1,AV.flat,pvf,szOk,notStr,setCells,AV.one,resX,layC,layA,lay,List.map,List.replicate,List.length_replicate,pve,seval,reduceCtorEq,hwl1]
            refine awR_call q2 rfl rfl ?_
            simp (disch := first|omega|(simp only[pvl];omega)) only [↓pvd,pva,Pv.put,bin2,int2,binB2,un1,AV.flat,pvf,szOk,notStr,setCells,AV.one,resX,layC,layA,lay,List.map,List.replicate,List.length_replicate,pve,seval,reduceCtorEq,he]
            refine EndsD_rq [] _ [some ⟨22, [.sl 0 [] true], true⟩, some ⟨35, acc.map lnV, true⟩, some ⟨27, [.int .i64 e], true⟩, some ⟨35, [.agg [.int .i64 0, .int .i64 0, .str [], .str [], .str [], .str [], .str [], .int .u64 0, .int .u32 0, .int .i64 0, .int .i64 0, .int .i64 0, .int .i64 0, .sl 0 [] true, .sl 0 [] true, .sl 0 [] true, .sl 0 [] true]], true⟩] rfl (by simp) ?_ ?_
            · unfold Tryd.c22
              simp (disch := first|omega|(simp only[pvl];omega)) only [↓pvd,pva,Pv.put,bin2,int2,binB2,un1,AV.flat,pvf,szOk,notStr,setCells,AV.one,resX,layC,layA,lay,List.map,List.replicate,List.length_replicate,pve,seval,reduceCtorEq,he]
              exact ⟨rfl, rfl⟩
            · simp (disch := first|omega|(simp only[pvl];omega)) only [↓pvd,pva,Pv.put,bin2,int2,binB2,un1,AV.flat,pvf,szOk,notStr,setCells,AV.one,resX,layC,layA,lay,List.map,List.replicate,List.length_replicate,pve,seval,reduceCtorEq,true_and]
              exact ⟨_,rfl,rfl,rfl⟩
    · rw [if_neg ho] at q1
      simp only [if_neg ho] at herr
      rw [herr 20 hrd hx rfl]
      unfold readXA
      by_cases hac : acc = []
      · subst hac
        rw [tH_n, tK_n]
        simp (disch := first|omega|(simp only[pvl];omega)) only [↓pvd,pva,Pv.put,bin2,int2,binB2,un1,AV.flat,pvf,szOk,notStr,setCells,AV.one,resX,layC,layA,lay,List.map,List.replicate,List.length_replicate,pve,seval,reduceCtorEq,hgi]
        refine awR_call q1 rfl rfl ?_
        simp (disch := first|omega|(simp only[pvl];omega)) only [↓pvd,pva,Pv.put,bin2,int2,binB2,un1,AV.flat,pvf,szOk,notStr,setCells,AV.one,resX,layC,layA,lay,List.map,List.replicate,List.length_replicate,pve,seval,reduceCtorEq,true_and]
        refine EndsD_rq [] _ [some ⟨22, [.sl 0 [] true], true⟩, some ⟨27, [.int .i64 20], true⟩] rfl (by simp) ?_ ?_
        · unfold Tryd.c22
          simp (disch := first|omega|(simp only[pvl];omega)) only [↓pvd,pva,Pv.put,bin2,int2,binB2,un1,AV.flat,pvf,szOk,notStr,setCells,AV.one,resX,layC,layA,lay,List.map,List.replicate,List.length_replicate,pve,seval,reduceCtorEq,true_and]
          exact ⟨rfl, rfl⟩
        · simp (disch := first|omega|(simp only[pvl];omega)) only [↓pvd,pva,Pv.put,bin2,int2,binB2,un1,AV.flat,pvf,szOk,notStr,setCells,AV.one,resX,layC,layA,lay,List.map,List.replicate,List.length_replicate,pve,seval,reduceCtorEq,true_and]
          exact ⟨_,rfl,rfl,rfl⟩
      · rw [tH_c hac, tK_c hac]
        simp (disch := first|omega|(simp only[pvl];omega)) only [↓pvd,pva,Pv.put,bin2,int2,binB2,un1,AV.flat,pvf,szOk,notStr,setCells,AV.one,resX,layC,layA,lay,List.map,List.replicate,List.length_replicate,pve,seval,reduceCtorEq,hgi]
        refine awR_call q1 rfl rfl ?_
        simp (disch := first|omega|(simp only[pvl];omega)) only [↓pvd,pva,Pv.put,bin2,int2,binB2,un1,AV.flat,pvf,szOk,notStr,setCells,AV.one,resX,layC,layA,lay,List.map,List.replicate,List.length_replicate,pve,seval,reduceCtorEq,true_and]
        refine EndsD_rq [] _ [some ⟨22, [.sl 0 [] true], true⟩, some ⟨35, acc.map lnV, true⟩, some ⟨27, [.int .i64 20], true⟩] rfl (by simp) ?_ ?_
        · unfold Tryd.c22
          simp (disch := first|omega|(simp only[pvl];omega)) only [↓pvd,pva,Pv.put,bin2,int2,binB2,un1,AV.flat,pvf,szOk,notStr,setCells,AV.one,resX,layC,layA,lay,List.map,List.replicate,List.length_replicate,pve,seval,reduceCtorEq,true_and]
          exact ⟨rfl, rfl⟩
        · simp (disch := first|omega|(simp only[pvl];omega)) only [↓pvd,pva,Pv.put,bin2,int2,binB2,un1,AV.flat,pvf,szOk,notStr,setCells,AV.one,resX,layC,layA,lay,List.map,List.replicate,List.length_replicate,pve,seval,reduceCtorEq,true_and]
          exact ⟨_,rfl,rfl,rfl⟩
  · obtain rfl : k = rows.length := by omega
    rw [hrd]
    unfold readXA
    by_cases hac : acc = []
    · subst hac
      rw [tH_n, tK_n]
      simp (disch := first|omega|(simp only[pvl];omega)) only [↓pvd,pva,Pv.put,bin2,int2,binB2,un1,AV.flat,pvf,szOk,notStr,setCells,AV.one,resX,layC,layA,lay,List.map,List.replicate,List.length_replicate,pve,seval,reduceCtorEq,true_and]
      refine EndsD_rq [[.own 17 35], [.snap], [.snap]] _ [some ⟨22, [.sl 0 [] true], true⟩, some ⟨27, [.int .i64 0], true⟩] rfl (by simp) ?_ ?_
      · unfold Tryd.c22
        simp (disch := first|omega|(simp only[pvl];omega)) only [↓pvd,pva,Pv.put,bin2,int2,binB2,un1,AV.flat,pvf,szOk,notStr,setCells,AV.one,resX,layC,layA,lay,List.map,List.replicate,List.length_replicate,pve,seval,reduceCtorEq,true_and]
        exact ⟨rfl, rfl⟩
      · simp (disch := first|omega|(simp only[pvl];omega)) only [↓pvd,pva,Pv.put,bin2,int2,binB2,un1,AV.flat,pvf,szOk,notStr,setCells,AV.one,resX,layC,layA,lay,List.map,List.replicate,List.length_replicate,pve,seval,reduceCtorEq,true_and]
        exact ⟨_,rfl,rfl,rfl⟩
    · rw [tH_c hac, tK_c hac]
      simp (disch := first|omega|(simp only[pvl];omega)) only [↓pvd,pva,Pv.put,bin2,int2,binB2,un1,AV.flat,pvf,szOk,notStr,setCells,AV.one,resX,layC,layA,lay,List.map,List.replicate,List.length_replicate,pve,seval,reduceCtorEq,true_and]
      refine EndsD_rq [[.own 17 35], [.snap], [.snap]] _ [some ⟨22, [.vec 1 17 0 acc.length], true⟩, some ⟨35, acc.map lnV, true⟩, some ⟨27, [.int .i64 0], true⟩] rfl (by simp) ?_ ?_
      · unfold Tryd.c22
        simp (disch := first|omega|(simp only[pvl];omega)) only [↓pvd,pva,Pv.put,bin2,int2,binB2,un1,AV.flat,pvf,szOk,notStr,setCells,AV.one,resX,layC,layA,lay,List.map,List.replicate,List.length_replicate,pve,seval,reduceCtorEq,true_and]
        exact ⟨rfl, rfl⟩
      · simp (disch := first|omega|(simp only[pvl];omega)) only [↓pvd,pva,Pv.put,bin2,int2,binB2,un1,AV.flat,pvf,szOk,notStr,setCells,AV.one,resX,layC,layA,lay,List.map,List.replicate,List.length_replicate,pve,seval,reduceCtorEq,true_and,mapO_map ln_nr,rows_map ln_nr,List.length_map]
        exact ⟨_,rfl,rfl,rfl⟩
end Go.Proofs
set_option linter.unusedSimpArgs false
set_option linter.unusedVariables false
set_option maxHeartbeats 2000000
set_option maxRecDepth 20000
namespace Go.Proofs
open Go.Pv
open Nm (spl swV okW okB swF enO)
def areLn (vs : List AV) (ls : List LnF) : Prop := vs.length = ls.length ∧ ∀ (i : Nat) (v : AV) (x : LnF), vs[i]? = some v → ls[i]? = some x → isLn v x
theorem areLn_V (ls : List LnF) : areLn (ls.map lnV) ls := ⟨by simp, fun i v x hv hx => by
  rw [List.getElem?_map, hx] at hv
  cases hv
  exact isLn_V x⟩
instance : Inhabited LnF := ⟨lnfZ⟩
theorem areLn_at {vs : List AV} {ls : List LnF} (h : areLn vs ls) {k : Nat} (hk : k < ls.length) : ∃ v, vs[k]? = some v ∧ isLn v ls[k]! := by
  refine ⟨vs[k]'(by rw [h.1]; exact hk), List.getElem?_eq_getElem _, ?_⟩
  exact h.2 k _ _ (List.getElem?_eq_getElem (by rw [h.1]; exact hk)) (by rw [List.getElem?_eq_getElem hk, getElem!_pos ls k hk])
def nr (x : LnF) : LnF := { x with l := { x.l with row := 0 } }
def withRow (x : LnF) (r : Int) : LnF := { x with l := { x.l with row := r } }
theorem withRow_nr (x y : LnF) : withRow x y.l.row = y ↔ nr x = nr y := by
  obtain ⟨⟨r, k, a1, a2, a3, a4, a5, b1, b2, b3, b4, b5, b6⟩, t, im, ex, ad⟩ := x
  obtain ⟨⟨r', k', a1', a2', a3', a4', a5', b1', b2', b3', b4', b5', b6'⟩, t', im', ex', ad'⟩ := y
  simp [withRow, nr]
theorem map_next {α β : Type} [Inhabited α] [Inhabited β] {f : α → β} {l m : List α} {k : Nat} (h : (l.take k).map f = (m.take k).map f) (hl : k < l.length) (hm : k < m.length) (e : f l[k]! = f m[k]!) : (l.take (k + 1)).map f = (m.take (k + 1)).map f := by
  rw [take_snoc hl, take_snoc hm, List.map_append, List.map_append, h, List.map_singleton, List.map_singleton, e]
theorem map_ne {α β : Type} [Inhabited α] {f : α → β} {l m : List α} {k : Nat} (hl : k < l.length) (hm : k < m.length) (e : f l[k]! ≠ f m[k]!) : l.map f ≠ m.map f := fun h => e (by
  have := congrArg (fun x => x[k]?) h
  simp only [List.getElem?_map,List.getElem?_eq_getElem hl,List.getElem?_eq_getElem hm,Option.map_some,Option.some.injEq] at this
  rw [getElem!_pos l k hl, getElem!_pos m k hm]
  exact this)
theorem map_full {α β : Type} {f : α → β} {l m : List α} {k : Nat} (h : (l.take k).map f = (m.take k).map f) (hl : l.length ≤ k) (hm : m.length ≤ k) : l.map f = m.map f := by
  rwa [List.take_of_length_le hl, List.take_of_length_le hm] at h
set_option maxHeartbeats 8000000 in
theorem tsame_run {vs ws : List AV} {a b : List LnF} (n n' : Nat) (f f' : Bool) (hn : a = [] ∨ n = 17) (hn' : b = [] ∨ n' = 17) (hv : areLn vs a) (hw : areLn ws b) (ha : ∀ x ∈ a, lnS x) (hb : ∀ x ∈ b, lnS x) (hla : (a.length : Int) < 9223372036854775807) (hlb : (b.length : Int) < 9223372036854775807) :
    Run Tryd.prog 10 [.sl n vs f, .sl n' ws f'] (.bool (decide (a.map nr = b.map nr))) := by
  refine Tryd.run10 (by simp) ?_
  unfold Tryd.c10
  have hvl := hv.1
  have hwl := hw.1
  by_cases h : a.length = b.length
  case neg =>
    rw [decide_eq_false (fun e => h (by have := congrArg List.length e; simpa using this))]
    have : ¬ (vs.length : Int) = ws.length := by omega
    simp (disch := first|omega|(simp only[pvl];omega)) only [↓pvd,pva,Pv.put,bin2,int2,binB2,un1,AV.flat,pvf,szOk,notStr,setCells,AV.one,resX,layC,layA,lay,List.map,List.replicate,List.length_replicate,pve,seval,reduceCtorEq,this]
    (refine Ends_rq [] ?_; simp (disch := first|omega|(simp only[pvl];omega)) only [↓pvd,pva,Pv.put,bin2,int2,binB2,un1,AV.flat,pvf,szOk,notStr,setCells,AV.one,resX,layC,layA,lay,List.map,List.replicate,List.length_replicate,pve,seval,reduceCtorEq]; exact ⟨_,rfl,rfl,rfl⟩)
  have h' : (vs.length : Int) = ws.length := by omega
  simp (disch := first|omega|(simp only[pvl];omega)) only [↓pvd,pva,Pv.put,bin2,int2,binB2,un1,AV.flat,pvf,szOk,notStr,setCells,AV.one,resX,layC,layA,lay,List.map,List.replicate,List.length_replicate,pve,seval,reduceCtorEq,h',hwl,hvl]
  refine aw_loop (fun k : Nat => ⟨[(1, .sl n' ws f'), (12, .sl n vs f), (13, .int .i64 b.length), (14, .int .i64 k)], []⟩) (fun k => k ≤ a.length ∧ (a.take k).map nr = (b.take k).map nr) (fun k => a.length - k) 0 ?_ ⟨by omega, by simp⟩ ?_
  · simp (disch := first|omega|(simp only[pvl];omega)) only [↓pvd,pva,Pv.put,bin2,int2,binB2,un1,AV.flat,pvf,szOk,notStr,setCells,AV.one,resX,layC,layA,lay,List.map,List.replicate,List.length_replicate,pve,seval,reduceCtorEq,h',hwl,hvl]
    try rw [h]
  rintro k ⟨hk, hi⟩
  unfold Tryd.c10b0
  by_cases hx : k < a.length
  · obtain rfl : n = 17 := hn.resolve_left (by rintro rfl; simp at hx)
    obtain rfl : n' = 17 := hn'.resolve_left (by rintro rfl; simp at h; rw [h] at hx; simp at hx)
    obtain ⟨v, hg1, i1⟩ := areLn_at hv hx
    obtain ⟨w, hg2, i2⟩ := areLn_at hw (show k < b.length by omega)
    have hx2 : k < b.length := by omega
    have hxa := ha a[k]! (get_mem hx)
    have hxb := hb b[k]! (get_mem hx2)
    have hne := map_ne (f := nr) hx hx2
    have hnx := map_next (f := nr) hi hx hx2
    rw [← withRow_nr] at hnx
    rw [ne_eq, ← withRow_nr] at hne
    generalize a[k]! = x at *
    generalize b[k]! = y at *
    obtain ⟨n1, f1, n2, f2, n3, f3, n4, f4, rfl, c1, c2, c3, c4⟩ := i1
    obtain ⟨m1, g1, m2, g2, m3, g3, m4, g4, rfl, d1, d2, d3, d4⟩ := i2
    have q := ssame_run (x := withRow x y.l.row) (y := y) ⟨n1, f1, n2, f2, n3, f3, n4, f4, rfl, c1, c2, c3, c4⟩ ⟨m1, g1, m2, g2, m3, g3, m4, g4, rfl, d1, d2, d3, d4⟩ hxa hxb
    clear c1 c2 c3 c4 d1 d2 d3 d4 hxa hxb
    generalize hE : decide (withRow x y.l.row = y) = E at *
    unfold withRow at q
    simp only at q
    obtain ⟨⟨r, kd, a1, a2, a3, a4, a5, b1, b2, b3, b4, b5, b6⟩, t, im, ex, ad⟩ := x
    obtain ⟨⟨r', kd', a1', a2', a3', a4', a5', b1', b2', b3', b4', b5', b6'⟩, t', im', ex', ad'⟩ := y
    simp only at q hg1 hg2
    generalize t.map (AV.int .i64) = s1 at *
    generalize im.map (AV.int .i64) = s2 at *
    generalize ex.map (AV.int .i64) = s3 at *
    generalize ad.map (AV.int .u32) = s4 at *
    generalize t'.map (AV.int .i64) = s1' at *
    generalize im'.map (AV.int .i64) = s2' at *
    generalize ex'.map (AV.int .i64) = s3' at *
    generalize ad'.map (AV.int .u32) = s4' at *
    unfold lnA at q hg1 hg2
    simp (disch := first|omega|(simp only[pvl];omega)) only [↓pvd,pva,Pv.put,bin2,int2,binB2,un1,AV.flat,pvf,szOk,notStr,setCells,AV.one,resX,layC,layA,lay,List.map,List.replicate,List.length_replicate,pve,seval,reduceCtorEq,hg1,hg2,hwl,hvl]
    refine awR_callD q rfl rfl (fun _ => rfl) ?_
    cases E with
    | false =>
      rw [decide_eq_false (hne (by simpa using hE))]
      simp (disch := first|omega|(simp only[pvl];omega)) only [↓pvd,pva,Pv.put,bin2,int2,binB2,un1,AV.flat,pvf,szOk,notStr,setCells,AV.one,resX,layC,layA,lay,List.map,List.replicate,List.length_replicate,pve,seval,reduceCtorEq,true_and]
      (refine Ends_rq [] ?_; simp (disch := first|omega|(simp only[pvl];omega)) only [↓pvd,pva,Pv.put,bin2,int2,binB2,un1,AV.flat,pvf,szOk,notStr,setCells,AV.one,resX,layC,layA,lay,List.map,List.replicate,List.length_replicate,pve,seval,reduceCtorEq]; exact ⟨_,rfl,rfl,rfl⟩)
    | true =>
      simp (disch := first|omega|(simp only[pvl];omega)) only [↓pvd,pva,Pv.put,bin2,int2,binB2,un1,AV.flat,pvf,szOk,notStr,setCells,AV.one,resX,layC,layA,lay,List.map,List.replicate,List.length_replicate,pve,seval,reduceCtorEq,true_and]
      exact ⟨k + 1, rfl, ⟨hx, hnx (by simpa using hE)⟩, by omega⟩
  · rw [decide_eq_true (map_full hi (by omega) (by omega))]
    have hkb : ¬ (k : Int) < b.length := by omega
    simp (disch := first|omega|(simp only[pvl];omega)) only [↓pvd,pva,Pv.put,bin2,int2,binB2,un1,AV.flat,pvf,szOk,notStr,setCells,AV.one,resX,layC,layA,lay,List.map,List.replicate,List.length_replicate,pve,seval,reduceCtorEq,hkb]
    (refine Ends_rq [] ?_; simp (disch := first|omega|(simp only[pvl];omega)) only [↓pvd,pva,Pv.put,bin2,int2,binB2,un1,AV.flat,pvf,szOk,notStr,setCells,AV.one,resX,layC,layA,lay,List.map,List.replicate,List.length_replicate,pve,seval,reduceCtorEq]; exact ⟨_,rfl,rfl,rfl⟩)
end Go.Proofs
set_option linter.unusedSimpArgs false
set_option linter.unusedVariables false
set_option maxHeartbeats 2000000
set_option maxRecDepth 20000
namespace Go.Proofs
open Go.Pv
open Nm (spl swV okW okB swF enO wsF finF swV_ws)
noncomputable def rdR : Nat → List (List UInt8) → (Int × Int) ⊕ List LnF
  | _, [] => .inr []
  | i, r :: rs => if (swV r).all okW = true then
      if swV r = [] then rdR (i + 1) rs
      else if rdE (swV r) = 0 then match rdR (i + 1) rs with
        | .inl x => .inl x
        | .inr l => .inr (rdL (swV r) ((i : Int) + 1) :: l)
      else .inl ((i : Int) + 1, rdE (swV r))
    else .inl ((i : Int) + 1, 20)
theorem rdX_go (rows : List (List UInt8)) : ∀ (n k : Nat) (acc : List LnF), rows.length - k = n → k ≤ rows.length → rdX rows k = .inr acc → rdX rows rows.length = match rdR k (rows.drop k) with | .inl x => .inl x | .inr l => .inr (acc ++ l) := by
  intro n
  induction n with
  | zero =>
    intro k acc hn hk h
    obtain rfl : k = rows.length := by omega
    rw [List.drop_length, h]
    simp [rdR]
  | succ n ih =>
    intro k acc hn hk h
    have hx : k < rows.length := by omega
    have hd : rows.drop k = rows[k]! :: rows.drop (k + 1) := by rw [getElem!_pos rows k hx]; exact List.drop_eq_getElem_cons hx
    have hs := rdX_s rows k acc h
    have hr := rdX_err rows k acc
    rw [hd, rdR]
    unfold stepX at hs hr
    by_cases ho : (swV rows[k]!).all okW = true
    · simp only [if_pos ho] at hs hr ⊢
      by_cases hn0 : swV rows[k]! = []
      · simp only [if_pos hn0] at hs ⊢
        exact ih (k + 1) acc (by omega) (by omega) hs
      · simp only [if_neg hn0] at hs hr ⊢
        by_cases he : rdE (swV rows[k]!) = 0
        · simp only [if_pos he] at hs ⊢
          rw [ih (k + 1) _ (by omega) (by omega) hs]
          cases rdR (k + 1) (rows.drop (k + 1)) with
          | inl x => rfl
          | inr l => simp
        · simp only [if_neg he] at hr ⊢
          exact hr _ h hx rfl
    · simp only [if_neg ho] at hr ⊢
      exact hr 20 h hx rfl
theorem rdX_R (rows : List (List UInt8)) : rdX rows rows.length = rdR 0 rows := by
  rw [rdX_go rows rows.length 0 [] (by omega) (by omega) rfl, List.drop_zero]
  cases rdR 0 rows <;> simp
theorem readX_R (b : List UInt8) : readX b = if 20000 < b.length ∨ 400 < (spl b).length then .inl (0, 3) else rdR 0 (spl b) := by
  unfold readX
  rw [rdX_R]
theorem rdL_row (ws : List (List UInt8)) (r o : Int) (h : rdE ws = 0) : withRow (rdL ws r) o = rdL ws o := by
  unfold rdL liF
  repeat' split
  all_goals rfl
def boundX (i n : Nat) : (Int × Int) ⊕ List LnF → Prop
  | .inl (r, _) => (i : Int) < r ∧ r ≤ i + n
  | .inr l => l.length ≤ n ∧ ∀ x ∈ l, (i : Int) < x.l.row ∧ x.l.row ≤ i + n
theorem rdR_bound : ∀ (i : Nat) (rs : List (List UInt8)), boundX i rs.length (rdR i rs)
  | i, [] => ⟨by simp, by simp⟩
  | i, r :: rs => by
    have ih := rdR_bound (i + 1) rs
    rw [rdR]
    rw [List.length_cons]
    by_cases ho : (swV r).all okW = true
    · simp only [if_pos ho]
      by_cases hn : swV r = []
      · simp only [if_pos hn]
        cases hr : rdR (i + 1) rs with
        | inl x => rw [hr] at ih; simp only [boundX] at ih ⊢; omega
        | inr l =>
          rw [hr] at ih
          simp only [boundX] at ih ⊢
          exact ⟨by omega, fun x hx => by have := ih.2 x hx; omega⟩
      · simp only [if_neg hn]
        by_cases he : rdE (swV r) = 0
        · simp only [if_pos he]
          cases hr : rdR (i + 1) rs with
          | inl x => rw [hr] at ih; simp only [boundX] at ih ⊢; omega
          | inr l =>
            rw [hr] at ih
            simp only [boundX] at ih ⊢
            refine ⟨by simp; omega, fun x hx => ?_⟩
            rcases List.mem_cons.1 hx with rfl | hx
            · rw [rd_row he]; omega
            · have := ih.2 x hx; omega
        · simp only [if_neg he,boundX]; omega
    · simp only [if_neg ho,boundX]; omega
def goodX : (Int × Int) ⊕ List LnF → Prop
  | .inl (_, e) => e ≠ 0
  | .inr l => ∀ x ∈ l, lnB x ∧ ∃ ws r, rdE ws = 0 ∧ ws.all okW = true ∧ x = rdL ws r
theorem rdR_good : ∀ (i : Nat) (rs : List (List UInt8)), goodX (rdR i rs)
  | i, [] => by simp [rdR, goodX]
  | i, r :: rs => by
    have ih := rdR_good (i + 1) rs
    rw [rdR]
    by_cases ho : (swV r).all okW = true
    · simp only [if_pos ho]
      by_cases hn : swV r = []
      · simp only [if_pos hn]
        exact ih
      · simp only [if_neg hn]
        by_cases he : rdE (swV r) = 0
        · simp only [if_pos he]
          cases hr : rdR (i + 1) rs with
          | inl x => rw [hr] at ih; exact ih
          | inr l =>
            rw [hr] at ih
            simp only [goodX] at ih ⊢
            intro x hx
            rcases List.mem_cons.1 hx with rfl | hx
            · exact ⟨rd_B he, _, _, he, ho, rfl⟩
            · exact ih x hx
        · simp only [if_neg he,goodX]; exact he
    · simp only [if_neg ho,goodX]; decide
theorem wsF_rem (rem : List UInt8) : ∀ (r cur : List UInt8) (out : List (List UInt8)), wsF cur out (r ++ 32 :: 35 :: rem) = wsF cur out r
  | [], cur, out => by
    rw [show wsF cur out [] = finF cur out from rfl, List.nil_append, wsF, if_neg (by decide), if_pos (by decide), wsF, if_pos rfl]
    simp [finF]
  | c :: r, cur, out => by
    rw [List.cons_append, wsF, wsF, wsF_rem rem r, wsF_rem rem r]
theorem swV_rem (r rem : List UInt8) : swV (r ++ 32 :: 35 :: rem) = swV r := by rw [swV_ws, swV_ws, wsF_rem]
def blk (m : Nat) : List UInt8 := (List.replicate m [32, 9, 35, 10]).flatten
end Go.Proofs
set_option linter.unusedSimpArgs false
set_option linter.unusedVariables false
set_option maxHeartbeats 2000000
set_option maxRecDepth 20000
namespace Go.Proofs
open Go.Pv
open Nm (spl swV okW okB swF enO wsF finF swV_ws back_words okW_all spl_ends ends no10 ljoin_run)
set_option maxHeartbeats 4000000 in
theorem wordsR_run {v : AV} {x : LnF} (hv : isLn v x) (hB : lnB x) (hr : rtO x = true) : Run Tryd.prog 67 [v] (.own 1 9 ((wdF x).map .str)) := by
  have q0 := right_runS hv hB
  rw [hr] at q0
  obtain ⟨r1, r2, r3, r4⟩ := rt_range hr
  obtain ⟨l1, l2, l3⟩ := rt_lists hr
  obtain ⟨hs, hb, hd⟩ := hB
  have q1 := txl_run x.l.vlan (by omega) (by omega)
  have q2 := txl_run x.l.num (by omega) (by omega)
  have q6 := txl_run x.l.cost (by omega) (by omega)
  obtain ⟨n1, f1, n2, f2, n3, f3, n4, f4, rfl, c1, c2, c3, c4⟩ := hv
  have qt := plist_run x.t n1 f1 c1 (by omega) (fun n hn => by have := l1 n hn; omega)
  have qi := plist_run x.im n2 f2 c2 (by omega) (fun n hn => by have := l2 n hn; omega)
  have qe := plist_run x.ex n3 f3 c3 (by omega) (fun n hn => by have := l3 n hn; omega)
  have hk : x.l.kind = 1 ∨ x.l.kind = 2 ∨ x.l.kind = 3 ∨ x.l.kind = 4 ∨ x.l.kind = 5 ∨ x.l.kind = 6 ∨ x.l.kind = 7 ∨ x.l.kind = 8 ∨ x.l.kind = 9 := by omega
  rcases hk with hk | hk | hk | hk | hk | hk | hk | hk | hk
  · have e : wdF x = wd1 x := by unfold wdF; rw [hk]; rfl
    rw [e]
    have q3 := Mc.text_run x.l.mac (by omega) (by omega)
    unfold wd1
    obtain ⟨⟨r, k, a1, a2, a3, a4, a5, b1, b2, b3, b4, b5, b6⟩, t, im, ex, ad⟩ := x
    simp only at hk q0 q1 q2 q6 qt qi qe c1 q3
    obtain rfl := hk
    exact pwords1 r a1 a2 a3 a4 a5 b1 b2 b3 b4 b5 b6 n1 n2 n3 n4 _ _ _ _ f1 f2 f3 f4 _ _ q0 q1 q2 _ q3
  · have e : wdF x = wd2 x := by unfold wdF; rw [hk]; rfl
    rw [e]
    unfold wd2
    obtain ⟨⟨r, k, a1, a2, a3, a4, a5, b1, b2, b3, b4, b5, b6⟩, t, im, ex, ad⟩ := x
    simp only at hk q0 q1 q2 q6 qt qi qe c1
    obtain rfl := hk
    have q3 := pport_run r a1 a2 a3 a4 a5 b1 b2 b3 b4 b5 b6 n1 n2 n3 n4 (t.map (.int .i64)) (im.map (.int .i64)) (ex.map (.int .i64)) (ad.map (.int .u32)) f1 f2 f3 f4 2 _ [] [] _ _ _ rfl q1 q6 qt
    have hl : (t.map (AV.int .i64)).length = t.length := by simp
    rw [hl] at q3
    by_cases ht : t = []
    · subst ht
      simp only [List.length_nil,if_true] at q3
      rw [if_pos rfl]
      exact pwords2 r a1 a2 a3 a4 a5 b1 b2 b3 b4 b5 b6 n1 n2 n3 n4 _ _ _ _ f1 f2 f3 f4 _ _ _ q0 q1 q2 q3
    · have ht' : ¬ t.length = 0 := fun h => ht (List.eq_nil_of_length_eq_zero h)
      rw [if_neg ht'] at q3
      rw [if_neg ht]
      exact pwords2 r a1 a2 a3 a4 a5 b1 b2 b3 b4 b5 b6 n1 n2 n3 n4 _ _ _ _ f1 f2 f3 f4 _ _ _ q0 q1 q2 q3
  · have e : wdF x = wd3 x := by unfold wdF; rw [hk]; rfl
    rw [e]
    unfold wd3
    obtain ⟨⟨r, k, a1, a2, a3, a4, a5, b1, b2, b3, b4, b5, b6⟩, t, im, ex, ad⟩ := x
    simp only at hk q0 q1 q2 q6 qt qi qe c1
    obtain rfl := hk
    exact pwords3 r a1 a2 a3 a4 a5 b1 b2 b3 b4 b5 b6 n1 n2 n3 n4 _ _ _ _ f1 f2 f3 f4 _ _ q0 q1 q2
  · have e : wdF x = wd4 x := by unfold wdF; rw [hk]; rfl
    rw [e]
    have q3 := Mc.text_run x.l.mac (by omega) (by omega)
    unfold wd4
    obtain ⟨⟨r, k, a1, a2, a3, a4, a5, b1, b2, b3, b4, b5, b6⟩, t, im, ex, ad⟩ := x
    simp only at hk q0 q1 q2 q6 qt qi qe c1 q3
    obtain rfl := hk
    exact pwords4 r a1 a2 a3 a4 a5 b1 b2 b3 b4 b5 b6 n1 n2 n3 n4 _ _ _ _ f1 f2 f3 f4 _ _ q0 q1 q2 _ q3
  · have e : wdF x = wd5 x := by unfold wdF; rw [hk]; rfl
    rw [e]
    have q3 := text_run x.l.addr (by omega)
    unfold wd5
    obtain ⟨⟨r, k, a1, a2, a3, a4, a5, b1, b2, b3, b4, b5, b6⟩, t, im, ex, ad⟩ := x
    simp only at hk q0 q1 q2 q6 qt qi qe c1 q3
    obtain rfl := hk
    exact pwords5 r a1 a2 a3 a4 a5 b1 b2 b3 b4 b5 b6 n1 n2 n3 n4 _ _ _ _ f1 f2 f3 f4 _ _ q0 q1 q2 _ q3
  · have e : wdF x = wd6 x := by unfold wdF; rw [hk]; rfl
    rw [e]
    unfold wd6
    obtain ⟨⟨r, k, a1, a2, a3, a4, a5, b1, b2, b3, b4, b5, b6⟩, t, im, ex, ad⟩ := x
    simp only at hk q0 q1 q2 q6 qt qi qe c1
    obtain rfl := hk
    exact pwords6 r a1 a2 a3 a4 a5 b1 b2 b3 b4 b5 b6 n1 n2 n3 n4 _ _ _ _ f1 f2 f3 f4 _ _ q0 q1 q2
  · have e : wdF x = wd7 x := by unfold wdF; rw [hk]; rfl
    rw [e]
    have had : x.ad ≠ [] := fun h => by
      unfold rtO okF at hr
      rw [hk] at hr
      simp only [Int.reduceEq,if_false,if_true,ok7,h] at hr
      simp [adO, rsF] at hr
    obtain rfl : n4 = 1 := c4.resolve_left had
    have q3 := wul_run x.ad f4 (by omega) hd
    unfold wd7
    obtain ⟨⟨r, k, a1, a2, a3, a4, a5, b1, b2, b3, b4, b5, b6⟩, t, im, ex, ad⟩ := x
    simp only at hk q0 q1 q2 q6 qt qi qe c1 q3
    obtain rfl := hk
    exact pwords7 r a1 a2 a3 a4 a5 b1 b2 b3 b4 b5 b6 n1 n2 n3 1 _ _ _ _ f1 f2 f3 f4 _ _ q0 q1 q2 _ q3
  · have e : wdF x = wd8 x := by unfold wdF; rw [hk]; rfl
    rw [e]
    unfold wd8
    have q3 := qi
    have q4 := qe
    obtain ⟨⟨r, k, a1, a2, a3, a4, a5, b1, b2, b3, b4, b5, b6⟩, t, im, ex, ad⟩ := x
    simp only at hk q0 q1 q2 q6 qt qi qe c1 q3 q4
    obtain rfl := hk
    exact pwords8 r a1 a2 a3 a4 a5 b1 b2 b3 b4 b5 b6 n1 n2 n3 n4 _ _ _ _ f1 f2 f3 f4 _ _ q0 q1 q2 _ _ q3 q4
  · have e : wdF x = wd9 x := by unfold wdF; rw [hk]; rfl
    rw [e]
    have q3 := ptx_run x.l.addr x.l.bits (by omega)
    unfold wd9
    obtain ⟨⟨r, k, a1, a2, a3, a4, a5, b1, b2, b3, b4, b5, b6⟩, t, im, ex, ad⟩ := x
    simp only at hk q0 q1 q2 q6 qt qi qe c1 q3
    obtain rfl := hk
    exact pwords9 r a1 a2 a3 a4 a5 b1 b2 b3 b4 b5 b6 n1 n2 n3 n4 _ _ _ _ f1 f2 f3 f4 _ _ q0 q1 q2 _ q3
theorem lns_ln (l : List LnF) : (l.map lnV).length = l.length := by simp
theorem wdF_ne (x : LnF) : wdF x ≠ [] := by
  unfold wdF wd1 wd2 wd3 wd4 wd5 wd6 wd7 wd8 wd9
  repeat' split
  all_goals simp
theorem wdF_len (x : LnF) : (wdF x).length ≤ 7 := by
  unfold wdF wd1 wd2 wd3 wd4 wd5 wd6 wd7 wd8 wd9
  repeat' split
  all_goals simp
def jnL (x : LnF) : List UInt8 := Lib.join (wdF x) [32]
theorem pline_run {v : AV} {x : LnF} (hv : isLn v x) (hB : lnB x) (hr : rtO x = true) (hj : (jnL x).length ≤ 100000) : Run Tryd.prog 47 [v] (.tup [.str (jnL x), .int .i64 0]) := by
  have q1 := wordsR_run hv hB hr
  have hl := wdF_len x
  have hp := List.length_pos_iff.2 (wdF_ne x)
  have q2 := ljoin_run (wdF x) false (by omega) (by unfold jnL at hj; omega)
  obtain ⟨n1, f1, n2, f2, n3, f3, n4, f4, rfl, -⟩ := hv
  refine Tryd.run47 (by simp) ?_
  unfold Tryd.c47
  unfold jnL
  unfold lnA at q1 ⊢
  have hwl : ((wdF x).map AV.str).length = (wdF x).length := by simp
  generalize Lib.join (wdF x) [32] = J at *
  simp (disch := first|omega|(simp only[pvl];omega)) only [↓pvd,pva,Pv.put,bin2,int2,binB2,un1,AV.flat,pvf,szOk,notStr,setCells,AV.one,resX,layC,layA,lay,List.map,List.replicate,List.length_replicate,pve,seval,reduceCtorEq,true_and]
  refine awR_call q1 rfl rfl ?_
  simp (disch := first|omega|(simp only[pvl];omega)) only [↓pvd,pva,Pv.put,bin2,int2,binB2,un1,AV.flat,pvf,szOk,notStr,setCells,AV.one,resX,layC,layA,lay,List.map,List.replicate,List.length_replicate,pve,seval,reduceCtorEq,hwl]
  refine awR_callR (ms := []) q2 (by simp (disch := first|omega|(simp only[pvl];omega)) only [↓pvd,pva,Pv.put,bin2,int2,binB2,un1,AV.flat,pvf,szOk,notStr,setCells,AV.one,resX,layC,layA,lay,List.map,List.replicate,List.length_replicate,pve,seval,reduceCtorEq,mapO_map str_nr,rows_map str_nr,hwl]; rfl) (by simp (disch := first|omega|(simp only[pvl];omega)) only [↓pvd,pva,Pv.put,bin2,int2,binB2,un1,AV.flat,pvf,szOk,notStr,setCells,AV.one,resX,layC,layA,lay,List.map,List.replicate,List.length_replicate,pve,seval,reduceCtorEq,mapO_map str_nr,rows_map str_nr,hwl]) rfl ?_
  simp (disch := first|omega|(simp only[pvl];omega)) only [↓pvd,pva,Pv.put,bin2,int2,binB2,un1,AV.flat,pvf,szOk,notStr,setCells,AV.one,resX,layC,layA,lay,List.map,List.replicate,List.length_replicate,pve,seval,reduceCtorEq,true_and]
  (refine Ends_rq [] ?_; simp (disch := first|omega|(simp only[pvl];omega)) only [↓pvd,pva,Pv.put,bin2,int2,binB2,un1,AV.flat,pvf,szOk,notStr,setCells,AV.one,resX,layC,layA,lay,List.map,List.replicate,List.length_replicate,pve,seval,reduceCtorEq]; exact ⟨_,rfl,rfl,rfl⟩)
theorem pline_no {v : AV} {x : LnF} (hv : isLn v x) (hB : lnB x) (hr : rtO x = false) : Run Tryd.prog 47 [v] (.tup [.str [], .int .i64 2]) := by
  have q0 := right_runS hv hB
  rw [hr] at q0
  have q1 := pwords_no hv q0
  obtain ⟨n1, f1, n2, f2, n3, f3, n4, f4, rfl, -⟩ := hv
  refine Tryd.run47 (by simp) ?_
  unfold Tryd.c47
  unfold lnA at q1 ⊢
  simp (disch := first|omega|(simp only[pvl];omega)) only [↓pvd,pva,Pv.put,bin2,int2,binB2,un1,AV.flat,pvf,szOk,notStr,setCells,AV.one,resX,layC,layA,lay,List.map,List.replicate,List.length_replicate,pve,seval,reduceCtorEq,true_and]
  refine awR_call q1 rfl rfl ?_
  simp (disch := first|omega|(simp only[pvl];omega)) only [↓pvd,pva,Pv.put,bin2,int2,binB2,un1,AV.flat,pvf,szOk,notStr,setCells,AV.one,resX,layC,layA,lay,List.map,List.replicate,List.length_replicate,pve,seval,reduceCtorEq,true_and]
  (refine Ends_rq [] ?_; simp (disch := first|omega|(simp only[pvl];omega)) only [↓pvd,pva,Pv.put,bin2,int2,binB2,un1,AV.flat,pvf,szOk,notStr,setCells,AV.one,resX,layC,layA,lay,List.map,List.replicate,List.length_replicate,pve,seval,reduceCtorEq]; exact ⟨_,rfl,rfl,rfl⟩)
def ptx (l : List LnF) : List UInt8 := l.flatMap fun x => jnL x ++ [10]
theorem ptx_snoc {l : List LnF} {k : Nat} (h : k < l.length) : ptx (l.take (k + 1)) = ptx (l.take k) ++ (jnL l[k]! ++ [10]) := by
  rw [take_snoc h]
  simp [ptx]
theorem ptx_take (l : List LnF) (k : Nat) : (ptx (l.take k)).length ≤ (ptx l).length := by
  have : ptx l = ptx (l.take k) ++ ptx (l.drop k) := by unfold ptx; rw [← List.flatMap_append, List.take_append_drop]
  rw [this]
  simp
set_option maxHeartbeats 8000000 in
theorem ptext_run (l : List LnF) (f : Bool) (hB : ∀ x ∈ l, lnB x ∧ rtO x = true) (h4 : l.length ≤ 400) (hlen : (ptx l).length ≤ 20000) : Run Tryd.prog 20 [.sl 17 (l.map lnV) f] (.tup [.own 1 5 (bys (ptx l)), .int .i64 0]) := by
  refine Tryd.run20 (by simp) ?_
  unfold Tryd.c20
  have hll := lns_ln l
  simp (disch := first|omega|(simp only[pvl];omega)) only [↓pvd,pva,Pv.put,bin2,int2,binB2,un1,AV.flat,pvf,szOk,notStr,setCells,AV.one,resX,layC,layA,lay,List.map,List.replicate,List.length_replicate,pve,seval,reduceCtorEq,hll]
  refine aw_loop (fun k : Nat => ⟨[(0, .sl 17 (l.map lnV) f), (4, .vec 0 1 0 (ptx (l.take k)).length), (9, .sl 17 (l.map lnV) f), (10, .int .i64 l.length), (11, .int .i64 k)], [some ⟨5, bys (ptx (l.take k)), true⟩]⟩) (fun k => k ≤ l.length) (fun k => l.length - k) 0 ?_ (by omega) ?_
  · simp (disch := first|omega|(simp only[pvl];omega)) only [↓pvd,pva,Pv.put,bin2,int2,binB2,un1,AV.flat,pvf,szOk,notStr,setCells,AV.one,resX,layC,layA,lay,List.map,List.replicate,List.length_replicate,pve,seval,reduceCtorEq,hll]
    rfl
  intro k hk
  unfold Tryd.c20b0
  have htk := ptx_take l k
  have hbl : (bys (ptx (l.take k))).length = (ptx (l.take k)).length := by simp [bys]
  by_cases hx : k < l.length
  · have hg1 : (l.map lnV)[k]? = some (lnV l[k]!) := map_get hx
    have hsn := ptx_snoc hx
    have htk2 := ptx_take l (k + 1)
    rw [hsn] at htk2
    simp only [List.length_append,List.length_cons,List.length_nil] at htk2
    have hxB := hB l[k]! (get_mem hx)
    have q := pline_run (isLn_V l[k]!) hxB.1 hxB.2 (by omega)
    obtain ⟨n1, f1, n2, f2, n3, f3, n4, f4, hv, -⟩ := isLn_V l[k]!
    rw [hv] at q hg1
    have hap : List.map bv (ptx (l.take k) ++ jnL l[k]!) ++ [AV.int .u8 10] = bys (ptx (l.take (k + 1))) := by rw [hsn]; simp [bys, bv]
    have hnl : (ptx (l.take (k + 1))).length = (ptx (l.take k)).length + (jnL l[k]!).length + 1 := by rw [hsn]; simp; omega
    generalize jnL l[k]! = J at *
    generalize l[k]! = x at *
    obtain ⟨⟨xr, xk, a1, a2, a3, a4, a5, b1, b2, b3, b4, b5, b6⟩, xt, xi, xe, xa⟩ := x
    simp only at q hg1
    generalize xt.map (AV.int .i64) = s1 at *
    generalize xi.map (AV.int .i64) = s2 at *
    generalize xe.map (AV.int .i64) = s3 at *
    generalize xa.map (AV.int .u32) = s4 at *
    unfold lnA at q hg1
    obtain ⟨P1, hP1⟩ : ∃ P1, ptx (l.take (k + 1)) = P1 := ⟨_, rfl⟩
    rw [hP1] at hap hnl
    generalize ptx (l.take k) = P at *
    simp (disch := first|omega|(simp only[pvl];omega)) only [↓pvd,pva,Pv.put,bin2,int2,binB2,un1,AV.flat,pvf,szOk,notStr,setCells,AV.one,resX,layC,layA,lay,List.map,List.replicate,List.length_replicate,pve,seval,reduceCtorEq,hg1,hll]
    refine awR_call q rfl rfl ?_
    simp (disch := first|omega|(simp only[pvl];omega)) only [↓pvd,pva,Pv.put,bin2,int2,binB2,un1,AV.flat,pvf,szOk,notStr,setCells,AV.one,resX,layC,layA,lay,List.map,List.replicate,List.length_replicate,pve,seval,reduceCtorEq,hll,hap,ids_bys,ren_bys]
    exact ⟨k + 1, by rw [hP1, hnl]; rfl, hx, by omega⟩
  · obtain rfl : k = l.length := by omega
    rw [List.take_of_length_le (Nat.le_refl _)] at hbl htk ⊢
    generalize ptx l = P at *
    simp (disch := first|omega|(simp only[pvl];omega)) only [↓pvd,pva,Pv.put,bin2,int2,binB2,un1,AV.flat,pvf,szOk,notStr,setCells,AV.one,resX,layC,layA,lay,List.map,List.replicate,List.length_replicate,pve,seval,reduceCtorEq,hll]
    (refine Ends_rq [[.own 1 5], [.snap]] ?_; simp (disch := first|omega|(simp only[pvl];omega)) only [↓pvd,pva,Pv.put,bin2,int2,binB2,un1,AV.flat,pvf,szOk,notStr,setCells,AV.one,resX,layC,layA,lay,List.map,List.replicate,List.length_replicate,pve,seval,reduceCtorEq,mapO_bys,rows_bys,hbl]; exact ⟨_,rfl,rfl,rfl⟩)
end Go.Proofs
set_option linter.unusedSimpArgs false
set_option linter.unusedVariables false
set_option maxHeartbeats 2000000
set_option maxRecDepth 20000
namespace Go.Proofs
open Go.Pv
open Nm (spl swV okW okB swF enO wsF finF swV_ws)
theorem xq_err {b : List UInt8} {f : Bool} {r e : Int} (hb : b.length ≤ 100000) (h : readX b = .inl (r, e)) : Run Tryd.prog 12 [.sl 1 (bys b) f] (.tup [.sl 0 [] true, .int .i64 r, .int .i64 e]) := by
  have := run_frz (xread_run b f hb)
  rw [h] at this
  exact this
theorem xq_ok {b : List UInt8} {f : Bool} {l : List LnF} (hb : b.length ≤ 100000) (h : readX b = .inr l) : Run Tryd.prog 12 [.sl 1 (bys b) f] (.tup [.sl 17 (l.map lnV) false, .int .i64 0, .int .i64 0]) := by
  have := run_frz (xread_run b f hb)
  rw [h] at this
  exact this
theorem readX_big {b : List UInt8} (h : 20000 < b.length ∨ 400 < (spl b).length) : readX b = .inl (0, 3) := by rw [readX_R, if_pos h]
theorem readX_small {b : List UInt8} (h : ¬ (20000 < b.length ∨ 400 < (spl b).length)) : readX b = rdR 0 (spl b) := by rw [readX_R, if_neg h]
theorem good_S {l : List LnF} {x : (Int × Int) ⊕ List LnF} (h : goodX x) (e : x = .inr l) : ∀ y ∈ l, lnS y := by
  subst e
  intro y hy
  have := (h y hy).1.1
  exact ⟨by omega, by omega, by omega, by omega⟩
theorem bnd_len {i n : Nat} {x : (Int × Int) ⊕ List LnF} {l : List LnF} (h : boundX i n x) (e : x = .inr l) : l.length ≤ n := by subst e; exact h.1
end Go.Proofs
set_option linter.unusedSimpArgs false
set_option linter.unusedVariables false
set_option maxHeartbeats 2000000
set_option maxRecDepth 20000
namespace Go.Proofs
open Go.Pv
open Nm (spl swV okW okB swF enO wsF finF swV_ws back_words okW_all spl_ends ends no10)
theorem swV_join {ws : List (List UInt8)} (h : ws.all okW = true) : swV (Lib.join ws [32]) = ws := by
  have h1 := back_words ws [] (List.all_eq_true.1 h)
  rw [show 9 :: Lib.join ws [32] ++ 32 :: 35 :: [] = (9 :: Lib.join ws [32]) ++ 32 :: 35 :: [] from rfl, swV_rem, swV_ws, wsF, if_neg (by decide), if_pos (by decide)] at h1
  rw [swV_ws]
  exact h1
def sumW (ws : List (List UInt8)) : Nat := (ws.map fun w => w.length + 1).sum
theorem sumW_app (a b : List (List UInt8)) : sumW (a ++ b) = sumW a + sumW b := by simp [sumW]
theorem join_len (ws : List (List UInt8)) (h : ws ≠ []) : (Lib.join ws [32]).length + 1 = sumW ws := by
  cases ws with
  | nil => exact absurd rfl h
  | cons x r =>
    have ht : ∀ r : List (List UInt8), (Lib.joinTail [32] r).length = sumW r := by
      intro r
      induction r with
      | nil => rfl
      | cons y r ih =>
        rw [show Lib.joinTail [32] (y :: r) = 32 :: (y ++ Lib.joinTail [32] r) by simp [Lib.joinTail]]
        simp only [List.length_cons,List.length_append,ih,sumW,List.map_cons,List.sum_cons]
        omega
    rw [Lib.join_cons, List.length_append, ht]
    simp only [sumW,List.map_cons,List.sum_cons]
    omega
theorem finF_sum (cur : List UInt8) (out : List (List UInt8)) : sumW (finF cur out) ≤ sumW out + cur.length + 1 := by
  unfold finF
  split
  · omega
  · rw [sumW_app]
    simp [sumW]
    omega
theorem wsF_sum : ∀ (s cur : List UInt8) (out : List (List UInt8)), sumW (wsF cur out s) ≤ sumW out + cur.length + s.length + 1
  | [], cur, out => by
    rw [wsF]
    have := finF_sum cur out
    simp only [List.length_nil]
    omega
  | c :: s, cur, out => by
    have hf := finF_sum cur out
    rw [wsF, List.length_cons]
    by_cases h35 : c = 35
    · rw [if_pos h35]; omega
    · rw [if_neg h35]
      by_cases hb : c = 32 ∨ c = 9
      · rw [if_pos hb]
        have := wsF_sum s [] (finF cur out)
        simp only [List.length_nil] at this
        omega
      · rw [if_neg hb]
        have := wsF_sum s (cur ++ [c]) out
        simp only [List.length_append,List.length_cons,List.length_nil] at this
        omega
theorem join_row (r : List UInt8) (h : swV r ≠ []) : (Lib.join (swV r) [32]).length ≤ r.length := by
  have h1 := join_len (swV r) h
  have h2 := wsF_sum r [] []
  rw [← swV_ws] at h2
  simp only [List.length_nil,sumW,List.map_nil,List.sum_nil] at h2 h1
  omega
def sumR (rs : List (List UInt8)) : Nat := (rs.map fun r => r.length + 1).sum
theorem spl_sum : ∀ s : List UInt8, sumR (spl s) ≤ s.length + 1
  | [] => by simp [spl, sumR]
  | c :: s => by
    have ih := spl_sum s
    rw [spl]
    by_cases hc : c = 10
    · rw [if_pos hc]
      simp only [sumR,List.map_cons,List.sum_cons,List.length_nil,List.length_cons] at ih ⊢
      omega
    · rw [if_neg hc]
      cases h : spl s with
      | nil => simp [sumR]
      | cons x y =>
        rw [h] at ih
        simp only [sumR,List.map_cons,List.sum_cons,List.length_cons] at ih ⊢
        omega
def wasR (x : LnF) : Prop := ∃ ws r, rdE ws = 0 ∧ ws.all okW = true ∧ x = rdL ws r
theorem wasR_B {x : LnF} (h : wasR x) : lnB x ∧ rtO x = true := by
  obtain ⟨ws, r, he, hw, rfl⟩ := h
  refine ⟨rd_B he, ?_⟩
  have := rd_right (r := r) he (rdL ws r).l.row
  exact this
theorem good_R {l : List LnF} {x : (Int × Int) ⊕ List LnF} (h : goodX x) (e : x = .inr l) : ∀ y ∈ l, wasR y := by
  subst e
  intro y hy
  obtain ⟨-, ws, r, h1, h2, h3⟩ := h y hy
  exact ⟨ws, r, h1, h2, h3⟩
theorem ptx_len : ∀ (i : Nat) (rs : List (List UInt8)) (l : List LnF), rdR i rs = .inr l → (ptx l).length ≤ sumR rs
  | _, [], l, h => by
    rw [rdR] at h
    cases h
    simp [ptx]
  | i, r :: rs, l, h => by
    rw [rdR] at h
    have hs : sumR (r :: rs) = r.length + 1 + sumR rs := by simp [sumR]
    by_cases ho : (swV r).all okW = true
    · simp only [if_pos ho] at h
      by_cases hn : swV r = []
      · simp only [if_pos hn] at h
        have := ptx_len (i + 1) rs l h
        omega
      · simp only [if_neg hn] at h
        by_cases he : rdE (swV r) = 0
        · simp only [if_pos he] at h
          cases hr : rdR (i + 1) rs with
          | inl x => rw [hr] at h; cases h
          | inr l' =>
            rw [hr] at h
            simp only [Sum.inr.injEq] at h
            subst h
            have ih := ptx_len (i + 1) rs l' hr
            obtain ⟨cw, c1, -, -, -, -, c6⟩ := can he ho
            have hj := join_row r hn
            have e : ptx (rdL (swV r) ((i : Int) + 1) :: l') = jnL (rdL (swV r) ((i : Int) + 1)) ++ [10] ++ ptx l' := by simp [ptx]
            rw [e]
            unfold jnL
            rw [c1]
            simp only [List.length_append,List.length_cons,List.length_nil]
            omega
        · simp only [if_neg he] at h; cases h
    · simp only [if_neg ho] at h; cases h
theorem okW_no10 {w : List UInt8} (h : okW w = true) : ∀ c ∈ w, c ≠ 10 := by
  intro c hc
  have := (okW_all h).1
  have := List.all_eq_true.1 this c hc
  unfold okB at this
  simp only [decide_eq_true_eq] at this
  intro e
  rw [e] at this
  exact absurd this.1 (by decide)
theorem join_no10 {ws : List (List UInt8)} (h : ws.all okW = true) : ∀ c ∈ Lib.join ws [32], c ≠ 10 := by
  intro c hc
  have ht : ∀ r : List (List UInt8), r.all okW = true → ∀ c ∈ Lib.joinTail [32] r, c ≠ 10 := by
    intro r
    induction r with
    | nil => intro _ c hc; cases hc
    | cons y r ih =>
      intro hy c hc
      rw [List.all_cons, Bool.and_eq_true] at hy
      rw [show Lib.joinTail [32] (y :: r) = 32 :: (y ++ Lib.joinTail [32] r) by simp [Lib.joinTail]] at hc
      rcases List.mem_cons.1 hc with rfl | hc
      · decide
      · rcases List.mem_append.1 hc with hc | hc
        · exact okW_no10 hy.1 c hc
        · exact ih hy.2 c hc
  cases ws with
  | nil => cases hc
  | cons x r =>
    rw [List.all_cons, Bool.and_eq_true] at h
    rw [Lib.join_cons] at hc
    rcases List.mem_append.1 hc with hc | hc
    · exact okW_no10 h.1 c hc
    · exact ht r h.2 c hc
theorem wasR_can {x : LnF} (h : wasR x) : rdE (wdF x) = 0 ∧ (∀ o, nr (rdL (wdF x) o) = nr x) ∧ (∀ o, wdF (rdL (wdF x) o) = wdF x) ∧ (wdF x).all okW = true := by
  obtain ⟨ws, r, he, hw, rfl⟩ := h
  obtain ⟨cw, c1, c2, c3, c4, -, -⟩ := can he hw
  rw [c1 r]
  refine ⟨c2, fun o => ?_, fun o => ?_, c4⟩
  · rw [c3, ← rdL_row ws r o he]
    rfl
  · rw [c3, c1]
theorem spl_ptx (l : List LnF) (h : ∀ x ∈ l, wasR x) : spl (ptx l) = l.map jnL := by
  have e : ptx l = ends (l.map jnL) ++ [] := by
    unfold ptx ends
    rw [List.flatMap_map, List.append_nil]
  rw [e, spl_ends]
  · simp [spl]
  · intro r hr
    obtain ⟨x, hx, rfl⟩ := List.mem_map.1 hr
    exact join_no10 (wasR_can (h x hx)).2.2.2
theorem rdR_ptx : ∀ (i : Nat) (l : List LnF), (∀ x ∈ l, wasR x) → ∃ m, rdR i (l.map jnL) = .inr m ∧ m.map nr = l.map nr ∧ ptx m = ptx l
  | _, [], _ => ⟨[], rfl, rfl, rfl⟩
  | i, x :: l, h => by
    obtain ⟨m, h1, h2, h3⟩ := rdR_ptx (i + 1) l fun y hy => h y (by simp [hy])
    obtain ⟨c1, c2, c3, c4⟩ := wasR_can (h x (by simp))
    have hs : swV (jnL x) = wdF x := swV_join c4
    refine ⟨rdL (wdF x) ((i : Int) + 1) :: m, ?_, ?_, ?_⟩
    · rw [List.map_cons, rdR, hs, if_pos c4, if_neg (wdF_ne x), if_pos c1, h1]
    · rw [List.map_cons, List.map_cons, h2, c2]
    · have e : ∀ y (k : List LnF), ptx (y :: k) = jnL y ++ [10] ++ ptx k := fun y k => by simp [ptx]
      rw [e, e, h3]
      unfold jnL
      rw [c3]
theorem ptx_ok (l : List LnF) (h : ∀ x ∈ l, wasR x) (h4 : l.length ≤ 400) (hlen : (ptx l).length ≤ 20000) : ∃ m, readX (ptx l) = .inr m ∧ m.map nr = l.map nr ∧ ptx m = ptx l := by
  obtain ⟨m, h1, h2, h3⟩ := rdR_ptx 0 l h
  refine ⟨m, ?_, h2, h3⟩
  rw [readX_small (by rw [spl_ptx l h, List.length_map]; omega), spl_ptx l h]
  exact h1
theorem rtV : rtO ⟨⟨0, 5, [97], [], [], [], [], 0, 167772161, 0, 0, 0, 0⟩, [], [], [], []⟩ = true := by decide
theorem works13 : Run Tryd.prog 19 [] (.bool true) := by
  have q1 := pline_run (isLn_V ⟨⟨0, 5, [97], [], [], [], [], 0, 167772161, 0, 0, 0, 0⟩, [], [], [], []⟩) ⟨by simp only [List.length_cons,List.length_nil]; omega, by simp only; omega, by simp⟩ rtV (by decide)
  have q2 := pline_no (isLn_V lnfZ) ⟨by simp only [lnfZ,lnZ,List.length_nil]; omega, by simp only [lnfZ,lnZ]; omega, by simp [lnfZ]⟩ (by decide)
  rw [show jnL ⟨⟨0, 5, [97], [], [], [], [], 0, 167772161, 0, 0, 0, 0⟩, [], [], [], []⟩ = [118, 116, 101, 112, 32, 97, 32, 49, 48, 46, 48, 46, 48, 46, 49] by decide] at q1
  rw [show lnV ⟨⟨0, 5, [97], [], [], [], [], 0, 167772161, 0, 0, 0, 0⟩, [], [], [], []⟩ = lnA ⟨0, 5, [97], [], [], [], [], 0, 167772161, 0, 0, 0, 0⟩ (.sl 0 [] true) (.sl 0 [] true) (.sl 0 [] true) (.sl 0 [] true) from rfl] at q1
  rw [show lnV lnfZ = lnA lnZ (.sl 0 [] true) (.sl 0 [] true) (.sl 0 [] true) (.sl 0 [] true) from rfl] at q2
  simp only [lnA,lnZ] at q1 q2
  refine Tryd.run19 (by simp) ?_
  unfold Tryd.c19
  simp (disch := first|omega|(simp only[pvl];omega)) only [↓pvd,pva,Pv.put,bin2,int2,binB2,un1,AV.flat,pvf,szOk,notStr,setCells,AV.one,resX,layC,layA,lay,List.map,List.replicate,List.length_replicate,pve,seval,reduceCtorEq,true_and]
  refine awR_call q1 rfl rfl ?_
  simp (disch := first|omega|(simp only[pvl];omega)) only [↓pvd,pva,Pv.put,bin2,int2,binB2,un1,AV.flat,pvf,szOk,notStr,setCells,AV.one,resX,layC,layA,lay,List.map,List.replicate,List.length_replicate,pve,seval,reduceCtorEq,true_and]
  refine awR_call q2 rfl rfl ?_
  simp (disch := first|omega|(simp only[pvl];omega)) only [↓pvd,pva,Pv.put,bin2,int2,binB2,un1,AV.flat,pvf,szOk,notStr,setCells,AV.one,resX,layC,layA,lay,List.map,List.replicate,List.length_replicate,pve,seval,reduceCtorEq,true_and]
  (refine Ends_rq [] ?_; simp (disch := first|omega|(simp only[pvl];omega)) only [↓pvd,pva,Pv.put,bin2,int2,binB2,un1,AV.flat,pvf,szOk,notStr,setCells,AV.one,resX,layC,layA,lay,List.map,List.replicate,List.length_replicate,pve,seval,reduceCtorEq]; exact ⟨_,rfl,rfl,rfl⟩)
set_option maxHeartbeats 16000000 in
theorem plainOnce_run (b : List UInt8) (hlb : b.length ≤ maxLen) : Run Tryd.prog 7 [.sl 1 (bys b) false] (.bool true) := by
  have q0 := works13
  have hlb2 : (b.length : Int) ≤ 9223372036854775807 := by simp only [maxLen] at hlb; omega
  have hbl : (bys b).length = b.length := by simp [bys]
  clear hlb
  refine Tryd.run7 (by simp) ?_
  unfold Tryd.c7
  by_cases hg : b.length ≤ 3000
  case neg =>
    have : 3000 < b.length := by omega
    repeat' (first | (simp (disch := first|omega|(simp only[pvl];omega)) only [↓pvd,pva,Pv.put,bin2,int2,binB2,un1,AV.flat,pvf,szOk,notStr,setCells,AV.one,resX,layC,layA,lay,List.map,List.replicate,List.length_replicate,pve,seval,reduceCtorEq,hbl,still]) | with_reducible refine condP_d (fun _ => ?_) (fun _ => ?_) | with_reducible refine guardP_d0 (fun _ => ?_) (fun _ => ?_) | with_reducible refine guardP_d1 (fun _ => ?_) (fun _ => ?_) | with_reducible refine condP_any ?_ ?_ | refine awR_call q0 rfl rfl ?_ | refine awR_callD q0 rfl rfl (fun _ => rfl) ?_ | (refine Ends_rq [] ?_; simp (disch := first|omega|(simp only[pvl];omega)) only [↓pvd,pva,Pv.put,bin2,int2,binB2,un1,AV.flat,pvf,szOk,notStr,setCells,AV.one,resX,layC,layA,lay,List.map,List.replicate,List.length_replicate,pve,seval,reduceCtorEq]; exact ⟨_,rfl,rfl,rfl⟩))
  rcases hx : readX b with ⟨r, e⟩ | l
  · have q1 := xq_err (f := false) (by omega) hx
    have he : e ≠ 0 := by
      by_cases hb : 20000 < b.length ∨ 400 < (spl b).length
      · rw [readX_big hb] at hx; cases hx; decide
      · rw [readX_small hb] at hx
        have := rdR_good 0 (spl b)
        rw [hx] at this
        exact this
    repeat' (first | (simp (disch := first|omega|(simp only[pvl];omega)) only [↓pvd,pva,Pv.put,bin2,int2,binB2,un1,AV.flat,pvf,szOk,notStr,setCells,AV.one,resX,layC,layA,lay,List.map,List.replicate,List.length_replicate,pve,seval,reduceCtorEq,hbl,he,still]) | with_reducible refine condP_d (fun _ => ?_) (fun _ => ?_) | with_reducible refine guardP_d0 (fun _ => ?_) (fun _ => ?_) | with_reducible refine guardP_d1 (fun _ => ?_) (fun _ => ?_) | with_reducible refine condP_any ?_ ?_ | refine awR_call q0 rfl rfl ?_ | refine awR_callD q0 rfl rfl (fun _ => rfl) ?_ | refine awR_call q1 rfl rfl ?_ | refine awR_callD q1 rfl rfl (fun _ => rfl) ?_ | (refine Ends_rq [] ?_; simp (disch := first|omega|(simp only[pvl];omega)) only [↓pvd,pva,Pv.put,bin2,int2,binB2,un1,AV.flat,pvf,szOk,notStr,setCells,AV.one,resX,layC,layA,lay,List.map,List.replicate,List.length_replicate,pve,seval,reduceCtorEq]; exact ⟨_,rfl,rfl,rfl⟩))
  · have q1 := xq_ok (f := false) (by omega) hx
    have hsm : ¬ (20000 < b.length ∨ 400 < (spl b).length) := fun hb => by rw [readX_big hb] at hx; cases hx
    rw [readX_small hsm] at hx
    have hR := good_R (rdR_good 0 (spl b)) hx
    have h4 := bnd_len (rdR_bound 0 (spl b)) hx
    have hpl := ptx_len 0 (spl b) l hx
    have hps := spl_sum b
    have hlS := good_S (rdR_good 0 (spl b)) hx
    obtain ⟨m, m1, m2, m3⟩ := ptx_ok l hR (by omega) (by omega)
    have hml : m.length = l.length := by have := congrArg List.length m2; simpa using this
    have hsm2 : ¬ (20000 < (ptx l).length ∨ 400 < (spl (ptx l)).length) := fun hb => by rw [readX_big hb] at m1; cases m1
    have m1' := m1
    rw [readX_small hsm2] at m1'
    have hmR := good_R (rdR_good 0 (spl (ptx l))) m1'
    have hmS := good_S (rdR_good 0 (spl (ptx l))) m1'
    have q2 := ptext_run l false (fun x hx => wasR_B (hR x hx)) (by omega) (by omega)
    have q3 := xq_ok (f := false) (by omega) m1
    have q4 := ptext_run m false (fun x hx => wasR_B (hmR x hx)) (by omega) (by rw [m3]; omega)
    rw [m3] at q4
    have q5 := tsame_run (vs := l.map lnV) (ws := m.map lnV) 17 17 false false (.inr rfl) (.inr rfl) (areLn_V l) (areLn_V m) hlS hmS (by omega) (by omega)
    rw [decide_eq_true m2.symm] at q5
    have hPl : (bys (ptx l)).length = (ptx l).length := by simp [bys]
    generalize ptx l = P at *
    simp (disch := first|omega|(simp only[pvl];omega)) only [↓pvd,pva,Pv.put,bin2,int2,binB2,un1,AV.flat,pvf,szOk,notStr,setCells,AV.one,resX,layC,layA,lay,List.map,List.replicate,List.length_replicate,pve,seval,reduceCtorEq,hbl]
    refine awR_call q0 rfl rfl ?_
    simp (disch := first|omega|(simp only[pvl];omega)) only [↓pvd,pva,Pv.put,bin2,int2,binB2,un1,AV.flat,pvf,szOk,notStr,setCells,AV.one,resX,layC,layA,lay,List.map,List.replicate,List.length_replicate,pve,seval,reduceCtorEq,hbl]
    refine awR_call q1 rfl rfl ?_
    simp (disch := first|omega|(simp only[pvl];omega)) only [↓pvd,pva,Pv.put,bin2,int2,binB2,un1,AV.flat,pvf,szOk,notStr,setCells,AV.one,resX,layC,layA,lay,List.map,List.replicate,List.length_replicate,pve,seval,reduceCtorEq,true_and]
    refine awR_call q2 rfl rfl ?_
    simp (disch := first|omega|(simp only[pvl];omega)) only [↓pvd,pva,Pv.put,bin2,int2,binB2,un1,AV.flat,pvf,szOk,notStr,setCells,AV.one,resX,layC,layA,lay,List.map,List.replicate,List.length_replicate,pve,seval,reduceCtorEq,hPl]
    refine awR_callS (ms := []) q3 (by simp (disch := first|omega|(simp only[pvl];omega)) only [↓pvd,pva,Pv.put,bin2,int2,binB2,un1,AV.flat,pvf,szOk,notStr,setCells,AV.one,resX,layC,layA,lay,List.map,List.replicate,List.length_replicate,pve,seval,reduceCtorEq,mapO_bys,rows_bys,hPl]; rfl) (by simp (disch := first|omega|(simp only[pvl];omega)) only [↓pvd,pva,Pv.put,bin2,int2,binB2,un1,AV.flat,pvf,szOk,notStr,setCells,AV.one,resX,layC,layA,lay,List.map,List.replicate,List.length_replicate,pve,seval,reduceCtorEq,mapO_bys,rows_bys,hPl]) ?_
    simp (disch := first|omega|(simp only[pvl];omega)) only [↓pvd,pva,Pv.put,bin2,int2,binB2,un1,AV.flat,pvf,szOk,notStr,setCells,AV.one,resX,layC,layA,lay,List.map,List.replicate,List.length_replicate,pve,seval,reduceCtorEq,still]
    refine awR_call q4 rfl rfl ?_
    simp (disch := first|omega|(simp only[pvl];omega)) only [↓pvd,pva,Pv.put,bin2,int2,binB2,un1,AV.flat,pvf,szOk,notStr,setCells,AV.one,resX,layC,layA,lay,List.map,List.replicate,List.length_replicate,pve,seval,reduceCtorEq,hPl]
    refine awR_call q5 rfl rfl ?_
    simp (disch := first|omega|(simp only[pvl];omega)) only [↓pvd,pva,Pv.put,bin2,int2,binB2,un1,AV.flat,pvf,szOk,notStr,setCells,AV.one,resX,layC,layA,lay,List.map,List.replicate,List.length_replicate,pve,seval,reduceCtorEq,hPl,toBytes_bys]
    (refine Ends_rq [] ?_; simp (disch := first|omega|(simp only[pvl];omega)) only [↓pvd,pva,Pv.put,bin2,int2,binB2,un1,AV.flat,pvf,szOk,notStr,setCells,AV.one,resX,layC,layA,lay,List.map,List.replicate,List.length_replicate,pve,seval,reduceCtorEq]; exact ⟨_,rfl,rfl,rfl⟩)
theorem plainOnce_all : ∀ xs, DatL Tryd.prog 6 Tryd.f7.params.toList xs → Run Tryd.prog 7 xs (.bool true) := by
  intro xs h
  rw [show Tryd.f7.params.toList = [26] from rfl] at h
  obtain ⟨y1, rfl, h1⟩ := datL1 h
  obtain ⟨b, rfl, hb⟩ := dat_bys Tryd.underlying26 Tryd.underlying5 (by kernel_rfl) h1
  exact plainOnce_run b hb
end Go.Proofs
