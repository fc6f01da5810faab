/- The proofs of what the functions of this seat do. -/
import Derived.Test.YtidlldckhipoaaaPr2
set_option linter.unusedSimpArgs false
set_option linter.unusedVariables false
set_option maxHeartbeats 2000000
set_option maxRecDepth 20000
namespace Go.Proofs
open Go.Pv Go.Pv.Hq
theorem cn_nr (c : Cn) : (cnA c).nr1 = true := rfl
theorem cn_pl (c : Cn) : (cnA c).pl = true := rfl
set_option maxHeartbeats 4000000 in
theorem told_run (l : List Cn) (f : Bool) (hl : l.length ≤ 100000) : Run Try.prog 13 [.sl 5 (l.map cnA) f] (.own 5 63 (l.map cnA)) := by
  refine Try.run13 (by simp) ?_
  unfold Try.c13
  have hlm : (l.map cnA).length = l.length := List.length_map _
  simp (disch := first|omega|(simp only[pvl];omega)) only [↓pvd,pva,Pv.put,bin2,int2,binB2,un1,AV.flat,pvf,szOk,notStr,setCells,AV.one,resX,layC,layA,lay,List.map,List.replicate,List.length_replicate,pve,seval,reduceCtorEq,hlm]
  refine aw_loop (fun k : Nat => ⟨[(3, .vec 0 5 0 k), (6, .sl 5 (l.map cnA) f), (7, .int .i64 l.length), (8, .int .i64 k)], [some ⟨63, (l.take k).map cnA, true⟩]⟩) (fun k => k ≤ l.length) (fun k => l.length - k) 0 ?_ (by omega) ?_
  · simp (disch := first | omega | (simp only [pvl] at *; omega)) only [↓pvd,pva,Pv.put,bin2,int2,binB2,un1,AV.flat,pvf,szOk,notStr,setCells,AV.one,resX,layC,layA,lay,List.map,List.replicate,List.length_replicate,pve,seval,reduceCtorEq]
    try rfl
  intro k hk
  unfold Try.c13b0
  by_cases hx : k < l.length
  · have hgi : (l.map cnA)[k]? = some (.agg [.int .i64 l[k]!.p, .int .i64 l[k]!.f, .int .i64 l[k]!.b, .int .i64 l[k]!.s, .int .i64 l[k]!.e]) := map_get hx
    have hm : (l.take k).map cnA ++ [AV.agg [.int .i64 l[k]!.p, .int .i64 l[k]!.f, .int .i64 l[k]!.b, .int .i64 l[k]!.s, .int .i64 l[k]!.e]] = (l.take (k + 1)).map cnA := by rw [take_snoc hx]; simp [cnA]
    have hln : ((l.take k).map cnA).length = k := by simp; omega
    have hpl1 : ((l.take (k + 1)).map cnA).all AV.pl = true := pl_map cn_pl
    generalize l[k]! = c at *
    generalize hR1 : (l.take (k + 1)).map cnA = R1 at *
    generalize (l.take k).map cnA = R0 at *
    generalize l.map cnA = R at *
    simp (disch := first|omega|(simp only[pvl];omega)) only [↓pvd,pva,Pv.put,bin2,int2,binB2,un1,AV.flat,pvf,szOk,notStr,setCells,AV.one,resX,layC,layA,lay,List.map,List.replicate,List.length_replicate,pve,seval,reduceCtorEq,hgi,hlm,hln,hm,ids_all hpl1,ren_all hpl1]
    exact ⟨k + 1, by rw [hR1]; rfl, by omega, by omega⟩
  · obtain rfl : k = l.length := by omega
    simp (disch := first|omega|(simp only[pvl];omega)) only [↓pvd,pva,Pv.put,bin2,int2,binB2,un1,AV.flat,pvf,szOk,notStr,setCells,AV.one,resX,layC,layA,lay,List.map,List.replicate,List.length_replicate,pve,seval,reduceCtorEq,hlm,List.take_length]
    (refine Ends_rq [[.own 5 63]] ?_; simp (disch := first|omega|(simp only[pvl];omega)) only [↓pvd,pva,Pv.put,bin2,int2,binB2,un1,AV.flat,pvf,szOk,notStr,setCells,AV.one,resX,layC,layA,lay,List.map,List.replicate,List.length_replicate,pve,seval,reduceCtorEq,List.take_length,mapO_map cn_nr,rows_map cn_nr]; exact ⟨_,rfl,rfl,rfl⟩)
set_option maxHeartbeats 4000000 in
theorem same_run (l : List Cn) (f g : Bool) (hl : l.length ≤ 100000) : Run Try.prog 12 [.sl 5 (l.map cnA) f, .sl 5 (l.map cnA) g] (.bool true) := by
  refine Try.run12 (by simp) ?_
  unfold Try.c12
  have hlm : (l.map cnA).length = l.length := List.length_map _
  simp (disch := first|omega|(simp only[pvl];omega)) only [↓pvd,pva,Pv.put,bin2,int2,binB2,un1,AV.flat,pvf,szOk,notStr,setCells,AV.one,resX,layC,layA,lay,List.map,List.replicate,List.length_replicate,pve,seval,reduceCtorEq,hlm,bne_self_eq_false]
  refine aw_loop (fun k : Nat => ⟨[(0, .sl 5 (l.map cnA) f), (1, .sl 5 (l.map cnA) g), (5, .int .i64 k)], []⟩) (fun k => k ≤ l.length) (fun k => l.length - k) 0 ?_ (by omega) ?_
  · simp (disch := first | omega | (simp only [pvl] at *; omega)) only [↓pvd,pva,Pv.put,bin2,int2,binB2,un1,AV.flat,pvf,szOk,notStr,setCells,AV.one,resX,layC,layA,lay,List.map,List.replicate,List.length_replicate,pve,seval,reduceCtorEq]
    try rfl
  intro k hk
  unfold Try.c12b0
  by_cases hx : k < l.length
  · have hgi : (l.map cnA)[k]? = some (.agg [.int .i64 l[k]!.p, .int .i64 l[k]!.f, .int .i64 l[k]!.b, .int .i64 l[k]!.s, .int .i64 l[k]!.e]) := map_get hx
    generalize l[k]! = c at *
    generalize l.map cnA = R at *
    simp (disch := first|omega|(simp only[pvl];omega)) only [↓pvd,pva,Pv.put,bin2,int2,binB2,un1,AV.flat,pvf,szOk,notStr,setCells,AV.one,resX,layC,layA,lay,List.map,List.replicate,List.length_replicate,pve,seval,reduceCtorEq,hgi,hlm,eqCells,Option.map_some,beq_self_eq_true,Bool.true_and,Bool.and_true,Bool.and_self,Bool.not_true]
    exact ⟨k + 1, rfl, by omega, by omega⟩
  · obtain rfl : k = l.length := by omega
    simp (disch := first|omega|(simp only[pvl];omega)) only [↓pvd,pva,Pv.put,bin2,int2,binB2,un1,AV.flat,pvf,szOk,notStr,setCells,AV.one,resX,layC,layA,lay,List.map,List.replicate,List.length_replicate,pve,seval,reduceCtorEq,hlm]
    (refine Ends_rq [] ?_; simp (disch := first|omega|(simp only[pvl];omega)) only [↓pvd,pva,Pv.put,bin2,int2,binB2,un1,AV.flat,pvf,szOk,notStr,setCells,AV.one,resX,layC,layA,lay,List.map,List.replicate,List.length_replicate,pve,seval,reduceCtorEq]; exact ⟨_,rfl,rfl,rfl⟩)
set_option maxHeartbeats 16000000 in
theorem radd_run (l : List Cn) (c : Cn) (n : Nat) (f : Bool) (hn : l = [] ∨ n = 5) (hs : Srt l) (hl : l.length ≤ 100000) : Run Try.prog 30 [.sl n (l.map cnA) f, cnA c] (.own 5 63 ((addS l c).map cnA)) := by
  refine Try.run30 (by simp) ?_
  unfold Try.c30
  have hlm : (l.map cnA).length = l.length := List.length_map _
  have hcn : cnA c = .agg [.int .i64 c.p, .int .i64 c.f, .int .i64 c.b, .int .i64 c.s, .int .i64 c.e] := rfl
  rw [hcn]
  have hfin := rS_done hs c
  generalize addS l c = fin at *
  simp (disch := first|omega|(simp only[pvl];omega)) only [↓pvd,pva,Pv.put,bin2,int2,binB2,un1,AV.flat,pvf,szOk,notStr,setCells,AV.one,resX,layC,layA,lay,List.map,List.replicate,List.length_replicate,pve,seval,reduceCtorEq,hlm]
  refine aw_loop (fun k : Nat => ⟨[(0, .sl n (l.map cnA) f), (3, .eptr 0 0 0), (5, .vec 1 5 0 (rS l c k).1.length), (6, .bool (rS l c k).2), (7, .int .i64 k)], [some ⟨63, [.agg [.int .i64 c.p, .int .i64 c.f, .int .i64 c.b, .int .i64 c.s, .int .i64 c.e]], true⟩, some ⟨63, (rS l c k).1.map cnA, true⟩]⟩) (fun k => k ≤ l.length) (fun k => l.length - k) 0 ?_ (by omega) ?_
  · simp (disch := first | omega | (simp only [pvl] at *; omega)) only [↓pvd,pva,Pv.put,bin2,int2,binB2,un1,AV.flat,pvf,szOk,notStr,setCells,AV.one,resX,layC,layA,lay,List.map,List.replicate,List.length_replicate,pve,seval,reduceCtorEq]
    try rfl
  intro k hk
  unfold Try.c30b0
  have hol := rS_len l c k
  by_cases hx : k < l.length
  · obtain rfl : n = 5 := hn.resolve_left (by rintro rfl; simp at hx)
    have hgi : (l.map cnA)[k]? = some (.agg [.int .i64 l[k]!.p, .int .i64 l[k]!.f, .int .i64 l[k]!.b, .int .i64 l[k]!.s, .int .i64 l[k]!.e]) := map_get hx
    have hst : rS l c (k + 1) = if l[k]!.p = c.p then ((rS l c k).1 ++ [upd l[k]! c], true) else if c.p < l[k]!.p ∧ (rS l c k).2 = false then ((rS l c k).1 ++ [c] ++ [l[k]!], true) else ((rS l c k).1 ++ [l[k]!], (rS l c k).2) := rfl
    clear hfin
    generalize l[k]! = x at *
    generalize hO1 : rS l c (k + 1) = O1 at *
    generalize rS l c k = OP at *
    obtain ⟨O, P⟩ := OP
    try simp only at hst
    try simp only at hol
    by_cases h1 : x.p = c.p
    · rw [if_pos h1] at hst
      by_cases h2 : c.s < x.s
      · by_cases h3 : x.e < c.e
        · have hu : upd x c = ⟨x.p, IntKind.i64.wrap (x.f + c.f), IntKind.i64.wrap (x.b + c.b), c.s, c.e⟩ := by
            unfold upd wr
            rw [show min x.s c.s = c.s by omega, show max x.e c.e = c.e by omega]
          rw [hu] at hst
          have hm : O.map cnA ++ [AV.agg [.int .i64 x.p, .int .i64 (IntKind.i64.wrap (x.f + c.f)), .int .i64 (IntKind.i64.wrap (x.b + c.b)), .int .i64 c.s, .int .i64 c.e]] = O1.1.map cnA := by rw [hst]; simp [cnA]
          have hlo : O.length + 1 = O1.1.length := by rw [hst]; simp
          have hp1 : O1.2 = true := by rw [hst]
          simp (disch := first|omega|(simp only[pvl];omega)) only [↓pvd,pva,Pv.put,bin2,int2,binB2,un1,AV.flat,pvf,szOk,notStr,setCells,AV.one,resX,layC,layA,lay,List.map,List.replicate,List.length_replicate,pve,seval,reduceCtorEq,hgi,hlm,hm,hlo,ids_map cn_pl,ren_map cn_pl]
          exact ⟨k + 1, by rw [hO1, hp1]; rfl, by omega, by omega⟩
        · have hu : upd x c = ⟨x.p, IntKind.i64.wrap (x.f + c.f), IntKind.i64.wrap (x.b + c.b), c.s, x.e⟩ := by
            unfold upd wr
            rw [show min x.s c.s = c.s by omega, show max x.e c.e = x.e by omega]
          rw [hu] at hst
          have hm : O.map cnA ++ [AV.agg [.int .i64 x.p, .int .i64 (IntKind.i64.wrap (x.f + c.f)), .int .i64 (IntKind.i64.wrap (x.b + c.b)), .int .i64 c.s, .int .i64 x.e]] = O1.1.map cnA := by rw [hst]; simp [cnA]
          have hlo : O.length + 1 = O1.1.length := by rw [hst]; simp
          have hp1 : O1.2 = true := by rw [hst]
          simp (disch := first|omega|(simp only[pvl];omega)) only [↓pvd,pva,Pv.put,bin2,int2,binB2,un1,AV.flat,pvf,szOk,notStr,setCells,AV.one,resX,layC,layA,lay,List.map,List.replicate,List.length_replicate,pve,seval,reduceCtorEq,hgi,hlm,hm,hlo,ids_map cn_pl,ren_map cn_pl]
          exact ⟨k + 1, by rw [hO1, hp1]; rfl, by omega, by omega⟩
      · by_cases h3 : x.e < c.e
        · have hu : upd x c = ⟨x.p, IntKind.i64.wrap (x.f + c.f), IntKind.i64.wrap (x.b + c.b), x.s, c.e⟩ := by
            unfold upd wr
            rw [show min x.s c.s = x.s by omega, show max x.e c.e = c.e by omega]
          rw [hu] at hst
          have hm : O.map cnA ++ [AV.agg [.int .i64 x.p, .int .i64 (IntKind.i64.wrap (x.f + c.f)), .int .i64 (IntKind.i64.wrap (x.b + c.b)), .int .i64 x.s, .int .i64 c.e]] = O1.1.map cnA := by rw [hst]; simp [cnA]
          have hlo : O.length + 1 = O1.1.length := by rw [hst]; simp
          have hp1 : O1.2 = true := by rw [hst]
          simp (disch := first|omega|(simp only[pvl];omega)) only [↓pvd,pva,Pv.put,bin2,int2,binB2,un1,AV.flat,pvf,szOk,notStr,setCells,AV.one,resX,layC,layA,lay,List.map,List.replicate,List.length_replicate,pve,seval,reduceCtorEq,hgi,hlm,hm,hlo,ids_map cn_pl,ren_map cn_pl]
          exact ⟨k + 1, by rw [hO1, hp1]; rfl, by omega, by omega⟩
        · have hu : upd x c = ⟨x.p, IntKind.i64.wrap (x.f + c.f), IntKind.i64.wrap (x.b + c.b), x.s, x.e⟩ := by
            unfold upd wr
            rw [show min x.s c.s = x.s by omega, show max x.e c.e = x.e by omega]
          rw [hu] at hst
          have hm : O.map cnA ++ [AV.agg [.int .i64 x.p, .int .i64 (IntKind.i64.wrap (x.f + c.f)), .int .i64 (IntKind.i64.wrap (x.b + c.b)), .int .i64 x.s, .int .i64 x.e]] = O1.1.map cnA := by rw [hst]; simp [cnA]
          have hlo : O.length + 1 = O1.1.length := by rw [hst]; simp
          have hp1 : O1.2 = true := by rw [hst]
          simp (disch := first|omega|(simp only[pvl];omega)) only [↓pvd,pva,Pv.put,bin2,int2,binB2,un1,AV.flat,pvf,szOk,notStr,setCells,AV.one,resX,layC,layA,lay,List.map,List.replicate,List.length_replicate,pve,seval,reduceCtorEq,hgi,hlm,hm,hlo,ids_map cn_pl,ren_map cn_pl]
          exact ⟨k + 1, by rw [hO1, hp1]; rfl, by omega, by omega⟩
    · rw [if_neg h1] at hst
      by_cases h2 : c.p < x.p
      · cases P with
        | false =>
          rw [if_pos ⟨h2, rfl⟩] at hst
          have hm1 : O.map cnA ++ [AV.agg [.int .i64 c.p, .int .i64 c.f, .int .i64 c.b, .int .i64 c.s, .int .i64 c.e]] = (O ++ [c]).map cnA := by simp [cnA]
          have hm2 : (O ++ [c]).map cnA ++ [AV.agg [.int .i64 x.p, .int .i64 x.f, .int .i64 x.b, .int .i64 x.s, .int .i64 x.e]] = O1.1.map cnA := by rw [hst]; simp [cnA]
          have hl1 : O.length + 1 = (O ++ [c]).length := by simp
          have hl2 : (O ++ [c]).length + 1 = O1.1.length := by rw [hst]; simp
          have hp1 : O1.2 = true := by rw [hst]
          have hb1 : (O ++ [c]).length ≤ 2 * k + 1 := by simp; omega
          generalize O ++ [c] = O2 at *
          simp (disch := first|omega|(simp only[pvl];omega)) only [↓pvd,pva,Pv.put,bin2,int2,binB2,un1,AV.flat,pvf,szOk,notStr,setCells,AV.one,resX,layC,layA,lay,List.map,List.replicate,List.length_replicate,pve,seval,reduceCtorEq,hgi,hlm,hm1,hm2,hl1,hl2,ids_map cn_pl,ren_map cn_pl]
          exact ⟨k + 1, by rw [hO1, hp1]; rfl, by omega, by omega⟩
        | true =>
          rw [if_neg (by simp)] at hst
          have hm : O.map cnA ++ [AV.agg [.int .i64 x.p, .int .i64 x.f, .int .i64 x.b, .int .i64 x.s, .int .i64 x.e]] = O1.1.map cnA := by rw [hst]; simp [cnA]
          have hlo : O.length + 1 = O1.1.length := by rw [hst]; simp
          have hp1 : O1.2 = true := by rw [hst]
          simp (disch := first|omega|(simp only[pvl];omega)) only [↓pvd,pva,Pv.put,bin2,int2,binB2,un1,AV.flat,pvf,szOk,notStr,setCells,AV.one,resX,layC,layA,lay,List.map,List.replicate,List.length_replicate,pve,seval,reduceCtorEq,hgi,hlm,hm,hlo,ids_map cn_pl,ren_map cn_pl]
          exact ⟨k + 1, by rw [hO1, hp1]; rfl, by omega, by omega⟩
      · rw [if_neg (fun h => h2 h.1)] at hst
        have hm : O.map cnA ++ [AV.agg [.int .i64 x.p, .int .i64 x.f, .int .i64 x.b, .int .i64 x.s, .int .i64 x.e]] = O1.1.map cnA := by rw [hst]; simp [cnA]
        have hlo : O.length + 1 = O1.1.length := by rw [hst]; simp
        have hp1 : O1.2 = P := by rw [hst]
        simp (disch := first|omega|(simp only[pvl];omega)) only [↓pvd,pva,Pv.put,bin2,int2,binB2,un1,AV.flat,pvf,szOk,notStr,setCells,AV.one,resX,layC,layA,lay,List.map,List.replicate,List.length_replicate,pve,seval,reduceCtorEq,hgi,hlm,hm,hlo,ids_map cn_pl,ren_map cn_pl]
        exact ⟨k + 1, by rw [hO1, hp1]; rfl, by omega, by omega⟩
  · obtain rfl : k = l.length := by omega
    generalize rS l c l.length = OP at *
    obtain ⟨O, P⟩ := OP
    try simp only at hfin
    try simp only at hol
    cases P with
    | true =>
      have hf2 : O = fin := by simpa using hfin
      subst hf2
      simp (disch := first|omega|(simp only[pvl];omega)) only [↓pvd,pva,Pv.put,bin2,int2,binB2,un1,AV.flat,pvf,szOk,notStr,setCells,AV.one,resX,layC,layA,lay,List.map,List.replicate,List.length_replicate,pve,seval,reduceCtorEq,hlm]
      (refine Ends_rq [[.own 5 63]] ?_; simp (disch := first|omega|(simp only[pvl];omega)) only [↓pvd,pva,Pv.put,bin2,int2,binB2,un1,AV.flat,pvf,szOk,notStr,setCells,AV.one,resX,layC,layA,lay,List.map,List.replicate,List.length_replicate,pve,seval,reduceCtorEq,mapO_map cn_nr,rows_map cn_nr]; exact ⟨_,rfl,rfl,rfl⟩)
    | false =>
      have hf2 : O ++ [c] = fin := by simpa using hfin
      have hm : O.map cnA ++ [AV.agg [.int .i64 c.p, .int .i64 c.f, .int .i64 c.b, .int .i64 c.s, .int .i64 c.e]] = fin.map cnA := by rw [← hf2]; simp [cnA]
      have hlo : O.length + 1 = fin.length := by rw [← hf2]; simp
      simp (disch := first|omega|(simp only[pvl];omega)) only [↓pvd,pva,Pv.put,bin2,int2,binB2,un1,AV.flat,pvf,szOk,notStr,setCells,AV.one,resX,layC,layA,lay,List.map,List.replicate,List.length_replicate,pve,seval,reduceCtorEq,hlm,hm,hlo]
      (refine Ends_rq [[.own 5 63]] ?_; simp (disch := first|omega|(simp only[pvl];omega)) only [↓pvd,pva,Pv.put,bin2,int2,binB2,un1,AV.flat,pvf,szOk,notStr,setCells,AV.one,resX,layC,layA,lay,List.map,List.replicate,List.length_replicate,pve,seval,reduceCtorEq,mapO_map cn_nr,rows_map cn_nr]; exact ⟨_,rfl,rfl,rfl⟩)
end Go.Proofs
set_option linter.unusedSimpArgs false
set_option linter.unusedVariables false
set_option maxHeartbeats 2000000
set_option maxRecDepth 20000
namespace Go.Proofs
open Go.Pv Go.Pv.Hq
def rowX (L : Nat → List Cn) : Nat → AV
  | 0 => .sl 0 [] true
  | k + 1 => .vec 0 5 0 (L (k + 1)).length
def rowH (L : Nat → List Cn) : Nat → Hp
  | 0 => []
  | k + 1 => [some ⟨63, (L (k + 1)).map cnA, true⟩]
end Go.Proofs
set_option linter.unusedSimpArgs false
set_option linter.unusedVariables false
set_option maxHeartbeats 2000000
set_option maxRecDepth 20000
namespace Go.Proofs
open Go.Pv Go.Pv.Hq
set_option maxHeartbeats 8000000 in
theorem rmerge_run (a b : List Cn) (f g : Bool) (ha : a.length ≤ 10000) (hb : b.length ≤ 10000) : Run Try.prog 18 [.sl 5 (a.map cnA) f, .sl 5 (b.map cnA) g] (.own 5 63 ((mergeS a b).map cnA)) := by
  refine Try.run18 (by simp) ?_
  unfold Try.c18
  have hla : (a.map cnA).length = a.length := List.length_map _
  have hlb : (b.map cnA).length = b.length := List.length_map _
  have hfin : mergeS a b = foldK (a ++ b) (a.length + b.length) := by unfold mergeS; rw [List.length_append]
  rw [hfin]
  have hga : ∀ k, k < a.length → (a ++ b)[k]! = a[k]! := fun k hk => by
    rw [getElem!_pos (a ++ b) k (by simp; omega), getElem!_pos a k hk, List.getElem_append_left]
  have hgb : ∀ k, k < b.length → (a ++ b)[a.length + k]! = b[k]! := fun k hk => by
    rw [getElem!_pos (a ++ b) (a.length + k) (by simp; omega), getElem!_pos b k hk, List.getElem_append_right (by omega)]
    simp
  generalize hL : a ++ b = L at *
  clear hL hfin
  simp (disch := first|omega|(simp only[pvl];omega)) only [↓pvd,pva,Pv.put,bin2,int2,binB2,un1,AV.flat,pvf,szOk,notStr,setCells,AV.one,resX,layC,layA,lay,List.map,List.replicate,List.length_replicate,pve,seval,reduceCtorEq,hla,hlb]
  refine aw_loop (fun k : Nat => ⟨[(0, .sl 5 (a.map cnA) f), (1, .sl 5 (b.map cnA) g), (5, rowX (foldK L) k), (6, .int .i64 k)], rowH (foldK L) k⟩) (fun k => k ≤ a.length) (fun k => a.length - k) 0 ?_ (by omega) ?_
  · simp only [rowX,rowH]
    simp (disch := first | omega | (simp only [pvl] at *; omega)) only [↓pvd,pva,Pv.put,bin2,int2,binB2,un1,AV.flat,pvf,szOk,notStr,setCells,AV.one,resX,layC,layA,lay,List.map,List.replicate,List.length_replicate,pve,seval,reduceCtorEq]
    try rfl
  intro k hk
  unfold Try.c18b0
  have hlen := foldK_len L k
  by_cases hx : k < a.length
  · have hgi : (a.map cnA)[k]? = some (.agg [.int .i64 a[k]!.p, .int .i64 a[k]!.f, .int .i64 a[k]!.b, .int .i64 a[k]!.s, .int .i64 a[k]!.e]) := map_get hx
    have hsn : foldK L (k + 1) = addS (foldK L k) a[k]! := by rw [← hga k hx]; rfl
    have q := fun n f hn => radd_run (foldK L k) a[k]! n f hn (foldK_srt L k) (by omega)
    rw [← hsn] at q
    simp only [cnA] at q
    have q0 := fun h => q 0 true h
    have q5 := q 5 false (.inr rfl)
    clear hsn
    generalize a[k]! = x at *
    cases k with
    | zero =>
      have q1 := q0 (.inl rfl)
      simp only [rowX,rowH,foldK,List.map_nil] at q1 ⊢
      simp (disch := first|omega|(simp only[pvl];omega)) only [↓pvd,pva,Pv.put,bin2,int2,binB2,un1,AV.flat,pvf,szOk,notStr,setCells,AV.one,resX,layC,layA,lay,List.map,List.replicate,List.length_replicate,pve,seval,reduceCtorEq,hgi,hla]
      refine awR_callS (ms := []) q1 (by simp (disch := first | omega | (simp only [pvl] at *; omega)) only [↓pvd,pva,Pv.put,bin2,int2,binB2,un1,AV.flat,pvf,szOk,notStr,setCells,AV.one,resX,layC,layA,lay,List.map,List.replicate,List.length_replicate,pve,seval,reduceCtorEq]; rfl) (by simp (disch := first | omega | (simp only [pvl] at *; omega)) only [↓pvd,pva,Pv.put,bin2,int2,binB2,un1,AV.flat,pvf,szOk,notStr,setCells,AV.one,resX,layC,layA,lay,List.map,List.replicate,List.length_replicate,pve,seval,reduceCtorEq]) ?_
      simp (disch := first|omega|(simp only[pvl];omega)) only [↓pvd,pva,Pv.put,bin2,int2,binB2,un1,AV.flat,pvf,szOk,notStr,setCells,AV.one,resX,layC,layA,lay,List.map,List.replicate,List.length_replicate,pve,seval,reduceCtorEq,ids_map cn_pl,ren_map cn_pl,mapO_map cn_nr,rows_map cn_nr,List.length_map]
      exact ⟨1, rfl, by omega, by omega⟩
    | succ k =>
      simp only [rowX,rowH]
      simp (disch := first|omega|(simp only[pvl];omega)) only [↓pvd,pva,Pv.put,bin2,int2,binB2,un1,AV.flat,pvf,szOk,notStr,setCells,AV.one,resX,layC,layA,lay,List.map,List.replicate,List.length_replicate,pve,seval,reduceCtorEq,hgi,hla]
      refine awR_callS (ms := []) q5 (by simp (disch := first|omega|(simp only[pvl];omega)) only [↓pvd,pva,Pv.put,bin2,int2,binB2,un1,AV.flat,pvf,szOk,notStr,setCells,AV.one,resX,layC,layA,lay,List.map,List.replicate,List.length_replicate,pve,seval,reduceCtorEq,mapO_map cn_nr,rows_map cn_nr]; rfl) (by simp (disch := first|omega|(simp only[pvl];omega)) only [↓pvd,pva,Pv.put,bin2,int2,binB2,un1,AV.flat,pvf,szOk,notStr,setCells,AV.one,resX,layC,layA,lay,List.map,List.replicate,List.length_replicate,pve,seval,reduceCtorEq,mapO_map cn_nr,rows_map cn_nr]) ?_
      simp (disch := first|omega|(simp only[pvl];omega)) only [↓pvd,pva,Pv.put,bin2,int2,binB2,un1,AV.flat,pvf,szOk,notStr,setCells,AV.one,resX,layC,layA,lay,List.map,List.replicate,List.length_replicate,pve,seval,reduceCtorEq,ids_map cn_pl,ren_map cn_pl,mapO_map cn_nr,rows_map cn_nr,List.length_map]
      exact ⟨k + 1 + 1, rfl, by omega, by omega⟩
  · obtain rfl : k = a.length := by omega
    simp (disch := first|omega|(simp only[pvl];omega)) only [↓pvd,pva,Pv.put,bin2,int2,binB2,un1,AV.flat,pvf,szOk,notStr,setCells,AV.one,resX,layC,layA,lay,List.map,List.replicate,List.length_replicate,pve,seval,reduceCtorEq,hla,hlb]
    clear hga hla
    generalize a.length = n at *
    refine aw_loop (fun k : Nat => ⟨[(1, .sl 5 (b.map cnA) g), (5, rowX (foldK L) (n + k)), (7, .int .i64 k)], rowH (foldK L) (n + k)⟩) (fun k => k ≤ b.length) (fun k => b.length - k) 0 ?_ (by omega) ?_
    · cases n with
      | zero =>
        simp only [rowX,rowH,foldK,List.map_nil]
        simp (disch := first | omega | (simp only [pvl] at *; omega)) only [↓pvd,pva,Pv.put,bin2,int2,binB2,un1,AV.flat,pvf,szOk,notStr,setCells,AV.one,resX,layC,layA,lay,List.map,List.replicate,List.length_replicate,pve,seval,reduceCtorEq]
        try rfl
      | succ n =>
        simp only [rowX,rowH,Nat.add_zero]
        simp (disch := first|omega|(simp only[pvl];omega)) only [↓pvd,pva,Pv.put,bin2,int2,binB2,un1,AV.flat,pvf,szOk,notStr,setCells,AV.one,resX,layC,layA,lay,List.map,List.replicate,List.length_replicate,pve,seval,reduceCtorEq,ids_map cn_pl,ren_map cn_pl]
        try rfl
    intro k hk
    unfold Try.c18b1
    have hlen := foldK_len L (n + k)
    by_cases hx : k < b.length
    · have hgi : (b.map cnA)[k]? = some (.agg [.int .i64 b[k]!.p, .int .i64 b[k]!.f, .int .i64 b[k]!.b, .int .i64 b[k]!.s, .int .i64 b[k]!.e]) := map_get hx
      have hsn : foldK L (n + k + 1) = addS (foldK L (n + k)) b[k]! := by rw [← hgb k hx]; rfl
      have q := fun m f hn => radd_run (foldK L (n + k)) b[k]! m f hn (foldK_srt L (n + k)) (by omega)
      rw [← hsn] at q
      simp only [cnA] at q
      have q0 := fun h => q 0 true h
      have q5 := q 5 false (.inr rfl)
      clear hsn hgb
      generalize b[k]! = x at *
      have hnk : n + (k + 1) = n + k + 1 := rfl
      generalize hm : n + k = m at *
      cases m with
      | zero =>
        have q1 := q0 (.inl rfl)
        simp only [rowX,rowH,foldK,List.map_nil] at q1 ⊢
        simp (disch := first|omega|(simp only[pvl];omega)) only [↓pvd,pva,Pv.put,bin2,int2,binB2,un1,AV.flat,pvf,szOk,notStr,setCells,AV.one,resX,layC,layA,lay,List.map,List.replicate,List.length_replicate,pve,seval,reduceCtorEq,hgi,hlb]
        refine awR_callS (ms := []) q1 (by simp (disch := first | omega | (simp only [pvl] at *; omega)) only [↓pvd,pva,Pv.put,bin2,int2,binB2,un1,AV.flat,pvf,szOk,notStr,setCells,AV.one,resX,layC,layA,lay,List.map,List.replicate,List.length_replicate,pve,seval,reduceCtorEq]; rfl) (by simp (disch := first | omega | (simp only [pvl] at *; omega)) only [↓pvd,pva,Pv.put,bin2,int2,binB2,un1,AV.flat,pvf,szOk,notStr,setCells,AV.one,resX,layC,layA,lay,List.map,List.replicate,List.length_replicate,pve,seval,reduceCtorEq]) ?_
        simp (disch := first|omega|(simp only[pvl];omega)) only [↓pvd,pva,Pv.put,bin2,int2,binB2,un1,AV.flat,pvf,szOk,notStr,setCells,AV.one,resX,layC,layA,lay,List.map,List.replicate,List.length_replicate,pve,seval,reduceCtorEq,ids_map cn_pl,ren_map cn_pl,mapO_map cn_nr,rows_map cn_nr,List.length_map]
        exact ⟨k + 1, by rw [hnk]; rfl, by omega, by omega⟩
      | succ m =>
        simp only [rowX,rowH]
        simp (disch := first|omega|(simp only[pvl];omega)) only [↓pvd,pva,Pv.put,bin2,int2,binB2,un1,AV.flat,pvf,szOk,notStr,setCells,AV.one,resX,layC,layA,lay,List.map,List.replicate,List.length_replicate,pve,seval,reduceCtorEq,hgi,hlb]
        refine awR_callS (ms := []) q5 (by simp (disch := first|omega|(simp only[pvl];omega)) only [↓pvd,pva,Pv.put,bin2,int2,binB2,un1,AV.flat,pvf,szOk,notStr,setCells,AV.one,resX,layC,layA,lay,List.map,List.replicate,List.length_replicate,pve,seval,reduceCtorEq,mapO_map cn_nr,rows_map cn_nr]; rfl) (by simp (disch := first|omega|(simp only[pvl];omega)) only [↓pvd,pva,Pv.put,bin2,int2,binB2,un1,AV.flat,pvf,szOk,notStr,setCells,AV.one,resX,layC,layA,lay,List.map,List.replicate,List.length_replicate,pve,seval,reduceCtorEq,mapO_map cn_nr,rows_map cn_nr]) ?_
        simp (disch := first|omega|(simp only[pvl];omega)) only [↓pvd,pva,Pv.put,bin2,int2,binB2,un1,AV.flat,pvf,szOk,notStr,setCells,AV.one,resX,layC,layA,lay,List.map,List.replicate,List.length_replicate,pve,seval,reduceCtorEq,ids_map cn_pl,ren_map cn_pl,mapO_map cn_nr,rows_map cn_nr,List.length_map]
        exact ⟨k + 1, by rw [hnk]; rfl, by omega, by omega⟩
    · obtain rfl : k = b.length := by omega
      generalize n + b.length = m at *
      cases m with
      | zero =>
        simp only [rowX,rowH]
        simp (disch := first|omega|(simp only[pvl];omega)) only [↓pvd,pva,Pv.put,bin2,int2,binB2,un1,AV.flat,pvf,szOk,notStr,setCells,AV.one,resX,layC,layA,lay,List.map,List.replicate,List.length_replicate,pve,seval,reduceCtorEq,hlb]
        (refine Ends_rq [[.own 5 63]] ?_; simp (disch := first|omega|(simp only[pvl];omega)) only [↓pvd,pva,Pv.put,bin2,int2,binB2,un1,AV.flat,pvf,szOk,notStr,setCells,AV.one,resX,layC,layA,lay,List.map,List.replicate,List.length_replicate,pve,seval,reduceCtorEq]; exact ⟨_,rfl,rfl,rfl⟩)
      | succ m =>
        simp only [rowX,rowH]
        simp (disch := first|omega|(simp only[pvl];omega)) only [↓pvd,pva,Pv.put,bin2,int2,binB2,un1,AV.flat,pvf,szOk,notStr,setCells,AV.one,resX,layC,layA,lay,List.map,List.replicate,List.length_replicate,pve,seval,reduceCtorEq,hlb]
        (refine Ends_rq [[.own 5 63]] ?_; simp (disch := first|omega|(simp only[pvl];omega)) only [↓pvd,pva,Pv.put,bin2,int2,binB2,un1,AV.flat,pvf,szOk,notStr,setCells,AV.one,resX,layC,layA,lay,List.map,List.replicate,List.length_replicate,pve,seval,reduceCtorEq,mapO_map cn_nr,rows_map cn_nr]; exact ⟨_,rfl,rfl,rfl⟩)
set_option maxHeartbeats 4000000 in
theorem ahead_run (a b : Cn) : Run Try.prog 31 [cnA a, cnA b] (.bool (Hq.ahead a b)) := by
  refine Try.run31 (by simp) ?_
  unfold Try.c31
  simp only [cnA]
  have hf : Hq.ahead a b = if a.f ≠ b.f then decide (a.f > b.f) else if a.b ≠ b.b then decide (a.b > b.b) else decide (a.p < b.p) := rfl
  rw [hf]
  by_cases h1 : a.f = b.f
  · rw [if_neg (by simpa using h1)]
    by_cases h2 : a.b = b.b
    · rw [if_neg (by simpa using h2)]
      simp (disch := first|omega|(simp only[pvl];omega)) only [↓pvd,pva,Pv.put,bin2,int2,binB2,un1,AV.flat,pvf,szOk,notStr,setCells,AV.one,resX,layC,layA,lay,List.map,List.replicate,List.length_replicate,pve,seval,reduceCtorEq,h1,h2,bne_self_eq_false]
      (refine Ends_rq [] ?_; simp (disch := first|omega|(simp only[pvl];omega)) only [↓pvd,pva,Pv.put,bin2,int2,binB2,un1,AV.flat,pvf,szOk,notStr,setCells,AV.one,resX,layC,layA,lay,List.map,List.replicate,List.length_replicate,pve,seval,reduceCtorEq]; exact ⟨_,rfl,rfl,rfl⟩)
    · rw [if_pos h2]
      have h2' : (a.b != b.b) = true := by simpa using h2
      simp (disch := first|omega|(simp only[pvl];omega)) only [↓pvd,pva,Pv.put,bin2,int2,binB2,un1,AV.flat,pvf,szOk,notStr,setCells,AV.one,resX,layC,layA,lay,List.map,List.replicate,List.length_replicate,pve,seval,reduceCtorEq,h1,h2',bne_self_eq_false]
      (refine Ends_rq [] ?_; simp (disch := first|omega|(simp only[pvl];omega)) only [↓pvd,pva,Pv.put,bin2,int2,binB2,un1,AV.flat,pvf,szOk,notStr,setCells,AV.one,resX,layC,layA,lay,List.map,List.replicate,List.length_replicate,pve,seval,reduceCtorEq]; exact ⟨_,rfl,rfl,rfl⟩)
  · rw [if_pos h1]
    have h1' : (a.f != b.f) = true := by simpa using h1
    simp (disch := first|omega|(simp only[pvl];omega)) only [↓pvd,pva,Pv.put,bin2,int2,binB2,un1,AV.flat,pvf,szOk,notStr,setCells,AV.one,resX,layC,layA,lay,List.map,List.replicate,List.length_replicate,pve,seval,reduceCtorEq,h1']
    (refine Ends_rq [] ?_; simp (disch := first|omega|(simp only[pvl];omega)) only [↓pvd,pva,Pv.put,bin2,int2,binB2,un1,AV.flat,pvf,szOk,notStr,setCells,AV.one,resX,layC,layA,lay,List.map,List.replicate,List.length_replicate,pve,seval,reduceCtorEq]; exact ⟨_,rfl,rfl,rfl⟩)
end Go.Proofs
set_option linter.unusedSimpArgs false
set_option linter.unusedVariables false
set_option maxHeartbeats 2000000
set_option maxRecDepth 20000
namespace Go.Proofs
open Go.Pv Go.Pv.Hq
set_option maxHeartbeats 8000000 in
theorem rtop_run (l : List Cn) (f : Bool) (many : Int) (hl : l.length ≤ 10000) : Run Try.prog 16 [.sl 5 (l.map cnA) f, .int .i64 many] (.own 5 63 ((topS l many).map cnA)) := by
  refine Try.run16 (by simp) ?_
  unfold Try.c16
  have hla : (l.map cnA).length = l.length := List.length_map _
  simp (disch := first|omega|(simp only[pvl];omega)) only [↓pvd,pva,Pv.put,bin2,int2,binB2,un1,AV.flat,pvf,szOk,notStr,setCells,AV.one,resX,layC,layA,lay,List.map,List.replicate,List.length_replicate,pve,seval,reduceCtorEq,hla]
  refine aw_loop (fun k : Nat => ⟨[(0, .sl 5 (l.map cnA) f), (1, .int .i64 many), (5, .vec 0 5 0 k), (6, .int .i64 k)], [some ⟨63, (outR l k).map cnA, true⟩]⟩) (fun k => k ≤ l.length) (fun k => l.length - k) 0 ?_ (by omega) ?_
  · simp only [outR]
    simp (disch := first | omega | (simp only [pvl] at *; omega)) only [↓pvd,pva,Pv.put,bin2,int2,binB2,un1,AV.flat,pvf,szOk,notStr,setCells,AV.one,resX,layC,layA,lay,List.map,List.replicate,List.length_replicate,pve,seval,reduceCtorEq]
    try rfl
  intro k hk
  unfold Try.c16b1
  have hlen := outR_len l k
  by_cases hx : k < l.length
  · have hgi : (l.map cnA)[k]? = some (.agg [.int .i64 l[k]!.p, .int .i64 l[k]!.f, .int .i64 l[k]!.b, .int .i64 l[k]!.s, .int .i64 l[k]!.e]) := map_get hx
    have hsn : outR l (k + 1) = insR (outR l k) l[k]! := rfl
    generalize l[k]! = x at *
    generalize hO1 : outR l (k + 1) = O1 at *
    generalize outR l k = O at *
    have hlm : (O.map cnA).length = O.length := List.length_map _
    unfold insR at hsn
    rw [hlen] at hsn
    have hpl : (O.map cnA).all AV.pl = true := pl_map cn_pl
    simp (disch := first|omega|(simp only[pvl];omega)) only [↓pvd,pva,Pv.put,bin2,int2,binB2,un1,AV.flat,pvf,szOk,notStr,setCells,AV.one,resX,layC,layA,lay,List.map,List.replicate,List.length_replicate,pve,seval,reduceCtorEq,hgi,hla,hlm,hlen,ids_all hpl,ren_all hpl]
    refine aw_loop (fun p : Nat => ⟨[(0, .sl 5 (l.map cnA) f), (1, .int .i64 many), (5, .vec 0 5 0 k), (6, .int .i64 k), (7, .int .i64 p)], [some ⟨63, O.map cnA, true⟩]⟩) (fun p => p ≤ k ∧ posR x O p = posR x O k) (fun p => p) k ?_ ⟨Nat.le_refl _, rfl⟩ ?_
    · simp (disch := first|omega|(simp only[pvl];omega)) only [↓pvd,pva,Pv.put,bin2,int2,binB2,un1,AV.flat,pvf,szOk,notStr,setCells,AV.one,resX,layC,layA,lay,List.map,List.replicate,List.length_replicate,pve,seval,reduceCtorEq,ids_all hpl,ren_all hpl]
      try rfl
    intro p ⟨hp, he⟩
    unfold Try.c16b0
    have hfin : ∀ p' : Nat, p' = p → posR x O k = p' → (R_ : List AV) → R_ = O.map cnA → O1.map cnA = R_.take p' ++ AV.agg [AV.int .i64 x.p, AV.int .i64 x.f, AV.int .i64 x.b, AV.int .i64 x.s, AV.int .i64 x.e] :: R_.drop p' := fun p' _ e R_ hR => by
      rw [hsn, e, hR]; simp [cnA, List.map_take, List.map_drop]
    have hO1l : O1.length = k + 1 := by rw [← hO1]; exact outR_len l (k + 1)
    cases p with
    | zero =>
      have hff := hfin 0 rfl (by rw [← he]; rfl) _ rfl
      clear hfin
      generalize hR : O.map cnA = R at *
      simp (disch := first|omega|(simp only[pvl];omega)) only [↓pvd,pva,Pv.put,bin2,int2,binB2,un1,AV.flat,pvf,szOk,notStr,setCells,AV.one,resX,layC,layA,lay,List.map,List.replicate,List.length_replicate,pve,seval,reduceCtorEq,hgi,hla,hlm,hlen,ids_all hpl,ren_all hpl]
      refine ⟨k + 1, ?_, by omega, by omega⟩
      rw [hO1, hff, Nat.add_comm 1 k]
      rfl
    | succ p =>
      have hgo : (O.map cnA)[p]? = some (.agg [.int .i64 O[p]!.p, .int .i64 O[p]!.f, .int .i64 O[p]!.b, .int .i64 O[p]!.s, .int .i64 O[p]!.e]) := map_get (by omega)
      have q := ahead_run x O[p]!
      simp only [cnA] at q
      have hps : posR x O (p + 1) = if Hq.ahead x O[p]! then posR x O p else p + 1 := rfl
      have hix : (((p + 1 : Nat) : Int) - 1).toNat = p := by omega
      have hix2 : ((p + 1 : Nat) : Int) - 1 = (p : Int) := by omega
      generalize O[p]! = y at *
      have hff := fun e => hfin (p + 1) rfl e _ rfl
      clear hfin
      generalize hR : O.map cnA = R at *
      simp (disch := first|omega|(simp only[pvl];omega)) only [↓pvd,pva,Pv.put,bin2,int2,binB2,un1,AV.flat,pvf,szOk,notStr,setCells,AV.one,resX,layC,layA,lay,List.map,List.replicate,List.length_replicate,pve,seval,reduceCtorEq,hgi,hgo,hla,hlm,hlen,hix,hix2,ids_all hpl,ren_all hpl]
      refine awR_callD q (by simp (disch := first | omega | (simp only [pvl] at *; omega)) only [↓pvd,pva,Pv.put,bin2,int2,binB2,un1,AV.flat,pvf,szOk,notStr,setCells,AV.one,resX,layC,layA,lay,List.map,List.replicate,List.length_replicate,pve,seval,reduceCtorEq]) rfl (fun _ => rfl) ?_
      cases hah : Hq.ahead x y with
      | true =>
        simp (disch := first|omega|(simp only[pvl];omega)) only [↓pvd,pva,Pv.put,bin2,int2,binB2,un1,AV.flat,pvf,szOk,notStr,setCells,AV.one,resX,layC,layA,lay,List.map,List.replicate,List.length_replicate,pve,seval,reduceCtorEq,hgi,hgo,hla,hlm,hlen,hix,hix2,ids_all hpl,ren_all hpl]
        exact ⟨p, rfl, ⟨by omega, by rw [← he, hps, if_pos hah]⟩, by omega⟩
      | false =>
        have hff := hff (by rw [← he, hps, if_neg (by rw [hah]; simp)])
        have hff2 : R.take (p + 1) ++ [AV.agg [.int .i64 x.p, .int .i64 x.f, .int .i64 x.b, .int .i64 x.s, .int .i64 x.e]] ++ R.drop (p + 1) = O1.map cnA := by rw [hff]; simp
        have hpl2 : (O1.map cnA).all AV.pl = true := pl_map cn_pl
        simp (disch := first|omega|(simp only[pvl];omega)) only [↓pvd,pva,Pv.put,bin2,int2,binB2,un1,AV.flat,pvf,szOk,notStr,setCells,AV.one,resX,layC,layA,lay,List.map,List.replicate,List.length_replicate,pve,seval,reduceCtorEq,hgi,hgo,hla,hlm,hlen,hix,hix2,ids_all hpl,ren_all hpl,hff2,ids_all hpl2,ren_all hpl2]
        refine ⟨k + 1, ?_, by omega, by omega⟩
        rw [hO1]
        refine congrArg (fun z => (⟨[(0, .sl 5 (l.map cnA) f), (1, .int .i64 many), (5, .vec 0 5 0 z), (6, .int .i64 (k + 1))], [some ⟨63, O1.map cnA, true⟩]⟩ : St)) ?_
        simp only [List.length_take,List.length_drop]
        omega
  · obtain rfl : k = l.length := by omega
    simp (disch := first|omega|(simp only[pvl];omega)) only [↓pvd,pva,Pv.put,bin2,int2,binB2,un1,AV.flat,pvf,szOk,notStr,setCells,AV.one,resX,layC,layA,lay,List.map,List.replicate,List.length_replicate,pve,seval,reduceCtorEq,hla]
    rw [topS_eq]
    have hol : ((outR l l.length).map cnA).length = l.length := by rw [List.length_map]; exact hlen
    generalize outR l l.length = O at *
    by_cases h1 : many < 1
    · have e : many.toNat = 0 := by omega
      rw [e]
      simp (disch := first|omega|(simp only[pvl];omega)) only [↓pvd,pva,Pv.put,bin2,int2,binB2,un1,AV.flat,pvf,szOk,notStr,setCells,AV.one,resX,layC,layA,lay,List.map,List.replicate,List.length_replicate,pve,seval,reduceCtorEq,h1]
      (refine Ends_rq [[.own 5 63]] ?_; simp (disch := first|omega|(simp only[pvl];omega)) only [↓pvd,pva,Pv.put,bin2,int2,binB2,un1,AV.flat,pvf,szOk,notStr,setCells,AV.one,resX,layC,layA,lay,List.map,List.replicate,List.length_replicate,pve,seval,reduceCtorEq]; exact ⟨_,rfl,rfl,rfl⟩)
    · by_cases h2 : many < l.length
      · have hm : (O.take many.toNat).map cnA = (O.map cnA).take many.toNat := List.map_take
        have hnn : 0 ≤ many := by omega
        have hmz : ((many.toNat : Nat) : Int) = many := by omega
        have hol2 : many.toNat ≤ O.length := by omega
        rw [hm]
        simp (disch := first|omega|(simp only[pvl];omega)) only [↓pvd,pva,Pv.put,bin2,int2,binB2,un1,AV.flat,pvf,szOk,notStr,setCells,AV.one,resX,layC,layA,lay,List.map,List.replicate,List.length_replicate,pve,seval,reduceCtorEq,h1,h2,hla,hol,hnn,hol2,hmz]
        (refine Ends_rq [[.own 5 63]] ?_; simp (disch := first|omega|(simp only[pvl];omega)) only [↓pvd,pva,Pv.put,bin2,int2,binB2,un1,AV.flat,pvf,szOk,notStr,setCells,AV.one,resX,layC,layA,lay,List.map,List.replicate,List.length_replicate,pve,seval,reduceCtorEq,mapO_map cn_nr,rows_map cn_nr]; exact ⟨_,rfl,rfl,rfl⟩)
      · have e : O.take many.toNat = O := List.take_of_length_le (by omega)
        rw [e]
        simp (disch := first|omega|(simp only[pvl];omega)) only [↓pvd,pva,Pv.put,bin2,int2,binB2,un1,AV.flat,pvf,szOk,notStr,setCells,AV.one,resX,layC,layA,lay,List.map,List.replicate,List.length_replicate,pve,seval,reduceCtorEq,h1,h2,hla,hol]
        (refine Ends_rq [[.own 5 63]] ?_; simp (disch := first|omega|(simp only[pvl];omega)) only [↓pvd,pva,Pv.put,bin2,int2,binB2,un1,AV.flat,pvf,szOk,notStr,setCells,AV.one,resX,layC,layA,lay,List.map,List.replicate,List.length_replicate,pve,seval,reduceCtorEq,mapO_map cn_nr,rows_map cn_nr]; exact ⟨_,rfl,rfl,rfl⟩)
end Go.Proofs
set_option linter.unusedSimpArgs false
set_option linter.unusedVariables false
set_option maxHeartbeats 2000000
set_option maxRecDepth 20000
namespace Go.Proofs
open Go.Pv Go.Pv.Hq
set_option maxHeartbeats 8000000 in
theorem rtext_run (l : List Cn) (f : Bool) (hl : l.length ≤ 10000) (hok : ∀ c ∈ l, CnOk c) : Run Try.prog 20 [.sl 5 (l.map cnA) f] (.str (textS l)) := by
  refine Try.run20 (by simp) ?_
  unfold Try.c20
  have hla : (l.map cnA).length = l.length := List.length_map _
  have hfin : textS l = textS (l.take l.length) := by rw [List.take_length]
  rw [hfin]
  simp (disch := first|omega|(simp only[pvl];omega)) only [↓pvd,pva,Pv.put,bin2,int2,binB2,un1,AV.flat,pvf,szOk,notStr,setCells,AV.one,resX,layC,layA,lay,List.map,List.replicate,List.length_replicate,pve,seval,reduceCtorEq,hla]
  refine aw_loop (fun k : Nat => ⟨[(0, .sl 5 (l.map cnA) f), (3, .str (textS (l.take k))), (4, .int .i64 k)], []⟩) (fun k => k ≤ l.length) (fun k => l.length - k) 0 ?_ (by omega) ?_
  · simp (disch := first | omega | (simp only [pvl] at *; omega)) only [↓pvd,pva,Pv.put,bin2,int2,binB2,un1,AV.flat,pvf,szOk,notStr,setCells,AV.one,resX,layC,layA,lay,List.map,List.replicate,List.length_replicate,pve,seval,reduceCtorEq]
    try rfl
  intro k hk
  unfold Try.c20b0
  by_cases hx : k < l.length
  · have hgi : (l.map cnA)[k]? = some (.agg [.int .i64 l[k]!.p, .int .i64 l[k]!.f, .int .i64 l[k]!.b, .int .i64 l[k]!.s, .int .i64 l[k]!.e]) := map_get hx
    have hsn := textS_snoc hx
    have hc : CnOk l[k]! := by rw [getElem!_pos l k hx]; exact hok _ (List.getElem_mem hx)
    have hT : (textS (l.take k)).length ≤ 700000 := by
      have h := textS_len (l := l.take k) fun c hc => hok c (List.mem_of_mem_take hc)
      rw [List.length_take] at h
      omega
    have h1 := txF_le l[k]!.p hc.1.1 hc.1.2
    have h2 := txF_le l[k]!.f hc.2.1.1 hc.2.1.2
    have h3 := txF_le l[k]!.b hc.2.2.1.1 hc.2.2.1.2
    clear hfin
    generalize l[k]! = x at *
    generalize hT1 : textS (l.take (k + 1)) = T1 at *
    generalize textS (l.take k) = T at *
    have hsn2 : T1 = T ++ Nm.txF x.p ++ [32] ++ Nm.txF x.f ++ [32] ++ Nm.txF x.b ++ [10] := by rw [hsn]; simp [ctx]
    have q1 := Nm.rtext_runx x.p hc.1.1 hc.1.2
    have q2 := Nm.rtext_runx x.f hc.2.1.1 hc.2.1.2
    have q3 := Nm.rtext_runx x.b hc.2.2.1.1 hc.2.2.1.2
    generalize Nm.txF x.p = t1 at *
    generalize Nm.txF x.f = t2 at *
    generalize Nm.txF x.b = t3 at *
    simp (disch := first|omega|(simp only[pvl];omega)) only [↓pvd,pva,Pv.put,bin2,int2,binB2,un1,AV.flat,pvf,szOk,notStr,setCells,AV.one,resX,layC,layA,lay,List.map,List.replicate,List.length_replicate,pve,seval,reduceCtorEq,hgi,hla]
    refine awR_callD q1 (by simp (disch := first | omega | (simp only [pvl] at *; omega)) only [↓pvd,pva,Pv.put,bin2,int2,binB2,un1,AV.flat,pvf,szOk,notStr,setCells,AV.one,resX,layC,layA,lay,List.map,List.replicate,List.length_replicate,pve,seval,reduceCtorEq]) rfl (fun _ => rfl) ?_
    simp (disch := first|omega|(simp only[pvl];omega)) only [↓pvd,pva,Pv.put,bin2,int2,binB2,un1,AV.flat,pvf,szOk,notStr,setCells,AV.one,resX,layC,layA,lay,List.map,List.replicate,List.length_replicate,pve,seval,reduceCtorEq,hgi,hla]
    refine awR_callD q2 (by simp (disch := first | omega | (simp only [pvl] at *; omega)) only [↓pvd,pva,Pv.put,bin2,int2,binB2,un1,AV.flat,pvf,szOk,notStr,setCells,AV.one,resX,layC,layA,lay,List.map,List.replicate,List.length_replicate,pve,seval,reduceCtorEq]) rfl (fun _ => rfl) ?_
    simp (disch := first|omega|(simp only[pvl];omega)) only [↓pvd,pva,Pv.put,bin2,int2,binB2,un1,AV.flat,pvf,szOk,notStr,setCells,AV.one,resX,layC,layA,lay,List.map,List.replicate,List.length_replicate,pve,seval,reduceCtorEq,hgi,hla]
    refine awR_callD q3 (by simp (disch := first | omega | (simp only [pvl] at *; omega)) only [↓pvd,pva,Pv.put,bin2,int2,binB2,un1,AV.flat,pvf,szOk,notStr,setCells,AV.one,resX,layC,layA,lay,List.map,List.replicate,List.length_replicate,pve,seval,reduceCtorEq]) rfl (fun _ => rfl) ?_
    simp (disch := first|omega|(simp only[pvl];omega)) only [↓pvd,pva,Pv.put,bin2,int2,binB2,un1,AV.flat,pvf,szOk,notStr,setCells,AV.one,resX,layC,layA,lay,List.map,List.replicate,List.length_replicate,pve,seval,reduceCtorEq,hgi,hla]
    refine ⟨k + 1, ?_, by omega, by omega⟩
    rw [hT1, hsn2]
    simp
  · obtain rfl : k = l.length := by omega
    simp (disch := first|omega|(simp only[pvl];omega)) only [↓pvd,pva,Pv.put,bin2,int2,binB2,un1,AV.flat,pvf,szOk,notStr,setCells,AV.one,resX,layC,layA,lay,List.map,List.replicate,List.length_replicate,pve,seval,reduceCtorEq,hla]
    (refine Ends_rq [] ?_; simp (disch := first|omega|(simp only[pvl];omega)) only [↓pvd,pva,Pv.put,bin2,int2,binB2,un1,AV.flat,pvf,szOk,notStr,setCells,AV.one,resX,layC,layA,lay,List.map,List.replicate,List.length_replicate,pve,seval,reduceCtorEq]; exact ⟨_,rfl,rfl,rfl⟩)
end Go.Proofs
set_option linter.unusedSimpArgs false
set_option linter.unusedVariables false
set_option maxHeartbeats 2000000
set_option maxRecDepth 20000
namespace Go.Proofs
open Go.Pv Go.Pv.Hq
theorem topS_len (l : List Cn) (many : Int) : (topS l many).length ≤ l.length := by
  have h := outR_len l l.length
  rw [topS_eq, List.length_take]
  omega
theorem mergeS_len (a b : List Cn) : (mergeS a b).length ≤ a.length + b.length := by
  have h := foldK_len (a ++ b) (a ++ b).length
  rw [List.length_append] at h
  unfold mergeS
  rw [List.length_append]
  exact h
set_option maxHeartbeats 16000000 in
theorem statsLists_run (a b : List Cn) (many : Int) (ha : a.length ≤ maxLen) (hb : b.length ≤ maxLen) (hwa : ∀ c ∈ a, CnOk c) (hwb : ∀ c ∈ b, CnOk c) (hm : -9223372036854775808 ≤ many ∧ many ≤ 9223372036854775807) :
    Run Try.prog 5 [.sl 5 (a.map cnA) false, .sl 5 (b.map cnA) false, .int .i64 many] (.bool true) := by
  have w := works_run
  refine Try.run5 (by simp) ?_
  unfold Try.c5
  have hla : (a.map cnA).length = a.length := List.length_map _
  have hlb : (b.map cnA).length = b.length := List.length_map _
  simp only [maxLen] at ha hb
  by_cases h1 : 200 < a.length
  · simp (disch := first|omega|(simp only[pvl];omega)) only [↓pvd,pva,Pv.put,bin2,int2,binB2,un1,AV.flat,pvf,szOk,notStr,setCells,AV.one,resX,layC,layA,lay,List.map,List.replicate,List.length_replicate,pve,seval,reduceCtorEq,hla,hlb,h1]
    refine awR_call w rfl rfl ?_
    simp (disch := first | omega | (simp only [pvl] at *; omega)) only [↓pvd,pva,Pv.put,bin2,int2,binB2,un1,AV.flat,pvf,szOk,notStr,setCells,AV.one,resX,layC,layA,lay,List.map,List.replicate,List.length_replicate,pve,seval,reduceCtorEq]
    (refine Ends_rq [] ?_; simp (disch := first|omega|(simp only[pvl];omega)) only [↓pvd,pva,Pv.put,bin2,int2,binB2,un1,AV.flat,pvf,szOk,notStr,setCells,AV.one,resX,layC,layA,lay,List.map,List.replicate,List.length_replicate,pve,seval,reduceCtorEq]; exact ⟨_,rfl,rfl,rfl⟩)
  by_cases h2 : 200 < b.length
  · simp (disch := first|omega|(simp only[pvl];omega)) only [↓pvd,pva,Pv.put,bin2,int2,binB2,un1,AV.flat,pvf,szOk,notStr,setCells,AV.one,resX,layC,layA,lay,List.map,List.replicate,List.length_replicate,pve,seval,reduceCtorEq,hla,hlb,h1,h2]
    refine awR_call w rfl rfl ?_
    simp (disch := first | omega | (simp only [pvl] at *; omega)) only [↓pvd,pva,Pv.put,bin2,int2,binB2,un1,AV.flat,pvf,szOk,notStr,setCells,AV.one,resX,layC,layA,lay,List.map,List.replicate,List.length_replicate,pve,seval,reduceCtorEq]
    (refine Ends_rq [] ?_; simp (disch := first|omega|(simp only[pvl];omega)) only [↓pvd,pva,Pv.put,bin2,int2,binB2,un1,AV.flat,pvf,szOk,notStr,setCells,AV.one,resX,layC,layA,lay,List.map,List.replicate,List.length_replicate,pve,seval,reduceCtorEq]; exact ⟨_,rfl,rfl,rfl⟩)
  have q1 := run_frz (top_run a many false (by omega) hm)
  have tl := topS_len a many
  have ml := mergeS_len a b
  have q2 := run_frz (told_run (topS a many) false (by omega))
  have q3 := run_frz (told_run a false (by omega))
  have q4 := run_frz (rtop_run a false many (by omega))
  have q5 := same_run (topS a many) false false (by omega)
  have q6 := run_frz (merge_run a b false false hwa hwb (by omega) (by omega))
  have q7 := run_frz (told_run (mergeS a b) false (by omega))
  have q8 := run_frz (told_run b false (by omega))
  have q9 := run_frz (rmerge_run a b false false (by omega) (by omega))
  have q10 := same_run (mergeS a b) false false (by omega)
  have q11 := stext_run a false (by omega) hwa
  have q12 := rtext_run a false (by omega) hwa
  simp only [frz,frzA,frzC] at q1 q2 q3 q4 q6 q7 q8 q9
  simp (disch := first|omega|(simp only[pvl];omega)) only [↓pvd,pva,Pv.put,bin2,int2,binB2,un1,AV.flat,pvf,szOk,notStr,setCells,AV.one,resX,layC,layA,lay,List.map,List.replicate,List.length_replicate,pve,seval,reduceCtorEq,hla,hlb,h1,h2]
  refine awR_call q1 rfl rfl ?_
  simp (disch := first | omega | (simp only [pvl] at *; omega)) only [↓pvd,pva,Pv.put,bin2,int2,binB2,un1,AV.flat,pvf,szOk,notStr,setCells,AV.one,resX,layC,layA,lay,List.map,List.replicate,List.length_replicate,pve,seval,reduceCtorEq]
  refine awR_call q2 rfl rfl ?_
  simp (disch := first | omega | (simp only [pvl] at *; omega)) only [↓pvd,pva,Pv.put,bin2,int2,binB2,un1,AV.flat,pvf,szOk,notStr,setCells,AV.one,resX,layC,layA,lay,List.map,List.replicate,List.length_replicate,pve,seval,reduceCtorEq]
  refine awR_call q3 rfl rfl ?_
  simp (disch := first | omega | (simp only [pvl] at *; omega)) only [↓pvd,pva,Pv.put,bin2,int2,binB2,un1,AV.flat,pvf,szOk,notStr,setCells,AV.one,resX,layC,layA,lay,List.map,List.replicate,List.length_replicate,pve,seval,reduceCtorEq]
  refine awR_call q4 rfl rfl ?_
  simp (disch := first | omega | (simp only [pvl] at *; omega)) only [↓pvd,pva,Pv.put,bin2,int2,binB2,un1,AV.flat,pvf,szOk,notStr,setCells,AV.one,resX,layC,layA,lay,List.map,List.replicate,List.length_replicate,pve,seval,reduceCtorEq]
  refine awR_call q5 rfl rfl ?_
  simp (disch := first | omega | (simp only [pvl] at *; omega)) only [↓pvd,pva,Pv.put,bin2,int2,binB2,un1,AV.flat,pvf,szOk,notStr,setCells,AV.one,resX,layC,layA,lay,List.map,List.replicate,List.length_replicate,pve,seval,reduceCtorEq]
  refine awR_call q6 rfl rfl ?_
  simp (disch := first | omega | (simp only [pvl] at *; omega)) only [↓pvd,pva,Pv.put,bin2,int2,binB2,un1,AV.flat,pvf,szOk,notStr,setCells,AV.one,resX,layC,layA,lay,List.map,List.replicate,List.length_replicate,pve,seval,reduceCtorEq]
  refine awR_call q7 rfl rfl ?_
  simp (disch := first | omega | (simp only [pvl] at *; omega)) only [↓pvd,pva,Pv.put,bin2,int2,binB2,un1,AV.flat,pvf,szOk,notStr,setCells,AV.one,resX,layC,layA,lay,List.map,List.replicate,List.length_replicate,pve,seval,reduceCtorEq]
  refine awR_call q3 rfl rfl ?_
  simp (disch := first | omega | (simp only [pvl] at *; omega)) only [↓pvd,pva,Pv.put,bin2,int2,binB2,un1,AV.flat,pvf,szOk,notStr,setCells,AV.one,resX,layC,layA,lay,List.map,List.replicate,List.length_replicate,pve,seval,reduceCtorEq]
  refine awR_call q8 rfl rfl ?_
  simp (disch := first | omega | (simp only [pvl] at *; omega)) only [↓pvd,pva,Pv.put,bin2,int2,binB2,un1,AV.flat,pvf,szOk,notStr,setCells,AV.one,resX,layC,layA,lay,List.map,List.replicate,List.length_replicate,pve,seval,reduceCtorEq]
  refine awR_call q9 rfl rfl ?_
  simp (disch := first | omega | (simp only [pvl] at *; omega)) only [↓pvd,pva,Pv.put,bin2,int2,binB2,un1,AV.flat,pvf,szOk,notStr,setCells,AV.one,resX,layC,layA,lay,List.map,List.replicate,List.length_replicate,pve,seval,reduceCtorEq]
  refine awR_call q10 rfl rfl ?_
  simp (disch := first | omega | (simp only [pvl] at *; omega)) only [↓pvd,pva,Pv.put,bin2,int2,binB2,un1,AV.flat,pvf,szOk,notStr,setCells,AV.one,resX,layC,layA,lay,List.map,List.replicate,List.length_replicate,pve,seval,reduceCtorEq]
  refine awR_call q11 rfl rfl ?_
  simp (disch := first | omega | (simp only [pvl] at *; omega)) only [↓pvd,pva,Pv.put,bin2,int2,binB2,un1,AV.flat,pvf,szOk,notStr,setCells,AV.one,resX,layC,layA,lay,List.map,List.replicate,List.length_replicate,pve,seval,reduceCtorEq]
  refine awR_call q3 rfl rfl ?_
  simp (disch := first | omega | (simp only [pvl] at *; omega)) only [↓pvd,pva,Pv.put,bin2,int2,binB2,un1,AV.flat,pvf,szOk,notStr,setCells,AV.one,resX,layC,layA,lay,List.map,List.replicate,List.length_replicate,pve,seval,reduceCtorEq]
  refine awR_call q12 rfl rfl ?_
  simp (disch := first|omega|(simp only[pvl];omega)) only [↓pvd,pva,Pv.put,bin2,int2,binB2,un1,AV.flat,pvf,szOk,notStr,setCells,AV.one,resX,layC,layA,lay,List.map,List.replicate,List.length_replicate,pve,seval,reduceCtorEq,beq_self_eq_true]
  refine awR_call w rfl rfl ?_
  simp (disch := first | omega | (simp only [pvl] at *; omega)) only [↓pvd,pva,Pv.put,bin2,int2,binB2,un1,AV.flat,pvf,szOk,notStr,setCells,AV.one,resX,layC,layA,lay,List.map,List.replicate,List.length_replicate,pve,seval,reduceCtorEq]
  (refine Ends_rq [] ?_; simp (disch := first|omega|(simp only[pvl];omega)) only [↓pvd,pva,Pv.put,bin2,int2,binB2,un1,AV.flat,pvf,szOk,notStr,setCells,AV.one,resX,layC,layA,lay,List.map,List.replicate,List.length_replicate,pve,seval,reduceCtorEq]; exact ⟨_,rfl,rfl,rfl⟩)
theorem i64w {m : Int} (w : (Lit.int .i64 m).wf = true) : -9223372036854775808 ≤ m ∧ m < 9223372036854775808 := by
  simp [Lit.wf, IntKind.min, IntKind.max, IntKind.signed, IntKind.bits] at w
  omega
theorem dat_cn {d : Nat} {y : AV} (h : DatV Try.prog (d + 4) 27 y) : ∃ c : Cn, y = cnA c ∧ CnOk c := by
  obtain ⟨cs, rfl, hl, hf⟩ := dat_struct Try.underlying27 h
  rw [show Try.prog.cellsOf 27 = 5 by kernel_rfl] at hl
  match cs, hl with
  | [x0, x1, x2, x3, x4], _ =>
    simp only [List.mem_cons,List.not_mem_nil,or_false,forall_eq_or_imp,forall_eq] at hf
    obtain ⟨f0, f1, f2, f3, f4⟩ := hf
    rw [show Try.prog.cellsOf 3 = 1 by kernel_rfl] at f0 f1 f2 f3 f4
    obtain ⟨m0, e0, w0⟩ := dat1_int Try.underlying3 f0
    obtain ⟨m1, e1, w1⟩ := dat1_int Try.underlying3 f1
    obtain ⟨m2, e2, w2⟩ := dat1_int Try.underlying3 f2
    obtain ⟨m3, e3, w3⟩ := dat1_int Try.underlying3 f3
    obtain ⟨m4, e4, w4⟩ := dat1_int Try.underlying3 f4
    simp at e0 e1 e2 e3 e4
    subst e0 e1 e2 e3 e4
    exact ⟨⟨m0, m1, m2, m3, m4⟩, rfl, i64w w0, i64w w1, i64w w2, i64w w3, i64w w4⟩
theorem statsLists_all : ∀ xs, DatL Try.prog 6 Try.f5.params.toList xs → Run Try.prog 5 xs (.bool true) := by
  intro xs h
  rw [show Try.f5.params.toList = [22, 22, 3] from rfl] at h
  obtain ⟨y1, y2, y3, rfl, h1, h2, h3⟩ := datL3 h
  obtain ⟨es, rfl, hl, g1⟩ := dat_slice Try.underlying22 h1
  obtain ⟨l, rfl, hk⟩ := map_ofP (f := cnA) (p := CnOk) (es := es) fun x hx => dat_cn (g1 x hx)
  obtain ⟨es2, rfl, hl2, g2⟩ := dat_slice Try.underlying22 h2
  obtain ⟨l2, rfl, hk2⟩ := map_ofP (f := cnA) (p := CnOk) (es := es2) fun x hx => dat_cn (g2 x hx)
  obtain ⟨m, rfl, wm⟩ := dat_int Try.underlying3 h3
  have := i64w wm
  rw [show Try.prog.cellsOf 27 = 5 by kernel_rfl]
  exact statsLists_run l l2 m (by simpa using hl) (by simpa using hl2) hk hk2 (by omega)
end Go.Proofs
