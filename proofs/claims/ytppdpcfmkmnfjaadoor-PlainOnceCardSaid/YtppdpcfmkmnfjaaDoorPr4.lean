/- The proofs of what the functions of this seat do. -/
import Derived.Test.YtppdpcfmkmnfjaaDoorPr3
import Derived.Below
import Derived.Lib.Join
import Derived.Shelf.Strings.OnBuilder
set_option linter.unusedSimpArgs false
set_option linter.unusedVariables false
set_option maxHeartbeats 2000000
set_option maxRecDepth 20000
namespace Go.Proofs
namespace Nm
open Go.Pv
theorem swF_stop (w : List UInt8) (n i fr : Nat) (out : List (List UInt8)) (h : i < w.length → w[i]! = 35) : swF w n i fr out = enO w i fr out := by
  cases n with
  | zero => rfl
  | succ n =>
    unfold swF
    split
    · rw [if_pos (h ‹_›)]
    · rfl
theorem swF_blank (w : List UInt8) (i fr : Nat) (out : List (List UInt8)) (hi : i < w.length) (h : w[i]! ≠ 35) (hb : w[i]! = 32 ∨ w[i]! = 9) : swF w (w.length + 1 - i) i fr out = swF w (w.length + 1 - (i + 1)) (i + 1) (i + 1) (enO w i fr out) := by
  rw [show w.length + 1 - i = (w.length + 1 - (i + 1)) + 1 by omega, swF, if_pos hi, if_neg h, if_pos hb]
theorem swF_other (w : List UInt8) (i fr : Nat) (out : List (List UInt8)) (hi : i < w.length) (h : w[i]! ≠ 35) (hb : ¬(w[i]! = 32 ∨ w[i]! = 9)) : swF w (w.length + 1 - i) i fr out = swF w (w.length + 1 - (i + 1)) (i + 1) fr out := by
  rw [show w.length + 1 - i = (w.length + 1 - (i + 1)) + 1 by omega, swF, if_pos hi, if_neg h, if_neg hb]
theorem stH_nil (w : List UInt8) (fr : Nat) : stH w fr [] = [some ⟨9, [.str w], true⟩, some ⟨38, [.sl 0 [] true], true⟩, some ⟨3, [.int .i64 fr], true⟩] := rfl
theorem u8ne {x : UInt8} {n : Nat} (h : x ≠ n.toUInt8) (hn : n < 256) : ¬((x.toNat : Int) = n) := by
  intro e
  apply h
  apply UInt8.toNat_inj.1
  simp
  omega
theorem stretches_run (w : List UInt8) (hw : w.length ≤ 50000) :
    Run Tryd.prog 50 [.str w] (strR (swV w)) := by
  refine Tryd.run50 (by simp) ?_
  unfold Tryd.c50
  simp (disch := first | omega | (simp only [pvl] at *; omega)) only [↓pvd,pva,Pv.put,bin2,int2,binB2,un1,AV.flat,pvf,szOk,notStr,setCells,AV.one,resX,layC,layA,lay,List.map,List.replicate,List.length_replicate,pve,seval,reduceCtorEq]
  refine aw_loop (stS w) (fun a => swF w (w.length + 1 - a.1) a.1 a.2.1 a.2.2 = swV w ∧ a.1 ≤ w.length ∧ a.2.2.length ≤ a.1) (fun a => w.length - a.1) (0, 0, []) rfl ⟨rfl, by simp, by simp⟩ ?_
  rintro ⟨i, fr, out⟩ ⟨hs, hi, hl⟩
  dsimp only at hs hi hl
  unfold stS Tryd.c50b0
  dsimp only
  by_cases h0 : out = []
  · subst h0
    by_cases hx : i < w.length
    · have hgi : w[i]? = some w[i]! := by rw [getElem!_pos w i hx, List.getElem?_eq_getElem hx]
      by_cases h35 : w[i]! = 35
      · have hq : ((w[i]!.toNat : Nat) : Int) = 35 := by rw [h35]; rfl
        rw [swF_stop w _ i fr [] (fun _ => h35)] at hs
        unfold strR
        rw [← hs]
        by_cases hf : fr < i
        · have q := str1_nil w i fr (by omega) hi hf
          rw [show enO w i fr [] = [(w.take i).drop fr] by unfold enO; rw [if_pos hf]; rfl, if_neg (by simp)]
          simp only [stH_nil,stK_nil] at q ⊢
          simp (disch := first|omega|(simp only[pvl];omega)) only [↓pvd,pva,Pv.put,bin2,int2,binB2,un1,AV.flat,pvf,szOk,notStr,setCells,AV.one,resX,layC,layA,lay,List.map,List.replicate,List.length_replicate,pve,seval,reduceCtorEq,hgi,bv]
          skip
          refine awR_callv rfl q (by simp) ?_
          simp (disch := first | omega | (simp only [pvl] at *; omega)) only [↓pvd,pva,Pv.put,bin2,int2,binB2,un1,AV.flat,pvf,szOk,notStr,setCells,AV.one,resX,layC,layA,lay,List.map,List.replicate,List.length_replicate,pve,seval,reduceCtorEq]
          (refine Ends_rq [[.own 1 9]] ?_; simp (disch := first|omega|(simp only[pvl];omega)) only [↓pvd,pva,Pv.put,bin2,int2,binB2,un1,AV.flat,pvf,szOk,notStr,setCells,AV.one,resX,layC,layA,lay,List.map,List.replicate,List.length_replicate,pve,seval,reduceCtorEq]; exact ⟨_,rfl,rfl,rfl⟩)
        · have q := str1_no w i fr [] (by omega) hi (by omega)
          rw [show enO w i fr [] = [] by unfold enO; rw [if_neg hf]]
          rw [if_pos rfl]
          simp only [stH_nil,stK_nil] at q ⊢
          simp (disch := first|omega|(simp only[pvl];omega)) only [↓pvd,pva,Pv.put,bin2,int2,binB2,un1,AV.flat,pvf,szOk,notStr,setCells,AV.one,resX,layC,layA,lay,List.map,List.replicate,List.length_replicate,pve,seval,reduceCtorEq,hgi,bv]
          skip
          refine awR_callv rfl q (by simp) ?_
          simp (disch := first | omega | (simp only [pvl] at *; omega)) only [↓pvd,pva,Pv.put,bin2,int2,binB2,un1,AV.flat,pvf,szOk,notStr,setCells,AV.one,resX,layC,layA,lay,List.map,List.replicate,List.length_replicate,pve,seval,reduceCtorEq]
          (refine Ends_rq [] ?_; simp (disch := first|omega|(simp only[pvl];omega)) only [↓pvd,pva,Pv.put,bin2,int2,binB2,un1,AV.flat,pvf,szOk,notStr,setCells,AV.one,resX,layC,layA,lay,List.map,List.replicate,List.length_replicate,pve,seval,reduceCtorEq]; exact ⟨_,rfl,rfl,rfl⟩)
      · have h35' : ¬ ((w[i]!.toNat : Nat) : Int) = 35 := u8ne (n := 35) h35 (by omega)
        by_cases hb : w[i]! = 32 ∨ w[i]! = 9
        · rw [swF_blank w i fr [] hx h35 hb] at hs
          by_cases hf : fr < i
          · have q := str1_nil w i fr (by omega) hi hf
            rw [show enO w i fr [] = [(w.take i).drop fr] by unfold enO; rw [if_pos hf]; rfl] at hs
            simp only [stH_nil,stK_nil] at q ⊢
            have hq : ((w[i]!.toNat : Nat) : Int) = 32 ∨ ((w[i]!.toNat : Nat) : Int) = 9 := by rcases hb with hb | hb <;> rw [hb] <;> simp
            rcases hq with hq | hq
            all_goals
              simp (disch := first|omega|(simp only[pvl];omega)) only [↓pvd,pva,Pv.put,bin2,int2,binB2,un1,AV.flat,pvf,szOk,notStr,setCells,AV.one,resX,layC,layA,lay,List.map,List.replicate,List.length_replicate,pve,seval,reduceCtorEq,hgi,bv]
              refine awR_callv rfl q (by simp) ?_
              simp (disch := first|omega|(simp only[pvl];omega)) only [↓pvd,pva,Pv.put,bin2,int2,binB2,un1,AV.flat,pvf,szOk,notStr,setCells,AV.one,resX,layC,layA,lay,List.map,List.replicate,List.length_replicate,pve,seval,reduceCtorEq,ids_map str_pl,ren_map str_pl]
              refine ⟨(i + 1, i + 1, [(w.take i).drop fr]), rfl, ⟨hs, ?_, ?_⟩, ?_⟩ <;> dsimp only
              · omega
              · simp
              · omega
          · have q := str1_no w i fr [] (by omega) hi (by omega)
            rw [show enO w i fr [] = [] by unfold enO; rw [if_neg hf]] at hs
            simp only [stH_nil,stK_nil] at q ⊢
            have hq : ((w[i]!.toNat : Nat) : Int) = 32 ∨ ((w[i]!.toNat : Nat) : Int) = 9 := by rcases hb with hb | hb <;> rw [hb] <;> simp
            rcases hq with hq | hq
            all_goals
              simp (disch := first|omega|(simp only[pvl];omega)) only [↓pvd,pva,Pv.put,bin2,int2,binB2,un1,AV.flat,pvf,szOk,notStr,setCells,AV.one,resX,layC,layA,lay,List.map,List.replicate,List.length_replicate,pve,seval,reduceCtorEq,hgi,bv]
              refine awR_callv rfl q (by simp) ?_
              simp (disch := first|omega|(simp only[pvl];omega)) only [↓pvd,pva,Pv.put,bin2,int2,binB2,un1,AV.flat,pvf,szOk,notStr,setCells,AV.one,resX,layC,layA,lay,List.map,List.replicate,List.length_replicate,pve,seval,reduceCtorEq,ids_map str_pl,ren_map str_pl]
              refine ⟨(i + 1, i + 1, []), rfl, ⟨hs, ?_, ?_⟩, ?_⟩ <;> dsimp only
              · omega
              · simp
              · omega
        · rw [swF_other w i fr [] hx h35 hb] at hs
          have h32 : ¬ ((w[i]!.toNat : Nat) : Int) = 32 := u8ne (n := 32) (fun e => hb (.inl e)) (by omega)
          have h9 : ¬ ((w[i]!.toNat : Nat) : Int) = 9 := u8ne (n := 9) (fun e => hb (.inr e)) (by omega)
          simp only [stH_nil,stK_nil]
          simp (disch := first|omega|(simp only[pvl];omega)) only [↓pvd,pva,Pv.put,bin2,int2,binB2,un1,AV.flat,pvf,szOk,notStr,setCells,AV.one,resX,layC,layA,lay,List.map,List.replicate,List.length_replicate,pve,seval,reduceCtorEq,hgi,bv,ids_map str_pl,ren_map str_pl]
          refine ⟨(i + 1, fr, []), rfl, ⟨hs, ?_, ?_⟩, ?_⟩ <;> dsimp only
          · omega
          · simp
          · omega
    · rw [swF_stop w _ i fr [] (fun h => absurd h hx)] at hs
      unfold strR
      rw [← hs]
      by_cases hf : fr < i
      · have q := str1_nil w i fr (by omega) hi hf
        rw [show enO w i fr [] = [(w.take i).drop fr] by unfold enO; rw [if_pos hf]; rfl, if_neg (by simp)]
        simp only [stH_nil,stK_nil] at q ⊢
        simp (disch := first | omega | (simp only [pvl] at *; omega)) only [↓pvd,pva,Pv.put,bin2,int2,binB2,un1,AV.flat,pvf,szOk,notStr,setCells,AV.one,resX,layC,layA,lay,List.map,List.replicate,List.length_replicate,pve,seval,reduceCtorEq]
        refine awR_callv rfl q (by simp) ?_
        simp (disch := first | omega | (simp only [pvl] at *; omega)) only [↓pvd,pva,Pv.put,bin2,int2,binB2,un1,AV.flat,pvf,szOk,notStr,setCells,AV.one,resX,layC,layA,lay,List.map,List.replicate,List.length_replicate,pve,seval,reduceCtorEq]
        (refine Ends_rq [[.own 1 9]] ?_; simp (disch := first|omega|(simp only[pvl];omega)) only [↓pvd,pva,Pv.put,bin2,int2,binB2,un1,AV.flat,pvf,szOk,notStr,setCells,AV.one,resX,layC,layA,lay,List.map,List.replicate,List.length_replicate,pve,seval,reduceCtorEq]; exact ⟨_,rfl,rfl,rfl⟩)
      · have q := str1_no w i fr [] (by omega) hi (by omega)
        rw [show enO w i fr [] = [] by unfold enO; rw [if_neg hf]]
        rw [if_pos rfl]
        simp only [stH_nil,stK_nil] at q ⊢
        simp (disch := first | omega | (simp only [pvl] at *; omega)) only [↓pvd,pva,Pv.put,bin2,int2,binB2,un1,AV.flat,pvf,szOk,notStr,setCells,AV.one,resX,layC,layA,lay,List.map,List.replicate,List.length_replicate,pve,seval,reduceCtorEq]
        refine awR_callv rfl q (by simp) ?_
        simp (disch := first | omega | (simp only [pvl] at *; omega)) only [↓pvd,pva,Pv.put,bin2,int2,binB2,un1,AV.flat,pvf,szOk,notStr,setCells,AV.one,resX,layC,layA,lay,List.map,List.replicate,List.length_replicate,pve,seval,reduceCtorEq]
        (refine Ends_rq [] ?_; simp (disch := first|omega|(simp only[pvl];omega)) only [↓pvd,pva,Pv.put,bin2,int2,binB2,un1,AV.flat,pvf,szOk,notStr,setCells,AV.one,resX,layC,layA,lay,List.map,List.replicate,List.length_replicate,pve,seval,reduceCtorEq]; exact ⟨_,rfl,rfl,rfl⟩)
  · by_cases hx : i < w.length
    · have hgi : w[i]? = some w[i]! := by rw [getElem!_pos w i hx, List.getElem?_eq_getElem hx]
      by_cases h35 : w[i]! = 35
      · have hq : ((w[i]!.toNat : Nat) : Int) = 35 := by rw [h35]; rfl
        rw [swF_stop w _ i fr out (fun _ => h35)] at hs
        unfold strR
        rw [← hs]
        by_cases hf : fr < i
        · have q := str1_appL w i fr out h0 (by omega) hi hf (by omega)
          rw [show enO w i fr out = out ++ [(w.take i).drop fr] by unfold enO; rw [if_pos hf], if_neg (by simp)]
          simp only [stH_ne w fr out h0] at q
          generalize (w.take i).drop fr = z at q ⊢
          simp only [stK_ne h0,stH_ne w fr out h0]
          simp (disch := first|omega|(simp only[pvl];omega)) only [↓pvd,pva,Pv.put,bin2,int2,binB2,un1,AV.flat,pvf,szOk,notStr,setCells,AV.one,resX,layC,layA,lay,List.map,List.replicate,List.length_replicate,pve,seval,reduceCtorEq,hgi,bv]
          skip
          refine awR_callv rfl q (by simp) ?_
          simp (disch := first|omega|(simp only[pvl];omega)) only [↓pvd,pva,Pv.put,bin2,int2,binB2,un1,AV.flat,pvf,szOk,notStr,setCells,AV.one,resX,layC,layA,lay,List.map,List.replicate,List.length_replicate,pve,seval,reduceCtorEq,ids_map str_pl,ren_map str_pl,List.flatMap_append,List.map_append]
          rw [show out.length + 1 = (out ++ [z]).length by simp, show out.map AV.str ++ [AV.str z] = (out ++ [z]).map AV.str by simp]
          generalize out ++ [z] = L2
          (refine Ends_rq [[.own 1 9]] ?_; simp (disch := first|omega|(simp only[pvl];omega)) only [↓pvd,pva,Pv.put,bin2,int2,binB2,un1,AV.flat,pvf,szOk,notStr,setCells,AV.one,resX,layC,layA,lay,List.map,List.replicate,List.length_replicate,pve,seval,reduceCtorEq,ids_map str_pl,ren_map str_pl,mapO_map str_nr,rows_map str_nr]; exact ⟨_,rfl,rfl,rfl⟩)
        · have q := str1_no w i fr out (by omega) hi (by omega)
          rw [show enO w i fr out = out by unfold enO; rw [if_neg hf], if_neg h0]
          simp only [stK_ne h0,stH_ne w fr out h0,stH_ne w (i + 1) out h0] at q
          simp only [stK_ne h0,stH_ne w fr out h0]
          simp (disch := first|omega|(simp only[pvl];omega)) only [↓pvd,pva,Pv.put,bin2,int2,binB2,un1,AV.flat,pvf,szOk,notStr,setCells,AV.one,resX,layC,layA,lay,List.map,List.replicate,List.length_replicate,pve,seval,reduceCtorEq,hgi,bv]
          skip
          refine awR_callv rfl q (by simp) ?_
          simp (disch := first|omega|(simp only[pvl];omega)) only [↓pvd,pva,Pv.put,bin2,int2,binB2,un1,AV.flat,pvf,szOk,notStr,setCells,AV.one,resX,layC,layA,lay,List.map,List.replicate,List.length_replicate,pve,seval,reduceCtorEq,ids_map str_pl,ren_map str_pl]
          (refine Ends_rq [[.own 1 9]] ?_; simp (disch := first|omega|(simp only[pvl];omega)) only [↓pvd,pva,Pv.put,bin2,int2,binB2,un1,AV.flat,pvf,szOk,notStr,setCells,AV.one,resX,layC,layA,lay,List.map,List.replicate,List.length_replicate,pve,seval,reduceCtorEq,ids_map str_pl,ren_map str_pl,mapO_map str_nr,rows_map str_nr]; exact ⟨_,rfl,rfl,rfl⟩)
      · have h35' : ¬ ((w[i]!.toNat : Nat) : Int) = 35 := u8ne (n := 35) h35 (by omega)
        by_cases hb : w[i]! = 32 ∨ w[i]! = 9
        · rw [swF_blank w i fr out hx h35 hb] at hs
          by_cases hf : fr < i
          · have q := str1_appL w i fr out h0 (by omega) hi hf (by omega)
            rw [show enO w i fr out = out ++ [(w.take i).drop fr] by unfold enO; rw [if_pos hf]] at hs
            simp only [stK_ne h0,stH_ne w fr out h0] at q ⊢
            have hq : ((w[i]!.toNat : Nat) : Int) = 32 ∨ ((w[i]!.toNat : Nat) : Int) = 9 := by rcases hb with hb | hb <;> rw [hb] <;> simp
            rcases hq with hq | hq
            all_goals
              simp (disch := first|omega|(simp only[pvl];omega)) only [↓pvd,pva,Pv.put,bin2,int2,binB2,un1,AV.flat,pvf,szOk,notStr,setCells,AV.one,resX,layC,layA,lay,List.map,List.replicate,List.length_replicate,pve,seval,reduceCtorEq,hgi,bv]
              refine awR_callv rfl q (by simp) ?_
              simp (disch := first|omega|(simp only[pvl];omega)) only [↓pvd,pva,Pv.put,bin2,int2,binB2,un1,AV.flat,pvf,szOk,notStr,setCells,AV.one,resX,layC,layA,lay,List.map,List.replicate,List.length_replicate,pve,seval,reduceCtorEq,ids_map str_pl,ren_map str_pl,List.flatMap_append,List.map_append]
              refine ⟨(i + 1, i + 1, out ++ [(w.take i).drop fr]), ?_, ⟨hs, ?_, ?_⟩, ?_⟩ <;> dsimp only
              · rw [stH_ne _ _ _ (by simp), stK_ne (by simp)]
                simp
              · omega
              · simp; omega
              · omega
          · have q := str1_no w i fr out (by omega) hi (by omega)
            rw [show enO w i fr out = out by unfold enO; rw [if_neg hf]] at hs
            simp only [stK_ne h0,stH_ne w fr out h0,stH_ne w (i + 1) out h0] at q ⊢
            have hq : ((w[i]!.toNat : Nat) : Int) = 32 ∨ ((w[i]!.toNat : Nat) : Int) = 9 := by rcases hb with hb | hb <;> rw [hb] <;> simp
            rcases hq with hq | hq
            all_goals
              simp (disch := first|omega|(simp only[pvl];omega)) only [↓pvd,pva,Pv.put,bin2,int2,binB2,un1,AV.flat,pvf,szOk,notStr,setCells,AV.one,resX,layC,layA,lay,List.map,List.replicate,List.length_replicate,pve,seval,reduceCtorEq,hgi,bv]
              refine awR_callv rfl q (by simp) ?_
              simp (disch := first|omega|(simp only[pvl];omega)) only [↓pvd,pva,Pv.put,bin2,int2,binB2,un1,AV.flat,pvf,szOk,notStr,setCells,AV.one,resX,layC,layA,lay,List.map,List.replicate,List.length_replicate,pve,seval,reduceCtorEq,ids_map str_pl,ren_map str_pl]
              refine ⟨(i + 1, i + 1, out), ?_, ⟨hs, ?_, ?_⟩, ?_⟩ <;> dsimp only
              · rw [stH_ne _ _ _ h0, stK_ne h0]
                rfl
              · omega
              · omega
              · omega
        · rw [swF_other w i fr out hx h35 hb] at hs
          have h32 : ¬ ((w[i]!.toNat : Nat) : Int) = 32 := u8ne (n := 32) (fun e => hb (.inl e)) (by omega)
          have h9 : ¬ ((w[i]!.toNat : Nat) : Int) = 9 := u8ne (n := 9) (fun e => hb (.inr e)) (by omega)
          simp only [stK_ne h0,stH_ne w fr out h0]
          simp (disch := first|omega|(simp only[pvl];omega)) only [↓pvd,pva,Pv.put,bin2,int2,binB2,un1,AV.flat,pvf,szOk,notStr,setCells,AV.one,resX,layC,layA,lay,List.map,List.replicate,List.length_replicate,pve,seval,reduceCtorEq,hgi,bv,ids_map str_pl,ren_map str_pl]
          refine ⟨(i + 1, fr, out), ?_, ⟨hs, ?_, ?_⟩, ?_⟩ <;> dsimp only
          · rw [stH_ne _ _ _ h0, stK_ne h0]
            rfl
          · omega
          · omega
          · omega
    · rw [swF_stop w _ i fr out (fun h => absurd h hx)] at hs
      unfold strR
      rw [← hs]
      by_cases hf : fr < i
      · have q := str1_appL w i fr out h0 (by omega) hi hf (by omega)
        rw [show enO w i fr out = out ++ [(w.take i).drop fr] by unfold enO; rw [if_pos hf], if_neg (by simp)]
        simp only [stH_ne w fr out h0] at q
        generalize (w.take i).drop fr = z at q ⊢
        simp only [stK_ne h0,stH_ne w fr out h0]
        simp (disch := first | omega | (simp only [pvl] at *; omega)) only [↓pvd,pva,Pv.put,bin2,int2,binB2,un1,AV.flat,pvf,szOk,notStr,setCells,AV.one,resX,layC,layA,lay,List.map,List.replicate,List.length_replicate,pve,seval,reduceCtorEq]
        refine awR_callv rfl q (by simp) ?_
        simp (disch := first|omega|(simp only[pvl];omega)) only [↓pvd,pva,Pv.put,bin2,int2,binB2,un1,AV.flat,pvf,szOk,notStr,setCells,AV.one,resX,layC,layA,lay,List.map,List.replicate,List.length_replicate,pve,seval,reduceCtorEq,ids_map str_pl,ren_map str_pl,List.flatMap_append,List.map_append]
        rw [show out.length + 1 = (out ++ [z]).length by simp, show out.map AV.str ++ [AV.str z] = (out ++ [z]).map AV.str by simp]
        generalize out ++ [z] = L2
        (refine Ends_rq [[.own 1 9]] ?_; simp (disch := first|omega|(simp only[pvl];omega)) only [↓pvd,pva,Pv.put,bin2,int2,binB2,un1,AV.flat,pvf,szOk,notStr,setCells,AV.one,resX,layC,layA,lay,List.map,List.replicate,List.length_replicate,pve,seval,reduceCtorEq,ids_map str_pl,ren_map str_pl,mapO_map str_nr,rows_map str_nr]; exact ⟨_,rfl,rfl,rfl⟩)
      · have q := str1_no w i fr out (by omega) hi (by omega)
        rw [show enO w i fr out = out by unfold enO; rw [if_neg hf], if_neg h0]
        simp only [stK_ne h0,stH_ne w fr out h0,stH_ne w (i + 1) out h0] at q
        simp only [stK_ne h0,stH_ne w fr out h0]
        simp (disch := first | omega | (simp only [pvl] at *; omega)) only [↓pvd,pva,Pv.put,bin2,int2,binB2,un1,AV.flat,pvf,szOk,notStr,setCells,AV.one,resX,layC,layA,lay,List.map,List.replicate,List.length_replicate,pve,seval,reduceCtorEq]
        refine awR_callv rfl q (by simp) ?_
        simp (disch := first|omega|(simp only[pvl];omega)) only [↓pvd,pva,Pv.put,bin2,int2,binB2,un1,AV.flat,pvf,szOk,notStr,setCells,AV.one,resX,layC,layA,lay,List.map,List.replicate,List.length_replicate,pve,seval,reduceCtorEq,ids_map str_pl,ren_map str_pl]
        (refine Ends_rq [[.own 1 9]] ?_; simp (disch := first|omega|(simp only[pvl];omega)) only [↓pvd,pva,Pv.put,bin2,int2,binB2,un1,AV.flat,pvf,szOk,notStr,setCells,AV.one,resX,layC,layA,lay,List.map,List.replicate,List.length_replicate,pve,seval,reduceCtorEq,ids_map str_pl,ren_map str_pl,mapO_map str_nr,rows_map str_nr]; exact ⟨_,rfl,rfl,rfl⟩)
end Nm
end Go.Proofs
set_option linter.unusedSimpArgs false
set_option linter.unusedVariables false
set_option maxHeartbeats 2000000
set_option maxRecDepth 20000
namespace Go.Proofs
namespace Nm
open Go.Pv
def okB (c : UInt8) : Bool := decide (32 < (c.toNat : Int) ∧ (c.toNat : Int) ≤ 126 ∧ ¬ (c.toNat : Int) = 35)
def okW (w : List UInt8) : Bool := w.all okB && decide (w ≠ [] ∧ w.length ≤ 40)
theorem all_no {w : List UInt8} {i : Nat} (hi : i < w.length) (h : okB w[i]! = false) : w.all okB = false := by
  rw [List.all_eq_false]
  exact ⟨w[i]!, by rw [getElem!_pos w i hi]; exact List.getElem_mem hi, by rw [h]; simp⟩
theorem all_yes {w : List UInt8} (h : ∀ k, k < w.length → okB w[k]! = true) : w.all okB = true := by
  rw [List.all_eq_true]
  intro c hc
  obtain ⟨k, hk, rfl⟩ := List.mem_iff_getElem.1 hc
  have := h k hk
  rwa [getElem!_pos w k hk] at this
theorem lword_run (w : List UInt8) (hw : w.length ≤ 100000) : Run Tryd.prog 51 [.str w] (.bool (okW w)) := by
  refine Tryd.run51 (by simp) ?_
  unfold Tryd.c51
  simp (disch := first | omega | (simp only [pvl] at *; omega)) only [↓pvd,pva,Pv.put,bin2,int2,binB2,un1,AV.flat,pvf,szOk,notStr,setCells,AV.one,resX,layC,layA,lay,List.map,List.replicate,List.length_replicate,pve,seval,reduceCtorEq]
  refine aw_loop (fun k : Nat => ⟨[(0, .str w), (5, .int .i64 w.length), (6, .int .i64 k)], []⟩) (fun k => k ≤ w.length ∧ ∀ j < k, okB w[j]! = true) (fun k => w.length - k) 0 rfl ⟨by omega, by simp⟩ ?_
  rintro k ⟨hk, hp⟩
  unfold Tryd.c51b0
  by_cases hx : k < w.length
  · have hgi : w[k]? = some w[k]! := by rw [getElem!_pos w k hx, List.getElem?_eq_getElem hx]
    by_cases ho : okB w[k]! = true
    · have h2 := of_decide_eq_true ho
      repeat' (first | (simp (disch := first|omega|(simp only[pvl];omega)) only [↓pvd,pva,Pv.put,bin2,int2,binB2,un1,AV.flat,pvf,szOk,notStr,setCells,AV.one,resX,layC,layA,lay,List.map,List.replicate,List.length_replicate,pve,seval,reduceCtorEq,hgi,bv,still]) | with_reducible refine condP_d (fun _ => ?_) (fun _ => ?_) | with_reducible refine guardP_d0 (fun _ => ?_) (fun _ => ?_) | with_reducible refine guardP_d1 (fun _ => ?_) (fun _ => ?_) | with_reducible refine condP_any ?_ ?_ | (refine Ends_rq [] ?_; simp (disch := first|omega|(simp only[pvl];omega)) only [↓pvd,pva,Pv.put,bin2,int2,binB2,un1,AV.flat,pvf,szOk,notStr,setCells,AV.one,resX,layC,layA,lay,List.map,List.replicate,List.length_replicate,pve,seval,reduceCtorEq]; exact ⟨_,rfl,rfl,rfl⟩))
      refine ⟨k + 1, rfl, ⟨by omega, fun j hj => ?_⟩, by omega⟩
      by_cases hjk : j = k
      · rw [hjk]; exact ho
      · exact hp j (by omega)
    · have h1 : okB w[k]! = false := by simpa using ho
      have h2 := of_decide_eq_false h1
      have h3 : okW w = false := by unfold okW; rw [all_no hx h1]; rfl
      rw [h3]
      repeat' (first | (simp (disch := first|omega|(simp only[pvl];omega)) only [↓pvd,pva,Pv.put,bin2,int2,binB2,un1,AV.flat,pvf,szOk,notStr,setCells,AV.one,resX,layC,layA,lay,List.map,List.replicate,List.length_replicate,pve,seval,reduceCtorEq,hgi,bv,still]) | with_reducible refine condP_d (fun _ => ?_) (fun _ => ?_) | with_reducible refine guardP_d0 (fun _ => ?_) (fun _ => ?_) | with_reducible refine guardP_d1 (fun _ => ?_) (fun _ => ?_) | with_reducible refine condP_any ?_ ?_ | (refine Ends_rq [] ?_; simp (disch := first|omega|(simp only[pvl];omega)) only [↓pvd,pva,Pv.put,bin2,int2,binB2,un1,AV.flat,pvf,szOk,notStr,setCells,AV.one,resX,layC,layA,lay,List.map,List.replicate,List.length_replicate,pve,seval,reduceCtorEq]; exact ⟨_,rfl,rfl,rfl⟩))
  · have h3 : w.all okB = true := all_yes fun k' hk' => hp k' (by omega)
    have h4 : okW w = decide (w ≠ [] ∧ w.length ≤ 40) := by unfold okW; rw [h3]; rfl
    rw [h4]
    by_cases he : w = []
    · subst he
      simp (disch := first | omega | (simp only [pvl] at *; omega)) only [↓pvd,pva,Pv.put,bin2,int2,binB2,un1,AV.flat,pvf,szOk,notStr,setCells,AV.one,resX,layC,layA,lay,List.map,List.replicate,List.length_replicate,pve,seval,reduceCtorEq]
      (refine Ends_rq [] ?_; simp (disch := first|omega|(simp only[pvl];omega)) only [↓pvd,pva,Pv.put,bin2,int2,binB2,un1,AV.flat,pvf,szOk,notStr,setCells,AV.one,resX,layC,layA,lay,List.map,List.replicate,List.length_replicate,pve,seval,reduceCtorEq]; exact ⟨_,rfl,rfl,rfl⟩)
    · have : 0 < w.length := List.length_pos_iff.2 he
      repeat' (first | (simp (disch := first|omega|(simp only[pvl];omega)) only [↓pvd,pva,Pv.put,bin2,int2,binB2,un1,AV.flat,pvf,szOk,notStr,setCells,AV.one,resX,layC,layA,lay,List.map,List.replicate,List.length_replicate,pve,seval,reduceCtorEq,still]) | with_reducible refine condP_d (fun _ => ?_) (fun _ => ?_) | with_reducible refine guardP_d0 (fun _ => ?_) (fun _ => ?_) | with_reducible refine guardP_d1 (fun _ => ?_) (fun _ => ?_) | with_reducible refine condP_any ?_ ?_ | (refine Ends_rq [] ?_; simp (disch := first|omega|(simp only[pvl];omega)) only [↓pvd,pva,Pv.put,bin2,int2,binB2,un1,AV.flat,pvf,szOk,notStr,setCells,AV.one,resX,layC,layA,lay,List.map,List.replicate,List.length_replicate,pve,seval,reduceCtorEq]; exact ⟨_,rfl,rfl,rfl⟩))
      rw [show decide (¬w = [] ∧ w.length ≤ 40) = decide ((w.length : Int) ≤ 40) by simp [he]; omega]
      (refine Ends_rq [] ?_; simp (disch := first|omega|(simp only[pvl];omega)) only [↓pvd,pva,Pv.put,bin2,int2,binB2,un1,AV.flat,pvf,szOk,notStr,setCells,AV.one,resX,layC,layA,lay,List.map,List.replicate,List.length_replicate,pve,seval,reduceCtorEq]; exact ⟨_,rfl,rfl,rfl⟩)
def wordsR (w : List UInt8) : AV := if (swV w).all okW then .tup [strR (swV w), .int .i64 0] else .tup [.sl 0 [] true, .int .i64 20]
theorem enO_len (w : List UInt8) (i fr : Nat) (out : List (List UInt8)) (n : Nat) (hw : w.length ≤ n) (h : ∀ x ∈ out, x.length ≤ n) : ∀ x ∈ enO w i fr out, x.length ≤ n := by
  unfold enO
  split
  · intro x hx
    simp at hx
    rcases hx with hx | rfl
    · exact h x hx
    · simp; omega
  · exact h
theorem swF_len (w : List UInt8) (n : Nat) (hw : w.length ≤ n) : ∀ (m i fr : Nat) (out : List (List UInt8)), (∀ x ∈ out, x.length ≤ n) → ∀ x ∈ swF w m i fr out, x.length ≤ n := by
  intro m
  induction m with
  | zero => intro i fr out h; exact enO_len w i fr out n hw h
  | succ m ih =>
    intro i fr out h
    unfold swF
    split
    · split
      · exact enO_len w i fr out n hw h
      · split
        · exact ih _ _ _ (enO_len w i fr out n hw h)
        · exact ih _ _ _ h
    · exact enO_len w i fr out n hw h
theorem swF_num (w : List UInt8) : ∀ (m i fr : Nat) (out : List (List UInt8)), (swF w m i fr out).length ≤ out.length + m + 1 := by
  have e : ∀ i fr out, (enO w i fr out).length ≤ out.length + 1 := by
    intro i fr out; unfold enO; split <;> simp
  intro m
  induction m with
  | zero => intro i fr out; exact e i fr out
  | succ m ih =>
    intro i fr out
    have e1 := e i fr out
    unfold swF
    split
    · split
      · omega
      · split
        · have := ih (i + 1) (i + 1) (enO w i fr out); omega
        · have := ih (i + 1) fr out; omega
    · omega
theorem words_run (w : List UInt8) (hw : w.length ≤ 40000) : Run Tryd.prog 24 [.str w] (wordsR w) := by
  have q := stretches_run w (by omega)
  have hl := swF_len w w.length (Nat.le_refl _) (w.length + 1) 0 0 [] (by simp)
  have hn := swF_num w (w.length + 1) 0 0 []
  change ∀ x ∈ swV w, _ at hl
  change (swV w).length ≤ _ at hn
  refine Tryd.run24 (by simp) ?_
  unfold Tryd.c24 wordsR
  generalize swV w = L at *
  by_cases h0 : L = []
  · subst h0
    rw [strR, if_pos rfl] at *
    simp (disch := first | omega | (simp only [pvl] at *; omega)) only [↓pvd,pva,Pv.put,bin2,int2,binB2,un1,AV.flat,pvf,szOk,notStr,setCells,AV.one,resX,layC,layA,lay,List.map,List.replicate,List.length_replicate,pve,seval,reduceCtorEq]
    refine awR_call q rfl rfl ?_
    simp (disch := first | omega | (simp only [pvl] at *; omega)) only [↓pvd,pva,Pv.put,bin2,int2,binB2,un1,AV.flat,pvf,szOk,notStr,setCells,AV.one,resX,layC,layA,lay,List.map,List.replicate,List.length_replicate,pve,seval,reduceCtorEq]
    refine aw_loop (fun k : Nat => ⟨[(4, .sl 0 [] true), (9, .sl 0 [] true), (10, .int .i64 0), (11, .int .i64 k)], []⟩) (fun k => k = 0) (fun k => k) 0 rfl rfl ?_
    rintro k rfl
    unfold Tryd.c24b0
    simp (disch := first | omega | (simp only [pvl] at *; omega)) only [↓pvd,pva,Pv.put,bin2,int2,binB2,un1,AV.flat,pvf,szOk,notStr,setCells,AV.one,resX,layC,layA,lay,List.map,List.replicate,List.length_replicate,pve,seval,reduceCtorEq]
    (refine Ends_rq [] ?_; simp (disch := first|omega|(simp only[pvl];omega)) only [↓pvd,pva,Pv.put,bin2,int2,binB2,un1,AV.flat,pvf,szOk,notStr,setCells,AV.one,resX,layC,layA,lay,List.map,List.replicate,List.length_replicate,pve,seval,reduceCtorEq]; exact ⟨_,rfl,rfl,rfl⟩)
  · rw [strR, if_neg h0] at *
    simp (disch := first | omega | (simp only [pvl] at *; omega)) only [↓pvd,pva,Pv.put,bin2,int2,binB2,un1,AV.flat,pvf,szOk,notStr,setCells,AV.one,resX,layC,layA,lay,List.map,List.replicate,List.length_replicate,pve,seval,reduceCtorEq]
    refine awR_call q rfl rfl ?_
    simp (disch := first | omega | (simp only [pvl] at *; omega)) only [↓pvd,pva,Pv.put,bin2,int2,binB2,un1,AV.flat,pvf,szOk,notStr,setCells,AV.one,resX,layC,layA,lay,List.map,List.replicate,List.length_replicate,pve,seval,reduceCtorEq]
    refine aw_loop (fun k : Nat => ⟨[(4, .vec 0 1 0 L.length), (9, .vec 0 1 0 L.length), (10, .int .i64 L.length), (11, .int .i64 k)], [some ⟨9, L.map .str, true⟩]⟩) (fun k => k ≤ L.length ∧ ∀ j < k, okW L[j]! = true) (fun k => L.length - k) 0 ?_ ⟨by omega, by simp⟩ ?_
    · simp (disch := first|omega|(simp only[pvl];omega)) only [↓pvd,pva,Pv.put,bin2,int2,binB2,un1,AV.flat,pvf,szOk,notStr,setCells,AV.one,resX,layC,layA,lay,List.map,List.replicate,List.length_replicate,pve,seval,reduceCtorEq,ids_map str_pl,ren_map str_pl]
    rintro k ⟨hk, hp⟩
    unfold Tryd.c24b0
    simp only [List.length_nil] at hn
    by_cases hx : k < L.length
    · have q2 := lword_run L[k]! (by have := hl _ (get_mem hx); omega)
      by_cases ho : okW L[k]! = true
      · rw [ho] at q2
        simp (disch := first | omega | (simp only [pvl] at *; omega)) only [↓pvd,pva,Pv.put,bin2,int2,binB2,un1,AV.flat,pvf,szOk,notStr,setCells,AV.one,resX,layC,layA,lay,List.map,List.replicate,List.length_replicate,pve,seval,reduceCtorEq]
        refine awR_call q2 rfl rfl ?_
        simp (disch := first|omega|(simp only[pvl];omega)) only [↓pvd,pva,Pv.put,bin2,int2,binB2,un1,AV.flat,pvf,szOk,notStr,setCells,AV.one,resX,layC,layA,lay,List.map,List.replicate,List.length_replicate,pve,seval,reduceCtorEq,ids_map str_pl,ren_map str_pl]
        refine ⟨k + 1, rfl, ⟨by omega, fun j hj => ?_⟩, by omega⟩
        by_cases hjk : j = k
        · rw [hjk]; exact ho
        · exact hp j (by omega)
      · have h1 : okW L[k]! = false := by simpa using ho
        have h2 : ¬ (L.all okW = true) := by
          rw [Bool.not_eq_true, List.all_eq_false]
          exact ⟨L[k]!, get_mem hx, by rw [h1]; simp⟩
        rw [if_neg h2]
        rw [h1] at q2
        simp (disch := first | omega | (simp only [pvl] at *; omega)) only [↓pvd,pva,Pv.put,bin2,int2,binB2,un1,AV.flat,pvf,szOk,notStr,setCells,AV.one,resX,layC,layA,lay,List.map,List.replicate,List.length_replicate,pve,seval,reduceCtorEq]
        refine awR_call q2 rfl rfl ?_
        simp (disch := first|omega|(simp only[pvl];omega)) only [↓pvd,pva,Pv.put,bin2,int2,binB2,un1,AV.flat,pvf,szOk,notStr,setCells,AV.one,resX,layC,layA,lay,List.map,List.replicate,List.length_replicate,pve,seval,reduceCtorEq,ids_map str_pl,ren_map str_pl]
        (refine Ends_rq [] ?_; simp (disch := first|omega|(simp only[pvl];omega)) only [↓pvd,pva,Pv.put,bin2,int2,binB2,un1,AV.flat,pvf,szOk,notStr,setCells,AV.one,resX,layC,layA,lay,List.map,List.replicate,List.length_replicate,pve,seval,reduceCtorEq]; exact ⟨_,rfl,rfl,rfl⟩)
    · have h3 : L.all okW = true := by
        rw [List.all_eq_true]
        intro c hc
        obtain ⟨j, hj, rfl⟩ := List.mem_iff_getElem.1 hc
        have := hp j (by omega)
        rwa [getElem!_pos L j hj] at this
      rw [if_pos h3]
      simp (disch := first | omega | (simp only [pvl] at *; omega)) only [↓pvd,pva,Pv.put,bin2,int2,binB2,un1,AV.flat,pvf,szOk,notStr,setCells,AV.one,resX,layC,layA,lay,List.map,List.replicate,List.length_replicate,pve,seval,reduceCtorEq]
      (refine Ends_rq [[.own 1 9], [.snap]] ?_; simp (disch := first|omega|(simp only[pvl];omega)) only [↓pvd,pva,Pv.put,bin2,int2,binB2,un1,AV.flat,pvf,szOk,notStr,setCells,AV.one,resX,layC,layA,lay,List.map,List.replicate,List.length_replicate,pve,seval,reduceCtorEq,ids_map str_pl,ren_map str_pl,mapO_map str_nr,rows_map str_nr]; exact ⟨_,rfl,rfl,rfl⟩)
end Nm
end Go.Proofs
set_option linter.unusedSimpArgs false
set_option linter.unusedVariables false
set_option maxHeartbeats 2000000
set_option maxRecDepth 20000
namespace Go.Proofs
namespace Nm
open Go.Pv
end Nm
end Go.Proofs
set_option linter.unusedSimpArgs false
set_option linter.unusedVariables false
set_option maxHeartbeats 2000000
set_option maxRecDepth 20000
namespace Go.Proofs
namespace Nm
open Go.Pv
def ends (l : List (List UInt8)) : List UInt8 := l.flatMap fun r => r ++ [10]
def no10 (r : List UInt8) : Prop := ∀ c ∈ r, c ≠ 10
theorem spl_ends : ∀ (l : List (List UInt8)) (t : List UInt8), (∀ r ∈ l, no10 r) → spl (ends l ++ t) = l ++ spl t
  | [], t, _ => rfl
  | r :: l, t, h => by
    have := spl_ends l t (fun x hx => h x (by simp [hx]))
    have h2 := spl_hit r (ends l ++ t) (h r (by simp))
    unfold ends at *
    rw [List.flatMap_cons]
    simp only [List.append_assoc,List.cons_append,List.nil_append] at *
    rw [h2, this]
end Nm
end Go.Proofs
/- The library's strings.Join at this seat's program: its contract, laid. (Printed by a program of ours.) -/
namespace Go.Proofs
open Go.Shelf
def Tryd.renT (n : Nat) : Nat :=
  if n = 0 then 0 else if n = 3 then 3 else if n = 4 then 4 else if n = 5 then 5 else if n = 9 then 9 else if n = 20 then 20 else if n = 31 then 38 else if n = 37 then 26 else if n = 70 then 147 else if n = 72 then 149 else if n = 75 then 151 else if n = 76 then 152 else if n = 80 then 58 else if n = 127 then 160 else if n = 164 then 166 else 0
def Tryd.renF (n : Nat) : Nat :=
  if n = 156 then 93 else if n = 165 then 106 else if n = 166 then 107 else if n = 169 then 108 else if n = 240 then 116 else if n = 241 then 117 else if n = 276 then 120 else if n = 277 then 121 else 0
def Tryd.ren : Ren := ⟨Tryd.renF, Tryd.renT, fun n => n⟩
theorem Tryd.lays156 : Lays.n156 Tryd.prog Tryd.ren where
  mixed := Tryd.mixed
  f156 := by kernel_rfl
  f165 := by kernel_rfl
  f166 := by kernel_rfl
  f169 := by kernel_rfl
  f240 := by kernel_rfl
  f241 := by kernel_rfl
  f276 := by kernel_rfl
  f277 := by kernel_rfl
  t0 := Tryd.underlying0
  a0 := Tryd.isAgg0
  z0 := Tryd.sizeOf0
  v0 := Tryd.zeroValue0
  t3 := Tryd.underlying3
  a3 := Tryd.isAgg3
  z3 := Tryd.sizeOf3
  v3 := Tryd.zeroValue3
  t4 := Tryd.underlying4
  a4 := Tryd.isAgg4
  z4 := Tryd.sizeOf4
  v4 := Tryd.zeroValue4
  t9 := Tryd.underlying9
  a9 := Tryd.isAgg9
  z9 := Tryd.sizeOf9
  v9 := Tryd.zeroValue9
  t20 := Tryd.underlying20
  a20 := Tryd.isAgg20
  z20 := Tryd.sizeOf20
  v20 := Tryd.zeroValue20
  t31 := Tryd.underlying38
  a31 := Tryd.isAgg38
  z31 := Tryd.sizeOf38
  v31 := Tryd.zeroValue38
  t37 := Tryd.underlying26
  a37 := Tryd.isAgg26
  z37 := Tryd.sizeOf26
  v37 := Tryd.zeroValue26
  t70 := Tryd.underlying147
  a70 := Tryd.isAgg147
  z70 := Tryd.sizeOf147
  v70 := Tryd.zeroValue147
  t72 := Tryd.underlying149
  a72 := Tryd.isAgg149
  z72 := Tryd.sizeOf149
  v72 := Tryd.zeroValue149
  t75 := Tryd.underlying151
  a75 := Tryd.isAgg151
  z75 := Tryd.sizeOf151
  v75 := Tryd.zeroValue151
  t76 := Tryd.underlying152
  a76 := Tryd.isAgg152
  z76 := Tryd.sizeOf152
  v76 := Tryd.zeroValue152
  t127 := Tryd.underlying160
  a127 := Tryd.isAgg160
  z127 := Tryd.sizeOf160
  v127 := Tryd.zeroValue160
  t164 := Tryd.underlying166
  a164 := Tryd.isAgg166
  z164 := Tryd.sizeOf166
  v164 := Tryd.zeroValue166
theorem Tryd.extra156 : Builder.Extra Tryd.prog Tryd.ren where
  sizeBuilder := by kernel_rfl
  liesBuilder := by kernel_rfl
  t5 := Tryd.underlying5
  a5 := Tryd.isAgg5
  z5 := Tryd.sizeOf5
  v5 := Tryd.zeroValue5
  infoByte := by kernel_rfl
  cellsByte := by kernel_rfl
  sizeByte := by kernel_rfl
  neB5 := by decide
end Go.Proofs
/-
  The machine of plain values: the library's strings.Join, from its contract.
-/
namespace Go.Pv
set_option linter.unusedSectionVars false
variable [Lq]
open Go.RowKit
theorem flat_str (s : List UInt8) : (AV.str s).flat = [AV.str s] := by simp [AV.flat]
theorem run_join {P : Program} {f : FuncId} (hc : Can P f)
    (hj : ∀ (bk o c : Nat) (xs : List ByteArray) (sep : ByteArray) (w : World), (∀ (j : Nat) x, xs[j]? = some x → w.cell? ⟨bk, o + j, none⟩ = some (.string x)) → bk < w.heap.size → xs.length ≤ 140737488355328 → xs.length ≤ c →
      (Lib.join (xs.map (·.data.toList)) sep.data.toList).length ≤ 140737488355328 →
      Calls P f #[.slice (some ⟨bk, o, none⟩) xs.length c, .string sep] w fun e w' => e = .returned (.string ⟨(Lib.join (xs.map (·.data.toList)) sep.data.toList).toArray⟩) ∧ Below w.heap.size w w')
    (hn : ∀ (a : Option Addr) (c : Nat) (sep : ByteArray) (w : World), Calls P f #[.slice a 0 c, .string sep] w fun e w' => e = .returned (.string ⟨#[]⟩) ∧ w' = w)
    (xs : List (List UInt8)) (sep : List UInt8) (full : Bool) (h1 : xs.length ≤ 100000) (h2 : (Lib.join xs sep).length ≤ 100000000) :
    Run P f [.sl 1 (xs.map .str) full, .str sep] (.str (Lib.join xs sep)) := by
  refine ⟨hc, ?_⟩
  intro w I os args hq hos ho
  obtain ⟨args⟩ := args
  generalize hes : xs.map AV.str = es at ho
  generalize hxs : [AV.sl 1 es full, AV.str sep] = ys at ho
  cases ho with
  | nil => cases hxs
  | cons ha ho =>
    cases hxs
    cases ho with
    | cons hb ho =>
      cases ho with
      | nil =>
        unfold OwnC at ha hb
        obtain ⟨rfl, ha⟩ := ha
        obtain ⟨rfl, hb⟩ := hb
        cases hb
        have fin : ∀ (W : World) (r : List UInt8), Below w.heap.size w W → ∃ v I' os', Ending.returned (.string ⟨r.toArray⟩) = .returned v ∧ OwnT W I' os' (.str r) v ∧ OsOk W I' os' ∧ StepB I ([] ++ ([] ++ [])) I' os' w W := by
          intro W r hB
          refine ⟨_, I, [], rfl, ?_, ⟨fun b h => ⟨Nat.lt_of_lt_of_le (hos.imm b h).1 hB.size, blks_nil b⟩, fun b h => absurd h (blks_nil b), .nil⟩, ⟨hB.os, hB.tape, hB.output, hB.size, fun b h _ => hB.block b h, fun b h => absurd h (blks_nil b), fun b h => h, fun b h => .inl h⟩⟩
          exact ⟨rfl, .str r⟩
        cases ha with
        | sl0 _ _ A cap h =>
          have : xs = [] := by simpa using hes
          subst this
          refine (hn A cap ⟨sep.toArray⟩ w).mono ?_
          rintro e W ⟨rfl, rfl⟩
          exact fin _ [] (Below.refl _ _)
        | sl _ _ _ b off cap U hp hcp hf hbk hi hz hcell hs =>
          subst hes
          have hq := hj b off cap (xs.map fun s => ⟨s.toArray⟩) ⟨sep.toArray⟩ w ?_ hbk (by simp; omega) (by simpa using hcp) ?_
          · simp only [List.map_map,List.length_map] at hq
            have e1 : xs.map ((fun x : ByteArray => x.data.toList) ∘ fun s => ⟨s.toArray⟩) = xs := by
              conv => rhs; rw [← List.map_id xs]
              exact List.map_congr_left fun s _ => rfl
            rw [e1] at hq
            rw [List.length_map]
            refine hq.mono ?_
            rintro e W ⟨rfl, hB⟩
            exact fin W _ hB
          · intro j x hx
            rw [List.getElem?_map] at hx
            cases hxj : xs[j]? with
            | none => rw [hxj] at hx; cases hx
            | some s =>
              rw [hxj] at hx
              cases hx
              have e : (xs.map AV.str)[j]? = some (.str s) := by rw [List.getElem?_map, hxj]; rfl
              have g1 := (hcell j (.str s) 0 (.str s) e (by rw [flat_str]; rfl)).1
              have g2 := hs j (.str s) 0 (.str s) e (by rw [flat_str]; rfl)
              rw [Nat.mul_one, Nat.add_zero] at g1
              rw [g1]
              generalize U j 0 = u at g2
              cases g2
              rfl
          · have e1 : (xs.map fun s => (⟨s.toArray⟩ : ByteArray)).map (fun x => x.data.toList) = xs := by
              rw [List.map_map]
              conv => rhs; rw [← List.map_id xs]
              exact List.map_congr_left fun s _ => rfl
            rw [e1]
            have : (⟨sep.toArray⟩ : ByteArray).data.toList = sep := rfl
            rw [this]
            omega
end Go.Pv
set_option linter.unusedSimpArgs false
set_option linter.unusedVariables false
set_option maxHeartbeats 2000000
set_option maxRecDepth 20000
namespace Go.Proofs
namespace Nm
open Go.Pv
theorem join_run (xs : List (List UInt8)) (f : Bool) (h1 : xs.length ≤ 100000) (h2 : (Lib.join xs [32]).length ≤ 100000000) : Run Tryd.prog 93 [.sl 1 (xs.map .str) f, .str [32]] (.str (Lib.join xs [32])) :=
  run_join (can_of Tryd.func93 rfl rfl) (fun bk o c xs sep w a b d e g => Any.strings_Join Tryd.lays156 Tryd.extra156 bk o c xs sep w a b d e g) (fun a c sep w => Any.strings_Join_none Tryd.lays156 Tryd.extra156 a c sep w) xs [32] f h1 h2
theorem ljoin_run (xs : List (List UInt8)) (f : Bool) (h1 : xs.length ≤ 100000) (h2 : (Lib.join xs [32]).length ≤ 100000000) : Run Tryd.prog 68 [.sl 1 (xs.map .str) f] (.str (Lib.join xs [32])) := by
  have q := join_run xs f h1 h2
  refine Tryd.run68 (by simp) ?_
  unfold Tryd.c68
  generalize Lib.join xs [32] = r at *
  repeat' (first | (simp (disch := first|omega|(simp only[pvl];omega)) only [↓pvd,pva,Pv.put,bin2,int2,binB2,un1,AV.flat,pvf,szOk,notStr,setCells,AV.one,resX,layC,layA,lay,List.map,List.replicate,List.length_replicate,pve,seval,reduceCtorEq,mapO_map str_nr,rows_map str_nr,still]) | with_reducible refine condP_d (fun _ => ?_) (fun _ => ?_) | with_reducible refine guardP_d0 (fun _ => ?_) (fun _ => ?_) | with_reducible refine guardP_d1 (fun _ => ?_) (fun _ => ?_) | with_reducible refine condP_any ?_ ?_ | refine awR_call q rfl rfl ?_ | refine awR_callD q rfl rfl (fun _ => rfl) ?_ | (refine Ends_rq [] ?_; simp (disch := first|omega|(simp only[pvl];omega)) only [↓pvd,pva,Pv.put,bin2,int2,binB2,un1,AV.flat,pvf,szOk,notStr,setCells,AV.one,resX,layC,layA,lay,List.map,List.replicate,List.length_replicate,pve,seval,reduceCtorEq]; exact ⟨_,rfl,rfl,rfl⟩))
end Nm
end Go.Proofs
set_option linter.unusedSimpArgs false
set_option linter.unusedVariables false
set_option maxHeartbeats 2000000
set_option maxRecDepth 20000
namespace Go.Proofs
namespace Nm
open Go.Pv
theorem enO_sub (w : List UInt8) (i fr : Nat) (out : List (List UInt8)) (hi : i ≤ w.length) : enO w i fr out = if (w.take i).drop fr = [] then out else out ++ [(w.take i).drop fr] := by
  have hl : ((w.take i).drop fr).length = i - fr := by simp; omega
  unfold enO
  by_cases h : fr < i
  · rw [if_pos h, if_neg (fun e => by rw [e] at hl; simp at hl; omega)]
  · rw [if_neg h, if_pos (List.eq_nil_of_length_eq_zero (by omega))]
theorem take_drop_snoc (w : List UInt8) (i fr : Nat) (hi : i < w.length) (h : fr ≤ i) : (w.take (i + 1)).drop fr = (w.take i).drop fr ++ [w[i]!] := by
  rw [take_snoc hi, List.drop_append_of_le_length (by simp; omega)]
end Nm
end Go.Proofs
set_option linter.unusedSimpArgs false
set_option linter.unusedVariables false
set_option maxHeartbeats 2000000
set_option maxRecDepth 20000
namespace Go.Proofs
namespace Nm
open Go.Pv
def finF (cur : List UInt8) (out : List (List UInt8)) : List (List UInt8) := if cur = [] then out else out ++ [cur]
def wsF : List UInt8 → List (List UInt8) → List UInt8 → List (List UInt8)
  | cur, out, [] => finF cur out
  | cur, out, c :: t => if c = 35 then finF cur out else if c = 32 ∨ c = 9 then wsF [] (finF cur out) t else wsF (cur ++ [c]) out t
theorem swF_ws (w : List UInt8) : ∀ (n i fr : Nat) (out : List (List UInt8)), w.length - i = n → fr ≤ i → i ≤ w.length → swF w (w.length + 1 - i) i fr out = wsF ((w.take i).drop fr) out (w.drop i) := by
  intro n
  induction n with
  | zero =>
    intro i fr out hn hf hi
    rw [swF_stop w _ i fr out (fun h => by omega), enO_sub w i fr out hi, List.drop_eq_nil_of_le (show w.length ≤ i by omega)]
    rfl
  | succ n ih =>
    intro i fr out hn hf hi
    have hx : i < w.length := by omega
    have hd : w.drop i = w[i]! :: w.drop (i + 1) := by rw [getElem!_pos w i hx, ← List.drop_eq_getElem_cons hx]
    rw [hd, wsF]
    by_cases h35 : w[i]! = 35
    · rw [if_pos h35, swF_stop w _ i fr out (fun _ => h35), enO_sub w i fr out hi]
      rfl
    · rw [if_neg h35]
      by_cases hb : w[i]! = 32 ∨ w[i]! = 9
      · rw [if_pos hb, swF_blank w i fr out hx h35 hb, ih (i + 1) (i + 1) _ (by omega) (Nat.le_refl _) (by omega), enO_sub w i fr out hi]
        rw [show (w.take (i + 1)).drop (i + 1) = [] by simp]
        rfl
      · rw [if_neg hb, swF_other w i fr out hx h35 hb, ih (i + 1) fr out (by omega) (by omega) (by omega), take_drop_snoc w i fr hx hf]
theorem swV_ws (w : List UInt8) : swV w = wsF [] [] w := by
  have := swF_ws w w.length 0 0 [] (by omega) (Nat.le_refl _) (Nat.zero_le _)
  simpa [swV] using this
theorem okB_ne {c : UInt8} (h : okB c = true) : ¬ c = 35 ∧ ¬ (c = 32 ∨ c = 9) := by
  have h2 := of_decide_eq_true h
  refine ⟨fun e => ?_, fun e => ?_⟩
  · rw [e] at h2; simp at h2
  · rcases e with e | e <;> rw [e] at h2 <;> simp at h2
theorem wsF_word : ∀ (x cur : List UInt8) (out : List (List UInt8)) (t : List UInt8), x.all okB = true → wsF cur out (x ++ t) = wsF (cur ++ x) out t
  | [], cur, out, t, _ => by simp
  | c :: x, cur, out, t, h => by
    rw [List.all_cons, Bool.and_eq_true] at h
    have h1 := okB_ne h.1
    rw [List.cons_append, wsF, if_neg h1.1, if_neg h1.2, wsF_word x (cur ++ [c]) out t h.2]
    simp
theorem okW_all {x : List UInt8} (h : okW x = true) : x.all okB = true ∧ x ≠ [] ∧ x.length ≤ 40 := by
  unfold okW at h
  rw [Bool.and_eq_true] at h
  exact ⟨h.1, of_decide_eq_true h.2⟩
theorem wsF_tail (rem : List UInt8) : ∀ (r : List (List UInt8)) (x : List UInt8) (out : List (List UInt8)), x ≠ [] → (∀ y ∈ r, okW y = true) → wsF x out (Lib.joinTail [32] r ++ 32 :: 35 :: rem) = out ++ x :: r
  | [], x, out, hx, _ => by
    rw [show Lib.joinTail [32] ([] : List (List UInt8)) = [] from rfl, List.nil_append, wsF, if_neg (by decide), if_pos (by decide), wsF, if_pos rfl]
    simp [finF, hx]
  | y :: r, x, out, hx, h => by
    have hy := okW_all (h y (by simp))
    rw [show Lib.joinTail [32] (y :: r) = 32 :: (y ++ Lib.joinTail [32] r) by simp [Lib.joinTail], List.cons_append, wsF, if_neg (by decide), if_pos (by decide), List.append_assoc, wsF_word y [] _ _ hy.1, List.nil_append, wsF_tail rem r y _ hy.2.1 (fun z hz => h z (by simp [hz]))]
    simp [finF, hx]
theorem back_words (ws : List (List UInt8)) (rem : List UInt8) (h : ∀ y ∈ ws, okW y = true) : swV (9 :: Lib.join ws [32] ++ 32 :: 35 :: rem) = ws := by
  rw [swV_ws, List.cons_append, wsF, if_neg (by decide), if_pos (by decide)]
  cases ws with
  | nil =>
    rw [Lib.join_nil, List.nil_append, wsF, if_neg (by decide), if_pos (by decide), wsF, if_pos rfl]
    rfl
  | cons x r =>
    have hx := okW_all (h x (by simp))
    rw [Lib.join_cons, List.append_assoc, wsF_word x [] _ _ hx.1, List.nil_append, wsF_tail rem r x _ hx.2.1 (fun z hz => h z (by simp [hz]))]
    simp [finF]
end Nm
end Go.Proofs
set_option linter.unusedSimpArgs false
set_option linter.unusedVariables false
set_option maxHeartbeats 2000000
set_option maxRecDepth 20000
namespace Go.Proofs
open Go.Pv
theorem ent_nones (H : Hp) (n id : Nat) : ent (H ++ List.replicate n none) id = ent H id := by
  unfold ent
  rcases Nat.lt_or_ge id H.length with h | h
  · rw [List.getElem?_append_left h]
  · rw [List.getElem?_append_right h, List.getElem?_eq_none h, List.getElem?_replicate]
    split <;> rfl
theorem gen_strip {P : Program} {f : FuncId} {xs : List AV} {H H' : Hp} {r : AV} {n : Nat} (h : Gen P f xs H r (H' ++ List.replicate n none)) : Gen P f xs H r H' :=
  ⟨h.1, fun w γ args hq hh hl hs => (h.2 w γ args hq hh hl hs).mono fun e W ⟨v, γ', he, hv, hh', st, ids⟩ =>
    ⟨v, γ', he, hv, ⟨fun id hid => hh'.none id (by rw [ent_nones]; exact hid), fun id e hid => hh'.ok id e (by rw [ent_nones]; exact hid), hh'.inj, hh'.imm, hh'.stl⟩, st, ids⟩⟩
def rdo (ws : List (List UInt8)) (f : Bool) (k : Nat) (e : Int) : Option Ent := some ⟨57, [.agg [.sl 1 (ws.map .str) f, .int .i64 k, .int .i64 e]], true⟩
def fl (e : Int) (bad : Bool) (c : Int) : Int := if bad = true ∧ e = 0 then c else e
theorem next_gen (ws : List (List UInt8)) (f : Bool) (k : Nat) (e : Int) (A : Option Ent) (T : Hp) (hk : k < ws.length) (hw : ws.length ≤ 1000) :
    Gen Tryd.prog 35 [.eptr 1 0 0] (A :: rdo ws f k e :: T) (.str ws[k]!) (A :: rdo ws f (k + 1) e :: T) := by
  have hgi : (ws.map AV.str)[k]? = some (.str ws[k]!) := map_get hk
  refine gen_strip (n := 12) (Tryd.gen35 (by simp) ?_)
  unfold Tryd.g35 rdo
  simp (disch := first|omega|(simp only[pvl];omega)) only [↓pvd,pva,Pv.put,bin2,int2,binB2,un1,AV.flat,pvf,szOk,notStr,setCells,AV.one,resX,layC,layA,lay,List.map,List.replicate,List.length_replicate,pve,seval,reduceCtorEq,hgi,List.length_map]
  rw [show ((k : Int) + 1 - 1).toNat = k by omega]
  exact ⟨rfl, by simp⟩
theorem fail_gen (ws : List (List UInt8)) (f : Bool) (k : Nat) (e c : Int) (b : Bool) (A : Option Ent) (T : Hp) :
    Gen Tryd.prog 32 [.eptr 1 0 0, .bool b, .int .i64 c] (A :: rdo ws f k e :: T) (.tup []) (A :: rdo ws f k (fl e b c) :: T) := by
  refine Tryd.gen32 (by simp) ?_
  unfold Tryd.g32 rdo fl
  cases b with
  | false =>
    simp (disch := first | omega | (simp only [pvl] at *; omega)) only [↓pvd,pva,Pv.put,bin2,int2,binB2,un1,AV.flat,pvf,szOk,notStr,setCells,AV.one,resX,layC,layA,lay,List.map,List.replicate,List.length_replicate,pve,seval,reduceCtorEq]
    exact ⟨rfl, rfl⟩
  | true =>
    by_cases he : e = 0
    · subst he
      simp (disch := first | omega | (simp only [pvl] at *; omega)) only [↓pvd,pva,Pv.put,bin2,int2,binB2,un1,AV.flat,pvf,szOk,notStr,setCells,AV.one,resX,layC,layA,lay,List.map,List.replicate,List.length_replicate,pve,seval,reduceCtorEq]
      exact ⟨rfl, rfl⟩
    · simp (disch := first|omega|(simp only[pvl];omega)) only [↓pvd,pva,Pv.put,bin2,int2,binB2,un1,AV.flat,pvf,szOk,notStr,setCells,AV.one,resX,layC,layA,lay,List.map,List.replicate,List.length_replicate,pve,seval,reduceCtorEq,he]
      exact ⟨rfl, rfl⟩
def nmO (s : List UInt8) : Bool := decide (Nm.nmP s)
theorem name_gen (ws : List (List UInt8)) (f : Bool) (k : Nat) (e : Int) (A : Option Ent) (T : Hp) (hk : k < ws.length) (hw : ws.length ≤ 1000) (hl : ∀ w ∈ ws, w.length ≤ 1000) :
    Gen Tryd.prog 28 [.eptr 1 0 0] (A :: rdo ws f k e :: T) (.str ws[k]!) (A :: rdo ws f (k + 1) (fl e (!nmO ws[k]!) 20) :: T) := by
  have hwl : ws[k]!.length ≤ 1000 := hl _ (by rw [getElem!_pos ws k hk]; exact List.getElem_mem hk)
  have q : Run Tryd.prog 46 [.str ws[k]!] (.bool (nmO ws[k]!)) := Nm.name_run ws[k]! (by omega)
  generalize nmO ws[k]! = b at *
  refine Tryd.gen28 (by simp) ?_
  unfold Tryd.g28
  simp (disch := first | omega | (simp only [pvl] at *; omega)) only [↓pvd,pva,Pv.put,bin2,int2,binB2,un1,AV.flat,pvf,szOk,notStr,setCells,AV.one,resX,layC,layA,lay,List.map,List.replicate,List.length_replicate,pve,seval,reduceCtorEq]
  refine awR_callG (next_gen ws f k e A T hk hw) ?_
  simp (disch := first | omega | (simp only [pvl] at *; omega)) only [↓pvd,pva,Pv.put,bin2,int2,binB2,un1,AV.flat,pvf,szOk,notStr,setCells,AV.one,resX,layC,layA,lay,List.map,List.replicate,List.length_replicate,pve,seval,reduceCtorEq]
  refine awR_call q rfl rfl ?_
  simp (disch := first | omega | (simp only [pvl] at *; omega)) only [↓pvd,pva,Pv.put,bin2,int2,binB2,un1,AV.flat,pvf,szOk,notStr,setCells,AV.one,resX,layC,layA,lay,List.map,List.replicate,List.length_replicate,pve,seval,reduceCtorEq]
  refine awR_callG (fail_gen ws f (k + 1) e 20 (!b) A T) ?_
  simp (disch := first | omega | (simp only [pvl] at *; omega)) only [↓pvd,pva,Pv.put,bin2,int2,binB2,un1,AV.flat,pvf,szOk,notStr,setCells,AV.one,resX,layC,layA,lay,List.map,List.replicate,List.length_replicate,pve,seval,reduceCtorEq]
  exact ⟨rfl, rfl⟩
theorem number_gen (ws : List (List UInt8)) (f : Bool) (k : Nat) (e a b : Int) (A : Option Ent) (T : Hp) (hk : k < ws.length) (hw : ws.length ≤ 1000) (hl : ∀ w ∈ ws, w.length ≤ 1000) :
    Gen Tryd.prog 30 [.eptr 1 0 0, .int .i64 a, .int .i64 b] (A :: rdo ws f k e :: T) (.int .i64 (Nm.rdF ws[k]! a b).1) (A :: rdo ws f (k + 1) (fl e (!(Nm.rdF ws[k]! a b).2) 21) :: T) := by
  have hwl : ws[k]!.length ≤ 1000 := hl _ (by rw [getElem!_pos ws k hk]; exact List.getElem_mem hk)
  have q := Nm.read_run ws[k]! a b (by omega)
  unfold Nm.rdR at q
  generalize (Nm.rdF ws[k]! a b).1 = n at *
  generalize (Nm.rdF ws[k]! a b).2 = ok at *
  refine Tryd.gen30 (by simp) ?_
  unfold Tryd.g30
  simp (disch := first | omega | (simp only [pvl] at *; omega)) only [↓pvd,pva,Pv.put,bin2,int2,binB2,un1,AV.flat,pvf,szOk,notStr,setCells,AV.one,resX,layC,layA,lay,List.map,List.replicate,List.length_replicate,pve,seval,reduceCtorEq]
  refine awR_callG (next_gen ws f k e A T hk hw) ?_
  simp (disch := first | omega | (simp only [pvl] at *; omega)) only [↓pvd,pva,Pv.put,bin2,int2,binB2,un1,AV.flat,pvf,szOk,notStr,setCells,AV.one,resX,layC,layA,lay,List.map,List.replicate,List.length_replicate,pve,seval,reduceCtorEq]
  refine awR_call q rfl rfl ?_
  simp (disch := first | omega | (simp only [pvl] at *; omega)) only [↓pvd,pva,Pv.put,bin2,int2,binB2,un1,AV.flat,pvf,szOk,notStr,setCells,AV.one,resX,layC,layA,lay,List.map,List.replicate,List.length_replicate,pve,seval,reduceCtorEq]
  refine awR_callG (fail_gen ws f (k + 1) e 21 (!ok) A T) ?_
  simp (disch := first | omega | (simp only [pvl] at *; omega)) only [↓pvd,pva,Pv.put,bin2,int2,binB2,un1,AV.flat,pvf,szOk,notStr,setCells,AV.one,resX,layC,layA,lay,List.map,List.replicate,List.length_replicate,pve,seval,reduceCtorEq]
  exact ⟨rfl, rfl⟩
theorem vlan_gen (ws : List (List UInt8)) (f : Bool) (k : Nat) (e : Int) (A : Option Ent) (T : Hp) (hk : k < ws.length) (hw : ws.length ≤ 1000) (hl : ∀ w ∈ ws, w.length ≤ 1000) :
    Gen Tryd.prog 29 [.eptr 1 0 0] (A :: rdo ws f k e :: T) (.int .i64 (Nm.rdF ws[k]! 1 4094).1) (A :: rdo ws f (k + 1) (fl e (!(Nm.rdF ws[k]! 1 4094).2) 21) :: T) := by
  refine Tryd.gen29 (by simp) ?_
  unfold Tryd.g29
  simp (disch := first | omega | (simp only [pvl] at *; omega)) only [↓pvd,pva,Pv.put,bin2,int2,binB2,un1,AV.flat,pvf,szOk,notStr,setCells,AV.one,resX,layC,layA,lay,List.map,List.replicate,List.length_replicate,pve,seval,reduceCtorEq]
  refine awR_callG (number_gen ws f k e 1 4094 A T hk hw hl) ?_
  simp (disch := first | omega | (simp only [pvl] at *; omega)) only [↓pvd,pva,Pv.put,bin2,int2,binB2,un1,AV.flat,pvf,szOk,notStr,setCells,AV.one,resX,layC,layA,lay,List.map,List.replicate,List.length_replicate,pve,seval,reduceCtorEq]
  exact ⟨rfl, rfl⟩
theorem vni_gen (ws : List (List UInt8)) (f : Bool) (k : Nat) (e : Int) (A : Option Ent) (T : Hp) (hk : k < ws.length) (hw : ws.length ≤ 1000) (hl : ∀ w ∈ ws, w.length ≤ 1000) :
    Gen Tryd.prog 36 [.eptr 1 0 0] (A :: rdo ws f k e :: T) (.int .i64 (Nm.rdF ws[k]! 1 16777215).1) (A :: rdo ws f (k + 1) (fl e (!(Nm.rdF ws[k]! 1 16777215).2) 21) :: T) := by
  refine Tryd.gen36 (by simp) ?_
  unfold Tryd.g36
  simp (disch := first | omega | (simp only [pvl] at *; omega)) only [↓pvd,pva,Pv.put,bin2,int2,binB2,un1,AV.flat,pvf,szOk,notStr,setCells,AV.one,resX,layC,layA,lay,List.map,List.replicate,List.length_replicate,pve,seval,reduceCtorEq]
  refine awR_callG (number_gen ws f k e 1 16777215 A T hk hw hl) ?_
  simp (disch := first | omega | (simp only [pvl] at *; omega)) only [↓pvd,pva,Pv.put,bin2,int2,binB2,un1,AV.flat,pvf,szOk,notStr,setCells,AV.one,resX,layC,layA,lay,List.map,List.replicate,List.length_replicate,pve,seval,reduceCtorEq]
  exact ⟨rfl, rfl⟩
def stn (m : Int) : Bool := decide (m ≤ 281474976710655) && (!(Mc.ish m).2 && !decide (m / 1099511627776 % 2 = 1))
theorem station_run (m : Int) (h : 0 ≤ m) (h' : m < 18446744073709551616) : Run Tryd.prog 56 [.int .u64 m] (.bool (stn m)) := by
  have q1 := Mc.ishost_run m h h'
  have q2 := Mc.group_run m h h'
  refine Tryd.run56 (by simp) ?_
  unfold Tryd.c56 stn
  generalize (Mc.ish m).1 = x at *
  generalize (Mc.ish m).2 = b at *
  generalize decide (m / 1099511627776 % 2 = 1) = g at *
  by_cases hm : m ≤ 281474976710655
  · rw [decide_eq_true hm]
    cases b
    · repeat' (first | (simp (disch := first|omega|(simp only[pvl];omega)) only [↓pvd,pva,Pv.put,bin2,int2,binB2,un1,AV.flat,pvf,szOk,notStr,setCells,AV.one,resX,layC,layA,lay,List.map,List.replicate,List.length_replicate,pve,seval,reduceCtorEq,still]) | with_reducible refine condP_d (fun _ => ?_) (fun _ => ?_) | with_reducible refine guardP_d0 (fun _ => ?_) (fun _ => ?_) | with_reducible refine guardP_d1 (fun _ => ?_) (fun _ => ?_) | with_reducible refine condP_any ?_ ?_ | refine awR_call q1 rfl rfl ?_ | refine awR_callD q1 rfl rfl (fun _ => rfl) ?_ | refine awR_call q2 rfl rfl ?_ | refine awR_callD q2 rfl rfl (fun _ => rfl) ?_ | (refine Ends_rq [] ?_; simp (disch := first|omega|(simp only[pvl];omega)) only [↓pvd,pva,Pv.put,bin2,int2,binB2,un1,AV.flat,pvf,szOk,notStr,setCells,AV.one,resX,layC,layA,lay,List.map,List.replicate,List.length_replicate,pve,seval,reduceCtorEq]; exact ⟨_,rfl,rfl,rfl⟩))
    · repeat' (first | (simp (disch := first|omega|(simp only[pvl];omega)) only [↓pvd,pva,Pv.put,bin2,int2,binB2,un1,AV.flat,pvf,szOk,notStr,setCells,AV.one,resX,layC,layA,lay,List.map,List.replicate,List.length_replicate,pve,seval,reduceCtorEq,still]) | with_reducible refine condP_d (fun _ => ?_) (fun _ => ?_) | with_reducible refine guardP_d0 (fun _ => ?_) (fun _ => ?_) | with_reducible refine guardP_d1 (fun _ => ?_) (fun _ => ?_) | with_reducible refine condP_any ?_ ?_ | refine awR_call q1 rfl rfl ?_ | refine awR_callD q1 rfl rfl (fun _ => rfl) ?_ | refine awR_call q2 rfl rfl ?_ | refine awR_callD q2 rfl rfl (fun _ => rfl) ?_ | (refine Ends_rq [] ?_; simp (disch := first|omega|(simp only[pvl];omega)) only [↓pvd,pva,Pv.put,bin2,int2,binB2,un1,AV.flat,pvf,szOk,notStr,setCells,AV.one,resX,layC,layA,lay,List.map,List.replicate,List.length_replicate,pve,seval,reduceCtorEq]; exact ⟨_,rfl,rfl,rfl⟩))
  · rw [decide_eq_false hm]
    repeat' (first | (simp (disch := first|omega|(simp only[pvl];omega)) only [↓pvd,pva,Pv.put,bin2,int2,binB2,un1,AV.flat,pvf,szOk,notStr,setCells,AV.one,resX,layC,layA,lay,List.map,List.replicate,List.length_replicate,pve,seval,reduceCtorEq,still]) | with_reducible refine condP_d (fun _ => ?_) (fun _ => ?_) | with_reducible refine guardP_d0 (fun _ => ?_) (fun _ => ?_) | with_reducible refine guardP_d1 (fun _ => ?_) (fun _ => ?_) | with_reducible refine condP_any ?_ ?_ | refine awR_call q1 rfl rfl ?_ | refine awR_callD q1 rfl rfl (fun _ => rfl) ?_ | refine awR_call q2 rfl rfl ?_ | refine awR_callD q2 rfl rfl (fun _ => rfl) ?_ | (refine Ends_rq [] ?_; simp (disch := first|omega|(simp only[pvl];omega)) only [↓pvd,pva,Pv.put,bin2,int2,binB2,un1,AV.flat,pvf,szOk,notStr,setCells,AV.one,resX,layC,layA,lay,List.map,List.replicate,List.length_replicate,pve,seval,reduceCtorEq]; exact ⟨_,rfl,rfl,rfl⟩))
theorem rdm_b (s : List UInt8) : 0 ≤ (Mc.rdm s).1 ∧ (Mc.rdm s).1 < 18446744073709551616 := by
  unfold Mc.rdm
  split
  · rename_i h
    have := Mc.num_b s 6 h.2
    simp only
    omega
  · simp
theorem mac_gen (ws : List (List UInt8)) (f : Bool) (k : Nat) (e : Int) (A : Option Ent) (T : Hp) (hk : k < ws.length) (hw : ws.length ≤ 1000) (hl : ∀ w ∈ ws, w.length ≤ 1000) :
    Gen Tryd.prog 31 [.eptr 1 0 0] (A :: rdo ws f k e :: T) (.int .u64 (Mc.rdm ws[k]!).1) (A :: rdo ws f (k + 1) (fl e (!((Mc.rdm ws[k]!).2 && stn (Mc.rdm ws[k]!).1)) 21) :: T) := by
  have hwl : ws[k]!.length ≤ 1000 := hl _ (by rw [getElem!_pos ws k hk]; exact List.getElem_mem hk)
  have q := Mc.read_run ws[k]! (by simp only [maxLen]; omega)
  have hb := rdm_b ws[k]!
  have q2 := station_run (Mc.rdm ws[k]!).1 hb.1 hb.2
  refine Tryd.gen31 (by simp) ?_
  unfold Tryd.g31
  generalize (Mc.rdm ws[k]!).1 = m at *
  generalize (Mc.rdm ws[k]!).2 = ok at *
  generalize stn m = st at *
  simp (disch := first | omega | (simp only [pvl] at *; omega)) only [↓pvd,pva,Pv.put,bin2,int2,binB2,un1,AV.flat,pvf,szOk,notStr,setCells,AV.one,resX,layC,layA,lay,List.map,List.replicate,List.length_replicate,pve,seval,reduceCtorEq]
  refine awR_callG (next_gen ws f k e A T hk hw) ?_
  simp (disch := first | omega | (simp only [pvl] at *; omega)) only [↓pvd,pva,Pv.put,bin2,int2,binB2,un1,AV.flat,pvf,szOk,notStr,setCells,AV.one,resX,layC,layA,lay,List.map,List.replicate,List.length_replicate,pve,seval,reduceCtorEq]
  refine awR_call q rfl rfl ?_
  cases ok with
  | false =>
    simp (disch := first | omega | (simp only [pvl] at *; omega)) only [↓pvd,pva,Pv.put,bin2,int2,binB2,un1,AV.flat,pvf,szOk,notStr,setCells,AV.one,resX,layC,layA,lay,List.map,List.replicate,List.length_replicate,pve,seval,reduceCtorEq]
    refine awR_callG (fail_gen ws f (k + 1) e 21 true A T) ?_
    simp (disch := first | omega | (simp only [pvl] at *; omega)) only [↓pvd,pva,Pv.put,bin2,int2,binB2,un1,AV.flat,pvf,szOk,notStr,setCells,AV.one,resX,layC,layA,lay,List.map,List.replicate,List.length_replicate,pve,seval,reduceCtorEq]
    exact ⟨rfl, rfl⟩
  | true =>
    simp (disch := first | omega | (simp only [pvl] at *; omega)) only [↓pvd,pva,Pv.put,bin2,int2,binB2,un1,AV.flat,pvf,szOk,notStr,setCells,AV.one,resX,layC,layA,lay,List.map,List.replicate,List.length_replicate,pve,seval,reduceCtorEq]
    refine awR_call q2 rfl rfl ?_
    simp (disch := first | omega | (simp only [pvl] at *; omega)) only [↓pvd,pva,Pv.put,bin2,int2,binB2,un1,AV.flat,pvf,szOk,notStr,setCells,AV.one,resX,layC,layA,lay,List.map,List.replicate,List.length_replicate,pve,seval,reduceCtorEq]
    refine awR_callG (fail_gen ws f (k + 1) e 21 (!st) A T) ?_
    simp (disch := first | omega | (simp only [pvl] at *; omega)) only [↓pvd,pva,Pv.put,bin2,int2,binB2,un1,AV.flat,pvf,szOk,notStr,setCells,AV.one,resX,layC,layA,lay,List.map,List.replicate,List.length_replicate,pve,seval,reduceCtorEq]
    exact ⟨rfl, rfl⟩
end Go.Proofs
set_option linter.unusedSimpArgs false
set_option linter.unusedVariables false
set_option maxHeartbeats 2000000
set_option maxRecDepth 20000
namespace Go.Proofs
open Go.Pv
def idF (v : Int) : List Int → Nat → Int
  | [], _ => -1
  | x :: r, k => if v = x then k else idF v r (k + 1)
theorem idF_mem (v : Int) : ∀ (l : List Int) (k : Nat), decide (0 ≤ idF v l k) = decide (v ∈ l)
  | [], k => by simp [idF]
  | x :: r, k => by
    rw [idF]
    by_cases h : v = x
    · rw [if_pos h]; simp [h]
    · rw [if_neg h, idF_mem v r (k + 1)]; simp [h]
theorem index_run (l : List Int) (v : Int) (n : Nat) (f : Bool) (hn : l = [] ∨ n = 1) (hl : l.length ≤ 100000) : Run Tryd.prog 98 [.sl n (l.map (.int .i64)) f, .int .i64 v] (.int .i64 (idF v l 0)) := by
  refine Tryd.run98 (by simp) ?_
  unfold Tryd.c98
  simp (disch := first|omega|(simp only[pvl];omega)) only [↓pvd,pva,Pv.put,bin2,int2,binB2,un1,AV.flat,pvf,szOk,notStr,setCells,AV.one,resX,layC,layA,lay,List.map,List.replicate,List.length_replicate,pve,seval,reduceCtorEq,List.length_map]
  refine aw_loop (fun k : Nat => ⟨[(0, .sl n (l.map (.int .i64)) f), (1, .int .i64 v), (7, .int .i64 l.length), (8, .int .i64 k)], []⟩) (fun k => k ≤ l.length ∧ idF v l 0 = idF v (l.drop k) k) (fun k => l.length - k) 0 ?_ ⟨by omega, by simp⟩ ?_
  · simp (disch := first | omega | (simp only [pvl] at *; omega)) only [↓pvd,pva,Pv.put,bin2,int2,binB2,un1,AV.flat,pvf,szOk,notStr,setCells,AV.one,resX,layC,layA,lay,List.map,List.replicate,List.length_replicate,pve,seval,reduceCtorEq]
    try rfl
  rintro k ⟨hk, hi⟩
  unfold Tryd.c98b0
  by_cases hx : k < l.length
  · obtain rfl : n = 1 := hn.resolve_left (by rintro rfl; simp at hx)
    have hgi : (l.map (AV.int .i64))[k]? = some (.int .i64 l[k]!) := map_get hx
    have hd : l.drop k = l[k]! :: l.drop (k + 1) := by rw [getElem!_pos l k hx]; exact List.drop_eq_getElem_cons hx
    rw [hd, idF] at hi
    by_cases h : v = l[k]!
    · rw [if_pos h] at hi
      rw [hi]
      repeat' (first | (simp (disch := first|omega|(simp only[pvl];omega)) only [↓pvd,pva,Pv.put,bin2,int2,binB2,un1,AV.flat,pvf,szOk,notStr,setCells,AV.one,resX,layC,layA,lay,List.map,List.replicate,List.length_replicate,pve,seval,reduceCtorEq,hgi,List.length_map,still]) | with_reducible refine condP_d (fun _ => ?_) (fun _ => ?_) | with_reducible refine guardP_d0 (fun _ => ?_) (fun _ => ?_) | with_reducible refine guardP_d1 (fun _ => ?_) (fun _ => ?_) | with_reducible refine condP_any ?_ ?_ | (refine Ends_rq [] ?_; simp (disch := first|omega|(simp only[pvl];omega)) only [↓pvd,pva,Pv.put,bin2,int2,binB2,un1,AV.flat,pvf,szOk,notStr,setCells,AV.one,resX,layC,layA,lay,List.map,List.replicate,List.length_replicate,pve,seval,reduceCtorEq]; exact ⟨_,rfl,rfl,rfl⟩))
    · rw [if_neg h] at hi
      repeat' (first | (simp (disch := first|omega|(simp only[pvl];omega)) only [↓pvd,pva,Pv.put,bin2,int2,binB2,un1,AV.flat,pvf,szOk,notStr,setCells,AV.one,resX,layC,layA,lay,List.map,List.replicate,List.length_replicate,pve,seval,reduceCtorEq,hgi,List.length_map,still]) | with_reducible refine condP_d (fun _ => ?_) (fun _ => ?_) | with_reducible refine guardP_d0 (fun _ => ?_) (fun _ => ?_) | with_reducible refine guardP_d1 (fun _ => ?_) (fun _ => ?_) | with_reducible refine condP_any ?_ ?_ | (refine Ends_rq [] ?_; simp (disch := first|omega|(simp only[pvl];omega)) only [↓pvd,pva,Pv.put,bin2,int2,binB2,un1,AV.flat,pvf,szOk,notStr,setCells,AV.one,resX,layC,layA,lay,List.map,List.replicate,List.length_replicate,pve,seval,reduceCtorEq]; exact ⟨_,rfl,rfl,rfl⟩))
      exact ⟨k + 1, rfl, ⟨hx, hi⟩, by omega⟩
  · have e : k = l.length := by omega
    rw [e, List.drop_length, idF] at hi
    rw [hi]
    repeat' (first | (simp (disch := first|omega|(simp only[pvl];omega)) only [↓pvd,pva,Pv.put,bin2,int2,binB2,un1,AV.flat,pvf,szOk,notStr,setCells,AV.one,resX,layC,layA,lay,List.map,List.replicate,List.length_replicate,pve,seval,reduceCtorEq,List.length_map,still]) | with_reducible refine condP_d (fun _ => ?_) (fun _ => ?_) | with_reducible refine guardP_d0 (fun _ => ?_) (fun _ => ?_) | with_reducible refine guardP_d1 (fun _ => ?_) (fun _ => ?_) | with_reducible refine condP_any ?_ ?_ | (refine Ends_rq [] ?_; simp (disch := first|omega|(simp only[pvl];omega)) only [↓pvd,pva,Pv.put,bin2,int2,binB2,un1,AV.flat,pvf,szOk,notStr,setCells,AV.one,resX,layC,layA,lay,List.map,List.replicate,List.length_replicate,pve,seval,reduceCtorEq]; exact ⟨_,rfl,rfl,rfl⟩))
theorem contains_run (l : List Int) (v : Int) (n : Nat) (f : Bool) (hn : l = [] ∨ n = 1) (hl : l.length ≤ 100000) : Run Tryd.prog 79 [.sl n (l.map (.int .i64)) f, .int .i64 v] (.bool (decide (v ∈ l))) := by
  have q := index_run l v n f hn hl
  refine Tryd.run79 (by simp) ?_
  unfold Tryd.c79
  rw [← idF_mem v l 0]
  generalize idF v l 0 = i at *
  generalize l.map (AV.int .i64) = es at *
  simp (disch := first | omega | (simp only [pvl] at *; omega)) only [↓pvd,pva,Pv.put,bin2,int2,binB2,un1,AV.flat,pvf,szOk,notStr,setCells,AV.one,resX,layC,layA,lay,List.map,List.replicate,List.length_replicate,pve,seval,reduceCtorEq]
  refine awR_call q rfl rfl ?_
  simp (disch := first | omega | (simp only [pvl] at *; omega)) only [↓pvd,pva,Pv.put,bin2,int2,binB2,un1,AV.flat,pvf,szOk,notStr,setCells,AV.one,resX,layC,layA,lay,List.map,List.replicate,List.length_replicate,pve,seval,reduceCtorEq]
  (refine Ends_rq [] ?_; simp (disch := first|omega|(simp only[pvl];omega)) only [↓pvd,pva,Pv.put,bin2,int2,binB2,un1,AV.flat,pvf,szOk,notStr,setCells,AV.one,resX,layC,layA,lay,List.map,List.replicate,List.length_replicate,pve,seval,reduceCtorEq]; exact ⟨_,rfl,rfl,rfl⟩)
structure Ln where
  row : Int
  kind : Int
  dev : List UInt8
  port : List UInt8
  peer : List UInt8
  far : List UInt8
  name : List UInt8
  mac : Int
  addr : Int
  bits : Int
  vlan : Int
  num : Int
  cost : Int
deriving DecidableEq
def lnA (l : Ln) (t im ex ad : AV) : AV := .agg [.int .i64 l.row, .int .i64 l.kind, .str l.dev, .str l.port, .str l.peer, .str l.far, .str l.name, .int .u64 l.mac, .int .u32 l.addr, .int .i64 l.bits, .int .i64 l.vlan, .int .i64 l.num, .int .i64 l.cost, t, im, ex, ad]
def lnZ : Ln := ⟨0, 0, [], [], [], [], [], 0, 0, 0, 0, 0, 0⟩
def nilA : AV := .sl 0 [] true
def mbF (v : Int) (tg : List Int) : Bool := decide (0 < v ∨ 0 < tg.length) && !decide (v ∈ tg)
theorem members_run (l : Ln) (tg : List Int) (n : Nat) (f : Bool) (im ex ad : List AV) (a b c : Nat) (p q r : Bool) (hn : tg = [] ∨ n = 1) (hl : tg.length ≤ 100000) :
    Run Tryd.prog 57 [lnA l (.sl n (tg.map (.int .i64)) f) (.sl a im p) (.sl b ex q) (.sl c ad r)] (.bool (mbF l.vlan tg)) := by
  have q := contains_run tg l.vlan n f hn hl
  refine Tryd.run57 (by simp) ?_
  unfold Tryd.c57 lnA mbF
  generalize decide (l.vlan ∈ tg) = ct at *
  have htl : (tg.map (AV.int .i64)).length = tg.length := by simp
  generalize tg.map (AV.int .i64) = es at *
  by_cases h1 : 0 < l.vlan
  · rw [decide_eq_true (.inl h1)]
    repeat' (first | (simp (disch := first|omega|(simp only[pvl];omega)) only [↓pvd,pva,Pv.put,bin2,int2,binB2,un1,AV.flat,pvf,szOk,notStr,setCells,AV.one,resX,layC,layA,lay,List.map,List.replicate,List.length_replicate,pve,seval,reduceCtorEq,htl,still]) | with_reducible refine condP_d (fun _ => ?_) (fun _ => ?_) | with_reducible refine guardP_d0 (fun _ => ?_) (fun _ => ?_) | with_reducible refine guardP_d1 (fun _ => ?_) (fun _ => ?_) | with_reducible refine condP_any ?_ ?_ | refine awR_call q rfl rfl ?_ | refine awR_callD q rfl rfl (fun _ => rfl) ?_ | (refine Ends_rq [] ?_; simp (disch := first|omega|(simp only[pvl];omega)) only [↓pvd,pva,Pv.put,bin2,int2,binB2,un1,AV.flat,pvf,szOk,notStr,setCells,AV.one,resX,layC,layA,lay,List.map,List.replicate,List.length_replicate,pve,seval,reduceCtorEq]; exact ⟨_,rfl,rfl,rfl⟩))
  · by_cases h2 : 0 < tg.length
    · rw [decide_eq_true (.inr h2)]
      repeat' (first | (simp (disch := first|omega|(simp only[pvl];omega)) only [↓pvd,pva,Pv.put,bin2,int2,binB2,un1,AV.flat,pvf,szOk,notStr,setCells,AV.one,resX,layC,layA,lay,List.map,List.replicate,List.length_replicate,pve,seval,reduceCtorEq,htl,still]) | with_reducible refine condP_d (fun _ => ?_) (fun _ => ?_) | with_reducible refine guardP_d0 (fun _ => ?_) (fun _ => ?_) | with_reducible refine guardP_d1 (fun _ => ?_) (fun _ => ?_) | with_reducible refine condP_any ?_ ?_ | refine awR_call q rfl rfl ?_ | refine awR_callD q rfl rfl (fun _ => rfl) ?_ | (refine Ends_rq [] ?_; simp (disch := first|omega|(simp only[pvl];omega)) only [↓pvd,pva,Pv.put,bin2,int2,binB2,un1,AV.flat,pvf,szOk,notStr,setCells,AV.one,resX,layC,layA,lay,List.map,List.replicate,List.length_replicate,pve,seval,reduceCtorEq]; exact ⟨_,rfl,rfl,rfl⟩))
    · rw [decide_eq_false (fun h => h.elim h1 h2)]
      repeat' (first | (simp (disch := first|omega|(simp only[pvl];omega)) only [↓pvd,pva,Pv.put,bin2,int2,binB2,un1,AV.flat,pvf,szOk,notStr,setCells,AV.one,resX,layC,layA,lay,List.map,List.replicate,List.length_replicate,pve,seval,reduceCtorEq,htl,still]) | with_reducible refine condP_d (fun _ => ?_) (fun _ => ?_) | with_reducible refine guardP_d0 (fun _ => ?_) (fun _ => ?_) | with_reducible refine guardP_d1 (fun _ => ?_) (fun _ => ?_) | with_reducible refine condP_any ?_ ?_ | refine awR_call q rfl rfl ?_ | refine awR_callD q rfl rfl (fun _ => rfl) ?_ | (refine Ends_rq [] ?_; simp (disch := first|omega|(simp only[pvl];omega)) only [↓pvd,pva,Pv.put,bin2,int2,binB2,un1,AV.flat,pvf,szOk,notStr,setCells,AV.one,resX,layC,layA,lay,List.map,List.replicate,List.length_replicate,pve,seval,reduceCtorEq]; exact ⟨_,rfl,rfl,rfl⟩))
end Go.Proofs
set_option linter.unusedSimpArgs false
set_option linter.unusedVariables false
set_option maxHeartbeats 2000000
set_option maxRecDepth 20000
namespace Go.Proofs
open Go.Pv
def slV (l : List Int) : AV := if l = [] then nilA else .sl 1 (l.map (.int .i64)) false
def lsG (s : List UInt8) (most : Int) : Bool := rlF (gI 1 most) (sc s)
def lsV (s : List UInt8) (most : Int) : List Int := if s = [45] then [] else if lsG s most = true then (sc s).map fun p => (gI 1 most p).1 else []
def lsB (s : List UInt8) (most : Int) : Bool := !decide (s = [45]) && !lsG s most
theorem list_gen (ws : List (List UInt8)) (f : Bool) (k : Nat) (e b : Int) (A : Option Ent) (T : Hp) (hk : k < ws.length) (hw : ws.length ≤ 1000) (hl : ∀ w ∈ ws, w.length ≤ 1000) :
    Gen Tryd.prog 38 [.eptr 1 0 0, .int .i64 b] (A :: rdo ws f k e :: T) (slV (lsV ws[k]! b)) (A :: rdo ws f (k + 1) (fl e (lsB ws[k]! b) 21) :: T) := by
  have hwl : ws[k]!.length ≤ 1000 := hl _ (by rw [getElem!_pos ws k hk]; exact List.getElem_mem hk)
  have q := run_frz (rdlist_run ws[k]! 1 b hwl)
  refine Tryd.gen38 (by simp) ?_
  unfold Tryd.g38
  unfold lsV lsB
  generalize hs : ws[k]! = s at *
  have hne := sc_ne s
  by_cases h1 : s = [45]
  · rw [if_pos h1, decide_eq_true h1]
    simp (disch := first | omega | (simp only [pvl] at *; omega)) only [↓pvd,pva,Pv.put,bin2,int2,binB2,un1,AV.flat,pvf,szOk,notStr,setCells,AV.one,resX,layC,layA,lay,List.map,List.replicate,List.length_replicate,pve,seval,reduceCtorEq]
    refine awR_callG (next_gen ws f k e A T hk hw) ?_
    simp (disch := first|omega|(simp only[pvl];omega)) only [↓pvd,pva,Pv.put,bin2,int2,binB2,un1,AV.flat,pvf,szOk,notStr,setCells,AV.one,resX,layC,layA,lay,List.map,List.replicate,List.length_replicate,pve,seval,reduceCtorEq,hs,h1]
    rw [show fl e false 21 = e by simp [fl]]
    exact ⟨rfl, rfl⟩
  · rw [if_neg h1, decide_eq_false h1]
    by_cases h2 : lsG s b = true
    · have h2' : rlF (gI 1 b) (sc s) = true := h2
      rw [if_pos h2, h2]
      rw [rlR_yes h2'] at q
      generalize hvs : ((sc s).map fun p => (gI 1 b p).1) = vs at *
      have hv : vs ≠ [] := by rw [← hvs]; simpa using hne
      rw [show slV vs = .sl 1 (vs.map (.int .i64)) false by unfold slV; rw [if_neg hv]]
      generalize vs.map (AV.int .i64) = es at *
      simp only [frz,frzA,frzC,List.map_cons,List.map_nil] at q
      simp (disch := first | omega | (simp only [pvl] at *; omega)) only [↓pvd,pva,Pv.put,bin2,int2,binB2,un1,AV.flat,pvf,szOk,notStr,setCells,AV.one,resX,layC,layA,lay,List.map,List.replicate,List.length_replicate,pve,seval,reduceCtorEq]
      refine awR_callG (next_gen ws f k e A T hk hw) ?_
      simp (disch := first|omega|(simp only[pvl];omega)) only [↓pvd,pva,Pv.put,bin2,int2,binB2,un1,AV.flat,pvf,szOk,notStr,setCells,AV.one,resX,layC,layA,lay,List.map,List.replicate,List.length_replicate,pve,seval,reduceCtorEq,hs,h1]
      refine awR_call q rfl rfl ?_
      simp (disch := first | omega | (simp only [pvl] at *; omega)) only [↓pvd,pva,Pv.put,bin2,int2,binB2,un1,AV.flat,pvf,szOk,notStr,setCells,AV.one,resX,layC,layA,lay,List.map,List.replicate,List.length_replicate,pve,seval,reduceCtorEq]
      refine awR_callG (fail_gen ws f (k + 1) e 21 false A T) ?_
      simp (disch := first | omega | (simp only [pvl] at *; omega)) only [↓pvd,pva,Pv.put,bin2,int2,binB2,un1,AV.flat,pvf,szOk,notStr,setCells,AV.one,resX,layC,layA,lay,List.map,List.replicate,List.length_replicate,pve,seval,reduceCtorEq]
      exact ⟨rfl, rfl⟩
    · have h2' : ¬ rlF (gI 1 b) (sc s) = true := h2
      rw [if_neg h2, show lsG s b = false by simpa using h2]
      rw [rlR_no h2'] at q
      simp only [frz,frzA,frzC,List.map_cons,List.map_nil] at q
      rw [show slV [] = nilA from rfl]
      unfold nilA
      simp (disch := first | omega | (simp only [pvl] at *; omega)) only [↓pvd,pva,Pv.put,bin2,int2,binB2,un1,AV.flat,pvf,szOk,notStr,setCells,AV.one,resX,layC,layA,lay,List.map,List.replicate,List.length_replicate,pve,seval,reduceCtorEq]
      refine awR_callG (next_gen ws f k e A T hk hw) ?_
      simp (disch := first|omega|(simp only[pvl];omega)) only [↓pvd,pva,Pv.put,bin2,int2,binB2,un1,AV.flat,pvf,szOk,notStr,setCells,AV.one,resX,layC,layA,lay,List.map,List.replicate,List.length_replicate,pve,seval,reduceCtorEq,hs,h1]
      refine awR_call q rfl rfl ?_
      simp (disch := first | omega | (simp only [pvl] at *; omega)) only [↓pvd,pva,Pv.put,bin2,int2,binB2,un1,AV.flat,pvf,szOk,notStr,setCells,AV.one,resX,layC,layA,lay,List.map,List.replicate,List.length_replicate,pve,seval,reduceCtorEq]
      refine awR_callG (fail_gen ws f (k + 1) e 21 true A T) ?_
      simp (disch := first | omega | (simp only [pvl] at *; omega)) only [↓pvd,pva,Pv.put,bin2,int2,binB2,un1,AV.flat,pvf,szOk,notStr,setCells,AV.one,resX,layC,layA,lay,List.map,List.replicate,List.length_replicate,pve,seval,reduceCtorEq]
      exact ⟨rfl, rfl⟩
def pkV (ws : List (List UInt8)) (k : Nat) : Int := if ws[k]! = [97, 99, 99, 101, 115, 115] then (Nm.rdF ws[k + 1]! 1 4094).1 else if ws[k]! = [116, 114, 117, 110, 107] then (if ws[k + 1]! = [45] then 0 else (Nm.rdF ws[k + 1]! 1 4094).1) else 0
def pkT (ws : List (List UInt8)) (k : Nat) : List Int := if ws[k]! = [116, 114, 117, 110, 107] then lsV ws[k + 2]! 4094 else []
def pkE (ws : List (List UInt8)) (k : Nat) (e : Int) : Int :=
  let e1 := if ws[k]! = [97, 99, 99, 101, 115, 115] then fl e (!(Nm.rdF ws[k + 1]! 1 4094).2) 21 else if ws[k]! = [116, 114, 117, 110, 107] then fl (if ws[k + 1]! = [45] then e else fl e (!(Nm.rdF ws[k + 1]! 1 4094).2) 21) (lsB ws[k + 2]! 4094) 21 else e
  fl e1 (!mbF (pkV ws k) (pkT ws k)) 21
def lno (l : Ln) (t im ex ad : AV) : Option Ent := some ⟨35, [lnA l t im ex ad], true⟩
theorem slV_is (l : List Int) : ∃ n f, slV l = .sl n (l.map (.int .i64)) f ∧ (l = [] ∨ n = 1) := by
  unfold slV nilA
  by_cases h : l = []
  · subst h; exact ⟨0, true, rfl, .inl rfl⟩
  · rw [if_neg h]; exact ⟨1, false, rfl, .inr rfl⟩
theorem lsV_len (s : List UInt8) (b : Int) : (lsV s b).length ≤ 16 := by
  unfold lsV
  split
  · simp
  · split
    · rename_i h
      rw [List.length_map]
      exact (rlF_iff.1 h).2.1
    · simp
theorem port_end (ws : List (List UInt8)) (f : Bool) (k : Nat) (e : Int) (A : Option Ent) (T : Hp) (l : Ln) (tg : List Int) (hl : tg.length ≤ 16) :
    Run Tryd.prog 57 [lnA l (slV tg) nilA nilA nilA] (.bool (mbF l.vlan tg)) := by
  obtain ⟨n, f, h1, h2⟩ := slV_is tg
  rw [h1]
  exact members_run l tg n f [] [] [] 0 0 0 true true true h2 (by omega)
set_option maxHeartbeats 8000000 in
theorem port_gen (ws : List (List UInt8)) (f : Bool) (k : Nat) (e : Int) (A : Option Ent) (T : Hp) (l : Ln) (hv : l.vlan = 0) (hw : ws.length ≤ 1000) (hl : ∀ w ∈ ws, w.length ≤ 1000)
    (hk : k < ws.length) (hk1 : ws[k]! = [97, 99, 99, 101, 115, 115] → k + 1 < ws.length) (hk2 : ws[k]! = [116, 114, 117, 110, 107] → k + 2 < ws.length) : ∃ k',
    Gen Tryd.prog 33 [.eptr 1 0 0, .eptr 2 0 0] (A :: rdo ws f k e :: lno l nilA nilA nilA nilA :: T) (.tup [])
      (A :: rdo ws f k' (pkE ws k e) :: lno { l with vlan := pkV ws k } (slV (pkT ws k)) nilA nilA nilA :: T) := by
  by_cases ha : ws[k]! = [97, 99, 99, 101, 115, 115]
  · have hv1 : pkV ws k = (Nm.rdF ws[k + 1]! 1 4094).1 := by unfold pkV; rw [if_pos ha]
    have ht : pkT ws k = [] := by unfold pkT; rw [if_neg (by rw [ha]; decide)]
    have he : pkE ws k e = fl (fl e (!(Nm.rdF ws[k + 1]! 1 4094).2) 21) (!mbF (pkV ws k) (pkT ws k)) 21 := by unfold pkE; rw [if_pos ha]
    have q := port_end ws f k e A T { l with vlan := pkV ws k } (pkT ws k) (by rw [ht]; simp)
    refine ⟨k + 2, ?_⟩
    rw [he]
    refine gen_strip (n := 0) (Tryd.gen33 (by simp) ?_)
    unfold Tryd.g33
    have q2 := vlan_gen ws f (k + 1) e A (lno l nilA nilA nilA nilA :: T) (hk1 ha) hw hl
    rw [ht, show slV [] = .sl 0 [] true from if_pos rfl] at q ⊢
    rw [hv1] at q ⊢
    generalize (Nm.rdF ws[k + 1]! 1 4094).1 = v at *
    generalize (Nm.rdF ws[k + 1]! 1 4094).2 = ok at *
    simp only at q
    generalize hm : mbF v [] = m at *
    simp (disch := first | omega | (simp only [pvl] at *; omega)) only [↓pvd,pva,Pv.put,bin2,int2,binB2,un1,AV.flat,pvf,szOk,notStr,setCells,AV.one,resX,layC,layA,lay,List.map,List.replicate,List.length_replicate,pve,seval,reduceCtorEq]
    refine awR_callG (next_gen ws f k e A _ hk hw) ?_
    simp (disch := first|omega|(simp only[pvl];omega)) only [↓pvd,pva,Pv.put,bin2,int2,binB2,un1,AV.flat,pvf,szOk,notStr,setCells,AV.one,resX,layC,layA,lay,List.map,List.replicate,List.length_replicate,pve,seval,reduceCtorEq,ha]
    refine awR_callG q2 ?_
    simp (disch := first|omega|(simp only[pvl];omega)) only [↓pvd,pva,Pv.put,bin2,int2,binB2,un1,AV.flat,pvf,szOk,notStr,setCells,AV.one,resX,layC,layA,lay,List.map,List.replicate,List.length_replicate,pve,seval,reduceCtorEq,lno,lnA,nilA]
    refine awR_call q rfl rfl ?_
    simp (disch := first | omega | (simp only [pvl] at *; omega)) only [↓pvd,pva,Pv.put,bin2,int2,binB2,un1,AV.flat,pvf,szOk,notStr,setCells,AV.one,resX,layC,layA,lay,List.map,List.replicate,List.length_replicate,pve,seval,reduceCtorEq]
    refine awR_callG (fail_gen ws f (k + 1 + 1) _ 21 (!m) A _) ?_
    simp (disch := first | omega | (simp only [pvl] at *; omega)) only [↓pvd,pva,Pv.put,bin2,int2,binB2,un1,AV.flat,pvf,szOk,notStr,setCells,AV.one,resX,layC,layA,lay,List.map,List.replicate,List.length_replicate,pve,seval,reduceCtorEq]
    exact ⟨rfl, by simp⟩
  · by_cases hb : ws[k]! = [116, 114, 117, 110, 107]
    · have h2 := hk2 hb
      have ha' : decide (ws[k]! = [97, 99, 99, 101, 115, 115]) = false := decide_eq_false ha
      have hb' : decide (ws[k]! = [116, 114, 117, 110, 107]) = true := decide_eq_true hb
      have ht : pkT ws k = lsV ws[k + 2]! 4094 := by unfold pkT; rw [if_pos hb]
      have htl : (pkT ws k).length ≤ 16 := by rw [ht]; exact lsV_len _ _
      have q := port_end ws f k e A T { l with vlan := pkV ws k } (pkT ws k) htl
      have hg1 : (ws.map AV.str)[k + 1]? = some (.str ws[k + 1]!) := map_get (by omega)
      by_cases hd : ws[k + 1]! = [45]
      · have hv1 : pkV ws k = 0 := by unfold pkV; rw [if_neg ha, if_pos hb, if_pos hd]
        have he : pkE ws k e = fl (fl e (lsB ws[k + 2]! 4094) 21) (!mbF (pkV ws k) (pkT ws k)) 21 := by unfold pkE; rw [if_neg ha, if_pos hb, if_pos hd]
        refine ⟨k + 3, ?_⟩
        rw [he]
        refine gen_strip (n := 11) (Tryd.gen33 (by simp) ?_)
        unfold Tryd.g33
        have q3 := fun (T : Hp) => list_gen ws f (k + 2) e 4094 A T h2 hw hl
        rw [ht] at q ⊢
        rw [hv1] at q ⊢
        generalize lsV ws[k + 2]! 4094 = tg at *
        generalize lsB ws[k + 2]! 4094 = bad at *
        simp only at q
        generalize hm : mbF 0 tg = m at *
        obtain ⟨n, f', hsl, _⟩ := slV_is tg
        rw [hsl] at q q3 ⊢
        generalize tg.map (AV.int .i64) = es at *
        simp (disch := first | omega | (simp only [pvl] at *; omega)) only [↓pvd,pva,Pv.put,bin2,int2,binB2,un1,AV.flat,pvf,szOk,notStr,setCells,AV.one,resX,layC,layA,lay,List.map,List.replicate,List.length_replicate,pve,seval,reduceCtorEq]
        refine awR_callG (next_gen ws f k e A _ hk hw) ?_
        simp (disch := first|omega|(simp only[pvl];omega)) only [↓pvd,pva,Pv.put,bin2,int2,binB2,un1,AV.flat,pvf,szOk,notStr,setCells,AV.one,resX,layC,layA,lay,List.map,List.replicate,List.length_replicate,pve,seval,reduceCtorEq,ha',hb',rdo,hg1,hd,List.length_map]
        rw [show (((k + 1 : Nat) : Int) + 1) = ((k + 2 : Nat) : Int) by omega]
        refine awR_callG (q3 _) ?_
        simp (disch := first|omega|(simp only[pvl];omega)) only [↓pvd,pva,Pv.put,bin2,int2,binB2,un1,AV.flat,pvf,szOk,notStr,setCells,AV.one,resX,layC,layA,lay,List.map,List.replicate,List.length_replicate,pve,seval,reduceCtorEq,lno,lnA,nilA]
        refine awR_call q (by simp only [lnA,nilA,hv]; rfl) rfl ?_
        simp (disch := first | omega | (simp only [pvl] at *; omega)) only [↓pvd,pva,Pv.put,bin2,int2,binB2,un1,AV.flat,pvf,szOk,notStr,setCells,AV.one,resX,layC,layA,lay,List.map,List.replicate,List.length_replicate,pve,seval,reduceCtorEq]
        refine awR_callG (fail_gen ws f (k + 2 + 1) _ 21 (!m) A _) ?_
        simp (disch := first | omega | (simp only [pvl] at *; omega)) only [↓pvd,pva,Pv.put,bin2,int2,binB2,un1,AV.flat,pvf,szOk,notStr,setCells,AV.one,resX,layC,layA,lay,List.map,List.replicate,List.length_replicate,pve,seval,reduceCtorEq]
        exact ⟨rfl, by simp [rdo, hv]; omega⟩
      · have hv1 : pkV ws k = (Nm.rdF ws[k + 1]! 1 4094).1 := by unfold pkV; rw [if_neg ha, if_pos hb, if_neg hd]
        have he : pkE ws k e = fl (fl (fl e (!(Nm.rdF ws[k + 1]! 1 4094).2) 21) (lsB ws[k + 2]! 4094) 21) (!mbF (pkV ws k) (pkT ws k)) 21 := by unfold pkE; rw [if_neg ha, if_pos hb, if_neg hd]
        refine ⟨k + 3, ?_⟩
        rw [he]
        refine gen_strip (n := 11) (Tryd.gen33 (by simp) ?_)
        unfold Tryd.g33
        have q2 := fun (T : Hp) => vlan_gen ws f (k + 1) e A T (by omega) hw hl
        have q3 := fun (e : Int) (T : Hp) => list_gen ws f (k + 2) e 4094 A T h2 hw hl
        rw [ht] at q ⊢
        rw [hv1] at q ⊢
        generalize lsV ws[k + 2]! 4094 = tg at *
        generalize lsB ws[k + 2]! 4094 = bad at *
        generalize (Nm.rdF ws[k + 1]! 1 4094).1 = v at *
        generalize (Nm.rdF ws[k + 1]! 1 4094).2 = ok at *
        simp only at q
        generalize hm : mbF v tg = m at *
        obtain ⟨n, f', hsl, _⟩ := slV_is tg
        rw [hsl] at q q3 ⊢
        generalize tg.map (AV.int .i64) = es at *
        simp (disch := first | omega | (simp only [pvl] at *; omega)) only [↓pvd,pva,Pv.put,bin2,int2,binB2,un1,AV.flat,pvf,szOk,notStr,setCells,AV.one,resX,layC,layA,lay,List.map,List.replicate,List.length_replicate,pve,seval,reduceCtorEq]
        refine awR_callG (next_gen ws f k e A _ hk hw) ?_
        simp (disch := first|omega|(simp only[pvl];omega)) only [↓pvd,pva,Pv.put,bin2,int2,binB2,un1,AV.flat,pvf,szOk,notStr,setCells,AV.one,resX,layC,layA,lay,List.map,List.replicate,List.length_replicate,pve,seval,reduceCtorEq,ha',hb',rdo,hg1,hd,List.length_map]
        refine awR_callG (q2 _) ?_
        simp (disch := first|omega|(simp only[pvl];omega)) only [↓pvd,pva,Pv.put,bin2,int2,binB2,un1,AV.flat,pvf,szOk,notStr,setCells,AV.one,resX,layC,layA,lay,List.map,List.replicate,List.length_replicate,pve,seval,reduceCtorEq,lno,lnA,nilA]
        refine awR_callG (q3 _ _) ?_
        simp (disch := first | omega | (simp only [pvl] at *; omega)) only [↓pvd,pva,Pv.put,bin2,int2,binB2,un1,AV.flat,pvf,szOk,notStr,setCells,AV.one,resX,layC,layA,lay,List.map,List.replicate,List.length_replicate,pve,seval,reduceCtorEq]
        refine awR_call q rfl rfl ?_
        simp (disch := first | omega | (simp only [pvl] at *; omega)) only [↓pvd,pva,Pv.put,bin2,int2,binB2,un1,AV.flat,pvf,szOk,notStr,setCells,AV.one,resX,layC,layA,lay,List.map,List.replicate,List.length_replicate,pve,seval,reduceCtorEq]
        refine awR_callG (fail_gen ws f (k + 2 + 1) _ 21 (!m) A _) ?_
        simp (disch := first | omega | (simp only [pvl] at *; omega)) only [↓pvd,pva,Pv.put,bin2,int2,binB2,un1,AV.flat,pvf,szOk,notStr,setCells,AV.one,resX,layC,layA,lay,List.map,List.replicate,List.length_replicate,pve,seval,reduceCtorEq]
        exact ⟨rfl, by simp [rdo]; omega⟩
    · have hv1 : pkV ws k = 0 := by unfold pkV; rw [if_neg ha, if_neg hb]
      have ht : pkT ws k = [] := by unfold pkT; rw [if_neg hb]
      have he : pkE ws k e = fl e (!mbF (pkV ws k) (pkT ws k)) 21 := by unfold pkE; rw [if_neg ha, if_neg hb]
      have q := port_end ws f k e A T { l with vlan := pkV ws k } (pkT ws k) (by rw [ht]; simp)
      refine ⟨k + 1, ?_⟩
      rw [he]
      refine gen_strip (n := 0) (Tryd.gen33 (by simp) ?_)
      unfold Tryd.g33
      rw [ht, show slV [] = .sl 0 [] true from if_pos rfl] at q ⊢
      rw [hv1] at q ⊢
      simp only at q
      generalize hm : mbF 0 [] = m at *
      simp (disch := first | omega | (simp only [pvl] at *; omega)) only [↓pvd,pva,Pv.put,bin2,int2,binB2,un1,AV.flat,pvf,szOk,notStr,setCells,AV.one,resX,layC,layA,lay,List.map,List.replicate,List.length_replicate,pve,seval,reduceCtorEq]
      refine awR_callG (next_gen ws f k e A _ hk hw) ?_
      simp (disch := first|omega|(simp only[pvl];omega)) only [↓pvd,pva,Pv.put,bin2,int2,binB2,un1,AV.flat,pvf,szOk,notStr,setCells,AV.one,resX,layC,layA,lay,List.map,List.replicate,List.length_replicate,pve,seval,reduceCtorEq,ha,hb,lno,lnA,nilA]
      refine awR_call q (by simp only [lnA,nilA,hv]; rfl) rfl ?_
      simp (disch := first | omega | (simp only [pvl] at *; omega)) only [↓pvd,pva,Pv.put,bin2,int2,binB2,un1,AV.flat,pvf,szOk,notStr,setCells,AV.one,resX,layC,layA,lay,List.map,List.replicate,List.length_replicate,pve,seval,reduceCtorEq]
      refine awR_callG (fail_gen ws f (k + 1) _ 21 (!m) A _) ?_
      simp (disch := first | omega | (simp only [pvl] at *; omega)) only [↓pvd,pva,Pv.put,bin2,int2,binB2,un1,AV.flat,pvf,szOk,notStr,setCells,AV.one,resX,layC,layA,lay,List.map,List.replicate,List.length_replicate,pve,seval,reduceCtorEq]
      rw [hv]
      exact ⟨rfl, by simp⟩
end Go.Proofs
