/- The proofs of what the functions of this seat do. -/
import Derived.Test.YtppdpcfmkmnfjaaGreatDoorPr5
set_option linter.unusedSimpArgs false
set_option linter.unusedVariables false
set_option maxHeartbeats 2000000
set_option maxRecDepth 20000
namespace Go.Proofs
open Go.Pv
def slV (l : List Int) : AV:=if l = [] then nilA else .sl 1 (l.map (.int .i64)) false
def lsG (s : List UInt8) (most : Int) : Bool:=rlF (gI 1 most) (sc s)
def lsV (s : List UInt8) (most : Int) : List Int:=if s = [45] then [] else if lsG s most = true then (sc s).map fun p=>(gI 1 most p).1 else []
def lsB (s : List UInt8) (most : Int) : Bool:=!decide (s = [45]) && !lsG s most
theorem list_gen (ws : List (List UInt8)) (f : Bool) (k : Nat) (e b : Int) (A : Option Ent) (T : Hp) (hk : k < ws.length) (hw : ws.length ≤ 1000) (hl : ∀ w ∈ ws, w.length ≤ 1000) :
  Gen Tryz.prog 42 [.eptr 1 0 0, .int .i64 b] (A :: rdo ws f k e :: T) (slV (lsV ws[k]! b)) (A :: rdo ws f (k + 1) (fl e (lsB ws[k]! b) 21) :: T):=by
 have hwl : ws[k]!.length ≤ 1000:=hl _ (by rw [getElem!_pos ws k hk]; exact List.getElem_mem hk)
 have q:=run_frz (rdlist_run ws[k]! 1 b hwl)
 refine Tryz.gen42 (by simp) ?_
 unfold Tryz.g42
 unfold lsV lsB
 generalize hs : ws[k]! = s at *
 have hne:=sc_ne s
 by_cases h1 : s = [45]
 ·rw [if_pos h1, decide_eq_true h1]
  simp (disch:=first|omega|(simp only[pvl] at *;omega)) only [↓pvd,pva,pvr,bin2,binB2,un1,setCells,List.map,seval,reduceCtorEq]
  refine awR_callG (next_gen ws f k e A T hk hw) ?_
  simp (disch:=first|omega|(simp only[pvl];omega)) only [↓pvd,pva,pvr,bin2,binB2,un1,setCells,List.map,seval,reduceCtorEq,hs,h1]
  rw [show fl e false 21 = e by simp [fl]]
  exact ⟨rfl, rfl⟩
 ·rw [if_neg h1, decide_eq_false h1]
  by_cases h2 : lsG s b = true
  ·have h2' : rlF (gI 1 b) (sc s) = true:=h2
   rw [if_pos h2, h2]
   rw [rlR_yes h2'] at q
   generalize hvs : ((sc s).map fun p=>(gI 1 b p).1) = vs at *
   have hv : vs ≠ []:=by rw [← hvs]; simpa using hne
   rw [show slV vs = .sl 1 (vs.map (.int .i64)) false by unfold slV; rw [if_neg hv]]
   generalize vs.map (AV.int .i64) = es at *
   simp only [frz,frzA,frzC,List.map_cons,List.map_nil] at q
   simp (disch:=first|omega|(simp only[pvl] at *;omega)) only [↓pvd,pva,pvr,bin2,binB2,un1,setCells,List.map,seval,reduceCtorEq]
   refine awR_callG (next_gen ws f k e A T hk hw) ?_
   simp (disch:=first|omega|(simp only[pvl];omega)) only [↓pvd,pva,pvr,bin2,binB2,un1,setCells,List.map,seval,reduceCtorEq,hs,h1]
   refine awR_call q rfl rfl ?_
   simp (disch:=first|omega|(simp only[pvl] at *;omega)) only [↓pvd,pva,pvr,bin2,binB2,un1,setCells,List.map,seval,reduceCtorEq]
   refine awR_callG (fail_gen ws f (k + 1) e 21 false A T) ?_
   simp (disch:=first|omega|(simp only[pvl] at *;omega)) only [↓pvd,pva,pvr,bin2,binB2,un1,setCells,List.map,seval,reduceCtorEq]
   exact ⟨rfl, rfl⟩
  ·have h2' : ¬ rlF (gI 1 b) (sc s) = true:=h2
   rw [if_neg h2, show lsG s b = false by simpa using h2]
   rw [rlR_no h2'] at q
   simp only [frz,frzA,frzC,List.map_cons,List.map_nil] at q
   rw [show slV [] = nilA from rfl]
   unfold nilA
   simp (disch:=first|omega|(simp only[pvl] at *;omega)) only [↓pvd,pva,pvr,bin2,binB2,un1,setCells,List.map,seval,reduceCtorEq]
   refine awR_callG (next_gen ws f k e A T hk hw) ?_
   simp (disch:=first|omega|(simp only[pvl];omega)) only [↓pvd,pva,pvr,bin2,binB2,un1,setCells,List.map,seval,reduceCtorEq,hs,h1]
   refine awR_call q rfl rfl ?_
   simp (disch:=first|omega|(simp only[pvl] at *;omega)) only [↓pvd,pva,pvr,bin2,binB2,un1,setCells,List.map,seval,reduceCtorEq]
   refine awR_callG (fail_gen ws f (k + 1) e 21 true A T) ?_
   simp (disch:=first|omega|(simp only[pvl] at *;omega)) only [↓pvd,pva,pvr,bin2,binB2,un1,setCells,List.map,seval,reduceCtorEq]
   exact ⟨rfl, rfl⟩
def pkV (ws : List (List UInt8)) (k : Nat) : Int:=if ws[k]! = [97, 99, 99, 101, 115, 115] then (Nm.rdF ws[k + 1]! 1 4094).1 else if ws[k]! = [116, 114, 117, 110, 107] then (if ws[k + 1]! = [45] then 0 else (Nm.rdF ws[k + 1]! 1 4094).1) else 0
def pkT (ws : List (List UInt8)) (k : Nat) : List Int:=if ws[k]! = [116, 114, 117, 110, 107] then lsV ws[k + 2]! 4094 else []
def pkE (ws : List (List UInt8)) (k : Nat) (e : Int) : Int :=
 let e1:=if ws[k]! = [97, 99, 99, 101, 115, 115] then fl e (!(Nm.rdF ws[k + 1]! 1 4094).2) 21 else if ws[k]! = [116, 114, 117, 110, 107] then fl (if ws[k + 1]! = [45] then e else fl e (!(Nm.rdF ws[k + 1]! 1 4094).2) 21) (lsB ws[k + 2]! 4094) 21 else e
 fl e1 (!mbF (pkV ws k) (pkT ws k)) 21
def lno (l : Ln) (t im ex ad : AV) : Option Ent:=some ⟨39, [lnA l t im ex ad], true⟩
theorem slV_is (l : List Int) : ∃ n f, slV l = .sl n (l.map (.int .i64)) f ∧ (l = [] ∨ n = 1):=by
 unfold slV nilA
 by_cases h : l = []
 ·subst h; exact ⟨0, true, rfl, .inl rfl⟩
 ·rw [if_neg h]; exact ⟨1, false, rfl, .inr rfl⟩
theorem lsV_len (s : List UInt8) (b : Int) : (lsV s b).length ≤ 16:=by
 unfold lsV
 split
 ·simp
 ·split
  ·rename_i h
   rw [List.length_map]
   exact (rlF_iff.1 h).2.1
  ·simp
theorem port_end (ws : List (List UInt8)) (f : Bool) (k : Nat) (e : Int) (A : Option Ent) (T : Hp) (l : Ln) (tg : List Int) (hl : tg.length ≤ 16) :
  Run Tryz.prog 67 [lnA l (slV tg) nilA nilA nilA] (.bool (mbF l.vlan tg)):=by
 obtain ⟨n, f, h1, h2⟩:=slV_is tg
 rw [h1]
 exact members_run l tg n f [] [] [] 0 0 0 true true true h2 (by omega)
set_option maxHeartbeats 8000000 in
theorem port_gen (ws : List (List UInt8)) (f : Bool) (k : Nat) (e : Int) (A : Option Ent) (T : Hp) (l : Ln) (hv : l.vlan = 0) (hw : ws.length ≤ 1000) (hl : ∀ w ∈ ws, w.length ≤ 1000)
  (hk : k < ws.length) (hk1 : ws[k]! = [97, 99, 99, 101, 115, 115] → k + 1 < ws.length) (hk2 : ws[k]! = [116, 114, 117, 110, 107] → k + 2 < ws.length) : ∃ k',
  Gen Tryz.prog 37 [.eptr 1 0 0, .eptr 2 0 0] (A :: rdo ws f k e :: lno l nilA nilA nilA nilA :: T) (.tup [])
   (A :: rdo ws f k' (pkE ws k e) :: lno { l with vlan:=pkV ws k } (slV (pkT ws k)) nilA nilA nilA :: T):=by
 by_cases ha : ws[k]! = [97, 99, 99, 101, 115, 115]
 ·have hv1 : pkV ws k = (Nm.rdF ws[k + 1]! 1 4094).1:=by unfold pkV; rw [if_pos ha]
  have ht : pkT ws k = []:=by unfold pkT; rw [if_neg (by rw [ha]; decide)]
  have he : pkE ws k e = fl (fl e (!(Nm.rdF ws[k + 1]! 1 4094).2) 21) (!mbF (pkV ws k) (pkT ws k)) 21:=by unfold pkE; rw [if_pos ha]
  have q:=port_end ws f k e A T { l with vlan:=pkV ws k } (pkT ws k) (by rw [ht]; simp)
  refine ⟨k + 2, ?_⟩
  rw [he]
  refine gen_strip (n:=0) (Tryz.gen37 (by simp) ?_)
  unfold Tryz.g37
  have q2:=vlan_gen ws f (k + 1) e A (lno l nilA nilA nilA nilA :: T) (hk1 ha) hw hl
  rw [ht, show slV [] = .sl 0 [] true from if_pos rfl] at q ⊢
  rw [hv1] at q ⊢
  generalize (Nm.rdF ws[k + 1]! 1 4094).1 = v at *
  generalize (Nm.rdF ws[k + 1]! 1 4094).2 = ok at *
  simp only at q
  generalize hm : mbF v [] = m at *
  simp (disch:=first|omega|(simp only[pvl] at *;omega)) only [↓pvd,pva,pvr,bin2,binB2,un1,setCells,List.map,seval,reduceCtorEq]
  refine awR_callG (next_gen ws f k e A _ hk hw) ?_
  simp (disch:=first|omega|(simp only[pvl];omega)) only [↓pvd,pva,pvr,bin2,binB2,un1,setCells,List.map,seval,reduceCtorEq,ha]
  refine awR_callG q2 ?_
  simp (disch:=first|omega|(simp only[pvl];omega)) only [↓pvd,pva,pvr,bin2,binB2,un1,setCells,List.map,seval,reduceCtorEq,lno,lnA,nilA]
  refine awR_call q rfl rfl ?_
  simp (disch:=first|omega|(simp only[pvl] at *;omega)) only [↓pvd,pva,pvr,bin2,binB2,un1,setCells,List.map,seval,reduceCtorEq]
  refine awR_callG (fail_gen ws f (k + 1 + 1) _ 21 (!m) A _) ?_
  simp (disch:=first|omega|(simp only[pvl] at *;omega)) only [↓pvd,pva,pvr,bin2,binB2,un1,setCells,List.map,seval,reduceCtorEq]
  exact ⟨rfl, by simp⟩
 ·by_cases hb : ws[k]! = [116, 114, 117, 110, 107]
  ·have h2:=hk2 hb
   have ha' : decide (ws[k]! = [97, 99, 99, 101, 115, 115]) = false:=decide_eq_false ha
   have hb' : decide (ws[k]! = [116, 114, 117, 110, 107]) = true:=decide_eq_true hb
   have ht : pkT ws k = lsV ws[k + 2]! 4094:=by unfold pkT; rw [if_pos hb]
   have htl : (pkT ws k).length ≤ 16:=by rw [ht]; exact lsV_len _ _
   have q:=port_end ws f k e A T { l with vlan:=pkV ws k } (pkT ws k) htl
   have hg1 : (ws.map AV.str)[k + 1]? = some (.str ws[k + 1]!):=map_get (by omega)
   by_cases hd : ws[k + 1]! = [45]
   ·have hv1 : pkV ws k = 0:=by unfold pkV; rw [if_neg ha, if_pos hb, if_pos hd]
    have he : pkE ws k e = fl (fl e (lsB ws[k + 2]! 4094) 21) (!mbF (pkV ws k) (pkT ws k)) 21:=by unfold pkE; rw [if_neg ha, if_pos hb, if_pos hd]
    refine ⟨k + 3, ?_⟩
    rw [he]
    refine gen_strip (n:=11) (Tryz.gen37 (by simp) ?_)
    unfold Tryz.g37
    have q3:=fun (T : Hp)=>list_gen ws f (k + 2) e 4094 A T h2 hw hl
    rw [ht] at q ⊢
    rw [hv1] at q ⊢
    generalize lsV ws[k + 2]! 4094 = tg at *
    generalize lsB ws[k + 2]! 4094 = bad at *
    simp only at q
    generalize hm : mbF 0 tg = m at *
    obtain ⟨n, f', hsl, _⟩:=slV_is tg
    rw [hsl] at q q3 ⊢
    generalize tg.map (AV.int .i64) = es at *
    simp (disch:=first|omega|(simp only[pvl] at *;omega)) only [↓pvd,pva,pvr,bin2,binB2,un1,setCells,List.map,seval,reduceCtorEq]
    refine awR_callG (next_gen ws f k e A _ hk hw) ?_
    simp (disch:=first|omega|(simp only[pvl];omega)) only [↓pvd,pva,pvr,bin2,binB2,un1,setCells,List.map,seval,reduceCtorEq,ha',hb',rdo,hg1,hd,List.length_map]
    rw [show (((k + 1 : Nat) : Int) + 1) = ((k + 2 : Nat) : Int) by omega]
    refine awR_callG (q3 _) ?_
    simp (disch:=first|omega|(simp only[pvl];omega)) only [↓pvd,pva,pvr,bin2,binB2,un1,setCells,List.map,seval,reduceCtorEq,lno,lnA,nilA]
    refine awR_call q (by simp only [lnA,nilA,hv]; rfl) rfl ?_
    simp (disch:=first|omega|(simp only[pvl] at *;omega)) only [↓pvd,pva,pvr,bin2,binB2,un1,setCells,List.map,seval,reduceCtorEq]
    refine awR_callG (fail_gen ws f (k + 2 + 1) _ 21 (!m) A _) ?_
    simp (disch:=first|omega|(simp only[pvl] at *;omega)) only [↓pvd,pva,pvr,bin2,binB2,un1,setCells,List.map,seval,reduceCtorEq]
    exact ⟨rfl, by simp [rdo, hv]; omega⟩
   ·have hv1 : pkV ws k = (Nm.rdF ws[k + 1]! 1 4094).1:=by unfold pkV; rw [if_neg ha, if_pos hb, if_neg hd]
    have he : pkE ws k e = fl (fl (fl e (!(Nm.rdF ws[k + 1]! 1 4094).2) 21) (lsB ws[k + 2]! 4094) 21) (!mbF (pkV ws k) (pkT ws k)) 21:=by unfold pkE; rw [if_neg ha, if_pos hb, if_neg hd]
    refine ⟨k + 3, ?_⟩
    rw [he]
    refine gen_strip (n:=11) (Tryz.gen37 (by simp) ?_)
    unfold Tryz.g37
    have q2:=fun (T : Hp)=>vlan_gen ws f (k + 1) e A T (by omega) hw hl
    have q3:=fun (e : Int) (T : Hp)=>list_gen ws f (k + 2) e 4094 A T h2 hw hl
    rw [ht] at q ⊢
    rw [hv1] at q ⊢
    generalize lsV ws[k + 2]! 4094 = tg at *
    generalize lsB ws[k + 2]! 4094 = bad at *
    generalize (Nm.rdF ws[k + 1]! 1 4094).1 = v at *
    generalize (Nm.rdF ws[k + 1]! 1 4094).2 = ok at *
    simp only at q
    generalize hm : mbF v tg = m at *
    obtain ⟨n, f', hsl, _⟩:=slV_is tg
    rw [hsl] at q q3 ⊢
    generalize tg.map (AV.int .i64) = es at *
    simp (disch:=first|omega|(simp only[pvl] at *;omega)) only [↓pvd,pva,pvr,bin2,binB2,un1,setCells,List.map,seval,reduceCtorEq]
    refine awR_callG (next_gen ws f k e A _ hk hw) ?_
    simp (disch:=first|omega|(simp only[pvl];omega)) only [↓pvd,pva,pvr,bin2,binB2,un1,setCells,List.map,seval,reduceCtorEq,ha',hb',rdo,hg1,hd,List.length_map]
    refine awR_callG (q2 _) ?_
    simp (disch:=first|omega|(simp only[pvl];omega)) only [↓pvd,pva,pvr,bin2,binB2,un1,setCells,List.map,seval,reduceCtorEq,lno,lnA,nilA]
    refine awR_callG (q3 _ _) ?_
    simp (disch:=first|omega|(simp only[pvl] at *;omega)) only [↓pvd,pva,pvr,bin2,binB2,un1,setCells,List.map,seval,reduceCtorEq]
    refine awR_call q rfl rfl ?_
    simp (disch:=first|omega|(simp only[pvl] at *;omega)) only [↓pvd,pva,pvr,bin2,binB2,un1,setCells,List.map,seval,reduceCtorEq]
    refine awR_callG (fail_gen ws f (k + 2 + 1) _ 21 (!m) A _) ?_
    simp (disch:=first|omega|(simp only[pvl] at *;omega)) only [↓pvd,pva,pvr,bin2,binB2,un1,setCells,List.map,seval,reduceCtorEq]
    exact ⟨rfl, by simp [rdo]; omega⟩
  ·have hv1 : pkV ws k = 0:=by unfold pkV; rw [if_neg ha, if_neg hb]
   have ht : pkT ws k = []:=by unfold pkT; rw [if_neg hb]
   have he : pkE ws k e = fl e (!mbF (pkV ws k) (pkT ws k)) 21:=by unfold pkE; rw [if_neg ha, if_neg hb]
   have q:=port_end ws f k e A T { l with vlan:=pkV ws k } (pkT ws k) (by rw [ht]; simp)
   refine ⟨k + 1, ?_⟩
   rw [he]
   refine gen_strip (n:=0) (Tryz.gen37 (by simp) ?_)
   unfold Tryz.g37
   rw [ht, show slV [] = .sl 0 [] true from if_pos rfl] at q ⊢
   rw [hv1] at q ⊢
   simp only at q
   generalize hm : mbF 0 [] = m at *
   simp (disch:=first|omega|(simp only[pvl] at *;omega)) only [↓pvd,pva,pvr,bin2,binB2,un1,setCells,List.map,seval,reduceCtorEq]
   refine awR_callG (next_gen ws f k e A _ hk hw) ?_
   simp (disch:=first|omega|(simp only[pvl];omega)) only [↓pvd,pva,pvr,bin2,binB2,un1,setCells,List.map,seval,reduceCtorEq,ha,hb,lno,lnA,nilA]
   refine awR_call q (by simp only [lnA,nilA,hv]; rfl) rfl ?_
   simp (disch:=first|omega|(simp only[pvl] at *;omega)) only [↓pvd,pva,pvr,bin2,binB2,un1,setCells,List.map,seval,reduceCtorEq]
   refine awR_callG (fail_gen ws f (k + 1) _ 21 (!m) A _) ?_
   simp (disch:=first|omega|(simp only[pvl] at *;omega)) only [↓pvd,pva,pvr,bin2,binB2,un1,setCells,List.map,seval,reduceCtorEq]
   rw [hv]
   exact ⟨rfl, by simp⟩
end Go.Proofs
namespace Go.Proofs
open Go.Pv
def kdF (s : List UInt8) : Int:=if s = [100, 101, 118, 105, 99, 101] then 1 else if s = [112, 111, 114, 116] then 2 else if s = [108, 105, 110, 107] then 3 else if s = [115, 116, 97, 116, 105, 99] then 4 else if s = [118, 116, 101, 112] then 5 else if s = [118, 110, 105] then 6 else if s = [102, 108, 111, 111, 100] then 7 else if s = [118, 114, 102] then 8 else if s = [105, 114, 98] then 9 else 0
theorem kdF_b (s : List UInt8) : kdF s = 0 ∨ kdF s = 1 ∨ kdF s = 2 ∨ kdF s = 3 ∨ kdF s = 4 ∨ kdF s = 5 ∨ kdF s = 6 ∨ kdF s = 7 ∨ kdF s = 8 ∨ kdF s = 9:=by
 unfold kdF
 repeat' split
 all_goals simp
theorem kind_run (s : List UInt8) : Run Tryz.prog 31 [.str s] (.int .i64 (kdF s)):=by
 refine Tryz.run31 (by simp) ?_
 unfold Tryz.c31 kdF
 by_cases h1 : s = [100, 101, 118, 105, 99, 101]
 ·rw [if_pos h1]
  simp (disch:=first|omega|(simp only[pvl];omega)) only [↓pvd,pva,pvr,bin2,binB2,un1,setCells,List.map,seval,reduceCtorEq,decide_eq_true h1]
  (refine Ends_rq [] ?_; simp (disch:=first|omega|(simp only[pvl];omega)) only [↓pvd,pva,pvr,bin2,binB2,un1,setCells,List.map,seval,reduceCtorEq]; exact ⟨_,rfl,rfl,rfl⟩)
 by_cases h2 : s = [112, 111, 114, 116]
 ·rw [if_neg h1, if_pos h2]
  simp (disch:=first|omega|(simp only[pvl];omega)) only [↓pvd,pva,pvr,bin2,binB2,un1,setCells,List.map,seval,reduceCtorEq,decide_eq_false h1,decide_eq_true h2]
  (refine Ends_rq [] ?_; simp (disch:=first|omega|(simp only[pvl];omega)) only [↓pvd,pva,pvr,bin2,binB2,un1,setCells,List.map,seval,reduceCtorEq]; exact ⟨_,rfl,rfl,rfl⟩)
 by_cases h3 : s = [108, 105, 110, 107]
 ·rw [if_neg h1, if_neg h2, if_pos h3]
  simp (disch:=first|omega|(simp only[pvl];omega)) only [↓pvd,pva,pvr,bin2,binB2,un1,setCells,List.map,seval,reduceCtorEq,decide_eq_false h1,decide_eq_false h2,decide_eq_true h3]
  (refine Ends_rq [] ?_; simp (disch:=first|omega|(simp only[pvl];omega)) only [↓pvd,pva,pvr,bin2,binB2,un1,setCells,List.map,seval,reduceCtorEq]; exact ⟨_,rfl,rfl,rfl⟩)
 by_cases h4 : s = [115, 116, 97, 116, 105, 99]
 ·rw [if_neg h1, if_neg h2, if_neg h3, if_pos h4]
  simp (disch:=first|omega|(simp only[pvl];omega)) only [↓pvd,pva,pvr,bin2,binB2,un1,setCells,List.map,seval,reduceCtorEq,decide_eq_false h1,decide_eq_false h2,decide_eq_false h3,decide_eq_true h4]
  (refine Ends_rq [] ?_; simp (disch:=first|omega|(simp only[pvl];omega)) only [↓pvd,pva,pvr,bin2,binB2,un1,setCells,List.map,seval,reduceCtorEq]; exact ⟨_,rfl,rfl,rfl⟩)
 by_cases h5 : s = [118, 116, 101, 112]
 ·rw [if_neg h1, if_neg h2, if_neg h3, if_neg h4, if_pos h5]
  simp (disch:=first|omega|(simp only[pvl];omega)) only [↓pvd,pva,pvr,bin2,binB2,un1,setCells,List.map,seval,reduceCtorEq,decide_eq_false h1,decide_eq_false h2,decide_eq_false h3,decide_eq_false h4,decide_eq_true h5]
  (refine Ends_rq [] ?_; simp (disch:=first|omega|(simp only[pvl];omega)) only [↓pvd,pva,pvr,bin2,binB2,un1,setCells,List.map,seval,reduceCtorEq]; exact ⟨_,rfl,rfl,rfl⟩)
 by_cases h6 : s = [118, 110, 105]
 ·rw [if_neg h1, if_neg h2, if_neg h3, if_neg h4, if_neg h5, if_pos h6]
  simp (disch:=first|omega|(simp only[pvl];omega)) only [↓pvd,pva,pvr,bin2,binB2,un1,setCells,List.map,seval,reduceCtorEq,decide_eq_false h1,decide_eq_false h2,decide_eq_false h3,decide_eq_false h4,decide_eq_false h5,decide_eq_true h6]
  (refine Ends_rq [] ?_; simp (disch:=first|omega|(simp only[pvl];omega)) only [↓pvd,pva,pvr,bin2,binB2,un1,setCells,List.map,seval,reduceCtorEq]; exact ⟨_,rfl,rfl,rfl⟩)
 by_cases h7 : s = [102, 108, 111, 111, 100]
 ·rw [if_neg h1, if_neg h2, if_neg h3, if_neg h4, if_neg h5, if_neg h6, if_pos h7]
  simp (disch:=first|omega|(simp only[pvl];omega)) only [↓pvd,pva,pvr,bin2,binB2,un1,setCells,List.map,seval,reduceCtorEq,decide_eq_false h1,decide_eq_false h2,decide_eq_false h3,decide_eq_false h4,decide_eq_false h5,decide_eq_false h6,decide_eq_true h7]
  (refine Ends_rq [] ?_; simp (disch:=first|omega|(simp only[pvl];omega)) only [↓pvd,pva,pvr,bin2,binB2,un1,setCells,List.map,seval,reduceCtorEq]; exact ⟨_,rfl,rfl,rfl⟩)
 by_cases h8 : s = [118, 114, 102]
 ·rw [if_neg h1, if_neg h2, if_neg h3, if_neg h4, if_neg h5, if_neg h6, if_neg h7, if_pos h8]
  simp (disch:=first|omega|(simp only[pvl];omega)) only [↓pvd,pva,pvr,bin2,binB2,un1,setCells,List.map,seval,reduceCtorEq,decide_eq_false h1,decide_eq_false h2,decide_eq_false h3,decide_eq_false h4,decide_eq_false h5,decide_eq_false h6,decide_eq_false h7,decide_eq_true h8]
  (refine Ends_rq [] ?_; simp (disch:=first|omega|(simp only[pvl];omega)) only [↓pvd,pva,pvr,bin2,binB2,un1,setCells,List.map,seval,reduceCtorEq]; exact ⟨_,rfl,rfl,rfl⟩)
 by_cases h9 : s = [105, 114, 98]
 ·rw [if_neg h1, if_neg h2, if_neg h3, if_neg h4, if_neg h5, if_neg h6, if_neg h7, if_neg h8, if_pos h9]
  simp (disch:=first|omega|(simp only[pvl];omega)) only [↓pvd,pva,pvr,bin2,binB2,un1,setCells,List.map,seval,reduceCtorEq,decide_eq_false h1,decide_eq_false h2,decide_eq_false h3,decide_eq_false h4,decide_eq_false h5,decide_eq_false h6,decide_eq_false h7,decide_eq_false h8,decide_eq_true h9]
  (refine Ends_rq [] ?_; simp (disch:=first|omega|(simp only[pvl];omega)) only [↓pvd,pva,pvr,bin2,binB2,un1,setCells,List.map,seval,reduceCtorEq]; exact ⟨_,rfl,rfl,rfl⟩)
 rw [if_neg h1, if_neg h2, if_neg h3, if_neg h4, if_neg h5, if_neg h6, if_neg h7, if_neg h8, if_neg h9]
 simp (disch:=first|omega|(simp only[pvl];omega)) only [↓pvd,pva,pvr,bin2,binB2,un1,setCells,List.map,seval,reduceCtorEq,decide_eq_false h1,decide_eq_false h2,decide_eq_false h3,decide_eq_false h4,decide_eq_false h5,decide_eq_false h6,decide_eq_false h7,decide_eq_false h8,decide_eq_false h9]
 (refine Ends_rq [] ?_; simp (disch:=first|omega|(simp only[pvl];omega)) only [↓pvd,pva,pvr,bin2,binB2,un1,setCells,List.map,seval,reduceCtorEq]; exact ⟨_,rfl,rfl,rfl⟩)
def mnP (ws : List (List UInt8)) : Bool:=decide (6 ≤ ws.length) && (decide (ws[4]! = [97, 99, 99, 101, 115, 115] ∧ ws.length = 6) || (decide (ws[4]! = [116, 114, 117, 110, 107] ∧ ws.length = 7) || decide ((¬ ws[4]! = [97, 99, 99, 101, 115, 115] ∧ ¬ ws[4]! = [116, 114, 117, 110, 107]) ∧ ws.length ≤ 7)))
def mnF (k : Int) (ws : List (List UInt8)) : Bool :=
 if k = 0 then false else if k = 2 then mnP ws else if k = 3 ∨ k = 4 ∨ k = 8 ∨ k = 9 then decide ((ws.length : Int) = 5) else if k = 5 then decide ((ws.length : Int) = 3) else decide ((ws.length : Int) = 4)
set_option maxHeartbeats 8000000 in
theorem many_run (ws : List (List UInt8)) (f : Bool) (k : Int) (hk : k = 0 ∨ k = 1 ∨ k = 2 ∨ k = 3 ∨ k = 4 ∨ k = 5 ∨ k = 6 ∨ k = 7 ∨ k = 8 ∨ k = 9) (hw : ws.length ≤ 100000) : Run Tryz.prog 30 [.int .i64 k, .sl 1 (ws.map .str) f] (.bool (mnF k ws)):=by
 refine Tryz.run30 (by simp) ?_
 unfold Tryz.c30 mnF
 have hlm : (ws.map AV.str).length = ws.length:=by simp
 by_cases h2 : k = 2
 ·subst h2
  rw [if_neg (by decide), if_pos rfl]
  unfold mnP
  by_cases h6 : 6 ≤ ws.length
  ·have hg : (ws.map AV.str)[4]? = some (.str ws[4]!):=map_get (by omega)
   generalize ws.map AV.str = row at *
   generalize ws[4]! = w at *
   by_cases ha : w = [97, 99, 99, 101, 115, 115]
   ·have hb : ¬ w = [116, 114, 117, 110, 107]:=by rw [ha]; decide
    have da:=decide_eq_true ha
    have db:=decide_eq_false hb
    by_cases h7 : ws.length = 6
    ·rw [decide_eq_true h6, decide_eq_true ⟨ha, h7⟩]
     simp (disch:=first|omega|(simp only[pvl];omega)) only [↓pvd,pva,pvr,bin2,binB2,un1,setCells,List.map,seval,reduceCtorEq,hg,hlm,da,db]
     (refine Ends_rq [] ?_; simp (disch:=first|omega|(simp only[pvl];omega)) only [↓pvd,pva,pvr,bin2,binB2,un1,setCells,List.map,seval,reduceCtorEq]; exact ⟨_,rfl,rfl,rfl⟩)
    ·rw [decide_eq_true h6, decide_eq_false (fun h=>h7 h.2), decide_eq_false (fun h=>hb h.1), decide_eq_false (fun h=>h.1.1 ha)]
     simp (disch:=first|omega|(simp only[pvl];omega)) only [↓pvd,pva,pvr,bin2,binB2,un1,setCells,List.map,seval,reduceCtorEq,hg,hlm,da,db]
     (refine Ends_rq [] ?_; simp (disch:=first|omega|(simp only[pvl];omega)) only [↓pvd,pva,pvr,bin2,binB2,un1,setCells,List.map,seval,reduceCtorEq]; exact ⟨_,rfl,rfl,rfl⟩)
   ·have da:=decide_eq_false ha
    by_cases hb : w = [116, 114, 117, 110, 107]
    ·have db:=decide_eq_true hb
     by_cases h7 : ws.length = 7
     ·rw [decide_eq_true h6, decide_eq_false (fun h=>ha h.1), decide_eq_true ⟨hb, h7⟩]
      simp (disch:=first|omega|(simp only[pvl];omega)) only [↓pvd,pva,pvr,bin2,binB2,un1,setCells,List.map,seval,reduceCtorEq,hg,hlm,da,db]
      (refine Ends_rq [] ?_; simp (disch:=first|omega|(simp only[pvl];omega)) only [↓pvd,pva,pvr,bin2,binB2,un1,setCells,List.map,seval,reduceCtorEq]; exact ⟨_,rfl,rfl,rfl⟩)
     ·rw [decide_eq_true h6, decide_eq_false (fun h=>ha h.1), decide_eq_false (fun h=>h7 h.2), decide_eq_false (fun h=>h.1.2 hb)]
      simp (disch:=first|omega|(simp only[pvl];omega)) only [↓pvd,pva,pvr,bin2,binB2,un1,setCells,List.map,seval,reduceCtorEq,hg,hlm,da,db]
      (refine Ends_rq [] ?_; simp (disch:=first|omega|(simp only[pvl];omega)) only [↓pvd,pva,pvr,bin2,binB2,un1,setCells,List.map,seval,reduceCtorEq]; exact ⟨_,rfl,rfl,rfl⟩)
    ·have db:=decide_eq_false hb
     by_cases h7 : ws.length ≤ 7
     ·rw [decide_eq_true h6, decide_eq_false (fun h=>ha h.1), decide_eq_false (fun h=>hb h.1), decide_eq_true ⟨⟨ha, hb⟩, h7⟩]
      simp (disch:=first|omega|(simp only[pvl];omega)) only [↓pvd,pva,pvr,bin2,binB2,un1,setCells,List.map,seval,reduceCtorEq,hg,hlm,da,db]
      (refine Ends_rq [] ?_; simp (disch:=first|omega|(simp only[pvl];omega)) only [↓pvd,pva,pvr,bin2,binB2,un1,setCells,List.map,seval,reduceCtorEq]; exact ⟨_,rfl,rfl,rfl⟩)
     ·rw [decide_eq_true h6, decide_eq_false (fun h=>ha h.1), decide_eq_false (fun h=>hb h.1), decide_eq_false (fun h=>h7 h.2)]
      simp (disch:=first|omega|(simp only[pvl];omega)) only [↓pvd,pva,pvr,bin2,binB2,un1,setCells,List.map,seval,reduceCtorEq,hg,hlm,da,db]
      (refine Ends_rq [] ?_; simp (disch:=first|omega|(simp only[pvl];omega)) only [↓pvd,pva,pvr,bin2,binB2,un1,setCells,List.map,seval,reduceCtorEq]; exact ⟨_,rfl,rfl,rfl⟩)
  ·rw [decide_eq_false h6]
   simp (disch:=first|omega|(simp only[pvl];omega)) only [↓pvd,pva,pvr,bin2,binB2,un1,setCells,List.map,seval,reduceCtorEq,hlm]
   (refine Ends_rq [] ?_; simp (disch:=first|omega|(simp only[pvl];omega)) only [↓pvd,pva,pvr,bin2,binB2,un1,setCells,List.map,seval,reduceCtorEq]; exact ⟨_,rfl,rfl,rfl⟩)
 ·rcases hk with rfl | rfl | rfl | rfl | rfl | rfl | rfl | rfl | rfl | rfl
  all_goals simp only [Int.reduceEq,if_true,if_false,or_true,true_or,or_false,or_self,reduceIte]
  all_goals (first | exact absurd rfl h2 | skip)
  all_goals simp (disch:=first|omega|(simp only[pvl];omega)) only [↓pvd,pva,pvr,bin2,binB2,un1,setCells,List.map,seval,reduceCtorEq,hlm]
  all_goals (refine Ends_rq [] ?_; simp (disch:=first|omega|(simp only[pvl];omega)) only [↓pvd,pva,pvr,bin2,binB2,un1,setCells,List.map,seval,reduceCtorEq]; exact ⟨_,rfl,rfl,rfl⟩)
def sbF (a b : Int) : Bool:=decide (1 ≤ b ∧ b ≤ 30) && (!decide (a = firstF a b) && !decide (a = lastF a b))
theorem subnet_run (a b : Int) (ha : 0 ≤ a ∧ a ≤ 4294967295) : Run Tryz.prog 44 [pfx a b] (.bool (sbF a b)):=by
 have q1:=first_run a b ha
 have q2:=last_run a b ha
 refine Tryz.run44 (by simp) ?_
 unfold Tryz.c44 sbF
 generalize firstF a b = x at *
 generalize lastF a b = y at *
 by_cases h1 : 1 ≤ b
 ·by_cases h2 : b ≤ 30
  ·rw [decide_eq_true ⟨h1, h2⟩]
   by_cases h3 : a = x
   ·have d3:=decide_eq_true h3
    rw [d3]
    repeat' (first | (simp (disch:=first|omega|(simp only[pvl];omega)) only [↓pvd,pva,pvr,bin2,binB2,un1,setCells,List.map,seval,reduceCtorEq,d3,still]) | (with_reducible first|refine condP_d (fun _=>?_) (fun _=>?_)|refine guardP_d0 (fun _=>?_) (fun _=>?_)|refine guardP_d1 (fun _=>?_) (fun _=>?_)|refine condP_any ?_ ?_) | refine awR_callD q1 rfl rfl (fun _=>rfl) ?_ | refine awR_callD q2 rfl rfl (fun _=>rfl) ?_ | (refine Ends_rq [] ?_; simp (disch:=first|omega|(simp only[pvl];omega)) only [↓pvd,pva,pvr,bin2,binB2,un1,setCells,List.map,seval,reduceCtorEq]; exact ⟨_,rfl,rfl,rfl⟩))
   ·have d3:=decide_eq_false h3
    rw [d3]
    by_cases h4 : a = y
    ·have d4:=decide_eq_true h4
     rw [d4]
     repeat' (first | (simp (disch:=first|omega|(simp only[pvl];omega)) only [↓pvd,pva,pvr,bin2,binB2,un1,setCells,List.map,seval,reduceCtorEq,d3,d4,still]) | (with_reducible first|refine condP_d (fun _=>?_) (fun _=>?_)|refine guardP_d0 (fun _=>?_) (fun _=>?_)|refine guardP_d1 (fun _=>?_) (fun _=>?_)|refine condP_any ?_ ?_) | refine awR_callD q1 rfl rfl (fun _=>rfl) ?_ | refine awR_callD q2 rfl rfl (fun _=>rfl) ?_ | (refine Ends_rq [] ?_; simp (disch:=first|omega|(simp only[pvl];omega)) only [↓pvd,pva,pvr,bin2,binB2,un1,setCells,List.map,seval,reduceCtorEq]; exact ⟨_,rfl,rfl,rfl⟩))
    ·have d4:=decide_eq_false h4
     rw [d4]
     repeat' (first | (simp (disch:=first|omega|(simp only[pvl];omega)) only [↓pvd,pva,pvr,bin2,binB2,un1,setCells,List.map,seval,reduceCtorEq,d3,d4,still]) | (with_reducible first|refine condP_d (fun _=>?_) (fun _=>?_)|refine guardP_d0 (fun _=>?_) (fun _=>?_)|refine guardP_d1 (fun _=>?_) (fun _=>?_)|refine condP_any ?_ ?_) | refine awR_callD q1 rfl rfl (fun _=>rfl) ?_ | refine awR_callD q2 rfl rfl (fun _=>rfl) ?_ | (refine Ends_rq [] ?_; simp (disch:=first|omega|(simp only[pvl];omega)) only [↓pvd,pva,pvr,bin2,binB2,un1,setCells,List.map,seval,reduceCtorEq]; exact ⟨_,rfl,rfl,rfl⟩))
  ·rw [decide_eq_false (fun h=>h2 h.2)]
   simp (disch:=first|omega|(simp only[pvl] at *;omega)) only [↓pvd,pva,pvr,bin2,binB2,un1,setCells,List.map,seval,reduceCtorEq]
   (refine Ends_rq [] ?_; simp (disch:=first|omega|(simp only[pvl];omega)) only [↓pvd,pva,pvr,bin2,binB2,un1,setCells,List.map,seval,reduceCtorEq]; exact ⟨_,rfl,rfl,rfl⟩)
 ·rw [decide_eq_false (fun h=>h1 h.1)]
  simp (disch:=first|omega|(simp only[pvl] at *;omega)) only [↓pvd,pva,pvr,bin2,binB2,un1,setCells,List.map,seval,reduceCtorEq]
  (refine Ends_rq [] ?_; simp (disch:=first|omega|(simp only[pvl];omega)) only [↓pvd,pva,pvr,bin2,binB2,un1,setCells,List.map,seval,reduceCtorEq]; exact ⟨_,rfl,rfl,rfl⟩)
end Go.Proofs
namespace Go.Proofs
open Go.Pv
structure LnF where
 l : Ln
 t : List Int
 im : List Int
 ex : List Int
 ad : List Int
deriving DecidableEq
def sl32 (l : List Int) : AV:=if l = [] then nilA else .sl 1 (l.map (.int .u32)) false
def lnV (x : LnF) : AV:=lnA x.l (slV x.t) (slV x.im) (slV x.ex) (sl32 x.ad)
def lnfZ : LnF:=⟨lnZ, [], [], [], []⟩
theorem sl32_nil : sl32 [] = .sl 0 [] true:=if_pos rfl
theorem sl32_is (l : List Int) : ∃ n f, sl32 l = .sl n (l.map (.int .u32)) f ∧ (l = [] ∨ n = 1):=by
 unfold sl32 nilA
 by_cases h : l = []
 ·subst h; exact ⟨0, true, rfl, .inl rfl⟩
 ·rw [if_neg h]; exact ⟨1, false, rfl, .inr rfl⟩
def adG (s : List UInt8) : Bool:=rlF rdB (sc s)
def adV (s : List UInt8) : List Int:=if adG s = true then (sc s).map (fun p=>(rdB p).1) else []
def rpB (s : List UInt8) : Int × Int × Bool :=
 if 0 ≤ Lib.indexByte s 47 ∧ okA (s.take (Lib.indexByte s 47).toNat) ∧ okS (s.drop ((Lib.indexByte s 47).toNat + 1)) = true ∧ vS (s.drop ((Lib.indexByte s 47).toNat + 1)) ≤ 32
 then (accF (sp (s.take (Lib.indexByte s 47).toNat)), vS (s.drop ((Lib.indexByte s 47).toNat + 1)), true) else (0, 0, false)
theorem rpB_eq (s : List UInt8) : rpF s = .tup [pfx (rpB s).1 (rpB s).2.1, .bool (rpB s).2.2]:=by
 unfold rpF rpB
 split <;> rfl
theorem rpB_b (s : List UInt8) : 0 ≤ (rpB s).1 ∧ (rpB s).1 ≤ 4294967295:=by
 unfold rpB
 split
 ·rename_i h
  have:=accF_b _ (Nat.le_of_eq h.2.1.1) h.2.1.2
  exact ⟨this.1, this.2.1⟩
 ·exact ⟨by decide, by decide⟩
def eN (w : List UInt8) (e : Int) : Int:=fl e (!nmO w) 20
def eU (w : List UInt8) (a b : Int) (e : Int) : Int:=fl e (!(Nm.rdF w a b).2) 21
noncomputable def eM (w : List UInt8) (e : Int) : Int:=fl e (!((Mc.rdm w).2 && stn (Mc.rdm w).1)) 21
def eL (w : List UInt8) (b : Int) (e : Int) : Int:=fl e (lsB w b) 21
def eA (w : List UInt8) (e : Int) : Int:=fl e (!(rdB w).2 || decide ((rdB w).1 = 0)) 21
def eD (w : List UInt8) (e : Int) : Int:=fl e (!adG w || decide ((adV w)[0]! = 0)) 21
def eS (w : List UInt8) (e : Int) : Int:=fl e (!(rpB w).2.2 || !sbF (rpB w).1 (rpB w).2.1) 21
def eK (w : List UInt8) (e : Int) : Int:=fl e (decide (¬ w = [97, 99, 99, 101, 115, 115] ∧ ¬ w = [116, 114, 117, 110, 107])) 20
def nu (w : List UInt8) (a b : Int) : Int:=(Nm.rdF w a b).1
noncomputable def er1 (ws : List (List UInt8)) : Int:=eM ws[3]! (eU ws[2]! 0 65535 (eN ws[1]! 0))
def er2 (ws : List (List UInt8)) : Int:=pkE ws 4 (eK ws[4]! (eU ws[3]! 1 65535 (eN ws[2]! (eN ws[1]! 0))))
def er3 (ws : List (List UInt8)) : Int:=eN ws[4]! (eN ws[3]! (eN ws[2]! (eN ws[1]! 0)))
noncomputable def er4 (ws : List (List UInt8)) : Int:=eN ws[4]! (eM ws[3]! (eU ws[2]! 1 4094 (eN ws[1]! 0)))
def er5 (ws : List (List UInt8)) : Int:=eA ws[2]! (eN ws[1]! 0)
def er6 (ws : List (List UInt8)) : Int:=eU ws[3]! 1 16777215 (eU ws[2]! 1 4094 (eN ws[1]! 0))
def er7 (ws : List (List UInt8)) : Int:=eD ws[3]! (eU ws[2]! 1 16777215 (eN ws[1]! 0))
def er8 (ws : List (List UInt8)) : Int:=eL ws[4]! 65535 (eL ws[3]! 65535 (eN ws[2]! (eN ws[1]! 0)))
def er9 (ws : List (List UInt8)) : Int:=eS ws[4]! (eN ws[3]! (eU ws[2]! 1 4094 (eN ws[1]! 0)))
noncomputable def li1 (ws : List (List UInt8)) (r : Int) : LnF:=⟨⟨r, 1, ws[1]!, [], [], [], [], (Mc.rdm ws[3]!).1, 0, 0, 0, nu ws[2]! 0 65535, 0⟩, [], [], [], []⟩
def li2 (ws : List (List UInt8)) (r : Int) : LnF:=⟨⟨r, 2, ws[1]!, ws[2]!, [], [], [], 0, 0, 0, pkV ws 4, 0, nu ws[3]! 1 65535⟩, pkT ws 4, [], [], []⟩
def li3 (ws : List (List UInt8)) (r : Int) : LnF:=⟨⟨r, 3, ws[1]!, ws[2]!, ws[3]!, ws[4]!, [], 0, 0, 0, 0, 0, 0⟩, [], [], [], []⟩
noncomputable def li4 (ws : List (List UInt8)) (r : Int) : LnF:=⟨⟨r, 4, ws[1]!, ws[4]!, [], [], [], (Mc.rdm ws[3]!).1, 0, 0, nu ws[2]! 1 4094, 0, 0⟩, [], [], [], []⟩
def li5 (ws : List (List UInt8)) (r : Int) : LnF:=⟨⟨r, 5, ws[1]!, [], [], [], [], 0, (rdB ws[2]!).1, 0, 0, 0, 0⟩, [], [], [], []⟩
def li6 (ws : List (List UInt8)) (r : Int) : LnF:=⟨⟨r, 6, ws[1]!, [], [], [], [], 0, 0, 0, nu ws[2]! 1 4094, nu ws[3]! 1 16777215, 0⟩, [], [], [], []⟩
def li7 (ws : List (List UInt8)) (r : Int) : LnF:=⟨⟨r, 7, ws[1]!, [], [], [], [], 0, 0, 0, 0, nu ws[2]! 1 16777215, 0⟩, [], [], [], adV ws[3]!⟩
def li8 (ws : List (List UInt8)) (r : Int) : LnF:=⟨⟨r, 8, ws[1]!, [], [], [], ws[2]!, 0, 0, 0, 0, 0, 0⟩, [], lsV ws[3]! 65535, lsV ws[4]! 65535, []⟩
def li9 (ws : List (List UInt8)) (r : Int) : LnF:=⟨⟨r, 9, ws[1]!, [], [], [], ws[3]!, 0, (rpB ws[4]!).1, (rpB ws[4]!).2.1, nu ws[2]! 1 4094, 0, 0⟩, [], [], [], []⟩
def rdT (e : Int) (x : LnF) : AV:=if e = 0 then .tup [lnV x, .int .i64 0] else .tup [lnV lnfZ, .int .i64 e]
theorem rdT_z (x : LnF) : rdT 0 x = .tup [lnV x, .int .i64 0]:=if_pos rfl
theorem rdT_e {e : Int} {x : LnF} (h : e ≠ 0) : rdT e x = .tup [lnA lnZ (.sl 0 [] true) (.sl 0 [] true) (.sl 0 [] true) (.sl 0 [] true), .int .i64 e]:=if_neg h
set_option maxHeartbeats 16000000 in
theorem read1 (ws : List (List UInt8)) (f : Bool) (r : Int) (hk : kdF ws[0]! = 1) (hm : mnF 1 ws = true) (hl : ∀ w ∈ ws, w.length ≤ 1000) : Run Tryz.prog 13 [.sl 1 (ws.map .str) f, .int .i64 r] (rdT (er1 ws) (li1 ws r)):=by
 have hn : ws.length = 4:=by
  unfold mnF at hm
  simp at hm
  omega
 have hlm : (ws.map AV.str).length = 4:=by simp [hn]
 have hg0 : (ws.map AV.str)[0]? = some (.str ws[0]!):=map_get (by omega)
 have qk:=kind_run ws[0]!
 rw [hk] at qk
 have qm:=many_run ws f 1 (by simp) (by omega)
 rw [hm] at qm
 obtain ⟨e1, he1⟩ : ∃ e, eN ws[1]! 0 = e:=⟨_, rfl⟩
 have g1 : ∀ (A : Option Ent) (T : Hp), Gen Tryz.prog 32 [.eptr 1 0 0] (A :: rdo ws f 1 0 :: T) (.str ws[1]!) (A :: rdo ws f 2 e1 :: T):=fun A T=>by
  rw [← he1]
  exact name_gen ws f 1 0 A T (by omega) (by omega) hl
 obtain ⟨e2, he2⟩ : ∃ e, eU ws[2]! 0 65535 e1 = e:=⟨_, rfl⟩
 have g2 : ∀ (A : Option Ent) (T : Hp), Gen Tryz.prog 34 [.eptr 1 0 0, .int .i64 0, .int .i64 65535] (A :: rdo ws f 2 e1 :: T) (.int .i64 (nu ws[2]! 0 65535)) (A :: rdo ws f 3 e2 :: T):=fun A T=>by
  rw [← he2]
  exact number_gen ws f 2 e1 0 65535 A T (by omega) (by omega) hl
 obtain ⟨e3, he3⟩ : ∃ e, eM ws[3]! e2 = e:=⟨_, rfl⟩
 have g3 : ∀ (A : Option Ent) (T : Hp), Gen Tryz.prog 35 [.eptr 1 0 0] (A :: rdo ws f 3 e2 :: T) (.int .u64 (Mc.rdm ws[3]!).1) (A :: rdo ws f 4 e3 :: T):=fun A T=>by
  rw [← he3]
  exact mac_gen ws f 3 e2 A T (by omega) (by omega) hl
 have her : er1 ws = e3:=by
  rw [← he3, ← he2, ← he1]
  rfl
 rw [her]
 clear her he3 he2 he1
 have hx : lnV (li1 ws r) = lnA (li1 ws r).l (.sl 0 [] true) (.sl 0 [] true) (.sl 0 [] true) (.sl 0 [] true):=rfl
 conv at hx=>rhs; unfold li1
 generalize li1 ws r = x at *
 refine Tryz.run13 (by simp) ?_
 unfold Tryz.c13
 simp (disch:=first|omega|(simp only[pvl];omega)) only [↓pvd,pva,pvr,bin2,binB2,un1,setCells,List.map,seval,reduceCtorEq,hlm,hg0]
 refine awR_call qk rfl rfl ?_
 simp (disch:=first|omega|(simp only[pvl] at *;omega)) only [↓pvd,pva,pvr,bin2,binB2,un1,setCells,List.map,seval,reduceCtorEq]
 refine awR_call qm rfl rfl ?_
 simp (disch:=first|omega|(simp only[pvl];omega)) only [↓pvd,pva,pvr,bin2,binB2,un1,setCells,List.map,seval,reduceCtorEq,hlm,hg0]
 refine awR_call qk rfl rfl ?_
 simp (disch:=first|omega|(simp only[pvl] at *;omega)) only [↓pvd,pva,pvr,bin2,binB2,un1,setCells,List.map,seval,reduceCtorEq]
 refine awR_callv rfl (g1 _ _) (by simp) ?_
 simp (disch:=first|omega|(simp only[pvl];omega)) only [↓pvd,pva,pvr,bin2,binB2,un1,setCells,List.map,seval,reduceCtorEq,lnA]
 refine awR_callG (g2 _ _) ?_
 simp (disch:=first|omega|(simp only[pvl] at *;omega)) only [↓pvd,pva,pvr,bin2,binB2,un1,setCells,List.map,seval,reduceCtorEq]
 refine awR_callG (g3 _ _) ?_
 simp (disch:=first|omega|(simp only[pvl] at *;omega)) only [↓pvd,pva,pvr,bin2,binB2,un1,setCells,List.map,seval,reduceCtorEq]
 all_goals
  by_cases he : e3 = 0
  case' pos=>(rw [he, rdT_z, hx]; unfold lnA)
  case' neg=>(rw [rdT_e he]; unfold lnA lnZ)
  all_goals simp (disch:=first|omega|(simp only[pvl];omega)) only [↓pvd,pva,pvr,bin2,binB2,un1,setCells,List.map,seval,reduceCtorEq,rdo,he]
  all_goals (refine EndsX_rq [] ?_; simp (disch:=first|omega|(simp only[pvl];omega)) only [↓pvd,pva,pvr,bin2,binB2,un1,setCells,List.map,seval,reduceCtorEq]; exact ⟨_,rfl,rfl,rfl⟩)
set_option maxHeartbeats 16000000 in
theorem read3 (ws : List (List UInt8)) (f : Bool) (r : Int) (hk : kdF ws[0]! = 3) (hm : mnF 3 ws = true) (hl : ∀ w ∈ ws, w.length ≤ 1000) : Run Tryz.prog 13 [.sl 1 (ws.map .str) f, .int .i64 r] (rdT (er3 ws) (li3 ws r)):=by
 have hn : ws.length = 5:=by
  unfold mnF at hm
  simp at hm
  omega
 have hlm : (ws.map AV.str).length = 5:=by simp [hn]
 have hg0 : (ws.map AV.str)[0]? = some (.str ws[0]!):=map_get (by omega)
 have qk:=kind_run ws[0]!
 rw [hk] at qk
 have qm:=many_run ws f 3 (by simp) (by omega)
 rw [hm] at qm
 obtain ⟨e1, he1⟩ : ∃ e, eN ws[1]! 0 = e:=⟨_, rfl⟩
 have g1 : ∀ (A : Option Ent) (T : Hp), Gen Tryz.prog 32 [.eptr 1 0 0] (A :: rdo ws f 1 0 :: T) (.str ws[1]!) (A :: rdo ws f 2 e1 :: T):=fun A T=>by
  rw [← he1]
  exact name_gen ws f 1 0 A T (by omega) (by omega) hl
 obtain ⟨e2, he2⟩ : ∃ e, eN ws[2]! e1 = e:=⟨_, rfl⟩
 have g2 : ∀ (A : Option Ent) (T : Hp), Gen Tryz.prog 32 [.eptr 1 0 0] (A :: rdo ws f 2 e1 :: T) (.str ws[2]!) (A :: rdo ws f 3 e2 :: T):=fun A T=>by
  rw [← he2]
  exact name_gen ws f 2 e1 A T (by omega) (by omega) hl
 obtain ⟨e3, he3⟩ : ∃ e, eN ws[3]! e2 = e:=⟨_, rfl⟩
 have g3 : ∀ (A : Option Ent) (T : Hp), Gen Tryz.prog 32 [.eptr 1 0 0] (A :: rdo ws f 3 e2 :: T) (.str ws[3]!) (A :: rdo ws f 4 e3 :: T):=fun A T=>by
  rw [← he3]
  exact name_gen ws f 3 e2 A T (by omega) (by omega) hl
 obtain ⟨e4, he4⟩ : ∃ e, eN ws[4]! e3 = e:=⟨_, rfl⟩
 have g4 : ∀ (A : Option Ent) (T : Hp), Gen Tryz.prog 32 [.eptr 1 0 0] (A :: rdo ws f 4 e3 :: T) (.str ws[4]!) (A :: rdo ws f 5 e4 :: T):=fun A T=>by
  rw [← he4]
  exact name_gen ws f 4 e3 A T (by omega) (by omega) hl
 have her : er3 ws = e4:=by
  rw [← he4, ← he3, ← he2, ← he1]
  rfl
 rw [her]
 clear her he4 he3 he2 he1
 have hx : lnV (li3 ws r) = lnA (li3 ws r).l (.sl 0 [] true) (.sl 0 [] true) (.sl 0 [] true) (.sl 0 [] true):=rfl
 conv at hx=>rhs; unfold li3
 generalize li3 ws r = x at *
 refine Tryz.run13 (by simp) ?_
 unfold Tryz.c13
 simp (disch:=first|omega|(simp only[pvl];omega)) only [↓pvd,pva,pvr,bin2,binB2,un1,setCells,List.map,seval,reduceCtorEq,hlm,hg0]
 refine awR_call qk rfl rfl ?_
 simp (disch:=first|omega|(simp only[pvl] at *;omega)) only [↓pvd,pva,pvr,bin2,binB2,un1,setCells,List.map,seval,reduceCtorEq]
 refine awR_call qm rfl rfl ?_
 simp (disch:=first|omega|(simp only[pvl];omega)) only [↓pvd,pva,pvr,bin2,binB2,un1,setCells,List.map,seval,reduceCtorEq,hlm,hg0]
 refine awR_call qk rfl rfl ?_
 simp (disch:=first|omega|(simp only[pvl] at *;omega)) only [↓pvd,pva,pvr,bin2,binB2,un1,setCells,List.map,seval,reduceCtorEq]
 refine awR_callv rfl (g1 _ _) (by simp) ?_
 simp (disch:=first|omega|(simp only[pvl];omega)) only [↓pvd,pva,pvr,bin2,binB2,un1,setCells,List.map,seval,reduceCtorEq,lnA]
 refine awR_callv rfl (g2 _ _) (by simp) ?_
 simp (disch:=first|omega|(simp only[pvl];omega)) only [↓pvd,pva,pvr,bin2,binB2,un1,setCells,List.map,seval,reduceCtorEq,lnA]
 refine awR_callv rfl (g3 _ _) (by simp) ?_
 simp (disch:=first|omega|(simp only[pvl];omega)) only [↓pvd,pva,pvr,bin2,binB2,un1,setCells,List.map,seval,reduceCtorEq,lnA]
 refine awR_callv rfl (g4 _ _) (by simp) ?_
 simp (disch:=first|omega|(simp only[pvl];omega)) only [↓pvd,pva,pvr,bin2,binB2,un1,setCells,List.map,seval,reduceCtorEq,lnA]
 all_goals
  by_cases he : e4 = 0
  case' pos=>(rw [he, rdT_z, hx]; unfold lnA)
  case' neg=>(rw [rdT_e he]; unfold lnA lnZ)
  all_goals simp (disch:=first|omega|(simp only[pvl];omega)) only [↓pvd,pva,pvr,bin2,binB2,un1,setCells,List.map,seval,reduceCtorEq,rdo,he]
  all_goals (refine EndsX_rq [] ?_; simp (disch:=first|omega|(simp only[pvl];omega)) only [↓pvd,pva,pvr,bin2,binB2,un1,setCells,List.map,seval,reduceCtorEq]; exact ⟨_,rfl,rfl,rfl⟩)
set_option maxHeartbeats 16000000 in
theorem read4 (ws : List (List UInt8)) (f : Bool) (r : Int) (hk : kdF ws[0]! = 4) (hm : mnF 4 ws = true) (hl : ∀ w ∈ ws, w.length ≤ 1000) : Run Tryz.prog 13 [.sl 1 (ws.map .str) f, .int .i64 r] (rdT (er4 ws) (li4 ws r)):=by
 have hn : ws.length = 5:=by
  unfold mnF at hm
  simp at hm
  omega
 have hlm : (ws.map AV.str).length = 5:=by simp [hn]
 have hg0 : (ws.map AV.str)[0]? = some (.str ws[0]!):=map_get (by omega)
 have qk:=kind_run ws[0]!
 rw [hk] at qk
 have qm:=many_run ws f 4 (by simp) (by omega)
 rw [hm] at qm
 obtain ⟨e1, he1⟩ : ∃ e, eN ws[1]! 0 = e:=⟨_, rfl⟩
 have g1 : ∀ (A : Option Ent) (T : Hp), Gen Tryz.prog 32 [.eptr 1 0 0] (A :: rdo ws f 1 0 :: T) (.str ws[1]!) (A :: rdo ws f 2 e1 :: T):=fun A T=>by
  rw [← he1]
  exact name_gen ws f 1 0 A T (by omega) (by omega) hl
 obtain ⟨e2, he2⟩ : ∃ e, eU ws[2]! 1 4094 e1 = e:=⟨_, rfl⟩
 have g2 : ∀ (A : Option Ent) (T : Hp), Gen Tryz.prog 33 [.eptr 1 0 0] (A :: rdo ws f 2 e1 :: T) (.int .i64 (nu ws[2]! 1 4094)) (A :: rdo ws f 3 e2 :: T):=fun A T=>by
  rw [← he2]
  exact vlan_gen ws f 2 e1 A T (by omega) (by omega) hl
 obtain ⟨e3, he3⟩ : ∃ e, eM ws[3]! e2 = e:=⟨_, rfl⟩
 have g3 : ∀ (A : Option Ent) (T : Hp), Gen Tryz.prog 35 [.eptr 1 0 0] (A :: rdo ws f 3 e2 :: T) (.int .u64 (Mc.rdm ws[3]!).1) (A :: rdo ws f 4 e3 :: T):=fun A T=>by
  rw [← he3]
  exact mac_gen ws f 3 e2 A T (by omega) (by omega) hl
 obtain ⟨e4, he4⟩ : ∃ e, eN ws[4]! e3 = e:=⟨_, rfl⟩
 have g4 : ∀ (A : Option Ent) (T : Hp), Gen Tryz.prog 32 [.eptr 1 0 0] (A :: rdo ws f 4 e3 :: T) (.str ws[4]!) (A :: rdo ws f 5 e4 :: T):=fun A T=>by
  rw [← he4]
  exact name_gen ws f 4 e3 A T (by omega) (by omega) hl
 have her : er4 ws = e4:=by
  rw [← he4, ← he3, ← he2, ← he1]
  rfl
 rw [her]
 clear her he4 he3 he2 he1
 have hx : lnV (li4 ws r) = lnA (li4 ws r).l (.sl 0 [] true) (.sl 0 [] true) (.sl 0 [] true) (.sl 0 [] true):=rfl
 conv at hx=>rhs; unfold li4
 generalize li4 ws r = x at *
 refine Tryz.run13 (by simp) ?_
 unfold Tryz.c13
 simp (disch:=first|omega|(simp only[pvl];omega)) only [↓pvd,pva,pvr,bin2,binB2,un1,setCells,List.map,seval,reduceCtorEq,hlm,hg0]
 refine awR_call qk rfl rfl ?_
 simp (disch:=first|omega|(simp only[pvl] at *;omega)) only [↓pvd,pva,pvr,bin2,binB2,un1,setCells,List.map,seval,reduceCtorEq]
 refine awR_call qm rfl rfl ?_
 simp (disch:=first|omega|(simp only[pvl];omega)) only [↓pvd,pva,pvr,bin2,binB2,un1,setCells,List.map,seval,reduceCtorEq,hlm,hg0]
 refine awR_call qk rfl rfl ?_
 simp (disch:=first|omega|(simp only[pvl] at *;omega)) only [↓pvd,pva,pvr,bin2,binB2,un1,setCells,List.map,seval,reduceCtorEq]
 refine awR_callv rfl (g1 _ _) (by simp) ?_
 simp (disch:=first|omega|(simp only[pvl];omega)) only [↓pvd,pva,pvr,bin2,binB2,un1,setCells,List.map,seval,reduceCtorEq,lnA]
 refine awR_callv rfl (g2 _ _) (by simp) ?_
 simp (disch:=first|omega|(simp only[pvl];omega)) only [↓pvd,pva,pvr,bin2,binB2,un1,setCells,List.map,seval,reduceCtorEq,lnA]
 refine awR_callG (g3 _ _) ?_
 simp (disch:=first|omega|(simp only[pvl] at *;omega)) only [↓pvd,pva,pvr,bin2,binB2,un1,setCells,List.map,seval,reduceCtorEq]
 refine awR_callv rfl (g4 _ _) (by simp) ?_
 simp (disch:=first|omega|(simp only[pvl];omega)) only [↓pvd,pva,pvr,bin2,binB2,un1,setCells,List.map,seval,reduceCtorEq,lnA]
 all_goals
  by_cases he : e4 = 0
  case' pos=>(rw [he, rdT_z, hx]; unfold lnA)
  case' neg=>(rw [rdT_e he]; unfold lnA lnZ)
  all_goals simp (disch:=first|omega|(simp only[pvl];omega)) only [↓pvd,pva,pvr,bin2,binB2,un1,setCells,List.map,seval,reduceCtorEq,rdo,he]
  all_goals (refine EndsX_rq [] ?_; simp (disch:=first|omega|(simp only[pvl];omega)) only [↓pvd,pva,pvr,bin2,binB2,un1,setCells,List.map,seval,reduceCtorEq]; exact ⟨_,rfl,rfl,rfl⟩)
set_option maxHeartbeats 16000000 in
theorem read6 (ws : List (List UInt8)) (f : Bool) (r : Int) (hk : kdF ws[0]! = 6) (hm : mnF 6 ws = true) (hl : ∀ w ∈ ws, w.length ≤ 1000) : Run Tryz.prog 13 [.sl 1 (ws.map .str) f, .int .i64 r] (rdT (er6 ws) (li6 ws r)):=by
 have hn : ws.length = 4:=by
  unfold mnF at hm
  simp at hm
  omega
 have hlm : (ws.map AV.str).length = 4:=by simp [hn]
 have hg0 : (ws.map AV.str)[0]? = some (.str ws[0]!):=map_get (by omega)
 have qk:=kind_run ws[0]!
 rw [hk] at qk
 have qm:=many_run ws f 6 (by simp) (by omega)
 rw [hm] at qm
 obtain ⟨e1, he1⟩ : ∃ e, eN ws[1]! 0 = e:=⟨_, rfl⟩
 have g1 : ∀ (A : Option Ent) (T : Hp), Gen Tryz.prog 32 [.eptr 1 0 0] (A :: rdo ws f 1 0 :: T) (.str ws[1]!) (A :: rdo ws f 2 e1 :: T):=fun A T=>by
  rw [← he1]
  exact name_gen ws f 1 0 A T (by omega) (by omega) hl
 obtain ⟨e2, he2⟩ : ∃ e, eU ws[2]! 1 4094 e1 = e:=⟨_, rfl⟩
 have g2 : ∀ (A : Option Ent) (T : Hp), Gen Tryz.prog 33 [.eptr 1 0 0] (A :: rdo ws f 2 e1 :: T) (.int .i64 (nu ws[2]! 1 4094)) (A :: rdo ws f 3 e2 :: T):=fun A T=>by
  rw [← he2]
  exact vlan_gen ws f 2 e1 A T (by omega) (by omega) hl
 obtain ⟨e3, he3⟩ : ∃ e, eU ws[3]! 1 16777215 e2 = e:=⟨_, rfl⟩
 have g3 : ∀ (A : Option Ent) (T : Hp), Gen Tryz.prog 40 [.eptr 1 0 0] (A :: rdo ws f 3 e2 :: T) (.int .i64 (nu ws[3]! 1 16777215)) (A :: rdo ws f 4 e3 :: T):=fun A T=>by
  rw [← he3]
  exact vni_gen ws f 3 e2 A T (by omega) (by omega) hl
 have her : er6 ws = e3:=by
  rw [← he3, ← he2, ← he1]
  rfl
 rw [her]
 clear her he3 he2 he1
 have hx : lnV (li6 ws r) = lnA (li6 ws r).l (.sl 0 [] true) (.sl 0 [] true) (.sl 0 [] true) (.sl 0 [] true):=rfl
 conv at hx=>rhs; unfold li6
 generalize li6 ws r = x at *
 refine Tryz.run13 (by simp) ?_
 unfold Tryz.c13
 simp (disch:=first|omega|(simp only[pvl];omega)) only [↓pvd,pva,pvr,bin2,binB2,un1,setCells,List.map,seval,reduceCtorEq,hlm,hg0]
 refine awR_call qk rfl rfl ?_
 simp (disch:=first|omega|(simp only[pvl] at *;omega)) only [↓pvd,pva,pvr,bin2,binB2,un1,setCells,List.map,seval,reduceCtorEq]
 refine awR_call qm rfl rfl ?_
 simp (disch:=first|omega|(simp only[pvl];omega)) only [↓pvd,pva,pvr,bin2,binB2,un1,setCells,List.map,seval,reduceCtorEq,hlm,hg0]
 refine awR_call qk rfl rfl ?_
 simp (disch:=first|omega|(simp only[pvl] at *;omega)) only [↓pvd,pva,pvr,bin2,binB2,un1,setCells,List.map,seval,reduceCtorEq]
 refine awR_callv rfl (g1 _ _) (by simp) ?_
 simp (disch:=first|omega|(simp only[pvl];omega)) only [↓pvd,pva,pvr,bin2,binB2,un1,setCells,List.map,seval,reduceCtorEq,lnA]
 refine awR_callv rfl (g2 _ _) (by simp) ?_
 simp (disch:=first|omega|(simp only[pvl];omega)) only [↓pvd,pva,pvr,bin2,binB2,un1,setCells,List.map,seval,reduceCtorEq,lnA]
 refine awR_callG (g3 _ _) ?_
 simp (disch:=first|omega|(simp only[pvl] at *;omega)) only [↓pvd,pva,pvr,bin2,binB2,un1,setCells,List.map,seval,reduceCtorEq]
 all_goals
  by_cases he : e3 = 0
  case' pos=>(rw [he, rdT_z, hx]; unfold lnA)
  case' neg=>(rw [rdT_e he]; unfold lnA lnZ)
  all_goals simp (disch:=first|omega|(simp only[pvl];omega)) only [↓pvd,pva,pvr,bin2,binB2,un1,setCells,List.map,seval,reduceCtorEq,rdo,he]
  all_goals (refine EndsX_rq [] ?_; simp (disch:=first|omega|(simp only[pvl];omega)) only [↓pvd,pva,pvr,bin2,binB2,un1,setCells,List.map,seval,reduceCtorEq]; exact ⟨_,rfl,rfl,rfl⟩)
set_option maxHeartbeats 16000000 in
theorem read5 (ws : List (List UInt8)) (f : Bool) (r : Int) (hk : kdF ws[0]! = 5) (hm : mnF 5 ws = true) (hl : ∀ w ∈ ws, w.length ≤ 1000) : Run Tryz.prog 13 [.sl 1 (ws.map .str) f, .int .i64 r] (rdT (er5 ws) (li5 ws r)):=by
 have hn : ws.length = 3:=by
  unfold mnF at hm
  simp at hm
  omega
 have hlm : (ws.map AV.str).length = 3:=by simp [hn]
 have hg0 : (ws.map AV.str)[0]? = some (.str ws[0]!):=map_get (by omega)
 have qk:=kind_run ws[0]!
 rw [hk] at qk
 have qm:=many_run ws f 5 (by simp) (by omega)
 rw [hm] at qm
 obtain ⟨e1, he1⟩ : ∃ e, eN ws[1]! 0 = e:=⟨_, rfl⟩
 have g1 : ∀ (A : Option Ent) (T : Hp), Gen Tryz.prog 32 [.eptr 1 0 0] (A :: rdo ws f 1 0 :: T) (.str ws[1]!) (A :: rdo ws f 2 e1 :: T):=fun A T=>by
  rw [← he1]
  exact name_gen ws f 1 0 A T (by omega) (by omega) hl
 have hwl : ws[2]!.length ≤ 1000:=hl _ (by rw [getElem!_pos ws 2 (by omega)]; exact List.getElem_mem (by omega))
 have qa:=read_run ws[2]! (by omega)
 rw [rdB_eq] at qa
 obtain ⟨e2, he2⟩ : ∃ e, eA ws[2]! e1 = e:=⟨_, rfl⟩
 have gn:=fun (A : Option Ent) (T : Hp)=>next_gen ws f 2 e1 A T (by omega) (by omega)
 have gf : ∀ (A : Option Ent) (T : Hp), Gen Tryz.prog 36 [.eptr 1 0 0, .bool (!(rdB ws[2]!).2 || decide ((rdB ws[2]!).1 = 0)), .int .i64 21] (A :: rdo ws f 3 e1 :: T) (.tup []) (A :: rdo ws f 3 e2 :: T):=fun A T=>by
  rw [← he2]
  exact fail_gen ws f 3 e1 21 _ A T
 have her : er5 ws = e2:=by
  rw [← he2, ← he1]
  rfl
 rw [her]
 clear her he2 he1
 have hx : lnV (li5 ws r) = lnA (li5 ws r).l (.sl 0 [] true) (.sl 0 [] true) (.sl 0 [] true) (.sl 0 [] true):=rfl
 conv at hx=>rhs; unfold li5
 generalize li5 ws r = x at *
 refine Tryz.run13 (by simp) ?_
 unfold Tryz.c13
 simp (disch:=first|omega|(simp only[pvl];omega)) only [↓pvd,pva,pvr,bin2,binB2,un1,setCells,List.map,seval,reduceCtorEq,hlm,hg0]
 refine awR_call qk rfl rfl ?_
 simp (disch:=first|omega|(simp only[pvl] at *;omega)) only [↓pvd,pva,pvr,bin2,binB2,un1,setCells,List.map,seval,reduceCtorEq]
 refine awR_call qm rfl rfl ?_
 simp (disch:=first|omega|(simp only[pvl];omega)) only [↓pvd,pva,pvr,bin2,binB2,un1,setCells,List.map,seval,reduceCtorEq,hlm,hg0]
 refine awR_call qk rfl rfl ?_
 simp (disch:=first|omega|(simp only[pvl] at *;omega)) only [↓pvd,pva,pvr,bin2,binB2,un1,setCells,List.map,seval,reduceCtorEq]
 refine awR_callv rfl (g1 _ _) (by simp) ?_
 simp (disch:=first|omega|(simp only[pvl];omega)) only [↓pvd,pva,pvr,bin2,binB2,un1,setCells,List.map,seval,reduceCtorEq,lnA]
 refine awR_callG (gn _ _) ?_
 simp (disch:=first|omega|(simp only[pvl] at *;omega)) only [↓pvd,pva,pvr,bin2,binB2,un1,setCells,List.map,seval,reduceCtorEq]
 refine awR_call qa rfl rfl ?_
 generalize (rdB ws[2]!).1 = a at *
 generalize (rdB ws[2]!).2 = ok at *
 have gf' : ∀ b, b = (!ok || decide (a = 0)) → ∀ (A : Option Ent) (T : Hp), Gen Tryz.prog 36 [.eptr 1 0 0, .bool b, .int .i64 21] (A :: rdo ws f 3 e1 :: T) (.tup []) (A :: rdo ws f 3 e2 :: T):=by rintro b rfl; exact gf
 cases ok
 all_goals simp (disch:=first|omega|(simp only[pvl] at *;omega)) only [↓pvd,pva,pvr,bin2,binB2,un1,setCells,List.map,seval,reduceCtorEq]
 case' false=>refine awR_callG (gf' _ (by simp) _ _) ?_
 case' true=>refine awR_callG (gf' _ (by simp) _ _) ?_
 all_goals simp (disch:=first|omega|(simp only[pvl] at *;omega)) only [↓pvd,pva,pvr,bin2,binB2,un1,setCells,List.map,seval,reduceCtorEq]
 all_goals
  by_cases he : e2 = 0
  case' pos=>(rw [he, rdT_z, hx]; unfold lnA)
  case' neg=>(rw [rdT_e he]; unfold lnA lnZ)
  all_goals simp (disch:=first|omega|(simp only[pvl];omega)) only [↓pvd,pva,pvr,bin2,binB2,un1,setCells,List.map,seval,reduceCtorEq,rdo,he]
  all_goals (refine EndsX_rq [] ?_; simp (disch:=first|omega|(simp only[pvl];omega)) only [↓pvd,pva,pvr,bin2,binB2,un1,setCells,List.map,seval,reduceCtorEq]; exact ⟨_,rfl,rfl,rfl⟩)
set_option maxHeartbeats 16000000 in
theorem read7 (ws : List (List UInt8)) (f : Bool) (r : Int) (hk : kdF ws[0]! = 7) (hm : mnF 7 ws = true) (hl : ∀ w ∈ ws, w.length ≤ 1000) : Run Tryz.prog 13 [.sl 1 (ws.map .str) f, .int .i64 r] (rdT (er7 ws) (li7 ws r)):=by
 have hn : ws.length = 4:=by
  unfold mnF at hm
  simp at hm
  omega
 have hlm : (ws.map AV.str).length = 4:=by simp [hn]
 have hg0 : (ws.map AV.str)[0]? = some (.str ws[0]!):=map_get (by omega)
 have qk:=kind_run ws[0]!
 rw [hk] at qk
 have qm:=many_run ws f 7 (by simp) (by omega)
 rw [hm] at qm
 obtain ⟨e1, he1⟩ : ∃ e, eN ws[1]! 0 = e:=⟨_, rfl⟩
 have g1 : ∀ (A : Option Ent) (T : Hp), Gen Tryz.prog 32 [.eptr 1 0 0] (A :: rdo ws f 1 0 :: T) (.str ws[1]!) (A :: rdo ws f 2 e1 :: T):=fun A T=>by
  rw [← he1]
  exact name_gen ws f 1 0 A T (by omega) (by omega) hl
 obtain ⟨e2, he2⟩ : ∃ e, eU ws[2]! 1 16777215 e1 = e:=⟨_, rfl⟩
 have g2 : ∀ (A : Option Ent) (T : Hp), Gen Tryz.prog 40 [.eptr 1 0 0] (A :: rdo ws f 2 e1 :: T) (.int .i64 (nu ws[2]! 1 16777215)) (A :: rdo ws f 3 e2 :: T):=fun A T=>by
  rw [← he2]
  exact vni_gen ws f 2 e1 A T (by omega) (by omega) hl
 have hwl : ws[3]!.length ≤ 1000:=hl _ (by rw [getElem!_pos ws 3 (by omega)]; exact List.getElem_mem (by omega))
 have qa : Run Tryz.prog 41 [.str ws[3]!] (.tup [sl32 (adV ws[3]!), .bool (adG ws[3]!)]):=by
  have q:=run_frz (rdaddrs_run ws[3]! hwl)
  unfold adV
  by_cases h : adG ws[3]! = true
  ·rw [rlR_yes h] at q
   rw [if_pos h, h]
   unfold sl32
   rw [if_neg (by simpa using sc_ne ws[3]!)]
   exact q
  ·have h' : adG ws[3]! = false:=by simpa using h
   rw [rlR_no h] at q
   rw [if_neg h, h', sl32_nil]
   exact q
 have had : adG ws[3]! = true → 0 < (adV ws[3]!).length:=fun h=>by
  unfold adV
  rw [if_pos h, List.length_map]
  exact List.length_pos_iff.2 (sc_ne _)
 obtain ⟨e3, he3⟩ : ∃ e, eD ws[3]! e2 = e:=⟨_, rfl⟩
 have gn:=fun (A : Option Ent) (T : Hp)=>next_gen ws f 3 e2 A T (by omega) (by omega)
 have gf : ∀ (A : Option Ent) (T : Hp), Gen Tryz.prog 36 [.eptr 1 0 0, .bool (!adG ws[3]! || decide ((adV ws[3]!)[0]! = 0)), .int .i64 21] (A :: rdo ws f 4 e2 :: T) (.tup []) (A :: rdo ws f 4 e3 :: T):=fun A T=>by
  rw [← he3]
  exact fail_gen ws f 4 e2 21 _ A T
 have her : er7 ws = e3:=by
  rw [← he3, ← he2, ← he1]
  rfl
 rw [her]
 clear her he3 he2 he1
 obtain ⟨n1, f1, hs1, hn1⟩:=sl32_is (adV ws[3]!)
 have hx : lnV (li7 ws r) = lnA ⟨r, 7, ws[1]!, [], [], [], [], 0, 0, 0, 0, nu ws[2]! 1 16777215, 0⟩ (.sl 0 [] true) (.sl 0 [] true) (.sl 0 [] true) (.sl n1 ((adV ws[3]!).map (.int .u32)) f1):=by
  rw [← hs1]; rfl
 rw [hs1] at qa
 generalize li7 ws r = x at *
 refine Tryz.run13 (by simp) ?_
 unfold Tryz.c13
 simp (disch:=first|omega|(simp only[pvl];omega)) only [↓pvd,pva,pvr,bin2,binB2,un1,setCells,List.map,seval,reduceCtorEq,hlm,hg0]
 refine awR_call qk rfl rfl ?_
 simp (disch:=first|omega|(simp only[pvl] at *;omega)) only [↓pvd,pva,pvr,bin2,binB2,un1,setCells,List.map,seval,reduceCtorEq]
 refine awR_call qm rfl rfl ?_
 simp (disch:=first|omega|(simp only[pvl];omega)) only [↓pvd,pva,pvr,bin2,binB2,un1,setCells,List.map,seval,reduceCtorEq,hlm,hg0]
 refine awR_call qk rfl rfl ?_
 simp (disch:=first|omega|(simp only[pvl] at *;omega)) only [↓pvd,pva,pvr,bin2,binB2,un1,setCells,List.map,seval,reduceCtorEq]
 refine awR_callv rfl (g1 _ _) (by simp) ?_
 simp (disch:=first|omega|(simp only[pvl];omega)) only [↓pvd,pva,pvr,bin2,binB2,un1,setCells,List.map,seval,reduceCtorEq,lnA]
 refine awR_callG (g2 _ _) ?_
 simp (disch:=first|omega|(simp only[pvl] at *;omega)) only [↓pvd,pva,pvr,bin2,binB2,un1,setCells,List.map,seval,reduceCtorEq]
 refine awR_callG (gn _ _) ?_
 simp (disch:=first|omega|(simp only[pvl] at *;omega)) only [↓pvd,pva,pvr,bin2,binB2,un1,setCells,List.map,seval,reduceCtorEq]
 refine awR_call qa rfl rfl ?_
 have gf' : ∀ b, b = (!adG ws[3]! || decide ((adV ws[3]!)[0]! = 0)) → ∀ (A : Option Ent) (T : Hp), Gen Tryz.prog 36 [.eptr 1 0 0, .bool b, .int .i64 21] (A :: rdo ws f 4 e2 :: T) (.tup []) (A :: rdo ws f 4 e3 :: T):=by rintro b rfl; exact gf
 generalize adV ws[3]! = ad at *
 generalize adG ws[3]! = ok at *
 cases ok
 case' true =>
  have h0:=had rfl
  have hga : (ad.map (AV.int .u32))[0]? = some (.int .u32 ad[0]!):=map_get h0
  have hal : (ad.map (AV.int .u32)).length = ad.length:=by simp
  obtain rfl : n1 = 1:=hn1.resolve_left (by rintro rfl; simp at h0)
 all_goals generalize ad.map (AV.int .u32) = es at *
 case' true=>simp (disch:=first|omega|(simp only[pvl];omega)) only [↓pvd,pva,pvr,bin2,binB2,un1,setCells,List.map,seval,reduceCtorEq,hga,hal]
 case' false=>simp (disch:=first|omega|(simp only[pvl] at *;omega)) only [↓pvd,pva,pvr,bin2,binB2,un1,setCells,List.map,seval,reduceCtorEq]
 case' false=>refine awR_callG (gf' _ (by simp) _ _) ?_
 case' true=>refine awR_callG (gf' _ (by simp) _ _) ?_
 all_goals simp (disch:=first|omega|(simp only[pvl] at *;omega)) only [↓pvd,pva,pvr,bin2,binB2,un1,setCells,List.map,seval,reduceCtorEq]
 all_goals
  by_cases he : e3 = 0
  case' pos=>(rw [he, rdT_z, hx]; unfold lnA)
  case' neg=>(rw [rdT_e he]; unfold lnA lnZ)
  all_goals simp (disch:=first|omega|(simp only[pvl];omega)) only [↓pvd,pva,pvr,bin2,binB2,un1,setCells,List.map,seval,reduceCtorEq,rdo,he]
  all_goals (refine EndsX_rq [] ?_; simp (disch:=first|omega|(simp only[pvl];omega)) only [↓pvd,pva,pvr,bin2,binB2,un1,setCells,List.map,seval,reduceCtorEq]; exact ⟨_,rfl,rfl,rfl⟩)
set_option maxHeartbeats 16000000 in
theorem read8 (ws : List (List UInt8)) (f : Bool) (r : Int) (hk : kdF ws[0]! = 8) (hm : mnF 8 ws = true) (hl : ∀ w ∈ ws, w.length ≤ 1000) : Run Tryz.prog 13 [.sl 1 (ws.map .str) f, .int .i64 r] (rdT (er8 ws) (li8 ws r)):=by
 have hn : ws.length = 5:=by
  unfold mnF at hm
  simp at hm
  omega
 have hlm : (ws.map AV.str).length = 5:=by simp [hn]
 have hg0 : (ws.map AV.str)[0]? = some (.str ws[0]!):=map_get (by omega)
 have qk:=kind_run ws[0]!
 rw [hk] at qk
 have qm:=many_run ws f 8 (by simp) (by omega)
 rw [hm] at qm
 obtain ⟨e1, he1⟩ : ∃ e, eN ws[1]! 0 = e:=⟨_, rfl⟩
 have g1 : ∀ (A : Option Ent) (T : Hp), Gen Tryz.prog 32 [.eptr 1 0 0] (A :: rdo ws f 1 0 :: T) (.str ws[1]!) (A :: rdo ws f 2 e1 :: T):=fun A T=>by
  rw [← he1]
  exact name_gen ws f 1 0 A T (by omega) (by omega) hl
 obtain ⟨e2, he2⟩ : ∃ e, eN ws[2]! e1 = e:=⟨_, rfl⟩
 have g2 : ∀ (A : Option Ent) (T : Hp), Gen Tryz.prog 32 [.eptr 1 0 0] (A :: rdo ws f 2 e1 :: T) (.str ws[2]!) (A :: rdo ws f 3 e2 :: T):=fun A T=>by
  rw [← he2]
  exact name_gen ws f 2 e1 A T (by omega) (by omega) hl
 obtain ⟨e3, he3⟩ : ∃ e, eL ws[3]! 65535 e2 = e:=⟨_, rfl⟩
 have g3 : ∀ (A : Option Ent) (T : Hp), Gen Tryz.prog 42 [.eptr 1 0 0, .int .i64 65535] (A :: rdo ws f 3 e2 :: T) (slV (lsV ws[3]! 65535)) (A :: rdo ws f 4 e3 :: T):=fun A T=>by
  rw [← he3]
  exact list_gen ws f 3 e2 65535 A T (by omega) (by omega) hl
 obtain ⟨e4, he4⟩ : ∃ e, eL ws[4]! 65535 e3 = e:=⟨_, rfl⟩
 have g4 : ∀ (A : Option Ent) (T : Hp), Gen Tryz.prog 42 [.eptr 1 0 0, .int .i64 65535] (A :: rdo ws f 4 e3 :: T) (slV (lsV ws[4]! 65535)) (A :: rdo ws f 5 e4 :: T):=fun A T=>by
  rw [← he4]
  exact list_gen ws f 4 e3 65535 A T (by omega) (by omega) hl
 have her : er8 ws = e4:=by
  rw [← he4, ← he3, ← he2, ← he1]
  rfl
 rw [her]
 clear her he4 he3 he2 he1
 obtain ⟨n1, f1, hs1, _⟩:=slV_is (lsV ws[3]! 65535)
 obtain ⟨n2, f2, hs2, _⟩:=slV_is (lsV ws[4]! 65535)
 have hx : lnV (li8 ws r) = lnA ⟨r, 8, ws[1]!, [], [], [], ws[2]!, 0, 0, 0, 0, 0, 0⟩ (.sl 0 [] true) (.sl n1 ((lsV ws[3]! 65535).map (.int .i64)) f1) (.sl n2 ((lsV ws[4]! 65535).map (.int .i64)) f2) (.sl 0 [] true):=by
  rw [← hs1, ← hs2]; rfl
 rw [hs1] at g3
 rw [hs2] at g4
 generalize (lsV ws[3]! 65535).map (AV.int .i64) = es1 at *
 generalize (lsV ws[4]! 65535).map (AV.int .i64) = es2 at *
 generalize li8 ws r = x at *
 refine Tryz.run13 (by simp) ?_
 unfold Tryz.c13
 simp (disch:=first|omega|(simp only[pvl];omega)) only [↓pvd,pva,pvr,bin2,binB2,un1,setCells,List.map,seval,reduceCtorEq,hlm,hg0]
 refine awR_call qk rfl rfl ?_
 simp (disch:=first|omega|(simp only[pvl] at *;omega)) only [↓pvd,pva,pvr,bin2,binB2,un1,setCells,List.map,seval,reduceCtorEq]
 refine awR_call qm rfl rfl ?_
 simp (disch:=first|omega|(simp only[pvl];omega)) only [↓pvd,pva,pvr,bin2,binB2,un1,setCells,List.map,seval,reduceCtorEq,hlm,hg0]
 refine awR_call qk rfl rfl ?_
 simp (disch:=first|omega|(simp only[pvl] at *;omega)) only [↓pvd,pva,pvr,bin2,binB2,un1,setCells,List.map,seval,reduceCtorEq]
 refine awR_callv rfl (g1 _ _) (by simp) ?_
 simp (disch:=first|omega|(simp only[pvl];omega)) only [↓pvd,pva,pvr,bin2,binB2,un1,setCells,List.map,seval,reduceCtorEq,lnA]
 refine awR_callv rfl (g2 _ _) (by simp) ?_
 simp (disch:=first|omega|(simp only[pvl];omega)) only [↓pvd,pva,pvr,bin2,binB2,un1,setCells,List.map,seval,reduceCtorEq,lnA]
 refine awR_callG (g3 _ _) ?_
 simp (disch:=first|omega|(simp only[pvl] at *;omega)) only [↓pvd,pva,pvr,bin2,binB2,un1,setCells,List.map,seval,reduceCtorEq]
 refine awR_callG (g4 _ _) ?_
 simp (disch:=first|omega|(simp only[pvl] at *;omega)) only [↓pvd,pva,pvr,bin2,binB2,un1,setCells,List.map,seval,reduceCtorEq]
 all_goals
  by_cases he : e4 = 0
  case' pos=>(rw [he, rdT_z, hx]; unfold lnA)
  case' neg=>(rw [rdT_e he]; unfold lnA lnZ)
  all_goals simp (disch:=first|omega|(simp only[pvl];omega)) only [↓pvd,pva,pvr,bin2,binB2,un1,setCells,List.map,seval,reduceCtorEq,rdo,he]
  all_goals (refine EndsX_rq [] ?_; simp (disch:=first|omega|(simp only[pvl];omega)) only [↓pvd,pva,pvr,bin2,binB2,un1,setCells,List.map,seval,reduceCtorEq]; exact ⟨_,rfl,rfl,rfl⟩)
set_option maxHeartbeats 16000000 in
theorem read9 (ws : List (List UInt8)) (f : Bool) (r : Int) (hk : kdF ws[0]! = 9) (hm : mnF 9 ws = true) (hl : ∀ w ∈ ws, w.length ≤ 1000) : Run Tryz.prog 13 [.sl 1 (ws.map .str) f, .int .i64 r] (rdT (er9 ws) (li9 ws r)):=by
 have hn : ws.length = 5:=by
  unfold mnF at hm
  simp at hm
  omega
 have hlm : (ws.map AV.str).length = 5:=by simp [hn]
 have hg0 : (ws.map AV.str)[0]? = some (.str ws[0]!):=map_get (by omega)
 have qk:=kind_run ws[0]!
 rw [hk] at qk
 have qm:=many_run ws f 9 (by simp) (by omega)
 rw [hm] at qm
 obtain ⟨e1, he1⟩ : ∃ e, eN ws[1]! 0 = e:=⟨_, rfl⟩
 have g1 : ∀ (A : Option Ent) (T : Hp), Gen Tryz.prog 32 [.eptr 1 0 0] (A :: rdo ws f 1 0 :: T) (.str ws[1]!) (A :: rdo ws f 2 e1 :: T):=fun A T=>by
  rw [← he1]
  exact name_gen ws f 1 0 A T (by omega) (by omega) hl
 obtain ⟨e2, he2⟩ : ∃ e, eU ws[2]! 1 4094 e1 = e:=⟨_, rfl⟩
 have g2 : ∀ (A : Option Ent) (T : Hp), Gen Tryz.prog 33 [.eptr 1 0 0] (A :: rdo ws f 2 e1 :: T) (.int .i64 (nu ws[2]! 1 4094)) (A :: rdo ws f 3 e2 :: T):=fun A T=>by
  rw [← he2]
  exact vlan_gen ws f 2 e1 A T (by omega) (by omega) hl
 obtain ⟨e3, he3⟩ : ∃ e, eN ws[3]! e2 = e:=⟨_, rfl⟩
 have g3 : ∀ (A : Option Ent) (T : Hp), Gen Tryz.prog 32 [.eptr 1 0 0] (A :: rdo ws f 3 e2 :: T) (.str ws[3]!) (A :: rdo ws f 4 e3 :: T):=fun A T=>by
  rw [← he3]
  exact name_gen ws f 3 e2 A T (by omega) (by omega) hl
 have hwl : ws[4]!.length ≤ 1000:=hl _ (by rw [getElem!_pos ws 4 (by omega)]; exact List.getElem_mem (by omega))
 have qa:=rp_run ws[4]! (by omega)
 rw [rpB_eq] at qa
 have qs:=subnet_run (rpB ws[4]!).1 (rpB ws[4]!).2.1 (rpB_b ws[4]!)
 obtain ⟨e4, he4⟩ : ∃ e, eS ws[4]! e3 = e:=⟨_, rfl⟩
 have gn:=fun (A : Option Ent) (T : Hp)=>next_gen ws f 4 e3 A T (by omega) (by omega)
 have gf : ∀ (A : Option Ent) (T : Hp), Gen Tryz.prog 36 [.eptr 1 0 0, .bool (!(rpB ws[4]!).2.2 || !sbF (rpB ws[4]!).1 (rpB ws[4]!).2.1), .int .i64 21] (A :: rdo ws f 5 e3 :: T) (.tup []) (A :: rdo ws f 5 e4 :: T):=fun A T=>by
  rw [← he4]
  exact fail_gen ws f 5 e3 21 _ A T
 have her : er9 ws = e4:=by
  rw [← he4, ← he3, ← he2, ← he1]
  rfl
 rw [her]
 clear her he4 he3 he2 he1
 have hx : lnV (li9 ws r) = lnA (li9 ws r).l (.sl 0 [] true) (.sl 0 [] true) (.sl 0 [] true) (.sl 0 [] true):=rfl
 conv at hx=>rhs; unfold li9
 generalize li9 ws r = x at *
 refine Tryz.run13 (by simp) ?_
 unfold Tryz.c13
 simp (disch:=first|omega|(simp only[pvl];omega)) only [↓pvd,pva,pvr,bin2,binB2,un1,setCells,List.map,seval,reduceCtorEq,hlm,hg0]
 refine awR_call qk rfl rfl ?_
 simp (disch:=first|omega|(simp only[pvl] at *;omega)) only [↓pvd,pva,pvr,bin2,binB2,un1,setCells,List.map,seval,reduceCtorEq]
 refine awR_call qm rfl rfl ?_
 simp (disch:=first|omega|(simp only[pvl];omega)) only [↓pvd,pva,pvr,bin2,binB2,un1,setCells,List.map,seval,reduceCtorEq,hlm,hg0]
 refine awR_call qk rfl rfl ?_
 simp (disch:=first|omega|(simp only[pvl] at *;omega)) only [↓pvd,pva,pvr,bin2,binB2,un1,setCells,List.map,seval,reduceCtorEq]
 refine awR_callv rfl (g1 _ _) (by simp) ?_
 simp (disch:=first|omega|(simp only[pvl];omega)) only [↓pvd,pva,pvr,bin2,binB2,un1,setCells,List.map,seval,reduceCtorEq,lnA]
 refine awR_callv rfl (g2 _ _) (by simp) ?_
 simp (disch:=first|omega|(simp only[pvl];omega)) only [↓pvd,pva,pvr,bin2,binB2,un1,setCells,List.map,seval,reduceCtorEq,lnA]
 refine awR_callv rfl (g3 _ _) (by simp) ?_
 simp (disch:=first|omega|(simp only[pvl];omega)) only [↓pvd,pva,pvr,bin2,binB2,un1,setCells,List.map,seval,reduceCtorEq,lnA]
 refine awR_callG (gn _ _) ?_
 simp (disch:=first|omega|(simp only[pvl] at *;omega)) only [↓pvd,pva,pvr,bin2,binB2,un1,setCells,List.map,seval,reduceCtorEq]
 refine awR_call qa rfl rfl ?_
 have gf' : ∀ b, b = (!(rpB ws[4]!).2.2 || !sbF (rpB ws[4]!).1 (rpB ws[4]!).2.1) → ∀ (A : Option Ent) (T : Hp), Gen Tryz.prog 36 [.eptr 1 0 0, .bool b, .int .i64 21] (A :: rdo ws f 5 e3 :: T) (.tup []) (A :: rdo ws f 5 e4 :: T):=by rintro b rfl; exact gf
 generalize (rpB ws[4]!).1 = a at *
 generalize (rpB ws[4]!).2.1 = b at *
 generalize (rpB ws[4]!).2.2 = ok at *
 cases ok
 all_goals simp (disch:=first|omega|(simp only[pvl];omega)) only [↓pvd,pva,pvr,bin2,binB2,un1,setCells,List.map,seval,reduceCtorEq,pfx]
 case' true=>refine awR_call qs rfl rfl ?_
 case' true=>simp (disch:=first|omega|(simp only[pvl] at *;omega)) only [↓pvd,pva,pvr,bin2,binB2,un1,setCells,List.map,seval,reduceCtorEq]
 case' false=>refine awR_callG (gf' _ (by simp) _ _) ?_
 case' true=>refine awR_callG (gf' _ (by simp) _ _) ?_
 all_goals simp (disch:=first|omega|(simp only[pvl] at *;omega)) only [↓pvd,pva,pvr,bin2,binB2,un1,setCells,List.map,seval,reduceCtorEq]
 all_goals
  by_cases he : e4 = 0
  case' pos=>(rw [he, rdT_z, hx]; unfold lnA)
  case' neg=>(rw [rdT_e he]; unfold lnA lnZ)
  all_goals simp (disch:=first|omega|(simp only[pvl];omega)) only [↓pvd,pva,pvr,bin2,binB2,un1,setCells,List.map,seval,reduceCtorEq,rdo,he]
  all_goals (refine EndsX_rq [] ?_; simp (disch:=first|omega|(simp only[pvl];omega)) only [↓pvd,pva,pvr,bin2,binB2,un1,setCells,List.map,seval,reduceCtorEq]; exact ⟨_,rfl,rfl,rfl⟩)
end Go.Proofs
