/- The proofs of what the functions of this seat do. -/
import Derived.Test.YtppdpcfmkmnfjaaGreatDoorPr6
set_option linter.unusedSimpArgs false
set_option linter.unusedVariables false
set_option maxHeartbeats 2000000
set_option maxRecDepth 20000
namespace Go.Proofs
open Go.Pv
set_option maxHeartbeats 16000000 in
theorem read2 (ws : List (List UInt8)) (f : Bool) (r : Int) (hk : kdF ws[0]! = 2) (hm : mnF 2 ws = true) (hl : ∀ w ∈ ws, w.length ≤ 1000) : Run Tryz.prog 13 [.sl 1 (ws.map .str) f, .int .i64 r] (rdT (er2 ws) (li2 ws r)):=by
 have hn : 6 ≤ ws.length ∧ ws.length ≤ 7 ∧ (ws[4]! = [97, 99, 99, 101, 115, 115] → 4 + 1 < ws.length) ∧ (ws[4]! = [116, 114, 117, 110, 107] → 4 + 2 < ws.length):=by
  unfold mnF mnP at hm
  simp only [Int.reduceEq,if_false,if_true,Bool.and_eq_true,Bool.or_eq_true,decide_eq_true_eq] at hm
  refine ⟨hm.1, ?_, ?_, ?_⟩
  ·rcases hm.2 with h | h | h <;> omega
  ·intro h; omega
  ·intro h
   rcases hm.2 with h' | h' | h'
   ·rw [h] at h'; exact absurd h'.1 (by decide)
   ·omega
   ·exact absurd h h'.1.2
 obtain ⟨hn1, hn2, hn3, hn4⟩:=hn
 have hlm : (ws.map AV.str).length = ws.length:=by simp
 have hg0 : (ws.map AV.str)[0]? = some (.str ws[0]!):=map_get (by omega)
 have hg4 : (ws.map AV.str)[4]? = some (.str ws[4]!):=map_get (by omega)
 have qk:=kind_run ws[0]!
 rw [hk] at qk
 have qm:=many_run ws f 2 (by simp) (by omega)
 rw [hm] at qm
 obtain ⟨e1, he1⟩ : ∃ e, eN ws[1]! 0 = e:=⟨_, rfl⟩
 have g1 : ∀ (A : Option Ent) (T : Hp), Gen Tryz.prog 32 [.eptr 1 0 0] (A :: rdo ws f 1 0 :: T) (.str ws[1]!) (A :: rdo ws f 2 e1 :: T):=fun A T=>by
  rw [← he1]
  exact name_gen ws f 1 0 A T (by omega) (by omega) hl
 obtain ⟨e2, he2⟩ : ∃ e, eN ws[2]! e1 = e:=⟨_, rfl⟩
 have g2 : ∀ (A : Option Ent) (T : Hp), Gen Tryz.prog 32 [.eptr 1 0 0] (A :: rdo ws f 2 e1 :: T) (.str ws[2]!) (A :: rdo ws f 3 e2 :: T):=fun A T=>by
  rw [← he2]
  exact name_gen ws f 2 e1 A T (by omega) (by omega) hl
 obtain ⟨e3, he3⟩ : ∃ e, eU ws[3]! 1 65535 e2 = e:=⟨_, rfl⟩
 have g3 : ∀ (A : Option Ent) (T : Hp), Gen Tryz.prog 34 [.eptr 1 0 0, .int .i64 1, .int .i64 65535] (A :: rdo ws f 3 e2 :: T) (.int .i64 (nu ws[3]! 1 65535)) (A :: rdo ws f 4 e3 :: T):=fun A T=>by
  rw [← he3]
  exact number_gen ws f 3 e2 1 65535 A T (by omega) (by omega) hl
 obtain ⟨e4, he4⟩ : ∃ e, eK ws[4]! e3 = e:=⟨_, rfl⟩
 have g4 : ∀ b, b = decide (¬ ws[4]! = [97, 99, 99, 101, 115, 115] ∧ ¬ ws[4]! = [116, 114, 117, 110, 107]) → ∀ (A : Option Ent) (T : Hp), Gen Tryz.prog 36 [.eptr 1 0 0, .bool b, .int .i64 20] (A :: rdo ws f 4 e3 :: T) (.tup []) (A :: rdo ws f 4 e4 :: T):=by
  rintro b rfl A T
  rw [← he4]
  exact fail_gen ws f 4 e3 20 _ A T
 obtain ⟨l0, hl0⟩ : ∃ l : Ln, (⟨r, 2, ws[1]!, ws[2]!, [], [], [], 0, 0, 0, 0, 0, nu ws[3]! 1 65535⟩ : Ln) = l:=⟨_, rfl⟩
 obtain ⟨k', g5⟩:=port_gen ws f 4 e4 (some ⟨39, [lnA lnZ (.sl 0 [] true) (.sl 0 [] true) (.sl 0 [] true) (.sl 0 [] true)], true⟩) [] l0 (by rw [← hl0]) (by omega) hl (by omega) hn3 hn4
 have hl1 : ({ l0 with vlan:=pkV ws 4 } : Ln) = ⟨r, 2, ws[1]!, ws[2]!, [], [], [], 0, 0, 0, pkV ws 4, 0, nu ws[3]! 1 65535⟩:=by rw [← hl0]
 obtain ⟨n1, f1, hs1, _⟩:=slV_is (pkT ws 4)
 have hx : lnV (li2 ws r) = lnA ⟨r, 2, ws[1]!, ws[2]!, [], [], [], 0, 0, 0, pkV ws 4, 0, nu ws[3]! 1 65535⟩ (.sl n1 ((pkT ws 4).map (.int .i64)) f1) (.sl 0 [] true) (.sl 0 [] true) (.sl 0 [] true):=by
  rw [← hs1]; rfl
 have her : er2 ws = pkE ws 4 e4:=by
  rw [← he4, ← he3, ← he2, ← he1]
  rfl
 rw [her]
 clear her he4 he3 he2 he1
 rw [hl1, hs1] at g5
 rw [← hl0] at g5
 generalize pkE ws 4 e4 = e5 at *
 generalize (pkT ws 4).map (AV.int .i64) = es at *
 generalize li2 ws r = x at *
 refine Tryz.run13 (by simp) ?_
 unfold Tryz.c13
 simp (disch:=first|omega|(simp only[pvl];omega)) only [↓pvd,pva,pvr,bin2,binB2,un1,setCells,List.map,seval,reduceCtorEq,hlm,hg0]
 refine awR_call qk rfl rfl ?_
 simp (disch:=first|omega|(simp only[pvl] at *;omega)) only [↓pvd,pva,pvr,bin2,binB2,un1,setCells,List.map,seval,reduceCtorEq]
 refine awR_call qm rfl rfl ?_
 simp (disch:=first|omega|(simp only[pvl];omega)) only [↓pvd,pva,pvr,bin2,binB2,un1,setCells,List.map,seval,reduceCtorEq,hlm,hg0]
 refine awR_call qk rfl rfl ?_
 simp (disch:=first|omega|(simp only[pvl] at *;omega)) only [↓pvd,pva,pvr,bin2,binB2,un1,setCells,List.map,seval,reduceCtorEq]
 refine awR_callv rfl (g1 _ _) (by simp) ?_
 simp (disch:=first|omega|(simp only[pvl];omega)) only [↓pvd,pva,pvr,bin2,binB2,un1,setCells,List.map,seval,reduceCtorEq,lnA]
 refine awR_callv rfl (g2 _ _) (by simp) ?_
 simp (disch:=first|omega|(simp only[pvl] at *;omega)) only [↓pvd,pva,pvr,bin2,binB2,un1,setCells,List.map,seval,reduceCtorEq]
 refine awR_callG (g3 _ _) ?_
 by_cases ha : ws[4]! = [97, 99, 99, 101, 115, 115]
 case' pos =>
  have da:=decide_eq_true ha
  simp (disch:=first|omega|(simp only[pvl];omega)) only [↓pvd,pva,pvr,bin2,binB2,un1,setCells,List.map,seval,reduceCtorEq,hlm,hg4,da]
  refine awR_callG (g4 _ (decide_eq_false (fun h=>h.1 ha)).symm _ _) ?_
 case' neg =>
  have da:=decide_eq_false ha
  by_cases hb : ws[4]! = [116, 114, 117, 110, 107]
  case' pos =>
   have db:=decide_eq_true hb
   simp (disch:=first|omega|(simp only[pvl];omega)) only [↓pvd,pva,pvr,bin2,binB2,un1,setCells,List.map,seval,reduceCtorEq,hlm,hg4,da,db]
   refine awR_callG (g4 _ (decide_eq_false (fun h=>h.2 hb)).symm _ _) ?_
  case' neg =>
   have db:=decide_eq_false hb
   simp (disch:=first|omega|(simp only[pvl];omega)) only [↓pvd,pva,pvr,bin2,binB2,un1,setCells,List.map,seval,reduceCtorEq,hlm,hg4,da,db]
   refine awR_callG (g4 _ (decide_eq_true ⟨ha, hb⟩).symm _ _) ?_
 all_goals
  simp (disch:=first|omega|(simp only[pvl] at *;omega)) only [↓pvd,pva,pvr,bin2,binB2,un1,setCells,List.map,seval,reduceCtorEq]
  refine awR_callG g5 ?_
  simp (disch:=first|omega|(simp only[pvl];omega)) only [↓pvd,pva,pvr,bin2,binB2,un1,setCells,List.map,seval,reduceCtorEq,lno,lnA,nilA]
  by_cases he : e5 = 0
  case' pos=>(rw [he, rdT_z, hx]; unfold lnA)
  case' neg=>(rw [rdT_e he]; unfold lnA lnZ)
  all_goals simp (disch:=first|omega|(simp only[pvl];omega)) only [↓pvd,pva,pvr,bin2,binB2,un1,setCells,List.map,seval,reduceCtorEq,rdo,lno,lnA,lnZ,nilA,he]
  all_goals (refine EndsX_rq [] ?_; simp (disch:=first|omega|(simp only[pvl];omega)) only [↓pvd,pva,pvr,bin2,binB2,un1,setCells,List.map,seval,reduceCtorEq]; exact ⟨_,rfl,rfl,rfl⟩)
noncomputable def erF (k : Int) (ws : List (List UInt8)) : Int :=
 if k = 1 then er1 ws else if k = 2 then er2 ws else if k = 3 then er3 ws else if k = 4 then er4 ws else if k = 5 then er5 ws else if k = 6 then er6 ws else if k = 7 then er7 ws else if k = 8 then er8 ws else er9 ws
noncomputable def liF (k : Int) (ws : List (List UInt8)) (r : Int) : LnF :=
 if k = 1 then li1 ws r else if k = 2 then li2 ws r else if k = 3 then li3 ws r else if k = 4 then li4 ws r else if k = 5 then li5 ws r else if k = 6 then li6 ws r else if k = 7 then li7 ws r else if k = 8 then li8 ws r else li9 ws r
def okN (ws : List (List UInt8)) : Bool:=decide (ws ≠ []) && mnF (kdF ws[0]!) ws
noncomputable def rdE (ws : List (List UInt8)) : Int:=if okN ws = true then erF (kdF ws[0]!) ws else 22
noncomputable def rdL (ws : List (List UInt8)) (r : Int) : LnF:=liF (kdF ws[0]!) ws r
theorem read0 (ws : List (List UInt8)) (f : Bool) (r : Int) (h : okN ws = false) (hw : ws.length ≤ 100000) : Run Tryz.prog 13 [.sl 1 (ws.map .str) f, .int .i64 r] (rdT 22 (rdL ws r)):=by
 rw [rdT_e (by decide)]
 have hlm : (ws.map AV.str).length = ws.length:=by simp
 by_cases h0 : ws = []
 ·subst h0
  refine Tryz.run13 (by simp) ?_
  unfold Tryz.c13
  simp (disch:=first|omega|(simp only[pvl] at *;omega)) only [↓pvd,pva,pvr,bin2,binB2,un1,setCells,List.map,seval,reduceCtorEq]
  unfold lnA lnZ
  (refine EndsX_rq [] ?_; simp (disch:=first|omega|(simp only[pvl];omega)) only [↓pvd,pva,pvr,bin2,binB2,un1,setCells,List.map,seval,reduceCtorEq]; exact ⟨_,rfl,rfl,rfl⟩)
 ·have hg0 : (ws.map AV.str)[0]? = some (.str ws[0]!):=map_get (List.length_pos_iff.2 h0)
  have h1 : mnF (kdF ws[0]!) ws = false:=by simpa [okN, h0] using h
  have qk:=kind_run ws[0]!
  have qm:=many_run ws f (kdF ws[0]!) (kdF_b _) (by omega)
  rw [h1] at qm
  have hp:=List.length_pos_iff.2 h0
  generalize kdF ws[0]! = k at *
  refine Tryz.run13 (by simp) ?_
  unfold Tryz.c13
  simp (disch:=first|omega|(simp only[pvl];omega)) only [↓pvd,pva,pvr,bin2,binB2,un1,setCells,List.map,seval,reduceCtorEq,hlm,hg0]
  refine awR_call qk rfl rfl ?_
  simp (disch:=first|omega|(simp only[pvl] at *;omega)) only [↓pvd,pva,pvr,bin2,binB2,un1,setCells,List.map,seval,reduceCtorEq]
  refine awR_call qm rfl rfl ?_
  simp (disch:=first|omega|(simp only[pvl] at *;omega)) only [↓pvd,pva,pvr,bin2,binB2,un1,setCells,List.map,seval,reduceCtorEq]
  unfold lnA lnZ
  (refine EndsX_rq [] ?_; simp (disch:=first|omega|(simp only[pvl];omega)) only [↓pvd,pva,pvr,bin2,binB2,un1,setCells,List.map,seval,reduceCtorEq]; exact ⟨_,rfl,rfl,rfl⟩)
theorem sread_run (ws : List (List UInt8)) (f : Bool) (r : Int) (hw : ws.length ≤ 100000) (hl : ∀ w ∈ ws, w.length ≤ 1000) : Run Tryz.prog 13 [.sl 1 (ws.map .str) f, .int .i64 r] (rdT (rdE ws) (rdL ws r)):=by
 unfold rdE
 by_cases h : okN ws = true
 ·rw [if_pos h]
  have h1 : mnF (kdF ws[0]!) ws = true:=by
   unfold okN at h
   simp only [Bool.and_eq_true] at h
   exact h.2
  unfold rdL erF liF
  rcases kdF_b ws[0]! with e | e | e | e | e | e | e | e | e | e
  ·rw [e] at h1; simp [mnF] at h1
  all_goals rw [e] at h1
  all_goals simp only [e,Int.reduceEq,if_true,if_false]
  ·exact read1 ws f r e h1 hl
  ·exact read2 ws f r e h1 hl
  ·exact read3 ws f r e h1 hl
  ·exact read4 ws f r e h1 hl
  ·exact read5 ws f r e h1 hl
  ·exact read6 ws f r e h1 hl
  ·exact read7 ws f r e h1 hl
  ·exact read8 ws f r e h1 hl
  ·exact read9 ws f r e h1 hl
 ·rw [if_neg h]
  exact read0 ws f r (by simpa using h) hw
end Go.Proofs
namespace Go.Proofs
open Go.Pv
def liO (l : List Int) (m : Int) : Bool:=decide (l = []) || rsF l 1 m
def isLn (v : AV) (x : LnF) : Prop:=∃ n1 f1 n2 f2 n3 f3 n4 f4, v = lnA x.l (.sl n1 (x.t.map (.int .i64)) f1) (.sl n2 (x.im.map (.int .i64)) f2) (.sl n3 (x.ex.map (.int .i64)) f3) (.sl n4 (x.ad.map (.int .u32)) f4) ∧
 (x.t = [] ∨ n1 = 1) ∧ (x.im = [] ∨ n2 = 1) ∧ (x.ex = [] ∨ n3 = 1) ∧ (x.ad = [] ∨ n4 = 1)
theorem isLn_V (x : LnF) : isLn (lnV x) x:=by
 obtain ⟨n1, f1, h1, k1⟩:=slV_is x.t
 obtain ⟨n2, f2, h2, k2⟩:=slV_is x.im
 obtain ⟨n3, f3, h3, k3⟩:=slV_is x.ex
 obtain ⟨n4, f4, h4, k4⟩:=sl32_is x.ad
 exact ⟨n1, f1, n2, f2, n3, f3, n4, f4, by unfold lnV; rw [h1, h2, h3, h4], k1, k2, k3, k4⟩
def lnS (x : LnF) : Prop:=(x.t.length : Int) < 9223372036854775807 ∧ (x.im.length : Int) < 9223372036854775807 ∧ (x.ex.length : Int) < 9223372036854775807 ∧ (x.ad.length : Int) < 9223372036854775807
end Go.Proofs
namespace Go.Proofs
open Go.Pv
def lnB (x : LnF) : Prop:=(x.l.dev.length ≤ 1000 ∧ x.l.port.length ≤ 1000 ∧ x.l.peer.length ≤ 1000 ∧ x.l.far.length ≤ 1000 ∧ x.l.name.length ≤ 1000 ∧ x.t.length ≤ 1000 ∧ x.im.length ≤ 1000 ∧ x.ex.length ≤ 1000 ∧ x.ad.length ≤ 1000) ∧
 (0 ≤ x.l.mac ∧ x.l.mac < 18446744073709551616 ∧ 0 ≤ x.l.addr ∧ x.l.addr ≤ 4294967295) ∧ ∀ a ∈ x.ad, 0 ≤ a ∧ a ≤ 4294967295
end Go.Proofs
namespace Go.Proofs
open Go.Pv
theorem rdG_range' {s ds : List UInt8} {neg : Bool} {a b : Int} (h : (Nm.rdG s ds neg a b).2 = true) : a ≤ (Nm.rdG s ds neg a b).1 ∧ (Nm.rdG s ds neg a b).1 ≤ b:=by
 unfold Nm.rdG at *
 split at h
 ·cases h
 rw [if_neg (by assumption)]
 split at h
 ·cases h
 rw [if_neg (by assumption)]
 generalize (if neg then -Nm.vF ds ds.length else Nm.vF ds ds.length) = n at *
 simp only at *
 split at h
 ·cases h
 split at h
 ·cases h
 split at h
 ·cases h
 rw [if_neg (by assumption), if_neg (by assumption), if_neg (by assumption)]
 simp only
 omega
theorem rdF_range {a b : Int} {p : List UInt8} (h : (Nm.rdF p a b).2 = true) : a ≤ (Nm.rdF p a b).1 ∧ (Nm.rdF p a b).1 ≤ b:=by
 unfold Nm.rdF at *
 split at h
 ·rw [if_pos (by assumption)]; exact rdG_range' h
 ·rw [if_neg (by assumption)]; exact rdG_range' h
theorem rl_rs' {g : List UInt8 → Int × Bool} {a b : Int} {ps : List (List UInt8)} (hne : ps ≠ []) (h : rlF g ps = true) (hr : ∀ p ∈ ps, a ≤ (g p).1 ∧ (g p).1 ≤ b) : rsF (ps.map fun p=>(g p).1) a b = true:=by
 obtain ⟨h1, h2, h3⟩:=rlF_iff.1 h
 have h4 : ((ps.map fun p=>(g p).1).all fun n=>decide (a ≤ n ∧ n ≤ b)) = true:=by
  rw [List.all_eq_true]
  intro n hn
  obtain ⟨p, hp, rfl⟩:=List.mem_map.1 hn
  exact decide_eq_true (hr p hp)
 have h5:=List.length_pos_iff.2 hne
 unfold rsF
 rw [h4, h3, List.length_map, decide_eq_true ⟨h5, h2⟩]
 rfl
theorem fl_z {e c : Int} {b : Bool} (hc : c ≠ 0) : fl e b c = 0 ↔ e = 0 ∧ b = false:=by
 unfold fl
 split
 ·rename_i h
  exact ⟨fun h'=>absurd h' hc, fun h'=>by rw [h.1] at h'; cases h'.2⟩
 ·rename_i h
  refine ⟨fun h'=>⟨h', ?_⟩, fun h'=>h'.1⟩
  cases b with
  | false=>rfl
  | true=>exact absurd ⟨rfl, h'⟩ h
theorem eN_z {w : List UInt8} {e : Int} : eN w e = 0 ↔ e = 0 ∧ nmO w = true:=by unfold eN; rw [fl_z (by decide)]; simp
theorem eU_z {w : List UInt8} {a b e : Int} : eU w a b e = 0 ↔ e = 0 ∧ (Nm.rdF w a b).2 = true:=by unfold eU; rw [fl_z (by decide)]; simp
theorem eM_z {w : List UInt8} {e : Int} : eM w e = 0 ↔ e = 0 ∧ ((Mc.rdm w).2 = true ∧ stn (Mc.rdm w).1 = true):=by unfold eM; rw [fl_z (by decide)]; simp
theorem eL_z {w : List UInt8} {b e : Int} : eL w b e = 0 ↔ e = 0 ∧ lsB w b = false:=by unfold eL; rw [fl_z (by decide)]
theorem eA_z {w : List UInt8} {e : Int} : eA w e = 0 ↔ e = 0 ∧ ((rdB w).2 = true ∧ (rdB w).1 ≠ 0):=by unfold eA; rw [fl_z (by decide)]; simp
theorem eD_z {w : List UInt8} {e : Int} : eD w e = 0 ↔ e = 0 ∧ (adG w = true ∧ (adV w)[0]! ≠ 0):=by
 unfold eD; rw [fl_z (by decide)]
 generalize (adV w)[0]! = x
 simp
theorem eS_z {w : List UInt8} {e : Int} : eS w e = 0 ↔ e = 0 ∧ ((rpB w).2.2 = true ∧ sbF (rpB w).1 (rpB w).2.1 = true):=by unfold eS; rw [fl_z (by decide)]; simp
theorem eK_z {w : List UInt8} {e : Int} : eK w e = 0 ↔ e = 0 ∧ (w = [97, 99, 99, 101, 115, 115] ∨ w = [116, 114, 117, 110, 107]):=by
 unfold eK; rw [fl_z (by decide), decide_eq_false_iff_not]
 by_cases h : w = [97, 99, 99, 101, 115, 115] <;> by_cases h' : w = [116, 114, 117, 110, 107] <;> simp [h, h']
theorem lsV_liO {w : List UInt8} {b : Int} (h : lsB w b = false) : liO (lsV w b) b = true:=by
 unfold liO
 by_cases hn : lsV w b = []
 ·rw [decide_eq_true hn, Bool.true_or]
 ·rw [Bool.or_eq_true]
  right
  unfold lsV at hn ⊢
  by_cases h1 : w = [45]
  ·rw [if_pos h1] at hn; exact absurd rfl hn
  ·rw [if_neg h1] at hn ⊢
   by_cases h2 : lsG w b = true
   ·rw [if_pos h2]
    have h2' : rlF (gI 1 b) (sc w) = true:=h2
    exact rl_rs' (sc_ne w) h2' fun p hp=>rdF_range ((rlF_iff.1 h2').1 p hp)
   ·rw [if_neg h2] at hn; exact absurd rfl hn
theorem rdB_b (s : List UInt8) : 0 ≤ (rdB s).1 ∧ (rdB s).1 ≤ 4294967295:=by
 unfold rdB
 by_cases h : okA s
 ·have:=accF_b _ (Nat.le_of_eq h.1) h.2
  simp only [if_pos h]
  exact ⟨this.1, this.2.1⟩
 ·simp only [if_neg h]; exact ⟨by decide, by decide⟩
theorem adV_b (s : List UInt8) : ∀ a ∈ adV s, 0 ≤ a ∧ a ≤ 4294967295:=by
 intro a ha
 unfold adV at ha
 split at ha
 ·obtain ⟨p, _, rfl⟩:=List.mem_map.1 ha
  exact rdB_b p
 ·cases ha
theorem adV_len (s : List UInt8) : (adV s).length ≤ 16:=by
 unfold adV
 split
 ·rename_i h
  rw [List.length_map]
  exact (rlF_iff.1 (show rlF rdB (sc s) = true from h)).2.1
 ·simp
theorem pkT_len (ws : List (List UInt8)) (k : Nat) : (pkT ws k).length ≤ 16:=by
 unfold pkT
 split
 ·exact lsV_len _ _
 ·simp
theorem pk_ok {ws : List (List UInt8)} {e : Int} (h : pkE ws 4 e = 0) : e = 0 ∧ decide (0 ≤ pkV ws 4 ∧ pkV ws 4 ≤ 4094) = true ∧ liO (pkT ws 4) 4094 = true ∧ mbF (pkV ws 4) (pkT ws 4) = true:=by
 unfold pkE at h
 simp only at h
 rw [fl_z (by decide)] at h
 obtain ⟨h1, h2⟩:=h
 have hm : mbF (pkV ws 4) (pkT ws 4) = true:=by simpa using h2
 rw [decide_eq_true_eq]
 by_cases ha : ws[4]! = [97, 99, 99, 101, 115, 115]
 ·rw [if_pos ha, fl_z (by decide)] at h1
  have hr:=rdF_range (a:=1) (b:=4094) (p:=ws[4 + 1]!) (by simpa using h1.2)
  have e1 : pkV ws 4 = (Nm.rdF ws[4 + 1]! 1 4094).1:=by unfold pkV; rw [if_pos ha]
  have e2 : pkT ws 4 = []:=by unfold pkT; rw [if_neg (by rw [ha]; decide)]
  refine ⟨h1.1, by rw [e1]; omega, by rw [e2]; rfl, hm⟩
 ·rw [if_neg ha] at h1
  by_cases hb : ws[4]! = [116, 114, 117, 110, 107]
  ·rw [if_pos hb, fl_z (by decide)] at h1
   have e1 : pkV ws 4 = if ws[4 + 1]! = [45] then (0 : Int) else (Nm.rdF ws[4 + 1]! 1 4094).1:=by unfold pkV; rw [if_neg ha, if_pos hb]
   have e2 : pkT ws 4 = lsV ws[4 + 2]! 4094:=by unfold pkT; rw [if_pos hb]
   by_cases hc : ws[4 + 1]! = [45]
   ·rw [if_pos hc] at h1 e1
    exact ⟨h1.1, by rw [e1]; omega, by rw [e2]; exact lsV_liO h1.2, hm⟩
   ·rw [if_neg hc] at h1 e1
    obtain ⟨h3, h4⟩:=h1
    rw [fl_z (by decide)] at h3
    have hr:=rdF_range (a:=1) (b:=4094) (p:=ws[4 + 1]!) (by simpa using h3.2)
    exact ⟨h3.1, by rw [e1]; omega, by rw [e2]; exact lsV_liO h4, hm⟩
  ·rw [if_neg hb] at h1
   have e1 : pkV ws 4 = 0:=by unfold pkV; rw [if_neg ha, if_neg hb]
   have e2 : pkT ws 4 = []:=by unfold pkT; rw [if_neg hb]
   exact ⟨h1, by rw [e1]; omega, by rw [e2]; rfl, hm⟩
theorem okN_k {ws : List (List UInt8)} (h : rdE ws = 0) : okN ws = true ∧ erF (kdF ws[0]!) ws = 0:=by
 unfold rdE at h
 by_cases h' : okN ws = true
 ·rw [if_pos h'] at h; exact ⟨h', h⟩
 ·rw [if_neg h'] at h; exact absurd h (by decide)
theorem rd_cases {ws : List (List UInt8)} {r : Int} (h : rdE ws = 0) {P : LnF → Prop}
  (h1 : er1 ws = 0 → P (li1 ws r)) (h2 : er2 ws = 0 → P (li2 ws r)) (h3 : er3 ws = 0 → P (li3 ws r)) (h4 : er4 ws = 0 → P (li4 ws r)) (h5 : er5 ws = 0 → P (li5 ws r)) (h6 : er6 ws = 0 → P (li6 ws r)) (h7 : er7 ws = 0 → P (li7 ws r)) (h8 : er8 ws = 0 → P (li8 ws r)) (h9 : er9 ws = 0 → P (li9 ws r)) : P (rdL ws r):=by
 obtain ⟨hn, he⟩:=okN_k h
 have hm : mnF (kdF ws[0]!) ws = true:=by
  unfold okN at hn
  simp only [Bool.and_eq_true] at hn
  exact hn.2
 unfold rdL liF
 unfold erF at he
 rcases kdF_b ws[0]! with e | e | e | e | e | e | e | e | e | e
 ·rw [e] at hm; simp [mnF] at hm
 all_goals simp only [e,Int.reduceEq,if_true,if_false] at he ⊢
 ·exact h1 he
 ·exact h2 he
 ·exact h3 he
 ·exact h4 he
 ·exact h5 he
 ·exact h6 he
 ·exact h7 he
 ·exact h8 he
 ·exact h9 he
theorem rd_row {ws : List (List UInt8)} {r : Int} (h : rdE ws = 0) : (rdL ws r).l.row = r:=by
 refine rd_cases (P:=fun x=>x.l.row = r) h ?_ ?_ ?_ ?_ ?_ ?_ ?_ ?_ ?_
 all_goals (intro _; rfl)
theorem nmO_len {w : List UInt8} (h : nmO w = true) : w.length ≤ 12:=by
 unfold nmO at h
 simp only [decide_eq_true_eq] at h
 exact h.1.2
theorem rd_B {ws : List (List UInt8)} {r : Int} (h : rdE ws = 0) : lnB (rdL ws r):=by
 refine rd_cases (P:=lnB) h ?_ ?_ ?_ ?_ ?_ ?_ ?_ ?_ ?_
 all_goals intro he
 ·simp only [er1,eN_z,eU_z,eM_z] at he
  have a1:=nmO_len he.1.1.2
  have a2:=rdm_b ws[3]!
  exact ⟨by simp only [li1,List.length_nil]; omega, by simp only [li1]; omega, by simp [li1]⟩
 ·unfold er2 at he
  obtain ⟨he, -, -, -⟩:=pk_ok he
  simp only [eN_z,eU_z,eK_z] at he
  have a1:=nmO_len he.1.1.2
  have a2:=nmO_len he.1.1.1.2
  have a3:=pkT_len ws 4
  exact ⟨by simp only [li2,List.length_nil]; omega, by simp only [li2]; omega, by simp [li2]⟩
 ·simp only [er3,eN_z] at he
  have a1:=nmO_len he.2
  have a2:=nmO_len he.1.2
  have a3:=nmO_len he.1.1.2
  have a4:=nmO_len he.1.1.1.2
  exact ⟨by simp only [li3,List.length_nil]; omega, by simp only [li3]; omega, by simp [li3]⟩
 ·simp only [er4,eN_z,eU_z,eM_z] at he
  have a1:=nmO_len he.2
  have a2:=nmO_len he.1.1.1.2
  have a3:=rdm_b ws[3]!
  exact ⟨by simp only [li4,List.length_nil]; omega, by simp only [li4]; omega, by simp [li4]⟩
 ·simp only [er5,eN_z,eA_z] at he
  have a1:=nmO_len he.1.2
  have a2:=rdB_b ws[2]!
  exact ⟨by simp only [li5,List.length_nil]; omega, by simp only [li5]; omega, by simp [li5]⟩
 ·simp only [er6,eN_z,eU_z] at he
  have a1:=nmO_len he.1.1.2
  exact ⟨by simp only [li6,List.length_nil]; omega, by simp only [li6]; omega, by simp [li6]⟩
 ·simp only [er7,eN_z,eU_z,eD_z] at he
  have a1:=nmO_len he.1.1.2
  have a2:=adV_len ws[3]!
  exact ⟨by simp only [li7,List.length_nil]; omega, by simp only [li7]; omega, adV_b ws[3]!⟩
 ·simp only [er8,eN_z,eL_z] at he
  have a1:=nmO_len he.1.1.2
  have a2:=nmO_len he.1.1.1.2
  have a3:=lsV_len ws[3]! 65535
  have a4:=lsV_len ws[4]! 65535
  exact ⟨by simp only [li8,List.length_nil]; omega, by simp only [li8]; omega, by simp [li8]⟩
 ·simp only [er9,eN_z,eU_z,eS_z] at he
  have a1:=nmO_len he.1.2
  have a2:=nmO_len he.1.1.1.2
  have a3:=rpB_b ws[4]!
  exact ⟨by simp only [li9,List.length_nil]; omega, by simp only [li9]; omega, by simp [li9]⟩
end Go.Proofs
namespace Go.Proofs
open Go.Pv
open Nm (spl swV okW okB strR words_run wordsR rows_big rows_run swF_len swF_num swF)
theorem EndsD_rq {P : Program} {c : AC} {g m t : Nat} {X : St → Option AV} {r : AV} {fr : Fr} {hp : Hp} (ms : List (List Pv.Mode)) (caps : List AV) (H2 : Hp) (h1 : get fr t = .fn g caps) (h2 : caps.length ≤ m)
  (h3 : aw P c (EndsG [] (.tup []) H2) ⟨caps.zipIdx.map fun p=>(p.2, p.1), hp⟩) (h4 : ∃ p, (X ⟨fr, H2⟩).bind (hand H2 ms) = some p ∧ p.1 = r ∧ liveB p.2.1 p.2.2 = true) : EndsD P c g m t X r .ret ⟨fr, hp⟩:=by
 obtain ⟨⟨y, H1, l⟩, h5, rfl, h6⟩:=h4
 obtain ⟨x, hx, hy⟩:=Option.bind_eq_some_iff.1 h5
 exact ⟨caps, H2, h1, h2, h3, x, hx, ms, H1, l, hy, h6⟩
theorem spl_mem : ∀ (s : List UInt8), ∀ r ∈ spl s, r.length ≤ s.length
 | [], r, hr=>by simp [spl] at hr
 | c :: s, r, hr=>by
  have ih:=spl_mem s
  simp only [spl] at hr
  split at hr
  ·rcases List.mem_cons.1 hr with rfl | hr
   ·simp
   ·have:=ih r hr; simp; omega
  ·cases hs : spl s with
   | nil=>rw [hs] at hr; simp at hr; subst hr; simp
   | cons h t =>
    rw [hs] at hr ih
    rcases List.mem_cons.1 hr with rfl | hr
    ·have:=ih h (by simp); simp; omega
    ·have:=ih r (by simp [hr]); simp; omega
noncomputable def stepX (i : Nat) (r : List UInt8) (acc : List LnF) : Int ⊕ List LnF :=
 if (swV r).all okW = true then
  if swV r = [] then .inr acc
  else if rdE (swV r) = 0 then .inr (acc ++ [rdL (swV r) ((i : Int) + 1)]) else .inl (rdE (swV r))
 else .inl 20
noncomputable def rdX (rows : List (List UInt8)) : Nat → (Int × Int) ⊕ List LnF
 | 0=>.inr []
 | k + 1=>match rdX rows k with
  | .inl x=>.inl x
  | .inr acc=>match stepX k rows[k]! acc with
   | .inl e=>.inl ((k : Int) + 1, e)
   | .inr acc'=>.inr acc'
theorem rdX_s (rows : List (List UInt8)) (k : Nat) (acc : List LnF) (h : rdX rows k = .inr acc) : rdX rows (k + 1) = match stepX k rows[k]! acc with
   | .inl e=>.inl ((k : Int) + 1, e)
   | .inr acc'=>.inr acc':=by
 simp only [rdX,h]
theorem rdX_stay (rows : List (List UInt8)) (k : Nat) (x : Int × Int) (h : rdX rows k = .inl x) : ∀ n, k ≤ n → rdX rows n = .inl x:=by
 intro n hn
 induction n with
 | zero=>rw [show k = 0 by omega] at h; exact h
 | succ n ih =>
  by_cases e : k = n + 1
  ·rw [← e]; exact h
  ·have:=ih (by omega)
   simp only [rdX,this]
theorem rdX_err (rows : List (List UInt8)) (k : Nat) (acc : List LnF) (e : Int) (h : rdX rows k = .inr acc) (hk : k < rows.length) (hs : stepX k rows[k]! acc = .inl e) : rdX rows rows.length = .inl ((k : Int) + 1, e):=by
 refine rdX_stay rows (k + 1) _ ?_ _ hk
 rw [rdX_s rows k acc h, hs]
noncomputable def readX (b : List UInt8) : (Int × Int) ⊕ List LnF:=if 20000 < b.length ∨ 400 < (spl b).length then .inl (0, 3) else rdX (spl b) (spl b).length
def readXA : (Int × Int) ⊕ List LnF → AV
 | .inl (r, e)=>.tup [.sl 0 [] true, .int .i64 r, .int .i64 e]
 | .inr l=>.tup [.own 17 39 (l.map lnV), .int .i64 0, .int .i64 0]
theorem strR_frz (l : List (List UInt8)) : frz (.tup [strR l, .int .i64 0]) = if l = [] then .tup [.sl 0 [] true, .int .i64 0] else .tup [.sl 1 (l.map .str) false, .int .i64 0]:=by
 unfold strR
 by_cases h : l = []
 ·rw [if_pos h, if_pos h]; rfl
 ·rw [if_neg h, if_neg h]; rfl
theorem words_frz (w : List UInt8) (hw : w.length ≤ 40000) : Run Tryz.prog 25 [.str w] (if (swV w).all okW = true then (if swV w = [] then .tup [.sl 0 [] true, .int .i64 0] else .tup [.sl 1 ((swV w).map .str) false, .int .i64 0]) else .tup [.sl 0 [] true, .int .i64 20]):=by
 have q:=run_frz (words_run w hw)
 unfold wordsR at q
 by_cases h : (swV w).all okW = true
 ·rw [if_pos h] at q ⊢
  rwa [strR_frz] at q
 ·rw [if_neg h] at q ⊢
  exact q
theorem slV_pl (l : List Int) : (slV l).pl0 = true:=by unfold slV nilA; split <;> rfl
theorem sl32_pl (l : List Int) : (sl32 l).pl0 = true:=by unfold sl32 nilA; split <;> rfl
theorem slV_nr (l : List Int) : (slV l).nr0 = true:=by unfold slV nilA; split <;> rfl
theorem sl32_nr (l : List Int) : (sl32 l).nr0 = true:=by unfold sl32 nilA; split <;> rfl
theorem ln_pl (x : LnF) : (lnV x).pl = true:=by
 unfold lnV lnA AV.pl
 simp only [List.all_cons,List.all_nil,slV_pl,sl32_pl,Bool.and_true]
 rfl
theorem ln_nr (x : LnF) : (lnV x).nr1 = true:=by
 unfold lnV lnA AV.nr1
 simp only [List.all_cons,List.all_nil,slV_nr,sl32_nr,Bool.and_true]
 rfl
def tH (ls : List LnF) : Hp:=if ls = [] then [some ⟨24, [.sl 0 [] true], true⟩, some ⟨25, [.int .i64 0], true⟩] else [some ⟨24, [.vec 1 17 0 ls.length], true⟩, some ⟨39, ls.map lnV, true⟩, some ⟨25, [.int .i64 0], true⟩]
def tK (ls : List LnF) : Nat:=if ls = [] then 1 else 2
theorem tH_n : tH [] = [some ⟨24, [.sl 0 [] true], true⟩, some ⟨25, [.int .i64 0], true⟩]:=if_pos rfl
theorem tK_n : tK [] = 1:=if_pos rfl
theorem tH_c {ls : List LnF} (h : ls ≠ []) : tH ls = [some ⟨24, [.vec 1 17 0 ls.length], true⟩, some ⟨39, ls.map lnV, true⟩, some ⟨25, [.int .i64 0], true⟩]:=if_neg h
theorem tK_c {ls : List LnF} (h : ls ≠ []) : tK ls = 2:=if_neg h
set_option maxHeartbeats 16000000 in
theorem xread_run (b : List UInt8) (f : Bool) (hb : b.length ≤ 100000) : Run Tryz.prog 8 [.sl 1 (bys b) f] (readXA (readX b)):=by
 refine Tryz.run8 (by simp) ?_
 unfold Tryz.c8a
 simp (disch:=first|omega|(simp only[pvl];omega)) only [↓pvd,pva,pvr,bin2,binB2,un1,setCells,List.map,seval,reduceCtorEq,true_and]
 unfold Tryz.c8b
 simp (disch:=first|omega|(simp only[pvl];omega)) only [↓pvd,pva,pvr,bin2,binB2,un1,setCells,List.map,seval,reduceCtorEq,true_and]
 refine ⟨⟨_, rfl⟩, ?_⟩
 unfold Tryz.c8 readX
 have early : ∀ e : Int, e ≠ 0 → ∀ K, K = readXA (.inl (0, e)) → Run Tryz.prog 24 [.sl 1 (bys b) f] (.tup [.sl 0 [] true, .int .i64 e]) → True:=fun _ _ _ _ _=>trivial
 by_cases h20 : b.length ≤ 20000
 case neg =>
  have q:=run_frz (rows_big b f hb h20)
  simp only [frz,frzA,frzC,List.map] at q
  rw [if_pos (.inl (by omega))]
  unfold readXA
  simp (disch:=first|omega|(simp only[pvl];omega)) only [↓pvd,pva,pvr,bin2,binB2,un1,setCells,List.map,seval,reduceCtorEq,true_and]
  refine awR_call q rfl rfl ?_
  simp (disch:=first|omega|(simp only[pvl];omega)) only [↓pvd,pva,pvr,bin2,binB2,un1,setCells,List.map,seval,reduceCtorEq,true_and]
  refine EndsD_rq [] _ [some ⟨24, [.sl 0 [] true], true⟩, some ⟨25, [.int .i64 3], true⟩] rfl (by simp) ?_ ?_
  ·unfold Tryz.c23
   simp (disch:=first|omega|(simp only[pvl];omega)) only [↓pvd,pva,pvr,bin2,binB2,un1,setCells,List.map,seval,reduceCtorEq,true_and]
   exact ⟨rfl, rfl⟩
  ·simp (disch:=first|omega|(simp only[pvl];omega)) only [↓pvd,pva,pvr,bin2,binB2,un1,setCells,List.map,seval,reduceCtorEq,true_and]
   exact ⟨_,rfl,rfl,rfl⟩
 have q:=run_frz (rows_run b f hb h20)
 by_cases h4 : 400 < (spl b).length
 ·rw [if_pos h4] at q
  simp only [frz,frzA,frzC,List.map] at q
  rw [if_pos (.inr h4)]
  unfold readXA
  simp (disch:=first|omega|(simp only[pvl];omega)) only [↓pvd,pva,pvr,bin2,binB2,un1,setCells,List.map,seval,reduceCtorEq,true_and]
  refine awR_call q rfl rfl ?_
  simp (disch:=first|omega|(simp only[pvl];omega)) only [↓pvd,pva,pvr,bin2,binB2,un1,setCells,List.map,seval,reduceCtorEq,true_and]
  refine EndsD_rq [] _ [some ⟨24, [.sl 0 [] true], true⟩, some ⟨25, [.int .i64 3], true⟩] rfl (by simp) ?_ ?_
  ·unfold Tryz.c23
   simp (disch:=first|omega|(simp only[pvl];omega)) only [↓pvd,pva,pvr,bin2,binB2,un1,setCells,List.map,seval,reduceCtorEq,true_and]
   exact ⟨rfl, rfl⟩
  ·simp (disch:=first|omega|(simp only[pvl];omega)) only [↓pvd,pva,pvr,bin2,binB2,un1,setCells,List.map,seval,reduceCtorEq,true_and]
   exact ⟨_,rfl,rfl,rfl⟩
 rw [if_neg h4] at q
 simp only [frz,frzA,frzC,List.map] at q
 rw [if_neg (by omega)]
 have hsm:=spl_mem b
 generalize spl b = rows at *
 simp (disch:=first|omega|(simp only[pvl];omega)) only [↓pvd,pva,pvr,bin2,binB2,un1,setCells,List.map,seval,reduceCtorEq,true_and]
 refine awR_call q rfl rfl ?_
 simp (disch:=first|omega|(simp only[pvl];omega)) only [↓pvd,pva,pvr,bin2,binB2,un1,setCells,List.map,seval,reduceCtorEq,true_and]
 refine aw_loop (fun a : Nat × List LnF=>⟨[(2, .eptr 0 0 0), (4, .eptr (tK a.2) 0 0), (11, .fn 23 [.eptr (tK a.2) 0 0, .eptr 0 0 0]), (20, .sl 1 (rows.map .str) false), (21, .int .i64 rows.length), (22, .int .i64 a.1)], tH a.2⟩) (fun a=>a.1 ≤ rows.length ∧ a.2.length ≤ a.1 ∧ rdX rows a.1 = .inr a.2) (fun a=>rows.length - a.1) (0, []) ?_ ⟨by simp, by simp, rfl⟩ ?_
 ·simp (disch:=first|omega|(simp only[pvl];omega)) only [↓pvd,pva,pvr,bin2,binB2,un1,setCells,List.map,seval,reduceCtorEq,true_and,List.length_map]
  rfl
 rintro ⟨k, acc⟩ ⟨hk, hal, hrd⟩
 dsimp only at hk hal hrd ⊢
 unfold Tryz.c8b0
 by_cases hx : k < rows.length
 ·have hgi : (rows.map AV.str)[k]? = some (.str rows[k]!):=map_get hx
  have hrl:=hsm _ (get_mem hx)
  have herr:=rdX_err rows k acc
  have hnx:=rdX_s rows k acc hrd
  have q1:=words_frz rows[k]! (by omega)
  have hwl:=swF_len rows[k]! rows[k]!.length (Nat.le_refl _) (rows[k]!.length + 1) 0 0 [] (by simp)
  change ∀ x ∈ swV rows[k]!, _ at hwl
  have hwn:=swF_num rows[k]! (rows[k]!.length + 1) 0 0 []
  change (swV rows[k]!).length ≤ _ at hwn
  simp only [List.length_nil] at hwn
  unfold stepX at herr hnx
  by_cases ho : (swV rows[k]!).all okW = true
  ·rw [if_pos ho] at q1
   simp only [if_pos ho] at herr hnx
   by_cases hn : swV rows[k]! = []
   ·rw [if_pos hn] at q1
    simp only [if_pos hn] at hnx
    by_cases hac : acc = []
    ·subst hac
     rw [tH_n, tK_n]
     simp (disch:=first|omega|(simp only[pvl];omega)) only [↓pvd,pva,pvr,bin2,binB2,un1,setCells,List.map,seval,reduceCtorEq,hgi]
     refine awR_call q1 rfl rfl ?_
     simp (disch:=first|omega|(simp only[pvl];omega)) only [↓pvd,pva,pvr,bin2,binB2,un1,setCells,List.map,seval,reduceCtorEq,true_and]
     refine ⟨(k + 1, []), ?_, ⟨by dsimp only; omega, by simp, hnx⟩, by dsimp only; omega⟩
     dsimp only
     rw [tH_n, tK_n]
     rfl
    ·rw [tH_c hac, tK_c hac]
     simp (disch:=first|omega|(simp only[pvl];omega)) only [↓pvd,pva,pvr,bin2,binB2,un1,setCells,List.map,seval,reduceCtorEq,hgi]
     refine awR_call q1 rfl rfl ?_
     simp (disch:=first|omega|(simp only[pvl];omega)) only [↓pvd,pva,pvr,bin2,binB2,un1,setCells,List.map,seval,reduceCtorEq,ids_map ln_pl,ren_map ln_pl]
     refine ⟨(k + 1, acc), ?_, ⟨by dsimp only; omega, by dsimp only; omega, hnx⟩, by dsimp only; omega⟩
     dsimp only
     rw [tH_c hac, tK_c hac]
     rfl
   ·rw [if_neg hn] at q1
    simp only [if_neg hn] at herr hnx
    have hnl:=List.length_pos_iff.2 hn
    have q2:=sread_run (swV rows[k]!) false ((k : Int) + 1) (by omega) (fun w hw=>by
     have:=List.all_eq_true.1 ho w hw
     unfold okW at this
     simp only [Bool.and_eq_true,decide_eq_true_eq] at this
     omega)
    have hwl1 : ((swV rows[k]!).map AV.str).length = (swV rows[k]!).length:=by simp
    generalize swV rows[k]! = ws at *
    by_cases he : rdE ws = 0
    ·simp only [if_pos he] at hnx
     rw [he, rdT_z] at q2
     obtain ⟨n1, f1, n2, f2, n3, f3, n4, f4, hv, -⟩:=isLn_V (rdL ws ((k : Int) + 1))
     rw [hv] at q2
     generalize rdL ws ((k : Int) + 1) = x at *
     have hm : acc.map lnV ++ [lnV x] = (acc ++ [x]).map lnV:=by simp
     rw [hv] at hm
     have hm0 : [lnV x] = [x].map lnV:=rfl
     rw [hv] at hm0
     have hml : acc.length + 1 = (acc ++ [x]).length:=by simp
     obtain ⟨⟨xr, xk, a1, a2, a3, a4, a5, b1, b2, b3, b4, b5, b6⟩, xt, xi, xe, xa⟩:=x
     simp only at q2 hm hm0
     generalize xt.map (AV.int .i64) = s1 at *
     generalize xi.map (AV.int .i64) = s2 at *
     generalize xe.map (AV.int .i64) = s3 at *
     generalize xa.map (AV.int .u32) = s4 at *
     generalize (⟨⟨xr, xk, a1, a2, a3, a4, a5, b1, b2, b3, b4, b5, b6⟩, xt, xi, xe, xa⟩ : LnF) = x at *
     unfold lnA at q2 hm hm0
     generalize ws.map AV.str = row at *
     by_cases hac : acc = []
     ·subst hac
      rw [tH_n, tK_n]
      simp (disch:=first|omega|(simp only[pvl];omega)) only [↓pvd,pva,pvr,bin2,binB2,un1,setCells,List.map,seval,reduceCtorEq,hgi]
      refine awR_call q1 rfl rfl ?_
      simp (disch:=first|omega|(simp only[pvl];omega)) only [↓pvd,pva,pvr,bin2,binB2,un1,setCells,List.map,seval,reduceCtorEq,hwl1]
      refine awR_call q2 rfl rfl ?_
      simp (disch:=first|omega|(simp only[pvl];omega)) only [↓pvd,pva,pvr,bin2,binB2,un1,setCells,List.map,seval,reduceCtorEq,true_and]
      refine ⟨(k + 1, [x]), ?_, ⟨by dsimp only; omega, by simp, hnx⟩, by dsimp only; omega⟩
      dsimp only
      rw [tH_c (by simp), tK_c (by simp), ← hm0]
      rfl
     ·have hln : (acc.map lnV).length = acc.length:=by simp
      rw [tH_c hac, tK_c hac]
      simp (disch:=first|omega|(simp only[pvl];omega)) only [↓pvd,pva,pvr,bin2,binB2,un1,setCells,List.map,seval,reduceCtorEq,hgi]
      refine awR_call q1 rfl rfl ?_
      simp (disch:=first|omega|(simp only[pvl];omega)) only [↓pvd,pva,pvr,bin2,binB2,un1,setCells,List.map,seval,reduceCtorEq,hwl1]
      refine awR_call q2 rfl rfl ?_
      simp (disch:=first|omega|(simp only[pvl];omega)) only [↓pvd,pva,pvr,bin2,binB2,un1,setCells,List.map,seval,reduceCtorEq,ids_map ln_pl,ren_map ln_pl,hm,hln]
      refine ⟨(k + 1, acc ++ [x]), ?_, ⟨by dsimp only; omega, by simp; omega, hnx⟩, by dsimp only; omega⟩
      dsimp only
      rw [tH_c (by simp), tK_c (by simp), hml]
      rfl
    ·simp only [if_neg he] at herr
     rw [herr _ hrd hx rfl]
     unfold readXA
     rw [rdT_e he] at q2
     unfold lnA lnZ at q2
     generalize rdE ws = e at *
     generalize ws.map AV.str = row at *
     by_cases hac : acc = []
     ·subst hac
      rw [tH_n, tK_n]
      simp (disch:=first|omega|(simp only[pvl];omega)) only [↓pvd,pva,pvr,bin2,binB2,un1,setCells,List.map,seval,reduceCtorEq,hgi]
      refine awR_call q1 rfl rfl ?_
      simp (disch:=first|omega|(simp only[pvl];omega)) only [↓pvd,pva,pvr,bin2,binB2,un1,setCells,List.map,seval,reduceCtorEq,hwl1]
      refine awR_call q2 rfl rfl ?_
      simp (disch:=first|omega|(simp only[pvl];omega)) only [↓pvd,pva,pvr,bin2,binB2,un1,setCells,List.map,seval,reduceCtorEq,he]
      refine EndsD_rq [] _ [some ⟨24, [.sl 0 [] true], true⟩, some ⟨25, [.int .i64 e], true⟩, some ⟨39, [.agg [.int .i64 0, .int .i64 0, .str [], .str [], .str [], .str [], .str [], .int .u64 0, .int .u32 0, .int .i64 0, .int .i64 0, .int .i64 0, .int .i64 0, .sl 0 [] true, .sl 0 [] true, .sl 0 [] true, .sl 0 [] true]], true⟩] rfl (by simp) ?_ ?_
      ·unfold Tryz.c23
       simp (disch:=first|omega|(simp only[pvl];omega)) only [↓pvd,pva,pvr,bin2,binB2,un1,setCells,List.map,seval,reduceCtorEq,he]
       exact ⟨rfl, rfl⟩
      ·simp (disch:=first|omega|(simp only[pvl];omega)) only [↓pvd,pva,pvr,bin2,binB2,un1,setCells,List.map,seval,reduceCtorEq,true_and]
       exact ⟨_,rfl,rfl,rfl⟩
     ·rw [tH_c hac, tK_c hac]
      simp (disch:=first|omega|(simp only[pvl];omega)) only [↓pvd,pva,pvr,bin2,binB2,un1,setCells,List.map,seval,reduceCtorEq,hgi]
      refine awR_call q1 rfl rfl ?_
      simp (disch:=first|omega|(simp only[pvl];omega)) only [↓pvd,pva,pvr,bin2,binB2,un1,setCells,List.map,seval,reduceCtorEq,hwl1]
      refine awR_call q2 rfl rfl ?_
      simp (disch:=first|omega|(simp only[pvl];omega)) only [↓pvd,pva,pvr,bin2,binB2,un1,setCells,List.map,seval,reduceCtorEq,he]
      refine EndsD_rq [] _ [some ⟨24, [.sl 0 [] true], true⟩, some ⟨39, acc.map lnV, true⟩, some ⟨25, [.int .i64 e], true⟩, some ⟨39, [.agg [.int .i64 0, .int .i64 0, .str [], .str [], .str [], .str [], .str [], .int .u64 0, .int .u32 0, .int .i64 0, .int .i64 0, .int .i64 0, .int .i64 0, .sl 0 [] true, .sl 0 [] true, .sl 0 [] true, .sl 0 [] true]], true⟩] rfl (by simp) ?_ ?_
      ·unfold Tryz.c23
       simp (disch:=first|omega|(simp only[pvl];omega)) only [↓pvd,pva,pvr,bin2,binB2,un1,setCells,List.map,seval,reduceCtorEq,he]
       exact ⟨rfl, rfl⟩
      ·simp (disch:=first|omega|(simp only[pvl];omega)) only [↓pvd,pva,pvr,bin2,binB2,un1,setCells,List.map,seval,reduceCtorEq,true_and]
       exact ⟨_,rfl,rfl,rfl⟩
  ·rw [if_neg ho] at q1
   simp only [if_neg ho] at herr
   rw [herr 20 hrd hx rfl]
   unfold readXA
   by_cases hac : acc = []
   ·subst hac
    rw [tH_n, tK_n]
    simp (disch:=first|omega|(simp only[pvl];omega)) only [↓pvd,pva,pvr,bin2,binB2,un1,setCells,List.map,seval,reduceCtorEq,hgi]
    refine awR_call q1 rfl rfl ?_
    simp (disch:=first|omega|(simp only[pvl];omega)) only [↓pvd,pva,pvr,bin2,binB2,un1,setCells,List.map,seval,reduceCtorEq,true_and]
    refine EndsD_rq [] _ [some ⟨24, [.sl 0 [] true], true⟩, some ⟨25, [.int .i64 20], true⟩] rfl (by simp) ?_ ?_
    ·unfold Tryz.c23
     simp (disch:=first|omega|(simp only[pvl];omega)) only [↓pvd,pva,pvr,bin2,binB2,un1,setCells,List.map,seval,reduceCtorEq,true_and]
     exact ⟨rfl, rfl⟩
    ·simp (disch:=first|omega|(simp only[pvl];omega)) only [↓pvd,pva,pvr,bin2,binB2,un1,setCells,List.map,seval,reduceCtorEq,true_and]
     exact ⟨_,rfl,rfl,rfl⟩
   ·rw [tH_c hac, tK_c hac]
    simp (disch:=first|omega|(simp only[pvl];omega)) only [↓pvd,pva,pvr,bin2,binB2,un1,setCells,List.map,seval,reduceCtorEq,hgi]
    refine awR_call q1 rfl rfl ?_
    simp (disch:=first|omega|(simp only[pvl];omega)) only [↓pvd,pva,pvr,bin2,binB2,un1,setCells,List.map,seval,reduceCtorEq,true_and]
    refine EndsD_rq [] _ [some ⟨24, [.sl 0 [] true], true⟩, some ⟨39, acc.map lnV, true⟩, some ⟨25, [.int .i64 20], true⟩] rfl (by simp) ?_ ?_
    ·unfold Tryz.c23
     simp (disch:=first|omega|(simp only[pvl];omega)) only [↓pvd,pva,pvr,bin2,binB2,un1,setCells,List.map,seval,reduceCtorEq,true_and]
     exact ⟨rfl, rfl⟩
    ·simp (disch:=first|omega|(simp only[pvl];omega)) only [↓pvd,pva,pvr,bin2,binB2,un1,setCells,List.map,seval,reduceCtorEq,true_and]
     exact ⟨_,rfl,rfl,rfl⟩
 ·obtain rfl : k = rows.length:=by omega
  rw [hrd]
  unfold readXA
  by_cases hac : acc = []
  ·subst hac
   rw [tH_n, tK_n]
   simp (disch:=first|omega|(simp only[pvl];omega)) only [↓pvd,pva,pvr,bin2,binB2,un1,setCells,List.map,seval,reduceCtorEq,true_and]
   refine EndsD_rq [[.own 17 39], [.snap], [.snap]] _ [some ⟨24, [.sl 0 [] true], true⟩, some ⟨25, [.int .i64 0], true⟩] rfl (by simp) ?_ ?_
   ·unfold Tryz.c23
    simp (disch:=first|omega|(simp only[pvl];omega)) only [↓pvd,pva,pvr,bin2,binB2,un1,setCells,List.map,seval,reduceCtorEq,true_and]
    exact ⟨rfl, rfl⟩
   ·simp (disch:=first|omega|(simp only[pvl];omega)) only [↓pvd,pva,pvr,bin2,binB2,un1,setCells,List.map,seval,reduceCtorEq,true_and]
    exact ⟨_,rfl,rfl,rfl⟩
  ·rw [tH_c hac, tK_c hac]
   simp (disch:=first|omega|(simp only[pvl];omega)) only [↓pvd,pva,pvr,bin2,binB2,un1,setCells,List.map,seval,reduceCtorEq,true_and]
   refine EndsD_rq [[.own 17 39], [.snap], [.snap]] _ [some ⟨24, [.vec 1 17 0 acc.length], true⟩, some ⟨39, acc.map lnV, true⟩, some ⟨25, [.int .i64 0], true⟩] rfl (by simp) ?_ ?_
   ·unfold Tryz.c23
    simp (disch:=first|omega|(simp only[pvl];omega)) only [↓pvd,pva,pvr,bin2,binB2,un1,setCells,List.map,seval,reduceCtorEq,true_and]
    exact ⟨rfl, rfl⟩
   ·simp (disch:=first|omega|(simp only[pvl];omega)) only [↓pvd,pva,pvr,bin2,binB2,un1,setCells,List.map,seval,reduceCtorEq,true_and,mapO_map ln_nr,rows_map ln_nr,List.length_map]
    exact ⟨_,rfl,rfl,rfl⟩
end Go.Proofs
namespace Go.Proofs
open Go.Pv
open Nm (spl swV okW okB swF enO)
def areLn (vs : List AV) (ls : List LnF) : Prop:=vs.length = ls.length ∧ ∀ (i : Nat) (v : AV) (x : LnF), vs[i]? = some v → ls[i]? = some x → isLn v x
theorem areLn_V (ls : List LnF) : areLn (ls.map lnV) ls:=⟨by simp, fun i v x hv hx=>by
 rw [List.getElem?_map, hx] at hv
 cases hv
 exact isLn_V x⟩
instance : Inhabited LnF:=⟨lnfZ⟩
theorem areLn_at {vs : List AV} {ls : List LnF} (h : areLn vs ls) {k : Nat} (hk : k < ls.length) : ∃ v, vs[k]? = some v ∧ isLn v ls[k]!:=by
 refine ⟨vs[k]'(by rw [h.1]; exact hk), List.getElem?_eq_getElem _, ?_⟩
 exact h.2 k _ _ (List.getElem?_eq_getElem (by rw [h.1]; exact hk)) (by rw [List.getElem?_eq_getElem hk, getElem!_pos ls k hk])
theorem rdZ1 : readX [10, 118, 116, 101, 112, 32, 97, 32, 49, 48, 46, 48, 46, 48, 46, 49] = .inr [⟨⟨2, 5, [97], [], [], [], [], 0, 167772161, 0, 0, 0, 0⟩, [], [], [], []⟩]:=by
 have e1 : spl [10, 118, 116, 101, 112, 32, 97, 32, 49, 48, 46, 48, 46, 48, 46, 49] = [[], [118, 116, 101, 112, 32, 97, 32, 49, 48, 46, 48, 46, 48, 46, 49]]:=by decide
 have e2 : swV [118, 116, 101, 112, 32, 97, 32, 49, 48, 46, 48, 46, 48, 46, 49] = [[118, 116, 101, 112], [97], [49, 48, 46, 48, 46, 48, 46, 49]]:=by decide
 have e3 : rdB [49, 48, 46, 48, 46, 48, 46, 49] = (167772161, true):=by decide
 have e4 : rdE [[118, 116, 101, 112], [97], [49, 48, 46, 48, 46, 48, 46, 49]] = 0:=by
  unfold rdE okN
  rw [show kdF ([[118, 116, 101, 112], [97], [49, 48, 46, 48, 46, 48, 46, 49]] : List (List UInt8))[0]! = 5 by decide, show mnF 5 [[118, 116, 101, 112], [97], [49, 48, 46, 48, 46, 48, 46, 49]] = true by decide]
  rw [if_pos (by decide)]
  rw [show erF 5 [[118, 116, 101, 112], [97], [49, 48, 46, 48, 46, 48, 46, 49]] = er5 [[118, 116, 101, 112], [97], [49, 48, 46, 48, 46, 48, 46, 49]] by unfold erF; simp only [Int.reduceEq,if_true,if_false]]
  unfold er5
  rw [eA_z, eN_z]
  refine ⟨⟨rfl, by decide⟩, ?_⟩
  show (rdB [49, 48, 46, 48, 46, 48, 46, 49]).2 = true ∧ (rdB [49, 48, 46, 48, 46, 48, 46, 49]).1 ≠ 0
  rw [e3]
  exact ⟨rfl, by decide⟩
 have e5 : rdL [[118, 116, 101, 112], [97], [49, 48, 46, 48, 46, 48, 46, 49]] 2 = ⟨⟨2, 5, [97], [], [], [], [], 0, 167772161, 0, 0, 0, 0⟩, [], [], [], []⟩:=by
  unfold rdL
  rw [show kdF ([[118, 116, 101, 112], [97], [49, 48, 46, 48, 46, 48, 46, 49]] : List (List UInt8))[0]! = 5 by decide]
  rw [show liF 5 [[118, 116, 101, 112], [97], [49, 48, 46, 48, 46, 48, 46, 49]] 2 = li5 [[118, 116, 101, 112], [97], [49, 48, 46, 48, 46, 48, 46, 49]] 2 by unfold liF; simp only [Int.reduceEq,if_true,if_false]]
  unfold li5
  show (⟨⟨2, 5, [97], [], [], [], [], 0, (rdB [49, 48, 46, 48, 46, 48, 46, 49]).1, 0, 0, 0, 0⟩, [], [], [], []⟩ : LnF) = _
  rw [e3]
 unfold readX
 rw [if_neg (by decide), e1]
 show rdX _ 2 = _
 have s1 : stepX 0 [] [] = .inr []:=by
  unfold stepX
  rw [show swV [] = [] from by decide]
  simp
 have s2 : stepX 1 [118, 116, 101, 112, 32, 97, 32, 49, 48, 46, 48, 46, 48, 46, 49] [] = .inr [⟨⟨2, 5, [97], [], [], [], [], 0, 167772161, 0, 0, 0, 0⟩, [], [], [], []⟩]:=by
  unfold stepX
  rw [e2, if_pos (by decide), if_neg (by decide), if_pos e4]
  rw [show (((1 : Nat) : Int) + 1) = 2 from rfl, e5]
  rfl
 have h0:=rdX_s [[], [118, 116, 101, 112, 32, 97, 32, 49, 48, 46, 48, 46, 48, 46, 49]] 0 [] rfl
 rw [show ([[], [118, 116, 101, 112, 32, 97, 32, 49, 48, 46, 48, 46, 48, 46, 49]] : List (List UInt8))[0]! = [] from rfl, s1] at h0
 have h1:=rdX_s [[], [118, 116, 101, 112, 32, 97, 32, 49, 48, 46, 48, 46, 48, 46, 49]] 1 [] h0
 rw [show ([[], [118, 116, 101, 112, 32, 97, 32, 49, 48, 46, 48, 46, 48, 46, 49]] : List (List UInt8))[1]! = [118, 116, 101, 112, 32, 97, 32, 49, 48, 46, 48, 46, 48, 46, 49] from rfl, s2] at h1
 exact h1
theorem rdZ2 : readX [10, 118, 116, 101, 112, 32, 97] = .inl (2, 22):=by
 have e1 : spl [10, 118, 116, 101, 112, 32, 97] = [[], [118, 116, 101, 112, 32, 97]]:=by decide
 have e2 : swV [118, 116, 101, 112, 32, 97] = [[118, 116, 101, 112], [97]]:=by decide
 have e4 : rdE [[118, 116, 101, 112], [97]] = 22:=by
  unfold rdE okN
  rw [show kdF ([[118, 116, 101, 112], [97]] : List (List UInt8))[0]! = 5 by decide, show mnF 5 [[118, 116, 101, 112], [97]] = false by decide]
  rw [if_neg (by decide)]
 unfold readX
 rw [if_neg (by decide), e1]
 show rdX _ 2 = _
 have s1 : stepX 0 [] [] = .inr []:=by
  unfold stepX
  rw [show swV [] = [] from by decide]
  simp
 have s2 : stepX 1 [118, 116, 101, 112, 32, 97] [] = .inl 22:=by
  unfold stepX
  rw [e2, if_pos (by decide), if_neg (by decide), e4, if_neg (by decide)]
 have h0:=rdX_s [[], [118, 116, 101, 112, 32, 97]] 0 [] rfl
 rw [show ([[], [118, 116, 101, 112, 32, 97]] : List (List UInt8))[0]! = [] from rfl, s1] at h0
 have h1:=rdX_s [[], [118, 116, 101, 112, 32, 97]] 1 [] h0
 rw [show ([[], [118, 116, 101, 112, 32, 97]] : List (List UInt8))[1]! = [118, 116, 101, 112, 32, 97] from rfl, s2] at h1
 exact h1
theorem works12 : Run Tryz.prog 7 [] (.bool true):=by
 have q1:=run_frz (xread_run [10, 118, 116, 101, 112, 32, 97, 32, 49, 48, 46, 48, 46, 48, 46, 49] false (by decide))
 have q2:=run_frz (xread_run [10, 118, 116, 101, 112, 32, 97] false (by decide))
 rw [rdZ1] at q1
 rw [rdZ2] at q2
 simp only [readXA,frz,frzA,frzC,List.map,bys] at q1 q2
 rw [show lnV ⟨⟨2, 5, [97], [], [], [], [], 0, 167772161, 0, 0, 0, 0⟩, [], [], [], []⟩ = lnA ⟨2, 5, [97], [], [], [], [], 0, 167772161, 0, 0, 0, 0⟩ (.sl 0 [] true) (.sl 0 [] true) (.sl 0 [] true) (.sl 0 [] true) from rfl] at q1
 simp only [lnA] at q1
 refine Tryz.run7 (by simp) ⟨?_⟩
 unfold Tryz.c7
 repeat' (first | (simp (disch:=first|omega|(simp only[pvl];omega)) only [↓pvd,pva,pvr,bin2,binB2,un1,setCells,List.map,seval,reduceCtorEq,still]) | (with_reducible first|refine condP_d (fun _=>?_) (fun _=>?_)|refine guardP_d0 (fun _=>?_) (fun _=>?_)|refine guardP_d1 (fun _=>?_) (fun _=>?_)|refine condP_any ?_ ?_) | refine awR_callS (ms:=[]) q1 (by simp (disch:=first|omega|(simp only[pvl];omega)) only [↓pvd,pva,pvr,bin2,binB2,un1,setCells,List.map,seval,reduceCtorEq,still]; rfl) (by simp (disch:=first|omega|(simp only[pvl];omega)) only [↓pvd,pva,pvr,bin2,binB2,un1,setCells,List.map,seval,reduceCtorEq,still]) ?_ | refine awR_callS (ms:=[]) q2 (by simp (disch:=first|omega|(simp only[pvl];omega)) only [↓pvd,pva,pvr,bin2,binB2,un1,setCells,List.map,seval,reduceCtorEq,still]; rfl) (by simp (disch:=first|omega|(simp only[pvl];omega)) only [↓pvd,pva,pvr,bin2,binB2,un1,setCells,List.map,seval,reduceCtorEq,still]) ?_ | (refine Ends_rq [] ?_; simp (disch:=first|omega|(simp only[pvl];omega)) only [↓pvd,pva,pvr,bin2,binB2,un1,setCells,List.map,seval,reduceCtorEq]; exact ⟨_,rfl,rfl,rfl⟩))
end Go.Proofs
namespace Go.Proofs
open Go.Pv
theorem requali_run (l m : List Int) (n n' : Nat) (f f' : Bool) (hn : l = [] ∨ n = 1) (hn' : m = [] ∨ n' = 1) (hl : (l.length : Int) < 9223372036854775807) (hm : (m.length : Int) < 9223372036854775807) :
  Run Tryz.prog 49 [.sl n (l.map (.int .i64)) f, .sl n' (m.map (.int .i64)) f'] (.bool (decide (l = m))):=by
 refine Tryz.run49 (by simp) ?_
 unfold Tryz.c49
 by_cases h : l.length = m.length
 case neg =>
  rw [decide_eq_false (fun e=>h (by rw [e]))]
  simp (disch:=first|omega|(simp only[pvl];omega)) only [↓pvd,pva,pvr,bin2,binB2,un1,setCells,List.map,seval,reduceCtorEq,List.length_map]
  (refine Ends_rq [] ?_; simp (disch:=first|omega|(simp only[pvl];omega)) only [↓pvd,pva,pvr,bin2,binB2,un1,setCells,List.map,seval,reduceCtorEq]; exact ⟨_,rfl,rfl,rfl⟩)
 simp (disch:=first|omega|(simp only[pvl];omega)) only [↓pvd,pva,pvr,bin2,binB2,un1,setCells,List.map,seval,reduceCtorEq,List.length_map]
 refine aw_loop (fun k : Nat=>⟨[(0, .sl n (l.map (.int .i64)) f), (1, .sl n' (m.map (.int .i64)) f'), (5, .int .i64 k)], []⟩) (fun k=>k ≤ l.length ∧ l.take k = m.take k) (fun k=>l.length - k) 0 ?_ ⟨by omega, by simp⟩ ?_
 ·simp (disch:=first|omega|(simp only[pvl];omega)) only [↓pvd,pva,pvr,bin2,binB2,un1,setCells,List.map,seval,reduceCtorEq,List.length_map]
  try rfl
 rintro k ⟨hk, hi⟩
 unfold Tryz.c49b0
 by_cases hx : k < l.length
 ·obtain rfl : n = 1:=hn.resolve_left (by rintro rfl; simp at hx)
  obtain rfl : n' = 1:=hn'.resolve_left (by rintro rfl; rw [List.length_nil] at h; omega)
  have hg1 : (l.map (AV.int .i64))[k]? = some (.int .i64 l[k]!):=map_get hx
  have hg2 : (m.map (AV.int .i64))[k]? = some (.int .i64 m[k]!):=map_get (by omega)
  by_cases e : l[k]! = m[k]!
  ·simp (disch:=first|omega|(simp only[pvl];omega)) only [↓pvd,pva,pvr,bin2,binB2,un1,setCells,List.map,seval,reduceCtorEq,hg1,hg2,List.length_map,e]
   exact ⟨k + 1, rfl, ⟨hx, take_next hi hx (by omega) e⟩, by omega⟩
  ·rw [decide_eq_false (take_ne hx (by omega) e)]
   simp (disch:=first|omega|(simp only[pvl];omega)) only [↓pvd,pva,pvr,bin2,binB2,un1,setCells,List.map,seval,reduceCtorEq,hg1,hg2,List.length_map,e]
   (refine Ends_rq [] ?_; simp (disch:=first|omega|(simp only[pvl];omega)) only [↓pvd,pva,pvr,bin2,binB2,un1,setCells,List.map,seval,reduceCtorEq]; exact ⟨_,rfl,rfl,rfl⟩)
 ·rw [decide_eq_true (take_full hi (by omega) (by omega))]
  simp (disch:=first|omega|(simp only[pvl];omega)) only [↓pvd,pva,pvr,bin2,binB2,un1,setCells,List.map,seval,reduceCtorEq,List.length_map]
  (refine Ends_rq [] ?_; simp (disch:=first|omega|(simp only[pvl];omega)) only [↓pvd,pva,pvr,bin2,binB2,un1,setCells,List.map,seval,reduceCtorEq]; exact ⟨_,rfl,rfl,rfl⟩)
theorem requalu_run (l m : List Int) (n n' : Nat) (f f' : Bool) (hn : l = [] ∨ n = 1) (hn' : m = [] ∨ n' = 1) (hl : (l.length : Int) < 9223372036854775807) (hm : (m.length : Int) < 9223372036854775807) :
  Run Tryz.prog 50 [.sl n (l.map (.int .u32)) f, .sl n' (m.map (.int .u32)) f'] (.bool (decide (l = m))):=by
 refine Tryz.run50 (by simp) ?_
 unfold Tryz.c50
 by_cases h : l.length = m.length
 case neg =>
  rw [decide_eq_false (fun e=>h (by rw [e]))]
  simp (disch:=first|omega|(simp only[pvl];omega)) only [↓pvd,pva,pvr,bin2,binB2,un1,setCells,List.map,seval,reduceCtorEq,List.length_map]
  (refine Ends_rq [] ?_; simp (disch:=first|omega|(simp only[pvl];omega)) only [↓pvd,pva,pvr,bin2,binB2,un1,setCells,List.map,seval,reduceCtorEq]; exact ⟨_,rfl,rfl,rfl⟩)
 simp (disch:=first|omega|(simp only[pvl];omega)) only [↓pvd,pva,pvr,bin2,binB2,un1,setCells,List.map,seval,reduceCtorEq,List.length_map]
 refine aw_loop (fun k : Nat=>⟨[(0, .sl n (l.map (.int .u32)) f), (1, .sl n' (m.map (.int .u32)) f'), (5, .int .i64 k)], []⟩) (fun k=>k ≤ l.length ∧ l.take k = m.take k) (fun k=>l.length - k) 0 ?_ ⟨by omega, by simp⟩ ?_
 ·simp (disch:=first|omega|(simp only[pvl];omega)) only [↓pvd,pva,pvr,bin2,binB2,un1,setCells,List.map,seval,reduceCtorEq,List.length_map]
  try rfl
 rintro k ⟨hk, hi⟩
 unfold Tryz.c50b0
 by_cases hx : k < l.length
 ·obtain rfl : n = 1:=hn.resolve_left (by rintro rfl; simp at hx)
  obtain rfl : n' = 1:=hn'.resolve_left (by rintro rfl; rw [List.length_nil] at h; omega)
  have hg1 : (l.map (AV.int .u32))[k]? = some (.int .u32 l[k]!):=map_get hx
  have hg2 : (m.map (AV.int .u32))[k]? = some (.int .u32 m[k]!):=map_get (by omega)
  by_cases e : l[k]! = m[k]!
  ·simp (disch:=first|omega|(simp only[pvl];omega)) only [↓pvd,pva,pvr,bin2,binB2,un1,setCells,List.map,seval,reduceCtorEq,hg1,hg2,List.length_map,e]
   exact ⟨k + 1, rfl, ⟨hx, take_next hi hx (by omega) e⟩, by omega⟩
  ·rw [decide_eq_false (take_ne hx (by omega) e)]
   simp (disch:=first|omega|(simp only[pvl];omega)) only [↓pvd,pva,pvr,bin2,binB2,un1,setCells,List.map,seval,reduceCtorEq,hg1,hg2,List.length_map,e]
   (refine Ends_rq [] ?_; simp (disch:=first|omega|(simp only[pvl];omega)) only [↓pvd,pva,pvr,bin2,binB2,un1,setCells,List.map,seval,reduceCtorEq]; exact ⟨_,rfl,rfl,rfl⟩)
 ·rw [decide_eq_true (take_full hi (by omega) (by omega))]
  simp (disch:=first|omega|(simp only[pvl];omega)) only [↓pvd,pva,pvr,bin2,binB2,un1,setCells,List.map,seval,reduceCtorEq,List.length_map]
  (refine Ends_rq [] ?_; simp (disch:=first|omega|(simp only[pvl];omega)) only [↓pvd,pva,pvr,bin2,binB2,un1,setCells,List.map,seval,reduceCtorEq]; exact ⟨_,rfl,rfl,rfl⟩)
set_option maxHeartbeats 16000000 in
theorem rsame_run {v v' : AV} {x y : LnF} (hv : isLn v x) (hv' : isLn v' y) (hx : lnS x) (hy : lnS y) : Run Tryz.prog 15 [v, v'] (.bool (decide (x = y))):=by
 obtain ⟨n1, f1, n2, f2, n3, f3, n4, f4, rfl, c1, c2, c3, c4⟩:=hv
 obtain ⟨m1, g1, m2, g2, m3, g3, m4, g4, rfl, d1, d2, d3, d4⟩:=hv'
 have q1:=requali_run x.t y.t n1 m1 f1 g1 c1 d1 hx.1 hy.1
 have q2:=requali_run x.im y.im n2 m2 f2 g2 c2 d2 hx.2.1 hy.2.1
 have q3:=requali_run x.ex y.ex n3 m3 f3 g3 c3 d3 hx.2.2.1 hy.2.2.1
 have q4:=requalu_run x.ad y.ad n4 m4 f4 g4 c4 d4 hx.2.2.2 hy.2.2.2
 obtain ⟨⟨r, k, a1, a2, a3, a4, a5, b1, b2, b3, b4, b5, b6⟩, t, im, ex, ad⟩:=x
 obtain ⟨⟨r', k', a1', a2', a3', a4', a5', b1', b2', b3', b4', b5', b6'⟩, t', im', ex', ad'⟩:=y
 simp only at q1 q2 q3 q4
 simp only [LnF.mk.injEq,Ln.mk.injEq]
 clear c1 c2 c3 c4 d1 d2 d3 d4 hx hy
 obtain ⟨B, hB⟩ : ∃ B, decide ((r = r' ∧ k = k' ∧ a1 = a1' ∧ a2 = a2' ∧ a3 = a3' ∧ a4 = a4' ∧ a5 = a5' ∧ b1 = b1' ∧ b2 = b2' ∧ b3 = b3' ∧ b4 = b4' ∧ b5 = b5' ∧ b6 = b6') ∧ t = t' ∧ im = im' ∧ ex = ex' ∧ ad = ad') = B:=⟨_, rfl⟩
 rw [show decide _ = B from hB]
 refine Tryz.run15 (by simp) ?_
 unfold Tryz.c15 lnA
 generalize t.map (AV.int .i64) = s1 at *
 generalize im.map (AV.int .i64) = s2 at *
 generalize ex.map (AV.int .i64) = s3 at *
 generalize ad.map (AV.int .u32) = s4 at *
 generalize t'.map (AV.int .i64) = s1' at *
 generalize im'.map (AV.int .i64) = s2' at *
 generalize ex'.map (AV.int .i64) = s3' at *
 generalize ad'.map (AV.int .u32) = s4' at *
 simp (disch:=first|omega|(simp only[pvl];omega)) only [↓pvd,pva,pvr,bin2,binB2,un1,setCells,List.map,seval,reduceCtorEq,true_and]
 by_cases e0 : r = r'
 case neg =>
  obtain rfl : B = false:=by rw [← hB]; exact decide_eq_false (fun h=>e0 h.1.1)
  have z : decide (r = r') = false:=decide_eq_false e0
  simp (disch:=first|omega|(simp only[pvl];omega)) only [↓pvd,pva,pvr,bin2,binB2,un1,setCells,List.map,seval,reduceCtorEq,z]
  (refine Ends_rq [] ?_; simp (disch:=first|omega|(simp only[pvl];omega)) only [↓pvd,pva,pvr,bin2,binB2,un1,setCells,List.map,seval,reduceCtorEq]; exact ⟨_,rfl,rfl,rfl⟩)
 subst e0
 simp (disch:=first|omega|(simp only[pvl];omega)) only [↓pvd,pva,pvr,bin2,binB2,un1,setCells,List.map,seval,reduceCtorEq,true_and]
 by_cases e1 : k = k'
 case neg =>
  obtain rfl : B = false:=by rw [← hB]; exact decide_eq_false (fun h=>e1 h.1.2.1)
  have z : decide (k = k') = false:=decide_eq_false e1
  simp (disch:=first|omega|(simp only[pvl];omega)) only [↓pvd,pva,pvr,bin2,binB2,un1,setCells,List.map,seval,reduceCtorEq,z]
  (refine Ends_rq [] ?_; simp (disch:=first|omega|(simp only[pvl];omega)) only [↓pvd,pva,pvr,bin2,binB2,un1,setCells,List.map,seval,reduceCtorEq]; exact ⟨_,rfl,rfl,rfl⟩)
 subst e1
 simp (disch:=first|omega|(simp only[pvl];omega)) only [↓pvd,pva,pvr,bin2,binB2,un1,setCells,List.map,seval,reduceCtorEq,true_and]
 by_cases e2 : a1 = a1'
 case neg =>
  obtain rfl : B = false:=by rw [← hB]; exact decide_eq_false (fun h=>e2 h.1.2.2.1)
  have z : decide (a1 = a1') = false:=decide_eq_false e2
  simp (disch:=first|omega|(simp only[pvl];omega)) only [↓pvd,pva,pvr,bin2,binB2,un1,setCells,List.map,seval,reduceCtorEq,z]
  (refine Ends_rq [] ?_; simp (disch:=first|omega|(simp only[pvl];omega)) only [↓pvd,pva,pvr,bin2,binB2,un1,setCells,List.map,seval,reduceCtorEq]; exact ⟨_,rfl,rfl,rfl⟩)
 subst e2
 simp (disch:=first|omega|(simp only[pvl];omega)) only [↓pvd,pva,pvr,bin2,binB2,un1,setCells,List.map,seval,reduceCtorEq,true_and]
 by_cases e3 : a2 = a2'
 case neg =>
  obtain rfl : B = false:=by rw [← hB]; exact decide_eq_false (fun h=>e3 h.1.2.2.2.1)
  have z : decide (a2 = a2') = false:=decide_eq_false e3
  simp (disch:=first|omega|(simp only[pvl];omega)) only [↓pvd,pva,pvr,bin2,binB2,un1,setCells,List.map,seval,reduceCtorEq,z]
  (refine Ends_rq [] ?_; simp (disch:=first|omega|(simp only[pvl];omega)) only [↓pvd,pva,pvr,bin2,binB2,un1,setCells,List.map,seval,reduceCtorEq]; exact ⟨_,rfl,rfl,rfl⟩)
 subst e3
 simp (disch:=first|omega|(simp only[pvl];omega)) only [↓pvd,pva,pvr,bin2,binB2,un1,setCells,List.map,seval,reduceCtorEq,true_and]
 by_cases e4 : a3 = a3'
 case neg =>
  obtain rfl : B = false:=by rw [← hB]; exact decide_eq_false (fun h=>e4 h.1.2.2.2.2.1)
  have z : decide (a3 = a3') = false:=decide_eq_false e4
  simp (disch:=first|omega|(simp only[pvl];omega)) only [↓pvd,pva,pvr,bin2,binB2,un1,setCells,List.map,seval,reduceCtorEq,z]
  (refine Ends_rq [] ?_; simp (disch:=first|omega|(simp only[pvl];omega)) only [↓pvd,pva,pvr,bin2,binB2,un1,setCells,List.map,seval,reduceCtorEq]; exact ⟨_,rfl,rfl,rfl⟩)
 subst e4
 simp (disch:=first|omega|(simp only[pvl];omega)) only [↓pvd,pva,pvr,bin2,binB2,un1,setCells,List.map,seval,reduceCtorEq,true_and]
 by_cases e5 : a4 = a4'
 case neg =>
  obtain rfl : B = false:=by rw [← hB]; exact decide_eq_false (fun h=>e5 h.1.2.2.2.2.2.1)
  have z : decide (a4 = a4') = false:=decide_eq_false e5
  simp (disch:=first|omega|(simp only[pvl];omega)) only [↓pvd,pva,pvr,bin2,binB2,un1,setCells,List.map,seval,reduceCtorEq,z]
  (refine Ends_rq [] ?_; simp (disch:=first|omega|(simp only[pvl];omega)) only [↓pvd,pva,pvr,bin2,binB2,un1,setCells,List.map,seval,reduceCtorEq]; exact ⟨_,rfl,rfl,rfl⟩)
 subst e5
 simp (disch:=first|omega|(simp only[pvl];omega)) only [↓pvd,pva,pvr,bin2,binB2,un1,setCells,List.map,seval,reduceCtorEq,true_and]
 by_cases e6 : a5 = a5'
 case neg =>
  obtain rfl : B = false:=by rw [← hB]; exact decide_eq_false (fun h=>e6 h.1.2.2.2.2.2.2.1)
  have z : decide (a5 = a5') = false:=decide_eq_false e6
  simp (disch:=first|omega|(simp only[pvl];omega)) only [↓pvd,pva,pvr,bin2,binB2,un1,setCells,List.map,seval,reduceCtorEq,z]
  (refine Ends_rq [] ?_; simp (disch:=first|omega|(simp only[pvl];omega)) only [↓pvd,pva,pvr,bin2,binB2,un1,setCells,List.map,seval,reduceCtorEq]; exact ⟨_,rfl,rfl,rfl⟩)
 subst e6
 simp (disch:=first|omega|(simp only[pvl];omega)) only [↓pvd,pva,pvr,bin2,binB2,un1,setCells,List.map,seval,reduceCtorEq,true_and]
 by_cases e7 : b1 = b1'
 case neg =>
  obtain rfl : B = false:=by rw [← hB]; exact decide_eq_false (fun h=>e7 h.1.2.2.2.2.2.2.2.1)
  have z : decide (b1 = b1') = false:=decide_eq_false e7
  simp (disch:=first|omega|(simp only[pvl];omega)) only [↓pvd,pva,pvr,bin2,binB2,un1,setCells,List.map,seval,reduceCtorEq,z]
  (refine Ends_rq [] ?_; simp (disch:=first|omega|(simp only[pvl];omega)) only [↓pvd,pva,pvr,bin2,binB2,un1,setCells,List.map,seval,reduceCtorEq]; exact ⟨_,rfl,rfl,rfl⟩)
 subst e7
 simp (disch:=first|omega|(simp only[pvl];omega)) only [↓pvd,pva,pvr,bin2,binB2,un1,setCells,List.map,seval,reduceCtorEq,true_and]
 by_cases e8 : b2 = b2'
 case neg =>
  obtain rfl : B = false:=by rw [← hB]; exact decide_eq_false (fun h=>e8 h.1.2.2.2.2.2.2.2.2.1)
  have z : decide (b2 = b2') = false:=decide_eq_false e8
  simp (disch:=first|omega|(simp only[pvl];omega)) only [↓pvd,pva,pvr,bin2,binB2,un1,setCells,List.map,seval,reduceCtorEq,z]
  (refine Ends_rq [] ?_; simp (disch:=first|omega|(simp only[pvl];omega)) only [↓pvd,pva,pvr,bin2,binB2,un1,setCells,List.map,seval,reduceCtorEq]; exact ⟨_,rfl,rfl,rfl⟩)
 subst e8
 simp (disch:=first|omega|(simp only[pvl];omega)) only [↓pvd,pva,pvr,bin2,binB2,un1,setCells,List.map,seval,reduceCtorEq,true_and]
 by_cases e9 : b3 = b3'
 case neg =>
  obtain rfl : B = false:=by rw [← hB]; exact decide_eq_false (fun h=>e9 h.1.2.2.2.2.2.2.2.2.2.1)
  have z : decide (b3 = b3') = false:=decide_eq_false e9
  simp (disch:=first|omega|(simp only[pvl];omega)) only [↓pvd,pva,pvr,bin2,binB2,un1,setCells,List.map,seval,reduceCtorEq,z]
  (refine Ends_rq [] ?_; simp (disch:=first|omega|(simp only[pvl];omega)) only [↓pvd,pva,pvr,bin2,binB2,un1,setCells,List.map,seval,reduceCtorEq]; exact ⟨_,rfl,rfl,rfl⟩)
 subst e9
 simp (disch:=first|omega|(simp only[pvl];omega)) only [↓pvd,pva,pvr,bin2,binB2,un1,setCells,List.map,seval,reduceCtorEq,true_and]
 by_cases e10 : b4 = b4'
 case neg =>
  obtain rfl : B = false:=by rw [← hB]; exact decide_eq_false (fun h=>e10 h.1.2.2.2.2.2.2.2.2.2.2.1)
  have z : decide (b4 = b4') = false:=decide_eq_false e10
  simp (disch:=first|omega|(simp only[pvl];omega)) only [↓pvd,pva,pvr,bin2,binB2,un1,setCells,List.map,seval,reduceCtorEq,z]
  (refine Ends_rq [] ?_; simp (disch:=first|omega|(simp only[pvl];omega)) only [↓pvd,pva,pvr,bin2,binB2,un1,setCells,List.map,seval,reduceCtorEq]; exact ⟨_,rfl,rfl,rfl⟩)
 subst e10
 simp (disch:=first|omega|(simp only[pvl];omega)) only [↓pvd,pva,pvr,bin2,binB2,un1,setCells,List.map,seval,reduceCtorEq,true_and]
 by_cases e11 : b5 = b5'
 case neg =>
  obtain rfl : B = false:=by rw [← hB]; exact decide_eq_false (fun h=>e11 h.1.2.2.2.2.2.2.2.2.2.2.2.1)
  have z : decide (b5 = b5') = false:=decide_eq_false e11
  simp (disch:=first|omega|(simp only[pvl];omega)) only [↓pvd,pva,pvr,bin2,binB2,un1,setCells,List.map,seval,reduceCtorEq,z]
  (refine Ends_rq [] ?_; simp (disch:=first|omega|(simp only[pvl];omega)) only [↓pvd,pva,pvr,bin2,binB2,un1,setCells,List.map,seval,reduceCtorEq]; exact ⟨_,rfl,rfl,rfl⟩)
 subst e11
 simp (disch:=first|omega|(simp only[pvl];omega)) only [↓pvd,pva,pvr,bin2,binB2,un1,setCells,List.map,seval,reduceCtorEq,true_and]
 by_cases e12 : b6 = b6'
 case neg =>
  obtain rfl : B = false:=by rw [← hB]; exact decide_eq_false (fun h=>e12 h.1.2.2.2.2.2.2.2.2.2.2.2.2)
  have z : decide (b6 = b6') = false:=decide_eq_false e12
  simp (disch:=first|omega|(simp only[pvl];omega)) only [↓pvd,pva,pvr,bin2,binB2,un1,setCells,List.map,seval,reduceCtorEq,z]
  (refine Ends_rq [] ?_; simp (disch:=first|omega|(simp only[pvl];omega)) only [↓pvd,pva,pvr,bin2,binB2,un1,setCells,List.map,seval,reduceCtorEq]; exact ⟨_,rfl,rfl,rfl⟩)
 subst e12
 simp (disch:=first|omega|(simp only[pvl];omega)) only [↓pvd,pva,pvr,bin2,binB2,un1,setCells,List.map,seval,reduceCtorEq,true_and]
 refine awR_call q1 rfl rfl ?_
 by_cases e13 : t = t'
 case neg =>
  obtain rfl : B = false:=by rw [← hB]; exact decide_eq_false (fun h=>e13 h.2.1)
  have z : decide (t = t') = false:=decide_eq_false e13
  simp (disch:=first|omega|(simp only[pvl];omega)) only [↓pvd,pva,pvr,bin2,binB2,un1,setCells,List.map,seval,reduceCtorEq,z]
  (refine Ends_rq [] ?_; simp (disch:=first|omega|(simp only[pvl];omega)) only [↓pvd,pva,pvr,bin2,binB2,un1,setCells,List.map,seval,reduceCtorEq]; exact ⟨_,rfl,rfl,rfl⟩)
 have z13 : decide (t = t') = true:=decide_eq_true e13
 simp (disch:=first|omega|(simp only[pvl];omega)) only [↓pvd,pva,pvr,bin2,binB2,un1,setCells,List.map,seval,reduceCtorEq,z13]
 refine awR_call q2 rfl rfl ?_
 by_cases e14 : im = im'
 case neg =>
  obtain rfl : B = false:=by rw [← hB]; exact decide_eq_false (fun h=>e14 h.2.2.1)
  have z : decide (im = im') = false:=decide_eq_false e14
  simp (disch:=first|omega|(simp only[pvl];omega)) only [↓pvd,pva,pvr,bin2,binB2,un1,setCells,List.map,seval,reduceCtorEq,z]
  (refine Ends_rq [] ?_; simp (disch:=first|omega|(simp only[pvl];omega)) only [↓pvd,pva,pvr,bin2,binB2,un1,setCells,List.map,seval,reduceCtorEq]; exact ⟨_,rfl,rfl,rfl⟩)
 have z14 : decide (im = im') = true:=decide_eq_true e14
 simp (disch:=first|omega|(simp only[pvl];omega)) only [↓pvd,pva,pvr,bin2,binB2,un1,setCells,List.map,seval,reduceCtorEq,z14]
 refine awR_call q3 rfl rfl ?_
 by_cases e15 : ex = ex'
 case neg =>
  obtain rfl : B = false:=by rw [← hB]; exact decide_eq_false (fun h=>e15 h.2.2.2.1)
  have z : decide (ex = ex') = false:=decide_eq_false e15
  simp (disch:=first|omega|(simp only[pvl];omega)) only [↓pvd,pva,pvr,bin2,binB2,un1,setCells,List.map,seval,reduceCtorEq,z]
  (refine Ends_rq [] ?_; simp (disch:=first|omega|(simp only[pvl];omega)) only [↓pvd,pva,pvr,bin2,binB2,un1,setCells,List.map,seval,reduceCtorEq]; exact ⟨_,rfl,rfl,rfl⟩)
 have z15 : decide (ex = ex') = true:=decide_eq_true e15
 simp (disch:=first|omega|(simp only[pvl];omega)) only [↓pvd,pva,pvr,bin2,binB2,un1,setCells,List.map,seval,reduceCtorEq,z15]
 refine awR_call q4 rfl rfl ?_
 by_cases e16 : ad = ad'
 case neg =>
  obtain rfl : B = false:=by rw [← hB]; exact decide_eq_false (fun h=>e16 h.2.2.2.2)
  have z : decide (ad = ad') = false:=decide_eq_false e16
  simp (disch:=first|omega|(simp only[pvl];omega)) only [↓pvd,pva,pvr,bin2,binB2,un1,setCells,List.map,seval,reduceCtorEq,z]
  (refine Ends_rq [] ?_; simp (disch:=first|omega|(simp only[pvl];omega)) only [↓pvd,pva,pvr,bin2,binB2,un1,setCells,List.map,seval,reduceCtorEq]; exact ⟨_,rfl,rfl,rfl⟩)
 have z16 : decide (ad = ad') = true:=decide_eq_true e16
 simp (disch:=first|omega|(simp only[pvl];omega)) only [↓pvd,pva,pvr,bin2,binB2,un1,setCells,List.map,seval,reduceCtorEq,z16]
 obtain rfl : B = true:=by rw [← hB]; exact decide_eq_true ⟨⟨rfl, rfl, rfl, rfl, rfl, rfl, rfl, rfl, rfl, rfl, rfl, rfl, rfl⟩, e13, e14, e15, e16⟩
 (refine Ends_rq [] ?_; simp (disch:=first|omega|(simp only[pvl];omega)) only [↓pvd,pva,pvr,bin2,binB2,un1,setCells,List.map,seval,reduceCtorEq]; exact ⟨_,rfl,rfl,rfl⟩)
end Go.Proofs
namespace Go.Proofs
open Go.Pv
set_option maxHeartbeats 8000000 in
theorem exact_run {vs ws : List AV} {a b : List LnF} (n n' : Nat) (f f' : Bool) (hn : a = [] ∨ n = 17) (hn' : b = [] ∨ n' = 17) (hv : areLn vs a) (hw : areLn ws b) (ha : ∀ x ∈ a, lnS x) (hb : ∀ x ∈ b, lnS x) (hla : (a.length : Int) < 9223372036854775807) (hlb : (b.length : Int) < 9223372036854775807) :
  Run Tryz.prog 10 [.sl n vs f, .sl n' ws f'] (.bool (decide (a = b))):=by
 refine Tryz.run10 (by simp) ?_
 unfold Tryz.c10
 have hvl:=hv.1
 have hwl:=hw.1
 by_cases h : a.length = b.length
 case neg =>
  rw [decide_eq_false (fun e=>h (by rw [e]))]
  have : ¬ (vs.length : Int) = ws.length:=by omega
  simp (disch:=first|omega|(simp only[pvl];omega)) only [↓pvd,pva,pvr,bin2,binB2,un1,setCells,List.map,seval,reduceCtorEq,this]
  (refine Ends_rq [] ?_; simp (disch:=first|omega|(simp only[pvl];omega)) only [↓pvd,pva,pvr,bin2,binB2,un1,setCells,List.map,seval,reduceCtorEq]; exact ⟨_,rfl,rfl,rfl⟩)
 have h' : (vs.length : Int) = ws.length:=by omega
 simp (disch:=first|omega|(simp only[pvl];omega)) only [↓pvd,pva,pvr,bin2,binB2,un1,setCells,List.map,seval,reduceCtorEq,h',hwl,hvl]
 refine aw_loop (fun k : Nat=>⟨[(0, .sl n vs f), (1, .sl n' ws f'), (5, .int .i64 k)], []⟩) (fun k=>k ≤ a.length ∧ a.take k = b.take k) (fun k=>a.length - k) 0 ?_ ⟨by omega, by simp⟩ ?_
 ·simp (disch:=first|omega|(simp only[pvl];omega)) only [↓pvd,pva,pvr,bin2,binB2,un1,setCells,List.map,seval,reduceCtorEq,h',hwl,hvl]
  try rfl
 rintro k ⟨hk, hi⟩
 unfold Tryz.c10b0
 by_cases hx : k < a.length
 ·obtain rfl : n = 17:=hn.resolve_left (by rintro rfl; simp at hx)
  obtain rfl : n' = 17:=hn'.resolve_left (by rintro rfl; simp at h; rw [h] at hx; simp at hx)
  obtain ⟨v, hg1, i1⟩:=areLn_at hv hx
  obtain ⟨w, hg2, i2⟩:=areLn_at hw (show k < b.length by omega)
  have hx2 : k < b.length:=by omega
  have hxa:=ha a[k]! (get_mem hx)
  have hxb:=hb b[k]! (get_mem hx2)
  have hne:=fun e=>take_ne (l:=a) (m:=b) hx hx2 e
  have hnx:=fun e=>take_next (l:=a) (m:=b) hi hx hx2 e
  generalize a[k]! = x at *
  generalize b[k]! = y at *
  obtain ⟨n1, f1, n2, f2, n3, f3, n4, f4, rfl, c1, c2, c3, c4⟩:=i1
  obtain ⟨m1, g1, m2, g2, m3, g3, m4, g4, rfl, d1, d2, d3, d4⟩:=i2
  have q:=rsame_run (x:=x) (y:=y) ⟨n1, f1, n2, f2, n3, f3, n4, f4, rfl, c1, c2, c3, c4⟩ ⟨m1, g1, m2, g2, m3, g3, m4, g4, rfl, d1, d2, d3, d4⟩ hxa hxb
  clear c1 c2 c3 c4 d1 d2 d3 d4 hxa hxb
  generalize hE : decide (x = y) = E at *
  obtain ⟨⟨r, kd, a1, a2, a3, a4, a5, b1, b2, b3, b4, b5, b6⟩, t, im, ex, ad⟩:=x
  obtain ⟨⟨r', kd', a1', a2', a3', a4', a5', b1', b2', b3', b4', b5', b6'⟩, t', im', ex', ad'⟩:=y
  simp only at q hg1 hg2
  generalize t.map (AV.int .i64) = s1 at *
  generalize im.map (AV.int .i64) = s2 at *
  generalize ex.map (AV.int .i64) = s3 at *
  generalize ad.map (AV.int .u32) = s4 at *
  generalize t'.map (AV.int .i64) = s1' at *
  generalize im'.map (AV.int .i64) = s2' at *
  generalize ex'.map (AV.int .i64) = s3' at *
  generalize ad'.map (AV.int .u32) = s4' at *
  unfold lnA at q hg1 hg2
  simp (disch:=first|omega|(simp only[pvl];omega)) only [↓pvd,pva,pvr,bin2,binB2,un1,setCells,List.map,seval,reduceCtorEq,hg1,hg2,hwl,hvl]
  refine awR_callD q rfl rfl (fun _=>rfl) ?_
  cases E with
  | false =>
   rw [decide_eq_false (hne (by simpa using hE))]
   simp (disch:=first|omega|(simp only[pvl];omega)) only [↓pvd,pva,pvr,bin2,binB2,un1,setCells,List.map,seval,reduceCtorEq,true_and]
   (refine Ends_rq [] ?_; simp (disch:=first|omega|(simp only[pvl];omega)) only [↓pvd,pva,pvr,bin2,binB2,un1,setCells,List.map,seval,reduceCtorEq]; exact ⟨_,rfl,rfl,rfl⟩)
  | true =>
   simp (disch:=first|omega|(simp only[pvl];omega)) only [↓pvd,pva,pvr,bin2,binB2,un1,setCells,List.map,seval,reduceCtorEq,true_and]
   exact ⟨k + 1, rfl, ⟨hx, hnx (by simpa using hE)⟩, by omega⟩
 ·rw [decide_eq_true (take_full hi (by omega) (by omega))]
  have hkb : ¬ (k : Int) < a.length:=by omega
  simp (disch:=first|omega|(simp only[pvl];omega)) only [↓pvd,pva,pvr,bin2,binB2,un1,setCells,List.map,seval,reduceCtorEq,hkb,hvl]
  (refine Ends_rq [] ?_; simp (disch:=first|omega|(simp only[pvl];omega)) only [↓pvd,pva,pvr,bin2,binB2,un1,setCells,List.map,seval,reduceCtorEq]; exact ⟨_,rfl,rfl,rfl⟩)
end Go.Proofs
