/- The proofs of what the functions of this seat do. -/
import Derived.Test.YtppdpcfmkmnfjaaGreatDoorPr9
set_option linter.unusedSimpArgs false
set_option linter.unusedVariables false
set_option maxHeartbeats 2000000
set_option maxRecDepth 20000
namespace Go.Proofs
open Go.Pv
open Nm (spl swV okW okB swF enO)
def areLn (vs : List AV) (ls : List LnF) : Prop:=vs.length = ls.length ∧ ∀ (i : Nat) (v : AV) (x : LnF), vs[i]? = some v → ls[i]? = some x → isLn v x
theorem areLn_V (ls : List LnF) : areLn (ls.map lnV) ls:=⟨by simp, fun i v x hv hx=>by
 rw [List.getElem?_map, hx] at hv
 cases hv
 exact isLn_V x⟩
instance : Inhabited LnF:=⟨lnfZ⟩
theorem areLn_at {vs : List AV} {ls : List LnF} (h : areLn vs ls) {k : Nat} (hk : k < ls.length) : ∃ v, vs[k]? = some v ∧ isLn v ls[k]!:=by
 refine ⟨vs[k]'(by rw [h.1]; exact hk), List.getElem?_eq_getElem _, ?_⟩
 exact h.2 k _ _ (List.getElem?_eq_getElem (by rw [h.1]; exact hk)) (by rw [List.getElem?_eq_getElem hk, getElem!_pos ls k hk])
def nr (x : LnF) : LnF:={ x with l:={ x.l with row:=0 } }
def withRow (x : LnF) (r : Int) : LnF:={ x with l:={ x.l with row:=r } }
theorem withRow_nr (x y : LnF) : withRow x y.l.row = y ↔ nr x = nr y:=by
 obtain ⟨⟨r, k, a1, a2, a3, a4, a5, b1, b2, b3, b4, b5, b6⟩, t, im, ex, ad⟩:=x
 obtain ⟨⟨r', k', a1', a2', a3', a4', a5', b1', b2', b3', b4', b5', b6'⟩, t', im', ex', ad'⟩:=y
 simp [withRow, nr]
theorem map_next {α β : Type} [Inhabited α] [Inhabited β] {f : α → β} {l m : List α} {k : Nat} (h : (l.take k).map f = (m.take k).map f) (hl : k < l.length) (hm : k < m.length) (e : f l[k]! = f m[k]!) : (l.take (k + 1)).map f = (m.take (k + 1)).map f:=by
 rw [take_snoc hl, take_snoc hm, List.map_append, List.map_append, h, List.map_singleton, List.map_singleton, e]
theorem map_ne {α β : Type} [Inhabited α] {f : α → β} {l m : List α} {k : Nat} (hl : k < l.length) (hm : k < m.length) (e : f l[k]! ≠ f m[k]!) : l.map f ≠ m.map f:=fun h=>e (by
 have:=congrArg (fun x=>x[k]?) h
 simp only [List.getElem?_map,List.getElem?_eq_getElem hl,List.getElem?_eq_getElem hm,Option.map_some,Option.some.injEq] at this
 rw [getElem!_pos l k hl, getElem!_pos m k hm]
 exact this)
theorem map_full {α β : Type} {f : α → β} {l m : List α} {k : Nat} (h : (l.take k).map f = (m.take k).map f) (hl : l.length ≤ k) (hm : m.length ≤ k) : l.map f = m.map f:=by
 rwa [List.take_of_length_le hl, List.take_of_length_le hm] at h
set_option maxHeartbeats 8000000 in
theorem tsame_run {vs ws : List AV} {a b : List LnF} (n n' : Nat) (f f' : Bool) (hn : a = [] ∨ n = 17) (hn' : b = [] ∨ n' = 17) (hv : areLn vs a) (hw : areLn ws b) (ha : ∀ x ∈ a, lnS x) (hb : ∀ x ∈ b, lnS x) (hla : (a.length : Int) < 9223372036854775807) (hlb : (b.length : Int) < 9223372036854775807) :
  Run Tryz.prog 22 [.sl n vs f, .sl n' ws f'] (.bool (decide (a.map nr = b.map nr))):=by
 refine Tryz.run22 (by simp) ?_
 unfold Tryz.c22
 have hvl:=hv.1
 have hwl:=hw.1
 by_cases h : a.length = b.length
 case neg =>
  rw [decide_eq_false (fun e=>h (by have:=congrArg List.length e; simpa using this))]
  have : ¬ (vs.length : Int) = ws.length:=by omega
  simp (disch:=first|omega|(simp only[pvl];omega)) only [↓pvd,pva,pvr,bin2,binB2,un1,setCells,List.map,seval,reduceCtorEq,this]
  (refine Ends_rq [] ?_; simp (disch:=first|omega|(simp only[pvl];omega)) only [↓pvd,pva,pvr,bin2,binB2,un1,setCells,List.map,seval,reduceCtorEq]; exact ⟨_,rfl,rfl,rfl⟩)
 have h' : (vs.length : Int) = ws.length:=by omega
 simp (disch:=first|omega|(simp only[pvl];omega)) only [↓pvd,pva,pvr,bin2,binB2,un1,setCells,List.map,seval,reduceCtorEq,h',hwl,hvl]
 refine aw_loop (fun k : Nat=>⟨[(1, .sl n' ws f'), (12, .sl n vs f), (13, .int .i64 b.length), (14, .int .i64 k)], []⟩) (fun k=>k ≤ a.length ∧ (a.take k).map nr = (b.take k).map nr) (fun k=>a.length - k) 0 ?_ ⟨by omega, by simp⟩ ?_
 ·simp (disch:=first|omega|(simp only[pvl];omega)) only [↓pvd,pva,pvr,bin2,binB2,un1,setCells,List.map,seval,reduceCtorEq,h',hwl,hvl]
  try rw [h]
 rintro k ⟨hk, hi⟩
 unfold Tryz.c22b0
 by_cases hx : k < a.length
 ·obtain rfl : n = 17:=hn.resolve_left (by rintro rfl; simp at hx)
  obtain rfl : n' = 17:=hn'.resolve_left (by rintro rfl; simp at h; rw [h] at hx; simp at hx)
  obtain ⟨v, hg1, i1⟩:=areLn_at hv hx
  obtain ⟨w, hg2, i2⟩:=areLn_at hw (show k < b.length by omega)
  have hx2 : k < b.length:=by omega
  have hxa:=ha a[k]! (get_mem hx)
  have hxb:=hb b[k]! (get_mem hx2)
  have hne:=map_ne (f:=nr) hx hx2
  have hnx:=map_next (f:=nr) hi hx hx2
  rw [← withRow_nr] at hnx
  rw [ne_eq, ← withRow_nr] at hne
  generalize a[k]! = x at *
  generalize b[k]! = y at *
  obtain ⟨n1, f1, n2, f2, n3, f3, n4, f4, rfl, c1, c2, c3, c4⟩:=i1
  obtain ⟨m1, g1, m2, g2, m3, g3, m4, g4, rfl, d1, d2, d3, d4⟩:=i2
  have q:=ssame_run (x:=withRow x y.l.row) (y:=y) ⟨n1, f1, n2, f2, n3, f3, n4, f4, rfl, c1, c2, c3, c4⟩ ⟨m1, g1, m2, g2, m3, g3, m4, g4, rfl, d1, d2, d3, d4⟩ hxa hxb
  clear c1 c2 c3 c4 d1 d2 d3 d4 hxa hxb
  generalize hE : decide (withRow x y.l.row = y) = E at *
  unfold withRow at q
  simp only at q
  obtain ⟨⟨r, kd, a1, a2, a3, a4, a5, b1, b2, b3, b4, b5, b6⟩, t, im, ex, ad⟩:=x
  obtain ⟨⟨r', kd', a1', a2', a3', a4', a5', b1', b2', b3', b4', b5', b6'⟩, t', im', ex', ad'⟩:=y
  simp only at q hg1 hg2
  generalize t.map (AV.int .i64) = s1 at *
  generalize im.map (AV.int .i64) = s2 at *
  generalize ex.map (AV.int .i64) = s3 at *
  generalize ad.map (AV.int .u32) = s4 at *
  generalize t'.map (AV.int .i64) = s1' at *
  generalize im'.map (AV.int .i64) = s2' at *
  generalize ex'.map (AV.int .i64) = s3' at *
  generalize ad'.map (AV.int .u32) = s4' at *
  unfold lnA at q hg1 hg2
  simp (disch:=first|omega|(simp only[pvl];omega)) only [↓pvd,pva,pvr,bin2,binB2,un1,setCells,List.map,seval,reduceCtorEq,hg1,hg2,hwl,hvl]
  refine awR_callD q rfl rfl (fun _=>rfl) ?_
  cases E with
  | false =>
   rw [decide_eq_false (hne (by simpa using hE))]
   simp (disch:=first|omega|(simp only[pvl];omega)) only [↓pvd,pva,pvr,bin2,binB2,un1,setCells,List.map,seval,reduceCtorEq,true_and]
   (refine Ends_rq [] ?_; simp (disch:=first|omega|(simp only[pvl];omega)) only [↓pvd,pva,pvr,bin2,binB2,un1,setCells,List.map,seval,reduceCtorEq]; exact ⟨_,rfl,rfl,rfl⟩)
  | true =>
   simp (disch:=first|omega|(simp only[pvl];omega)) only [↓pvd,pva,pvr,bin2,binB2,un1,setCells,List.map,seval,reduceCtorEq,true_and]
   exact ⟨k + 1, rfl, ⟨hx, hnx (by simpa using hE)⟩, by omega⟩
 ·rw [decide_eq_true (map_full hi (by omega) (by omega))]
  have hkb : ¬ (k : Int) < b.length:=by omega
  simp (disch:=first|omega|(simp only[pvl];omega)) only [↓pvd,pva,pvr,bin2,binB2,un1,setCells,List.map,seval,reduceCtorEq,hkb]
  (refine Ends_rq [] ?_; simp (disch:=first|omega|(simp only[pvl];omega)) only [↓pvd,pva,pvr,bin2,binB2,un1,setCells,List.map,seval,reduceCtorEq]; exact ⟨_,rfl,rfl,rfl⟩)
end Go.Proofs
namespace Go.Proofs
open Go.Pv
open Nm (spl swV okW okB swF enO wsF finF swV_ws)
noncomputable def rdR : Nat → List (List UInt8) → (Int × Int) ⊕ List LnF
 | _, []=>.inr []
 | i, r :: rs=>if (swV r).all okW = true then
   if swV r = [] then rdR (i + 1) rs
   else if rdE (swV r) = 0 then match rdR (i + 1) rs with
    | .inl x=>.inl x
    | .inr l=>.inr (rdL (swV r) ((i : Int) + 1) :: l)
   else .inl ((i : Int) + 1, rdE (swV r))
  else .inl ((i : Int) + 1, 20)
theorem rdX_go (rows : List (List UInt8)) : ∀ (n k : Nat) (acc : List LnF), rows.length - k = n → k ≤ rows.length → rdX rows k = .inr acc → rdX rows rows.length = match rdR k (rows.drop k) with | .inl x=>.inl x | .inr l=>.inr (acc ++ l):=by
 intro n
 induction n with
 | zero =>
  intro k acc hn hk h
  obtain rfl : k = rows.length:=by omega
  rw [List.drop_length, h]
  simp [rdR]
 | succ n ih =>
  intro k acc hn hk h
  have hx : k < rows.length:=by omega
  have hd : rows.drop k = rows[k]! :: rows.drop (k + 1):=by rw [getElem!_pos rows k hx]; exact List.drop_eq_getElem_cons hx
  have hs:=rdX_s rows k acc h
  have hr:=rdX_err rows k acc
  rw [hd, rdR]
  unfold stepX at hs hr
  by_cases ho : (swV rows[k]!).all okW = true
  ·simp only [if_pos ho] at hs hr ⊢
   by_cases hn0 : swV rows[k]! = []
   ·simp only [if_pos hn0] at hs ⊢
    exact ih (k + 1) acc (by omega) (by omega) hs
   ·simp only [if_neg hn0] at hs hr ⊢
    by_cases he : rdE (swV rows[k]!) = 0
    ·simp only [if_pos he] at hs ⊢
     rw [ih (k + 1) _ (by omega) (by omega) hs]
     cases rdR (k + 1) (rows.drop (k + 1)) with
     | inl x=>rfl
     | inr l=>simp
    ·simp only [if_neg he] at hr ⊢
     exact hr _ h hx rfl
  ·simp only [if_neg ho] at hr ⊢
   exact hr 20 h hx rfl
theorem rdX_R (rows : List (List UInt8)) : rdX rows rows.length = rdR 0 rows:=by
 rw [rdX_go rows rows.length 0 [] (by omega) (by omega) rfl, List.drop_zero]
 cases rdR 0 rows <;> simp
theorem readX_R (b : List UInt8) : readX b = if 20000 < b.length ∨ 400 < (spl b).length then .inl (0, 3) else rdR 0 (spl b):=by
 unfold readX
 rw [rdX_R]
theorem rdL_row (ws : List (List UInt8)) (r o : Int) (h : rdE ws = 0) : withRow (rdL ws r) o = rdL ws o:=by
 unfold rdL liF
 repeat' split
 all_goals rfl
def boundX (i n : Nat) : (Int × Int) ⊕ List LnF → Prop
 | .inl (r, _)=>(i : Int) < r ∧ r ≤ i + n
 | .inr l=>l.length ≤ n ∧ ∀ x ∈ l, (i : Int) < x.l.row ∧ x.l.row ≤ i + n
theorem rdR_bound : ∀ (i : Nat) (rs : List (List UInt8)), boundX i rs.length (rdR i rs)
 | i, []=>⟨by simp, by simp⟩
 | i, r :: rs=>by
  have ih:=rdR_bound (i + 1) rs
  rw [rdR]
  rw [List.length_cons]
  by_cases ho : (swV r).all okW = true
  ·simp only [if_pos ho]
   by_cases hn : swV r = []
   ·simp only [if_pos hn]
    cases hr : rdR (i + 1) rs with
    | inl x=>rw [hr] at ih; simp only [boundX] at ih ⊢; omega
    | inr l =>
     rw [hr] at ih
     simp only [boundX] at ih ⊢
     exact ⟨by omega, fun x hx=>by have:=ih.2 x hx; omega⟩
   ·simp only [if_neg hn]
    by_cases he : rdE (swV r) = 0
    ·simp only [if_pos he]
     cases hr : rdR (i + 1) rs with
     | inl x=>rw [hr] at ih; simp only [boundX] at ih ⊢; omega
     | inr l =>
      rw [hr] at ih
      simp only [boundX] at ih ⊢
      refine ⟨by simp; omega, fun x hx=>?_⟩
      rcases List.mem_cons.1 hx with rfl | hx
      ·rw [rd_row he]; omega
      ·have:=ih.2 x hx; omega
    ·simp only [if_neg he,boundX]; omega
  ·simp only [if_neg ho,boundX]; omega
def goodX : (Int × Int) ⊕ List LnF → Prop
 | .inl (_, e)=>e ≠ 0
 | .inr l=>∀ x ∈ l, lnB x ∧ ∃ ws r, rdE ws = 0 ∧ ws.all okW = true ∧ x = rdL ws r
theorem rdR_good : ∀ (i : Nat) (rs : List (List UInt8)), goodX (rdR i rs)
 | i, []=>by simp [rdR, goodX]
 | i, r :: rs=>by
  have ih:=rdR_good (i + 1) rs
  rw [rdR]
  by_cases ho : (swV r).all okW = true
  ·simp only [if_pos ho]
   by_cases hn : swV r = []
   ·simp only [if_pos hn]
    exact ih
   ·simp only [if_neg hn]
    by_cases he : rdE (swV r) = 0
    ·simp only [if_pos he]
     cases hr : rdR (i + 1) rs with
     | inl x=>rw [hr] at ih; exact ih
     | inr l =>
      rw [hr] at ih
      simp only [goodX] at ih ⊢
      intro x hx
      rcases List.mem_cons.1 hx with rfl | hx
      ·exact ⟨rd_B he, _, _, he, ho, rfl⟩
      ·exact ih x hx
    ·simp only [if_neg he,goodX]; exact he
  ·simp only [if_neg ho,goodX]; decide
theorem wsF_rem (rem : List UInt8) : ∀ (r cur : List UInt8) (out : List (List UInt8)), wsF cur out (r ++ 32 :: 35 :: rem) = wsF cur out r
 | [], cur, out=>by
  rw [show wsF cur out [] = finF cur out from rfl, List.nil_append, wsF, if_neg (by decide), if_pos (by decide), wsF, if_pos rfl]
  simp [finF]
 | c :: r, cur, out=>by
  rw [List.cons_append, wsF, wsF, wsF_rem rem r, wsF_rem rem r]
theorem swV_rem (r rem : List UInt8) : swV (r ++ 32 :: 35 :: rem) = swV r:=by rw [swV_ws, swV_ws, wsF_rem]
def blk (m : Nat) : List UInt8:=(List.replicate m [32, 9, 35, 10]).flatten
end Go.Proofs
namespace Go.Proofs
open Go.Pv
open Nm (spl swV okW okB swF enO wsF finF swV_ws back_words okW_all spl_ends ends no10 ljoin_run)
set_option maxHeartbeats 4000000 in
theorem wordsR_run {v : AV} {x : LnF} (hv : isLn v x) (hB : lnB x) (hr : rtO x = true) : Run Tryz.prog 117 [v] (.own 1 9 ((wdF x).map .str)):=by
 have q0:=right_runS hv hB
 rw [hr] at q0
 obtain ⟨r1, r2, r3, r4⟩:=rt_range hr
 obtain ⟨l1, l2, l3⟩:=rt_lists hr
 obtain ⟨hs, hb, hd⟩:=hB
 have q1:=txl_run x.l.vlan (by omega) (by omega)
 have q2:=txl_run x.l.num (by omega) (by omega)
 have q6:=txl_run x.l.cost (by omega) (by omega)
 obtain ⟨n1, f1, n2, f2, n3, f3, n4, f4, rfl, c1, c2, c3, c4⟩:=hv
 have qt:=plist_run x.t n1 f1 c1 (by omega) (fun n hn=>by have:=l1 n hn; omega)
 have qi:=plist_run x.im n2 f2 c2 (by omega) (fun n hn=>by have:=l2 n hn; omega)
 have qe:=plist_run x.ex n3 f3 c3 (by omega) (fun n hn=>by have:=l3 n hn; omega)
 have hk : x.l.kind = 1 ∨ x.l.kind = 2 ∨ x.l.kind = 3 ∨ x.l.kind = 4 ∨ x.l.kind = 5 ∨ x.l.kind = 6 ∨ x.l.kind = 7 ∨ x.l.kind = 8 ∨ x.l.kind = 9:=by omega
 rcases hk with hk | hk | hk | hk | hk | hk | hk | hk | hk
 ·have e : wdF x = wd1 x:=by unfold wdF; rw [hk]; rfl
  rw [e]
  have q3:=Mc.text_run x.l.mac (by omega) (by omega)
  unfold wd1
  obtain ⟨⟨r, k, a1, a2, a3, a4, a5, b1, b2, b3, b4, b5, b6⟩, t, im, ex, ad⟩:=x
  simp only at hk q0 q1 q2 q6 qt qi qe c1 q3
  obtain rfl:=hk
  exact pwords1 r a1 a2 a3 a4 a5 b1 b2 b3 b4 b5 b6 n1 n2 n3 n4 _ _ _ _ f1 f2 f3 f4 _ _ q0 q1 q2 _ q3
 ·have e : wdF x = wd2 x:=by unfold wdF; rw [hk]; rfl
  rw [e]
  unfold wd2
  obtain ⟨⟨r, k, a1, a2, a3, a4, a5, b1, b2, b3, b4, b5, b6⟩, t, im, ex, ad⟩:=x
  simp only at hk q0 q1 q2 q6 qt qi qe c1
  obtain rfl:=hk
  have q3:=pport_run r a1 a2 a3 a4 a5 b1 b2 b3 b4 b5 b6 n1 n2 n3 n4 (t.map (.int .i64)) (im.map (.int .i64)) (ex.map (.int .i64)) (ad.map (.int .u32)) f1 f2 f3 f4 2 _ [] [] _ _ _ rfl q1 q6 qt
  have hl : (t.map (AV.int .i64)).length = t.length:=by simp
  rw [hl] at q3
  by_cases ht : t = []
  ·subst ht
   simp only [List.length_nil,if_true] at q3
   rw [if_pos rfl]
   exact pwords2 r a1 a2 a3 a4 a5 b1 b2 b3 b4 b5 b6 n1 n2 n3 n4 _ _ _ _ f1 f2 f3 f4 _ _ _ q0 q1 q2 q3
  ·have ht' : ¬ t.length = 0:=fun h=>ht (List.eq_nil_of_length_eq_zero h)
   rw [if_neg ht'] at q3
   rw [if_neg ht]
   exact pwords2 r a1 a2 a3 a4 a5 b1 b2 b3 b4 b5 b6 n1 n2 n3 n4 _ _ _ _ f1 f2 f3 f4 _ _ _ q0 q1 q2 q3
 ·have e : wdF x = wd3 x:=by unfold wdF; rw [hk]; rfl
  rw [e]
  unfold wd3
  obtain ⟨⟨r, k, a1, a2, a3, a4, a5, b1, b2, b3, b4, b5, b6⟩, t, im, ex, ad⟩:=x
  simp only at hk q0 q1 q2 q6 qt qi qe c1
  obtain rfl:=hk
  exact pwords3 r a1 a2 a3 a4 a5 b1 b2 b3 b4 b5 b6 n1 n2 n3 n4 _ _ _ _ f1 f2 f3 f4 _ _ q0 q1 q2
 ·have e : wdF x = wd4 x:=by unfold wdF; rw [hk]; rfl
  rw [e]
  have q3:=Mc.text_run x.l.mac (by omega) (by omega)
  unfold wd4
  obtain ⟨⟨r, k, a1, a2, a3, a4, a5, b1, b2, b3, b4, b5, b6⟩, t, im, ex, ad⟩:=x
  simp only at hk q0 q1 q2 q6 qt qi qe c1 q3
  obtain rfl:=hk
  exact pwords4 r a1 a2 a3 a4 a5 b1 b2 b3 b4 b5 b6 n1 n2 n3 n4 _ _ _ _ f1 f2 f3 f4 _ _ q0 q1 q2 _ q3
 ·have e : wdF x = wd5 x:=by unfold wdF; rw [hk]; rfl
  rw [e]
  have q3:=text_run x.l.addr (by omega)
  unfold wd5
  obtain ⟨⟨r, k, a1, a2, a3, a4, a5, b1, b2, b3, b4, b5, b6⟩, t, im, ex, ad⟩:=x
  simp only at hk q0 q1 q2 q6 qt qi qe c1 q3
  obtain rfl:=hk
  exact pwords5 r a1 a2 a3 a4 a5 b1 b2 b3 b4 b5 b6 n1 n2 n3 n4 _ _ _ _ f1 f2 f3 f4 _ _ q0 q1 q2 _ q3
 ·have e : wdF x = wd6 x:=by unfold wdF; rw [hk]; rfl
  rw [e]
  unfold wd6
  obtain ⟨⟨r, k, a1, a2, a3, a4, a5, b1, b2, b3, b4, b5, b6⟩, t, im, ex, ad⟩:=x
  simp only at hk q0 q1 q2 q6 qt qi qe c1
  obtain rfl:=hk
  exact pwords6 r a1 a2 a3 a4 a5 b1 b2 b3 b4 b5 b6 n1 n2 n3 n4 _ _ _ _ f1 f2 f3 f4 _ _ q0 q1 q2
 ·have e : wdF x = wd7 x:=by unfold wdF; rw [hk]; rfl
  rw [e]
  have had : x.ad ≠ []:=fun h=>by
   unfold rtO okF at hr
   rw [hk] at hr
   simp only [Int.reduceEq,if_false,if_true,ok7,h] at hr
   simp [adO, rsF] at hr
  obtain rfl : n4 = 1:=c4.resolve_left had
  have q3:=wul_run x.ad f4 (by omega) hd
  unfold wd7
  obtain ⟨⟨r, k, a1, a2, a3, a4, a5, b1, b2, b3, b4, b5, b6⟩, t, im, ex, ad⟩:=x
  simp only at hk q0 q1 q2 q6 qt qi qe c1 q3
  obtain rfl:=hk
  exact pwords7 r a1 a2 a3 a4 a5 b1 b2 b3 b4 b5 b6 n1 n2 n3 1 _ _ _ _ f1 f2 f3 f4 _ _ q0 q1 q2 _ q3
 ·have e : wdF x = wd8 x:=by unfold wdF; rw [hk]; rfl
  rw [e]
  unfold wd8
  have q3:=qi
  have q4:=qe
  obtain ⟨⟨r, k, a1, a2, a3, a4, a5, b1, b2, b3, b4, b5, b6⟩, t, im, ex, ad⟩:=x
  simp only at hk q0 q1 q2 q6 qt qi qe c1 q3 q4
  obtain rfl:=hk
  exact pwords8 r a1 a2 a3 a4 a5 b1 b2 b3 b4 b5 b6 n1 n2 n3 n4 _ _ _ _ f1 f2 f3 f4 _ _ q0 q1 q2 _ _ q3 q4
 ·have e : wdF x = wd9 x:=by unfold wdF; rw [hk]; rfl
  rw [e]
  have q3:=ptx_run x.l.addr x.l.bits (by omega)
  unfold wd9
  obtain ⟨⟨r, k, a1, a2, a3, a4, a5, b1, b2, b3, b4, b5, b6⟩, t, im, ex, ad⟩:=x
  simp only at hk q0 q1 q2 q6 qt qi qe c1 q3
  obtain rfl:=hk
  exact pwords9 r a1 a2 a3 a4 a5 b1 b2 b3 b4 b5 b6 n1 n2 n3 n4 _ _ _ _ f1 f2 f3 f4 _ _ q0 q1 q2 _ q3
theorem lns_ln (l : List LnF) : (l.map lnV).length = l.length:=by simp
theorem wdF_ne (x : LnF) : wdF x ≠ []:=by
 unfold wdF wd1 wd2 wd3 wd4 wd5 wd6 wd7 wd8 wd9
 repeat' split
 all_goals simp
theorem wdF_len (x : LnF) : (wdF x).length ≤ 7:=by
 unfold wdF wd1 wd2 wd3 wd4 wd5 wd6 wd7 wd8 wd9
 repeat' split
 all_goals simp
def jnL (x : LnF) : List UInt8:=Lib.join (wdF x) [32]
theorem pline_run {v : AV} {x : LnF} (hv : isLn v x) (hB : lnB x) (hr : rtO x = true) (hj : (jnL x).length ≤ 100000) : Run Tryz.prog 86 [v] (.tup [.str (jnL x), .int .i64 0]):=by
 have q1:=wordsR_run hv hB hr
 have hl:=wdF_len x
 have hp:=List.length_pos_iff.2 (wdF_ne x)
 have q2:=ljoin_run (wdF x) false (by omega) (by unfold jnL at hj; omega)
 obtain ⟨n1, f1, n2, f2, n3, f3, n4, f4, rfl, -⟩:=hv
 refine Tryz.run86 (by simp) ?_
 unfold Tryz.c86
 unfold jnL
 unfold lnA at q1 ⊢
 have hwl : ((wdF x).map AV.str).length = (wdF x).length:=by simp
 generalize Lib.join (wdF x) [32] = J at *
 simp (disch:=first|omega|(simp only[pvl];omega)) only [↓pvd,pva,pvr,bin2,binB2,un1,setCells,List.map,seval,reduceCtorEq,true_and]
 refine awR_call q1 rfl rfl ?_
 simp (disch:=first|omega|(simp only[pvl];omega)) only [↓pvd,pva,pvr,bin2,binB2,un1,setCells,List.map,seval,reduceCtorEq,hwl]
 refine awR_callR (ms:=[]) q2 (by simp (disch:=first|omega|(simp only[pvl];omega)) only [↓pvd,pva,pvr,bin2,binB2,un1,setCells,List.map,seval,reduceCtorEq,mapO_map str_nr,rows_map str_nr,hwl]; rfl) (by simp (disch:=first|omega|(simp only[pvl];omega)) only [↓pvd,pva,pvr,bin2,binB2,un1,setCells,List.map,seval,reduceCtorEq,mapO_map str_nr,rows_map str_nr,hwl]) rfl ?_
 simp (disch:=first|omega|(simp only[pvl];omega)) only [↓pvd,pva,pvr,bin2,binB2,un1,setCells,List.map,seval,reduceCtorEq,true_and]
 (refine Ends_rq [] ?_; simp (disch:=first|omega|(simp only[pvl];omega)) only [↓pvd,pva,pvr,bin2,binB2,un1,setCells,List.map,seval,reduceCtorEq]; exact ⟨_,rfl,rfl,rfl⟩)
end Go.Proofs
namespace Go.Proofs
open Go.Pv
end Go.Proofs
namespace Go.Proofs
open Go.Pv
end Go.Proofs
namespace Go.Proofs
open Go.Pv
end Go.Proofs
namespace Go.Proofs
open Go.Pv
end Go.Proofs
namespace Go.Proofs
open Go.Pv
open Nm (spl swV okW okB swF enO wsF finF swV_ws)
theorem xq_err {b : List UInt8} {f : Bool} {r e : Int} (hb : b.length ≤ 100000) (h : readX b = .inl (r, e)) : Run Tryz.prog 8 [.sl 1 (bys b) f] (.tup [.sl 0 [] true, .int .i64 r, .int .i64 e]):=by
 have:=run_frz (xread_run b f hb)
 rw [h] at this
 exact this
theorem xq_ok {b : List UInt8} {f : Bool} {l : List LnF} (hb : b.length ≤ 100000) (h : readX b = .inr l) : Run Tryz.prog 8 [.sl 1 (bys b) f] (.tup [.sl 17 (l.map lnV) false, .int .i64 0, .int .i64 0]):=by
 have:=run_frz (xread_run b f hb)
 rw [h] at this
 exact this
theorem readX_big {b : List UInt8} (h : 20000 < b.length ∨ 400 < (spl b).length) : readX b = .inl (0, 3):=by rw [readX_R, if_pos h]
theorem readX_small {b : List UInt8} (h : ¬ (20000 < b.length ∨ 400 < (spl b).length)) : readX b = rdR 0 (spl b):=by rw [readX_R, if_neg h]
theorem bnd_len {i n : Nat} {x : (Int × Int) ⊕ List LnF} {l : List LnF} (h : boundX i n x) (e : x = .inr l) : l.length ≤ n:=by subst e; exact h.1
end Go.Proofs
namespace Go.Proofs
open Go.Pv
open Nm (spl swV okW okB swF enO wsF finF swV_ws back_words okW_all spl_ends ends no10)
theorem swV_join {ws : List (List UInt8)} (h : ws.all okW = true) : swV (Lib.join ws [32]) = ws:=by
 have h1:=back_words ws [] (List.all_eq_true.1 h)
 rw [show 9 :: Lib.join ws [32] ++ 32 :: 35 :: [] = (9 :: Lib.join ws [32]) ++ 32 :: 35 :: [] from rfl, swV_rem, swV_ws, wsF, if_neg (by decide), if_pos (by decide)] at h1
 rw [swV_ws]
 exact h1
def sumW (ws : List (List UInt8)) : Nat:=(ws.map fun w=>w.length + 1).sum
theorem join_len (ws : List (List UInt8)) (h : ws ≠ []) : (Lib.join ws [32]).length + 1 = sumW ws:=by
 cases ws with
 | nil=>exact absurd rfl h
 | cons x r =>
  have ht : ∀ r : List (List UInt8), (Lib.joinTail [32] r).length = sumW r:=by
   intro r
   induction r with
   | nil=>rfl
   | cons y r ih =>
    rw [show Lib.joinTail [32] (y :: r) = 32 :: (y ++ Lib.joinTail [32] r) by simp [Lib.joinTail]]
    simp only [List.length_cons,List.length_append,ih,sumW,List.map_cons,List.sum_cons]
    omega
  rw [Lib.join_cons, List.length_append, ht]
  simp only [sumW,List.map_cons,List.sum_cons]
  omega
def wasR (x : LnF) : Prop:=∃ ws r, rdE ws = 0 ∧ ws.all okW = true ∧ x = rdL ws r
theorem wasR_B {x : LnF} (h : wasR x) : lnB x ∧ rtO x = true:=by
 obtain ⟨ws, r, he, hw, rfl⟩:=h
 refine ⟨rd_B he, ?_⟩
 have:=rd_right (r:=r) he (rdL ws r).l.row
 exact this
theorem good_R {l : List LnF} {x : (Int × Int) ⊕ List LnF} (h : goodX x) (e : x = .inr l) : ∀ y ∈ l, wasR y:=by
 subst e
 intro y hy
 obtain ⟨-, ws, r, h1, h2, h3⟩:=h y hy
 exact ⟨ws, r, h1, h2, h3⟩
theorem wasR_can {x : LnF} (h : wasR x) : rdE (wdF x) = 0 ∧ (∀ o, nr (rdL (wdF x) o) = nr x) ∧ (∀ o, wdF (rdL (wdF x) o) = wdF x) ∧ (wdF x).all okW = true:=by
 obtain ⟨ws, r, he, hw, rfl⟩:=h
 obtain ⟨cw, c1, c2, c3, c4, -, -⟩:=can he hw
 rw [c1 r]
 refine ⟨c2, fun o=>?_, fun o=>?_, c4⟩
 ·rw [c3, ← rdL_row ws r o he]
  rfl
 ·rw [c3, c1]
end Go.Proofs
namespace Go.Proofs
open Go.Pv
open Nm (spl swV okW rjoin_run)
theorem okW_len {w : List UInt8} (h : okW w = true) : w.length ≤ 300:=by
 unfold okW at h
 simp only [Bool.and_eq_true,decide_eq_true_eq] at h
 omega
theorem lnB_lnS {x : LnF} (h : lnB x) : lnS x:=by
 have:=h.1
 exact ⟨by omega, by omega, by omega, by omega⟩
end Go.Proofs
namespace Go.Proofs
open Go.Pv
def rowV (v : AV) (r : Int) : AV:=match v with
 | .agg (_ :: cs)=>.agg (.int .i64 r :: cs)
 | v=>v
end Go.Proofs
namespace Go.Proofs
open Go.Pv
open Nm (spl swV okW okB strR words_run wordsR rows_big rows_run swF_len swF_num swF rwords_run rrows_run rrows_big)
end Go.Proofs
namespace Go.Proofs
open Go.Pv
open Nm (spl)
end Go.Proofs
namespace Go.Proofs
open Go.Pv
open Nm (spl swV okW)
theorem sumW_le {m : Nat} : ∀ ws : List (List UInt8), (∀ w ∈ ws, w.length ≤ m) → sumW ws ≤ (m + 1) * ws.length
 | [], _=>by simp [sumW]
 | w :: ws, h=>by
  have ih:=sumW_le ws (fun x hx=>h x (List.mem_cons_of_mem _ hx))
  have h0:=h w (by simp)
  unfold sumW at *
  simp only [List.map_cons,List.sum_cons,List.length_cons,Nat.mul_add]
  omega
theorem jn_len {x : LnF} (h : wasR x) : (jnL x).length ≤ 3000:=by
 have hall:=(wasR_can h).2.2.2
 have h1:=join_len (wdF x) (wdF_ne x)
 have h2:=sumW_le (m:=300) (wdF x) (fun w hw=>okW_len (List.all_eq_true.1 hall w hw))
 have h3:=wdF_len x
 unfold jnL
 omega
noncomputable def cfX (b : List UInt8) : Int ⊕ List (List UInt8):=match readX b with
 | .inl x=>.inl x.2
 | .inr l=>.inr (l.map jnL)
def cfA : Int ⊕ List (List UInt8) → AV
 | .inl e=>.tup [.sl 0 [] true, .int .i64 e]
 | .inr l=>.tup [.own 1 9 (l.map .str), .int .i64 0]
theorem stepX_e {i : Nat} {r : List UInt8} {acc : List LnF} {e : Int} (h : stepX i r acc = .inl e) : e ≠ 0:=by
 unfold stepX at h
 split at h
 ·split at h
  ·cases h
  ·split at h
   ·cases h
   ·cases h; assumption
 ·cases h; decide
theorem rdX_e (rows : List (List UInt8)) : ∀ (n : Nat) (r e : Int), rdX rows n = .inl (r, e) → e ≠ 0
 | 0, r, e, h=>by rw [rdX] at h; cases h
 | n + 1, r, e, h=>by
  cases hn : rdX rows n with
  | inl x=>rw [rdX, hn] at h; cases h; exact rdX_e rows n r e hn
  | inr acc =>
   rw [rdX_s rows n acc hn] at h
   cases hs : stepX n rows[n]! acc with
   | inl e'=>rw [hs] at h; cases h; exact stepX_e hs
   | inr acc'=>rw [hs] at h; cases h
theorem readX_e {b : List UInt8} {r e : Int} (h : readX b = .inl (r, e)) : e ≠ 0:=by
 unfold readX at h
 split at h
 ·cases h; decide
 ·exact rdX_e _ _ _ _ h
theorem readX_w {b : List UInt8} {l : List LnF} (h : readX b = .inr l) : (∀ y ∈ l, wasR y) ∧ l.length ≤ 400:=by
 by_cases hbig : 20000 < b.length ∨ 400 < (spl b).length
 ·rw [readX_big hbig] at h; cases h
 ·rw [readX_small hbig] at h
  have:=bnd_len (rdR_bound _ _) h
  exact ⟨good_R (rdR_good _ _) h, by omega⟩
theorem jl_snoc {l : List LnF} {k : Nat} (h : k < l.length) : ((l.take k).map jnL).map AV.str ++ [.str (jnL l[k]!)] = ((l.take (k + 1)).map jnL).map AV.str:=by
 rw [take_snoc h]; simp
end Go.Proofs
namespace Go.Proofs
open Go.Pv
open Nm (spl swV okW)
set_option maxHeartbeats 8000000 in
theorem scfg_run (b : List UInt8) (f : Bool) (hb : b.length ≤ 100000) : Run Tryz.prog 52 [.sl 1 (bys b) f] (cfA (cfX b)):=by
 refine Tryz.run52 (by simp) ?_
 unfold Tryz.c52 cfX
 cases hr : readX b with
 | inl x =>
  obtain ⟨r, e⟩:=x
  have q1:=xq_err (f:=f) hb hr
  have he:=readX_e hr
  dsimp only
  unfold cfA
  clear hr
  generalize bys b = bs at *
  simp (disch:=first|omega|(simp only[pvl];omega)) only [↓pvd,pva,pvr,bin2,binB2,un1,setCells,List.map,seval,reduceCtorEq,true_and]
  refine awR_call q1 rfl rfl ?_
  simp (disch:=first|omega|(simp only[pvl];omega)) only [↓pvd,pva,pvr,bin2,binB2,un1,setCells,List.map,seval,reduceCtorEq,he]
  (refine Ends_rq [] ?_; simp (disch:=first|omega|(simp only[pvl];omega)) only [↓pvd,pva,pvr,bin2,binB2,un1,setCells,List.map,seval,reduceCtorEq]; exact ⟨_,rfl,rfl,rfl⟩)
 | inr l =>
  have q1:=xq_ok (f:=f) hb hr
  obtain ⟨hw, hl4⟩:=readX_w hr
  dsimp only
  unfold cfA
  clear hr
  generalize bys b = bs at *
  have hll:=lns_ln l
  simp (disch:=first|omega|(simp only[pvl];omega)) only [↓pvd,pva,pvr,bin2,binB2,un1,setCells,List.map,seval,reduceCtorEq,true_and]
  refine awR_call q1 rfl rfl ?_
  simp (disch:=first|omega|(simp only[pvl];omega)) only [↓pvd,pva,pvr,bin2,binB2,un1,setCells,List.map,seval,reduceCtorEq,true_and]
  refine aw_loop (fun k : Nat=>⟨[(7, .vec 0 1 0 k), (21, .sl 17 (l.map lnV) false), (22, .int .i64 l.length), (23, .int .i64 k)], [some ⟨9, ((l.take k).map jnL).map .str, true⟩]⟩) (fun k=>k ≤ l.length) (fun k=>l.length - k) 0 ?_ (by omega) ?_
  ·simp (disch:=first|omega|(simp only[pvl];omega)) only [↓pvd,pva,pvr,bin2,binB2,un1,setCells,List.map,seval,reduceCtorEq,hll]
   try rfl
  intro k hk
  unfold Tryz.c52b0
  have hjl : (((l.take k).map jnL).map AV.str).length = k:=by simp; omega
  by_cases hx : k < l.length
  ·have hg1 : (l.map lnV)[k]? = some (lnV l[k]!):=map_get hx
   have hxw:=hw l[k]! (get_mem hx)
   have q:=pline_run (isLn_V l[k]!) (wasR_B hxw).1 (wasR_B hxw).2 (by have:=jn_len hxw; omega)
   have hap:=jl_snoc hx
   obtain ⟨n1, f1, n2, f2, n3, f3, n4, f4, hv, -⟩:=isLn_V l[k]!
   rw [hv] at q hg1
   generalize jnL l[k]! = J at *
   generalize l[k]! = x at *
   obtain ⟨⟨xr, xk, a1, a2, a3, a4, a5, b1, b2, b3, b4, b5, b6⟩, xt, xi, xe, xa⟩:=x
   simp only at q hg1
   generalize xt.map (AV.int .i64) = s1 at *
   generalize xi.map (AV.int .i64) = s2 at *
   generalize xe.map (AV.int .i64) = s3 at *
   generalize xa.map (AV.int .u32) = s4 at *
   unfold lnA at q hg1
   obtain ⟨P1, hP1⟩ : ∃ P1, (l.take (k + 1)).map jnL = P1:=⟨_, rfl⟩
   rw [hP1] at hap
   simp (disch:=first|omega|(simp only[pvl];omega)) only [↓pvd,pva,pvr,bin2,binB2,un1,setCells,List.map,seval,reduceCtorEq,hg1,hll]
   refine awR_call q rfl rfl ?_
   simp (disch:=first|omega|(simp only[pvl];omega)) only [↓pvd,pva,pvr,bin2,binB2,un1,setCells,List.map,seval,reduceCtorEq,hll,hap,hjl,ids_map str_pl,ren_map str_pl]
   exact ⟨k + 1, by rw [hP1]; rfl, hx, by omega⟩
  ·obtain rfl : k = l.length:=by omega
   rw [List.take_of_length_le (Nat.le_refl _)] at hjl ⊢
   simp (disch:=first|omega|(simp only[pvl];omega)) only [↓pvd,pva,pvr,bin2,binB2,un1,setCells,List.map,seval,reduceCtorEq,hll]
   (refine Ends_rq [[.own 1 9], [.snap]] ?_; simp (disch:=first|omega|(simp only[pvl];omega)) only [↓pvd,pva,pvr,bin2,binB2,un1,setCells,List.map,seval,reduceCtorEq,mapO_map str_nr,rows_map str_nr,hjl]; exact ⟨_,rfl,rfl,rfl⟩)
end Go.Proofs
/-
 Lists of rows: what two have in common, the edits between them, and that no edits are fewer. (No program in sight.)
-/
namespace Go.Pv.Df
variable {α : Type}
def lcRow [DecidableEq α] (x : α) (f : List α → Nat) : List α → Nat
 | []=>0
 | y :: ys=>if x = y then f ys + 1 else max (f (y :: ys)) (lcRow x f ys)
def lc [DecidableEq α] : List α → List α → Nat
 | []=>fun _=>0
 | x :: xs=>lcRow x (lc xs)
theorem lc_nil [DecidableEq α] (ys : List α) : lc [] ys = 0:=rfl
theorem lc_nil' [DecidableEq α] : ∀ (xs : List α), lc xs [] = 0
 | []=>rfl
 | _ :: _=>rfl
theorem lc_cons [DecidableEq α] (x y : α) (xs ys : List α) : lc (x :: xs) (y :: ys) = if x = y then lc xs ys + 1 else max (lc xs (y :: ys)) (lc (x :: xs) ys):=rfl
theorem sub_tail {z x : α} {s xs : List α} (h : (z :: s).Sublist (x :: xs)) : s.Sublist xs:=by
 cases h with
 | cons _ h=>exact (List.sublist_cons_self z s).trans h
 | cons_cons _ h=>exact h
theorem lc_up [DecidableEq α] : ∀ (n : Nat) (a b s : List α), a.length + b.length ≤ n → s.Sublist a → s.Sublist b → s.length ≤ lc a b
 | n, [], b, s, _, h1, _=>by
  have:=List.sublist_nil.1 h1
  subst this
  simp
 | n, x :: xs, [], s, _, _, h2=>by
  have:=List.sublist_nil.1 h2
  subst this
  simp
 | 0, x :: xs, y :: ys, s, hn, _, _=>by simp at hn
 | n + 1, x :: xs, y :: ys, s, hn, h1, h2=>by
  simp only [List.length_cons] at hn
  rw [lc_cons]
  by_cases e : x = y
  ·rw [if_pos e]
   cases s with
   | nil=>simp
   | cons z s =>
    have:=lc_up n xs ys s (by omega) (sub_tail h1) (sub_tail h2)
    simp only [List.length_cons]; omega
  ·rw [if_neg e]
   cases h1 with
   | cons _ h1 =>
    have:=lc_up n xs (y :: ys) s (by simp only [List.length_cons]; omega) h1 h2
    omega
   | cons_cons _ h1 =>
    cases h2 with
    | cons _ h2 =>
     have:=lc_up n (x :: xs) ys _ (by simp only [List.length_cons]; omega) (h1.cons_cons x) h2
     omega
    | cons_cons _ h2=>exact absurd rfl e
theorem lc_low [DecidableEq α] : ∀ (n : Nat) (a b : List α), a.length + b.length ≤ n → ∃ s : List α, s.Sublist a ∧ s.Sublist b ∧ s.length = lc a b
 | n, [], b, _=>⟨[], List.nil_sublist _, List.nil_sublist _, rfl⟩
 | n, x :: xs, [], _=>⟨[], List.nil_sublist _, List.nil_sublist _, rfl⟩
 | 0, x :: xs, y :: ys, hn=>by simp at hn
 | n + 1, x :: xs, y :: ys, hn=>by
  simp only [List.length_cons] at hn
  rw [lc_cons]
  by_cases e : x = y
  ·rw [if_pos e]
   obtain ⟨s, h1, h2, h3⟩:=lc_low n xs ys (by omega)
   subst e
   exact ⟨x :: s, h1.cons_cons x, h2.cons_cons x, by simp [h3]⟩
  ·rw [if_neg e]
   obtain ⟨s, h1, h2, h3⟩:=lc_low n xs (y :: ys) (by simp only [List.length_cons]; omega)
   obtain ⟨t, k1, k2, k3⟩:=lc_low n (x :: xs) ys (by simp only [List.length_cons]; omega)
   by_cases hm : lc (x :: xs) ys ≤ lc xs (y :: ys)
   ·exact ⟨s, h1.cons x, h2, by omega⟩
   ·exact ⟨t, k1, k2.cons y, by omega⟩
theorem lc_rev_le [DecidableEq α] (a b : List α) : lc a.reverse b.reverse ≤ lc a b:=by
 obtain ⟨s, h1, h2, h3⟩:=lc_low _ a.reverse b.reverse (Nat.le_refl _)
 have k1 : s.reverse.Sublist a:=by have:=List.reverse_sublist.2 h1; rwa [List.reverse_reverse] at this
 have k2 : s.reverse.Sublist b:=by have:=List.reverse_sublist.2 h2; rwa [List.reverse_reverse] at this
 have:=lc_up _ a b s.reverse (Nat.le_refl _) k1 k2
 rw [List.length_reverse] at this
 omega
theorem lc_rev [DecidableEq α] (a b : List α) : lc a.reverse b.reverse = lc a b:=by
 have h1:=lc_rev_le a b
 have h2:=lc_rev_le a.reverse b.reverse
 rw [List.reverse_reverse, List.reverse_reverse] at h2
 omega
def ed [DecidableEq α] : List α → List α → List (Int × α)
 | [], []=>[]
 | x :: xs, []=>(1, x) :: ed xs []
 | [], y :: ys=>(2, y) :: ed [] ys
 | x :: xs, y :: ys=>if x = y then (0, x) :: ed xs ys else if lc (x :: xs) ys ≤ lc xs (y :: ys) then (1, x) :: ed xs (y :: ys) else (2, y) :: ed (x :: xs) ys
termination_by a b=>a.length + b.length
def cnt (l : List (Int × α)) : Nat:=(l.filter fun e=>decide (e.1 ≠ 0)).length
theorem cnt_cons (k : Int) (x : α) (l : List (Int × α)) : cnt ((k, x) :: l) = if k = 0 then cnt l else cnt l + 1:=by
 unfold cnt
 by_cases h : k = 0 <;> simp [h]
theorem ed_zero [DecidableEq α] : ∀ (n : Nat) (a b : List α), a.length + b.length ≤ n → (cnt (ed a b) = 0 ↔ a = b)
 | n, [], [], _=>by simp [ed, cnt]
 | 0, x :: xs, b, hn=>by simp at hn
 | 0, [], y :: ys, hn=>by simp at hn
 | n + 1, x :: xs, [], hn=>by
  rw [ed, cnt_cons, if_neg (by decide)]
  simp
 | n + 1, [], y :: ys, hn=>by
  rw [ed, cnt_cons, if_neg (by decide)]
  simp
 | n + 1, x :: xs, y :: ys, hn=>by
  simp only [List.length_cons] at hn
  rw [ed]
  by_cases e : x = y
  ·rw [if_pos e, cnt_cons, if_pos rfl, ed_zero n xs ys (by omega)]
   simp [e]
  ·rw [if_neg e]
   have : ¬ (x :: xs = y :: ys):=fun h=>e (List.cons.inj h).1
   split <;> rw [cnt_cons, if_neg (by decide)] <;> simp [e]
theorem ed_len [DecidableEq α] : ∀ (n : Nat) (a b : List α), a.length + b.length ≤ n → (ed a b).length ≤ a.length + b.length
 | n, [], [], _=>by simp [ed]
 | 0, x :: xs, b, hn=>by simp at hn
 | 0, [], y :: ys, hn=>by simp at hn
 | n + 1, x :: xs, [], hn=>by
  have ih:=ed_len n xs [] (by simp at hn ⊢; omega)
  rw [ed]; simp only [List.length_cons,List.length_nil] at ih ⊢; omega
 | n + 1, [], y :: ys, hn=>by
  have ih:=ed_len n [] ys (by simp at hn ⊢; omega)
  rw [ed]; simp only [List.length_cons,List.length_nil] at ih ⊢; omega
 | n + 1, x :: xs, y :: ys, hn=>by
  simp only [List.length_cons] at hn
  rw [ed]
  split
  ·have ih:=ed_len n xs ys (by omega)
   simp only [List.length_cons]; omega
  ·split
   ·have ih:=ed_len n xs (y :: ys) (by simp only [List.length_cons]; omega)
    simp only [List.length_cons] at ih ⊢; omega
   ·have ih:=ed_len n (x :: xs) ys (by simp only [List.length_cons]; omega)
    simp only [List.length_cons] at ih ⊢; omega
def ap [DecidableEq α] : List (Int × α) → List α → Option (List α)
 | [], []=>some []
 | [], _ :: _=>none
 | (k, x) :: l, a =>
  if k = 2 then (ap l a).map (x :: ·) else
  if k = 0 ∨ k = 1 then
   match a with
   | []=>none
   | y :: a=>if y = x then (if k = 0 then (ap l a).map (x :: ·) else ap l a) else none
  else none
end Go.Pv.Df
namespace Go.Proofs
namespace De
open Go.Pv Go.Pv.Df
theorem mapO_nr {hp : Hp} {n : Nat} {A : List AV} (h : A.all AV.nr1 = true) : mapO (snap hp (n + 2)) A = some A:=mapO_id fun x hx=>snap_nr1 (List.all_eq_true.1 h x hx)
theorem rows_nr {hp : Hp} {n : Nat} {A : List AV} (h : A.all AV.nr1 = true) : A.flatMap (rows hp (n + 2)) = []:=by
 have:=rows_map (hp:=hp) (n:=n) (f:=id) (l:=A)
 rw [List.flatMap_eq_nil_iff]
 intro x hx
 have hn:=List.all_eq_true.1 h x hx
 have:=rows_map (hp:=hp) (n:=n) (f:=fun _ : Unit=>x) (l:=[()]) (fun _=>hn)
 simpa using this
theorem mapO_app {f : AV → Option AV} : ∀ {A B : List AV}, mapO f (A ++ B) = (mapO f A).bind fun a=>(mapO f B).map fun b=>a ++ b
 | [], B=>by simp [mapO]
 | x :: A, B=>by
  rw [List.cons_append, mapO, mapO, mapO_app (A:=A) (B:=B)]
  cases f x with
  | none=>rfl
  | some y =>
   cases mapO f A with
   | none=>rfl
   | some a=>cases mapO f B <;> rfl
abbrev nilV : AV:=.sl 0 [] true
def rowV (r : List Bool) : AV:=.sl 1 (r.map .bool) false
theorem row_nr (r : List Bool) : (rowV r).nr1 = true:=rfl
theorem row_pl (r : List Bool) : (rowV r).pl = true:=rfl
theorem rep_nr (n : Nat) : (List.replicate n nilV).all AV.nr1 = true:=by
 rw [List.all_eq_true]; intro x hx; rw [(List.mem_replicate.1 hx).2]; rfl
theorem rep_pl (n : Nat) : (List.replicate n nilV).all AV.pl = true:=by
 rw [List.all_eq_true]; intro x hx; rw [(List.mem_replicate.1 hx).2]; rfl
theorem zrep_pl (n : Nat) : (List.replicate n (AV.int .i64 0)).all AV.pl = true:=by
 rw [List.all_eq_true]; intro x hx; rw [(List.mem_replicate.1 hx).2]; rfl
theorem map_nr {α : Type} {f : α → AV} {l : List α} (h : ∀ x, (f x).nr1 = true) : (l.map f).all AV.nr1 = true:=by
 rw [List.all_eq_true]; intro x hx; obtain ⟨y, _, rfl⟩:=List.mem_map.1 hx; exact h y
def drow (a b : List (List UInt8)) (i : Nat) : List Int:=(List.range (b.length + 1)).map fun c=>((lc (a.drop i) (b.drop c) : Nat) : Int)
theorem drow_end (a b : List (List UInt8)) : AV.int .i64 0 :: List.replicate b.length (AV.int .i64 0) = (drow a b a.length).map (.int .i64):=by
 rw [← List.replicate_succ]
 apply List.ext_getElem
 ·simp [drow]
 ·intro i h1 h2
  simp [drow, lc_nil]
def rowT (a b : List (List UInt8)) (i : Nat) : List Bool:=(List.range b.length).map fun k=>decide (lc (a.drop i) (b.drop (k + 1)) ≤ lc (a.drop (i + 1)) (b.drop k))
def tabT (a b : List (List UInt8)) (i : Nat) : List (List Bool):=(List.range (a.length - i)).map fun t=>rowT a b (i + t)
def ckS (a b : List (List UInt8)) (f g : Bool) (i : Nat) (o : List Int) : St :=
 ⟨[(0, .sl 1 (a.map .str) f), (1, .sl 1 (b.map .str) g), (5, .eptr 0 0 0), (6, .eptr 2 0 0), (8, .int .i64 ((i : Int) - 1))],
  [some ⟨146, [.agg [.sl 1 (a.map .str) f, .sl 1 (b.map .str) g, .vec 1 1 0 a.length]], true⟩, some ⟨148, List.replicate i nilV ++ (tabT a b i).map rowV, true⟩,
   some ⟨147, [.agg [.vec 3 1 0 (b.length + 1), .vec 4 1 0 (b.length + 1)]], true⟩,
   some ⟨3, (if i % 2 = 0 then drow a b i else o).map (.int .i64), true⟩, some ⟨3, (if i % 2 = 0 then o else drow a b i).map (.int .i64), true⟩]⟩
theorem ckS_e (a b : List (List UInt8)) (f g : Bool) (i : Nat) (o : List Int) : ckS a b f g i o =
 ⟨[(0, .sl 1 (a.map .str) f), (1, .sl 1 (b.map .str) g), (5, .eptr 0 0 0), (6, .eptr 2 0 0), (8, .int .i64 ((i : Int) - 1))],
  [some ⟨146, [.agg [.sl 1 (a.map .str) f, .sl 1 (b.map .str) g, .vec 1 1 0 a.length]], true⟩, some ⟨148, List.replicate i nilV ++ (tabT a b i).map rowV, true⟩,
   some ⟨147, [.agg [.vec 3 1 0 (b.length + 1), .vec 4 1 0 (b.length + 1)]], true⟩,
   some ⟨3, (if i % 2 = 0 then drow a b i else o).map (.int .i64), true⟩, some ⟨3, (if i % 2 = 0 then o else drow a b i).map (.int .i64), true⟩]⟩:=rfl
theorem set_int {k : IntKind} {l : List Int} {i : Nat} {v : Int} : (l.map (AV.int k)).set i (.int k v) = (l.set i v).map (.int k):=(List.map_set ..).symm
theorem set_bool {l : List Bool} {i : Nat} {v : Bool} : (l.map AV.bool).set i (.bool v) = (l.set i v).map .bool:=(List.map_set ..).symm
theorem int_nr (k : IntKind) (n : Int) : (AV.int k n).nr1 = true:=rfl
theorem int_pl (k : IntKind) (n : Int) : (AV.int k n).pl = true:=rfl
theorem bool_nr (n : Bool) : (AV.bool n).nr1 = true:=rfl
theorem bool_pl (n : Bool) : (AV.bool n).pl = true:=rfl
theorem hand_eptr {hp : Hp} {id i off : Nat} : hand hp [[.snap]] (.eptr id i off) = (snap hp 6 (.eptr id i off)).map fun y=>(y, hp, rows hp 6 (.eptr id i off)):=rfl
section
variable {A T : List AV} (hA : A.all AV.pl = true) (hT : T.all AV.pl = true) (hA2 : A.all AV.nr1 = true) (hT2 : T.all AV.nr1 = true)
include hA hT in
theorem mid_ids {hp : Hp} {n : Nat} {x : AV} : (A ++ x :: T).flatMap (idsOf hp (n + 2)) = idsOf hp (n + 2) x:=by
 rw [List.flatMap_append, List.flatMap_cons, ids_all hA, ids_all hT]; simp
include hA hT in
theorem mid_ren {l : List Nat} {n : Nat} {x : AV} : (A ++ x :: T).map (renX l (n + 2)) = A ++ renX l (n + 2) x :: T:=by
 rw [List.map_append, List.map_cons, ren_all hA, ren_all hT]
include hA2 hT2 in
theorem mid_snap {hp : Hp} {n : Nat} {x : AV} : mapO (snap hp (n + 2)) (A ++ x :: T) = (snap hp (n + 2) x).map fun y=>A ++ y :: T:=by
 rw [mapO_app, mapO, mapO_nr hA2, mapO_nr hT2]
 cases snap hp (n + 2) x <;> rfl
include hA2 hT2 in
theorem mid_rows {hp : Hp} {n : Nat} {x : AV} : (A ++ x :: T).flatMap (rows hp (n + 2)) = rows hp (n + 2) x:=by
 rw [List.flatMap_append, List.flatMap_cons, rows_nr hA2, rows_nr hT2]; simp
end
theorem mid_set {A T : List AV} {x v : AV} {j : Nat} (h : A.length = j) : (A ++ x :: T).set j v = A ++ v :: T:=by
 subst h
 rw [List.set_append_right _ _ (Nat.le_refl _)]; simp
theorem mid_get {A T : List AV} {x : AV} {j : Nat} (h : A.length = j) : (A ++ x :: T)[j]? = some x:=by
 subst h
 rw [List.getElem?_append_right (Nat.le_refl _)]; simp
theorem lc_le (a b : List (List UInt8)) : lc a b ≤ a.length:=by
 obtain ⟨s, h1, _, h3⟩:=lc_low _ a b (Nat.le_refl _)
 have:=h1.length_le
 omega
set_option maxHeartbeats 8000000 in
theorem reckon_run (a b : List (List UInt8)) (f g : Bool) (ha : a.length ≤ 400) (hb : b.length ≤ 400) : Run Tryz.prog 84 [.sl 1 (a.map .str) f, .sl 1 (b.map .str) g] (.rptr (.agg [.sl 1 (a.map .str) f, .sl 1 (b.map .str) g, .sl 1 ((tabT a b 0).map rowV) false]) 0):=by
 refine Tryz.run84 (by simp) ?_
 unfold Tryz.c84
 simp (disch:=first|omega|(simp only[pvl];omega)) only [↓pvd,pva,pvr,bin2,binB2,un1,setCells,List.map,seval,reduceCtorEq,List.length_map]
 refine aw_unroll 3 ?_
 simp (disch:=first|omega|(simp only[pvl];omega)) only [↓pvd,pva,pvr,bin2,binB2,un1,setCells,List.map,seval,reduceCtorEq,unr_s,unrT_e,Tryz.c84b0,List.length_map,ids_all (rep_pl _),mapO_nr (rep_nr _),rows_nr (rep_nr _),ren_all (rep_pl _),List.getD_cons_zero,List.getD_cons_succ,ids_all (zrep_pl _),ren_all (zrep_pl _)]
 rw [drow_end a b]
 refine aw_loop (fun x : Nat × List Int=>ckS a b f g x.1 x.2) (fun x=>x.1 ≤ a.length ∧ x.2.length = b.length + 1) (fun x=>x.1) (a.length, drow a b a.length) ?_ ⟨Nat.le_refl _, by simp [drow]⟩ ?_
 ·have hz : tabT a b a.length = []:=by simp [tabT]
  have hpd : ((drow a b a.length).map (AV.int .i64)).all AV.pl = true:=pl_map fun _=>rfl
  simp (disch:=first|omega|(simp only[pvl];omega)) only [↓pvd,pva,pvr,bin2,binB2,un1,setCells,List.map,seval,reduceCtorEq,ids_all (rep_pl _),mapO_nr (rep_nr _),rows_nr (rep_nr _),ren_all (rep_pl _),List.getD_cons_zero,List.getD_cons_succ,ids_all hpd,ren_all hpd,ckS,hz,ite_self,List.append_nil]
 rintro ⟨i, o⟩ ⟨hi, ho⟩
 simp only at hi ho
 unfold Tryz.c84b2
 cases i with
 | zero =>
  rw [ckS_e]
  have hTp : ((tabT a b 0).map rowV).all AV.pl = true:=pl_map row_pl
  have hTn : ((tabT a b 0).map rowV).all AV.nr1 = true:=map_nr row_nr
  have hTl : ((tabT a b 0).map rowV).length = a.length:=by simp [tabT]
  have h0 : (((0 : Nat) : Int) - 1) = -1:=by omega
  rw [h0, List.replicate_zero, List.nil_append]
  generalize (tabT a b 0).map rowV = T at *
  simp (disch:=first|omega|(simp only[pvl] at *;omega)) only [↓pvd,pva,pvr,bin2,binB2,un1,setCells,List.map,seval,reduceCtorEq]
  refine Ends_rq [[.snap]] ?_
  simp (disch:=first|omega|(simp only[pvl];omega)) only [↓pvd,pva,pvr,bin2,binB2,un1,setCells,List.map,seval,reduceCtorEq,hand_eptr,mapO_nr hTn,rows_nr hTn,hTl,snp_eptr,rws_eptr,Option.toList_some]
  exact ⟨_,rfl,rfl,rfl⟩
 | succ j =>
  have hj : (((j + 1 : Nat) : Int) - 1) = (j : Int):=by omega
  have hTp : ((tabT a b (j + 1)).map rowV).all AV.pl = true:=pl_map row_pl
  have hTn : ((tabT a b (j + 1)).map rowV).all AV.nr1 = true:=map_nr row_nr
  have hAp:=rep_pl j
  have hAn:=rep_nr j
  have hAl : (List.replicate j nilV).length = j:=by simp
  have hTl : ((tabT a b (j + 1)).map rowV).length = a.length - (j + 1):=by simp [tabT]
  have hNx : ∀ c, c ≤ b.length → ((drow a b (j + 1)).map (AV.int .i64))[c]? = some (.int .i64 ((lc (a.drop (j + 1)) (b.drop c) : Nat) : Int)):=fun c hc=>by
   simp [drow, hc, Nat.lt_succ_of_le hc]
  have hNl : ((drow a b (j + 1)).map (AV.int .i64)).length = b.length + 1:=by simp [drow]
  have hOl : (o.map (AV.int .i64)).length = b.length + 1:=by simp [ho]
  have hDp : ((drow a b (j + 1)).map (AV.int .i64)).all AV.pl = true:=pl_map (int_pl .i64)
  have hmk : List.replicate b.length (AV.bool false) = (List.replicate b.length false).map AV.bool:=by simp
  have hes : List.replicate (j + 1) nilV ++ (tabT a b (j + 1)).map rowV = List.replicate j nilV ++ nilV :: (tabT a b (j + 1)).map rowV:=by
   rw [List.replicate_succ']; simp
  rw [ckS_e a b f g (j + 1) o, hj, hes]
  generalize hTT : (tabT a b (j + 1)).map rowV = T at *
  generalize hAA : List.replicate j nilV = A at *
  have m1:=@mid_ids A T hAp hTp
  have m2:=@mid_ren A T hAp hTp
  have m3:=@mid_snap A T hAn hTn
  have m4:=@mid_rows A T hAn hTn
  have m5:=@mid_set A T
  have m6 : ∀ x, (A ++ x :: T)[j]? = some x:=fun x=>mid_get hAl
  have m7 : ∀ x v, (A ++ x :: T).set j v = A ++ v :: T:=fun x v=>mid_set hAl
  have m8 : ∀ x, (A ++ x :: T).length = a.length:=fun x=>by simp [hAl, hTl]; omega
  rcases Nat.mod_two_eq_zero_or_one j with hp | hp
  ·have hp2 : (j + 1) % 2 ≠ 0:=by omega
   have hx1 : (j : Int) % 2 = 0:=by omega
   have hx2 : ((j : Int) + 1) % 2 = 1:=by omega
   rw [if_neg hp2, if_neg hp2]
   generalize hDD : (drow a b (j + 1)).map (AV.int .i64) = D at *
   simp (disch:=first|omega|(simp only[pvl];omega)) only [↓pvd,pva,pvr,bin2,binB2,un1,setCells,List.map,seval,reduceCtorEq,hx1,hx2,m1,m2,m6,m7,m8,hmk,ids_all hDp,ren_all hDp,ids_map (int_pl .i64),ren_map (int_pl .i64),ids_map bool_pl,ren_map bool_pl,hOl,set_int,List.length_map]
   refine aw_loop (fun x : Nat × List Int × List Bool=>(⟨[(0, .sl 1 (a.map .str) f), (1, .sl 1 (b.map .str) g), (5, .eptr 0 0 0), (6, .eptr 3 0 0), (8, .int .i64 j), (9, .vec 4 1 0 (b.length + 1)), (10, .vec 5 1 0 (b.length + 1)), (11, .int .i64 ((x.1 : Int) - 1))],
     [some ⟨146, [.agg [.sl 1 (a.map .str) f, .sl 1 (b.map .str) g, .vec 1 1 0 a.length]], true⟩, some ⟨148, A ++ .vec 2 1 0 b.length :: T, true⟩, some ⟨4, x.2.2.map .bool, true⟩,
      some ⟨147, [.agg [.vec 4 1 0 (b.length + 1), .vec 5 1 0 (b.length + 1)]], true⟩, some ⟨3, x.2.1.map (.int .i64), true⟩, some ⟨3, D, true⟩]⟩ : St))
    (fun x=>x.1 ≤ b.length ∧ x.2.1.length = b.length + 1 ∧ x.2.2.length = b.length ∧ (∀ c, x.1 ≤ c → c ≤ b.length → x.2.1[c]! = ((lc (a.drop j) (b.drop c) : Nat) : Int)) ∧
      (∀ k, x.1 ≤ k → k < b.length → x.2.2[k]! = decide (lc (a.drop j) (b.drop (k + 1)) ≤ lc (a.drop (j + 1)) (b.drop k))))
    (fun x=>x.1) (b.length, o.set b.length 0, List.replicate b.length false) ?_ ⟨Nat.le_refl _, by simp [ho], by simp, ?_, ?_⟩ ?_
   ·simp (disch:=first|omega|(simp only[pvl];omega)) only [↓pvd,pva,pvr,bin2,binB2,un1,setCells,List.map,seval,reduceCtorEq,m1,m2,ids_all hDp,ren_all hDp,ids_map (int_pl .i64),ren_map (int_pl .i64),ids_map bool_pl,ren_map bool_pl]
   ·intro c h1 h2
    have : c = b.length:=by omega
    subst this
    rw [List.drop_length, lc_nil', getElem!_pos _ _ (by simp [ho])]
    simp
   ·intro k h1 h2
    omega
   rintro ⟨c, hs, rs⟩ ⟨hc, hsl, rsl, hM, hR⟩
   simp only at hc hsl rsl hM hR
   unfold Tryz.c84b1
   simp only
   cases c with
   | zero =>
    have hrs : rs = rowT a b j:=by
     apply List.ext_getElem
     ·simp [rowT, rsl]
     ·intro k h1 h2
      have:=hR k (by omega) (by omega)
      rw [getElem!_pos rs k h1] at this
      rw [this]
      simp [rowT]
    have hhs : hs = drow a b j:=by
     apply List.ext_getElem
     ·simp [drow, hsl]
     ·intro k h1 h2
      have:=hM k (by omega) (by omega)
      rw [getElem!_pos hs k h1] at this
      rw [this]
      simp [drow]
    have hcc : (((0 : Nat) : Int) - 1) = -1:=by omega
    have hpl1 : (rs.map AV.bool).all AV.pl = true:=pl_map bool_pl
    simp (disch:=first|omega|(simp only[pvl];omega)) only [↓pvd,pva,pvr,bin2,binB2,un1,setCells,List.map,seval,reduceCtorEq,hcc,m1,m2,m3,m4,List.getD_cons_zero,List.getD_cons_succ,mapO_map bool_nr,rows_map bool_nr,ids_all hDp,ren_all hDp,ids_map (int_pl .i64),ren_map (int_pl .i64),ids_map bool_pl,ren_map bool_pl]
    refine ⟨(j, drow a b (j + 1)), ?_, ⟨by simp only; omega, by simp [drow]⟩, by simp only; omega⟩
    rw [ckS_e]
    have htab : (tabT a b j).map rowV = rowV (rowT a b j) :: T:=by
     rw [← hTT]
     unfold tabT
     rw [show a.length - j = (a.length - (j + 1)) + 1 by omega, List.range_succ_eq_map]
     simp only [List.map_cons,List.map_map,Nat.add_zero]
     congr 1
     apply List.map_congr_left
     intro x _
     simp only [Function.comp]
     rw [show j + (x + 1) = j + 1 + x by omega]
    rw [htab, hAA, ← hrs, ← hhs]
    simp only [if_pos hp,← hDD,rowV]
   | succ k =>
    have hk : (((k + 1 : Nat) : Int) - 1) = (k : Int):=by omega
    rw [hk]
    have g1:=hNx k (by omega)
    have g2:=hNx (k + 1) (by omega)
    have M1:=hM (k + 1) (by omega) (by omega)
    have g3 : (hs.map (AV.int .i64))[k + 1]? = some (.int .i64 ((lc (a.drop j) (b.drop (k + 1)) : Nat) : Int)):=by rw [map_get (by omega), M1]
    have g4 : (a.map AV.str)[j]? = some (.str a[j]!):=map_get (by omega)
    have g5 : (b.map AV.str)[k]? = some (.str b[k]!):=map_get (by omega)
    have hda : a.drop j = a[j]! :: a.drop (j + 1):=by rw [getElem!_pos a j (by omega)]; exact List.drop_eq_getElem_cons (by omega)
    have hdb : b.drop k = b[k]! :: b.drop (k + 1):=by rw [getElem!_pos b k (by omega)]; exact List.drop_eq_getElem_cons (by omega)
    have hstep : lc (a.drop j) (b.drop k) = if a[j]! = b[k]! then lc (a.drop (j + 1)) (b.drop (k + 1)) + 1 else max (lc (a.drop (j + 1)) (b.drop k)) (lc (a.drop j) (b.drop (k + 1))):=by
     rw [hda, hdb, lc_cons]
    have b1:=lc_le (a.drop (j + 1)) (b.drop (k + 1))
    have b2:=lc_le (a.drop (j + 1)) (b.drop k)
    have b3:=lc_le (a.drop j) (b.drop (k + 1))
    simp only [List.length_drop] at b1 b2 b3
    have fin : ∀ (v : Int) (hs' : List Int), v = ((lc (a.drop j) (b.drop k) : Nat) : Int) → hs' = hs.set k v →
      hs'.length = b.length + 1 ∧ (∀ c, k ≤ c → c ≤ b.length → hs'[c]! = ((lc (a.drop j) (b.drop c) : Nat) : Int)):=fun v hs' hv h=>by
     subst h
     refine ⟨by simp [hsl], fun c h1 h2=>?_⟩
     rw [getElem!_pos _ _ (by simp [hsl]; omega), List.getElem_set]
     by_cases e : k = c
     ·rw [if_pos e, hv, e]
     ·rw [if_neg e]
      have:=hM c (by omega) h2
      rwa [getElem!_pos hs c (by omega)] at this
    have finr : ∀ (v : Bool), v = decide (lc (a.drop j) (b.drop (k + 1)) ≤ lc (a.drop (j + 1)) (b.drop k)) →
      (rs.set k v).length = b.length ∧ (∀ k', k ≤ k' → k' < b.length → (rs.set k v)[k']! = decide (lc (a.drop j) (b.drop (k' + 1)) ≤ lc (a.drop (j + 1)) (b.drop k'))):=fun v hv=>by
     refine ⟨by simp [rsl], fun c h1 h2=>?_⟩
     rw [getElem!_pos _ _ (by simp [rsl]; omega), List.getElem_set]
     by_cases e : k = c
     ·rw [if_pos e, hv, e]
     ·rw [if_neg e]
      have:=hR c (by omega) h2
      rwa [getElem!_pos rs c (by omega)] at this
    generalize lc (a.drop j) (b.drop k) = V at *
    generalize lc (a.drop (j + 1)) (b.drop (k + 1)) = v1 at *
    generalize lc (a.drop (j + 1)) (b.drop k) = v2 at *
    generalize lc (a.drop j) (b.drop (k + 1)) = v3 at *
    by_cases he : a[j]! = b[k]!
    ·rw [if_pos he] at hstep
     simp (disch:=first|omega|(simp only[pvl];omega)) only [↓pvd,pva,pvr,bin2,binB2,un1,setCells,List.map,seval,reduceCtorEq,m1,m2,m6,m7,m8,ids_all hDp,ren_all hDp,ids_map (int_pl .i64),ren_map (int_pl .i64),ids_map bool_pl,ren_map bool_pl,set_int,set_bool,List.length_map,g1,g2,g3,g4,g5,he,hNl]
     have f1:=fin ((v1 : Int) + 1) ((hs.set k (max (v2 : Int) v3)).set k ((v1 : Int) + 1)) (by rw [hstep]; push_cast; rfl) (by rw [List.set_set])
     have f2:=finr (decide ((v3 : Int) ≤ v2)) (by simp)
     exact ⟨(k, ((hs.set k (max (v2 : Int) v3)).set k ((v1 : Int) + 1)), rs.set k (decide ((v3 : Int) ≤ v2))), rfl, ⟨by simp only; omega, f1.1, f2.1, f1.2, f2.2⟩, by simp only; omega⟩
    ·rw [if_neg he] at hstep
     simp (disch:=first|omega|(simp only[pvl];omega)) only [↓pvd,pva,pvr,bin2,binB2,un1,setCells,List.map,seval,reduceCtorEq,m1,m2,m6,m7,m8,ids_all hDp,ren_all hDp,ids_map (int_pl .i64),ren_map (int_pl .i64),ids_map bool_pl,ren_map bool_pl,set_int,set_bool,List.length_map,g1,g2,g3,g4,g5,he,hNl]
     have f1:=fin (max (v2 : Int) v3) (hs.set k (max (v2 : Int) v3)) (by rw [hstep]; omega) (by rfl)
     have f2:=finr (decide ((v3 : Int) ≤ v2)) (by simp)
     exact ⟨(k, (hs.set k (max (v2 : Int) v3)), rs.set k (decide ((v3 : Int) ≤ v2))), rfl, ⟨by simp only; omega, f1.1, f2.1, f1.2, f2.2⟩, by simp only; omega⟩
  ·have hp2 : (j + 1) % 2 = 0:=by omega
   have hx1 : (j : Int) % 2 = 1:=by omega
   have hx2 : ((j : Int) + 1) % 2 = 0:=by omega
   rw [if_pos hp2, if_pos hp2]
   have hp : ¬ j % 2 = 0:=by omega
   generalize hDD : (drow a b (j + 1)).map (AV.int .i64) = D at *
   simp (disch:=first|omega|(simp only[pvl];omega)) only [↓pvd,pva,pvr,bin2,binB2,un1,setCells,List.map,seval,reduceCtorEq,hx1,hx2,m1,m2,m6,m7,m8,hmk,ids_all hDp,ren_all hDp,ids_map (int_pl .i64),ren_map (int_pl .i64),ids_map bool_pl,ren_map bool_pl,hOl,set_int,List.length_map]
   refine aw_loop (fun x : Nat × List Int × List Bool=>(⟨[(0, .sl 1 (a.map .str) f), (1, .sl 1 (b.map .str) g), (5, .eptr 0 0 0), (6, .eptr 3 0 0), (8, .int .i64 j), (9, .vec 5 1 0 (b.length + 1)), (10, .vec 4 1 0 (b.length + 1)), (11, .int .i64 ((x.1 : Int) - 1))],
     [some ⟨146, [.agg [.sl 1 (a.map .str) f, .sl 1 (b.map .str) g, .vec 1 1 0 a.length]], true⟩, some ⟨148, A ++ .vec 2 1 0 b.length :: T, true⟩, some ⟨4, x.2.2.map .bool, true⟩,
      some ⟨147, [.agg [.vec 4 1 0 (b.length + 1), .vec 5 1 0 (b.length + 1)]], true⟩, some ⟨3, D, true⟩, some ⟨3, x.2.1.map (.int .i64), true⟩]⟩ : St))
    (fun x=>x.1 ≤ b.length ∧ x.2.1.length = b.length + 1 ∧ x.2.2.length = b.length ∧ (∀ c, x.1 ≤ c → c ≤ b.length → x.2.1[c]! = ((lc (a.drop j) (b.drop c) : Nat) : Int)) ∧
      (∀ k, x.1 ≤ k → k < b.length → x.2.2[k]! = decide (lc (a.drop j) (b.drop (k + 1)) ≤ lc (a.drop (j + 1)) (b.drop k))))
    (fun x=>x.1) (b.length, o.set b.length 0, List.replicate b.length false) ?_ ⟨Nat.le_refl _, by simp [ho], by simp, ?_, ?_⟩ ?_
   ·simp (disch:=first|omega|(simp only[pvl];omega)) only [↓pvd,pva,pvr,bin2,binB2,un1,setCells,List.map,seval,reduceCtorEq,m1,m2,ids_all hDp,ren_all hDp,ids_map (int_pl .i64),ren_map (int_pl .i64),ids_map bool_pl,ren_map bool_pl]
   ·intro c h1 h2
    have : c = b.length:=by omega
    subst this
    rw [List.drop_length, lc_nil', getElem!_pos _ _ (by simp [ho])]
    simp
   ·intro k h1 h2
    omega
   rintro ⟨c, hs, rs⟩ ⟨hc, hsl, rsl, hM, hR⟩
   simp only at hc hsl rsl hM hR
   unfold Tryz.c84b1
   simp only
   cases c with
   | zero =>
    have hrs : rs = rowT a b j:=by
     apply List.ext_getElem
     ·simp [rowT, rsl]
     ·intro k h1 h2
      have:=hR k (by omega) (by omega)
      rw [getElem!_pos rs k h1] at this
      rw [this]
      simp [rowT]
    have hhs : hs = drow a b j:=by
     apply List.ext_getElem
     ·simp [drow, hsl]
     ·intro k h1 h2
      have:=hM k (by omega) (by omega)
      rw [getElem!_pos hs k h1] at this
      rw [this]
      simp [drow]
    have hcc : (((0 : Nat) : Int) - 1) = -1:=by omega
    have hpl1 : (rs.map AV.bool).all AV.pl = true:=pl_map bool_pl
    simp (disch:=first|omega|(simp only[pvl];omega)) only [↓pvd,pva,pvr,bin2,binB2,un1,setCells,List.map,seval,reduceCtorEq,hcc,m1,m2,m3,m4,List.getD_cons_zero,List.getD_cons_succ,mapO_map bool_nr,rows_map bool_nr,ids_all hDp,ren_all hDp,ids_map (int_pl .i64),ren_map (int_pl .i64),ids_map bool_pl,ren_map bool_pl]
    refine ⟨(j, drow a b (j + 1)), ?_, ⟨by simp only; omega, by simp [drow]⟩, by simp only; omega⟩
    rw [ckS_e]
    have htab : (tabT a b j).map rowV = rowV (rowT a b j) :: T:=by
     rw [← hTT]
     unfold tabT
     rw [show a.length - j = (a.length - (j + 1)) + 1 by omega, List.range_succ_eq_map]
     simp only [List.map_cons,List.map_map,Nat.add_zero]
     congr 1
     apply List.map_congr_left
     intro x _
     simp only [Function.comp]
     rw [show j + (x + 1) = j + 1 + x by omega]
    rw [htab, hAA, ← hrs, ← hhs]
    simp only [if_neg hp,← hDD,rowV]
   | succ k =>
    have hk : (((k + 1 : Nat) : Int) - 1) = (k : Int):=by omega
    rw [hk]
    have g1:=hNx k (by omega)
    have g2:=hNx (k + 1) (by omega)
    have M1:=hM (k + 1) (by omega) (by omega)
    have g3 : (hs.map (AV.int .i64))[k + 1]? = some (.int .i64 ((lc (a.drop j) (b.drop (k + 1)) : Nat) : Int)):=by rw [map_get (by omega), M1]
    have g4 : (a.map AV.str)[j]? = some (.str a[j]!):=map_get (by omega)
    have g5 : (b.map AV.str)[k]? = some (.str b[k]!):=map_get (by omega)
    have hda : a.drop j = a[j]! :: a.drop (j + 1):=by rw [getElem!_pos a j (by omega)]; exact List.drop_eq_getElem_cons (by omega)
    have hdb : b.drop k = b[k]! :: b.drop (k + 1):=by rw [getElem!_pos b k (by omega)]; exact List.drop_eq_getElem_cons (by omega)
    have hstep : lc (a.drop j) (b.drop k) = if a[j]! = b[k]! then lc (a.drop (j + 1)) (b.drop (k + 1)) + 1 else max (lc (a.drop (j + 1)) (b.drop k)) (lc (a.drop j) (b.drop (k + 1))):=by
     rw [hda, hdb, lc_cons]
    have b1:=lc_le (a.drop (j + 1)) (b.drop (k + 1))
    have b2:=lc_le (a.drop (j + 1)) (b.drop k)
    have b3:=lc_le (a.drop j) (b.drop (k + 1))
    simp only [List.length_drop] at b1 b2 b3
    have fin : ∀ (v : Int) (hs' : List Int), v = ((lc (a.drop j) (b.drop k) : Nat) : Int) → hs' = hs.set k v →
      hs'.length = b.length + 1 ∧ (∀ c, k ≤ c → c ≤ b.length → hs'[c]! = ((lc (a.drop j) (b.drop c) : Nat) : Int)):=fun v hs' hv h=>by
     subst h
     refine ⟨by simp [hsl], fun c h1 h2=>?_⟩
     rw [getElem!_pos _ _ (by simp [hsl]; omega), List.getElem_set]
     by_cases e : k = c
     ·rw [if_pos e, hv, e]
     ·rw [if_neg e]
      have:=hM c (by omega) h2
      rwa [getElem!_pos hs c (by omega)] at this
    have finr : ∀ (v : Bool), v = decide (lc (a.drop j) (b.drop (k + 1)) ≤ lc (a.drop (j + 1)) (b.drop k)) →
      (rs.set k v).length = b.length ∧ (∀ k', k ≤ k' → k' < b.length → (rs.set k v)[k']! = decide (lc (a.drop j) (b.drop (k' + 1)) ≤ lc (a.drop (j + 1)) (b.drop k'))):=fun v hv=>by
     refine ⟨by simp [rsl], fun c h1 h2=>?_⟩
     rw [getElem!_pos _ _ (by simp [rsl]; omega), List.getElem_set]
     by_cases e : k = c
     ·rw [if_pos e, hv, e]
     ·rw [if_neg e]
      have:=hR c (by omega) h2
      rwa [getElem!_pos rs c (by omega)] at this
    generalize lc (a.drop j) (b.drop k) = V at *
    generalize lc (a.drop (j + 1)) (b.drop (k + 1)) = v1 at *
    generalize lc (a.drop (j + 1)) (b.drop k) = v2 at *
    generalize lc (a.drop j) (b.drop (k + 1)) = v3 at *
    by_cases he : a[j]! = b[k]!
    ·rw [if_pos he] at hstep
     simp (disch:=first|omega|(simp only[pvl];omega)) only [↓pvd,pva,pvr,bin2,binB2,un1,setCells,List.map,seval,reduceCtorEq,m1,m2,m6,m7,m8,ids_all hDp,ren_all hDp,ids_map (int_pl .i64),ren_map (int_pl .i64),ids_map bool_pl,ren_map bool_pl,set_int,set_bool,List.length_map,g1,g2,g3,g4,g5,he,hNl]
     have f1:=fin ((v1 : Int) + 1) ((hs.set k (max (v2 : Int) v3)).set k ((v1 : Int) + 1)) (by rw [hstep]; push_cast; rfl) (by rw [List.set_set])
     have f2:=finr (decide ((v3 : Int) ≤ v2)) (by simp)
     exact ⟨(k, ((hs.set k (max (v2 : Int) v3)).set k ((v1 : Int) + 1)), rs.set k (decide ((v3 : Int) ≤ v2))), rfl, ⟨by simp only; omega, f1.1, f2.1, f1.2, f2.2⟩, by simp only; omega⟩
    ·rw [if_neg he] at hstep
     simp (disch:=first|omega|(simp only[pvl];omega)) only [↓pvd,pva,pvr,bin2,binB2,un1,setCells,List.map,seval,reduceCtorEq,m1,m2,m6,m7,m8,ids_all hDp,ren_all hDp,ids_map (int_pl .i64),ren_map (int_pl .i64),ids_map bool_pl,ren_map bool_pl,set_int,set_bool,List.length_map,g1,g2,g3,g4,g5,he,hNl]
     have f1:=fin (max (v2 : Int) v3) (hs.set k (max (v2 : Int) v3)) (by rw [hstep]; omega) (by rfl)
     have f2:=finr (decide ((v3 : Int) ≤ v2)) (by simp)
     exact ⟨(k, (hs.set k (max (v2 : Int) v3)), rs.set k (decide ((v3 : Int) ≤ v2))), rfl, ⟨by simp only; omega, f1.1, f2.1, f1.2, f2.2⟩, by simp only; omega⟩
end De
end Go.Proofs
namespace Go.Proofs
namespace De
open Go.Pv Go.Pv.Df
def edR (e : Int × List UInt8) : AV:=.agg [.int .i64 e.1, .str e.2]
theorem ed_nr (e : Int × List UInt8) : (edR e).nr1 = true:=rfl
theorem ed_pl (e : Int × List UInt8) : (edR e).pl = true:=rfl
theorem str_nr (l : List UInt8) : (AV.str l).nr1 = true:=rfl
theorem str_pl (l : List UInt8) : (AV.str l).pl = true:=rfl
def eS (a b : List (List UInt8)) (f g : Bool) (x : Nat × Nat × List (Int × List UInt8)) : St :=
 ⟨[(0, .rptr (.agg [.sl 1 (a.map .str) f, .sl 1 (b.map .str) g, .sl 1 ((tabT a b 0).map rowV) false]) 0), (3, .vec 0 2 0 x.2.2.length), (4, .int .i64 x.1), (5, .int .i64 x.2.1)], [some ⟨92, x.2.2.map edR, true⟩]⟩
set_option maxHeartbeats 8000000 in
theorem edits_run (a b : List (List UInt8)) (f g : Bool) (ha : a.length ≤ 400) (hb : b.length ≤ 400) : Run Tryz.prog 85 [.rptr (.agg [.sl 1 (a.map .str) f, .sl 1 (b.map .str) g, .sl 1 ((tabT a b 0).map rowV) false]) 0] (.own 2 92 ((ed a b).map edR)):=by
 refine Tryz.run85 (by simp) ?_
 unfold Tryz.c85
 simp (disch:=first|omega|(simp only[pvl] at *;omega)) only [↓pvd,pva,pvr,bin2,binB2,un1,setCells,List.map,seval,reduceCtorEq]
 refine aw_loop (eS a b f g) (fun x=>x.1 ≤ a.length ∧ x.2.1 ≤ b.length ∧ x.2.2.length ≤ x.1 + x.2.1 ∧ ed a b = x.2.2 ++ ed (a.drop x.1) (b.drop x.2.1)) (fun x=>(a.length - x.1) + (b.length - x.2.1)) (0, 0, []) ?_ ⟨by simp, by simp, by simp, by simp⟩ ?_
 ·simp (disch:=first|omega|(simp only[pvl];omega)) only [↓pvd,pva,pvr,bin2,binB2,un1,setCells,List.map,seval,reduceCtorEq,eS]
  try simp
 rintro ⟨i, k, out⟩ ⟨hi, hk, ho, he⟩
 simp only at hi hk ho he
 unfold eS Tryz.c85b0
 simp only
 have hln : (out.map edR).length = out.length:=by simp
 have hpl : (out.map edR).all AV.pl = true:=pl_map ed_pl
 have hap : ∀ e, out.map edR ++ [edR e] = (out ++ [e]).map edR:=fun e=>by simp
 have hpl2 : ∀ e, ((out ++ [e]).map edR).all AV.pl = true:=fun e=>pl_map ed_pl
 have hap1 : ∀ (c : Int) (x : List UInt8), out.map edR ++ [AV.agg [.int .i64 c, .str x]] = (out ++ [(c, x)]).map edR:=fun c x=>hap (c, x)
 by_cases hi2 : i < a.length
 ·have ga : (a.map AV.str)[i]? = some (.str a[i]!):=map_get hi2
  have da : a.drop i = a[i]! :: a.drop (i + 1):=by rw [getElem!_pos a i hi2]; exact List.drop_eq_getElem_cons hi2
  by_cases hk2 : k < b.length
  ·have gb : (b.map AV.str)[k]? = some (.str b[k]!):=map_get hk2
   have db : b.drop k = b[k]! :: b.drop (k + 1):=by rw [getElem!_pos b k hk2]; exact List.drop_eq_getElem_cons hk2
   have gt : ((tabT a b 0).map rowV)[i]? = some (.sl 1 ((rowT a b i).map .bool) false):=by
    simp [tabT, hi2, rowV]
   have gr : ((rowT a b i).map AV.bool)[k]? = some (.bool (decide (lc (a.drop i) (b.drop (k + 1)) ≤ lc (a.drop (i + 1)) (b.drop k)))):=by
    simp [rowT, hk2]
   have hed : ed (a.drop i) (b.drop k) = if a[i]! = b[k]! then (0, a[i]!) :: ed (a.drop (i + 1)) (b.drop (k + 1)) else if lc (a.drop i) (b.drop (k + 1)) ≤ lc (a.drop (i + 1)) (b.drop k) then (1, a[i]!) :: ed (a.drop (i + 1)) (b.drop k) else (2, b[k]!) :: ed (a.drop i) (b.drop (k + 1)):=by
    rw [da, db, ed]
   have hTl : ((tabT a b 0).map rowV).length = a.length:=by simp [tabT]
   have hrl : ((rowT a b i).map AV.bool).length = b.length:=by simp [rowT]
   generalize hT : (tabT a b 0).map rowV = T at *
   by_cases heq : a[i]! = b[k]!
   ·rw [if_pos heq] at hed
    rw [heq] at ga
    generalize hrow : out.map edR = row at *
    simp (disch:=first|omega|(simp only[pvl];omega)) only [↓pvd,pva,pvr,bin2,binB2,un1,setCells,List.map,seval,reduceCtorEq,List.length_map,ga,gb,ids_all hpl,ren_all hpl,hap1,ids_map ed_pl,ren_map ed_pl,hln]
    refine ⟨(i + 1, k + 1, out ++ [(0, b[k]!)]), ?_, ⟨by simp only; omega, by simp only; omega, by simp; omega, ?_⟩, by simp only; omega⟩
    ·simp
    ·rw [he, hed, heq]; simp
   ·rw [if_neg heq] at hed
    generalize hrow : out.map edR = row at *
    by_cases hc : lc (a.drop i) (b.drop (k + 1)) ≤ lc (a.drop (i + 1)) (b.drop k)
    ·rw [if_pos hc] at hed
     rw [decide_eq_true hc] at gr
     simp (disch:=first|omega|(simp only[pvl];omega)) only [↓pvd,pva,pvr,bin2,binB2,un1,setCells,List.map,seval,reduceCtorEq,List.length_map,ga,gb,heq,gt,gr,hTl,hrl,ids_all hpl,ren_all hpl,hap1,ids_map ed_pl,ren_map ed_pl,hln]
     refine ⟨(i + 1, k, out ++ [(1, a[i]!)]), ?_, ⟨by simp only; omega, by simp only; omega, by simp; omega, ?_⟩, by simp only; omega⟩
     ·simp
     ·rw [he, hed]; simp
    ·rw [if_neg hc] at hed
     rw [decide_eq_false hc] at gr
     simp (disch:=first|omega|(simp only[pvl];omega)) only [↓pvd,pva,pvr,bin2,binB2,un1,setCells,List.map,seval,reduceCtorEq,List.length_map,ga,gb,heq,gt,gr,hTl,hrl,ids_all hpl,ren_all hpl,hap1,ids_map ed_pl,ren_map ed_pl,hln]
     refine ⟨(i, k + 1, out ++ [(2, b[k]!)]), ?_, ⟨by simp only; omega, by simp only; omega, by simp; omega, ?_⟩, by simp only; omega⟩
     ·simp
     ·rw [he, hed]; simp
  ·have ek : k = b.length:=by omega
   have hed : ed (a.drop i) (b.drop k) = (1, a[i]!) :: ed (a.drop (i + 1)) (b.drop k):=by
    rw [da, ek, List.drop_length, ed]
   generalize hrow : out.map edR = row at *
   simp (disch:=first|omega|(simp only[pvl];omega)) only [↓pvd,pva,pvr,bin2,binB2,un1,setCells,List.map,seval,reduceCtorEq,List.length_map,ga,ids_all hpl,ren_all hpl,hap1,ids_map ed_pl,ren_map ed_pl,hln]
   refine ⟨(i + 1, k, out ++ [(1, a[i]!)]), ?_, ⟨by simp only; omega, by simp only; omega, by simp; omega, ?_⟩, by simp only; omega⟩
   ·simp
   ·rw [he, hed]; simp
 ·have ei : i = a.length:=by omega
  by_cases hk2 : k < b.length
  ·have gb : (b.map AV.str)[k]? = some (.str b[k]!):=map_get hk2
   have db : b.drop k = b[k]! :: b.drop (k + 1):=by rw [getElem!_pos b k hk2]; exact List.drop_eq_getElem_cons hk2
   have hed : ed (a.drop i) (b.drop k) = (2, b[k]!) :: ed (a.drop i) (b.drop (k + 1)):=by
    rw [db, ei, List.drop_length, ed]
   generalize hrow : out.map edR = row at *
   simp (disch:=first|omega|(simp only[pvl];omega)) only [↓pvd,pva,pvr,bin2,binB2,un1,setCells,List.map,seval,reduceCtorEq,List.length_map,gb,ids_all hpl,ren_all hpl,hap1,ids_map ed_pl,ren_map ed_pl,hln]
   refine ⟨(i, k + 1, out ++ [(2, b[k]!)]), ?_, ⟨by simp only; omega, by simp only; omega, by simp; omega, ?_⟩, by simp only; omega⟩
   ·simp
   ·rw [he, hed]; simp
  ·have ek : k = b.length:=by omega
   have hed : ed a b = out:=by rw [he, ei, ek, List.drop_length, List.drop_length, ed]; simp
   rw [hed]
   simp (disch:=first|omega|(simp only[pvl];omega)) only [↓pvd,pva,pvr,bin2,binB2,un1,setCells,List.map,seval,reduceCtorEq,List.length_map]
   (refine Ends_rq [[.own 2 92]] ?_; simp (disch:=first|omega|(simp only[pvl];omega)) only [↓pvd,pva,pvr,bin2,binB2,un1,setCells,List.map,seval,reduceCtorEq,ids_map ed_pl,ren_map ed_pl,mapO_map ed_nr,rows_map ed_nr,List.length_map]; exact ⟨_,rfl,rfl,rfl⟩)
theorem drows_run (a b : List (List UInt8)) (f g : Bool) (ha : a.length ≤ 100000) (hb : b.length ≤ 100000) : Run Tryz.prog 51 [.sl 1 (a.map .str) f, .sl 1 (b.map .str) g] (if a.length ≤ 400 ∧ b.length ≤ 400 then .tup [.own 2 92 ((ed a b).map edR), .int .i64 0] else .tup [.sl 0 [] true, .int .i64 3]):=by
 refine Tryz.run51 (by simp) ?_
 unfold Tryz.c51
 by_cases h : a.length ≤ 400 ∧ b.length ≤ 400
 ·obtain ⟨h1, h2⟩:=h
  rw [if_pos ⟨h1, h2⟩]
  have q1:=reckon_run a b f g h1 h2
  have q2:=edits_run a b f g h1 h2
  generalize (tabT a b 0).map rowV = T at *
  simp (disch:=first|omega|(simp only[pvl];omega)) only [↓pvd,pva,pvr,bin2,binB2,un1,setCells,List.map,seval,reduceCtorEq,List.length_map]
  refine awR_call q1 rfl rfl ?_
  simp (disch:=first|omega|(simp only[pvl] at *;omega)) only [↓pvd,pva,pvr,bin2,binB2,un1,setCells,List.map,seval,reduceCtorEq]
  refine awR_call q2 rfl rfl ?_
  simp (disch:=first|omega|(simp only[pvl] at *;omega)) only [↓pvd,pva,pvr,bin2,binB2,un1,setCells,List.map,seval,reduceCtorEq]
  (refine Ends_rq [[.own 2 92], [.snap]] ?_; simp (disch:=first|omega|(simp only[pvl];omega)) only [↓pvd,pva,pvr,bin2,binB2,un1,setCells,List.map,seval,reduceCtorEq,ids_map ed_pl,ren_map ed_pl,mapO_map ed_nr,rows_map ed_nr,List.length_map]; exact ⟨_,rfl,rfl,rfl⟩)
 ·rw [if_neg h]
  by_cases h1 : a.length ≤ 400
  ·have : 400 < b.length:=by omega
   repeat' (first | (simp (disch:=first|omega|(simp only[pvl];omega)) only [↓pvd,pva,pvr,bin2,binB2,un1,setCells,List.map,seval,reduceCtorEq,List.length_map,still]) | (with_reducible first|refine condP_d (fun _=>?_) (fun _=>?_)|refine guardP_d0 (fun _=>?_) (fun _=>?_)|refine guardP_d1 (fun _=>?_) (fun _=>?_)|refine condP_any ?_ ?_) | (refine Ends_rq [] ?_; simp (disch:=first|omega|(simp only[pvl];omega)) only [↓pvd,pva,pvr,bin2,binB2,un1,setCells,List.map,seval,reduceCtorEq]; exact ⟨_,rfl,rfl,rfl⟩))
  ·have : 400 < a.length:=by omega
   repeat' (first | (simp (disch:=first|omega|(simp only[pvl];omega)) only [↓pvd,pva,pvr,bin2,binB2,un1,setCells,List.map,seval,reduceCtorEq,List.length_map,still]) | (with_reducible first|refine condP_d (fun _=>?_) (fun _=>?_)|refine guardP_d0 (fun _=>?_) (fun _=>?_)|refine guardP_d1 (fun _=>?_) (fun _=>?_)|refine condP_any ?_ ?_) | (refine Ends_rq [] ?_; simp (disch:=first|omega|(simp only[pvl];omega)) only [↓pvd,pva,pvr,bin2,binB2,un1,setCells,List.map,seval,reduceCtorEq]; exact ⟨_,rfl,rfl,rfl⟩))
end De
end Go.Proofs
namespace Go.Proofs
namespace De
open Go.Pv Go.Pv.Df
def rcI (a b : List (List UInt8)) (i c : Nat) : Nat:=lc (a.take i).reverse (b.take c).reverse
def rcR (a b : List (List UInt8)) (i : Nat) : List Int:=(List.range (b.length + 1)).map fun c=>((rcI a b i c : Nat) : Int)
theorem rc_step (a b : List (List UInt8)) (i k : Nat) (hi : i < a.length) (hk : k < b.length) : rcI a b (i + 1) (k + 1) = if a[i]! = b[k]! then rcI a b i k + 1 else max (rcI a b i (k + 1)) (rcI a b (i + 1) k):=by
 unfold rcI
 rw [take_snoc hi, take_snoc hk, List.reverse_append, List.reverse_append]
 simp only [List.reverse_cons,List.reverse_nil,List.nil_append,List.singleton_append]
 rw [lc_cons]
theorem rc_le (a b : List (List UInt8)) (i k : Nat) : rcI a b i k ≤ a.length:=by
 have:=lc_le (a.take i).reverse (b.take k).reverse
 simp only [List.length_reverse,List.length_take] at this
 unfold rcI
 omega
set_option maxHeartbeats 8000000 in
theorem common_run (a b : List (List UInt8)) (f g : Bool) (ha : a.length ≤ 400) (hb : b.length ≤ 400) : Run Tryz.prog 88 [.sl 1 (a.map .str) f, .sl 1 (b.map .str) g] (.int .i64 ((lc a b : Nat) : Int)):=by
 refine Tryz.run88 (by simp) ?_
 unfold Tryz.c88
 have hz : AV.int .i64 0 :: List.replicate b.length (AV.int .i64 0) = (rcR a b 0).map (.int .i64):=by
  rw [← List.replicate_succ]
  apply List.ext_getElem
  ·simp [rcR]
  ·intro i h1 h2
   simp [rcR, rcI, lc_nil]
 have hz0 : (rcR a b 0).length = b.length + 1 ∧ (rcR a b 0)[0]! = 0:=by
  refine ⟨by simp [rcR], ?_⟩
  rw [getElem!_pos _ _ (by simp [rcR])]
  simp [rcR, rcI, lc_nil]
 simp (disch:=first|omega|(simp only[pvl];omega)) only [↓pvd,pva,pvr,bin2,binB2,un1,setCells,List.map,seval,reduceCtorEq,List.length_map,hz]
 refine aw_loop (fun i : Nat=>⟨[(0, .sl 1 (a.map .str) f), (1, .sl 1 (b.map .str) g), (5, .vec 0 1 0 (b.length + 1)), (6, .int .i64 i)], [some ⟨3, (rcR a b i).map (.int .i64), true⟩]⟩) (fun i=>i ≤ a.length) (fun i=>a.length - i) 0 ?_ (by omega) ?_
 ·simp (disch:=first|omega|(simp only[pvl];omega)) only [↓pvd,pva,pvr,bin2,binB2,un1,setCells,List.map,seval,reduceCtorEq,ids_map (int_pl .i64),ren_map (int_pl .i64)]
  try simp
 rintro i hi
 unfold Tryz.c88b1
 have hol : ∀ c, c ≤ b.length → ((rcR a b i).map (AV.int .i64))[c]? = some (.int .i64 ((rcI a b i c : Nat) : Int)):=fun c hc=>by
  simp [rcR, Nat.lt_succ_of_le hc]
 have hOl : ((rcR a b i).map (AV.int .i64)).length = b.length + 1:=by simp [rcR]
 have hOp : ((rcR a b i).map (AV.int .i64)).all AV.pl = true:=pl_map (int_pl .i64)
 by_cases hi2 : i < a.length
 ·have ga : (a.map AV.str)[i]? = some (.str a[i]!):=map_get hi2
  generalize hrow : (rcR a b i).map (AV.int .i64) = row at *
  simp (disch:=first|omega|(simp only[pvl];omega)) only [↓pvd,pva,pvr,bin2,binB2,un1,setCells,List.map,seval,reduceCtorEq,List.length_map,hz,ids_all hOp,ren_all hOp,ids_map (int_pl .i64),ren_map (int_pl .i64)]
  refine aw_loop (fun x : Nat × List Int=>⟨[(0, .sl 1 (a.map .str) f), (1, .sl 1 (b.map .str) g), (5, .vec 0 1 0 (b.length + 1)), (6, .int .i64 i), (7, .vec 1 1 0 (b.length + 1)), (8, .int .i64 x.1)], [some ⟨3, row, true⟩, some ⟨3, x.2.map (.int .i64), true⟩]⟩)
   (fun x=>x.1 ≤ b.length ∧ x.2.length = b.length + 1 ∧ ∀ c ≤ x.1, x.2[c]! = ((rcI a b (i + 1) c : Nat) : Int)) (fun x=>b.length - x.1) (0, rcR a b 0) ?_ ⟨by simp, hz0.1, ?_⟩ ?_
  ·simp (disch:=first|omega|(simp only[pvl];omega)) only [↓pvd,pva,pvr,bin2,binB2,un1,setCells,List.map,seval,reduceCtorEq,ids_all hOp,ren_all hOp,ids_map (int_pl .i64),ren_map (int_pl .i64)]
   try simp
  ·intro c hc
   have : c = 0:=by simpa using hc
   subst this
   rw [hz0.2]
   simp [rcI, lc_nil']
  rintro ⟨k, ys⟩ ⟨hk, hyl, hY⟩
  simp only at hk hyl hY
  unfold Tryz.c88b0
  simp only
  have hyl2 : (ys.map (AV.int .i64)).length = b.length + 1:=by simp [hyl]
  by_cases hk2 : k < b.length
  ·have gb : (b.map AV.str)[k]? = some (.str b[k]!):=map_get hk2
   have g1:=hol k (by omega)
   have g2:=hol (k + 1) (by omega)
   have Y0:=hY k (Nat.le_refl _)
   have g3 : (ys.map (AV.int .i64))[k]? = some (.int .i64 ((rcI a b (i + 1) k : Nat) : Int)):=by rw [map_get (by omega), Y0]
   have hst:=rc_step a b i k hi2 hk2
   have b1:=rc_le a b i k
   have b2:=rc_le a b i (k + 1)
   have b3:=rc_le a b (i + 1) k
   have fin : ∀ (v : Int) (ys' : List Int), v = ((rcI a b (i + 1) (k + 1) : Nat) : Int) → ys' = ys.set (k + 1) v → ys'.length = b.length + 1 ∧ ∀ c ≤ k + 1, ys'[c]! = ((rcI a b (i + 1) c : Nat) : Int):=fun v ys' hv h=>by
    subst h
    refine ⟨by simp [hyl], fun c hc=>?_⟩
    rw [getElem!_pos _ _ (by simp [hyl]; omega), List.getElem_set]
    by_cases e : k + 1 = c
    ·rw [if_pos e, hv, e]
    ·rw [if_neg e]
     have:=hY c (by omega)
     rwa [getElem!_pos ys c (by omega)] at this
   generalize rcI a b (i + 1) (k + 1) = V at *
   generalize rcI a b i k = v1 at *
   generalize rcI a b i (k + 1) = v2 at *
   generalize rcI a b (i + 1) k = v3 at *
   have hself : ∀ v : Int, ((ys.set (k + 1) v).map (AV.int .i64))[k + 1]? = some (.int .i64 v):=fun v=>by simp [hyl, hk2]
   by_cases heq : a[i]! = b[k]!
   ·rw [if_pos heq] at hst
    rw [heq] at ga
    by_cases hgt : (v3 : Int) < v2
    ·repeat' (first | (simp (disch:=first|omega|(simp only[pvl];omega)) only [↓pvd,pva,pvr,bin2,binB2,un1,setCells,List.map,seval,reduceCtorEq,List.length_map,ga,gb,g1,g2,g3,hself,set_int,hOl,hyl2,hyl,List.length_set,ids_all hOp,ren_all hOp,ids_map (int_pl .i64),ren_map (int_pl .i64),still]) | (with_reducible first|refine condP_d (fun _=>?_) (fun _=>?_)|refine guardP_d0 (fun _=>?_) (fun _=>?_)|refine guardP_d1 (fun _=>?_) (fun _=>?_)|refine condP_any ?_ ?_) | (refine Ends_rq [] ?_; simp (disch:=first|omega|(simp only[pvl];omega)) only [↓pvd,pva,pvr,bin2,binB2,un1,setCells,List.map,seval,reduceCtorEq]; exact ⟨_,rfl,rfl,rfl⟩))
     have f1:=fin ((v1 : Int) + 1) (((ys.set (k + 1) (v3 : Int)).set (k + 1) (v2 : Int)).set (k + 1) ((v1 : Int) + 1)) (by rw [hst]; omega) (by rw [List.set_set, List.set_set])
     exact ⟨(k + 1, ((ys.set (k + 1) (v3 : Int)).set (k + 1) (v2 : Int)).set (k + 1) ((v1 : Int) + 1)), by simp, ⟨by simp only; omega, f1.1, f1.2⟩, by simp only; omega⟩
    ·repeat' (first | (simp (disch:=first|omega|(simp only[pvl];omega)) only [↓pvd,pva,pvr,bin2,binB2,un1,setCells,List.map,seval,reduceCtorEq,List.length_map,ga,gb,g1,g2,g3,hself,set_int,hOl,hyl2,hyl,List.length_set,ids_all hOp,ren_all hOp,ids_map (int_pl .i64),ren_map (int_pl .i64),still]) | (with_reducible first|refine condP_d (fun _=>?_) (fun _=>?_)|refine guardP_d0 (fun _=>?_) (fun _=>?_)|refine guardP_d1 (fun _=>?_) (fun _=>?_)|refine condP_any ?_ ?_) | (refine Ends_rq [] ?_; simp (disch:=first|omega|(simp only[pvl];omega)) only [↓pvd,pva,pvr,bin2,binB2,un1,setCells,List.map,seval,reduceCtorEq]; exact ⟨_,rfl,rfl,rfl⟩))
     have f1:=fin ((v1 : Int) + 1) ((ys.set (k + 1) (v3 : Int)).set (k + 1) ((v1 : Int) + 1)) (by rw [hst]; omega) (by rw [List.set_set])
     exact ⟨(k + 1, (ys.set (k + 1) (v3 : Int)).set (k + 1) ((v1 : Int) + 1)), by simp, ⟨by simp only; omega, f1.1, f1.2⟩, by simp only; omega⟩
   ·rw [if_neg heq] at hst
    have heqf:=heq
    by_cases hgt : (v3 : Int) < v2
    ·repeat' (first | (simp (disch:=first|omega|(simp only[pvl];omega)) only [↓pvd,pva,pvr,bin2,binB2,un1,setCells,List.map,seval,reduceCtorEq,List.length_map,ga,gb,g1,g2,g3,hself,set_int,hOl,hyl2,hyl,heqf,List.length_set,ids_all hOp,ren_all hOp,ids_map (int_pl .i64),ren_map (int_pl .i64),still]) | (with_reducible first|refine condP_d (fun _=>?_) (fun _=>?_)|refine guardP_d0 (fun _=>?_) (fun _=>?_)|refine guardP_d1 (fun _=>?_) (fun _=>?_)|refine condP_any ?_ ?_) | (refine Ends_rq [] ?_; simp (disch:=first|omega|(simp only[pvl];omega)) only [↓pvd,pva,pvr,bin2,binB2,un1,setCells,List.map,seval,reduceCtorEq]; exact ⟨_,rfl,rfl,rfl⟩))
     have f1:=fin (v2 : Int) ((ys.set (k + 1) (v3 : Int)).set (k + 1) (v2 : Int)) (by rw [hst]; omega) (by rw [List.set_set])
     exact ⟨(k + 1, (ys.set (k + 1) (v3 : Int)).set (k + 1) (v2 : Int)), by simp, ⟨by simp only; omega, f1.1, f1.2⟩, by simp only; omega⟩
    ·repeat' (first | (simp (disch:=first|omega|(simp only[pvl];omega)) only [↓pvd,pva,pvr,bin2,binB2,un1,setCells,List.map,seval,reduceCtorEq,List.length_map,ga,gb,g1,g2,g3,hself,set_int,hOl,hyl2,hyl,heqf,List.length_set,ids_all hOp,ren_all hOp,ids_map (int_pl .i64),ren_map (int_pl .i64),still]) | (with_reducible first|refine condP_d (fun _=>?_) (fun _=>?_)|refine guardP_d0 (fun _=>?_) (fun _=>?_)|refine guardP_d1 (fun _=>?_) (fun _=>?_)|refine condP_any ?_ ?_) | (refine Ends_rq [] ?_; simp (disch:=first|omega|(simp only[pvl];omega)) only [↓pvd,pva,pvr,bin2,binB2,un1,setCells,List.map,seval,reduceCtorEq]; exact ⟨_,rfl,rfl,rfl⟩))
     have f1:=fin (v3 : Int) (ys.set (k + 1) (v3 : Int)) (by rw [hst]; omega) (by rfl)
     exact ⟨(k + 1, ys.set (k + 1) (v3 : Int)), by simp, ⟨by simp only; omega, f1.1, f1.2⟩, by simp only; omega⟩
  ·have ek : k = b.length:=by omega
   have hys : ys = rcR a b (i + 1):=by
    apply List.ext_getElem
    ·simp [rcR, hyl]
    ·intro c h1 h2
     have:=hY c (by omega)
     rw [getElem!_pos ys c h1] at this
     rw [this]
     simp [rcR]
   simp (disch:=first|omega|(simp only[pvl];omega)) only [↓pvd,pva,pvr,bin2,binB2,un1,setCells,List.map,seval,reduceCtorEq,List.length_map,ids_all hOp,ren_all hOp,ids_map (int_pl .i64),ren_map (int_pl .i64)]
   exact ⟨i + 1, by rw [hys]; simp, hi2, by omega⟩
 ·have ei : i = a.length:=by omega
  have g:=hol b.length (Nat.le_refl _)
  have hlc : rcI a b i b.length = lc a b:=by
   unfold rcI
   rw [ei, List.take_length, List.take_length, lc_rev]
  rw [hlc] at g
  simp (disch:=first|omega|(simp only[pvl];omega)) only [↓pvd,pva,pvr,bin2,binB2,un1,setCells,List.map,seval,reduceCtorEq,List.length_map,g,hOl]
  (refine Ends_rq [] ?_; simp (disch:=first|omega|(simp only[pvl];omega)) only [↓pvd,pva,pvr,bin2,binB2,un1,setCells,List.map,seval,reduceCtorEq]; exact ⟨_,rfl,rfl,rfl⟩)
end De
end Go.Proofs
