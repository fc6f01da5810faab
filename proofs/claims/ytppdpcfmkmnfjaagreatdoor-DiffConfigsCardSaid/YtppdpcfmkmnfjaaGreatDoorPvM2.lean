/- The machine of plain values: its rules, and that they are sound. -/
import Derived.Test.YtppdpcfmkmnfjaaGreatDoorPvM1
import Derived.Deep.LoopGhost
import Derived.Orders
import Derived.Scope
/-
 The machine of plain values, 11: append, copy, clear, and the mark of bytes.
-/
set_option linter.unusedSectionVars false
set_option linter.unusedSimpArgs false
set_option linter.unusedVariables false
namespace Go.Pv
section
variable {P:Program} {w w':World} {γ γ':Gh} {fr:Fr} {a:Act} {H H':Hp}
def cellsAt(w:World)(b o:Nat):Nat→List Value
 | 0=>[]
 | n+1=>(w.cell? ⟨b,o,none⟩).getD Go.undef :: cellsAt w b (o+1) n
theorem cellsAt_len(b:Nat):∀(n o:Nat),(cellsAt w b o n).length=n
 | 0,_=>rfl
 | n+1,o=>by simp [cellsAt,cellsAt_len b n (o+1)]
theorem cellsAt_get(b:Nat):∀(n o j:Nat),j < n →(cellsAt w b o n)[j]?=some ((w.cell? ⟨b,o+j,none⟩).getD Go.undef)
 | n+1,o,0,_=>rfl
 | n+1,o,j+1,h=>by
  have:=cellsAt_get b n (o+1) j (by omega)
  simp only[cellsAt,List.getElem?_cons_succ,this]
  rw [show o+1+j=o +(j+1) by omega]
theorem lies_cells{sz b o:Nat}{es:List AV}(h:LiesL w γ sz es b o):RowC w γ sz es (cellsAt w b o (es.length * sz)) ∧
  (∀(j:Nat) (u:Value),(cellsAt w b o (es.length * sz))[j]?=some u→w.cell? ⟨b,o+j,none⟩=some u∧u.oneCell'=true):=by
 have hlt:∀ i j,i < es.length→j < sz→i * sz+j < es.length * sz:=fun i j hi hj=>by
  have:(i+1) * sz≤es.length * sz:=Nat.mul_le_mul_right _ hi
  rw [Nat.add_mul,Nat.one_mul] at this
  omega
 refine⟨fun i x hx=>⟨(h i x hx).1,fun j y hy=>?_⟩,fun k u hk=>?_⟩
 ·obtain ⟨u,h1,h2,h3⟩:=(h i x hx).2 j y hy
  have hi:i < es.length:=(List.getElem?_eq_some_iff.1 hx).1
  have hj:j < sz:=by
   have:=(List.getElem?_eq_some_iff.1 hy).1
   rw [(h i x hx).1] at this; exact this
  refine⟨u,?_,h2,h3⟩
  rw [cellsAt_get b _ _ _ (hlt i j hi hj),← Nat.add_assoc,h1]; rfl
 ·have hk':k < es.length * sz:=by
   have:=(List.getElem?_eq_some_iff.1 hk).1
   rw [cellsAt_len] at this; exact this
  have hpos:0 < sz:=by
   rcases Nat.eq_zero_or_pos sz with h0 | h0
   ·rw [h0] at hk'; omega
   ·exact h0
  have hi:k / sz < es.length:=Nat.div_lt_of_lt_mul (by rw [Nat.mul_comm]; exact hk')
  have hmod:=Nat.mod_lt k hpos
  have hdm:=Nat.div_add_mod k sz
  obtain ⟨hl,hc⟩:=h (k / sz) _ (List.getElem?_eq_getElem hi)
  obtain ⟨v,h1,h2,_⟩:=hc (k % sz) _ (List.getElem?_eq_getElem (by omega))
  rw [show o+k / sz * sz+k % sz=o+k by rw [Nat.mul_comm (k / sz)]; omega] at h1
  rw [cellsAt_get b _ _ _ hk',h1] at hk
  cases hk
  exact⟨h1,h2⟩
theorem src_of(hh:HRel γ H w){X:AV}{x:Value}{es:List AV}{sz:Nat}{tx:TypeId}(hk:(∃ e',P.underlying tx=some (.slice e'))∨P.underlying tx=some .string)(hx:Sim w γ X x)(h:elems H X=some es)(hsz:szOk sz X=true) :
  ∃ news,Src P sz tx x es.length news w∧RowC w γ sz es news∧news.length=es.length * sz:=by
 rcases elems_lies hh hx h with ⟨s,rfl,rfl⟩ | ⟨A,cap,rfl,hcap,hA⟩
 ·rw [str_inv hx]
  simp only[szOk,beq_iff_eq] at hsz
  subst hsz
  have hl:=byteCells_length ⟨s.toArray⟩
  have hsize:(⟨s.toArray⟩:ByteArray).size=s.length:=size_mk s
  refine⟨byteCells ⟨s.toArray⟩,⟨hk,fun _=>by simp [Builtin.lenOf,hsize],?_,?_,by rw [hl,hsize]; simp,fun u hu=>?_⟩,?_,by rw [hl,hsize]; simp⟩
  ·have:=firstCells_string (P:=P) ⟨s.toArray⟩ w
   rw [List.length_map]; rw [hsize] at this; exact this
  ·have:=firstCells_string (P:=P) ⟨s.toArray⟩ w.drew
   rw [List.length_map]; rw [hsize] at this; exact this
  ·obtain ⟨_,_,rfl⟩:=List.mem_map.1 hu; rfl
  ·intro i y hy
   rw [List.getElem?_map] at hy
   obtain ⟨b,hb,rfl⟩:=Option.map_eq_some_iff.1 hy
   refine⟨rfl,fun j y hj=>?_⟩
   cases j with
   | succ j=>simp [bv,AV.flat] at hj
   | zero =>
    simp only[bv,AV.flat,List.getElem?_cons_zero,Option.some.injEq] at hj
    subst hj
    exact⟨.int .u8 b.toNat,by simp [byteCells,hb],rfl,.int _ _⟩
 ·have nil:es=[]→∃ news,Src P sz tx (.slice A es.length cap) es.length news w∧RowC w γ sz es news∧news.length=es.length * sz:=by
   rintro rfl
   refine⟨[],⟨hk,fun _=>rfl,?_,?_,by simp,fun _ h=>by cases h⟩,fun i x hx=>by simp at hx,by simp⟩
   ·cases A with
    | none=>exact run_firstCells_none w sz 0 0 cap
    | some ad=>exact run_firstCells_some w sz 0 ad 0 cap [] (by simp) (by simp)
   ·cases A with
    | none=>exact run_firstCells_none w.drew sz 0 0 cap
    | some ad=>exact run_firstCells_some w.drew sz 0 ad 0 cap [] (by simp) (by simp)
  rcases hA with h0 | ⟨sz',b,o,rfl,hl,hX⟩
  ·exact nil h0
  ·by_cases h0:es=[]
   ·exact nil h0
   have he:sz'=sz:=by
    rcases hX with ⟨id,off,len,rfl⟩ | ⟨full,rfl⟩
    ·simpa [szOk] using hsz
    ·simp only[szOk,Bool.or_eq_true,beq_iff_eq,List.isEmpty_iff] at hsz
     exact hsz.resolve_right h0
   subst he
   obtain ⟨h1,h2⟩:=lies_cells hl
   have h3:∀(j:Nat) (u:Value),(cellsAt w b o (es.length * sz'))[j]?=some u→w.cell? ((⟨b,o,none⟩:Addr).add j)=some u:=fun j u hj=>by rw [Addr.add_lit]; exact(h2 j u hj).1
   exact⟨_,⟨hk,fun _=>rfl,run_firstCells_some w sz' es.length _ _ _ _ (cellsAt_len _ _ _) h3,run_firstCells_some w.drew sz' es.length _ _ _ _ (cellsAt_len _ _ _) (by simpa using h3),cellsAt_len _ _ _,fun u hu=>by
    obtain ⟨k,hk⟩:=List.mem_iff_getElem?.1 hu
    exact(h2 k u hk).2⟩,h1,cellsAt_len _ _ _⟩
theorem grown_row(w:World){sz need old:Nat}{e:TypeId}{z:Value}{es:List AV}{cs:List Value}(hz:z.cells.size=sz)(hr:RowC w γ sz es cs)(hl:cs.length=need * sz) :
  RowC w γ sz es (cs.toArray ++ Builtin.zeroCells z.cells (grownCap w need old e - need)).toList ∧(cs.toArray ++ Builtin.zeroCells z.cells (grownCap w need old e - need)).size=grownCap w need old e * sz:=by
 refine⟨by simpa using hr.more _,?_⟩
 have:=grownCap_ge w need old e
 simp only[Array.size_append,List.size_toArray,size_zeroCells,hz,hl,← Nat.add_mul]
 congr 1; omega
theorem old_grow(γ:Gh)(w:World)(o:Obj):Old γ w (w.drew.alloc o):=⟨rfl,rfl,rfl,by simp,fun b hb _=>heap_alloc_old w.drew o hb⟩
set_option maxHeartbeats 1000000 in
theorem append_eff(hh:HRel γ H w){base:Nat}{r:Option Nat}{t tx e ty:TypeId}{X Y:AX}{vx vy:Value}{x:AV}(hx:Sim w γ (X.ev fr) vx)(hy:Sim w γ (Y.ev fr) vy)
  (ht:P.underlying t=some (.slice e)) (hk:(∃ e',P.underlying tx=some (.slice e'))∨P.underlying tx=some .string) (hz:((zeroOf P e).map (·.cells.size))=some (P.cellsOf e)) (hby:P.bytesOf e≤1000)
  (h:evE base r fr H (.append e (P.cellsOf e) (appLim P e) X Y)=some (x,H')):EffV P γ w (Builtin.append_ #[t,tx] ty #[vx,vy]) x H':=by
 obtain ⟨z,hz1,hz2⟩:=Option.map_eq_some_iff.1 hz
 obtain ⟨i,hi,hzz,hci,hbi⟩:=info_of_zero hz1
 simp only[evE] at h
 split at h
 case isFalse=>cases h
 rename_i hso
 obtain ⟨ys,hys,h⟩:=Option.bind_eq_some_iff.1 h
 obtain ⟨news,hsrc,hrow,hnl⟩:=src_of hh hk hy hys hso
 have hlim:=appLim_le P e
 have h5:=appLim_fits hby
 rw [hbi] at h5
 have fits:∀ {n c:Nat},n≤appLim P e→c < n→Builtin.nextslicecap n c * i.bytes≤281474976710656:=fun {n c} hn hc =>
  growslice_fits hc (Nat.le_trans (Nat.mul_le_mul_right _ hn) h5)
 -- a row behind all others
 have grow:∀(A:Option Addr) (len cap:Nat) (es:List AV) (olds:List Value),vx=.slice A len cap→es.length=len →(Builtin.firstCells i.size len (.slice A len cap)).run P w.drew=.ok olds.toArray w.drew→RowC w γ (P.cellsOf e) es olds→olds.length=len * P.cellsOf e →
   cap < len+ys.length →(len+ys.length:Int)≤9223372036854775807→Builtin.nextslicecap (len+ys.length) cap * i.bytes≤281474976710656→newVec base r H (P.cellsOf e) e (es ++ ys)=some (x,H')→EffV P γ w (Builtin.append_ #[t,tx] ty #[vx,vy]) x H':=by
  rintro A len cap es olds rfl hel hold hro hol hc hle hfit hn
  rw [hci] at hsrc
  have hrun:=run_append_grow_src (P:=P) w t tx ty e i z ht hi hzz A len cap olds hold vy ys.length news hsrc hc (by omega) hfit
  have hg:=grown_row (γ:=γ) w (need:=len+ys.length) (old:=cap) (e:=e) (z:=z) (sz:=P.cellsOf e) hz2 (hro.app hrow (by rw [hol,hel])) (by rw [List.length_append,hol,hnl,← Nat.add_mul])
  refine row_new hh hn (C:=grownCap w (len+ys.length) cap e) (fz:=(0,0)) (by rw [List.length_append,hel]; exact hrun) (old_grow _ _ _) (fun b hb=>heap_alloc_old w.drew _ hb) (heap_alloc_new w.drew _) hg.2 (.inl rfl) ?_ hg.1
  rw [List.length_append,hel]
  exact grownCap_ge _ _ _ _
 cases hXX:X.ev fr with
 | sl sz' es full =>
  rw [hXX] at h hx
  cases es with
  | nil =>
   cases full with
   | false=>cases h
   | true =>
    dsimp only at h
    split at h
    case isFalse=>cases h
    rename_i hl
    cases hx with
    | sl _ _ _ _ _ _ _ hp=>simp at hp
    | sl0 _ _ A cap hcap =>
    rw [hcap rfl] at *
    by_cases h0:ys=[]
    ·subst h0
     have hn0:news=[]:=List.eq_nil_of_length_eq_zero (by rw [hnl]; simp)
     subst hn0
     refine row_none hh h (A:=A) ?_
     have hs1:=hsrc.cells
     have hs2:=hsrc.len
     simp only[List.length_nil] at hs1 hs2
     rw [hci] at hs1
     rcases hk with ⟨e',hk⟩ | hk <;> cases A <;> simp [Builtin.append_,run_underlying ht,run_underlying hk,sizeOf,typeInfo,hi,hs1,hs2,storeCells]
    ·have hpos:0 < ys.length:=List.length_pos_iff.2 h0
     refine grow A 0 0 [] [] rfl rfl ?_ (fun i x hx=>by simp at hx) (by simp) (by omega) (by omega) (fits (by omega) (by omega)) (by simpa using h)
     cases A with
     | none=>exact run_firstCells_none w.drew _ 0 0 0
     | some ad=>exact run_firstCells_some w.drew _ 0 ad 0 0 [] (by simp) (by simp)
  | cons y0 es =>
   cases full with
   | false=>cases h
   | true =>
    dsimp only at h
    split at h
    case isFalse =>
     split at h
     case isFalse=>cases h
     rename_i hs0
     obtain ⟨rfl,rfl⟩:=hs0
     have hn0:news=[]:=List.eq_nil_of_length_eq_zero (by rw [hnl]; simp)
     subst hn0
     simp only[Option.some.injEq,Prod.mk.injEq] at h
     obtain ⟨rfl,rfl⟩:=h
     have hx':=hx
     cases hx with
     | sl _ _ _ b off cap U hp hc hf hb hi' hzs hcell hs =>
     rw [hci] at hsrc
     have hrun:=run_append_room_src (P:=P) w t tx ty e i ht hi b off (es.length+1) cap vy 0 [] hsrc (by simpa using hc) (fun j hj=>by simp at hj) (fun j hj=>by simp at hj)
     exact EffV.same hh (by simpa [World.setCells] using hrun) hx'
    rename_i hl
    obtain ⟨rfl,hne,hl⟩:=hl
    have hpos:0 < ys.length:=List.length_pos_iff.2 hne
    generalize hEL:y0 :: es=EL at *
    have hEl:EL.length=es.length+1:=by rw [← hEL]; simp
    cases hx with
    | sl0=>simp at hEl
    | sl _ _ _ b off cap U hp hc hf hb hi' hzs hcell hs =>
    have hlies:LiesL w γ (P.cellsOf e) EL b off:=fun i y hy=>⟨hzs y (List.mem_of_getElem? hy),fun j z hz=>⟨U i j,(hcell i y j z hy hz).1,(hcell i y j z hy hz).2,(hs i y j z hy hz).ofBare⟩⟩
    obtain ⟨h1,h2⟩:=lies_cells hlies
    have hcapE:=hf rfl
    have h':newVec base r H (P.cellsOf e) e (EL ++ ys)=some (x,H'):=h
    refine grow _ EL.length cap EL _ rfl rfl (run_firstCells_some w.drew i.size _ _ _ _ (cellsAt w b off (EL.length * P.cellsOf e)) (by rw [cellsAt_len,hci]) ?_) h1 (cellsAt_len _ _ _) (by omega) (by omega) (fits (by omega) (by omega)) h'
    intro j u hj
    rw [Addr.add_lit]
    have:=(h2 j u hj).1
    simpa using this
 | vec id sz' off len =>
  rw [hXX] at h hx
  dsimp only at h
  obtain ⟨en,he,hq⟩:=Option.bind_eq_some_iff.1 h
  clear h
  split at hq
  case isFalse =>
   split at hq
   case isFalse=>cases hq
   rename_i hc
   obtain ⟨hwr,rfl,hty,rfl,hle⟩:=hc
   simp only[Option.some.injEq,Prod.mk.injEq] at hq
   obtain ⟨rfl,rfl⟩:=hq
   cases hx with
   | vec _ _ _ _ A cap ge hm hzs hlC hcC hN hA =>
   obtain ⟨ge',hm',hok⟩:=hh.ok id en he
   rw [hm] at hm'; cases hm'
   have hst:=wr_live hok hwr
   simp only[Nat.add_zero] at hcC
   cases hg:ge.blk with
   | none =>
    have hC0:=hN hg
    have hcap0:cap=0:=by omega
    have hlen0:len=0:=by omega
    have hes:en.es=[]:=by
     rcases hok with h | h
     ·have:=h.1; rw [hst] at this; cases this
     ·rcases h.2 with h2 | ⟨g',_,_,h2,_⟩
      ·exact h2.2.1
      ·rw [hg] at h2; cases h2
    have hes0:en.es.length=0:=by rw [hes]; rfl
    have hy0:ys=[]:=List.eq_nil_of_length_eq_zero (by omega)
    subst hy0 hcap0 hlen0
    have hn0:news=[]:=List.eq_nil_of_length_eq_zero (by rw [hnl]; simp)
    subst hn0
    have hid:H.set id (some { en with es:=en.es.take 0 ++([] ++ en.es.drop (0 +([]:List AV).length)) })=H:=by
     simp only[List.take_zero,List.nil_append,List.length_nil,Nat.add_zero,List.drop_zero]
     apply List.ext_getElem?
     intro j
     by_cases hj:j=id
     ·subst hj
      have hlt:=ent_lt he
      rw [List.getElem?_set_self hlt]
      unfold ent at he
      rw [List.getElem?_eq_getElem hlt] at he ⊢
      simpa using he.symm
     ·rw [List.getElem?_set_ne (fun e=>hj e.symm)]
    rw [hid]
    have hs1:=hsrc.cells
    have hs2:=hsrc.len
    simp only[List.length_nil] at hs1 hs2
    rw [hci] at hs1
    refine EffV.of (v:=.slice A 0 0) (γ':=γ) (w':=w) ?_ (.vec id _ 0 0 A 0 ge hm hzs (by omega) (by omega) hN (fun g h=>by rw [hg] at h; cases h)) ⟨hh,Step.refl _ _,Ids.refl _⟩
    rcases hk with ⟨e',hk⟩ | hk <;> cases A <;> simp [Builtin.append_,run_underlying ht,run_underlying hk,sizeOf,typeInfo,hi,hs1,hs2,storeCells]
   | some g =>
    have hAg:=hA g hg (.inr rfl)
    subst hAg
    obtain ⟨cs,fz,hw,hs,hfz,hle',hro⟩:=placed hok hwr hg
    rw [hzs] at hs hro
    simp only[Nat.zero_mul] at *
    have hfit:len * P.cellsOf e+news.length≤cs.size:=by
     rw [hs,hnl,← Nat.add_mul]
     exact Nat.mul_le_mul_right _ (by omega)
    have hsrc':=hsrc
    rw [hci] at hsrc'
    have hrun:=run_append_room_src (P:=P) w t tx ty e i ht hi g 0 len cap vy ys.length news hsrc' (by omega) (fun j hj=>blk_cell hw (by rw [← hci]; omega)) (fun j hj=>blk_froz hw hfz (by rw [← hci]; omega))
    simp only[Nat.zero_add,← hci] at hrun
    obtain ⟨ds,hd1,hd2,hd3⟩:=setCells_blk news (len * P.cellsOf e) w cs hw hfit
    have hlay:=RowC.lay (k:=len) (ds:=ds.toList) hro hrow hnl (by omega) (fun k=>by
     rw [Array.getElem?_toList,hd3,Array.getElem?_toList]; simp)
    have key:=hrel_upd (w':=w.setCells g (len * P.cellsOf e) news) (e':={ en with es:=en.es.take len ++(ys ++ en.es.drop (len+ys.length)) }) hh he hm hst hg (old_set hm hst hg _ _) (setCells_same g news _ w).2.2.2.2 (fun ad=>by
     have:=RowC.ok (hlay.adv ad) hd1 (C:=ge.C) (by rw [hd2,hs]) (by rw [hd2]; exact hfz) (by simp; omega)
     obtain ⟨blk,sz,C,st⟩:=ge
     simp only at hg hst hzs
     subst hg hst hzs
     obtain ⟨ety,ees,ewr⟩:=en
     simp only at hwr
     subst hwr
     exact this)
    exact EffV.of hrun (.vec id _ 0 _ _ cap ge hm hzs (by omega) (by omega) hN (fun g' h _=>by rw [hg] at h; cases h; simp)) ⟨key.1,key.2,Ids.refl _⟩
  rename_i hc
  obtain ⟨hwr,rfl,hty,rfl,rfl,hl⟩:=hc
  cases hx with
  | vec _ _ _ _ A cap ge hm hzs hlC hcC hN hA =>
  obtain ⟨ge',hm',hok⟩:=hh.ok id en he
  rw [hm] at hm'; cases hm'
  have hst:=wr_live hok hwr
  simp only[Nat.add_zero] at hcC
  unfold newVec at hq
  obtain ⟨⟨id',H1⟩,hn,hxe⟩:=Option.map_eq_some_iff.1 hq
  simp only[Prod.mk.injEq] at hxe
  obtain ⟨rfl,rfl⟩:=hxe
  by_cases hroom:en.es.length+ys.length≤cap
  ·-- in place
   have hst':ge={ ge with st:=2 }:=by rw [← hst]
   cases hg:ge.blk with
   | none =>
    have hC0:=hN hg
    have hcap0:cap=0:=by omega
    have he0:en.es=[]:=List.eq_nil_of_length_eq_zero (by omega)
    have hy0:ys=[]:=List.eq_nil_of_length_eq_zero (by omega)
    subst hy0 hcap0
    have hn0:news=[]:=List.eq_nil_of_length_eq_zero (by rw [hnl]; simp)
    subst hn0
    rw [he0] at hn hroom ⊢
    have key:=hrel_renew (w':=w) hh he hm hst hn (ge':=ge) hst ⟨rfl,rfl,rfl,Nat.le_refl _,fun _ _ _=>rfl⟩ (fun _ _ _=>rfl) (fun g h=>by rw [hg] at h; cases h) (fun _=>.inr ⟨by rw [hst]; rfl,.inl ⟨hg,rfl,hC0⟩⟩)
    refine EffV.of (v:=.slice A 0 0) ?_ (.vec id' _ 0 0 A 0 ge (Gh.add_same _ _ _) hzs (by omega) (by omega) hN (fun g h=>by rw [hg] at h; cases h)) key
    have hs1:=hsrc.cells
    have hs2:=hsrc.len
    simp only[List.length_nil] at hs1 hs2
    rw [hci] at hs1
    rcases hk with ⟨e',hk⟩ | hk <;> cases A <;> simp [Builtin.append_,run_underlying ht,run_underlying hk,sizeOf,typeInfo,hi,hs1,hs2,storeCells]
   | some g =>
    have hAg:=hA g hg (.inr rfl)
    subst hAg
    obtain ⟨cs,fz,hw,hs,hfz,hle,hro⟩:=placed hok hwr hg
    rw [hzs] at hs hro
    simp only[Nat.zero_mul] at *
    have hfit:en.es.length * P.cellsOf e+news.length≤cs.size:=by
     rw [hs,hnl,← Nat.add_mul]
     exact Nat.mul_le_mul_right _ (by omega)
    have hsrc':=hsrc
    rw [hci] at hsrc'
    have hrun:=run_append_room_src (P:=P) w t tx ty e i ht hi g 0 en.es.length cap vy ys.length news hsrc' hroom (fun j hj=>blk_cell hw (by rw [← hci]; omega)) (fun j hj=>blk_froz hw hfz (by rw [← hci]; omega))
    simp only[Nat.zero_add,← hci] at hrun
    obtain ⟨ds,hd1,hd2,hd3⟩:=setCells_blk news (en.es.length * P.cellsOf e) w cs hw hfit
    have hlay:=hro.lay hrow hnl (Nat.le_refl _) (ds:=ds.toList) (fun k=>by
     rw [Array.getElem?_toList,hd3,Array.getElem?_toList]; simp)
    rw [List.take_length,List.drop_eq_nil_of_le (by omega),List.append_nil] at hlay
    have key:=hrel_renew (w':=w.setCells g (en.es.length * P.cellsOf e) news) hh he hm hst hn (ge':=ge) hst (old_set hm hst hg _ _) (fun b _ hb=>(setCells_same g news _ w).2.2.2.2 b (fun e=>by subst e; rcases hb with hb | hb <;> exact hb hg)) (fun g' h=>.inr h) (fun ad=>by
     have:=RowC.ok (hlay.adv ad) hd1 (by rw [hd2,hs]) (by rw [hd2]; exact hfz) (by rw [List.length_append]; omega)
     rw [← hty] at this
     obtain ⟨blk,sz,C,st⟩:=ge
     simp only at hg hst hzs
     subst hg hst hzs
     exact this)
    refine EffV.of hrun ?_ key
    rw [List.length_append]
    exact .vec id' _ 0 _ _ cap ge (Gh.add_same _ _ _) hzs (by omega) (by omega) hN (fun g' h _=>by rw [hg] at h; cases h; simp)
  ·-- anew
   have hlen:en.es.length+ys.length≤appLim P e:=by omega
   rw [hci] at hsrc
   have cells:∃ olds:List Value,(Builtin.firstCells i.size en.es.length (.slice A en.es.length cap)).run P w.drew=.ok olds.toArray w.drew∧RowC w γ (P.cellsOf e) en.es olds∧olds.length=en.es.length * P.cellsOf e:=by
    by_cases h0:en.es=[]
    ·refine⟨[],?_,by rw [h0]; intro i x hx; simp at hx,by rw [h0]; simp⟩
     rw [h0]
     cases A with
     | none=>exact run_firstCells_none w.drew _ 0 0 cap
     | some ad=>exact run_firstCells_some w.drew _ 0 ad 0 cap [] (by simp) (by simp)
    ·cases hg:ge.blk with
     | none =>
      have:=hN hg
      exact absurd (List.eq_nil_of_length_eq_zero (by omega)) h0
     | some g =>
      have hAg:=hA g hg (.inr rfl)
      subst hAg
      obtain ⟨cs,fz,hw,hs,hfz,hle,hro⟩:=placed hok hwr hg
      have hlies:LiesL w γ (P.cellsOf e) en.es g 0:=fun i y hy=>by
       have:=hok.lies hg hy
       rw [hzs] at this
       refine⟨?_,by simpa using this⟩
       rw [← hzs]; exact(hro i y hy).1
      obtain ⟨h1,h2⟩:=lies_cells hlies
      refine⟨_,run_firstCells_some w.drew i.size _ _ _ _ (cellsAt w g 0 (en.es.length * P.cellsOf e)) (by rw [cellsAt_len,hci]) ?_,h1,cellsAt_len _ _ _⟩
      intro j u hj
      rw [Addr.add_lit]
      have:=(h2 j u hj).1
      simpa using this
   obtain ⟨olds,hold,hro,hol⟩:=cells
   have hrun:=run_append_grow_src (P:=P) w t tx ty e i z ht hi hzz A en.es.length cap olds hold vy ys.length news hsrc (by omega) (by omega) (fits hlen (by omega))
   have hg:=grown_row (γ:=γ) w (need:=en.es.length+ys.length) (old:=cap) (e:=e) (z:=z) (sz:=P.cellsOf e) hz2 (hro.app hrow (by rw [hol])) (by rw [List.length_append,hol,hnl,← Nat.add_mul])
   have key:=hrel_renew (w':=w.drew.alloc _) hh he hm hst hn (ge':=⟨some w.heap.size,P.cellsOf e,grownCap w (en.es.length+ys.length) cap e,2⟩) rfl (old_grow _ _ (.cells _ e)) (fun b hb _=>heap_alloc_old w.drew _ hb) (fun g' h=>.inl (by cases h; exact Nat.le_refl _)) (fun ad =>
    RowC.ok (fz:=(0,0)) (hg.1.adv ad) (heap_alloc_new w.drew _) hg.2 (.inl rfl) (by rw [List.length_append]; exact grownCap_ge _ _ _ _))
   refine EffV.of hrun ?_ key
   rw [List.length_append]
   exact .vec id' _ 0 _ _ _ _ (Gh.add_same _ _ _) rfl (by simpa using grownCap_ge w (en.es.length+ys.length) cap e) rfl (fun h=>by cases h) (fun g' h _=>by cases h; simp)
 | _=>rw [hXX] at h; cases h
theorem copy_eff(hh:HRel γ H w){base:Nat}{r:Option Nat}{t tx e ty:TypeId}{X Y:AX}{vx vy:Value}{x:AV}(hx:Sim w γ (X.ev fr) vx)(hy:Sim w γ (Y.ev fr) vy)
  (ht:P.underlying t=some (.slice e)) (hk:∃ e',P.underlying tx=some (.slice e')) (hsz:P.cellsOf e=1)
  (h:evE base r fr H (.copy (P.cellsOf e) X Y)=some (x,H')):EffV P γ w (Builtin.copy_ #[t,tx] ty #[vx,vy]) x H':=by
 have hie:∃ i,P.info? e=some i∧i.size=1:=by
  cases hi:P.info? e with
  | none=>simp [Program.cellsOf,hi] at hsz
  | some i=>exact⟨i,rfl,by simpa [Program.cellsOf,hi] using hsz⟩
 obtain ⟨i,hi,hi1⟩:=hie
 have hmap:(P.info? e).map (·.size)=some 1:=by simp [hi,hi1]
 simp only[evE] at h
 split at h
 case isFalse=>cases h
 rename_i hso
 obtain ⟨ys,hys,hq⟩:=Option.bind_eq_some_iff.1 h
 clear h
 rcases elems_lies hh hy hys with ⟨s,hYs,_⟩ | ⟨A,scap,rfl,hscap,hA⟩
 ·rw [hYs] at hso; exact absurd hso.2 (by simp [notStr])
 cases hXX:X.ev fr with
 | sl sz' es full =>
  rw [hXX] at hq hx
  cases es with
  | cons _ _=>cases hq
  | nil =>
   cases hq
   cases hx with
   | sl _ _ _ _ _ _ _ hp=>simp at hp
   | sl0 _ _ B cap hcap =>
   refine EffV.same hh (run_copy_none (P:=P) w t tx ty e B A 0 cap ys.length scap ht hmap (Nat.min_zero _)) (.int _ _)
 | vec id sz' off len =>
  rw [hXX] at hq hx
  dsimp only at hq
  obtain ⟨en,he,hq⟩:=Option.bind_eq_some_iff.1 hq
  split at hq
  case isFalse=>cases hq
  rename_i hc
  obtain ⟨hwr,hs1,hle⟩:=hc
  simp only[Option.some.injEq,Prod.mk.injEq] at hq
  obtain ⟨rfl,rfl⟩:=hq
  cases hx with
  | vec _ _ _ _ B cap ge hm hzs hlC hcC hN hB =>
  obtain ⟨ge',hm',hok⟩:=hh.ok id en he
  rw [hm] at hm'; cases hm'
  have hst:=wr_live hok hwr
  by_cases h0:min ys.length len=0
  ·refine EffV.of (run_copy_none (P:=P) w t tx ty e B A len cap ys.length scap ht hmap h0) (by rw [show min (ys.length:Int) (len:Int) =((0:Nat):Int) by omega]; exact .int _ _) (γ':=γ) ?_
   have htk:ys.take len=[]:=List.eq_nil_of_length_eq_zero (by rw [List.length_take]; omega)
   have hes:en.es.take off ++(ys.take len ++ en.es.drop (off+min ys.length len))=en.es:=by rw [htk,h0]; simp
   rw [hes]
   have:H.set id (some en)=H:=by
    apply List.ext_getElem?
    intro j
    by_cases hj:j=id
    ·subst hj
     have hlt:=ent_lt he
     rw [List.getElem?_set_self hlt]
     unfold ent at he
     rw [List.getElem?_eq_getElem hlt] at he ⊢
     simpa using he.symm
    ·rw [List.getElem?_set_ne (fun e=>hj e.symm)]
   rw [show({ ty:=en.ty,es:=en.es,wr:=en.wr }:Ent)=en from rfl,this]
   exact⟨hh,Step.refl _ _,Ids.refl _⟩
  ·have hyne:ys≠[]:=by rintro rfl; simp at h0
   obtain ⟨szY,b,o,hAe,hl,hY⟩:=hA.resolve_left hyne
   have hszY:szY=1:=by
    have:=hso.1
    rcases hY with ⟨id,off,len,hY⟩ | ⟨full,hY⟩ <;> rw [hY] at this
    ·rw [hsz] at this; simpa [szOk] using this
    ·simp only[szOk,Bool.or_eq_true,beq_iff_eq,List.isEmpty_iff] at this
     rw [hsz] at this
     exact this.resolve_right hyne
   subst hszY hAe
   have hls:LiesL w γ 1 (ys.take len) b o:=fun k y hy=>hl k y (by rw [List.getElem?_take] at hy; split at hy; exact hy; cases hy)
   obtain ⟨h1,h2⟩:=lies_cells hls
   have htl:(ys.take len).length=min ys.length len:=by rw [List.length_take]; exact Nat.min_comm _ _
   cases hg:ge.blk with
   | none=>have:=hN hg; omega
   | some g =>
    have hBg:=hB g hg (.inl (by omega))
    subst hBg
    obtain ⟨cs,fz,hw,hs,hfz,hle',hro⟩:=placed hok hwr hg
    rw [hzs,← hs1,hsz] at hs hro
    rw [← hs1,hsz,Nat.mul_one]
    rw [Nat.mul_one] at hs h1 h2
    have hlen:=cellsAt_len (w:=w) b (ys.take len).length o
    have hfit:off +(cellsAt w b o (ys.take len).length).length≤cs.size:=by rw [hlen,htl]; omega
    have hrun:=run_copy_cells (P:=P) w t tx ty e g off len cap ⟨b,o,none⟩ ys.length scap (cellsAt w b o (ys.take len).length) ht hmap (by rw [hlen,htl]) (fun j u hj=>by rw [Addr.add_lit]; exact(h2 j u hj).1)
     (fun j hj=>blk_cell hw (by omega)) (fun j hj=>blk_froz hw hfz (by omega)) (fun u hu=>by
       obtain ⟨k,hk⟩:=List.mem_iff_getElem?.1 hu
       exact(h2 k u hk).2)
    obtain ⟨ds,hd1,hd2,hd3⟩:=setCells_blk (cellsAt w b o (ys.take len).length) off w cs hw hfit
    have hlay:=RowC.lay (k:=off) (ds:=ds.toList) hro h1 (by rw [hlen,Nat.mul_one]) (by omega) (fun k=>by
     rw [Array.getElem?_toList,hd3,Array.getElem?_toList,Nat.mul_one]; simp)
    rw [htl] at hlay
    have key:=hrel_upd (w':=w.setCells g off (cellsAt w b o (ys.take len).length)) (e':={ en with es:=en.es.take off ++(ys.take len ++ en.es.drop (off+min ys.length len)) }) hh he hm hst hg (old_set hm hst hg _ _) (setCells_same g _ off w).2.2.2.2 (fun ad=>by
     have:=RowC.ok (hlay.adv ad) hd1 (C:=ge.C) (by rw [hd2,hs,Nat.mul_one]) (by rw [hd2]; exact hfz) (by simp; omega)
     obtain ⟨blk,sz,C,st⟩:=ge
     simp only at hg hst hzs
     rw [← hs1,hsz] at hzs
     subst hg hst hzs
     obtain ⟨ety,ees,ewr⟩:=en
     simp only at hwr
     subst hwr
     exact this)
    have e1:goInt (cellsAt w b o (ys.take len).length).length=.int .i64 (min (ys.length:Int) (len:Int)):=by
     rw [hlen,htl,show min (ys.length:Int) (len:Int) =((min ys.length len:Nat):Int) by omega]; rfl
    rw [e1] at hrun
    exact EffV.of hrun (.int _ _) ⟨key.1,key.2,Ids.refl _⟩
 | _=>rw [hXX] at hq; cases hq
end
end Go.Pv
/-
 The machine of plain values,12: clear,the mark of bytes,and all that makes or writes memory.
-/
namespace Go.Pv
section
variable {P:Program} {w w':World} {γ γ':Gh} {fr:Fr} {a:Act} {H H':Hp}
theorem set_self{id:Nat}{e:Ent}(he:ent H id=some e):H.set id (some e)=H:=by
 apply List.ext_getElem?
 intro j
 by_cases hj:j=id
 ·subst hj
  have hlt:=ent_lt he
  rw [List.getElem?_set_self hlt]
  unfold ent at he
  rw [List.getElem?_eq_getElem hlt] at he ⊢
  simpa using he.symm
 ·rw [List.getElem?_set_ne (fun e=>hj e.symm)]
theorem zero_row'{z:Value}(ho:z.cells.all oneV=true)(n:Nat):RowC w γ z.cells.size (List.replicate n (ofZero z)) (Builtin.zeroCells z.cells n).toList∧∀ u ∈(Builtin.zeroCells z.cells n).toList,u.oneCell'=true:=by
 have e:(Builtin.zeroCells z.cells n).toList =(madeCells z.cells (n * z.cells.size)).toList:=rfl
 rw [e]
 refine⟨zero_row ho (Nat.le_refl _),fun u hu=>?_⟩
 obtain ⟨k,hk⟩:=List.mem_iff_getElem?.1 hu
 simp only[madeCells,Array.getElem?_toList,Array.getElem?_map,Option.map_eq_some_iff] at hk
 obtain ⟨j,hj,rfl⟩:=hk
 have hlt:j < n * z.cells.size:=by
  have h1:=(Array.getElem?_eq_some_iff.1 hj)
  obtain ⟨h1,h2⟩:=h1
  simp at h1 h2; omega
 have hpos:0 < z.cells.size:=by
  rcases Nat.eq_zero_or_pos z.cells.size with h0 | h0
  ·rw [h0] at hlt; omega
  ·exact h0
 have hm:=Nat.mod_lt j hpos
 rw [getElem!_pos z.cells _ hm,← oneV_eq]
 exact(Array.all_eq_true_iff_forall_mem.1 ho) _ (Array.getElem_mem hm)
theorem clear_eff(hh:HRel γ H w){base:Nat}{r:Option Nat}{t e ty:TypeId}{z:Value}{X:AX}{vx:Value}{x:AV}(hx:Sim w γ (X.ev fr) vx)
  (ht:P.underlying t=some (.slice e)) (hz:zeroOf P e=some z) (hsz:z.cells.size=P.cellsOf e) (ho:z.cells.all oneV=true)
  (h:evE base r fr H (.clear (P.cellsOf e) (ofZero z) X)=some (x,H')):EffV P γ w (Builtin.clear_ #[t] ty #[vx]) x H':=by
 simp only[evE] at h
 have none0:∀(A:Option Addr) (len cap:Nat),A=none∨len=0 →(Builtin.clear_ #[t] ty #[.slice A len cap]).run P w=.ok (.tuple #[]) w:=by
  intro A len cap h
  rcases h with rfl | rfl
  ·simp [Builtin.clear_,run_underlying ht]
  ·cases A <;> simp [Builtin.clear_,run_underlying ht]
 cases hXX:X.ev fr with
 | sl sz' es full =>
  rw [hXX] at h hx
  cases es with
  | cons _ _=>cases h
  | nil =>
   cases h
   cases hx with
   | sl _ _ _ _ _ _ _ hp=>simp at hp
   | sl0 _ _ B cap hcap=>exact EffV.same hh (none0 _ _ _ (.inr rfl)) (.undef _)
 | vec id sz' off len =>
  rw [hXX] at h hx
  dsimp only at h
  obtain ⟨en,he,hq⟩:=Option.bind_eq_some_iff.1 h
  clear h
  split at hq
  case isFalse=>cases hq
  rename_i hc
  obtain ⟨hwr,hs1,hle⟩:=hc
  simp only[Option.some.injEq,Prod.mk.injEq] at hq
  obtain ⟨rfl,rfl⟩:=hq
  cases hx with
  | vec _ _ _ _ B cap ge hm hzs hlC hcC hN hB =>
  obtain ⟨ge',hm',hok⟩:=hh.ok id en he
  rw [hm] at hm'; cases hm'
  have hst:=wr_live hok hwr
  by_cases h0:len=0
  ·subst h0
   have hes:en.es.take off ++(List.replicate 0 (ofZero z) ++ en.es.drop (off+0))=en.es:=by simp
   rw [hes,show({ ty:=en.ty,es:=en.es,wr:=en.wr }:Ent)=en from rfl,set_self he]
   exact EffV.same hh (none0 _ _ _ (.inr rfl)) (.undef _)
  ·cases hg:ge.blk with
   | none=>have:=hN hg; omega
   | some g =>
    have hBg:=hB g hg (.inl (by omega))
    subst hBg
    obtain ⟨cs,fz,hw,hs,hfz,hle',hro⟩:=placed hok hwr hg
    obtain ⟨hz1,hz2⟩:=zero_row' (w:=w) (γ:=γ) ho len
    rw [hzs,← hs1] at hs hro
    rw [hsz] at hz1
    have hlen:(Builtin.zeroCells z.cells len).toList.length=len * P.cellsOf e:=by rw [Array.length_toList,size_zeroCells,hsz]
    have hfit:off * P.cellsOf e +(Builtin.zeroCells z.cells len).toList.length≤cs.size:=by
     rw [hlen,hs,← Nat.add_mul]; exact Nat.mul_le_mul_right _ (by omega)
    have hst0:=run_storeCells_cells (P:=P) g (off * P.cellsOf e) (Builtin.zeroCells z.cells len).toList 0 w (fun j hj=>blk_cell hw (by omega)) (fun j hj=>blk_froz hw hfz (by omega)) hz2
    simp only[Nat.add_zero] at hst0
    obtain ⟨m,rfl⟩:∃ m,len=m+1:=⟨len - 1,by omega⟩
    have hrun:(Builtin.clear_ #[t] ty #[.slice (some ⟨g,off * sz',none⟩) (m+1) cap]).run P w=.ok (.tuple #[]) (w.setCells g (off * P.cellsOf e) (Builtin.zeroCells z.cells (m+1)).toList):=by
     rw [← hs1]
     simp [Builtin.clear_,run_underlying ht,zero_run hz,hst0]
    obtain ⟨ds,hd1,hd2,hd3⟩:=setCells_blk _ (off * P.cellsOf e) w cs hw hfit
    have hlay:=RowC.lay (k:=off) (ds:=ds.toList) hro hz1 (by rw [hlen]; simp) (by omega) (fun k=>by
     rw [Array.getElem?_toList,hd3,Array.getElem?_toList]; simp)
    rw [List.length_replicate] at hlay
    have key:=hrel_upd (w':=w.setCells g (off * P.cellsOf e) _) (e':={ en with es:=en.es.take off ++(List.replicate (m+1) (ofZero z) ++ en.es.drop (off +(m+1))) }) hh he hm hst hg (old_set hm hst hg _ _) (setCells_same g _ _ w).2.2.2.2 (fun ad=>by
     have:=RowC.ok (hlay.adv ad) hd1 (C:=ge.C) (by rw [hd2,hs]) (by rw [hd2]; exact hfz) (by simp; omega)
     obtain ⟨blk,sz,C,st⟩:=ge
     simp only at hg hst hzs
     rw [← hs1] at hzs
     subst hg hst hzs
     obtain ⟨ety,ees,ewr⟩:=en
     simp only at hwr
     subst hwr
     exact this)
    exact EffV.of hrun (.undef _) ⟨key.1,key.2,Ids.refl _⟩
 | _=>rw [hXX] at h; cases h
theorem freeze_blk{g n:Nat}{cs:Array Value}{t:TypeId}{fz:Nat × Nat}(hw:w.heap[g]?=some (.cells cs t fz)) :
  (w.freeze ⟨g,n,none⟩ 1).heap[g]?=some (.cells cs t (if fz.1 == fz.2 then(n,n+1) else(min fz.1 n,max fz.2 (n+1)))):=by
 obtain ⟨lo,hi⟩:=fz
 unfold World.freeze
 rw [if_neg (by decide)]
 simp only[Array.getElem?_modify,if_true,hw,Option.map_some]
theorem freeze_same(g n:Nat):(w.freeze ⟨g,n,none⟩ 1).os=w.os ∧(w.freeze ⟨g,n,none⟩ 1).tape=w.tape ∧(w.freeze ⟨g,n,none⟩ 1).output=w.output ∧(w.freeze ⟨g,n,none⟩ 1).heap.size=w.heap.size∧∀ b,b≠g →(w.freeze ⟨g,n,none⟩ 1).heap[b]?=w.heap[b]?:=by
 unfold World.freeze
 rw [if_neg (by decide)]
 exact⟨rfl,rfl,rfl,by simp,fun b hb=>by simp only[Array.getElem?_modify]; rw [if_neg (fun e=>hb e.symm)]⟩
theorem mark_eff(hh:HRel γ H w){base:Nat}{r:Option Nat}{t e:TypeId}{X:AX}{vx:Value}{x:AV}(hx:Sim w γ (X.ev fr) vx)
  (ht:P.underlying t=some (.slice e)) (hu:P.underlying e=some (.int .u8))
  (h:evE base r fr H (.mark X)=some (x,H')):EffV P γ w (convert t t vx) x H':=by
 simp only[evE] at h
 cases hXX:X.ev fr with
 | vec id sz' off len =>
  rw [hXX] at h hx
  dsimp only at h
  obtain ⟨en,he,hq⟩:=Option.bind_eq_some_iff.1 h
  clear h
  split at hq
  case isFalse=>cases hq
  rename_i hc
  obtain ⟨hwr,rfl,hne⟩:=hc
  simp only[Option.some.injEq,Prod.mk.injEq] at hq
  obtain ⟨rfl,rfl⟩:=hq
  have hx':=hx
  cases hx with
  | vec _ _ _ _ B cap ge hm hzs hlC hcC hN hB =>
  obtain ⟨ge',hm',hok⟩:=hh.ok id en he
  rw [hm] at hm'; cases hm'
  have hst:=wr_live hok hwr
  have hpos:0 < en.es.length:=List.length_pos_iff.2 hne
  cases hg:ge.blk with
  | none =>
   rcases (hok.live (.inl hwr)).2 with ⟨_,h1,_⟩ | ⟨g,cs,fr,h1,_⟩
   ·exact absurd h1 hne
   ·rw [h1] at hg; cases hg
  | some g =>
   have hBg:=hB g hg (.inr rfl)
   subst hBg
   obtain ⟨cs,fz,hw,hs,hfz,hle',hro⟩:=placed hok hwr hg
   obtain ⟨f1,f2,f3,f4,f5⟩:=freeze_same (w:=w) g cs.size
   have hrun:(convert t t (.slice (some ⟨g,0 * sz',none⟩) len cap)).run P w=.ok (.slice (some ⟨g,0 * sz',none⟩) len cap) (w.freeze ⟨g,cs.size,none⟩ 1):=by
    have hsh:w.shape? g=some (en.ty,cs.size):=by simp [World.shape?,hw]
    simp [convert,run_underlying ht,run_underlying hu,markStringish,hsh]
   have key:=hrel_upd (w':=w.freeze ⟨g,cs.size,none⟩ 1) (e':=en) hh he hm hst hg ⟨f1,f2,f3,by omega,fun b _ hb=>f5 b fun e=>hb (by subst e; exact⟨id,ge,hm,hst,hg⟩)⟩ f5 (fun ad=>by
    have:=RowC.ok (hro.adv ad) (freeze_blk (n:=cs.size) hw) hs (by split <;> simp_all <;> omega) hle'
    obtain ⟨blk,sz,C,st⟩:=ge
    simp only at hg hst hzs
    subst hg hst hzs
    obtain ⟨ety,ees,ewr⟩:=en
    simp only at hwr
    subst hwr
    exact this)
   rw [set_self he] at key
   exact EffV.of hrun (hx'.adv (key.2.adv (Ids.refl _) hh.imm)) ⟨key.1,key.2,Ids.refl _⟩
 | _=>rw [hXX] at h; cases h
def EffN(P:Program)(γ:Gh)(w:World)(s:Sem Next)(x:AV)(H':Hp):Prop :=
 ∃ nx w' γ',s.run P w=.ok nx w' ∧((∃ v,nx=.value v∧Sim w' γ' x v)∨nx=.skip∧x=.undef)∧HRel γ' H' w'∧Step γ γ' w w'∧Ids γ γ'
theorem EffV.next{s:Sem Value}{x:AV}(h:EffV P γ w s x H'):EffN P γ w (do pure (.value (← s)):Sem Next) x H':=by
 obtain ⟨v,w',γ',hr,hs,h⟩:=h
 exact⟨.value v,w',γ',by simp [hr],.inl ⟨v,rfl,hs⟩,h⟩
theorem EffN.congr{s s':Sem Next}{x:AV}(e:s'.run P w=s.run P w)(h:EffN P γ w s x H'):EffN P γ w s' x H':=by
 unfold EffN at h ⊢
 rw [e]; exact h
theorem u8_of{e:TypeId}(hu:isU8 P e=true):P.underlying e=some (.int .u8):=by
 unfold isU8 at hu
 split at hu
 ·assumption
 ·cases hu
theorem evE_sound(hf:FrR w γ fr a.tmps)(hh:HRel γ H w){o:Oper}{d:Bool}{base:Nat}{r r':Option Nat}{q:OpE}(hc:compOp P d r o=.e q r'){x:AV}(hx:evE base r' fr H q=some (x,H')) :
  EffN P γ w (execOp a.eval o) x H':=by
 obtain ⟨dst,op,ty,pos,after,guard⟩:=o
 have S:=fun y=>cx_sim hf y (γ:=γ)
 cases op with
 | alloc t =>
  simp only[compOp] at hc
  split at hc
  ·rename_i z hz
   split at hc
   ·rename_i ho
    cases hc
    exact(alloc_eff hh hz ho hx).next
   ·cases hc
  ·cases hc
 | box t y =>
  cases hc
  simp only[evE] at hx
  split at hx
  ·rename_i ho
   exact(box_eff hh (S y) ho hx).next
  ·cases hx
 | buildSlice t n parts =>
  simp only[compOp] at hc
  split at hc
  ·rename_i e ht
   split at hc
   ·rename_i z hz
    split at hc
    ·rename_i hok
     cases hc
     exact(mks_eff hh hf ht hz hok.1 hok.2.1 hok.2.2 hx).next
    ·cases hc
   ·cases hc
  ·cases hc
 | store t y v =>
  simp only[compOp] at hc
  split at hc
  ·rename_i hok
   cases hc
   obtain ⟨w',γ',hr,hu,h⟩:=store_eff hh hf hok hx
   exact⟨.skip,w',γ',by simp [execOp,hr],.inr ⟨rfl,hu⟩,h⟩
  ·cases hc
 | makeSlice t l c =>
  simp only[compOp] at hc
  split at hc
  ·rename_i e ht
   split at hc
   ·rename_i z hz
    split at hc
    ·rename_i hok
     cases hc
     exact(make_eff hh hf ht hz hok.1 hok.2.1 hok.2.2 hx).next
    ·cases hc
   ·cases hc
  ·cases hc
 | convert s d y =>
  simp only[compOp] at hc
  split at hc
  ·cases hc
  ·cases hc
  ·split at hc <;> cases hc
  ·rename_i e hs hd
   split at hc
   ·rename_i hu
    cases hc
    exact(s2b_eff hh hs hd (u8_of hu) (S y) hx).next
   ·cases hc
  ·rename_i e' e hs hd
   split at hc
   ·rename_i hu
    cases hc
    simp only[Bool.and_eq_true,beq_iff_eq] at hu
    obtain ⟨hu,rfl⟩:=hu
    exact(mark_eff hh (S y) hd (u8_of hu) hx).next
   ·cases hc
  ·cases hc
 | call c =>
  obtain ⟨callee,args,ts⟩:=c
  cases callee with
  | value f=>cases f <;> simp only[compOp] at hc <;> repeat' (first | (cases hc; done) | split at hc)
  | invoke=>cases hc
  | builtin b =>
   have hargs:args =⟨args.toList⟩:=rfl
   have hts:ts =⟨ts.toList⟩:=rfl
   simp only[compOp] at hc
   split at hc
   ·repeat' (first | (cases hc; done) | split at hc)
   ·rename_i y z t t' h1 h2
    rw [h1] at hargs
    rw [h2] at hts
    subst hargs hts
    split at hc
    ·rename_i e e' ht ht'
     split at hc
     ·rename_i hok
      cases hc
      refine EffN.congr ?_ (append_eff (ty:=ty) hh (S y) (S z) ht (.inl ⟨e',ht'⟩) hok.1 hok.2 hx).next; simp [execOp,resolve,invoke,builtin]
     ·cases hc
    ·rename_i e ht ht'
     split at hc
     ·rename_i hok
      cases hc
      refine EffN.congr ?_ (append_eff (ty:=ty) hh (S y) (S z) ht (.inr ht') hok.1 hok.2 hx).next; simp [execOp,resolve,invoke,builtin]
     ·cases hc
    ·cases hc
   ·rename_i y z t t' h1 h2
    rw [h1] at hargs
    rw [h2] at hts
    subst hargs hts
    split at hc
    ·rename_i e e' ht ht'
     split at hc
     ·rename_i hok
      cases hc
      refine EffN.congr ?_ (copy_eff (ty:=ty) hh (S y) (S z) ht ⟨e',ht'⟩ hok hx).next; simp [execOp,resolve,invoke,builtin]
     ·cases hc
    ·cases hc
   ·rename_i y t h1 h2
    rw [h1] at hargs
    rw [h2] at hts
    subst hargs hts
    split at hc
    ·rename_i e ht
     split at hc
     ·rename_i z hz
      split at hc
      ·rename_i hok
       cases hc
       refine EffN.congr ?_ (clear_eff (ty:=ty) hh (S y) ht hz hok.1 hok.2 hx).next; simp [execOp,resolve,invoke,builtin]
      ·cases hc
     ·cases hc
    ·cases hc
   ·cases hc
   ·cases hc
   ·cases hc
 | makeFunc fn first caps=>cases fn <;> simp only[compOp] at hc <;> repeat' (first | (cases hc; done) | split at hc)
 | _=>first | (cases hc; done) | (simp only[compOp] at hc; repeat' (first | (cases hc; done) | split at hc))
end
end Go.Pv
/-
 The machine of plain values,13: what stands between a call and its caller: values of memory that nobody writes,and rows that are handed over.
-/
namespace Go.Pv
def bareG(I:Nat→Prop):Gh:=⟨fun _=>none,I⟩
structure OwnRow(w:World)(I:Nat→Prop)(ge:GE)(sz:Nat)(ty:TypeId)(es:List AV)(v:Value):Prop where
 ok:EntOk w (bareG I) ⟨ty,es,true⟩ ge
 sz:ge.sz=sz
 st:ge.st=2
 le:es.length≤ge.C
 val:∃ A,v=.slice A es.length ge.C∧∀ g,ge.blk=some g→A=some ⟨g,0,none⟩
 no:ge.blk=none→ge.C=0
def OwnC(w:World)(I:Nat→Prop)(os:List GE)(x:AV)(v:Value):Prop :=
 match x with
 | .own sz ty es=>∃ ge,os=[ge]∧OwnRow w I ge sz ty es v
 | x=>os=[]∧Sim w (bareG I) x v
inductive OwnL(R:List GE→AV→Value→Prop):List GE→List AV→List Value→Prop
 | nil:OwnL R [] [] []
 | cons {os os':List GE} {x:AV} {xs:List AV} {v:Value} {vs:List Value}:R os x v→OwnL R os' xs vs→OwnL R (os ++ os') (x :: xs) (v :: vs)
def OwnA(w:World)(I:Nat→Prop)(os:List GE)(x:AV)(v:Value):Prop :=
 match x with
 | .agg xs=>∃ cs:Array Value,v=.agg cs∧OwnL (OwnC w I) os xs cs.toList
 | x=>OwnC w I os x v
def OwnT(w:World)(I:Nat→Prop)(os:List GE)(x:AV)(v:Value):Prop :=
 match x with
 | .tup xs=>∃ cs:Array Value,v=.tuple cs∧OwnL (OwnA w I) os xs cs.toList
 | x=>OwnA w I os x v
def blks(os:List GE)(b:Nat):Prop:=∃ ge∈os,ge.blk=some b
structure OsOk(w:World)(I:Nat→Prop)(os:List GE):Prop where
 imm:∀ b,I b→b < w.heap.size∧¬ blks os b
 lt:∀ b,blks os b→b < w.heap.size
 ap:os.Pairwise fun x y=>∀ b,x.blk=some b→y.blk≠some b
section
variable {P:Program} {w w':World} {γ γ':Gh} {H H':Hp} {I:Nat→Prop}
theorem blks_nil(b:Nat):¬ blks [] b:=fun⟨_,h,_⟩=>by cases h
theorem blks_app{os os':List GE}{b:Nat}:blks (os ++ os') b↔blks os b∨blks os' b:=by
 constructor
 ·rintro ⟨ge,h,hb⟩
  rcases List.mem_append.1 h with h | h
  ·exact .inl ⟨ge,h,hb⟩
  ·exact .inr ⟨ge,h,hb⟩
 ·rintro (⟨ge,h,hb⟩ | ⟨ge,h,hb⟩)
  ·exact⟨ge,List.mem_append_left _ h,hb⟩
  ·exact⟨ge,List.mem_append_right _ h,hb⟩
theorem blks_one{ge:GE}{b:Nat}:blks [ge] b↔ge.blk=some b :=
 ⟨fun⟨x,h,hb⟩=>by simp at h; subst h; exact hb,fun h=>⟨ge,by simp,h⟩⟩
theorem Sim.unbare{x:AV}{v:Value}(h:Sim w (bareG γ.imm) x v):Sim w γ x v :=
 h.adv ⟨Nat.le_refl _,fun _ hb=>⟨hb,fun _=>rfl⟩,fun _ _ hi=>by cases hi⟩
theorem EntOk.unbare{e:Ent}{ge:GE}(h:EntOk w (bareG γ.imm) e ge):EntOk w γ e ge :=
 h.adv ⟨Nat.le_refl _,fun _ hb=>⟨hb,fun _=>rfl⟩,fun _ _ hi=>by cases hi⟩ (fun _ _ _=>rfl)
/-! ### Laying -/
structure More(γ γ':Gh)(os:List GE):Prop where
 imm:γ'.imm=γ.imm
 ids:∀ id ge,γ.m id=some ge→γ'.m id=some ge
 own:∀ b,γ'.owns b↔γ.owns b∨blks os b
 liv:∀ id ge b,γ'.m id=some ge→ge.st≠0→ge.blk=some b →(∃ id' ge',γ.m id'=some ge'∧ge'.st≠0∧ge'.blk=some b)∨blks os b
theorem More.nil(γ:Gh):More γ γ []:=⟨rfl,fun _ _ h=>h,fun b=>⟨.inl,fun h=>h.elim id (fun h=>absurd h (blks_nil b))⟩,fun id ge b h1 h2 h3=>.inl ⟨id,ge,h1,h2,h3⟩⟩
theorem More.trans{a b c:Gh}{os os':List GE}(h:More a b os)(k:More b c os'):More a c (os ++ os') where
 imm:=k.imm.trans h.imm
 ids:=fun i g hi=>k.ids i g (h.ids i g hi)
 own:=fun x=>by rw [k.own,h.own,blks_app,or_assoc]
 liv:=fun i g x h1 h2 h3=>by
  rcases k.liv i g x h1 h2 h3 with ⟨i',g',h4,h5,h6⟩ | h4
  ·rcases h.liv i' g' x h4 h5 h6 with h | h
   ·exact .inl h
   ·exact .inr (blks_app.2 (.inl h))
  ·exact .inr (blks_app.2 (.inr h4))
theorem More.adv{os:List GE}(h:More γ γ' os)(w:World):Adv γ γ' w w:=⟨Nat.le_refl _,fun b hb=>⟨by rw [h.imm]; exact hb,fun _=>rfl⟩,fun i ge hi=>⟨ge.st,h.ids i ge hi⟩⟩
structure Fresh(w:World)(γ:Gh)(os:List GE):Prop where
 imm:∀ b,blks os b→¬ γ.imm b
 liv:∀ b,blks os b→∀ id ge,γ.m id=some ge→ge.st≠0→ge.blk≠some b
 ap:os.Pairwise fun x y=>∀ b,x.blk=some b→y.blk≠some b
theorem layC_sim(hh:HRel γ H w){os:List GE}{x:AV}{v:Value}(ho:OwnC w γ.imm os x v)(hf:Fresh w γ os) :
  ∃ γ',More γ γ' os∧HRel γ' (layC H x).2 w∧Sim w γ' (layC H x).1 v:=by
 unfold OwnC at ho
 split at ho
 ·rename_i sz ty es
  obtain ⟨ge,rfl,h⟩:=ho
  have hn:new 0 none H ⟨ty,es,true⟩=some (H.length,H ++ [some ⟨ty,es,true⟩]):=rfl
  obtain ⟨h0,h1⟩:=new_ent hn
  have hm:=hh.none _ h0
  have hids:=Gh.add_ids (ge:=ge) (.inl hm)
  have hst:ge.st≠0:=by rw [h.st]; decide
  have hfr:∀ id x b,γ.m id=some x→x.st≠0→x.blk=some b→ge.blk≠some b:=fun id x b h1 h2 h3 h4=>hf.liv b (blks_one.2 h4) id x h1 h2 h3
  have look:∀ i x,(γ.add H.length ge).m i=some x →(i=H.length∧x=ge) ∨(i≠H.length∧γ.m i=some x):=by
   intro i x hx
   by_cases e:i=H.length
   ·subst e; rw [Gh.add_same] at hx; cases hx; exact .inl ⟨rfl,rfl⟩
   ·rw [Gh.add_other _ _ _ e] at hx; exact .inr ⟨e,hx⟩
  have hmore:More γ (γ.add H.length ge) [ge]:=by
   refine⟨rfl,fun i x hi=>?_,fun b=>⟨?_,?_⟩,fun i x b h1 h2 h3=>?_⟩
   ·by_cases e:i=H.length
    ·subst e; rw [hm] at hi; cases hi
    ·rw [Gh.add_other _ _ _ e]; exact hi
   ·rintro ⟨i,x,hi,hs,hb⟩
    rcases look i x hi with ⟨_,rfl⟩ | ⟨_,hi⟩
    ·exact .inr (blks_one.2 hb)
    ·exact .inl ⟨i,x,hi,hs,hb⟩
   ·rintro (⟨i,x,hi,hs,hb⟩ | hb)
    ·refine⟨i,x,?_,hs,hb⟩
     by_cases e:i=H.length
     ·subst e; rw [hm] at hi; cases hi
     ·rw [Gh.add_other _ _ _ e]; exact hi
    ·exact⟨H.length,ge,Gh.add_same _ _ _,h.st,blks_one.1 hb⟩
   ·rcases look i x h1 with ⟨_,rfl⟩ | ⟨_,hi⟩
    ·exact .inr (blks_one.2 h3)
    ·exact .inl ⟨i,x,hi,h2,h3⟩
  refine⟨γ.add H.length ge,hmore,⟨?_,?_,?_,?_,?_⟩,?_⟩
  ·intro id hid
   by_cases e:id=H.length
   ·subst e; change ent (H ++ _) _=none at hid; rw [h1,if_pos rfl] at hid; cases hid
   ·change ent (H ++ _) _=none at hid
    rw [h1,if_neg e] at hid; rw [Gh.add_other _ _ _ e]; exact hh.none id hid
  ·intro id e' hid
   change ent (H ++ _) _=some e' at hid
   by_cases e:id=H.length
   ·subst e
    rw [h1,if_pos rfl] at hid; cases hid
    exact⟨ge,Gh.add_same _ _ _,(EntOk.unbare (γ:=γ) h.ok).adv (hmore.adv (os:=[ge]) w) fun _ _ _=>rfl⟩
   ·rw [h1,if_neg e] at hid
    obtain ⟨x,hx,hok⟩:=hh.ok id e' hid
    exact⟨x,by rw [Gh.add_other _ _ _ e]; exact hx,hok.adv (hmore.adv (os:=[ge]) w) fun _ _ _=>rfl⟩
  ·intro i j x y b hi hj hx hy hbx hby
   rcases look i x hi with ⟨rfl,rfl⟩ | ⟨i1,hi'⟩ <;> rcases look j y hj with ⟨rfl,rfl⟩ | ⟨j1,hj'⟩
   ·rfl
   ·exact absurd hbx (hfr j y b hj' hy hby)
   ·exact absurd hby (hfr i x b hi' hx hbx)
   ·exact hh.inj i j x y b hi' hj' hx hy hbx hby
  ·intro b hb
   refine⟨(hh.imm b hb).1,fun h2=>?_⟩
   rcases (hmore.own b).1 h2 with h2 | h2
   ·exact(hh.imm b hb).2 h2
   ·exact hf.imm b h2 hb
  ·intro i x b hi hs hb
   rcases look i x hi with ⟨_,rfl⟩ | ⟨_,hi'⟩
   ·rw [h.st] at hs; cases hs
   ·exact hh.stl i x b hi' hs hb
  ·obtain ⟨A,rfl,hA⟩:=h.val
   exact .vec _ sz 0 es.length A ge.C ge (Gh.add_same _ _ _) h.sz (by simpa using h.le) rfl h.no (fun g hg _=>by rw [hA g hg]; simp)
 ·rename_i hne
  obtain ⟨rfl,hs⟩:=ho
  have e:layC H x =(x,H):=by
   cases x <;> first | rfl | exact absurd rfl (hne _ _ _)
  rw [e]
  exact⟨γ,More.nil γ,hh,hs.unbare⟩
theorem Fresh.left{os os':List GE}(h:Fresh w γ (os ++ os')):Fresh w γ os :=
 ⟨fun b hb=>h.imm b (blks_app.2 (.inl hb)),fun b hb=>h.liv b (blks_app.2 (.inl hb)),(List.pairwise_append.1 h.ap).1⟩
theorem Fresh.right{os os':List GE}(h:Fresh w γ (os ++ os'))(hm:More γ γ' os):Fresh w γ' os':=by
 obtain ⟨_,h2,h3⟩:=List.pairwise_append.1 h.ap
 refine⟨fun b hb=>by rw [hm.imm]; exact h.imm b (blks_app.2 (.inr hb)),fun b hb i ge hi hs hg=>?_,h2⟩
 rcases hm.liv i ge b hi hs hg with ⟨i',ge',h4,h5,h6⟩ | ⟨x,hx,hxb⟩
 ·exact h.liv b (blks_app.2 (.inr hb)) i' ge' h4 h5 h6
 ·obtain ⟨y,hy,hyb⟩:=hb
  exact h3 x hx y hy b hxb hyb
theorem OwnRow.mono{ge:GE}{sz:Nat}{ty:TypeId}{es:List AV}{v:Value}(h:OwnRow w I ge sz ty es v){I':Nat→Prop}(hI:∀ b,I b→I' b):OwnRow w I' ge sz ty es v :=
 { h with ok:=h.ok.adv (γ':=bareG I') ⟨Nat.le_refl _,fun b hb=>⟨hI b hb,fun _=>rfl⟩,fun _ _ hi=>by cases hi⟩ fun _ _ _=>rfl }
def LayP(w:World)(I:Nat→Prop)(f:Hp→AV→AV × Hp)(R:List GE→AV→Value→Prop):Prop :=
 ∀(γ:Gh) (H:Hp) (os:List GE) (x:AV) (v:Value),γ.imm=I→HRel γ H w→R os x v→Fresh w γ os→∃ γ',More γ γ' os∧HRel γ' (f H x).2 w∧Sim w γ' (f H x).1 v
theorem layC_p:LayP w I layC (OwnC w I):=fun γ H os x v hI hh ho hf=>by subst hI; exact layC_sim hh ho hf
theorem layL_sim{f:Hp→AV→AV × Hp}{R:List GE→AV→Value→Prop}(hf:LayP w I f R){os:List GE}{xs:List AV}{vs:List Value}(ho:OwnL R os xs vs) :
  ∀(γ:Gh) (H:Hp),γ.imm=I→HRel γ H w→Fresh w γ os→∃ γ',More γ γ' os∧HRel γ' (layL f H xs).2 w ∧(layL f H xs).1.length=vs.length ∧
   ∀(i:Nat) (x:AV) (v:Value),(layL f H xs).1[i]?=some x→vs[i]?=some v→Sim w γ' x v:=by
 induction ho with
 | nil=>intro γ H hI hh _; exact⟨γ,More.nil γ,hh,rfl,fun i x v h=>by simp [layL] at h⟩
 | cons h1 h2 ih =>
  rename_i os os' x xs v vs
  intro γ H hI hh hfr
  obtain ⟨γ1,m1,r1,s1⟩:=hf γ H os x v hI hh h1 hfr.left
  obtain ⟨γ2,m2,r2,l2,s2⟩:=ih γ1 (f H x).2 (by rw [m1.imm]; exact hI) r1 (hfr.right m1)
  refine⟨γ2,m1.trans m2,r2,by simp only[layL,List.length_cons,l2],fun i y u hy hu=>?_⟩
  cases i with
  | zero =>
   simp only[layL,List.getElem?_cons_zero,Option.some.injEq] at hy hu
   subst hy hu
   exact s1.adv (m2.adv w)
  | succ i=>exact s2 i y u (by simpa [layL] using hy) (by simpa using hu)
theorem layA_p:LayP w I layA (OwnA w I):=by
 intro γ H os x v hI hh ho hf
 unfold OwnA at ho
 split at ho
 ·rename_i xs
  obtain ⟨cs,rfl,ho⟩:=ho
  obtain ⟨γ',h1,h2,h3,h4⟩:=layL_sim layC_p ho γ H hI hh hf
  exact⟨γ',h1,h2,.agg _ cs (by simpa using h3) fun i x v hx hv=>h4 i x v hx (by simpa using hv)⟩
 ·rename_i hne
  have e:layA H x=layC H x:=by
   cases x <;> first | rfl | exact absurd rfl (hne _)
  rw [e]
  exact layC_p γ H os x v hI hh ho hf
theorem lay_p:LayP w I lay (OwnT w I):=by
 intro γ H os x v hI hh ho hf
 unfold OwnT at ho
 split at ho
 ·rename_i xs
  obtain ⟨cs,rfl,ho⟩:=ho
  obtain ⟨γ',h1,h2,h3,h4⟩:=layL_sim layA_p ho γ H hI hh hf
  exact⟨γ',h1,h2,.tup _ cs (by simpa using h3) fun i x v hx hv=>h4 i x v hx (by simpa using hv)⟩
 ·rename_i hne
  have e:lay H x=layA H x:=by
   cases x <;> first | rfl | exact absurd rfl (hne _)
  rw [e]
  exact layA_p γ H os x v hI hh ho hf
/-! ### Taking -/
def Holds(γ:Gh)(l:List Nat)(I:Nat→Prop):Prop:=∀ id∈l,∀ ge b,γ.m id=some ge→ge.st≠0→ge.blk=some b→I b
theorem mapO_get{f:AV→Option AV}:∀ {xs ys:List AV},mapO f xs=some ys→xs.length=ys.length∧∀(i:Nat) (y:AV),ys[i]?=some y→∃ x,xs[i]?=some x∧f x=some y
 | [],ys,h=>by cases h; exact⟨rfl,fun i y h=>by simp at h⟩
 | x :: xs,ys,h=>by
  simp only[mapO] at h
  obtain ⟨y,hy,h⟩:=Option.bind_eq_some_iff.1 h
  obtain ⟨ys',hys,rfl⟩:=Option.map_eq_some_iff.1 h
  obtain ⟨h1,h2⟩:=mapO_get hys
  refine⟨by simp [h1],fun i z hz=>?_⟩
  cases i with
  | zero=>simp at hz; subst hz; exact⟨x,rfl,hy⟩
  | succ i=>exact h2 i z (by simpa using hz)
theorem snap_agg{n:Nat}{cs:List AV}{y:AV}(h:snap H (n+1) (.agg cs)=some y):∃ ys,y=.agg ys∧mapO (snap H n) cs=some ys:=by
 simp only[snap] at h
 obtain ⟨ys,hys,rfl⟩:=Option.map_eq_some_iff.1 h
 exact⟨ys,rfl,hys⟩
theorem snap_one{n:Nat}{x y:AV}(h:snap H (n+1) x=some y)(hx:∀ cs,x≠.agg cs):∀ cs,y≠.agg cs:=by
 intro cs e
 subst e
 cases x <;> simp only[snap] at h <;> first
  | (cases h; done)
  | (obtain ⟨_,_,h⟩:=Option.bind_eq_some_iff.1 h; obtain ⟨_,_,h⟩:=Option.map_eq_some_iff.1 h; cases h; done)
  | (obtain ⟨_,_,h⟩:=Option.bind_eq_some_iff.1 h; obtain ⟨_,_,h⟩:=Option.bind_eq_some_iff.1 h; obtain ⟨_,_,h⟩:=Option.map_eq_some_iff.1 h; cases h; done)
  | (obtain ⟨_,_,h⟩:=Option.map_eq_some_iff.1 h; cases h; done)
  | exact absurd rfl (hx _)
theorem snap_flat{n:Nat}{x y:AV}(h:snap H (n+1) x=some y):x.flat.length=y.flat.length∧∀(j:Nat) (z:AV),y.flat[j]?=some z→∃ u k,x.flat[j]?=some u ∧(k=n∨k=n+1)∧snap H k u=some z ∧((∀ cs,x≠.agg cs)→rows H k u=rows H (n+1) x) ∧(∀ id∈rows H k u,id∈rows H (n+1) x):=by
 by_cases hx:∃ cs,x=.agg cs
 ·obtain ⟨cs,rfl⟩:=hx
  obtain ⟨ys,rfl,hys⟩:=snap_agg h
  obtain ⟨h1,h2⟩:=mapO_get hys
  refine⟨h1,fun j z hz=>?_⟩
  obtain ⟨u,hu,hs⟩:=h2 j z hz
  refine⟨u,n,hu,.inl rfl,hs,fun h=>absurd rfl (h cs),fun id hid=>?_⟩
  simp only[rows]
  exact List.mem_flatMap.2 ⟨u,List.mem_of_getElem? hu,hid⟩
 ·have hx':∀ cs,x≠.agg cs:=fun cs e=>hx ⟨cs,e⟩
  rw [flat_one hx',flat_one (snap_one h hx')]
  refine⟨rfl,fun j z hz=>?_⟩
  cases j with
  | succ j=>simp at hz
  | zero =>
   simp at hz; subst hz
   exact⟨x,n+1,rfl,.inr rfl,h,fun _=>rfl,fun _ h=>h⟩
theorem snap_sim(hh:HRel γ H w)(hI0:∀ b,γ.imm b→I b):∀(n:Nat) (x y:AV) (v:Value),Holds γ (rows H n x) I→snap H n x=some y→Sim w γ x v→Sim w (bareG I) y v:=by
 intro n
 induction n using Nat.strongRecOn with
 | _ n0 ih0 =>
 cases n0 with
 | zero=>intro x y v _ h; cases h
 | succ n =>
  have ih:=ih0 n (Nat.lt_succ_self n)
  -- an element of a row,read off
  have elem:∀(e:Ent) (ge:GE) (g i:Nat) (x y:AV),EntOk w γ e ge→ge.blk=some g→e.es[i]?=some x→snap H n x=some y→Holds γ (rows H n x) I →
    y.flat.length=ge.sz∧∀(j:Nat) (z:AV),y.flat[j]?=some z→∃ u,w.cell? ⟨g,i * ge.sz+j,none⟩=some u∧u.oneCell'=true∧Sim w (bareG I) z u:=by
   intro e ge g i x y hok hg hx hs hl
   cases n with
   | zero=>cases hs
   | succ m =>
    obtain ⟨f1,f2⟩:=snap_flat hs
    have hlie:=hok.lies hg hx
    have hlen:x.flat.length=ge.sz:=by
     rcases (hok.live (.inr (by intro hn; rw [hn] at hx; simp at hx))).2 with ⟨h1,_⟩ | ⟨g',cs,fr,_,_,_,_,_,h6⟩
     ·rw [h1] at hg; cases hg
     ·exact(h6 i x hx).1
    refine⟨by rw [← f1]; exact hlen,fun j z hz=>?_⟩
    obtain ⟨u,k,hu,hk,hsu,_,hsub⟩:=f2 j z hz
    obtain ⟨u',c1,c2,c3⟩:=hlie j u hu
    exact⟨u',c1,c2,ih0 k (by omega) u z u' (fun id hid=>hl id (hsub id hid)) hsu c3⟩
  intro x y v hl h hs
  have adv0:Adv γ.bare (bareG I) w w:=⟨Nat.le_refl _,fun b hb=>⟨hI0 b hb,fun _=>rfl⟩,fun _ _ hi=>by cases hi⟩
  cases hs with
  | undef=>cases h
  | bool b=>cases h; exact .bool b
  | anyb b=>cases h; exact .anyb b
  | int k i=>cases h; exact .int k i
  | str s=>cases h; exact .str s
  | lit v=>cases h; exact .lit v
  | sl0 sz full A cap hc=>cases h; exact .sl0 sz full A cap hc
  | sl sz es full b off cap U hp hc hf hb hi hz hcell hs =>
   cases h
   exact .sl sz es full b off cap U hp hc hf hb (hI0 b hi) hz hcell fun i x j y h1 h2=>(hs i x j y h1 h2).adv adv0
  | rptr z off b o U hb hi hcell hs =>
   cases h
   exact .rptr z off b o U hb (hI0 b hi) hcell fun j y h1=>(hs j y h1).adv adv0
  | fn f g xs fs cs hv hz hs =>
   simp only[snap] at h
   obtain ⟨ys,hys,rfl⟩:=Option.map_eq_some_iff.1 h
   obtain ⟨h1,h2⟩:=mapO_get hys
   refine .fn f g ys fs cs hv (by omega) fun i y v hy hv=>?_
   obtain ⟨x,hx,hsx⟩:=h2 i y hy
   exact ih x y v (fun id hid=>hl id (by simp only[rows]; exact List.mem_flatMap.2 ⟨x,List.mem_of_getElem? hx,hid⟩)) hsx (hs i x v hx hv)
  | agg xs cs hz hs =>
   obtain ⟨ys,rfl,hys⟩:=snap_agg h
   obtain ⟨h1,h2⟩:=mapO_get hys
   refine .agg ys cs (by omega) fun i y v hy hv=>?_
   obtain ⟨x,hx,hsx⟩:=h2 i y hy
   exact ih x y v (fun id hid=>hl id (by simp only[rows]; exact List.mem_flatMap.2 ⟨x,List.mem_of_getElem? hx,hid⟩)) hsx (hs i x v hx hv)
  | tup xs cs hz hs =>
   simp only[snap] at h
   obtain ⟨ys,hys,rfl⟩:=Option.map_eq_some_iff.1 h
   obtain ⟨h1,h2⟩:=mapO_get hys
   refine .tup ys cs (by omega) fun i y v hy hv=>?_
   obtain ⟨x,hx,hsx⟩:=h2 i y hy
   exact ih x y v (fun id hid=>hl id (by simp only[rows]; exact List.mem_flatMap.2 ⟨x,List.mem_of_getElem? hx,hid⟩)) hsx (hs i x v hx hv)
  | vec id sz off len A cap ge hm hz hlC hcC hN hA =>
   simp only[snap] at h
   obtain ⟨el,hel,h⟩:=Option.bind_eq_some_iff.1 h
   obtain ⟨ys,hys,rfl⟩:=Option.map_eq_some_iff.1 h
   obtain ⟨m1,m2⟩:=mapO_get hys
   have hel':=hel
   simp only[elems] at hel
   obtain ⟨e,he,hel⟩:=Option.bind_eq_some_iff.1 hel
   split at hel
   case isFalse=>cases hel
   rename_i hle
   cases hel
   obtain ⟨ge',hm',hok⟩:=hh.ok id e he
   rw [hm] at hm'; cases hm'
   have hyl:ys.length=len:=by rw [← m1]; simp; omega
   by_cases h0:len=0
   ·have:ys=[]:=List.eq_nil_of_length_eq_zero (by omega)
    subst this
    subst h0
    exact .sl0 sz false A cap (fun h=>by cases h)
   ·have hne:e.es≠[]:=by intro hn; rw [hn] at hle; simp at hle; omega
    have hlive:=hok.live (.inr hne)
    have hst:ge.st≠0:=by rw [hlive.1]; split <;> decide
    cases hg:ge.blk with
    | none=>have:=hN hg; omega
    | some g =>
     have hAg:=hA g hg (.inl (by omega))
     subst hAg
     rw [← hyl]
     have key:∀(i:Nat) (y:AV),ys[i]?=some y→y.flat.length=sz∧∀(j:Nat) (z:AV),y.flat[j]?=some z→∃ u,w.cell? ⟨g,off * sz+i * sz+j,none⟩=some u∧u.oneCell'=true∧Sim w (bareG I) z u:=by
      intro i y hy
      obtain ⟨x,hx,hsx⟩:=m2 i y hy
      have hmem:=List.mem_of_getElem? hx
      rw [List.getElem?_take] at hx
      split at hx
      case isFalse=>cases hx
      rw [List.getElem?_drop] at hx
      have:=elem e ge g (off+i) x y hok hg hx hsx (fun id' hid=>hl id' (by
       simp only[rows]
       refine List.mem_cons_of_mem _ (List.mem_flatMap.2 ⟨x,?_,hid⟩)
       rw [hel']; exact hmem))
      rw [hz,Nat.add_mul] at this
      exact this
     refine .sl sz ys false g (off * sz) cap (fun i j=>(w.cell? ⟨g,off * sz+i * sz+j,none⟩).getD Go.undef) (by omega) (by omega) (fun h=>by cases h) (hok.blkLt hst hg) (hl id (by simp [rows]) ge g hm hst hg) ?_ ?_ ?_
     ·intro y hy
      obtain ⟨i,hi⟩:=List.mem_iff_getElem?.1 hy
      exact(key i y hi).1
     ·intro i y j z hy hz
      obtain ⟨u,h1,h2,h3⟩:=(key i y hy).2 j z hz
      rw [h1]; exact⟨rfl,h2⟩
     ·intro i y j z hy hz
      obtain ⟨u,h1,h2,h3⟩:=(key i y hy).2 j z hz
      simp only[h1,Option.getD_some]; exact h3
  | eptr id i off g ge hm hg =>
   simp only[snap] at h
   obtain ⟨e,he,h⟩:=Option.bind_eq_some_iff.1 h
   obtain ⟨x,hx,h⟩:=Option.bind_eq_some_iff.1 h
   obtain ⟨y',hy',rfl⟩:=Option.map_eq_some_iff.1 h
   obtain ⟨ge',hm',hok⟩:=hh.ok id e he
   rw [hm] at hm'; cases hm'
   have hne:e.es≠[]:=by intro hn; rw [hn] at hx; simp at hx
   have hlive:=hok.live (.inr hne)
   have hst:ge.st≠0:=by rw [hlive.1]; split <;> decide
   have key:=elem e ge g i x y' hok hg hx hy' (fun id' hid=>hl id' (by
    simp only[rows]
    refine List.mem_cons_of_mem _ (List.mem_flatMap.2 ⟨x,?_,hid⟩)
    simp [he,hx]))
   refine .rptr y' off g (i * ge.sz) (fun j=>(w.cell? ⟨g,i * ge.sz+j,none⟩).getD Go.undef) (hok.blkLt hst hg) (hl id (by simp [rows]) ge g hm hst hg) ?_ ?_
   ·intro j z hz
    obtain ⟨u,h1,h2,h3⟩:=key.2 j z hz
    rw [h1]; exact⟨rfl,h2⟩
   ·intro j z hz
    obtain ⟨u,h1,h2,h3⟩:=key.2 j z hz
    simp only[h1,Option.getD_some]; exact h3
end
end Go.Pv
/-
 The machine of plain values,14: what is handed over,is had of what there is.
-/
namespace Go.Pv
section
variable {P:Program} {w w':World} {γ γ':Gh} {H H':Hp} {I:Nat→Prop}
theorem elem_snap(hh:HRel γ H w)(hI0:∀ b,γ.imm b→I b){n:Nat}{e:Ent}{ge:GE}{g i:Nat}{x y:AV}(hok:EntOk w γ e ge)(hg:ge.blk=some g)(hx:e.es[i]?=some x)(hs:snap H n x=some y)(hl:Holds γ (rows H n x) I) :
  y.flat.length=ge.sz∧∀(j:Nat) (z:AV),y.flat[j]?=some z→∃ u,w.cell? ⟨g,i * ge.sz+j,none⟩=some u∧u.oneCell'=true∧Sim w (bareG I) z u:=by
 cases n with
 | zero=>cases hs
 | succ m =>
  obtain ⟨f1,f2⟩:=snap_flat hs
  have hlie:=hok.lies hg hx
  have hlen:x.flat.length=ge.sz:=by
   rcases (hok.live (.inr (by intro hn; rw [hn] at hx; simp at hx))).2 with ⟨h1,_⟩ | ⟨g',cs,fr,_,_,_,_,_,h6⟩
   ·rw [h1] at hg; cases hg
   ·exact(h6 i x hx).1
  refine⟨by rw [← f1]; exact hlen,fun j z hz=>?_⟩
  obtain ⟨u,k,hu,hk,hsu,_,hsub⟩:=f2 j z hz
  obtain ⟨u',c1,c2,c3⟩:=hlie j u hu
  exact⟨u',c1,c2,snap_sim hh hI0 k u z u' (fun id hid=>hl id (hsub id hid)) hsu c3⟩
structure Gone(γ γ1:Gh)(os:List GE):Prop where
 imm:γ1.imm=γ.imm
 ids:∀ id ge,γ.m id=some ge→γ1.m id=some ge∨γ1.m id=some { ge with st:=0 }
 rev:∀ id ge,γ1.m id=some ge→ge.st≠0→γ.m id=some ge
 non:∀ id,γ.m id=none→γ1.m id=none
 own:∀ b,γ1.owns b→γ.owns b
 src:∀ ge∈os,∀ b,ge.blk=some b→∃ id,γ.m id=some ge∧ge.st=2∧γ1.m id=some { ge with st:=0 }
 ap:os.Pairwise fun x y=>∀ b,x.blk=some b→y.blk≠some b
theorem Gone.nil(γ:Gh):Gone γ γ []:=⟨rfl,fun _ _ h=>.inl h,fun _ _ h _=>h,fun _ h=>h,fun _ h=>h,fun _ h=>(by cases h),.nil⟩
theorem Gone.one_none(γ:Gh){ge:GE}(h:ge.blk=none):Gone γ γ [ge] :=
 ⟨rfl,fun _ _ h=>.inl h,fun _ _ h _=>h,fun _ h=>h,fun _ h=>h,fun x hx b hb=>(by simp at hx; subst hx; rw [h] at hb; cases hb),List.pairwise_singleton _ _⟩
theorem Gone.toIds{os:List GE}(h:Gone γ γ' os):Ids γ γ':=fun id ge hi=>(h.ids id ge hi).elim (fun h=>⟨ge.st,h⟩) fun h=>⟨0,h⟩
theorem Gone.adv{os:List GE}(h:Gone γ γ' os)(w:World):Adv γ γ' w w:=⟨Nat.le_refl _,fun b hb=>⟨by rw [h.imm]; exact hb,fun _=>rfl⟩,h.toIds⟩
theorem Gone.trans{a b c:Gh}{os os':List GE}(hh:HRel a H w)(h:Gone a b os)(k:Gone b c os'):Gone a c (os ++ os') where
 imm:=k.imm.trans h.imm
 ids:=fun id ge hi=>by
  rcases h.ids id ge hi with h1 | h1
  ·exact k.ids id ge h1
  ·rcases k.ids id _ h1 with h2 | h2
   ·exact .inr h2
   ·exact .inr h2
 rev:=fun id ge hi hs=>h.rev id ge (k.rev id ge hi hs) hs
 non:=fun id hi=>k.non id (h.non id hi)
 own:=fun x hx=>h.own x (k.own x hx)
 src:=fun ge hge x hx=>by
  rcases List.mem_append.1 hge with hge | hge
  ·obtain ⟨id,h1,h2,h3⟩:=h.src ge hge x hx
   refine⟨id,h1,h2,?_⟩
   rcases k.ids id _ h3 with h4 | h4 <;> exact h4
  ·obtain ⟨id,h1,h2,h3⟩:=k.src ge hge x hx
   exact⟨id,h.rev id ge h1 (by rw [h2]; decide),h2,h3⟩
 ap:=by
  refine List.pairwise_append.2 ⟨h.ap,k.ap,fun x hx y hy b hxb hyb=>?_⟩
  obtain ⟨i,h1,h2,h3⟩:=h.src x hx b hxb
  obtain ⟨j,k1,k2,k3⟩:=k.src y hy b hyb
  have k1':=h.rev j y k1 (by rw [k2]; decide)
  have e:=hh.inj i j x y b h1 k1' (by rw [h2]; decide) (by rw [k2]; decide) hxb hyb
  subst e
  rw [h3] at k1
  cases k1
  cases k2
theorem not_own{sz:Nat}{ty:TypeId}{es:List AV}{v:Value}:¬ Sim w γ (.own sz ty es) v:=fun h=>by cases h
theorem OwnC.val{x:AV}{v:Value}(h:Sim w (bareG I) x v):OwnC w I [] x v:=by
 unfold OwnC
 split
 ·exact absurd h not_own
 ·exact⟨rfl,h⟩
def TakeP{μ:Type}(w:World)(R:(Nat→Prop)→List GE→AV→Value→Prop)(g:Hp→μ→AV→Option (AV × Hp × List Nat)):Prop :=
 ∀(γ:Gh) (H H1:Hp) (m:μ) (x y:AV) (v:Value) (l:List Nat),HRel γ H w→Sim w γ x v→g H m x=some (y,H1,l) →
  ∃ γ1 os,Gone γ γ1 os∧HRel γ1 H1 w∧H1.length=H.length∧∀ I:Nat→Prop,(∀ b,γ.imm b→I b)→Holds γ l I→R I os y v
theorem take_dead(hh:HRel γ H w){id:Nat}{e:Ent}{ge:GE}(he:ent H id=some e)(hm:γ.m id=some ge)(hst:ge.st=2) :
  Gone γ (γ.add id { ge with st:=0 }) [ge]∧HRel (γ.add id { ge with st:=0 }) (H.set id (some { e with es:=[],wr:=false })) w:=by
 have look:∀ i x,(γ.add id { ge with st:=0 }).m i=some x→x.st≠0→i≠id∧γ.m i=some x:=by
  intro i x hx hs
  by_cases e1:i=id
  ·subst e1; rw [Gh.add_same] at hx; cases hx; exact absurd rfl hs
  ·rw [Gh.add_other _ _ _ e1] at hx; exact⟨e1,hx⟩
 have hown:∀ b,(γ.add id { ge with st:=0 }).owns b→γ.owns b:=fun b ⟨i,x,h1,h2,h3⟩=>⟨i,x,(look i x h1 (by rw [h2]; decide)).2,h2,h3⟩
 refine⟨⟨rfl,fun i x hi=>?_,fun i x hi hs=>(look i x hi hs).2,fun i hi=>?_,hown,fun x hx b hb=>?_,List.pairwise_singleton _ _⟩,?_⟩
 ·by_cases e1:i=id
  ·subst e1; rw [hm] at hi; cases hi; exact .inr (Gh.add_same _ _ _)
  ·exact .inl (by rw [Gh.add_other _ _ _ e1]; exact hi)
 ·by_cases e1:i=id
  ·subst e1; rw [hm] at hi; cases hi
  ·rw [Gh.add_other _ _ _ e1]; exact hi
 ·simp at hx; subst hx
  exact⟨id,hm,hst,Gh.add_same _ _ _⟩
 ·refine(hrel_change (γ':=γ.add id { ge with st:=0 }) hh ⟨rfl,rfl,rfl,Nat.le_refl _,fun _ _ _=>rfl⟩ rfl (Gh.add_ids (.inr ⟨ge.st,hm⟩)) (fun b h=>.inl (hown b h)) ?_ ?_ ?_).1
  ·intro i j x y b hi hj hx hy hbx hby
   exact hh.inj i j x y b (look i x hi hx).2 (look j y hj hy).2 hx hy hbx hby
  ·intro i x hi hs
   exact(look i x hi (by rw [hs]; decide)).2
  ·intro i
   by_cases e1:i=id
   ·subst e1
    exact .inr ⟨_,{ ge with st:=0 },by rw [ent_set he,if_pos rfl],Gh.add_same _ _ _,fun _=>.inl ⟨rfl,rfl,rfl⟩⟩
   ·exact .inl ⟨by rw [ent_set he,if_neg e1],Gh.add_other _ _ _ e1,fun _ _ _ _ _=>rfl⟩
theorem passOne_p:TakeP w (OwnC w) passOne:=by
 intro γ H H1 m x y v l hh hs h
 cases m with
 | snap =>
  simp only[passOne] at h
  obtain ⟨z,hz,h⟩:=Option.map_eq_some_iff.1 h
  simp only[Prod.mk.injEq] at h
  obtain ⟨rfl,rfl,rfl⟩:=h
  exact⟨γ,[],Gone.nil γ,hh,rfl,fun I hI hl=>OwnC.val (snap_sim hh hI deep x z v hl hz hs)⟩
 | nil sz full =>
  simp only[passOne] at h
  split at h
  ·rename_i sz' full'
   split at h
   ·rename_i hf
    cases h
    refine⟨γ,[],Gone.nil γ,hh,rfl,fun I hI hl=>OwnC.val ?_⟩
    cases hs with
    | sl _ _ _ _ _ _ _ hp=>simp at hp
    | sl0 _ _ A cap hc=>exact .sl0 sz full A cap fun h=>hc (hf h)
   ·cases h
  ·split at h
   ·rename_i hf
    obtain ⟨rfl,rfl⟩:=hf
    cases h
    refine⟨γ,[],Gone.nil γ,hh,rfl,fun I hI hl=>OwnC.val ?_⟩
    cases hs with
    | vec _ _ _ _ A cap ge hm hz hlC hcC hN hA=>exact .sl0 sz false A cap fun h=>(by cases h)
   ·cases h
  ·cases h
 | own sz ty =>
  simp only[passOne] at h
  split at h
  ·rename_i id sz' off len
   obtain ⟨e,he,hq⟩:=Option.bind_eq_some_iff.1 h
   clear h
   split at hq
   case isFalse=>cases hq
   rename_i hc
   obtain ⟨hwr,rfl,hlen,rfl,rfl⟩:=hc
   obtain ⟨es,hes,hq⟩:=Option.map_eq_some_iff.1 hq
   simp only[Prod.mk.injEq] at hq
   obtain ⟨rfl,rfl,rfl⟩:=hq
   obtain ⟨m1,m2⟩:=mapO_get hes
   rw [List.length_take,Nat.min_eq_left hlen] at m1
   cases hs with
   | vec _ _ _ _ A cap ge hm hz hlC hcC hN hA =>
   obtain ⟨ge',hm',hok⟩:=hh.ok id e he
   rw [hm] at hm'; cases hm'
   have hst:=wr_live hok hwr
   obtain ⟨g1,g2⟩:=take_dead hh he hm hst
   refine⟨_,[ge],g1,g2,by simp,fun I hI hl=>⟨ge,rfl,?_⟩⟩
   simp only[Nat.add_zero] at hcC
   subst hcC
   refine⟨?_,hz,hst,by rw [← m1]; omega,⟨A,by rw [← m1],fun g hg=>by rw [hA g hg (.inr rfl)]; simp⟩,hN⟩
   refine .inr ⟨hst,?_⟩
   cases hg:ge.blk with
   | none =>
    have hC:=hN hg
    refine .inl ⟨rfl,List.eq_nil_of_length_eq_zero (by show es.length=0; omega),hC⟩
   | some g =>
    obtain ⟨cs,fz,hw,hsz,hfz,hle,hro⟩:=placed hok hwr hg
    refine .inr ⟨g,cs,fz,rfl,hw,hsz,hfz,by show es.length≤_; omega,fun i x hx=>?_⟩
    obtain ⟨x0,hx0,hsx⟩:=m2 i x hx
    have hx1:e.es[i]?=some x0:=by
     rw [List.getElem?_take] at hx0
     split at hx0
     ·exact hx0
     ·cases hx0
    obtain ⟨k1,k2⟩:=elem_snap hh hI hok hg hx1 hsx (fun id' hid=>hl id' (List.mem_flatMap.2 ⟨x0,List.mem_of_getElem? hx0,hid⟩))
    refine⟨k1,fun j z hz=>?_⟩
    obtain ⟨u,u1,u2,u3⟩:=k2 j z hz
    refine⟨u,?_,u2,u3⟩
    simpa [World.cell?,hw] using u1
  ·rename_i sz'
   simp only[Option.some.injEq,Prod.mk.injEq] at h
   obtain ⟨rfl,rfl,rfl⟩:=h
   refine⟨γ,[⟨none,sz,0,2⟩],Gone.one_none γ rfl,hh,rfl,fun I hI hl=>⟨_,rfl,?_⟩⟩
   cases hs with
   | sl _ _ _ _ _ _ _ hp=>simp at hp
   | sl0 _ _ A cap hc =>
    rw [hc rfl]
    exact⟨.inr ⟨rfl,.inl ⟨rfl,rfl,rfl⟩⟩,rfl,rfl,Nat.le_refl _,⟨A,rfl,fun g hg=>by cases hg⟩,fun _=>rfl⟩
  ·cases h
theorem Holds.left{l l':List Nat}(h:Holds γ (l ++ l') I):Holds γ l I:=fun id hid=>h id (List.mem_append_left _ hid)
theorem Holds.right{l l':List Nat}(h:Holds γ (l ++ l') I){os:List GE}(hg:Gone γ γ' os):Holds γ' l' I:=fun id hid ge b hm hs hb=>h id (List.mem_append_right _ hid) ge b (hg.rev id ge hm hs) hs hb
theorem passG_sim{μ:Type}{R:(Nat→Prop)→List GE→AV→Value→Prop}{g:Hp→μ→AV→Option (AV × Hp × List Nat)}(hg:TakeP w R g)(d:μ):∀(xs:List AV) (γ:Gh) (H H1:Hp) (ms:List μ) (ys:List AV) (vs:List Value) (l:List Nat),
  HRel γ H w→xs.length=vs.length →(∀(i:Nat) (x:AV) (v:Value),xs[i]?=some x→vs[i]?=some v→Sim w γ x v)→passG g d H ms xs=some (ys,H1,l) →
  ∃ γ1 os,Gone γ γ1 os∧HRel γ1 H1 w∧H1.length=H.length∧∀ I:Nat→Prop,(∀ b,γ.imm b→I b)→Holds γ l I→OwnL (R I) os ys vs
 | [],γ,H,H1,ms,ys,vs,l,hh,hl,hs,h=>by
  simp only[passG,Option.some.injEq,Prod.mk.injEq] at h
  obtain ⟨rfl,rfl,rfl⟩:=h
  cases vs with
  | nil=>exact⟨γ,[],Gone.nil γ,hh,rfl,fun _ _ _=>.nil⟩
  | cons _ _=>simp at hl
 | x :: xs,γ,H,H1,ms,ys,vs,l,hh,hl,hs,h=>by
  simp only[passG] at h
  obtain ⟨⟨y,H2,l1⟩,h1,h⟩:=Option.bind_eq_some_iff.1 h
  obtain ⟨⟨ys',H3,l2⟩,h2,h⟩:=Option.map_eq_some_iff.1 h
  simp only[Prod.mk.injEq] at h
  obtain ⟨rfl,rfl,rfl⟩:=h
  cases vs with
  | nil=>simp at hl
  | cons v vs =>
   obtain ⟨γ1,os1,g1,r1,n1,k1⟩:=hg γ H H2 _ x y v l1 hh (hs 0 x v rfl rfl) h1
   obtain ⟨γ2,os2,g2,r2,n2,k2⟩:=passG_sim hg d xs γ1 H2 H3 ms.tail ys' vs l2 r1 (by simpa using hl) (fun i x v hx hv=>(hs (i+1) x v (by simpa using hx) (by simpa using hv)).adv (g1.adv w)) h2
   exact⟨γ2,os1 ++ os2,g1.trans hh g2,r2,n2.trans n1,fun I hI hl=>.cons (k1 I hI hl.left) (k2 I (fun b hb=>hI b (by rw [← g1.imm]; exact hb)) (hl.right g1))⟩
theorem OwnA.ofC{os:List GE}{x:AV}{v:Value}(h:OwnC w I os x v):OwnA w I os x v:=by
 unfold OwnA
 split
 ·rename_i xs
  obtain ⟨rfl,h⟩:=h
  cases h with
  | agg _ cs hz hs =>
  refine⟨cs,rfl,?_⟩
  have:∀(xs:List AV) (vs:List Value),xs.length=vs.length →(∀(i:Nat) (x:AV) (v:Value),xs[i]?=some x→vs[i]?=some v→Sim w (bareG I) x v)→OwnL (OwnC w I) [] xs vs:=by
   intro xs
   induction xs with
   | nil=>intro vs hl _; cases vs with | nil=>exact .nil | cons _ _=>simp at hl
   | cons x xs ih =>
    intro vs hl hs
    cases vs with
    | nil=>simp at hl
    | cons v vs=>exact OwnL.cons (os:=[]) (os':=[]) (OwnC.val (hs 0 x v rfl rfl)) (ih vs (by simpa using hl) fun i x v hx hv=>hs (i+1) x v (by simpa using hx) (by simpa using hv))
  exact this xs cs.toList (by simpa using hz) fun i x v hx hv=>hs i x v hx (by simpa using hv)
 ·exact h
theorem handA_p:TakeP w (OwnA w) handA:=by
 intro γ H H1 m x y v l hh hs h
 unfold handA at h
 split at h
 ·obtain ⟨γ1,os,h1,h2,h3,h4⟩:=passOne_p γ H H1 _ x y v l hh hs h
  exact⟨γ1,os,h1,h2,h3,fun I hI hl=>OwnA.ofC (h4 I hI hl)⟩
 ·obtain ⟨γ1,os,h1,h2,h3,h4⟩:=passOne_p γ H H1 _ x y v l hh hs h
  exact⟨γ1,os,h1,h2,h3,fun I hI hl=>OwnA.ofC (h4 I hI hl)⟩
 ·obtain ⟨⟨ys,H2,l'⟩,h1,h⟩:=Option.map_eq_some_iff.1 h
  simp only[Prod.mk.injEq] at h
  obtain ⟨rfl,rfl,rfl⟩:=h
  obtain ⟨cs,rfl,hz,hcs⟩:=agg_inv hs
  obtain ⟨γ1,os,g1,g2,g3,g4⟩:=passG_sim passOne_p _ _ γ H _ _ _ cs.toList _ hh (by simpa using hz) (fun i x v hx hv=>hcs i x v hx (by simpa using hv)) h1
  exact⟨γ1,os,g1,g2,g3,fun I hI hl=>⟨cs,rfl,g4 I hI hl⟩⟩
 ·cases h
theorem OwnT.ofA{os:List GE}{x:AV}{v:Value}(h:OwnA w I os x v)(hx:∀ xs,x≠.tup xs):OwnT w I os x v:=by
 unfold OwnT
 split
 ·exact absurd rfl (hx _)
 ·exact h
theorem passOne_tup{m:Mode}{x:AV}{ys:List AV}{H1:Hp}{l:List Nat}(h:passOne H m x=some (.tup ys,H1,l)):∃ xs,x=.tup xs:=by
 cases m with
 | snap =>
  simp only[passOne] at h
  obtain ⟨z,hz,h⟩:=Option.map_eq_some_iff.1 h
  simp only[Prod.mk.injEq] at h
  obtain ⟨rfl,_,_⟩:=h
  simp only[deep] at hz
  cases x <;> simp only[snap] at hz <;> first
   | (cases hz; done)
   | exact⟨_,rfl⟩
   | (obtain ⟨_,_,hz⟩:=Option.bind_eq_some_iff.1 hz; obtain ⟨_,_,hz⟩:=Option.map_eq_some_iff.1 hz; cases hz; done)
   | (obtain ⟨_,_,hz⟩:=Option.bind_eq_some_iff.1 hz; obtain ⟨_,_,hz⟩:=Option.bind_eq_some_iff.1 hz; obtain ⟨_,_,hz⟩:=Option.map_eq_some_iff.1 hz; cases hz; done)
   | (obtain ⟨_,_,hz⟩:=Option.map_eq_some_iff.1 hz; cases hz; done)
 | nil sz full =>
  simp only[passOne] at h
  split at h
  ·split at h <;> cases h
  ·split at h <;> cases h
  ·cases h
 | own sz ty =>
  simp only[passOne] at h
  split at h
  ·obtain ⟨e,he,h⟩:=Option.bind_eq_some_iff.1 h
   split at h
   ·obtain ⟨es,hes,h⟩:=Option.map_eq_some_iff.1 h
    cases h
   ·cases h
  ·cases h
  ·cases h
theorem hand_p:TakeP w (OwnT w) hand:=by
 intro γ H H1 m x y v l hh hs h
 unfold hand at h
 split at h
 ·obtain ⟨⟨ys,H2,l'⟩,h1,h⟩:=Option.map_eq_some_iff.1 h
  simp only[Prod.mk.injEq] at h
  obtain ⟨rfl,rfl,rfl⟩:=h
  obtain ⟨cs,rfl,hz,hcs⟩:=tup_inv hs
  obtain ⟨γ1,os,g1,g2,g3,g4⟩:=passG_sim handA_p _ _ γ H _ _ _ cs.toList _ hh (by simpa using hz) (fun i x v hx hv=>hcs i x v hx (by simpa using hv)) h1
  exact⟨γ1,os,g1,g2,g3,fun I hI hl=>⟨cs,rfl,g4 I hI hl⟩⟩
 ·rename_i hnt
  obtain ⟨γ1,os,h1,h2,h3,h4⟩:=handA_p γ H H1 _ x y v l hh hs h
  refine⟨γ1,os,h1,h2,h3,fun I hI hl=>OwnT.ofA (h4 I hI hl) fun ys e=>?_⟩
  subst e
  unfold handA at h
  split at h
  ·obtain ⟨xs,hx⟩:=passOne_tup h; exact hnt xs hx
  ·obtain ⟨xs,hx⟩:=passOne_tup h; exact hnt xs hx
  ·obtain ⟨_,_,h⟩:=Option.map_eq_some_iff.1 h; cases h
  ·cases h
end
end Go.Pv
/-
 The machine of plain values,15: what is known of a function: at the boundary ('Run'),and among a caller's rows ('Gen').
-/
namespace Go.Pv
def Can(P:Program)(f:FuncId):Prop:=∀(args:Array Value) (w:World),(callFunc f args).run P w=.ok (.enter f args) w
theorem can_of{P:Program}{f:FuncId}{fn:Func}(h:P.funcs[f]?=some fn)(hb:fn.body.isSome=true)(hn:(fn.name == "runtime.NumGoroutine")=false):Can P f:=by
 intro args w
 have hb':fn.body≠none:=by intro h'; rw [h'] at hb; cases hb
 have hn':fn.name≠"runtime.NumGoroutine":=by intro h'; rw [h'] at hn; simp at hn
 simp [callFunc,h,hn',hb']
structure StepB(I:Nat→Prop)(os:List GE)(I':Nat→Prop)(os':List GE)(w w':World):Prop where
 osk:w'.os=w.os
 tape:w'.tape=w.tape
 output:w'.output=w.output
 size:w.heap.size≤w'.heap.size
 keep:∀ b,b < w.heap.size→¬ blks os b→w'.heap[b]?=w.heap[b]?
 own:∀ b,blks os' b→blks os b∨w.heap.size≤b
 immk:∀ b,I b→I' b
 immn:∀ b,I' b→I b∨blks os b∨w.heap.size≤b
class Lq where
 q:World →(Nat→Prop)→Prop
 st:∀ {w w':World} {I I':Nat→Prop},q w I →(∀ b,I b→b < w.heap.size) →(∀ b,I b→I' b) →(∀ b,I b→b < w.heap.size→w'.heap[b]?=w.heap[b]?)→q w' I'
instance (priority:=10) lqNone:Lq:=⟨fun _ _=>True,fun _ _ _ _=>trivial⟩
theorem Step.q[Lq]{γ γ':Gh}{w w':World}(h:Step γ γ' w w')(hi:∀ b,γ.imm b→b < w.heap.size∧¬ γ.owns b)(hq:Lq.q w γ.imm):Lq.q w' γ'.imm :=
 Lq.st hq (fun b hb=>(hi b hb).1) h.immk fun b hb hlt=>h.keep b hlt (hi b hb).2
theorem Lq.more[Lq]{w:World}{I I':Nat→Prop}(hq:Lq.q w I)(hi:∀ b,I b→b < w.heap.size)(h:∀ b,I b→I' b):Lq.q w I':=Lq.st hq hi h fun _ _ _=>rfl
variable [Lq]
def Run(P:Program)(f:FuncId)(xs:List AV)(r:AV):Prop :=
 Can P f∧∀(w:World) (I:Nat→Prop) (os:List GE) (args:Array Value),Lq.q w I→OsOk w I os→OwnL (OwnC w I) os xs args.toList →
  Calls P f args w fun e W=>∃ v I' os',e=.returned v∧OwnT W I' os' r v∧OsOk W I' os'∧StepB I os I' os' w W
def Gen(P:Program)(f:FuncId)(xs:List AV)(H:Hp)(r:AV)(H':Hp):Prop :=
 Can P f∧∀(w:World) (γ:Gh) (args:Array Value),Lq.q w γ.imm→HRel γ H w→xs.length=args.size →(∀(i:Nat) (x:AV) (v:Value),xs[i]?=some x→args[i]?=some v→Sim w γ x v) →
  Calls P f args w fun e W=>∃ v γ',e=.returned v∧Sim W γ' r v∧HRel γ' H' W∧Step γ γ' w W∧Ids γ γ'
/-! ### Values that hold no memory -/
def AV.p0:AV→Bool
 | .bool _ | .anyb | .int .. | .str _ | .lit _ | .undef=>true
 | .sl _ [] _=>true
 | _=>false
def AV.p1:AV→Bool
 | .agg cs=>cs.all AV.p0
 | x=>x.p0
def AV.pC:AV→Bool
 | .own _ _ es=>es.all AV.p1
 | x=>x.p1
def AV.pA:AV→Bool
 | .agg cs=>cs.all AV.pC
 | x=>x.pC
def AV.pT:AV→Bool
 | .tup xs=>xs.all AV.pA
 | x=>x.pA
section
variable {P:Program} {w w':World} {γ γ':Gh} {H H':Hp} {I:Nat→Prop}
theorem p0_sim{x:AV}{v:Value}(hp:x.p0=true)(h:Sim w γ x v):Sim w γ' x v:=by
 cases h with
 | undef=>exact .undef _
 | bool b=>exact .bool b
 | anyb b=>exact .anyb b
 | int k n=>exact .int k n
 | str s=>exact .str s
 | lit v=>exact .lit v
 | sl0 sz full A cap hc=>exact .sl0 sz full A cap hc
 | sl sz es full b off cap U hp' =>
  cases es with
  | nil=>simp at hp'
  | cons _ _=>cases hp
 | _=>cases hp
theorem p1_sim{x:AV}{v:Value}(hp:x.p1=true)(h:Sim w γ x v):Sim w γ' x v:=by
 by_cases hx:∃ cs,x=.agg cs
 ·obtain ⟨xs,rfl⟩:=hx
  obtain ⟨cs,rfl,hz,hs⟩:=agg_inv h
  refine .agg xs cs hz fun i x v hx hv=>p0_sim (List.all_eq_true.1 hp x (List.mem_of_getElem? hx)) (hs i x v hx hv)
 ·have e:x.p1=x.p0:=by cases x <;> first | rfl | exact absurd ⟨_,rfl⟩ hx
  exact p0_sim (e ▸ hp) h
theorem flat_p1{x:AV}(hp:x.p1=true):∀ y∈x.flat,y.p0=true:=by
 by_cases hx:∃ cs,x=.agg cs
 ·obtain ⟨xs,rfl⟩:=hx
  intro y hy
  exact List.all_eq_true.1 hp y hy
 ·have e:x.p1=x.p0:=by cases x <;> first | rfl | exact absurd ⟨_,rfl⟩ hx
  intro y hy
  rw [flat_one fun cs e=>hx ⟨cs,e⟩] at hy
  simp at hy; subst hy
  exact e ▸ hp
theorem pC_own{x:AV}{v:Value}{os:List GE}{I':Nat→Prop}(hp:x.pC=true)(h:OwnC w I os x v):OwnC w I' os x v:=by
 unfold OwnC at h ⊢
 split at h
 ·rename_i sz ty es
  obtain ⟨ge,ho,h⟩:=h
  refine⟨ge,ho,{ h with ok:=?_ }⟩
  rcases h.ok with ⟨h1,h2,_⟩ | ⟨h1,h2⟩
  ·cases h2
  ·refine .inr ⟨h1,?_⟩
   rcases h2 with h2 | ⟨g,cs,fr,h2,h3,h4,h5,h6,h7⟩
   ·exact .inl h2
   ·refine .inr ⟨g,cs,fr,h2,h3,h4,h5,h6,fun i x hx=>⟨(h7 i x hx).1,fun j y hy=>?_⟩⟩
    obtain ⟨u,u1,u2,u3⟩:=(h7 i x hx).2 j y hy
    exact⟨u,u1,u2,p0_sim (flat_p1 (List.all_eq_true.1 hp x (List.mem_of_getElem? hx)) y (List.mem_of_getElem? hy)) u3⟩
 ·rename_i hne
  have e:x.pC=x.p1:=by cases x <;> first | rfl | exact absurd rfl (hne _ _ _)
  exact⟨h.1,p1_sim (e ▸ hp) h.2⟩
theorem OwnL.map{R R':List GE→AV→Value→Prop}{os:List GE}{xs:List AV}{vs:List Value}(h:OwnL R os xs vs):(∀ x∈xs,∀ os v,R os x v→R' os x v)→OwnL R' os xs vs:=by
 induction h with
 | nil=>intro _; exact .nil
 | cons h1 h2 ih=>intro hR; exact .cons (hR _ (by simp) _ _ h1) (ih fun x hx=>hR x (by simp [hx]))
theorem pA_own{x:AV}{v:Value}{os:List GE}{I':Nat→Prop}(hp:x.pA=true)(h:OwnA w I os x v):OwnA w I' os x v:=by
 unfold OwnA at h ⊢
 split at h
 ·rename_i xs
  obtain ⟨cs,rfl,h⟩:=h
  exact⟨cs,rfl,h.map fun x hx os v hR=>pC_own (List.all_eq_true.1 hp x hx) hR⟩
 ·rename_i hne
  have e:x.pA=x.pC:=by cases x <;> first | rfl | exact absurd rfl (hne _)
  exact pC_own (e ▸ hp) h
theorem pT_own{x:AV}{v:Value}{os:List GE}{I':Nat→Prop}(hp:x.pT=true)(h:OwnT w I os x v):OwnT w I' os x v:=by
 unfold OwnT at h ⊢
 split at h
 ·rename_i xs
  obtain ⟨cs,rfl,h⟩:=h
  exact⟨cs,rfl,h.map fun x hx os v hR=>pA_own (List.all_eq_true.1 hp x hx) hR⟩
 ·rename_i hne
  have e:x.pT=x.pA:=by cases x <;> first | rfl | exact absurd rfl (hne _)
  exact pA_own (e ▸ hp) h
/-! ### Rows that nobody writes any more -/
theorem still_ent:∀(l:List Nat) (H:Hp) (j:Nat),ent (still H l) j =(ent H j).map fun e=>if j∈l then { e with wr:=false } else e
 | [],H,j=>by simp [still]
 | id :: l,H,j=>by
  simp only[still]
  split
  ·rename_i e he
   rw [still_ent l,ent_set he]
   by_cases hj:j=id
   ·subst hj; rw [if_pos rfl,he]; simp
   ·rw [if_neg hj]; simp [hj]
  ·rename_i he
   rw [still_ent l]
   by_cases hj:j=id
   ·subst hj; rw [he]; rfl
   ·simp [hj]
def Gh.still(γ:Gh)(l:List Nat)(J:Nat→Prop):Gh:=⟨fun id=>(γ.m id).map fun ge=>if id∈l∧ge.st≠0 then { ge with st:=1 } else ge,J⟩
theorem st_cases(hh:HRel γ H w){id:Nat}{ge:GE}(hm:γ.m id=some ge):ge.st=0∨ge.st=1∨ge.st=2:=by
 obtain ⟨e,_,h⟩:=hh.ent hm
 rcases h with h | h
 ·exact .inl h.1
 ·rw [h.1]; split
  ·exact .inr (.inr rfl)
  ·exact .inr (.inl rfl)
theorem still_look{l:List Nat}{J:Nat→Prop}{id:Nat}{ge:GE}(h:(γ.still l J).m id=some ge):∃ x,γ.m id=some x∧ge.blk=x.blk ∧(ge.st=0↔x.st=0) ∧(ge.st=2→id ∉ l∧x.st=2) ∧(ge.st=1→x.st=1 ∨(id∈l∧x.st≠0)):=by
 simp only[Gh.still] at h
 obtain ⟨x,hx,rfl⟩:=Option.map_eq_some_iff.1 h
 refine⟨x,hx,?_⟩
 split
 ·rename_i hc
  exact⟨rfl,⟨fun h=>(by cases h),fun h=>absurd h hc.2⟩,fun h=>(by cases h),fun _=>.inr hc⟩
 ·rename_i hc
  refine⟨rfl,Iff.rfl,fun h=>⟨fun hl=>hc ⟨hl,by rw [h]; decide⟩,h⟩,fun h=>.inl h⟩
theorem gen_all(hq:Lq.q w γ.imm)(hh:HRel γ H w){xs ys:List AV}{args:Array Value}{ms:List Mode}{H1:Hp}{l l':List Nat}{f:FuncId}{r:AV}(hr:Run P f ys r)(hl:xs.length=args.size)
  (hs:∀(i:Nat) (x:AV) (v:Value),xs[i]?=some x→args[i]?=some v→Sim w γ x v) (hp:pass H ms xs=some (ys,H1,l)) (hlive:liveB H1 l=true) (hl':l'=l ∨(l'=[]∧r.pT=true)) :
  Calls P f args w fun e W=>∃ v γ',e=.returned v∧Sim W γ' (lay (still H1 l') r).1 v∧HRel γ' (lay (still H1 l') r).2 W∧Step γ γ' w W∧Ids γ γ':=by
 obtain ⟨γ1,os,g1,r1,n1,k⟩:=passG_sim passOne_p Mode.snap xs γ H H1 ms ys args.toList l hh (by simpa using hl) (fun i x v hx hv=>hs i x v hx (by simpa using hv)) hp
 have hliv:∀ id∈l,∀ ge,γ.m id=some ge→ge.st≠0→γ1.m id=some ge:=by
  intro id hid ge hm hst
  rcases g1.ids id ge hm with h | h
  ·exact h
  ·exfalso
   have:=List.all_eq_true.1 hlive id hid
   split at this
   ·rename_i e he
    obtain ⟨ge',hm',hok⟩:=r1.ok id e he
    rw [h] at hm'; cases hm'
    have hl:=hok.live (by
     simp only[Bool.or_eq_true,Bool.not_eq_true',List.isEmpty_eq_false_iff] at this
     exact this)
    have:=hl.1
    simp only at this
    split at this <;> cases this
   ·cases this
 -- the rows that are handed over,and the rest
 have hos:∀ b,blks os b→γ.owns b∧∀ id ge,γ1.m id=some ge→ge.st≠0→ge.blk≠some b:=by
  rintro b ⟨ge,hge,hb⟩
  obtain ⟨id,h1,h2,h3⟩:=g1.src ge hge b hb
  refine⟨⟨id,ge,h1,h2,hb⟩,fun id' ge' hm hst hb'=>?_⟩
  have e:=hh.inj id id' ge ge' b h1 (g1.rev id' ge' hm hst) (by rw [h2]; decide) hst hb hb'
  subst e
  rw [h3] at hm; cases hm
  exact hst rfl
 let I:Nat→Prop:=fun b=>γ.imm b∨∃ id∈l,∃ ge,γ.m id=some ge∧ge.st≠0∧ge.blk=some b
 have hI:∀ b,γ.imm b→I b:=fun b hb=>.inl hb
 have hIos:∀ b,I b→b < w.heap.size∧¬ blks os b:=by
  rintro b (hb | ⟨id,hid,ge,hm,hst,hb⟩)
  ·exact⟨(hh.imm b hb).1,fun h=>(hh.imm b hb).2 (hos b h).1⟩
  ·exact⟨hh.blkLt hm hst hb,fun h=>(hos b h).2 id ge (hliv id hid ge hm hst) hst hb⟩
 have ownlt:∀ b,γ.owns b→b < w.heap.size:=fun b ⟨id,ge,h1,h2,h3⟩=>hh.blkLt h1 (by rw [h2]; decide) h3
 have hown:=k I hI (fun id hid ge b hm hst hb=>.inr ⟨id,hid,ge,hm,hst,hb⟩)
 refine Calls.mono (hr.2 w I os args (Lq.more hq (fun b hb=>(hh.imm b hb).1) hI) ⟨hIos,fun b hb=>ownlt b (hos b hb).1,g1.ap⟩ hown) ?_
 rintro e W ⟨v,I',os',rfl,hv,hok',hst⟩
 -- what nobody writes,behind the call
 obtain ⟨J,hJ0,hJn,hJlt,hJos,hJl,hvJ⟩:∃ J:Nat→Prop,(∀ b,γ.imm b→J b) ∧(∀ b,J b→I b ∧(γ.imm b∨l'=l)∨blks os b∨w.heap.size≤b) ∧(∀ b,J b→b < W.heap.size) ∧(∀ b,blks os' b→¬ J b) ∧
   (∀ id∈l',∀ ge b,γ.m id=some ge→ge.st≠0→ge.blk=some b→J b)∧OwnT W J os' r v:=by
  rcases hl' with rfl | ⟨rfl,hpl⟩
  ·refine⟨I',fun b hb=>hst.immk b (hI b hb),fun b hb=>(hst.immn b hb).imp (fun h=>⟨h,.inr rfl⟩) id,fun b hb=>(hok'.imm b hb).1,fun b hb h=>(hok'.imm b h).2 hb,fun id hid ge b h1 h2 h3=>hst.immk b (.inr ⟨id,hid,ge,h1,h2,h3⟩),hv⟩
  ·refine⟨γ.imm,fun b hb=>hb,fun b hb=>.inl ⟨.inl hb,.inl hb⟩,fun b hb=>Nat.lt_of_lt_of_le (hh.imm b hb).1 hst.size,fun b hb h=>?_,fun id hid=>(by cases hid),pT_own hpl hv⟩
   rcases hst.own b hb with h' | h'
   ·exact(hIos b (.inl h)).2 h'
   ·have:=(hh.imm b h).1; omega
 have keep:∀ id ge b,γ1.m id=some ge→ge.st≠0→ge.blk=some b→W.heap[b]?=w.heap[b]?:=fun id ge b h1 h2 h3 =>
  hst.keep b (r1.blkLt h1 h2 h3) fun h=>(hos b h).2 id ge h1 h2 h3
 have advS:Adv γ1 (γ1.still l' J) w W:=⟨hst.size,fun b hb=>⟨hJ0 b (by rw [← g1.imm]; exact hb),fun hlt=>hst.keep b hlt fun h=>(hIos b (.inl (by rw [← g1.imm]; exact hb))).2 h⟩,fun id ge hm=>by
  simp only[Gh.still,hm,Option.map_some]
  split
  ·exact⟨1,rfl⟩
  ·exact⟨ge.st,rfl⟩⟩
 have hS:HRel (γ1.still l' J) (still H1 l') W:=by
  refine⟨?_,?_,?_,?_,?_⟩
  ·intro id hid
   rw [still_ent] at hid
   have:ent H1 id=none:=by
    cases h:ent H1 id with
    | none=>rfl
    | some e=>rw [h] at hid; cases hid
   simp [Gh.still,r1.none id this]
  ·intro id e hid
   rw [still_ent] at hid
   obtain ⟨e0,he0,rfl⟩:=Option.map_eq_some_iff.1 hid
   obtain ⟨ge,hm,hok⟩:=r1.ok id e0 he0
   have hokW:=hok.adv advS fun g h1 h2=>keep id ge g hm h1 h2
   refine⟨(if id∈l'∧ge.st≠0 then { ge with st:=1 } else ge),by simp only[Gh.still,hm,Option.map_some],?_⟩
   by_cases hid':id∈l'
   ·rw [if_pos hid']
    by_cases h0:ge.st=0
    ·rw [if_neg (fun h=>h.2 h0)]
     rcases hokW with h | h
     ·exact .inl ⟨h.1,rfl,h.2.2⟩
     ·exfalso
      have:=h.1
      rw [h0] at this
      split at this <;> cases this
    ·rw [if_pos ⟨hid',h0⟩]
     rcases hokW with h | h
     ·exact absurd h.1 h0
     ·exact .inr ⟨rfl,h.2⟩
   ·rw [if_neg hid',if_neg (fun h=>hid' h.1)]
    exact hokW
  ·intro i j x y b hi hj hx hy hbx hby
   obtain ⟨x0,h1,h2,h3,_⟩:=still_look hi
   obtain ⟨y0,k1,k2,k3,_⟩:=still_look hj
   exact r1.inj i j x0 y0 b h1 k1 (fun h=>hx (h3.2 h)) (fun h=>hy (k3.2 h)) (by rw [← h2]; exact hbx) (by rw [← k2]; exact hby)
  ·intro b hb
   refine⟨hJlt b hb,?_⟩
   rintro ⟨id,ge,hm,hst2,hb2⟩
   obtain ⟨x,h1,h2,_,h4,_⟩:=still_look hm
   obtain ⟨h5,h6⟩:=h4 hst2
   have hx0:x.st≠0:=by rw [h6]; decide
   have hxb:x.blk=some b:=by rw [← h2]; exact hb2
   have hg:=g1.rev id x h1 hx0
   rcases hJn b hb with ⟨hI',hcase⟩ | h | h
   ·rcases hI' with h | ⟨id',hid',ge',hm',hst',hb'⟩
    ·exact(hh.imm b h).2 ⟨id,x,hg,h6,hxb⟩
    ·have e:=hh.inj id' id ge' x b hm' hg hst' hx0 hb' hxb
     subst e
     rcases hcase with h | h
     ·exact(hh.imm b h).2 ⟨_,x,hg,h6,hxb⟩
     ·rw [h] at h5; exact h5 hid'
   ·exact(hos b h).2 id x h1 hx0 hxb
   ·have:=r1.blkLt h1 hx0 hxb; omega
  ·intro id ge b hm hst1 hb
   obtain ⟨x,h1,h2,_,_,h5⟩:=still_look hm
   have hxb:x.blk=some b:=by rw [← h2]; exact hb
   rcases h5 hst1 with h | ⟨h,h0⟩
   ·exact hJ0 b (hh.stl id x b (g1.rev id x h1 (by rw [h]; decide)) h hxb)
   ·exact hJl id h x b (g1.rev id x h1 h0) h0 hxb
 have hF:Fresh W (γ1.still l' J) os':=by
  refine⟨hJos,fun b hb id ge hm hst0 hb'=>?_,hok'.ap⟩
  obtain ⟨x,h1,h2,h3,_⟩:=still_look hm
  have hx0:x.st≠0:=fun h=>hst0 (h3.2 h)
  have hxb:x.blk=some b:=by rw [← h2]; exact hb'
  rcases hst.own b hb with h | h
  ·exact(hos b h).2 id x h1 hx0 hxb
  ·have:=r1.blkLt h1 hx0 hxb; omega
 obtain ⟨γ3,m3,r3,s3⟩:=lay_p (I:=J) (γ1.still l' J) (still H1 l') os' r v rfl hS hvJ hF
 refine⟨v,γ3,rfl,s3,r3,⟨hst.osk,hst.tape,hst.output,hst.size,fun b hb hn=>hst.keep b hb fun h=>hn (hos b h).1,?_,?_,?_⟩,?_⟩
 ·intro b hb
  rcases (m3.own b).1 hb with ⟨id,ge,h1,h2,h3⟩ | h
  ·obtain ⟨x,k1,k2,_,k4,_⟩:=still_look h1
   have h6:=(k4 h2).2
   exact .inl ⟨id,x,g1.rev id x k1 (by rw [h6]; decide),h6,by rw [← k2]; exact h3⟩
  ·exact(hst.own b h).imp (fun h=>(hos b h).1) id
 ·intro b hb
  rw [m3.imm]; exact hJ0 b hb
 ·intro b hb
  rw [m3.imm] at hb
  rcases hJn b hb with ⟨h,_⟩ | h | h
  ·rcases h with h | ⟨id,hid,ge,hm,hst0,hb'⟩
   ·exact .inl h
   ·rcases st_cases hh hm with h | h | h
    ·exact absurd h hst0
    ·exact .inl (hh.stl id ge b hm h hb')
    ·exact .inr (.inl ⟨id,ge,hm,h,hb'⟩)
  ·exact .inr (.inl (hos b h).1)
  ·exact .inr (.inr h)
 ·intro id ge hm
  obtain ⟨st,h1⟩:=g1.toIds id ge hm
  obtain ⟨st',h2⟩:=advS.id id _ h1
  exact⟨st',m3.ids id _ h2⟩
theorem gen_still{xs ys:List AV}{ms:List Mode}{H1:Hp}{l:List Nat}{f:FuncId}{r:AV}(hr:Run P f ys r)(hp:pass H ms xs=some (ys,H1,l))(hlive:liveB H1 l=true) :
  Gen P f xs H (lay (still H1 l) r).1 (lay (still H1 l) r).2 :=
 ⟨hr.1,fun _ _ _ hq hh hl hs=>gen_all hq hh hr hl hs hp hlive (.inl rfl)⟩
theorem gen_plain{xs ys:List AV}{ms:List Mode}{H1:Hp}{l:List Nat}{f:FuncId}{r:AV}(hr:Run P f ys r)(hp:pass H ms xs=some (ys,H1,l))(hlive:liveB H1 l=true)(hpl:r.pT=true) :
  Gen P f xs H (lay H1 r).1 (lay H1 r).2 :=
 ⟨hr.1,fun _ _ _ hq hh hl hs=>gen_all (l':=[]) hq hh hr hl hs hp hlive (.inr ⟨rfl,hpl⟩)⟩
end
end Go.Pv
/-
 The machine of plain values,16: code.
-/
namespace Go.Pv
variable [Lq]
inductive AE where
 | normal
 | exit (id:Nat)
 | ret
def St.put(σ:St)(d:Option Nat)(x:AV):St:=⟨putO σ.fr d x,σ.hp⟩
structure Grow(no:List TypeId)(H H':Hp):Prop where
 len:H.length≤H'.length
 still:∀ id e,ent H id=some e→∃ e',ent H' id=some e'
 some:∀ id e,ent H id=some e→no.contains e.ty=false→∃ wr,ent H' id=some { e with wr:=wr }
 none:∀ id,id < H.length→ent H id=none→ent H' id=none
def noLoad(no:List TypeId)(fr:Fr)(hp:Hp):OpR→Bool
 | .load _ _ x=>match x.ev fr with
  | .eptr id _ _=>match ent hp id with
   | some e=>!no.contains e.ty
   | none=>true
  | _=>true
 | _=>true
def known0(hp:Hp):AV→Bool
 | .vec id _ _ _ | .eptr id _ _=>(ent hp id).isSome
 | .bool _ | .anyb | .int .. | .str _ | .lit _ | .undef | .sl .. | .rptr ..=>true
 | _=>false
def known(hp:Hp):AV→Bool
 | .agg cs=>cs.all (known0 hp)
 | x=>known0 hp x
def setAll(hp:Hp)(L:List (Nat × Ent)):Hp:=L.foldl (fun h p=>h.set p.1 (some p.2)) hp
def Framed(P:Program)(f:FuncId)(xs:List AV)(hp:Hp)(r:AV)(H':Hp):Prop :=
 ∀ L:List (Nat × Ent),(∀ p∈L,ent hp p.1=none∧p.1 < hp.length∧p.2.wr=true)→Gen P f xs (setAll hp L) r (setAll H' L)
def notBool:Value→Bool
 | .bool _=>false
 | _=>true
def aw1(P:Program)(base:Nat)(o:Op2)(σ:St)(K:St→Prop):Prop :=
 match o.op with
 | .p q=>match evP σ.fr q with
  | some x=>K (σ.put o.dst x)
  | none=>False
 | .r q=>match evR σ.fr σ.hp q with
  | some x=>noLoad o.no σ.fr σ.hp q=true∧K (σ.put o.dst x)
  | none=>False
 | .e q r=>match evE base r σ.fr σ.hp q with
  | some p=>K ⟨putO σ.fr o.dst p.1,p.2⟩
  | none=>False
 | .call f xs d=>∃ r H',Gen P f (xs.map (·.ev σ.fr)) σ.hp r H' ∧(d=true→Grow o.no σ.hp H' ∧(o.fm=true→Framed P f (xs.map (·.ev σ.fr)) σ.hp r H'))∧K ⟨putO σ.fr o.dst r,H'⟩
 | .callv x xs=>match x.ev σ.fr with
  | .fn f caps=>∃ r H',Gen P (fnId f) (fnArgs f (xs.map (·.ev σ.fr)) caps) σ.hp r H'∧σ.hp.length≤H'.length∧K ⟨putO σ.fr o.dst r,H'⟩
  | _=>False
 | .bad=>False
def aw2(P:Program)(base:Nat)(o:Op2)(σ:St)(K:St→Prop):Prop :=
 match o.guard with
 | none=>aw1 P base o σ K
 | some (t,want)=>match get σ.fr t with
  | .bool b=>if b=want then aw1 P base o σ K else K (σ.put o.dst (.lit Go.undef))
  | .lit v=>notBool v=true∧K (σ.put o.dst (.lit Go.undef))
  | _=>False
def awOps(P:Program)(base:Nat):List Op2→St →(St→Prop)→Prop
 | [],σ,K=>K σ
 | o :: r,σ,K=>aw2 P base o σ fun σ=>awOps P base r σ K
def inBlk(id:Nat)(K:AE→St→Prop):AE→St→Prop
 | .exit id',σ=>if id'=id then K .normal σ else K (.exit id') σ
 | e,σ=>K e σ
def andThen(N:St→Prop)(K:AE→St→Prop):AE→St→Prop
 | .normal,σ=>N σ
 | e,σ=>K e σ
def aw(P:Program):AC →(AE→St→Prop)→St→Prop
 | .skip,K,σ=>K .normal σ
 | .region n ops tr,K,σ=>awOps P σ.hp.length ops ⟨σ.fr,σ.hp ++ List.replicate n none⟩ fun σ=>K .normal (trim tr σ)
 | .regionA n ops ps tr,K,σ=>awOps P σ.hp.length ops ⟨σ.fr,σ.hp ++ List.replicate n none⟩ fun σ=>apB ps σ.fr=true∧K .normal (trim tr σ)
 | .seq a b,K,σ=>aw P a (andThen (aw P b K) K) σ
 | .cond c x y,K,σ=>match c.ev σ.fr with
  | .bool b=>(b=true→aw P x K σ) ∧(b=false→aw P y K σ)
  | .anyb=>aw P x K σ∧aw P y K σ
  | _=>False
 | .block id b,K,σ=>aw P b (inBlk id K) σ
 | .loop tr b,K,σ=>∃ I:Nat→St→Prop,(∃ n,I n (trim tr σ))∧∀ n σ,I n σ→aw P b (andThen (fun σ'=>∃ m,m < n∧I m (trim tr σ')) K) σ
 | .exit id,K,σ=>K (.exit id) σ
 | .ret,K,σ=>K .ret σ
 | .scope b,K,σ=>aw P b K σ
 | .bad,_,_=>False
structure Dq where
 ds:List Deferred
 pv:List (Nat × Value)
def Dq.no:Dq:=⟨[],[]⟩
def Dq.pin(D:Dq)(t:Nat):Bool:=(D.pv.map (·.1)).contains t
structure SR(D:Dq)(n:Nat)(k:Bool)(γ0:Gh)(w0:World)(γ:Gh)(σ:St)(a:Act)(w:World):Prop where
 fr:FrR w γ σ.fr a.tmps
 hp:HRel γ σ.hp w
 st:Step γ0 γ w0 w
 df:a.defers=D.ds
 sz:a.tmps.size=n∧∀ p∈D.pv,a.tmps.getD p.1 Go.undef=p.2
 ids:k=true→Ids γ0 γ
 lq:Lq.q w γ.imm
def Up(D:Dq)(n:Nat)(k:Bool)(γ0:Gh)(w0:World)(K:St→Prop)(a:Act)(w:World):Prop:=∃ γ σ,SR D n k γ0 w0 γ σ a w∧K σ
def LiftK(D:Dq)(n:Nat)(k:Bool)(γ0:Gh)(w0:World)(K:AE→St→Prop):Exit→Act→World→Prop
 | .normal,a,w=>Up D n k γ0 w0 (K .normal) a w
 | .exit id,a,w=>Up D n k γ0 w0 (K (.exit id)) a w
 | .ret,a,w=>Up D n k γ0 w0 (K .ret) a w
 | _,_,_=>False
def dstOk(ps:List Nat)(n:Nat)(o:Op2):Bool:=match o.dst with | some d=>decide (d < n) && !ps.contains d | none=>true
def okT(k:Bool):Option Trim→Bool
 | none=>true
 | some t=>!(k && t.gc)
def okCp(ps:List Nat)(n:Nat)(k:Bool):AC→Bool
 | .region _ ops tr=>ops.all (dstOk ps n) && okT k tr
 | .regionA _ ops _ tr=>ops.all (dstOk ps n) && okT k tr
 | .seq a b=>okCp ps n k a && okCp ps n k b
 | .cond _ x y=>okCp ps n k x && okCp ps n k y
 | .block _ b=>okCp ps n k b
 | .loop tr b=>okCp ps n k b && okT k tr
 | .scope b=>okCp ps n k b
 | _=>true
abbrev okC(n:Nat)(k:Bool)(c:AC):Bool:=okCp [] n k c
section
variable {P:Program} {n:Nat} {k:Bool} {γ0 γ:Gh} {w0 w:World} {σ:St} {a:Act} {D:Dq}
theorem put_size(a:Act)(d:Option Nat)(v:Value):(a.put d v).tmps.size=a.tmps.size:=by cases d <;> simp [Act.put]
theorem put_defers(a:Act)(d:Option Nat)(v:Value):(a.put d v).defers=a.defers:=by cases d <;> rfl
theorem put_pin{a:Act}{d:Option Nat}{v:Value}{t:Nat}(h:d≠some t):(a.put d v).tmps.getD t Go.undef=a.tmps.getD t Go.undef:=by
 cases d with
 | none=>rfl
 | some d =>
  have:d≠t:=fun e=>h (by rw [e])
  simp [Act.put,Array.getD_eq_getD_getElem?,Array.getElem?_setIfInBounds_ne this]
theorem SR.put(h:SR D n k γ0 w0 γ σ a w){γ':Gh}{w':World}{H':Hp}{x:AV}{v:Value}{d:Option Nat}(hd:∀ t,d=some t→t < n∧D.pin t=false)(hs:Sim w' γ' x v)(hh:HRel γ' H' w')(st:Step γ γ' w w')(ids:Ids γ γ'):SR D n k γ0 w0 γ' ⟨putO σ.fr d x,H'⟩ (a.put d v) w' :=
 ⟨(h.fr.adv (st.adv ids h.hp.imm)).put hs (fun t ht=>by rw [h.sz.1]; exact(hd t ht).1),hh,h.st.trans st,by rw [put_defers]; exact h.df,by rw [put_size]; exact⟨h.sz.1,fun p hp=>(put_pin fun hdp=>by have:=(hd _ hdp).2; unfold Dq.pin at this; rw [List.contains_iff_mem.2 (List.mem_map.2 ⟨p,hp,rfl⟩)] at this; cases this).trans (h.sz.2 p hp)⟩,fun hk=>(h.ids hk).trans ids,st.q h.hp.imm h.lq⟩
theorem SR.put'(h:SR D n k γ0 w0 γ σ a w){x:AV}{v:Value}{d:Option Nat}(hd:∀ t,d=some t→t < n∧D.pin t=false)(hs:Sim w γ x v):SR D n k γ0 w0 γ (σ.put d x) (a.put d v) w :=
 h.put hd hs h.hp (Step.refl _ _) (Ids.refl _)
theorem args_sim(h:SR D n k γ0 w0 γ σ a w)(args:Array Operand):((args.toList.map cx).map (·.ev σ.fr)).length =(args.map a.eval).size ∧
  ∀(i:Nat) (x:AV) (v:Value),((args.toList.map cx).map (·.ev σ.fr))[i]?=some x →(args.map a.eval)[i]?=some v→Sim w γ x v:=by
 refine⟨by simp,fun i x v hx hv=>?_⟩
 simp only[List.getElem?_map,Array.getElem?_map] at hx hv
 rw [← Array.getElem?_toList] at hv
 cases hi:args.toList[i]? with
 | none=>rw [hi] at hx; cases hx
 | some y =>
  rw [hi] at hx hv
  simp only[Option.map_some,Option.some.injEq] at hx hv
  subst hx hv
  exact cx_sim h.fr y
theorem call_run(f:FuncId)(hc:Can P f)(args:Array Value)(w:World):(invoke (.fn (.func f) #[]) args).run P w=.ok (.enter f args) w:=by
 simp only[invoke,Array.append_empty]
 exact hc args w
theorem call_inv{d:Bool}{r:Option Nat}{o:Oper}{f:FuncId}{xs:List AX}{d':Bool}(hc:compOp P d r o=.call f xs d'):∃ args ts,o.op=.call { callee:=.value (.func f),args:=args,argTypes:=ts }∧xs=args.toList.map cx:=by
 obtain ⟨dst,op,ty,pos,after,guard⟩:=o
 cases op with
 | call c =>
  obtain ⟨callee,args,ts⟩:=c
  cases callee with
  | builtin b=>simp only[compOp] at hc; repeat' (first | (cases hc; done) | split at hc)
  | invoke=>cases hc
  | value g =>
   cases g <;> try (cases hc; done)
   simp only[compOp] at hc
   split at hc
   ·split at hc <;> cases hc
   ·cases hc; exact⟨args,ts,rfl,rfl⟩
 | makeFunc fn first caps=>cases fn <;> simp only[compOp] at hc <;> repeat' (first | (cases hc; done) | split at hc)
 | _=>first | (cases hc; done) | (simp only[compOp] at hc; repeat' (first | (cases hc; done) | split at hc))
theorem callv_inv{d:Bool}{r:Option Nat}{o:Oper}{x:AX}{xs:List AX}(hc:compOp P d r o=.callv x xs):∃ g args ts,o.op=.call { callee:=.value g,args:=args,argTypes:=ts }∧x=cx g∧xs=args.toList.map cx:=by
 obtain ⟨dst,op,ty,pos,after,guard⟩:=o
 cases op with
 | call c =>
  obtain ⟨callee,args,ts⟩:=c
  cases callee with
  | builtin b=>simp only[compOp] at hc; repeat' (first | (cases hc; done) | split at hc)
  | invoke=>cases hc
  | value g =>
   refine⟨g,args,ts,rfl,?_⟩
   cases g <;> first | (cases hc; exact⟨rfl,rfl⟩) | (simp only[compOp] at hc; split at hc <;>(try split at hc) <;> cases hc)
 | makeFunc fn first caps=>cases fn <;> simp only[compOp] at hc <;> repeat' (first | (cases hc; done) | split at hc)
 | _=>first | (cases hc; done) | (simp only[compOp] at hc; repeat' (first | (cases hc; done) | split at hc))
theorem aw1_sound{o:Oper}{o2:Op2}{d:Bool}{r:Option Nat}{base:Nat}{K:St→Prop}{Q:Exit→Act→World→Prop}(h:SR D n k γ0 w0 γ σ a w)(hop:o2.op=compOp P d r o)(hdst:o2.dst=o.dst)(hd:∀ t,o.dst=some t→t < n∧D.pin t=false)
  (hx:aw1 P base o2 σ K):o.wp P a w (Up D n k γ0 w0 K) Q:=by
 unfold aw1 at hx
 unfold Oper.wp
 rw [hop,hdst] at hx
 cases hc:compOp P d r o with
 | p q =>
  rw [hc] at hx
  dsimp only at hx
  split at hx
  ·rename_i x he
   obtain ⟨v,hr,hs⟩:=evP_sound h.fr hc he
   rw [hr]
   exact⟨γ,_,h.put' hd hs,hx⟩
  ·exact hx.elim
 | r q =>
  rw [hc] at hx
  dsimp only at hx
  split at hx
  ·rename_i x he
   obtain ⟨v,hr,hs⟩:=evR_sound h.fr h.hp hc he
   rw [hr]
   exact⟨γ,_,h.put' hd hs,hx.2⟩
  ·exact hx.elim
 | e q r' =>
  rw [hc] at hx
  dsimp only at hx
  split at hx
  ·rename_i p he
   obtain ⟨x,H'⟩:=p
   obtain ⟨nx,w',γ',hr,hv,hh,st,ids⟩:=evE_sound h.fr h.hp hc he
   rw [hr]
   rcases hv with ⟨v,rfl,hs⟩ | ⟨rfl,rfl⟩
   ·exact⟨γ',_,h.put hd hs hh st ids,hx⟩
   ·exact⟨γ',_,h.put hd (.undef _) hh st ids,hx⟩
  ·exact hx.elim
 | bad=>rw [hc] at hx; exact hx.elim
 | call f xs d' =>
  rw [hc] at hx
  obtain ⟨y,H',⟨hcan,hg⟩,_,hK⟩:=hx
  obtain ⟨args,ts,ho,rfl⟩:=call_inv hc
  obtain ⟨h1,h2⟩:=args_sim h args
  have hrun:(execOp a.eval o).run P w=.ok (.enter f (args.map a.eval)) w:=by
   have:=call_run (P:=P) f hcan (args.map a.eval) w
   simpa [execOp,ho,resolve,Deferred.ofValue,Act.eval] using this
  rw [hrun]
  refine Calls.mono (hg w γ _ h.lq h.hp h1 h2) ?_
  rintro e W ⟨v,γ',rfl,hs,hh,st,ids⟩
  exact⟨γ',_,h.put hd hs hh st ids,hK⟩
 | callv x xs =>
  rw [hc] at hx
  dsimp only at hx
  split at hx
  case h_2=>exact hx.elim
  rename_i f caps hev
  obtain ⟨y,H',⟨hcan,hg⟩,_,hK⟩:=hx
  obtain ⟨g,args,ts,ho,rfl,rfl⟩:=callv_inv hc
  have hsim:=cx_sim h.fr g (γ:=γ)
  rw [hev] at hsim
  generalize hv:a.eval g=gv at hsim
  cases hsim with
  | fn _ g' _ fs cs hfv hz hsc =>
  obtain ⟨h1,h2⟩:=args_sim h args
  have hrun:(execOp a.eval o).run P w=.ok (.enter (fnId f) (fs ++(args.map a.eval ++ cs))) w:=by
   have e:fnId f=g':=by
    unfold fnId
    rcases hfv with ⟨rfl,_,hl⟩ | ⟨rfl,_⟩
    ·rw [if_pos hl]
    ·exact(if_neg (Nat.not_lt.2 (Nat.le_add_left _ _))).trans (Nat.add_sub_cancel _ _)
   rw [e] at hcan ⊢
   have:=hcan (fs ++(args.map a.eval ++ cs)) w
   simpa [execOp,ho,resolve,Deferred.ofValue,hv,invoke] using this
  rw [hrun]
  have hboth:(fnArgs f ((args.toList.map cx).map (·.ev σ.fr)) caps).length =(fs ++(args.map a.eval ++ cs)).size∧∀(i:Nat) (x:AV) (v:Value),(fnArgs f ((args.toList.map cx).map (·.ev σ.fr)) caps)[i]?=some x →(fs ++(args.map a.eval ++ cs))[i]?=some v→Sim w γ x v:=by
   unfold fnArgs
   rcases hfv with ⟨rfl,rfl,hl⟩ | ⟨rfl,rfl⟩
   ·rw [if_pos hl,Array.empty_append]
    rw [Array.empty_append] at hz hsc
    refine⟨by rw [List.length_append,Array.size_append,h1,hz],?_⟩
    intro i x v hx hv
    rw [Array.getElem?_append] at hv
    by_cases hi:i <(args.map a.eval).size
    ·rw [if_pos hi] at hv
     rw [List.getElem?_append_left (by rw [h1]; exact hi)] at hx
     exact h2 i x v hx hv
    ·rw [if_neg hi] at hv
     rw [List.getElem?_append_right (by rw [h1]; omega)] at hx
     rw [h1] at hx
     exact hsc _ x v hx hv
   ·rw [if_neg (Nat.not_lt.2 (Nat.le_add_left _ _)),Array.append_empty]
    rw [Array.append_empty] at hz hsc
    refine⟨by rw [List.length_append,Array.size_append,h1,hz],?_⟩
    intro i x v hx hv
    rw [Array.getElem?_append] at hv
    by_cases hi:i < fs.size
    ·rw [if_pos hi] at hv
     rw [List.getElem?_append_left (by rw [hz]; exact hi)] at hx
     exact hsc i x v hx hv
    ·rw [if_neg hi] at hv
     rw [List.getElem?_append_right (by rw [hz]; omega)] at hx
     rw [hz] at hx
     exact h2 _ x v hx hv
  refine Calls.mono (hg w γ _ h.lq h.hp hboth.1 hboth.2) ?_
  rintro e W ⟨v,γ',rfl,hs,hh,st,ids⟩
  exact⟨γ',_,h.put hd hs hh st ids,hK⟩
end
end Go.Pv
/-
 The machine of plain values,17: what is kept of a state; code in its order.
-/
namespace Go.Pv
variable [Lq]
section
variable {P:Program} {n:Nat} {k:Bool} {γ0 γ γ':Gh} {w0 w:World} {σ:St} {a:Act} {H H':Hp} {D:Dq}
theorem wanted_of{ops:Array Oper}{j t:Nat}{want b:Bool}(hj:(ops[j]?).bind (·.dst)=some t){tmps:Array Value}(ht:tmps.getD t Go.undef=.bool b):(yielded ops tmps j == some want) =(b == want):=by
 have:tmps[t]?=some (.bool b):=by
  rw [Array.getD_eq_getD_getElem?] at ht
  cases h:tmps[t]? with
  | none=>rw [h] at ht; cases ht
  | some v=>rw [h] at ht; simp at ht; rw [ht]
 simp only[yielded,hj,Option.bind_some,this]
 cases b <;> cases want <;> rfl
theorem aw2_sound{ops:Array Oper}{i:Nat}{o:Oper}{d:Bool}{base:Nat}{K:St→Prop}{Q:Exit→Act→World→Prop}(h:SR D n k γ0 w0 γ σ a w)(ho:ops[i]?=some o)(hd:∀ t,o.dst=some t→t < n∧D.pin t=false)
  (hx:aw2 P base (comp2 P ops d i o) σ K):wpOp P ops Q i (Up D n k γ0 w0 K) a w:=by
 unfold wpOp
 simp only[ho]
 unfold aw2 at hx
 cases hg:o.guard with
 | none =>
  have e1:(comp2 P ops d i o).guard=none:=by simp [comp2,hg]
  have e2:(comp2 P ops d i o).op=compOp P d (if d then some i else none) o:=by simp [comp2,hg]
  rw [e1] at hx
  rw [if_pos (by simp [Region.wanted,hg])]
  exact .inl (aw1_sound h e2 rfl hd hx)
 | some p =>
  obtain ⟨j,want⟩:=p
  cases hj:(ops[j]?).bind (·.dst) with
  | none =>
   have e1:(comp2 P ops d i o).guard=none:=by simp only[comp2,hg,hj]
   have e2:(comp2 P ops d i o).op=.bad:=by simp only[comp2,hg,hj]
   rw [e1] at hx
   simp only[aw1,e2] at hx
  | some t =>
   have e1:(comp2 P ops d i o).guard=some (t,want):=by simp only[comp2,hg,hj]
   have e2:(comp2 P ops d i o).op=compOp P d (if d then some i else none) o:=by simp only[comp2,hg,hj]
   rw [e1] at hx
   dsimp only at hx
   split at hx
   case h_3=>exact hx.elim
   ·rename_i b hb
    have hs:=h.fr t
    rw [hb] at hs
    have hw:=wanted_of (want:=want) hj (bool_inv hs)
    have hw':Region.wanted o (yielded ops a.tmps) =(b == want):=by simp only[Region.wanted,hg]; exact hw
    rw [hw']
    by_cases hbw:b=want
    ·rw [if_pos hbw] at hx
     rw [if_pos (by simpa using hbw)]
     exact .inl (aw1_sound h e2 rfl hd hx)
    ·rw [if_neg hbw] at hx
     rw [if_neg (by simpa using hbw)]
     exact⟨γ,_,h.put' hd (.lit _),hx⟩
   ·rename_i v hb
    have hs:=h.fr t
    rw [hb] at hs
    have hv:a.tmps.getD t Go.undef=v:=by
     generalize a.tmps.getD t Go.undef=u at hs
     cases hs; rfl
    have hw':Region.wanted o (yielded ops a.tmps)=false:=by
     simp only[Region.wanted,hg]
     have hy:yielded ops a.tmps j=none:=by
      simp only[yielded,hj,Option.bind_some]
      cases hq:a.tmps[t]? with
      | none=>rfl
      | some u =>
       rw [Array.getD_eq_getD_getElem?,hq] at hv
       simp only[Option.getD_some] at hv
       subst hv
       cases u <;> first | rfl | cases hx.1
     rw [hy]; rfl
    rw [hw',if_neg (by simp)]
    exact⟨γ,_,h.put' hd (.lit _),hx.2⟩
theorem comp2_dst(ops:Array Oper)(d:Bool)(i:Nat)(o:Oper):(comp2 P ops d i o).dst=o.dst:=rfl
theorem awOps_sound{ops:Array Oper}{base:Nat}{K:St→Prop}{Q:Exit→Act→World→Prop}(hQ:∀ a w,Up D n k γ0 w0 K a w→Q .normal a w):∀(l:List Oper) (q:Nat) (γ:Gh) (σ:St) (a:Act) (w:World),
  (∀ j,l[j]?=ops[q+j]?) →(∀ o∈l,∀ t,o.dst=some t→t < n∧D.pin t=false)→SR D n k γ0 w0 γ σ a w→awOps P base ((l.zipIdx q).map fun p=>comp2 P ops false p.2 p.1) σ K→wpOps P ops Q (List.range' q l.length) a w
 | [],q,γ,σ,a,w,_,_,h,hx=>hQ a w ⟨γ,σ,h,hx⟩
 | o :: l,q,γ,σ,a,w,hl,hd,h,hx=>by
  have ho:ops[q]?=some o:=by have:=hl 0; simpa using this.symm
  simp only[List.zipIdx_cons,List.map_cons,awOps] at hx
  rw [List.length_cons,List.range'_succ,wpOps_cons]
  refine wpOp_mono ?_ (aw2_sound h ho (hd o (by simp)) hx)
  rintro a' w' ⟨γ',σ',h',hx'⟩
  exact awOps_sound hQ l (q+1) γ' σ' a' w' (fun j=>by have:=hl (j+1); simpa [Nat.add_assoc,Nat.add_comm 1] using this) (fun o ho=>hd o (by simp [ho])) h' hx'
/-! ### What is kept -/
theorem get_map(fr:Fr):∀(ks:List Nat) (t:Nat),get (ks.map fun k=>(k,get fr k)) t=get fr t∨get (ks.map fun k=>(k,get fr k)) t=.undef
 | [],t=>.inr rfl
 | k :: ks,t=>by
  simp only[List.map_cons,get]
  by_cases h:k=t
  ·rw [if_pos h,h]; exact .inl rfl
  ·rw [if_neg h]; exact get_map fr ks t
theorem mapO_len{f:AV→Option AV}:∀ {xs ys:List AV},mapO f xs=some ys→ys.length=xs.length
 | [],ys,h=>by simp only[mapO,Option.some.injEq] at h; subst h; rfl
 | x :: xs,ys,h=>by
  simp only[mapO] at h
  obtain ⟨y,_,h⟩:=Option.bind_eq_some_iff.1 h
  obtain ⟨zs,hz,rfl⟩:=Option.map_eq_some_iff.1 h
  simp [mapO_len hz]
theorem mapO_at{f:AV→Option AV}:∀ {xs ys:List AV},mapO f xs=some ys→∀(i:Nat) (y:AV),ys[i]?=some y→∃ x,xs[i]?=some x∧f x=some y
 | [],ys,h,i,y,hy=>by simp only[mapO,Option.some.injEq] at h; subst h; simp at hy
 | x :: xs,ys,h,i,y,hy=>by
  simp only[mapO] at h
  obtain ⟨z,hz0,h⟩:=Option.bind_eq_some_iff.1 h
  obtain ⟨zs,hz,rfl⟩:=Option.map_eq_some_iff.1 h
  cases i with
  | zero=>simp at hy; subst hy; exact⟨x,rfl,hz0⟩
  | succ i=>exact mapO_at hz i y (by simpa using hy)
theorem frzRow_sound(h:SR D n k γ0 w0 γ σ a w)(id:Nat):∃ γ',SR D n k γ0 w0 γ' (frzRow σ id) a w:=by
 unfold frzRow
 split
 case h_2=>exact⟨γ,h⟩
 rename_i e he
 split
 case h_2=>exact⟨γ,h⟩
 rename_i es hes
 split
 case isTrue=>exact⟨γ,h⟩
 rename_i hni
 generalize hl:e.es.flatMap (rows σ.hp deep)=l at hni ⊢
 have hid:id ∉ l:=by simpa using hni
 have hh:=h.hp
 let J:Nat→Prop:=fun b=>γ.imm b∨∃ i∈l,∃ ge,γ.m i=some ge∧ge.st≠0∧ge.blk=some b
 have adv:Adv γ (γ.still l J) w w:=⟨Nat.le_refl _,fun b hb=>⟨.inl hb,fun _=>rfl⟩,fun i ge hm=>by
  simp only[Gh.still,hm,Option.map_some]
  split
  ·exact⟨1,rfl⟩
  ·exact⟨ge.st,rfl⟩⟩
 have advJ:Adv (bareG J) (γ.still l J) w w:=⟨Nat.le_refl _,fun b hb=>⟨hb,fun _=>rfl⟩,fun i ge hm=>by cases hm⟩
 have hset:∀ j,Pv.ent (σ.hp.set id (some { e with es:=es })) j=if j=id then some { e with es:=es } else Pv.ent σ.hp j:=fun j=>ent_set (e':={ e with es:=es }) he j
 have hR:HRel (γ.still l J) (still (σ.hp.set id (some { e with es:=es })) l) w:=by
  refine⟨?_,?_,?_,?_,?_⟩
  ·intro i hi
   rw [still_ent,hset] at hi
   by_cases hj:i=id
   ·rw [if_pos hj] at hi; cases hi
   ·rw [if_neg hj] at hi
    have:Pv.ent σ.hp i=none:=by
     cases h:Pv.ent σ.hp i with
     | none=>rfl
     | some e=>rw [h] at hi; cases hi
    simp [Gh.still,hh.none i this]
  ·intro i e1 hi
   rw [still_ent,hset] at hi
   by_cases hj:i=id
   ·subst hj
    rw [if_pos rfl] at hi
    simp only[Option.map_some,Option.some.injEq,if_neg hid] at hi
    subst hi
    obtain ⟨ge,hm,hok⟩:=hh.ok i e he
    refine⟨ge,by simp [Gh.still,hm,hid],?_⟩
    have hlen:=mapO_len hes
    rcases hok with h0 | h0
    ·refine .inl ⟨h0.1,h0.2.1,?_⟩
     have:=h0.2.2
     rw [this] at hlen
     exact List.eq_nil_of_length_eq_zero (by simpa using hlen)
    ·have hok2:EntOk w γ e ge:=.inr h0
     refine .inr ⟨h0.1,?_⟩
     rcases h0.2 with h1 | ⟨g,cs,fr,h1,h2,h3,h4,h5,h6⟩
     ·refine .inl ⟨h1.1,?_,h1.2.2⟩
      rw [h1.2.1] at hlen
      exact List.eq_nil_of_length_eq_zero (by simpa using hlen)
     ·refine .inr ⟨g,cs,fr,h1,h2,h3,h4,by rw [hlen]; exact h5,fun q x hx=>?_⟩
      obtain ⟨x0,hx0,hsn⟩:=mapO_at hes q x hx
      have hHold:Holds γ (rows σ.hp deep x0) J:=by
       intro i2 hi2 ge2 b2 g1 g2 g3
       refine .inr ⟨i2,?_,ge2,g1,g2,g3⟩
       rw [← hl]
       exact List.mem_flatMap.2 ⟨x0,List.mem_of_getElem? hx0,hi2⟩
      obtain ⟨p1,p2⟩:=elem_snap hh (fun b hb=>Or.inl hb) hok2 h1 hx0 hsn hHold
      refine⟨p1,fun j y hy=>?_⟩
      obtain ⟨u,c1,c2,c3⟩:=p2 j y hy
      refine⟨u,?_,c2,c3.adv advJ⟩
      simpa [World.cell?,h2] using c1
   ·rw [if_neg hj] at hi
    obtain ⟨e0,he0,rfl⟩:=Option.map_eq_some_iff.1 hi
    obtain ⟨ge,hm,hok⟩:=hh.ok i e0 he0
    have hokW:=hok.adv adv fun g _ _=>rfl
    refine⟨(if i∈l∧ge.st≠0 then { ge with st:=1 } else ge),by simp only[Gh.still,hm,Option.map_some],?_⟩
    by_cases hid':i∈l
    ·rw [if_pos hid']
     by_cases h0:ge.st=0
     ·rw [if_neg (fun h=>h.2 h0)]
      rcases hokW with h | h
      ·exact .inl ⟨h.1,rfl,h.2.2⟩
      ·exfalso
       have:=h.1
       rw [h0] at this
       split at this <;> cases this
     ·rw [if_pos ⟨hid',h0⟩]
      rcases hokW with h | h
      ·exact absurd h.1 h0
      ·exact .inr ⟨rfl,h.2⟩
    ·rw [if_neg hid',if_neg (fun h=>hid' h.1)]
     exact hokW
  ·intro i j x y b hi hj hx hy hbx hby
   obtain ⟨x0,h1,h2,h3,_⟩:=still_look hi
   obtain ⟨y0,k1,k2,k3,_⟩:=still_look hj
   exact hh.inj i j x0 y0 b h1 k1 (fun h=>hx (h3.2 h)) (fun h=>hy (k3.2 h)) (by rw [← h2]; exact hbx) (by rw [← k2]; exact hby)
  ·intro b hb
   refine⟨?_,?_⟩
   ·rcases hb with hb | ⟨i,_,ge,h1,h2,h3⟩
    ·exact(hh.imm b hb).1
    ·exact hh.blkLt h1 h2 h3
   ·rintro ⟨i,ge,hm,hst2,hb2⟩
    obtain ⟨x,h1,h2,_,h4,_⟩:=still_look hm
    obtain ⟨h5,h6⟩:=h4 hst2
    have hx0:x.st≠0:=by rw [h6]; decide
    have hxb:x.blk=some b:=by rw [← h2]; exact hb2
    rcases hb with hb | ⟨i',hi',ge',hm',hst',hb'⟩
    ·exact(hh.imm b hb).2 ⟨i,x,h1,h6,hxb⟩
    ·have e:=hh.inj i' i ge' x b hm' h1 hst' hx0 hb' hxb
     subst e
     exact h5 hi'
  ·intro i ge b hm hst1 hb
   obtain ⟨x,h1,h2,_,_,h5⟩:=still_look hm
   have hxb:x.blk=some b:=by rw [← h2]; exact hb
   rcases h5 hst1 with h | ⟨h,h0⟩
   ·exact .inl (hh.stl i x b h1 h hxb)
   ·exact .inr ⟨i,h,x,h1,h0,hxb⟩
 have hids:Ids γ (γ.still l J):=adv.id
 have hst:Step γ (γ.still l J) w w:=⟨rfl,rfl,rfl,Nat.le_refl _,fun _ _ _=>rfl,fun b ⟨i,ge,h1,h2,h3⟩=>by
   obtain ⟨x,k1,k2,_,k4,_⟩:=still_look h1
   exact .inl ⟨i,x,k1,(k4 h2).2,by rw [← k2]; exact h3⟩,fun b hb=>.inl hb,fun b hb=>by
   rcases hb with hb | ⟨i,_,ge,h1,h2,h3⟩
   ·exact .inl hb
   ·rcases st_cases hh h1 with h | h | h
    ·exact absurd h h2
    ·exact .inl (hh.stl i ge b h1 h h3)
    ·exact .inr (.inl ⟨i,ge,h1,h,h3⟩)⟩
 exact⟨_,fun t=>(h.fr t).adv adv,hR,h.st.trans hst,h.df,h.sz,fun hk=>(h.ids hk).trans hids,hst.q h.hp.imm h.lq⟩
theorem frzSlot_sound(h:SR D n k γ0 w0 γ σ a w)(x:AV):∃ γ',SR D n k γ0 w0 γ' (frzSlot σ x) a w:=by
 unfold frzSlot
 split
 ·exact frzRow_sound h _
 ·exact frzRow_sound h _
 ·exact⟨γ,h⟩
theorem frzFld_sound(h:SR D n k γ0 w0 γ σ a w)(f:Nat)(x:AV):∃ γ',SR D n k γ0 w0 γ' (frzFld σ f x) a w:=by
 unfold frzFld
 split
 ·split
  ·exact frzSlot_sound h _
  ·exact⟨γ,h⟩
 ·exact⟨γ,h⟩
theorem rowOne_sound(h:SR D n k γ0 w0 γ σ a w)(r:Nat × Nat × TypeId):∃ γ',SR D n k γ0 w0 γ' (rowOne σ r) a w:=by
 unfold rowOne
 split
 ·exact frzSlot_sound h _
 split
 ·exact frzFld_sound h _ _
 split
 ·rename_i sz hg
  have hs:=h.fr r.1
  rw [hg] at hs
  have hn:new 0 none σ.hp ⟨r.2.2,[],true⟩=some (σ.hp.length,σ.hp ++ [some ⟨r.2.2,[],true⟩]):=rfl
  obtain ⟨h1,h2,h3⟩:=hrel_new h.hp hn (w':=w) (ge:=⟨none,r.2.1,0,2⟩) rfl ⟨rfl,rfl,rfl,Nat.le_refl _,fun _ _ _=>rfl⟩ (fun _ _=>rfl) (fun g hg=>by cases hg) (fun _=>.inr ⟨rfl,.inl ⟨rfl,rfl,rfl⟩⟩)
  refine⟨_,?_,h1,h.st.trans h2,h.df,h.sz,fun hk=>(h.ids hk).trans h3,h2.q h.hp.imm h.lq⟩
  intro t
  rw [get_put]
  by_cases ht:r.1=t
  ·rw [if_pos ht,← ht]
   generalize a.tmps.getD r.1 Go.undef=v at hs
   cases hs with
   | sl _ _ _ _ _ _ _ hp=>simp at hp
   | sl0 _ _ A cap hc =>
    rw [hc rfl]
    exact .vec _ _ 0 0 A 0 _ (Gh.add_same _ _ _) rfl (Nat.le_refl _) rfl (fun _=>rfl) (fun g hg _=>by cases hg)
  ·rw [if_neg ht]
   exact(h.fr t).adv (h2.adv h3 h.hp.imm)
 ·exact⟨γ,h⟩
theorem rows_sound:∀(l:List (Nat × Nat × TypeId)) (γ:Gh) (σ:St),SR D n k γ0 w0 γ σ a w→∃ γ',SR D n k γ0 w0 γ' (l.foldl rowOne σ) a w
 | [],γ,σ,h=>⟨γ,h⟩
 | r :: l,γ,σ,h=>by
  obtain ⟨γ1,h1⟩:=rowOne_sound h r
  exact rows_sound l γ1 _ h1
theorem dedup_nodup:∀(l acc:List Nat),acc.Nodup →(dedup acc l).Nodup
 | [],acc,h=>by
  simp only[dedup,List.Nodup,List.pairwise_reverse]
  exact h.imp fun h e=>h e.symm
 | x :: l,acc,h=>by
  simp only[dedup]
  split
  ·exact dedup_nodup l acc h
  ·rename_i hx
   exact dedup_nodup l (x :: acc) (List.nodup_cons.2 ⟨by simpa using hx,h⟩)
theorem place_get:∀(l:List Nat) (id i:Nat),place l id=some i→l[i]?=some id
 | [],_,_,h=>by cases h
 | x :: l,id,i,h=>by
  simp only[place] at h
  split at h
  ·rename_i hx; cases h; simp [hx]
  ·obtain ⟨j,hj,rfl⟩:=Option.map_eq_some_iff.1 h
   simpa using place_get l id j hj
def Gh.only(γ:Gh)(l:List Nat):Gh:=⟨fun i=>(l[i]?).bind γ.m,γ.imm⟩
theorem Sim.ren{l:List Nat}:∀(k:Nat) {x:AV} {v:Value},Sim w γ x v→Sim w (γ.only l) (renX l k x) v
 | 0,x,v,_=>.undef v
 | k+1,x,v,h=>by
  cases h with
  | undef v=>exact .undef v
  | bool b=>exact .bool b
  | anyb b=>exact .anyb b
  | int k n=>exact .int k n
  | str s=>exact .str s
  | lit v=>exact .lit v
  | sl0 sz full A cap hc=>exact .sl0 sz full A cap hc
  | sl sz es full b off cap U hp hc hf hb hi hz hcell hs=>exact .sl sz es full b off cap U hp hc hf hb hi hz hcell hs
  | rptr x off b o U hb hi hcell hs=>exact .rptr x off b o U hb hi hcell hs
  | vec id sz off len A cap ge hm hz hlC hcC hN hA =>
   simp only[renX]
   split
   ·rename_i i hi
    exact .vec i sz off len A cap ge (by simp [Gh.only,place_get l id i hi,hm]) hz hlC hcC hN hA
   ·exact .undef _
  | eptr id i off g ge hm hg =>
   simp only[renX]
   split
   ·rename_i j hj
    exact .eptr j i off g ge (by simp [Gh.only,place_get l id j hj,hm]) hg
   ·exact .undef _
  | fn f g xs fs cs hv' hz hs =>
   refine .fn f g _ fs cs hv' (by simpa using hz) fun i x v hx hv=>?_
   rw [List.getElem?_map] at hx
   obtain ⟨y,hy,rfl⟩:=Option.map_eq_some_iff.1 hx
   exact Sim.ren k (hs i y v hy hv)
  | agg xs cs hz hs =>
   refine .agg _ cs (by simpa using hz) fun i x v hx hv=>?_
   rw [List.getElem?_map] at hx
   obtain ⟨y,hy,rfl⟩:=Option.map_eq_some_iff.1 hx
   exact Sim.ren k (hs i y v hy hv)
  | tup xs cs hz hs =>
   refine .tup _ cs (by simpa using hz) fun i x v hx hv=>?_
   rw [List.getElem?_map] at hx
   obtain ⟨y,hy,rfl⟩:=Option.map_eq_some_iff.1 hx
   exact Sim.ren k (hs i y v hy hv)
theorem ren_flat(l:List Nat)(k:Nat)(x:AV):∃ q,(renX l (k+1) x).flat=x.flat.map (renX l q):=by
 by_cases hx:∃ cs,x=.agg cs
 ·obtain ⟨cs,rfl⟩:=hx
  exact⟨k,rfl⟩
 ·have hx':∀ cs,x≠.agg cs:=fun cs e=>hx ⟨cs,e⟩
  refine⟨k+1,?_⟩
  rw [flat_one hx']
  have:∀ cs,renX l (k+1) x≠.agg cs:=by
   intro cs e
   cases x <;> simp only[renX] at e <;> try (cases e; done)
   ·split at e <;> cases e
   ·split at e <;> cases e
   ·exact hx' _ rfl
  rw [flat_one this]; rfl
theorem get_mapv(f:AV→AV)(hf:f .undef=.undef):∀(fr:Fr) (t:Nat),get (fr.map fun p=>(p.1,f p.2)) t=f (get fr t)
 | [],t=>by simp [get,hf]
 | (k,x) :: r,t=>by
  simp only[List.map_cons,get]
  split
  ·rfl
  ·exact get_mapv f hf r t
theorem gc_sound(h:SR D n k γ0 w0 γ σ a w)(hk:k=false):∃ γ',SR D n k γ0 w0 γ' (gcSt σ) a w:=by
 unfold gcSt
 generalize hl:dedup [] (σ.fr.flatMap fun p=>idsOf σ.hp deep p.2)=l
 have hnd:l.Nodup:=by rw [← hl]; exact dedup_nodup _ _ List.nodup_nil
 have hown:∀ b,(γ.only l).owns b→γ.owns b:=by
  rintro b ⟨i,ge,h1,h2,h3⟩
  simp only[Gh.only] at h1
  obtain ⟨id,_,hm⟩:=Option.bind_eq_some_iff.1 h1
  exact⟨id,ge,hm,h2,h3⟩
 have hent:∀ i,ent (l.map fun id=>renE l (ent σ.hp id)) i =((l[i]?).bind fun id=>ent σ.hp id).map fun e=>{ e with es:=e.es.map (renX l deep) }:=by
  intro i
  simp only[ent,List.getElem?_map]
  cases l[i]? with
  | none=>rfl
  | some id=>simp [renE,ent]
 refine⟨γ.only l,?_,⟨?_,?_,?_,?_,?_⟩,?_,h.df,h.sz,fun h=>(by rw [hk] at h; cases h),h.lq⟩
 ·intro t
  rw [get_mapv (renX l deep) rfl]
  exact(h.fr t).ren deep
 ·intro i hi
  rw [hent] at hi
  simp only[Gh.only]
  cases hli:l[i]? with
  | none=>rfl
  | some id =>
   rw [hli] at hi
   simp only[Option.bind_some,Option.map_eq_none_iff] at hi
   exact h.hp.none id hi
 ·intro i e hi
  rw [hent] at hi
  obtain ⟨e0,he0,rfl⟩:=Option.map_eq_some_iff.1 hi
  obtain ⟨id,hid,he0⟩:=Option.bind_eq_some_iff.1 he0
  obtain ⟨ge,hm,hok⟩:=h.hp.ok id e0 he0
  refine⟨ge,by simp [Gh.only,hid,hm],?_⟩
  rcases hok with ⟨h1,h2,h3⟩ | ⟨h1,h2⟩
  ·exact .inl ⟨h1,h2,by simp [h3]⟩
  ·refine .inr ⟨h1,?_⟩
   rcases h2 with ⟨k1,k2,k3⟩ | ⟨g,cs,fr,k1,k2,k3,k4,k5,k6⟩
   ·exact .inl ⟨k1,by simp [k2],k3⟩
   ·refine .inr ⟨g,cs,fr,k1,k2,k3,k4,by simpa using k5,fun j x hx=>?_⟩
    rw [List.getElem?_map] at hx
    obtain ⟨y,hy,rfl⟩:=Option.map_eq_some_iff.1 hx
    obtain ⟨q,hq⟩:=ren_flat l 5 y
    have hq':(renX l deep y).flat=y.flat.map (renX l q):=hq
    rw [hq']
    refine⟨by simpa using (k6 j y hy).1,fun j' z hz=>?_⟩
    rw [List.getElem?_map] at hz
    obtain ⟨z0,hz0,rfl⟩:=Option.map_eq_some_iff.1 hz
    obtain ⟨u,u1,u2,u3⟩:=(k6 j y hy).2 j' z0 hz0
    exact⟨u,u1,u2,u3.ren q⟩
 ·intro i j x y b hi hj hx hy hbx hby
  simp only[Gh.only] at hi hj
  obtain ⟨id,h1,h2⟩:=Option.bind_eq_some_iff.1 hi
  obtain ⟨id',k1,k2⟩:=Option.bind_eq_some_iff.1 hj
  have e:=h.hp.inj id id' x y b h2 k2 hx hy hbx hby
  subst e
  obtain ⟨l1,l2⟩:=List.getElem?_eq_some_iff.1 h1
  obtain ⟨m1,m2⟩:=List.getElem?_eq_some_iff.1 k1
  exact(List.getElem_inj hnd).1 (l2.trans m2.symm)
 ·intro b hb
  exact⟨(h.hp.imm b hb).1,fun h1=>(h.hp.imm b hb).2 (hown b h1)⟩
 ·intro i ge b hi hs hb
  simp only[Gh.only] at hi
  obtain ⟨id,_,h2⟩:=Option.bind_eq_some_iff.1 hi
  exact h.hp.stl id ge b h2 hs hb
 ·exact⟨h.st.os,h.st.tape,h.st.output,h.st.size,h.st.keep,fun b hb=>h.st.own b (hown b hb),h.st.immk,h.st.immn⟩
theorem trim_sound(h:SR D n k γ0 w0 γ σ a w)(tr:Option Trim)(ht:okT k tr=true):∃ γ',SR D n k γ0 w0 γ' (trim tr σ) a w:=by
 cases tr with
 | none=>exact⟨γ,h⟩
 | some t =>
  simp only[trim]
  have h1:SR D n k γ0 w0 γ ⟨t.ks.map fun k=>(k,get σ.fr k),σ.hp⟩ a w:=⟨fun u=>by
   rcases get_map σ.fr t.ks u with e | e
   ·rw [e]; exact h.fr u
   ·rw [e]; exact .undef _,h.hp,h.st,h.df,h.sz,h.ids,h.lq⟩
  obtain ⟨γ1,h2⟩:=rows_sound t.nils γ _ h1
  split
  ·rename_i hg
   refine gc_sound h2 ?_
   cases k with
   | false=>rfl
   | true=>simp [okT,hg] at ht
  ·exact⟨γ1,h2⟩
end
end Go.Pv
/-
 The machine of plain values,18: code is sound; how a function is entered and left.
-/
namespace Go.Pv
variable [Lq]
def DrawOk(P:Program)(D:Dq)(n:Nat)(k:Bool)(γ0:Gh)(w0:World):Prop :=
 ∀(id:Nat) (ops:Array Oper) (l:List Nat) (ps:List (Nat × Nat)) (γ:Gh) (σ:St) (a:Act) (w:World) (K:St→Prop) (Q:Exit→Act→World→Prop),fullB ops l=true→closedB ops (anc ops)=true →
  ((linB ops (compL P ops true).toArray (anc ops) l 0=true∧ps=[]) ∨(linP ops (compL P ops true).toArray (anc ops) l 0=true∧ps=pairs (compL P ops true).toArray (anc ops) l)) →
  (pick (compL P ops true).toArray l).all (dstOk (D.pv.map (·.1)) n)=true→SR D n k γ0 w0 γ σ a w→awOps P σ.hp.length (pick (compL P ops true).toArray l) ⟨σ.fr,σ.hp ++ List.replicate ops.size none⟩ (fun σ=>apB ps σ.fr=true∧K σ) →
  (∀ a w,Up D n k γ0 w0 K a w→Q .normal a w) →(Code.region id ops true).wp P Q a w
section
variable {P:Program} {n:Nat} {k:Bool} {γ0 γ γ':Gh} {w0 w:World} {σ:St} {a:Act} {H H':Hp} {D:Dq}
theorem aw1_mono{base:Nat}{o:Op2}{σ:St}{K K':St→Prop}(h:∀ σ,K σ→K' σ)(hx:aw1 P base o σ K):aw1 P base o σ K':=by
 unfold aw1 at hx ⊢
 split at hx
 ·split at hx <;> first | exact h _ hx | exact hx
 ·split at hx <;> first | exact⟨hx.1,h _ hx.2⟩ | exact hx
 ·split at hx <;> first | exact h _ hx | exact hx
 ·obtain ⟨r,H',h1,h2,h3⟩:=hx; exact⟨r,H',h1,h2,h _ h3⟩
 ·split at hx
  ·obtain ⟨r,H',h1,h2,h3⟩:=hx; exact⟨r,H',h1,h2,h _ h3⟩
  ·exact hx
 ·exact hx
theorem aw2_mono{base:Nat}{o:Op2}{σ:St}{K K':St→Prop}(h:∀ σ,K σ→K' σ)(hx:aw2 P base o σ K):aw2 P base o σ K':=by
 unfold aw2 at hx ⊢
 split at hx
 ·exact aw1_mono h hx
 ·split at hx
  ·split at hx
   ·rename_i hb; rw [if_pos hb]; exact aw1_mono h hx
   ·rename_i hb; rw [if_neg hb]; exact h _ hx
  ·exact⟨hx.1,h _ hx.2⟩
  ·exact hx.elim
theorem awOps_mono{base:Nat}{K K':St→Prop}:∀(l:List Op2) {σ:St},(∀ σ,K σ→K' σ)→awOps P base l σ K→awOps P base l σ K'
 | [],_,h,hx=>h _ hx
 | o :: l,_,h,hx=>aw2_mono (fun σ hσ=>awOps_mono l h hσ) hx
theorem aw_sound(hD:DrawOk P D n k γ0 w0):∀(c:Code) (c':AC) (K:AE→St→Prop) (γ:Gh) (σ:St) (a:Act) (w:World),bareC c'=comp P c→okCp (D.pv.map (·.1)) n k c'=true→aw P c' K σ→SR D n k γ0 w0 γ σ a w→c.wp P (LiftK D n k γ0 w0 K) a w:=by
 intro c
 induction c with
 | skip =>
  intro c' K γ σ a w hc ho hx h
  cases c' <;> simp only[comp,bareC] at hc <;> try (cases hc; done)
  exact wp_skip ⟨γ,σ,h,hx⟩
 | label l =>
  intro c' K γ σ a w hc ho hx h
  cases c' <;> simp only[comp,bareC] at hc <;> try (cases hc; done)
  exact wp_label ⟨γ,σ,h,hx⟩
 | exit id =>
  intro c' K γ σ a w hc ho hx h
  cases c' <;> simp only[comp,bareC] at hc <;> try (cases hc; done)
  cases hc
  exact wp_exit ⟨γ,σ,h,hx⟩
 | ret =>
  intro c' K γ σ a w hc ho hx h
  cases c' <;> simp only[comp,bareC] at hc <;> try (cases hc; done)
  exact wp_ret ⟨γ,σ,h,hx⟩
 | seq x y ihx ihy =>
  intro c' K γ σ a w hc ho hx h
  cases c' <;> simp only[comp,bareC] at hc <;> try (cases hc; done)
  rename_i x' y'
  simp only[AC.seq.injEq] at hc
  simp only[okCp,Bool.and_eq_true] at ho
  refine wp_seq (wp_mono (ihx x' _ γ σ a w hc.1 ho.1 hx h) ?_)
  intro e a' w' he
  cases e with
  | normal =>
   obtain ⟨γ',σ',h',hx'⟩:=he
   exact ihy y' K γ' σ' a' w' hc.2 ho.2 hx' h'
  | exit id=>exact he
  | ret=>exact he
  | goto _=>exact he
  | panic _=>exact he
  | outgrown=>exact he
 | cond t x y ihx ihy =>
  intro c' K γ σ a w hc ho hx h
  cases c' <;> simp only[comp,bareC] at hc <;> try (cases hc; done)
  rename_i t' x' y'
  simp only[AC.cond.injEq] at hc
  obtain ⟨rfl,hc1,hc2⟩:=hc
  simp only[okCp,Bool.and_eq_true] at ho
  simp only[aw] at hx
  have hs:=cx_sim h.fr t (γ:=γ)
  split at hx
  ·rename_i b hb
   rw [hb] at hs
   exact wp_cond_split (bool_inv hs) (fun hb=>ihx x' K γ σ a w hc1 ho.1 (hx.1 hb) h) (fun hb=>ihy y' K γ σ a w hc2 ho.2 (hx.2 hb) h)
  ·rename_i hb
   rw [hb] at hs
   generalize hv:a.eval t=v at hs
   cases hs with
   | anyb b=>exact wp_cond_split hv (fun _=>ihx x' K γ σ a w hc1 ho.1 hx.1 h) (fun _=>ihy y' K γ σ a w hc2 ho.2 hx.2 h)
  ·exact hx.elim
 | block id x ih =>
  intro c' K γ σ a w hc ho hx h
  cases c' <;> simp only[comp,bareC] at hc <;> try (cases hc; done)
  rename_i id' x'
  simp only[AC.block.injEq] at hc
  obtain ⟨rfl,hc⟩:=hc
  refine wp_block (wp_mono (ih x' _ γ σ a w hc ho hx h) ?_)
  intro e a' w' he
  cases e with
  | normal=>exact he
  | exit j =>
   obtain ⟨γ',σ',h',hx'⟩:=he
   simp only[inBlk] at hx'
   simp only[Exit.inBlock]
   split
   ·rename_i hj; rw [if_pos hj] at hx'; exact⟨γ',σ',h',hx'⟩
   ·rename_i hj; rw [if_neg hj] at hx'; exact⟨γ',σ',h',hx'⟩
  | ret=>exact he
  | goto _=>exact he
  | panic _=>exact he
  | outgrown=>exact he
 | scope x ih =>
  intro c' K γ σ a w hc ho hx h
  cases c' <;> simp only[comp,bareC] at hc <;> try (cases hc; done)
  rename_i x'
  simp only[AC.scope.injEq] at hc
  refine wp_scope_straight (wp_mono (ih x' K γ σ a w hc ho hx h) ?_)
  intro e a' w' he
  cases e <;> exact he
 | loop x ih =>
  intro c' K γ σ a w hc ho hx h
  cases c' <;> simp only[comp,bareC] at hc <;> try (cases hc; done)
  rename_i tr x'
  simp only[AC.loop.injEq] at hc
  obtain ⟨_,hc⟩:=hc
  simp only[aw] at hx
  obtain ⟨I,⟨m,hI⟩,hr⟩:=hx
  simp only[okCp,Bool.and_eq_true] at ho
  obtain ⟨γ1,h1⟩:=trim_sound h tr ho.2
  refine wp_loop_ghost (fun m a w=>∃ γ σ,SR D n k γ0 w0 γ σ a w∧I m σ) m ⟨γ1,_,h1,hI⟩ ?_
  rintro q a w ⟨γ',σ',hsr,hI'⟩
  refine wp_mono (ih x' _ γ' σ' a w hc ho.1 (hr _ σ' hI') hsr) ?_
  intro e a' w' he
  cases e with
  | normal =>
   obtain ⟨γ2,σ2,h2,q',hq,hIq⟩:=he
   obtain ⟨γ3,h3⟩:=trim_sound h2 tr ho.2
   exact⟨q',hq,γ3,_,h3,hIq⟩
  | exit id=>exact he
  | ret=>exact he
  | goto _=>exact he
  | panic _=>exact he
  | outgrown=>exact he
 | region id ops dr =>
  intro c' K γ σ a w hc ho hx h
  cases dr with
  | false =>
   cases c' <;> simp only[comp,bareC] at hc <;> try (cases hc; done)
   rename_i n' ops' tr
   simp only[AC.region.injEq] at hc
   obtain ⟨rfl,rfl,_⟩:=hc
   simp only[aw,List.replicate_zero,List.append_nil] at hx
   simp only[okCp,Bool.and_eq_true] at ho
   refine wp_region ?_
   rw [List.range_eq_range',← Array.length_toList]
   refine awOps_sound (K:=fun σ=>K .normal (trim tr σ)) ?_ ops.toList 0 γ σ a w (by simp) ?_ h hx
   ·rintro a' w' ⟨γ',σ',h',hx'⟩
    obtain ⟨γ2,h2⟩:=trim_sound h' tr ho.2
    exact⟨γ2,_,h2,hx'⟩
   ·intro o ho' t ht
    obtain ⟨i,hi⟩:=List.mem_iff_getElem?.1 ho'
    have hm:comp2 P ops false i o∈compL P ops false:=by
     refine List.mem_map.2 ⟨(o,i),?_,rfl⟩
     rw [List.mem_zipIdx_iff_getElem?]; exact hi
    have:=List.all_eq_true.1 ho.1 _ hm
    simp only[dstOk,comp2_dst,ht,Bool.and_eq_true,decide_eq_true_eq,Bool.not_eq_true'] at this
    exact this
  | true =>
   simp only[comp] at hc
   split at hc
   ·rename_i hcond
    cases c' <;> simp only[bareC] at hc <;> try (cases hc; done)
    rename_i n' ops' tr
    simp only[AC.region.injEq] at hc
    obtain ⟨rfl,rfl,_⟩:=hc
    simp only[aw] at hx
    simp only[okCp,Bool.and_eq_true] at ho
    refine hD id ops _ [] γ σ a w _ _ hcond.1 hcond.2.1 (.inl ⟨hcond.2.2,rfl⟩) ho.1 h (awOps_mono _ (fun σ hσ=>⟨rfl,hσ⟩) hx) ?_
    rintro a' w' ⟨γ',σ',h',hx'⟩
    obtain ⟨γ2,h2⟩:=trim_sound h' tr ho.2
    exact⟨γ2,_,h2,hx'⟩
   ·split at hc
    ·rename_i hcond
     cases c' <;> simp only[bareC] at hc <;> try (cases hc; done)
     rename_i n' ops' ps tr
     simp only[AC.regionA.injEq] at hc
     obtain ⟨rfl,rfl,rfl,_⟩:=hc
     simp only[aw] at hx
     simp only[okCp,Bool.and_eq_true] at ho
     refine hD id ops _ _ γ σ a w _ _ hcond.1 hcond.2.1 (.inr ⟨hcond.2.2,rfl⟩) ho.1 h hx ?_
     rintro a' w' ⟨γ',σ',h',hx'⟩
     obtain ⟨γ2,h2⟩:=trim_sound h' tr ho.2
     exact⟨γ2,_,h2,hx'⟩
    ·cases c' <;> simp only[bareC] at hc <;> try (cases hc; done)
     exact hx.elim
 | _ =>
  intro c' K γ σ a w hc ho hx h
  cases c' <;> simp only[comp,bareC] at hc <;> try (cases hc; done)
  exact hx.elim
/-! ### A function -/
def resX(fr:Fr):List Nat→AV
 | [t]=>get fr t
 | ts=>.tup (ts.map (get fr))
def entry(xs:List AV):St:=⟨(layL layC [] xs).1.zipIdx.map fun p=>(p.2,p.1),(layL layC [] xs).2⟩
def Ends(ts:List Nat)(r:AV):AE→St→Prop
 | .exit _,_=>False
 | _,σ=>∃ ms H1 l,hand σ.hp ms (resX σ.fr ts)=some (r,H1,l)∧liveB H1 l=true
theorem get_zip:∀(l:List AV) (k t:Nat),get ((l.zipIdx k).map fun p=>(p.2,p.1)) t=if k≤t then(l[t - k]?).getD .undef else .undef
 | [],k,t=>by simp [get]
 | x :: l,k,t=>by
  simp only[List.zipIdx_cons,List.map_cons,get]
  by_cases h:k=t
  ·subst h; simp
  ·rw [if_neg h,get_zip l (k+1) t]
   by_cases h1:k≤t
   ·rw [if_pos h1,if_pos (by omega),show t - k =(t - (k+1))+1 by omega]; simp
   ·rw [if_neg h1,if_neg (by omega)]
def resW(tmps:Array Value):List Nat→Value
 | [t]=>tmps.getD t Go.undef
 | ts=>.tuple (ts.map fun t=>tmps.getD t Go.undef).toArray
theorem res_run{fn:Func}{ts:List Nat}(hr:fn.results =(ts.map ResultVar.tmp).toArray)(tmps:Array Value):(results fn tmps).run P w=.ok (resW tmps ts) w:=by
 have hm:∀(g:ResultVar→Sem Value),(∀ t,g (.tmp t)=pure (tmps.getD t Go.undef))→∀ ts:List Nat,((ts.map ResultVar.tmp).mapM (m:=Sem) g).run P w=.ok (ts.map fun t=>tmps.getD t Go.undef) w:=by
  intro g hg ts
  induction ts with
  | nil=>rfl
  | cons t ts ih=>rw [List.map_cons,List.mapM_cons,hg]; simp only[Sem.run_bind,Sem.run_pure,Result.andThen_ok,ih,List.map_cons]
 unfold results
 rw [hr]
 simp only[List.mapM_toArray,Sem.run_bind,Sem.run_map]
 rw [hm _ (fun t=>rfl) ts]
 simp only[Result.andThen_ok,Sem.run_pure]
 cases ts with
 | nil=>rfl
 | cons t ts =>
  cases ts with
  | nil=>rfl
  | cons t' ts=>simp [resW]
end
end Go.Pv
/-
 The machine of plain values,19: how a function is entered and left.
-/
namespace Go.Pv
variable [Lq]
section
variable {P:Program} {w:World} {γ:Gh} {H:Hp}
theorem resX_sim{fr:Fr}{tmps:Array Value}(h:FrR w γ fr tmps)(ts:List Nat):Sim w γ (resX fr ts) (resW tmps ts):=by
 have tup:∀ ts:List Nat,Sim w γ (.tup (ts.map (get fr))) (.tuple (ts.map fun t=>tmps.getD t Go.undef).toArray):=fun ts =>
  .tup _ _ (by simp) fun i x v hx hv=>by
   rw [List.getElem?_map] at hx
   rw [List.getElem?_toArray,List.getElem?_map] at hv
   cases hi:ts[i]? with
   | none=>rw [hi] at hx; cases hx
   | some t =>
    rw [hi] at hx hv
    simp only[Option.map_some,Option.some.injEq] at hx hv
    subst hx hv
    exact h t
 cases ts with
 | nil=>exact tup []
 | cons t ts =>
  cases ts with
  | nil=>exact h t
  | cons t' ts=>exact tup (t :: t' :: ts)
theorem zip_frame{xs:List AV}{args:Array Value}(hl:xs.length=args.size)(hs:∀(i:Nat) (x:AV) (v:Value),xs[i]?=some x→args[i]?=some v→Sim w γ x v)(m:Nat) :
  FrR w γ (xs.zipIdx.map fun p=>(p.2,p.1)) (args ++ Array.replicate m Go.undef):=by
 intro t
 rw [get_zip,if_pos (Nat.zero_le t),Nat.sub_zero]
 rcases Nat.lt_or_ge t xs.length with ht | ht
 ·rw [List.getElem?_eq_getElem ht,Option.getD_some]
  refine hs t _ _ (List.getElem?_eq_getElem ht) ?_
  rw [Array.getD_eq_getD_getElem?,Array.getElem?_append_left (by omega),Array.getElem?_eq_getElem (by omega)]; rfl
 ·rw [List.getElem?_eq_none ht]; exact .undef _
theorem ownL_len{R:List GE→AV→Value→Prop}{os:List GE}{xs:List AV}{vs:List Value}(h:OwnL R os xs vs):xs.length=vs.length:=by
 induction h with
 | nil=>rfl
 | cons _ _ ih=>simp [ih]
theorem rO{f:FuncId}{fn:Func}{c:Code}(hD:∀ γ0 w0,DrawOk P Dq.no fn.ntmps false γ0 w0){c':AC}{ts:List Nat}{xs:List AV}{r:AV}(hf:P.funcs[f]?=some fn)(hb:fn.body=some c)(hn:(fn.name == "runtime.NumGoroutine")=false)
  (hr:fn.results =(ts.map ResultVar.tmp).toArray) (hc:bareC c'=comp P c) (ho:okC fn.ntmps false c'=true) (hlen:xs.length≤fn.ntmps) (hx:aw P c' (Ends ts r) (entry xs)):Run P f xs r:=by
 refine⟨can_of hf (by rw [hb]; rfl) hn,fun w I os args hq hos hown=>?_⟩
 have h0:HRel (bareG I) [] w:=⟨fun id _=>rfl,fun id e he=>by simp [ent] at he,fun i j x y b hi=>(by cases hi),fun b hb=>⟨(hos.imm b hb).1,fun⟨i,x,hi,_⟩=>by cases hi⟩,fun i x b hi=>by cases hi⟩
 obtain ⟨γ0,m0,r0,l0,s0⟩:=layL_sim (I:=I) layC_p hown (bareG I) [] rfl h0 ⟨fun b hb hI=>(hos.imm b hI).2 hb,fun b _ i x hi=>(by cases hi),hos.ap⟩
 have hlx:(layL layC [] xs).1.length=args.size:=by simpa using l0
 have hxa:xs.length=args.size:=by have:=ownL_len hown; simpa using this
 have hq0:Lq.q w γ0.imm:=by first | exact hq | (rw [m0.imm]; exact hq)
 refine calls_of_wp hf hb ?_
 refine wp_mono (aw_sound (hD γ0 w) c c' (Ends ts r) γ0 (entry xs) _ w hc ho hx ⟨zip_frame hlx (fun i x v hx hv=>s0 i x v hx (by simpa using hv)) _,r0,Step.refl _ _,rfl,⟨by simp; omega,fun _ h=>(by cases h)⟩,fun h=>(by cases h),hq0⟩) ?_
 have hown0:∀ b,γ0.owns b↔blks os b:=fun b=>by
  rw [m0.own]
  exact⟨fun h=>h.elim (fun⟨i,x,hi,_⟩=>by cases hi) (fun h=>h),.inr⟩
 -- the end
 have fin:∀(γ:Gh) (σ:St) (a:Act) (W:World),SR Dq.no fn.ntmps false γ0 w γ σ a W →(∃ ms H1 l,hand σ.hp ms (resX σ.fr ts)=some (r,H1,l)∧liveB H1 l=true) →
   a.defers=[]∧∃ v,(results fn a.tmps).run P W=.ok v W∧∃ v' I' os',Ending.returned v=.returned v'∧OwnT W I' os' r v'∧OsOk W I' os'∧StepB I os I' os' w W:=by
  rintro γ σ a W h ⟨ms,H1,l,hh,hlive⟩
  refine⟨h.df,_,res_run hr a.tmps,?_⟩
  obtain ⟨γ1,os',g1,r1,n1,k1⟩:=hand_p γ σ.hp H1 ms _ r _ l h.hp (resX_sim h.fr ts) hh
  have hliv:∀ id∈l,∀ ge,γ.m id=some ge→ge.st≠0→γ1.m id=some ge:=by
   intro id hid ge hm hst
   rcases g1.ids id ge hm with h | h
   ·exact h
   ·exfalso
    have:=List.all_eq_true.1 hlive id hid
    split at this
    ·rename_i e he
     obtain ⟨ge',hm',hok⟩:=r1.ok id e he
     rw [h] at hm'; cases hm'
     have hl:=hok.live (by
      simp only[Bool.or_eq_true,Bool.not_eq_true',List.isEmpty_eq_false_iff] at this
      exact this)
     have:=hl.1
     simp only at this
     split at this <;> cases this
    ·cases this
  have hosb:∀ b,blks os' b→γ.owns b∧∀ id ge,γ1.m id=some ge→ge.st≠0→ge.blk≠some b:=by
   rintro b ⟨ge,hge,hb⟩
   obtain ⟨id,h1,h2,h3⟩:=g1.src ge hge b hb
   refine⟨⟨id,ge,h1,h2,hb⟩,fun id' ge' hm hst hb'=>?_⟩
   have e:=h.hp.inj id id' ge ge' b h1 (g1.rev id' ge' hm hst) (by rw [h2]; decide) hst hb hb'
   subst e
   rw [h3] at hm; cases hm
   exact hst rfl
  refine⟨_,fun b=>γ.imm b∨∃ id∈l,∃ ge,γ.m id=some ge∧ge.st≠0∧ge.blk=some b,os',rfl,k1 _ (fun b hb=>.inl hb) (fun id hid ge b hm hst hb=>.inr ⟨id,hid,ge,hm,hst,hb⟩),⟨?_,?_,g1.ap⟩,?_⟩
  ·rintro b (hb | ⟨id,hid,ge,hm,hst,hb⟩)
   ·exact⟨(h.hp.imm b hb).1,fun h'=>(h.hp.imm b hb).2 (hosb b h').1⟩
   ·exact⟨h.hp.blkLt hm hst hb,fun h'=>(hosb b h').2 id ge (hliv id hid ge hm hst) hst hb⟩
  ·intro b hb
   obtain ⟨id,ge,h1,h2,h3⟩:=(hosb b hb).1
   exact h.hp.blkLt h1 (by rw [h2]; decide) h3
  ·have own':∀ b,γ.owns b→blks os b∨w.heap.size≤b:=fun b hb=>(h.st.own b hb).imp (fun h=>(hown0 b).1 h) id
   have imm':∀ b,γ.imm b→I b∨blks os b∨w.heap.size≤b:=fun b hb=>by
    rcases h.st.immn b hb with h1 | h1 | h1
    ·rw [m0.imm] at h1; exact .inl h1
    ·exact .inr (.inl ((hown0 b).1 h1))
    ·exact .inr (.inr h1)
   refine⟨h.st.os,h.st.tape,h.st.output,h.st.size,fun b hb hn=>h.st.keep b hb fun h'=>hn ((hown0 b).1 h'),fun b hb=>own' b (hosb b hb).1,fun b hb=>.inl (h.st.immk b (by rw [m0.imm]; exact hb)),?_⟩
   rintro b (hb | ⟨id,hid,ge,hm,hst,hb⟩)
   ·exact imm' b hb
   ·rcases st_cases h.hp hm with h1 | h1 | h1
    ·exact absurd h1 hst
    ·exact imm' b (h.hp.stl id ge b hm h1 hb)
    ·exact .inr (own' b ⟨id,ge,hm,h1,hb⟩)
 intro e a W he
 cases e with
 | normal=>obtain ⟨γ,σ,h1,h2⟩:=he; exact fin γ σ a W h1 h2
 | ret=>obtain ⟨γ,σ,h1,h2⟩:=he; exact fin γ σ a W h1 h2
 | exit id=>obtain ⟨_,_,_,h2⟩:=he; exact h2.elim
 | goto _=>exact he.elim
 | panic _=>exact he.elim
 | outgrown=>exact he.elim
def EndsG(ts:List Nat)(r:AV)(H':Hp):AE→St→Prop
 | .exit _,_=>False
 | _,σ=>resX σ.fr ts=r∧σ.hp=H'
theorem gen_of{f:FuncId}{fn:Func}{c:Code}(hD:∀ γ0 w0,DrawOk P Dq.no fn.ntmps true γ0 w0){c':AC}{ts:List Nat}{xs:List AV}{r:AV}{H H':Hp}(hf:P.funcs[f]?=some fn)(hb:fn.body=some c)(hn:(fn.name == "runtime.NumGoroutine")=false)
  (hr:fn.results =(ts.map ResultVar.tmp).toArray) (hc:bareC c'=comp P c) (ho:okC fn.ntmps true c'=true) (hlen:xs.length≤fn.ntmps) (hx:aw P c' (EndsG ts r H') ⟨xs.zipIdx.map fun p=>(p.2,p.1),H⟩):Gen P f xs H r H':=by
 refine⟨can_of hf (by rw [hb]; rfl) hn,fun w γ0 args hq hh hl hs=>?_⟩
 have hq0:Lq.q w γ0.imm:=by first | exact hq | (rw [m0.imm]; exact hq)
 refine calls_of_wp hf hb ?_
 refine wp_mono (aw_sound (hD γ0 w) c c' (EndsG ts r H') γ0 ⟨xs.zipIdx.map fun p=>(p.2,p.1),H⟩ _ w hc ho hx ⟨zip_frame hl hs _,hh,Step.refl _ _,rfl,⟨by simp; omega,fun _ h=>(by cases h)⟩,fun _=>Ids.refl _,hq⟩) ?_
 have fin:∀(γ:Gh) (σ:St) (a:Act) (W:World),SR Dq.no fn.ntmps true γ0 w γ σ a W→resX σ.fr ts=r∧σ.hp=H' →
   a.defers=[]∧∃ v,(results fn a.tmps).run P W=.ok v W∧∃ v' γ',Ending.returned v=.returned v'∧Sim W γ' r v'∧HRel γ' H' W∧Step γ0 γ' w W∧Ids γ0 γ':=by
  rintro γ σ a W h ⟨h1,h2⟩
  refine⟨h.df,_,res_run hr a.tmps,_,γ,rfl,?_,h2 ▸ h.hp,h.st,h.ids rfl⟩
  rw [← h1]; exact resX_sim h.fr ts
 intro e a W he
 cases e with
 | normal=>obtain ⟨γ,σ,h1,h2⟩:=he; exact fin γ σ a W h1 h2
 | ret=>obtain ⟨γ,σ,h1,h2⟩:=he; exact fin γ σ a W h1 h2
 | exit id=>obtain ⟨_,_,_,h2⟩:=he; exact h2.elim
 | goto _=>exact he.elim
 | panic _=>exact he.elim
 | outgrown=>exact he.elim
end
end Go.Pv
/-
 The machine of plain values,20: operations that may change places.
-/
namespace Go.Pv
variable [Lq]
def Out1(P:Program)(base:Nat)(o:Op2)(fr:Fr)(hp:Hp)(v:AV)(hp':Hp):Prop :=
 match o.op with
 | .p q=>evP fr q=some v∧hp'=hp
 | .r q=>evR fr hp q=some v∧noLoad o.no fr hp q=true∧hp'=hp
 | .e q r=>evE base r fr hp q=some (v,hp')
 | .call f xs d=>Gen P f (xs.map (·.ev fr)) hp v hp' ∧(d=true→Grow o.no hp hp' ∧(o.fm=true→Framed P f (xs.map (·.ev fr)) hp v hp'))
 | .callv x xs=>match x.ev fr with
  | .fn f caps=>Gen P (fnId f) (fnArgs f (xs.map (·.ev fr)) caps) hp v hp'∧hp.length≤hp'.length
  | _=>False
 | .bad=>False
def Out(P:Program)(base:Nat)(o:Op2)(fr:Fr)(hp:Hp)(v:AV)(hp':Hp):Prop :=
 match o.guard with
 | none=>Out1 P base o fr hp v hp'
 | some (t,want)=>match get fr t with
  | .bool b=>if b=want then Out1 P base o fr hp v hp' else v=.lit Go.undef∧hp'=hp
  | .lit u=>notBool u=true∧v=.lit Go.undef∧hp'=hp
  | _=>False
section
variable {P:Program} {base:Nat} {o x y:Op2} {fr fr':Fr} {hp hp':Hp} {v:AV}
theorem aw1_out{σ:St}{K:St→Prop}:aw1 P base o σ K↔∃ v hp',Out1 P base o σ.fr σ.hp v hp'∧K ⟨putO σ.fr o.dst v,hp'⟩:=by
 unfold aw1 Out1
 cases o.op with
 | p q =>
  dsimp only
  constructor
  ·intro h
   split at h
   ·rename_i x hx; exact⟨x,_,⟨hx,rfl⟩,h⟩
   ·exact h.elim
  ·rintro ⟨v,hp',⟨h1,rfl⟩,hK⟩
   rw [h1]; exact hK
 | r q =>
  dsimp only
  constructor
  ·intro h
   split at h
   ·rename_i x hx; exact⟨x,_,⟨hx,h.1,rfl⟩,h.2⟩
   ·exact h.elim
  ·rintro ⟨v,hp',⟨h1,h2,rfl⟩,hK⟩
   rw [h1]; exact⟨h2,hK⟩
 | e q r =>
  dsimp only
  constructor
  ·intro h
   split at h
   ·rename_i p hp; exact⟨p.1,p.2,hp,h⟩
   ·exact h.elim
  ·rintro ⟨v,hp',h1,hK⟩
   rw [h1]; exact hK
 | call f xs d =>
  dsimp only
  exact⟨fun⟨r,H',h1,h2,h3⟩=>⟨r,H',⟨h1,h2⟩,h3⟩,fun⟨r,H',⟨h1,h2⟩,h3⟩=>⟨r,H',h1,h2,h3⟩⟩
 | callv x xs =>
  dsimp only
  generalize x.ev σ.fr=X
  cases X <;> try exact⟨fun h=>h.elim,fun⟨_,_,h,_⟩=>h.elim⟩
  exact⟨fun⟨r,H',h1,h2,h3⟩=>⟨r,H',⟨h1,h2⟩,h3⟩,fun⟨r,H',⟨h1,h2⟩,h3⟩=>⟨r,H',h1,h2,h3⟩⟩
 | bad=>exact⟨fun h=>h.elim,fun⟨_,_,h,_⟩=>h.elim⟩
theorem aw2_out{σ:St}{K:St→Prop}:aw2 P base o σ K↔∃ v hp',Out P base o σ.fr σ.hp v hp'∧K ⟨putO σ.fr o.dst v,hp'⟩:=by
 unfold aw2 Out
 cases o.guard with
 | none=>exact aw1_out
 | some p =>
  obtain ⟨t,want⟩:=p
  dsimp only
  generalize get σ.fr t=g
  cases g <;> try exact⟨fun h=>h.elim,fun⟨_,_,h,_⟩=>h.elim⟩
  ·rename_i b
   by_cases hbw:b=want
   ·simp only[if_pos hbw]; exact aw1_out
   ·simp only[if_neg hbw]
    exact⟨fun h=>⟨_,_,⟨rfl,rfl⟩,h⟩,fun⟨v,hp',⟨h1,h2⟩,h⟩=>by subst h1 h2; exact h⟩
  ·exact⟨fun h=>⟨_,_,⟨h.1,rfl,rfl⟩,h.2⟩,fun⟨v,hp',⟨h0,h1,h2⟩,h⟩=>by subst h1 h2; exact⟨h0,h⟩⟩
/-! ### What an operation looks at -/
theorem aX{x:AX}(h:∀ t∈x.uses,get fr t=get fr' t):x.ev fr=x.ev fr':=by
 cases x with
 | t n=>exact h n (by simp [AX.uses])
 | c v=>rfl
theorem axo_congr{x:Option AX}(h:∀ t∈usesO x,get fr t=get fr' t):x.map (·.ev fr)=x.map (·.ev fr'):=by
 cases x with
 | none=>rfl
 | some x=>simp only[Option.map_some]; rw [aX h]
theorem axl_congr:∀ {xs:List AX},(∀ t∈usesL xs,get fr t=get fr' t)→xs.map (·.ev fr)=xs.map (·.ev fr')
 | [],_=>rfl
 | x :: xs,h=>by
  simp only[List.map_cons]
  rw [aX fun t ht=>h t (by simp [usesL,ht]),axl_congr fun t ht=>h t (by simp only[usesL,List.flatMap_cons,List.mem_append]; exact .inr ht)]
theorem mem_l{a b:List Nat}(h:∀ t∈a ++ b,get fr t=get fr' t):(∀ t∈a,get fr t=get fr' t)∧∀ t∈b,get fr t=get fr' t :=
 ⟨fun t ht=>h t (List.mem_append_left _ ht),fun t ht=>h t (List.mem_append_right _ ht)⟩
theorem evP_congr{q:OpP}(h:∀ t∈q.uses,get fr t=get fr' t):evP fr q=evP fr' q:=by
 cases q with
 | pick c a b =>
  obtain ⟨h1,h2⟩:=mem_l h
  obtain ⟨h2,h3⟩:=mem_l h2
  simp only[evP,aX h1,aX h2,aX h3]
 | slices x lo hi =>
  obtain ⟨h1,h2⟩:=mem_l h
  obtain ⟨h2,h3⟩:=mem_l h2
  simp only[evP,aX h1,axo_congr h2,axo_congr h3]
 | slicev sz x lo hi mx =>
  obtain ⟨h1,hq⟩:=mem_l h
  obtain ⟨h2,hq⟩:=mem_l hq
  obtain ⟨h3,h4⟩:=mem_l hq
  clear hq h
  have e3:∀ m,(hi.bind fun h=>bound m (h.ev fr)) =(hi.bind fun h=>bound m (h.ev fr')):=by
   intro m
   cases hi with
   | none=>rfl
   | some x=>simp only[Option.bind_some]; rw [aX h3]
  cases mx with
  | none=>simp only[evP,aX h1,axo_congr h2,axo_congr h3]
  | some m=>simp only[evP,aX h1,axo_congr h2,e3,aX (x:=m) h4]
 | build z ps =>
  have e:(ps.map fun p=>(p.1,p.2.1,p.2.2.ev fr))=ps.map fun p=>(p.1,p.2.1,p.2.2.ev fr'):=by
   apply List.map_congr_left
   intro p hp
   rw [aX fun t ht=>h t (by
    simp only[OpP.uses,usesL,List.mem_flatMap,List.mem_map]
    exact⟨p.2.2,⟨p,hp,rfl⟩,ht⟩)]
  simp only[evP,e]
 | mkfn f cs=>simp only[evP,axl_congr h]
 | lenc n=>rfl
 | mv x=>simp only[evP,aX h]
 | un op x=>simp only[evP,aX h]
 | convI k x=>simp only[evP,aX h]
 | same x=>simp only[evP,aX h]
 | faddr o x=>simp only[evP,aX h]
 | field a b c x=>simp only[evP,aX h]
 | ext x i=>simp only[evP,aX h]
 | len x=>simp only[evP,aX h]
 | lenS x=>simp only[evP,aX h]
 | nilck x=>simp only[evP,aX h]
 | isnil a x=>simp only[evP,aX h]
 | bin op x y=>obtain ⟨h1,h2⟩:=mem_l h; simp only[evP,aX h1,aX h2]
 | binB op x y=>obtain ⟨h1,h2⟩:=mem_l h; simp only[evP,aX h1,aX h2]
 | iaddr a x y=>obtain ⟨h1,h2⟩:=mem_l h; simp only[evP,aX h1,aX h2]
 | aaddr a b x y=>obtain ⟨h1,h2⟩:=mem_l h; simp only[evP,aX h1,aX h2]
 | idxs x y=>obtain ⟨h1,h2⟩:=mem_l h; simp only[evP,aX h1,aX h2]
 | idxa a b c x y=>obtain ⟨h1,h2⟩:=mem_l h; simp only[evP,aX h1,aX h2]
 | minmax a x y=>obtain ⟨h1,h2⟩:=mem_l h; simp only[evP,aX h1,aX h2]
 | idxb x y=>obtain ⟨h1,h2⟩:=mem_l h; simp only[evP,aX h1,aX h2]
 | eqS a b x y=>obtain ⟨h1,h2⟩:=mem_l h; simp only[evP,aX h1,aX h2]
theorem evR_congr{q:OpR}(h:∀ t∈q.uses,get fr t=get fr' t):evR fr hp q=evR fr' hp q∧∀ no,noLoad no fr hp q=noLoad no fr' hp q:=by
 cases q with
 | load n a x=>simp [evR,noLoad,aX (x:=x) h]
 | b2s x=>simp [evR,noLoad,aX (x:=x) h]
 | cut a x y z =>
  obtain ⟨h1,h2⟩:=mem_l (a:=x.uses) (b:=y.uses ++ z.uses) h
  obtain ⟨h3,h4⟩:=mem_l h2
  have e:=evP_congr (fr:=fr) (fr':=fr') (q:=.slicev a x (some y) (some z) none) (fun t ht=>h t (by simpa [OpP.uses,OpR.uses,usesO] using ht))
  simp only[evR,noLoad,e,aX h1,aX h3,aX h4]
  exact⟨trivial,fun _=>trivial⟩
theorem evE_congr{q:OpE}{r:Option Nat}(h:∀ t∈q.uses,get fr t=get fr' t):evE base r fr hp q=evE base r fr' hp q:=by
 cases q with
 | alloc t z=>rfl
 | box t x=>simp only[evE,aX (x:=x) h]
 | s2b t x=>simp only[evE,aX (x:=x) h]
 | clear a z x=>simp only[evE,aX (x:=x) h]
 | mark x=>simp only[evE,aX (x:=x) h]
 | mks t sz z n ps =>
  have e:(ps.map fun p=>(p.1,p.2.ev fr))=ps.map fun p=>(p.1,p.2.ev fr'):=by
   apply List.map_congr_left
   intro p hp
   rw [aX fun t ht=>h t (by
    simp only[OpE.uses,usesL,List.mem_flatMap,List.mem_map]
    exact⟨p.2,⟨p,hp,rfl⟩,ht⟩)]
  simp only[evE,e]
 | make t sz z x y=>obtain ⟨h1,h2⟩:=mem_l h; simp only[evE,aX h1,aX h2]
 | store n x y=>obtain ⟨h1,h2⟩:=mem_l h; simp only[evE,aX h1,aX h2]
 | append t sz lm x y=>obtain ⟨h1,h2⟩:=mem_l h; simp only[evE,aX h1,aX h2]
 | copy sz x y=>obtain ⟨h1,h2⟩:=mem_l h; simp only[evE,aX h1,aX h2]
theorem out1_congr(h:∀ t∈o.op.uses,get fr t=get fr' t)(ho:Out1 P base o fr hp v hp'):Out1 P base o fr' hp v hp':=by
 unfold Out1 at ho ⊢
 cases hop:o.op with
 | p q=>rw [hop] at ho h; dsimp only at ho ⊢; rw [← evP_congr h]; exact ho
 | r q=>rw [hop] at ho h; dsimp only at ho ⊢; rw [← (evR_congr h).1,← (evR_congr (hp:=hp) h).2]; exact ho
 | e q r=>rw [hop] at ho h; dsimp only at ho ⊢; rw [← evE_congr h]; exact ho
 | call f xs d=>rw [hop] at ho h; dsimp only at ho ⊢; rw [← axl_congr h]; exact ho
 | callv x xs =>
  rw [hop] at ho h; dsimp only at ho ⊢
  obtain ⟨h1,h2⟩:=mem_l h
  rw [← aX h1,← axl_congr h2]; exact ho
 | bad=>rw [hop] at ho; exact ho
theorem out_congr(h:∀ t∈o.looks,get fr t=get fr' t)(ho:Out P base o fr hp v hp'):Out P base o fr' hp v hp':=by
 unfold Op2.looks at h
 obtain ⟨h1,h2⟩:=mem_l h
 unfold Out at ho ⊢
 cases hg:o.guard with
 | none=>rw [hg] at ho; exact out1_congr h1 ho
 | some p =>
  obtain ⟨t,want⟩:=p
  rw [hg] at ho h2
  dsimp only at ho ⊢
  rw [← h2 t (by simp)]
  split at ho
  ·split at ho
   ·rename_i hb; rw [if_pos hb]; exact out1_congr h1 ho
   ·rename_i hb; rw [if_neg hb]; exact ho
  ·exact ho
  ·exact ho
/-! ### What an operation does to rows -/
def Keep(hp h:Hp):Prop:=∀ id e,ent hp id=some e→∃ wr,ent h id=some { e with wr:=wr }
def KeepN(no:List TypeId)(hp h:Hp):Prop:=∀ id e,ent hp id=some e→no.contains e.ty=false→∃ wr,ent h id=some { e with wr:=wr }
theorem Keep.n{no:List TypeId}{hp h:Hp}(k:Keep hp h):KeepN no hp h:=fun id e he _=>k id e he
theorem Keep.refl(hp:Hp):Keep hp hp:=fun _ e he=>⟨e.wr,he⟩
theorem load_keep{no:List TypeId}{n:Nat}{a:Bool}{X:AX}{h:Hp}(hr:evR fr hp (.load n a X)=some v)(hn:noLoad no fr hp (.load n a X)=true)(k:KeepN no hp h) :
  evR fr h (.load n a X)=some v∧noLoad no fr h (.load n a X)=true:=by
 simp only[evR,noLoad] at hr hn ⊢
 generalize X.ev fr=XX at *
 cases XX <;> try (cases hr; done)
 ·dsimp only at hr hn ⊢
  obtain ⟨e,he,hr⟩:=Option.bind_eq_some_iff.1 hr
  rw [he] at hn
  simp only[Bool.not_eq_true'] at hn
  obtain ⟨wr,he'⟩:=k _ e he hn
  rw [he']
  refine⟨hr,?_⟩
  simp only[hn]; rfl
 ·exact⟨hr,rfl⟩
theorem cut_keep{no:List TypeId}{sz:Nat}{X Y Z:AX}{h:Hp}(hr:evR fr hp (.cut sz X Y Z)=some v)(k:Keep hp h):evR fr h (.cut sz X Y Z)=some v∧noLoad no fr h (.cut sz X Y Z)=true:=by
 refine⟨?_,rfl⟩
 simp only[evR] at hr ⊢
 split at hr
 ·exact hr
 ·generalize X.ev fr=XX at *
  cases XX <;> try (cases hr; done)
  dsimp only at hr ⊢
  obtain ⟨e,he,hr⟩:=Option.bind_eq_some_iff.1 hr
  obtain ⟨wr,hk⟩:=k _ e he
  rw [hk]
  exact hr
theorem b2s_keep{no:List TypeId}{X:AX}{h:Hp}(hr:evR fr hp (.b2s X)=some v)(k:Keep hp h):evR fr h (.b2s X)=some v∧noLoad no fr h (.b2s X)=true:=by
 refine⟨?_,rfl⟩
 simp only[evR] at hr ⊢
 generalize X.ev fr=XX at *
 cases XX <;> try (cases hr; done)
 ·exact hr
 ·dsimp only at hr ⊢
  split at hr
  ·rename_i hs
   rw [if_pos hs]
   obtain ⟨es,hes,hr⟩:=Option.bind_eq_some_iff.1 hr
   simp only[elems] at hes ⊢
   obtain ⟨e,he,hes⟩:=Option.bind_eq_some_iff.1 hes
   obtain ⟨wr,he'⟩:=k _ e he
   rw [he']
   simp only[Option.bind_some]
   rw [hes]; exact hr
  ·cases hr
theorem cls3_form{q:OpE}{j:Nat}{hp':Hp}(hc:cls (.e q (some j))=3)(h:evE base (some j) fr hp q=some (v,hp')) :
  ∃ e,e.wr=true∧base+j < hp.length∧ent hp (base+j)=none∧hp'=hp.set (base+j) (some e)∧∀ h,base+j < h.length→ent h (base+j)=none→evE base (some j) fr h q=some (v,h.set (base+j) (some e)):=by
 have row:∀(sz:Nat) (ty:TypeId) (es:List AV),newVec base (some j) hp sz ty es=some (v,hp')→∃ e,e.wr=true∧base+j < hp.length∧ent hp (base+j)=none∧hp'=hp.set (base+j) (some e)∧∀ h,base+j < h.length→ent h (base+j)=none→newVec base (some j) h sz ty es=some (v,h.set (base+j) (some e)):=by
  intro sz ty es h
  unfold newVec new at h
  dsimp only at h
  split at h
  ·rename_i hc
   simp only[Option.map_some,Option.some.injEq,Prod.mk.injEq] at h
   obtain ⟨rfl,rfl⟩:=h
   refine⟨_,rfl,hc.1,by simpa using hc.2,rfl,fun h h1 h2=>?_⟩
   unfold newVec new
   dsimp only
   rw [if_pos ⟨h1,by rw [h2]; rfl⟩]; rfl
  ·cases h
 have var:∀(ty:TypeId) (x:AV),newVar base (some j) hp ty x=some (v,hp')→∃ e,e.wr=true∧base+j < hp.length∧ent hp (base+j)=none∧hp'=hp.set (base+j) (some e)∧∀ h,base+j < h.length→ent h (base+j)=none→newVar base (some j) h ty x=some (v,h.set (base+j) (some e)):=by
  intro ty x h
  unfold newVar new at h
  dsimp only at h
  split at h
  ·rename_i hc
   simp only[Option.map_some,Option.some.injEq,Prod.mk.injEq] at h
   obtain ⟨rfl,rfl⟩:=h
   refine⟨_,rfl,hc.1,by simpa using hc.2,rfl,fun h h1 h2=>?_⟩
   unfold newVar new
   dsimp only
   rw [if_pos ⟨h1,by rw [h2]; rfl⟩]; rfl
  ·cases h
 cases q <;> try (cases hc; done)
 ·exact var _ _ h
 ·simp only[evE] at h ⊢
  split at h
  ·rename_i ho
   simp only[if_pos ho]
   exact var _ _ h
  ·cases h
 ·simp only[evE] at h ⊢
  obtain ⟨es,hes,h⟩:=Option.bind_eq_some_iff.1 h
  simp only[hes,Option.bind_some]
  exact row _ _ _ h
 ·simp only[evE] at h ⊢
  obtain ⟨c,hc,h⟩:=Option.bind_eq_some_iff.1 h
  obtain ⟨n,hn,h⟩:=Option.bind_eq_some_iff.1 h
  simp only[hc,hn,Option.bind_some]
  exact row _ _ _ h
 ·rename_i t X
  simp only[evE] at h ⊢
  generalize X.ev fr=XX at *
  cases XX <;> try (cases h; done)
  dsimp only at h ⊢
  split at h
  ·rename_i ho
   simp only[if_pos ho]
   exact row _ _ _ h
  ·cases h
theorem set_none_keep{k:Nat}{e:Ent}(h0:ent hp k=none):Keep hp (hp.set k (some e)):=by
 intro id e' he
 refine⟨e'.wr,?_⟩
 have:id≠k:=by rintro rfl; rw [h0] at he; cases he
 unfold ent at *
 rw [List.getElem?_set_ne (fun h=>this h.symm)]; exact he
theorem elems_set{k:Nat}{e:Ent}{Y:AV}{es:List AV}(h0:ent hp k=none)(h:elems hp Y=some es):elems (hp.set k (some e)) Y=some es:=by
 cases Y <;> try exact h
 simp only[elems] at h ⊢
 obtain ⟨e',he,h⟩:=Option.bind_eq_some_iff.1 h
 obtain ⟨wr,he'⟩:=set_none_keep (e:=e) h0 _ e' he
 rw [he']; exact h
theorem ent_set_ne{k id:Nat}{e:Option Ent}(h:id≠k):ent (hp.set k e) id=ent hp id:=by
 unfold ent
 rw [List.getElem?_set_ne (fun h'=>h h'.symm)]
theorem append_set{t:TypeId}{sz lm:Nat}{X Y:AX}{i k:Nat}{e:Ent}{h1:Hp}(h:evE base (some i) fr hp (.append t sz lm X Y)=some (v,h1))(hk:ent h1 k=none)(hik:k≠base+i) :
  ent hp k=none∧h1.length=hp.length∧evE base (some i) fr (hp.set k (some e)) (.append t sz lm X Y)=some (v,h1.set k (some e)):=by
 have row:∀(hq:Hp) (es:List AV),newVec base (some i) hq sz t es=some (v,h1)→ent hq k=none∧h1.length=hq.length∧newVec base (some i) (hq.set k (some e)) sz t es=some (v,h1.set k (some e)):=by
  intro hq es h
  unfold newVec new at h ⊢
  dsimp only at h ⊢
  split at h
  ·rename_i hc
   simp only[Option.map_some,Option.some.injEq,Prod.mk.injEq] at h
   obtain ⟨rfl,rfl⟩:=h
   rw [ent_set_ne hik] at hk
   refine⟨hk,by simp,?_⟩
   rw [if_pos ⟨by simpa using hc.1,by rw [ent_set_ne (fun h=>hik h.symm)]; exact hc.2⟩]
   simp only[Option.map_some,Option.some.injEq,Prod.mk.injEq,true_and]
   exact List.set_comm _ _ (fun h=>hik h)
  ·cases h
 simp only[evE] at h ⊢
 split at h
 case isFalse=>cases h
 rename_i hs
 simp only[if_pos hs]
 obtain ⟨ys,hys,h⟩:=Option.bind_eq_some_iff.1 h
 generalize hXX:X.ev fr=XX at h ⊢
 have fin:∀(hq:Hp) (es:List AV),ent hp k=none →(∀ j,j≠k→True)→newVec base (some i) hq sz t es=some (v,h1)→True:=fun _ _ _ _ _=>trivial
 cases XX <;> try (cases h; done)
 ·rename_i sz' es full
  cases es with
  | nil =>
   cases full with
   | false=>cases h
   | true =>
    dsimp only at h ⊢
    split at h
    ·rename_i hl
     obtain ⟨r1,r2,r3⟩:=row _ _ h
     refine⟨r1,r2,?_⟩
     rw [elems_set r1 hys]
     simp only[Option.bind_some,if_pos hl]
     exact r3
    ·cases h
  | cons a es =>
   cases full with
   | false=>cases h
   | true =>
    dsimp only at h ⊢
    split at h
    ·rename_i hl
     obtain ⟨r1,r2,r3⟩:=row _ _ h
     refine⟨r1,r2,?_⟩
     rw [elems_set r1 hys]
     simp only[Option.bind_some,if_pos hl]
     exact r3
    ·rename_i hl
     split at h
     ·rename_i hl2
      simp only[Option.some.injEq,Prod.mk.injEq] at h
      obtain ⟨rfl,rfl⟩:=h
      refine⟨hk,rfl,?_⟩
      rw [elems_set hk hys]
      simp only[Option.bind_some,if_neg hl,if_pos hl2]
     ·cases h
 ·rename_i id sz' off len
  dsimp only at h ⊢
  obtain ⟨en,he,h⟩:=Option.bind_eq_some_iff.1 h
  split at h
  ·rename_i hl
   obtain ⟨r1,r2,r3⟩:=row _ _ h
   have hid:id≠k:=by
    rintro rfl
    rw [ent_set he,if_pos rfl] at r1; cases r1
   rw [ent_set_ne (fun h=>hid h.symm)] at r1
   refine⟨r1,by simpa using r2,?_⟩
   rw [elems_set r1 hys]
   simp only[Option.bind_some]
   rw [ent_set_ne hid,he]
   simp only[Option.bind_some,if_pos hl]
   rw [List.set_comm _ _ (fun h=>hid h.symm)]
   exact r3
  ·rename_i hl
   split at h
   ·rename_i hl2
    simp only[Option.some.injEq,Prod.mk.injEq] at h
    obtain ⟨rfl,rfl⟩:=h
    have hid:id≠k:=by
     rintro rfl
     rw [ent_set he,if_pos rfl] at hk; cases hk
    rw [ent_set_ne (fun h=>hid h.symm)] at hk
    refine⟨hk,by simp,?_⟩
    rw [elems_set hk hys]
    simp only[Option.bind_some]
    rw [ent_set_ne hid,he]
    simp only[Option.bind_some,if_neg hl,if_pos hl2]
    rw [List.set_comm _ _ (fun h=>hid h.symm)]
   ·cases h
def Gh.drop(γ:Gh)(k:Nat):Gh:=⟨fun i=>if i=k then none else γ.m i,γ.imm⟩
theorem append_keep{t:TypeId}{sz lm:Nat}{X Y:AX}{i:Nat}{h1:Hp}{no:List TypeId}(h:evE base (some i) fr hp (.append t sz lm X Y)=some (v,h1))(hn:no.contains t=true):KeepN no hp h1:=by
 have row:∀(hq:Hp) (es:List AV),newVec base (some i) hq sz t es=some (v,h1)→Keep hq h1:=by
  intro hq es h
  unfold newVec new at h
  dsimp only at h
  split at h
  ·rename_i hc
   simp only[Option.map_some,Option.some.injEq,Prod.mk.injEq] at h
   obtain ⟨rfl,rfl⟩:=h
   exact set_none_keep (by simpa using hc.2)
  ·cases h
 simp only[evE] at h
 split at h
 case isFalse=>cases h
 obtain ⟨ys,hys,h⟩:=Option.bind_eq_some_iff.1 h
 generalize X.ev fr=XX at h
 cases XX <;> try (cases h; done)
 ·rename_i sz' es full
  cases es with
  | nil =>
   cases full with
   | false=>cases h
   | true =>
    dsimp only at h
    split at h
    ·exact(row _ _ h).n
    ·cases h
  | cons a es =>
   cases full with
   | false=>cases h
   | true =>
    dsimp only at h
    split at h
    ·exact(row _ _ h).n
    ·split at h
     ·simp only[Option.some.injEq,Prod.mk.injEq] at h
      obtain ⟨rfl,rfl⟩:=h
      intro id' e' he' _
      exact⟨e'.wr,he'⟩
     ·cases h
 ·rename_i id sz' off len
  dsimp only at h
  obtain ⟨en,he,h⟩:=Option.bind_eq_some_iff.1 h
  split at h
  ·rename_i hl
   intro id' e' he' hty
   have hid:id'≠id:=by
    rintro rfl
    rw [he] at he'; cases he'
    rw [← hl.2.2.1,hn] at hty; cases hty
   exact row _ _ h id' e' (by rw [ent_set_ne hid]; exact he')
  ·split at h
   ·rename_i hl2
    simp only[Option.some.injEq,Prod.mk.injEq] at h
    obtain ⟨rfl,rfl⟩:=h
    intro id' e' he' hty
    have hid:id'≠id:=by
     rintro rfl
     rw [he] at he'; cases he'
     rw [← hl2.2.2.1,hn] at hty; cases hty
    exact⟨e'.wr,by rw [ent_set_ne hid]; exact he'⟩
   ·cases h
structure Good(o:Op2)(i:Nat):Prop where
 e:∀ q r,o.op=.e q r→r=some i
 c:∀ f xs d,o.op=.call f xs d→d=true
theorem out_cases{h1:Hp}(h:Out P base o fr hp v h1):((∀ h,Out P base o fr h v h)∧h1=hp) ∨(Out1 P base o fr hp v h1∧∀ h v h',Out1 P base o fr h v h'→Out P base o fr h v h'):=by
 unfold Out at h ⊢
 cases hg:o.guard with
 | none=>rw [hg] at h; exact .inr ⟨h,fun _ _ _ h=>h⟩
 | some p =>
  obtain ⟨t,want⟩:=p
  rw [hg] at h
  dsimp only at h ⊢
  generalize get fr t=g at h ⊢
  cases g <;> try exact h.elim
  ·rename_i b
   dsimp only at h ⊢
   by_cases hb:b=want
   ·rw [if_pos hb] at h
    refine .inr ⟨h,fun _ _ _ h=>?_⟩
    rw [if_pos hb]; exact h
   ·rw [if_neg hb] at h
    obtain ⟨rfl,rfl⟩:=h
    refine .inl ⟨fun h=>?_,rfl⟩
    rw [if_neg hb]; exact⟨rfl,rfl⟩
  ·dsimp only at h ⊢
   obtain ⟨h0,rfl,rfl⟩:=h
   exact .inl ⟨fun h=>⟨h0,rfl,rfl⟩,rfl⟩
theorem swap_heap{h1 h2:Hp}{vx vy:AV}{i j:Nat}(hx:Out P base x fr hp vx h1)(hy:Out P base y fr h1 vy h2)(gx:Good x i)(gy:Good y j)(hij:i≠j)(hlen:cls y.op=3→base+j < hp.length)
  (hs:swapC (cls x.op) (cls y.op)=true) (hf:cls x.op=5→cls y.op=3→x.fm=true) (hn:∀ t,appTy y.op=some t→cls x.op=1→x.no.contains t=true) (hc1:cls x.op=1→∀ t∈callTy y,x.no.contains t=true) (hc2:cls x.op=2→callTy y=[]):∃ h1',Out P base y fr hp vy h1'∧Out P base x fr h1' vx h2:=by
 rcases out_cases hx with ⟨q1,rfl⟩ | ⟨ox,lx⟩
 ·exact⟨h2,hy,q1 h2⟩
 rcases out_cases hy with ⟨q2,rfl⟩ | ⟨oy,ly⟩
 ·exact⟨hp,q2 hp,hx⟩
 have pureX:∀ q,x.op=.p q→∃ h1',Out P base y fr hp vy h1'∧Out P base x fr h1' vx h2:=by
  intro q hq
  unfold Out1 at ox
  rw [hq] at ox
  obtain ⟨e1,rfl⟩:=ox
  exact⟨h2,hy,lx _ _ _ (by unfold Out1; rw [hq]; exact⟨e1,rfl⟩)⟩
 have pureY:∀ q,y.op=.p q→∃ h1',Out P base y fr hp vy h1'∧Out P base x fr h1' vx h2:=by
  intro q hq
  unfold Out1 at oy
  rw [hq] at oy
  obtain ⟨e1,rfl⟩:=oy
  exact⟨hp,ly _ _ _ (by unfold Out1; rw [hq]; exact⟨e1,rfl⟩),hx⟩
 -- y makes a row at its place
 have rowY:∀ q,y.op=.e q (some j)→cls y.op=3→∃ e,e.wr=true∧ent h1 (base+j)=none∧h2=h1.set (base+j) (some e)∧∀ h,base+j < h.length→ent h (base+j)=none→Out P base y fr h vy (h.set (base+j) (some e)):=by
  intro q hq hc
  have oy':=oy
  unfold Out1 at oy'
  rw [hq] at oy' hc
  obtain ⟨e,w1,w2,w3,w4,w5⟩:=cls3_form hc oy'
  exact⟨e,w1,w3,w4,fun h l1 l2=>ly _ _ _ (by unfold Out1; rw [hq]; exact w5 h l1 l2)⟩
 cases hxo:x.op with
 | p q=>exact pureX q hxo
 | bad=>unfold Out1 at ox; rw [hxo] at ox; exact ox.elim
 | callv X xs =>
  cases hyo:y.op with
  | p q=>exact pureY q hyo
  | r q=>rw [hxo,hyo] at hs; cases q <;> cases hs
  | e q r =>
   have:=gy.e q r hyo; subst this
   rw [hxo,hyo] at hs; cases q <;> cases hs
  | call f xs d=>have:=gy.c f xs d hyo; subst this; rw [hxo,hyo] at hs; cases hs
  | callv X xs=>rw [hxo,hyo] at hs; cases hs
  | bad=>unfold Out1 at oy; rw [hyo] at oy; exact oy.elim
 | r q =>
  have ox':=ox
  unfold Out1 at ox'
  rw [hxo] at ox'
  obtain ⟨e1,e2,rfl⟩:=ox'
  -- behind rows that stay
  have stay:Keep h1 h2→Out P base x fr h2 vx h2:=fun k=>lx _ _ _ (by
   unfold Out1; rw [hxo]
   cases q with
   | load n a X=>obtain ⟨a1,a2⟩:=load_keep e1 e2 k.n; exact⟨a1,a2,rfl⟩
   | b2s X=>obtain ⟨a1,a2⟩:=b2s_keep (no:=x.no) e1 k; exact⟨a1,a2,rfl⟩
   | cut s X Y Z=>obtain ⟨a1,a2⟩:=cut_keep (no:=x.no) e1 k; exact⟨a1,a2,rfl⟩)
  cases hyo:y.op with
  | p q=>exact pureY q hyo
  | bad=>unfold Out1 at oy; rw [hyo] at oy; exact oy.elim
  | callv X xs=>rw [hxo,hyo] at hs; cases q <;> cases hs
  | r q' =>
   unfold Out1 at oy
   rw [hyo] at oy
   obtain ⟨f1,f2,rfl⟩:=oy
   exact⟨_,hy,hx⟩
  | call f xs d =>
   have:=gy.c f xs d hyo; subst this
   unfold Out1 at oy
   rw [hyo] at oy
   have hg:=(oy.2 rfl).1
   have hct:callTy y=y.no:=by unfold callTy; rw [hyo]; rfl
   rw [hct] at hc1 hc2
   refine⟨h2,hy,lx _ _ _ ?_⟩
   unfold Out1; rw [hxo]
   cases q with
   | load n a X =>
    have hc:=hc1 (by rw [hxo]; rfl)
    obtain ⟨a1,a2⟩:=load_keep (h:=h2) e1 e2 fun id e he hne=>hg.some id e he (by
     cases hx:y.no.contains e.ty with
     | false=>rfl
     | true=>exact absurd (hc _ (List.contains_iff_mem.1 hx)) (by rw [hne]; decide))
    exact⟨a1,a2,rfl⟩
   | b2s X =>
    have hc:=hc2 (by rw [hxo]; rfl)
    obtain ⟨a1,a2⟩:=b2s_keep (no:=x.no) (h:=h2) e1 fun id e he=>hg.some id e he (by rw [hc]; rfl)
    exact⟨a1,a2,rfl⟩
   | cut _ _ _ _=>rw [hxo,hyo] at hs; cases hs
  | e q' r =>
   have:=gy.e q' r hyo; subst this
   by_cases h3:cls y.op=3
   ·obtain ⟨e,w1,w2,rfl,w4⟩:=rowY q' hyo h3
    exact⟨_,hy,stay (set_none_keep w2)⟩
   ·rw [hyo] at h3
    cases q' <;> try (rw [hxo,hyo] at hs; cases q <;> cases hs; done)
    all_goals try exact absurd rfl h3
    rename_i t sz lm X Y
    cases q with
    | b2s _=>rw [hxo,hyo] at hs; cases hs
    | cut _ _ _ _=>rw [hxo,hyo] at hs; cases hs
    | load n a Z =>
     have hc:=hn t (by rw [hyo]; rfl) (by rw [hxo]; rfl)
     unfold Out1 at oy
     rw [hyo] at oy
     obtain ⟨a1,a2⟩:=load_keep e1 e2 (append_keep oy hc)
     exact⟨h2,hy,lx _ _ _ (by unfold Out1; rw [hxo]; exact⟨a1,a2,rfl⟩)⟩
 | e q r =>
  have:=gx.e q r hxo; subst this
  cases hyo:y.op with
  | p q=>exact pureY q hyo
  | bad=>unfold Out1 at oy; rw [hyo] at oy; exact oy.elim
  | callv X xs=>rw [hxo,hyo] at hs; cases q <;> cases hs
  | r q'=>rw [hxo,hyo] at hs; cases q <;> cases q' <;> cases hs
  | call f xs d=>have:=gy.c f xs d hyo; subst this; rw [hxo,hyo] at hs; cases q <;> cases hs
  | e q' r =>
   have:=gy.e q' r hyo; subst this
   have h3:cls y.op=3:=by
    rw [hxo,hyo] at hs
    rw [hyo]
    cases q <;> cases q' <;> first | rfl | cases hs
   obtain ⟨e,w1,w2,rfl,w4⟩:=rowY q' hyo h3
   have hlt:=hlen h3
   have ox':=ox
   unfold Out1 at ox'
   rw [hxo] at ox'
   by_cases hx3:cls x.op=3
   ·rw [hxo] at hx3
    obtain ⟨ex,u1,u2,u3,rfl,u5⟩:=cls3_form hx3 ox'
    rw [ent_set_ne (by omega)] at w2
    refine⟨_,w4 hp hlt w2,lx _ _ _ ?_⟩
    unfold Out1; rw [hxo]
    rw [List.set_comm _ _ (by omega)]
    exact u5 _ (by simpa using u2) (by rw [ent_set_ne (by omega)]; exact u3)
   ·rw [hxo] at hx3
    cases q <;> try (exact absurd rfl hx3)
    all_goals try (rw [hxo,hyo] at hs; cases q' <;> cases hs; done)
    obtain ⟨a1,a2,a3⟩:=append_set (e:=e) ox' w2 (by omega)
    exact⟨_,w4 hp hlt a1,lx _ _ _ (by unfold Out1; rw [hxo]; exact a3)⟩
 | call f xs d =>
  have:=gx.c f xs d hxo; subst this
  cases hyo:y.op with
  | p q=>exact pureY q hyo
  | bad=>unfold Out1 at oy; rw [hyo] at oy; exact oy.elim
  | callv X xs=>rw [hxo,hyo] at hs; cases hs
  | r q'=>rw [hxo,hyo] at hs; cases q' <;> cases hs
  | call f xs d=>have:=gy.c f xs d hyo; subst this; rw [hxo,hyo] at hs; cases hs
  | e q' r =>
   have:=gy.e q' r hyo; subst this
   have h3:cls y.op=3:=by
    rw [hxo,hyo] at hs
    rw [hyo]
    cases q' <;> first | rfl | cases hs
   obtain ⟨e,w1,w2,rfl,w4⟩:=rowY q' hyo h3
   have hlt:=hlen h3
   have ox':=ox
   unfold Out1 at ox'
   rw [hxo] at ox'
   obtain ⟨hg,hd⟩:=ox'
   obtain ⟨hgr,hfm⟩:=hd rfl
   have hF:=hfm (hf (by rw [hxo]; rfl) h3)
   have h0:ent hp (base+j)=none:=by
    cases hh:ent hp (base+j) with
    | none=>rfl
    | some e'=>obtain ⟨e2,h'⟩:=hgr.still _ _ hh; rw [h'] at w2; cases w2
   refine⟨_,w4 hp hlt h0,lx _ _ _ ?_⟩
   unfold Out1; rw [hxo]
   have hlt1:base+j < h1.length:=Nat.lt_of_lt_of_le hlt hgr.len
   have e1:∀ k,ent (hp.set (base+j) (some e)) k=if k=base+j then some e else ent hp k:=fun k=>by
    by_cases hk:k=base+j
    ·subst hk; unfold ent; simp [hlt]
    ·rw [if_neg hk,ent_set_ne hk]
   have e2:∀ k,ent (h1.set (base+j) (some e)) k=if k=base+j then some e else ent h1 k:=fun k=>by
    by_cases hk:k=base+j
    ·subst hk; unfold ent; simp [hlt1]
    ·rw [if_neg hk,ent_set_ne hk]
   refine⟨hF [(base+j,e)] (fun p hp=>by simp at hp; subst hp; exact⟨h0,hlt,w1⟩),fun _=>⟨⟨by simpa using hgr.len,fun id en hid=>?_,fun id en hid hno=>?_,fun id hl hid=>?_⟩,fun _ L hL=>?_⟩⟩
   ·rw [e1] at hid; rw [e2]
    split at hid
    ·rename_i hk; rw [if_pos hk]; exact⟨e,rfl⟩
    ·rename_i hk; rw [if_neg hk]; exact hgr.still id en hid
   ·rw [e1] at hid; rw [e2]
    split at hid
    ·rename_i hk; rw [if_pos hk]; cases hid; exact⟨e.wr,rfl⟩
    ·rename_i hk; rw [if_neg hk]; exact hgr.some id en hid hno
   ·rw [e1] at hid; rw [e2]
    split at hid
    ·cases hid
    ·rename_i hk; rw [if_neg hk]; exact hgr.none id (by simpa using hl) hid
   ·refine hF ((base+j,e) :: L) fun p hp=>?_
    rcases List.mem_cons.1 hp with rfl | hp
    ·exact⟨h0,hlt,w1⟩
    ·obtain ⟨l1,l2,l3⟩:=hL p hp
     rw [e1] at l1
     split at l1
     ·cases l1
     ·exact⟨l1,by simpa using l2,l3⟩
theorem ldAt_inv{t:Nat}(h:ldAt x=some t):∃ n a,x.guard=none∧x.op=.r (.load n a (.t t)):=by
 unfold ldAt at h
 split at h
 ·cases h; rename_i h1 h2; exact⟨_,_,h1,h2⟩
 ·cases h
theorem stAt_inv{s:Nat}(h:stAt y=some s):∃ n v r,y.guard=none∧y.op=.e (.store n (.t s) v) r:=by
 unfold stAt at h
 split at h
 ·cases h; rename_i h1 h2; exact⟨_,_,_,h1,h2⟩
 ·cases h
theorem swap_ls{h1 h2:Hp}{vx vy:AV}{t s:Nat}(hx:Out P base x fr hp vx h1)(hy:Out P base y fr h1 vy h2)(lx:ldAt x=some t)(ly:stAt y=some s)(ha:apB [(t,s)] fr=true) :
  ∃ h1',Out P base y fr hp vy h1'∧Out P base x fr h1' vx h2:=by
 obtain ⟨n,a,gx,ox⟩:=ldAt_inv lx
 obtain ⟨m,u,r,gy,oy⟩:=stAt_inv ly
 unfold Out at hx
 rw [gx] at hx
 unfold Out1 at hx
 rw [ox] at hx
 obtain ⟨e1,e2,rfl⟩:=hx
 refine⟨h2,hy,?_⟩
 unfold Out at hy ⊢
 rw [gy] at hy
 rw [gx]
 unfold Out1 at hy ⊢
 rw [oy] at hy
 rw [ox]
 simp only[evE,AX.ev] at hy
 simp only[apB,List.all_cons,List.all_nil,Bool.and_true] at ha
 generalize get fr s=S at ha hy
 cases S <;> try (cases hy; done)
 rename_i id i off
 dsimp only at hy
 obtain ⟨e,he,hy⟩:=Option.bind_eq_some_iff.1 hy
 split at hy
 case isFalse=>cases hy
 obtain ⟨z,hz,hy⟩:=Option.bind_eq_some_iff.1 hy
 obtain ⟨z',hz',hy⟩:=Option.map_eq_some_iff.1 hy
 simp only[Prod.mk.injEq] at hy
 obtain ⟨rfl,rfl⟩:=hy
 simp only[evR,noLoad,AX.ev] at e1 e2 ⊢
 generalize get fr t=T at ha e1 e2
 cases T <;> try (cases e1; done)
 ·rename_i id' i' off'
  dsimp only at ha e1 e2 ⊢
  have hne:id'≠id:=by simpa using ha
  rw [ent_set_ne hne]
  exact⟨e1,e2,trivial⟩
 ·exact⟨e1,rfl,trivial⟩
theorem framed_of{f:FuncId}{xs:List AV}(h:∀ H,Gen P f xs H v H):Framed P f xs hp v hp:=fun L _=>h _
end
end Go.Pv
