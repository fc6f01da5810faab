/- Part 4 of a proof that a step of one domain changes nothing of another: the machine of plain values, and what the program's functions do. -/
import Derived.Test.YtdgcdnnmodnkjaaGreatDoorG3
set_option linter.all false
set_option linter.unusedVariables false
set_option linter.unusedSectionVars false
set_option linter.unusedSimpArgs false
set_option linter.defProp false
namespace Go.Pv
section
variable {P:Program} {w w':World} {γ γ':Gh} {fr:Fr} {a:Act} {H H':Hp}
theorem setCells_same(g:Nat):∀(vs:List Value) (o:Nat) (w:World),(w.setCells g o vs).os=w.os ∧(w.setCells g o vs).tape=w.tape ∧(w.setCells g o vs).output=w.output ∧(w.setCells g o vs).heap.size=w.heap.size∧∀ b,b≠g →(w.setCells g o vs).heap[b]?=w.heap[b]?
 | [],o,w=>⟨rfl,rfl,rfl,rfl,fun _ _=>rfl⟩
 | v :: r,o,w=>by
  obtain ⟨h1,h2,h3,h4,h5⟩:=setCells_same g r (o+1) (w.setCell ⟨g,o,none⟩ v)
  refine⟨h1,h2,h3,by rw [World.setCells,h4]; simp [World.setCell],fun b hb=>?_⟩
  rw [World.setCells,h5 b hb]
  exact heap_setCell_other w _ b v hb
theorem setCell_blk{g o:Nat}{cs:Array Value}{t:TypeId}{fz:Nat × Nat}(hw:w.heap[g]?=some (.cells cs t fz))(v:Value):(w.setCell ⟨g,o,none⟩ v).heap[g]?=some (.cells (cs.setIfInBounds o v) t fz):=by
 rw [setCell_eq_setRow w g o cs t fz v hw]
 exact setRow_heap w g cs _ t _ hw
theorem setCells_blk{g:Nat}{t:TypeId}{fz:Nat × Nat}:∀(vs:List Value) (o:Nat) (w:World) (cs:Array Value),w.heap[g]?=some (.cells cs t fz)→o+vs.length≤cs.size →
  ∃ ds:Array Value,(w.setCells g o vs).heap[g]?=some (.cells ds t fz)∧ds.size=cs.size∧∀ i,ds[i]?=if o≤i∧i < o+vs.length then vs[i - o]? else cs[i]?
 | [],o,w,cs,hw,_=>⟨cs,hw,rfl,fun i=>by rw [if_neg (by simp only[List.length_nil]; omega)]⟩
 | v :: r,o,w,cs,hw,hl=>by
  have hlo:o < cs.size:=by simp at hl; omega
  obtain ⟨ds,h1,h2,h3⟩:=setCells_blk r (o+1) (w.setCell ⟨g,o,none⟩ v) (cs.setIfInBounds o v) (setCell_blk hw v) (by simp at hl ⊢; omega)
  refine⟨ds,h1,by rw [h2]; simp,fun i=>?_⟩
  rw [h3]
  by_cases hi:i=o
  ·subst hi
   rw [if_neg (by omega),if_pos (by simp),Nat.sub_self]
   simp [hlo]
  ·by_cases h4:o+1≤i∧i < o+1+r.length
   ·rw [if_pos h4,if_pos (by simp; omega),show i - o =(i - (o+1))+1 by omega]
    rfl
   ·rw [if_neg h4,if_neg (by simp; omega),Array.getElem?_setIfInBounds_ne (by omega)]
theorem old_set{id g:Nat}{ge:GE}(hm:γ.m id=some ge)(hst:ge.st=2)(hg:ge.blk=some g)(o:Nat)(vs:List Value):Old γ w (w.setCells g o vs):=by
 obtain ⟨h1,h2,h3,h4,h5⟩:=setCells_same g vs o w
 refine⟨h1,h2,h3,by rw [h4]; exact Nat.le_refl _,fun b _ hb=>h5 b fun e=>hb ?_⟩
 subst e
 exact⟨id,ge,hm,hst,hg⟩
theorem wr_live{e:Ent}{ge:GE}(h:EntOk w γ e ge)(hw:e.wr=true):ge.st=2:=by
 have:=(h.live (.inl hw)).1
 rw [hw] at this; exact this
theorem placed{e:Ent}{ge:GE}{g:Nat}(h:EntOk w γ e ge)(hw:e.wr=true)(hg:ge.blk=some g):∃ cs fz,w.heap[g]?=some (.cells cs e.ty fz)∧cs.size=ge.C * ge.sz ∧(fz.1=fz.2∨cs.size≤fz.1)∧e.es.length≤ge.C∧RowC w γ ge.sz e.es cs.toList:=by
 rcases (h.live (.inl hw)).2 with ⟨h1,_⟩ | ⟨g',cs,fr,h1,h2,h3,h4,h5,h6⟩
 ·rw [h1] at hg; cases hg
 ·rw [h1] at hg; cases hg
  exact⟨cs,fr,h2,h3,h4,h5,fun i x hx=>⟨(h6 i x hx).1,fun j y hy=>by
   obtain ⟨u,hu⟩:=(h6 i x hx).2 j y hy
   exact⟨u,by simpa using hu⟩⟩⟩
theorem blk_cell{g o:Nat}{cs:Array Value}{t:TypeId}{fz:Nat × Nat}(hw:w.heap[g]?=some (.cells cs t fz))(ho:o < cs.size):(w.cell? ⟨g,o,none⟩).isSome=true:=by simp [World.cell?,hw,ho]
theorem blk_froz{g o:Nat}{cs:Array Value}{t:TypeId}{fz:Nat × Nat}(hw:w.heap[g]?=some (.cells cs t fz))(hf:fz.1=fz.2∨cs.size≤fz.1)(ho:o < cs.size):w.frozen? ⟨g,o,none⟩=false:=by
 obtain ⟨lo,hi⟩:=fz
 simp only[World.frozen?,hw,Bool.and_eq_false_iff,decide_eq_false_iff_not]
 simp only at hf
 omega
theorem RowC.lay{sz k:Nat}{es fs:List AV}{cs ds vs:List Value}(h:RowC w γ sz es cs)(hf:RowC w γ sz fs vs)(hvs:vs.length=fs.length * sz)(hk:k≤es.length)
  (hd:∀ i,ds[i]?=if k * sz≤i∧i < k * sz+vs.length then vs[i - k * sz]? else cs[i]?):RowC w γ sz (es.take k ++(fs ++ es.drop (k+fs.length))) ds:=by
 intro i x hx
 have htk:(es.take k).length=k:=by simp; omega
 by_cases h1:i < k
 ·rw [List.getElem?_append_left (by omega),List.getElem?_take,if_pos h1] at hx
  refine⟨(h i x hx).1,fun j y hy=>?_⟩
  obtain ⟨u,h2,h3⟩:=(h i x hx).2 j y hy
  refine⟨u,?_,h3⟩
  have hj:j < sz:=by
   have:=(List.getElem?_eq_some_iff.1 hy).1
   rw [(h i x hx).1] at this; exact this
  have:(i+1) * sz≤k * sz:=Nat.mul_le_mul_right _ h1
  rw [Nat.add_mul,Nat.one_mul] at this
  rw [hd,if_neg (by omega)]; exact h2
 ·rw [List.getElem?_append_right (by omega),htk] at hx
  by_cases h2:i - k < fs.length
  ·rw [List.getElem?_append_left h2] at hx
   refine⟨(hf _ x hx).1,fun j y hy=>?_⟩
   obtain ⟨u,h3,h4⟩:=(hf _ x hx).2 j y hy
   refine⟨u,?_,h4⟩
   have e:i * sz+j=k * sz +((i - k) * sz+j):=by
    rw [← Nat.add_assoc,← Nat.add_mul]; congr 2; omega
   have hlt:=(List.getElem?_eq_some_iff.1 h3).1
   rw [hd,e,if_pos (by omega),Nat.add_sub_cancel_left]; exact h3
  ·rw [List.getElem?_append_right (by omega),List.getElem?_drop] at hx
   rw [show k+fs.length +(i - k - fs.length)=i by omega] at hx
   refine⟨(h i x hx).1,fun j y hy=>?_⟩
   obtain ⟨u,h3,h4⟩:=(h i x hx).2 j y hy
   refine⟨u,?_,h4⟩
   have:(k+fs.length) * sz≤i * sz:=Nat.mul_le_mul_right _ (by omega)
   rw [Nat.add_mul] at this
   rw [hd,if_neg (by omega)]; exact h3
theorem store_eff(hh:HRel γ H w)(hf:FrR w γ fr a.tmps){base:Nat}{r:Option Nat}{t:TypeId}{X V:Operand}{x:AV}(ht:tyOk P t=true)
  (h:evE base r fr H (.store (P.cellsOf t) (cx X) (cx V))=some (x,H')):∃ w' γ',(Instr.storeAt t (a.eval X) (a.eval V)).run P w=.ok () w'∧x=.undef∧HRel γ' H' w'∧Step γ γ' w w'∧Ids γ γ':=by
 simp only[evE] at h
 have sx:=cx_sim hf X
 have sv:=cx_sim hf V
 generalize (cx X).ev fr=XX at *
 cases XX <;> try (cases h; done)
 rename_i id i off
 obtain ⟨e,he,h⟩:=Option.bind_eq_some_iff.1 h
 split at h
 case isFalse=>cases h
 rename_i hwr
 obtain ⟨y,hy,h⟩:=Option.bind_eq_some_iff.1 h
 obtain ⟨y',hy',h⟩:=Option.map_eq_some_iff.1 h
 simp only[Prod.mk.injEq] at h
 obtain ⟨rfl,rfl⟩:=h
 generalize hA:a.eval X=ax at sx
 cases sx with
 | eptr _ _ _ g ge hm hg =>
 obtain ⟨ge',hm',hok⟩:=hh.ok id e he
 rw [hm] at hm'; cases hm'
 have hst:=wr_live hok hwr
 obtain ⟨cs,fz,hw,hs,hfz,hle,hrow⟩:=placed hok hwr hg
 unfold setCells at hy'
 split at hy'
 case isFalse=>cases hy'
 rename_i hc
 simp only[Bool.and_eq_true,beq_iff_eq] at hc
 obtain ⟨hones,hlen⟩:=hc
 obtain ⟨hvs,hcell⟩:=ones_cells sv hones
 have hilt:i < e.es.length:=(List.getElem?_eq_some_iff.1 hy).1
 have hyl:=(hrow i y hy).1
 have hbound:off+P.cellsOf t≤ge.sz∧y'.flat=y.flat.take off ++((cx V).ev fr).flat ++ y.flat.drop (off+P.cellsOf t):=by
  split at hy'
  ·rename_i cs'
   split at hy'
   case isFalse=>cases hy'
   cases hy'
   exact⟨by simpa [← hyl,AV.flat] using ‹_›,by simp [AV.flat]⟩
  ·rename_i hnot
   split at hy'
   case isFalse=>cases hy'
   rename_i h0
   subst h0
   split at hy'
   ·cases hy'
   ·rename_i hnv
    cases hy'
    have f1:y.flat=[y]:=flat_one fun cs e=>hnot cs e
    have f2:((cx V).ev fr).flat=[(cx V).ev fr]:=flat_one fun cs e=>hnv cs e
    rw [f2] at hlen
    simp only[List.length_cons,List.length_nil] at hlen
    rw [f1] at hyl
    simp only[List.length_cons,List.length_nil] at hyl
    refine⟨by omega,?_⟩
    rw [← hlen,f1,f2]; rfl
 obtain ⟨hoff,hflat⟩:=hbound
 have hin:(i+1) * ge.sz≤ge.C * ge.sz:=Nat.mul_le_mul_right _ (by omega)
 rw [Nat.add_mul,Nat.one_mul] at hin
 have hvl:(a.eval V).cells.toList.length=P.cellsOf t:=by simp [hvs,hlen]
 have hrun:=run_storeCells_cells (P:=P) g (i * ge.sz+off) (a.eval V).cells.toList 0 w (fun j hj=>blk_cell hw (by omega)) (fun j hj=>blk_froz hw hfz (by omega)) (fun v hv=>by
  obtain ⟨k,hk⟩:=List.mem_iff_getElem?.1 hv
  have hk':k <((cx V).ev fr).flat.length:=by
   have:=(List.getElem?_eq_some_iff.1 hk).1; omega
  obtain ⟨u,h1,_,h3⟩:=hcell k _ (List.getElem?_eq_getElem hk')
  rw [Array.getElem?_toList] at hk
  rw [h1] at hk; cases hk; exact h3)
 obtain ⟨ds,hd1,hd2,hd3⟩:=setCells_blk (a.eval V).cells.toList (i * ge.sz+off) w cs hw (by omega)
 have key:=hrel_upd (e':={ e with es:=e.es.set i y' }) hh he hm hst hg (old_set hm hst hg _ _) (setCells_same g (a.eval V).cells.toList (i * ge.sz+off) w).2.2.2.2 (fun ad=>by
  have:=RowC.ok (w:=w.setCells g (i * ge.sz+off) (a.eval V).cells.toList) (γ:=γ) (sz:=ge.sz) (C:=ge.C) (ty:=e.ty) (es:=e.es.set i y') (cs:=ds) ?_ hd1 (by rw [hd2,hs]) (by rw [hd2]; exact hfz) (by simpa using hle)
  ·obtain ⟨blk,sz,C,st⟩:=ge
   simp only at hg hst
   subst hg hst
   obtain ⟨ety,ees,ewr⟩:=e
   simp only at hwr
   subst hwr
   exact this
  ·intro j x hx
   by_cases hj:j=i
   ·subst hj
    rw [List.getElem?_set_self hilt] at hx
    cases hx
    refine⟨by rw [hflat]; simp; omega,fun k z hz=>?_⟩
    rw [hflat,List.append_assoc] at hz
    have htk:(y.flat.take off).length=off:=by simp; omega
    rw [Array.getElem?_toList,hd3]
    by_cases h1:k < off
    ·rw [List.getElem?_append_left (by omega),List.getElem?_take,if_pos h1] at hz
     obtain ⟨u,h2,h3,h4⟩:=(hrow j y hy).2 k z hz
     refine⟨u,?_,h3,h4.adv ad⟩
     rw [if_neg (by omega)]; simpa using h2
    ·rw [List.getElem?_append_right (by omega),htk] at hz
     by_cases h2:k - off <((cx V).ev fr).flat.length
     ·rw [List.getElem?_append_left h2] at hz
      obtain ⟨u,h3,h4,h5⟩:=hcell _ z hz
      refine⟨u,?_,h5,h4.adv ad⟩
      rw [if_pos (by omega),show j * ge.sz+k - (j * ge.sz+off)=k - off by omega]; simpa using h3
     ·rw [List.getElem?_append_right (by omega),List.getElem?_drop] at hz
      rw [show off+P.cellsOf t +(k - off - ((cx V).ev fr).flat.length)=k by omega] at hz
      obtain ⟨u,h2,h3,h4⟩:=(hrow j y hy).2 k z hz
      refine⟨u,?_,h3,h4.adv ad⟩
      rw [if_neg (by omega)]; simpa using h2
   ·rw [List.getElem?_set_ne (fun e=>hj e.symm)] at hx
    refine⟨(hrow j x hx).1,fun k z hz=>?_⟩
    obtain ⟨u,h2,h3,h4⟩:=(hrow j x hx).2 k z hz
    refine⟨u,?_,h3,h4.adv ad⟩
    have hk:k < ge.sz:=by
     have:=(List.getElem?_eq_some_iff.1 hz).1
     rw [(hrow j x hx).1] at this; exact this
    rw [Array.getElem?_toList] at h2 ⊢
    rw [hd3,if_neg ?_]
    ·exact h2
    ·rcases Nat.lt_or_ge j i with hji | hji
     ·have:(j+1) * ge.sz≤i * ge.sz:=Nat.mul_le_mul_right _ hji
      rw [Nat.add_mul,Nat.one_mul] at this
      omega
     ·have:(i+1) * ge.sz≤j * ge.sz:=Nat.mul_le_mul_right _ (by omega)
      rw [Nat.add_mul,Nat.one_mul] at this
      omega)
 refine⟨_,γ,?_,rfl,key.1,key.2,Ids.refl _⟩
 have hsz:¬(a.eval V).cells.size≠P.cellsOf t:=by rw [hvs,hlen]; simp
 simp only[Nat.add_zero] at hrun
 simp [Instr.storeAt,Instr.sureAddr,storeVar,run_sizeOf ht,hvs,hlen,hrun]
end
end Go.Pv
namespace Go.Pv
section
variable {P:Program} {w w':World} {γ γ':Gh} {fr:Fr} {a:Act} {H H':Hp}
def cellsAt(w:World)(b o:Nat):Nat→List Value
 | 0=>[]
 | n+1=>(w.cell? ⟨b,o,none⟩).getD Go.undef :: cellsAt w b (o+1) n
theorem cellsAt_len(b:Nat):∀(n o:Nat),(cellsAt w b o n).length=n
 | 0,_=>rfl
 | n+1,o=>by simp [cellsAt,cellsAt_len b n (o+1)]
theorem cellsAt_get(b:Nat):∀(n o j:Nat),j < n →(cellsAt w b o n)[j]?=some ((w.cell? ⟨b,o+j,none⟩).getD Go.undef)
 | n+1,o,0,_=>rfl
 | n+1,o,j+1,h=>by
  have:=cellsAt_get b n (o+1) j (by omega)
  simp only[cellsAt,List.getElem?_cons_succ,this]
  rw [show o+1+j=o +(j+1) by omega]
theorem lies_cells{sz b o:Nat}{es:List AV}(h:LiesL w γ sz es b o):RowC w γ sz es (cellsAt w b o (es.length * sz)) ∧
  (∀(j:Nat) (u:Value),(cellsAt w b o (es.length * sz))[j]?=some u→w.cell? ⟨b,o+j,none⟩=some u∧u.oneCell'=true):=by
 have hlt:∀ i j,i < es.length→j < sz→i * sz+j < es.length * sz:=fun i j hi hj=>by
  have:(i+1) * sz≤es.length * sz:=Nat.mul_le_mul_right _ hi
  rw [Nat.add_mul,Nat.one_mul] at this
  omega
 refine⟨fun i x hx=>⟨(h i x hx).1,fun j y hy=>?_⟩,fun k u hk=>?_⟩
 ·obtain ⟨u,h1,h2,h3⟩:=(h i x hx).2 j y hy
  have hi:i < es.length:=(List.getElem?_eq_some_iff.1 hx).1
  have hj:j < sz:=by
   have:=(List.getElem?_eq_some_iff.1 hy).1
   rw [(h i x hx).1] at this; exact this
  refine⟨u,?_,h2,h3⟩
  rw [cellsAt_get b _ _ _ (hlt i j hi hj),← Nat.add_assoc,h1]; rfl
 ·have hk':k < es.length * sz:=by
   have:=(List.getElem?_eq_some_iff.1 hk).1
   rw [cellsAt_len] at this; exact this
  have hpos:0 < sz:=by
   rcases Nat.eq_zero_or_pos sz with h0 | h0
   ·rw [h0] at hk'; omega
   ·exact h0
  have hi:k / sz < es.length:=Nat.div_lt_of_lt_mul (by rw [Nat.mul_comm]; exact hk')
  have hmod:=Nat.mod_lt k hpos
  have hdm:=Nat.div_add_mod k sz
  obtain ⟨hl,hc⟩:=h (k / sz) _ (List.getElem?_eq_getElem hi)
  obtain ⟨v,h1,h2,_⟩:=hc (k % sz) _ (List.getElem?_eq_getElem (by omega))
  rw [show o+k / sz * sz+k % sz=o+k by rw [Nat.mul_comm (k / sz)]; omega] at h1
  rw [cellsAt_get b _ _ _ hk',h1] at hk
  cases hk
  exact⟨h1,h2⟩
theorem src_of(hh:HRel γ H w){X:AV}{x:Value}{es:List AV}{sz:Nat}{tx:TypeId}(hk:(∃ e',P.underlying tx=some (.slice e'))∨P.underlying tx=some .string)(hx:Sim w γ X x)(h:elems H X=some es)(hsz:szOk sz X=true) :
  ∃ news,Src P sz tx x es.length news w∧RowC w γ sz es news∧news.length=es.length * sz:=by
 rcases elems_lies hh hx h with ⟨s,rfl,rfl⟩ | ⟨A,cap,rfl,hcap,hA⟩
 ·rw [str_inv hx]
  simp only[szOk,beq_iff_eq] at hsz
  subst hsz
  have hl:=byteCells_length ⟨s.toArray⟩
  have hsize:(⟨s.toArray⟩:ByteArray).size=s.length:=size_mk s
  refine⟨byteCells ⟨s.toArray⟩,⟨hk,fun _=>by simp [Builtin.lenOf,hsize],?_,?_,by rw [hl,hsize]; simp,fun u hu=>?_⟩,?_,by rw [hl,hsize]; simp⟩
  ·have:=firstCells_string (P:=P) ⟨s.toArray⟩ w
   rw [List.length_map]; rw [hsize] at this; exact this
  ·have:=firstCells_string (P:=P) ⟨s.toArray⟩ w.drew
   rw [List.length_map]; rw [hsize] at this; exact this
  ·obtain ⟨_,_,rfl⟩:=List.mem_map.1 hu; rfl
  ·intro i y hy
   rw [List.getElem?_map] at hy
   obtain ⟨b,hb,rfl⟩:=Option.map_eq_some_iff.1 hy
   refine⟨rfl,fun j y hj=>?_⟩
   cases j with
   | succ j=>simp [bv,AV.flat] at hj
   | zero =>
    simp only[bv,AV.flat,List.getElem?_cons_zero,Option.some.injEq] at hj
    subst hj
    exact⟨.int .u8 b.toNat,by simp [byteCells,hb],rfl,.int _ _⟩
 ·have nil:es=[]→∃ news,Src P sz tx (.slice A es.length cap) es.length news w∧RowC w γ sz es news∧news.length=es.length * sz:=by
   rintro rfl
   refine⟨[],⟨hk,fun _=>rfl,?_,?_,by simp,fun _ h=>by cases h⟩,fun i x hx=>by simp at hx,by simp⟩
   ·cases A with
    | none=>exact run_firstCells_none w sz 0 0 cap
    | some ad=>exact run_firstCells_some w sz 0 ad 0 cap [] (by simp) (by simp)
   ·cases A with
    | none=>exact run_firstCells_none w.drew sz 0 0 cap
    | some ad=>exact run_firstCells_some w.drew sz 0 ad 0 cap [] (by simp) (by simp)
  rcases hA with h0 | ⟨sz',b,o,rfl,hl,hX⟩
  ·exact nil h0
  ·by_cases h0:es=[]
   ·exact nil h0
   have he:sz'=sz:=by
    rcases hX with ⟨id,off,len,rfl⟩ | ⟨full,rfl⟩
    ·simpa [szOk] using hsz
    ·simp only[szOk,Bool.or_eq_true,beq_iff_eq,List.isEmpty_iff] at hsz
     exact hsz.resolve_right h0
   subst he
   obtain ⟨h1,h2⟩:=lies_cells hl
   have h3:∀(j:Nat) (u:Value),(cellsAt w b o (es.length * sz'))[j]?=some u→w.cell? ((⟨b,o,none⟩:Addr).add j)=some u:=fun j u hj=>by rw [Addr.add_lit]; exact(h2 j u hj).1
   exact⟨_,⟨hk,fun _=>rfl,run_firstCells_some w sz' es.length _ _ _ _ (cellsAt_len _ _ _) h3,run_firstCells_some w.drew sz' es.length _ _ _ _ (cellsAt_len _ _ _) (by simpa using h3),cellsAt_len _ _ _,fun u hu=>by
    obtain ⟨k,hk⟩:=List.mem_iff_getElem?.1 hu
    exact(h2 k u hk).2⟩,h1,cellsAt_len _ _ _⟩
theorem grown_row(w:World){sz need old:Nat}{e:TypeId}{z:Value}{es:List AV}{cs:List Value}(hz:z.cells.size=sz)(hr:RowC w γ sz es cs)(hl:cs.length=need * sz) :
  RowC w γ sz es (cs.toArray ++ Builtin.zeroCells z.cells (grownCap w need old e - need)).toList ∧(cs.toArray ++ Builtin.zeroCells z.cells (grownCap w need old e - need)).size=grownCap w need old e * sz:=by
 refine⟨by simpa using hr.more _,?_⟩
 have:=grownCap_ge w need old e
 simp only[Array.size_append,List.size_toArray,size_zeroCells,hz,hl,← Nat.add_mul]
 congr 1; omega
theorem old_grow(γ:Gh)(w:World)(o:Obj):Old γ w (w.drew.alloc o):=⟨rfl,rfl,rfl,by simp,fun b hb _=>heap_alloc_old w.drew o hb⟩
set_option maxHeartbeats 1000000 in
theorem append_eff(hh:HRel γ H w){base:Nat}{r:Option Nat}{t tx e ty:TypeId}{X Y:AX}{vx vy:Value}{x:AV}(hx:Sim w γ (X.ev fr) vx)(hy:Sim w γ (Y.ev fr) vy)
  (ht:P.underlying t=some (.slice e)) (hk:(∃ e',P.underlying tx=some (.slice e'))∨P.underlying tx=some .string) (hz:((zeroOf P e).map (·.cells.size))=some (P.cellsOf e)) (hby:P.bytesOf e≤1000)
  (h:evE base r fr H (.append e (P.cellsOf e) (appLim P e) X Y)=some (x,H')):EffV P γ w (Builtin.append_ #[t,tx] ty #[vx,vy]) x H':=by
 obtain ⟨z,hz1,hz2⟩:=Option.map_eq_some_iff.1 hz
 obtain ⟨i,hi,hzz,hci,hbi⟩:=info_of_zero hz1
 simp only[evE] at h
 split at h
 case isFalse=>cases h
 rename_i hso
 obtain ⟨ys,hys,h⟩:=Option.bind_eq_some_iff.1 h
 obtain ⟨news,hsrc,hrow,hnl⟩:=src_of hh hk hy hys hso
 have hlim:=appLim_le P e
 have h5:=appLim_fits hby
 rw [hbi] at h5
 have fits:∀ {n c:Nat},n≤appLim P e→c < n→Builtin.nextslicecap n c * i.bytes≤281474976710656:=fun {n c} hn hc =>
  growslice_fits hc (Nat.le_trans (Nat.mul_le_mul_right _ hn) h5)
 have grow:∀(A:Option Addr) (len cap:Nat) (es:List AV) (olds:List Value),vx=.slice A len cap→es.length=len →(Builtin.firstCells i.size len (.slice A len cap)).run P w.drew=.ok olds.toArray w.drew→RowC w γ (P.cellsOf e) es olds→olds.length=len * P.cellsOf e →
   cap < len+ys.length →(len+ys.length:Int)≤9223372036854775807→Builtin.nextslicecap (len+ys.length) cap * i.bytes≤281474976710656→newVec base r H (P.cellsOf e) e (es ++ ys)=some (x,H')→EffV P γ w (Builtin.append_ #[t,tx] ty #[vx,vy]) x H':=by
  rintro A len cap es olds rfl hel hold hro hol hc hle hfit hn
  rw [hci] at hsrc
  have hrun:=run_append_grow_src (P:=P) w t tx ty e i z ht hi hzz A len cap olds hold vy ys.length news hsrc hc (by omega) hfit
  have hg:=grown_row (γ:=γ) w (need:=len+ys.length) (old:=cap) (e:=e) (z:=z) (sz:=P.cellsOf e) hz2 (hro.app hrow (by rw [hol,hel])) (by rw [List.length_append,hol,hnl,← Nat.add_mul])
  refine row_new hh hn (C:=grownCap w (len+ys.length) cap e) (fz:=(0,0)) (by rw [List.length_append,hel]; exact hrun) (old_grow _ _ _) (fun b hb=>heap_alloc_old w.drew _ hb) (heap_alloc_new w.drew _) hg.2 (.inl rfl) ?_ hg.1
  rw [List.length_append,hel]
  exact grownCap_ge _ _ _ _
 cases hXX:X.ev fr with
 | sl sz' es full =>
  rw [hXX] at h hx
  cases es with
  | nil =>
   cases full with
   | false=>cases h
   | true =>
    dsimp only at h
    split at h
    case isFalse=>cases h
    rename_i hl
    cases hx with
    | sl _ _ _ _ _ _ _ hp=>simp at hp
    | sl0 _ _ A cap hcap =>
    rw [hcap rfl] at *
    by_cases h0:ys=[]
    ·subst h0
     have hn0:news=[]:=List.eq_nil_of_length_eq_zero (by rw [hnl]; simp)
     subst hn0
     refine row_none hh h (A:=A) ?_
     have hs1:=hsrc.cells
     have hs2:=hsrc.len
     simp only[List.length_nil] at hs1 hs2
     rw [hci] at hs1
     rcases hk with ⟨e',hk⟩ | hk <;> cases A <;> simp [Builtin.append_,run_underlying ht,run_underlying hk,sizeOf,typeInfo,hi,hs1,hs2,storeCells]
    ·have hpos:0 < ys.length:=List.length_pos_iff.2 h0
     refine grow A 0 0 [] [] rfl rfl ?_ (fun i x hx=>by simp at hx) (by simp) (by omega) (by omega) (fits (by omega) (by omega)) (by simpa using h)
     cases A with
     | none=>exact run_firstCells_none w.drew _ 0 0 0
     | some ad=>exact run_firstCells_some w.drew _ 0 ad 0 0 [] (by simp) (by simp)
  | cons y0 es =>
   cases full with
   | false=>cases h
   | true =>
    dsimp only at h
    split at h
    case isFalse =>
     split at h
     case isFalse=>cases h
     rename_i hs0
     obtain ⟨rfl,rfl⟩:=hs0
     have hn0:news=[]:=List.eq_nil_of_length_eq_zero (by rw [hnl]; simp)
     subst hn0
     simp only[Option.some.injEq,Prod.mk.injEq] at h
     obtain ⟨rfl,rfl⟩:=h
     have hx':=hx
     cases hx with
     | sl _ _ _ b off cap U hp hc hf hb hi' hzs hcell hs =>
     rw [hci] at hsrc
     have hrun:=run_append_room_src (P:=P) w t tx ty e i ht hi b off (es.length+1) cap vy 0 [] hsrc (by simpa using hc) (fun j hj=>by simp at hj) (fun j hj=>by simp at hj)
     exact EffV.same hh (by simpa [World.setCells] using hrun) hx'
    rename_i hl
    obtain ⟨rfl,hne,hl⟩:=hl
    have hpos:0 < ys.length:=List.length_pos_iff.2 hne
    generalize hEL:y0 :: es=EL at *
    have hEl:EL.length=es.length+1:=by rw [← hEL]; simp
    cases hx with
    | sl0=>simp at hEl
    | sl _ _ _ b off cap U hp hc hf hb hi' hzs hcell hs =>
    have hlies:LiesL w γ (P.cellsOf e) EL b off:=fun i y hy=>⟨hzs y (List.mem_of_getElem? hy),fun j z hz=>⟨U i j,(hcell i y j z hy hz).1,(hcell i y j z hy hz).2,(hs i y j z hy hz).ofBare⟩⟩
    obtain ⟨h1,h2⟩:=lies_cells hlies
    have hcapE:=hf rfl
    have h':newVec base r H (P.cellsOf e) e (EL ++ ys)=some (x,H'):=h
    refine grow _ EL.length cap EL _ rfl rfl (run_firstCells_some w.drew i.size _ _ _ _ (cellsAt w b off (EL.length * P.cellsOf e)) (by rw [cellsAt_len,hci]) ?_) h1 (cellsAt_len _ _ _) (by omega) (by omega) (fits (by omega) (by omega)) h'
    intro j u hj
    rw [Addr.add_lit]
    have:=(h2 j u hj).1
    simpa using this
 | vec id sz' off len =>
  rw [hXX] at h hx
  dsimp only at h
  obtain ⟨en,he,hq⟩:=Option.bind_eq_some_iff.1 h
  clear h
  split at hq
  case isFalse =>
   split at hq
   case isFalse=>cases hq
   rename_i hc
   obtain ⟨hwr,rfl,hty,rfl,hle⟩:=hc
   simp only[Option.some.injEq,Prod.mk.injEq] at hq
   obtain ⟨rfl,rfl⟩:=hq
   cases hx with
   | vec _ _ _ _ A cap ge hm hzs hlC hcC hN hA =>
   obtain ⟨ge',hm',hok⟩:=hh.ok id en he
   rw [hm] at hm'; cases hm'
   have hst:=wr_live hok hwr
   simp only[Nat.add_zero] at hcC
   cases hg:ge.blk with
   | none =>
    have hC0:=hN hg
    have hcap0:cap=0:=by omega
    have hlen0:len=0:=by omega
    have hes:en.es=[]:=by
     rcases hok with h | h
     ·have:=h.1; rw [hst] at this; cases this
     ·rcases h.2 with h2 | ⟨g',_,_,h2,_⟩
      ·exact h2.2.1
      ·rw [hg] at h2; cases h2
    have hes0:en.es.length=0:=by rw [hes]; rfl
    have hy0:ys=[]:=List.eq_nil_of_length_eq_zero (by omega)
    subst hy0 hcap0 hlen0
    have hn0:news=[]:=List.eq_nil_of_length_eq_zero (by rw [hnl]; simp)
    subst hn0
    have hid:H.set id (some { en with es:=en.es.take 0 ++([] ++ en.es.drop (0 +([]:List AV).length)) })=H:=by
     simp only[List.take_zero,List.nil_append,List.length_nil,Nat.add_zero,List.drop_zero]
     apply List.ext_getElem?
     intro j
     by_cases hj:j=id
     ·subst hj
      have hlt:=ent_lt he
      rw [List.getElem?_set_self hlt]
      unfold ent at he
      rw [List.getElem?_eq_getElem hlt] at he ⊢
      simpa using he.symm
     ·rw [List.getElem?_set_ne (fun e=>hj e.symm)]
    rw [hid]
    have hs1:=hsrc.cells
    have hs2:=hsrc.len
    simp only[List.length_nil] at hs1 hs2
    rw [hci] at hs1
    refine EffV.of (v:=.slice A 0 0) (γ':=γ) (w':=w) ?_ (.vec id _ 0 0 A 0 ge hm hzs (by omega) (by omega) hN (fun g h=>by rw [hg] at h; cases h)) ⟨hh,Step.refl _ _,Ids.refl _⟩
    rcases hk with ⟨e',hk⟩ | hk <;> cases A <;> simp [Builtin.append_,run_underlying ht,run_underlying hk,sizeOf,typeInfo,hi,hs1,hs2,storeCells]
   | some g =>
    have hAg:=hA g hg (.inr rfl)
    subst hAg
    obtain ⟨cs,fz,hw,hs,hfz,hle',hro⟩:=placed hok hwr hg
    rw [hzs] at hs hro
    simp only[Nat.zero_mul] at *
    have hfit:len * P.cellsOf e+news.length≤cs.size:=by
     rw [hs,hnl,← Nat.add_mul]
     exact Nat.mul_le_mul_right _ (by omega)
    have hsrc':=hsrc
    rw [hci] at hsrc'
    have hrun:=run_append_room_src (P:=P) w t tx ty e i ht hi g 0 len cap vy ys.length news hsrc' (by omega) (fun j hj=>blk_cell hw (by rw [← hci]; omega)) (fun j hj=>blk_froz hw hfz (by rw [← hci]; omega))
    simp only[Nat.zero_add,← hci] at hrun
    obtain ⟨ds,hd1,hd2,hd3⟩:=setCells_blk news (len * P.cellsOf e) w cs hw hfit
    have hlay:=RowC.lay (k:=len) (ds:=ds.toList) hro hrow hnl (by omega) (fun k=>by
     rw [Array.getElem?_toList,hd3,Array.getElem?_toList]; simp)
    have key:=hrel_upd (w':=w.setCells g (len * P.cellsOf e) news) (e':={ en with es:=en.es.take len ++(ys ++ en.es.drop (len+ys.length)) }) hh he hm hst hg (old_set hm hst hg _ _) (setCells_same g news _ w).2.2.2.2 (fun ad=>by
     have:=RowC.ok (hlay.adv ad) hd1 (C:=ge.C) (by rw [hd2,hs]) (by rw [hd2]; exact hfz) (by simp; omega)
     obtain ⟨blk,sz,C,st⟩:=ge
     simp only at hg hst hzs
     subst hg hst hzs
     obtain ⟨ety,ees,ewr⟩:=en
     simp only at hwr
     subst hwr
     exact this)
    exact EffV.of hrun (.vec id _ 0 _ _ cap ge hm hzs (by omega) (by omega) hN (fun g' h _=>by rw [hg] at h; cases h; simp)) ⟨key.1,key.2,Ids.refl _⟩
  rename_i hc
  obtain ⟨hwr,rfl,hty,rfl,rfl,hl⟩:=hc
  cases hx with
  | vec _ _ _ _ A cap ge hm hzs hlC hcC hN hA =>
  obtain ⟨ge',hm',hok⟩:=hh.ok id en he
  rw [hm] at hm'; cases hm'
  have hst:=wr_live hok hwr
  simp only[Nat.add_zero] at hcC
  unfold newVec at hq
  obtain ⟨⟨id',H1⟩,hn,hxe⟩:=Option.map_eq_some_iff.1 hq
  simp only[Prod.mk.injEq] at hxe
  obtain ⟨rfl,rfl⟩:=hxe
  by_cases hroom:en.es.length+ys.length≤cap
  ·-- in place
   have hst':ge={ ge with st:=2 }:=by rw [← hst]
   cases hg:ge.blk with
   | none =>
    have hC0:=hN hg
    have hcap0:cap=0:=by omega
    have he0:en.es=[]:=List.eq_nil_of_length_eq_zero (by omega)
    have hy0:ys=[]:=List.eq_nil_of_length_eq_zero (by omega)
    subst hy0 hcap0
    have hn0:news=[]:=List.eq_nil_of_length_eq_zero (by rw [hnl]; simp)
    subst hn0
    rw [he0] at hn hroom ⊢
    have key:=hrel_renew (w':=w) hh he hm hst hn (ge':=ge) hst ⟨rfl,rfl,rfl,Nat.le_refl _,fun _ _ _=>rfl⟩ (fun _ _ _=>rfl) (fun g h=>by rw [hg] at h; cases h) (fun _=>.inr ⟨by rw [hst]; rfl,.inl ⟨hg,rfl,hC0⟩⟩)
    refine EffV.of (v:=.slice A 0 0) ?_ (.vec id' _ 0 0 A 0 ge (Gh.add_same _ _ _) hzs (by omega) (by omega) hN (fun g h=>by rw [hg] at h; cases h)) key
    have hs1:=hsrc.cells
    have hs2:=hsrc.len
    simp only[List.length_nil] at hs1 hs2
    rw [hci] at hs1
    rcases hk with ⟨e',hk⟩ | hk <;> cases A <;> simp [Builtin.append_,run_underlying ht,run_underlying hk,sizeOf,typeInfo,hi,hs1,hs2,storeCells]
   | some g =>
    have hAg:=hA g hg (.inr rfl)
    subst hAg
    obtain ⟨cs,fz,hw,hs,hfz,hle,hro⟩:=placed hok hwr hg
    rw [hzs] at hs hro
    simp only[Nat.zero_mul] at *
    have hfit:en.es.length * P.cellsOf e+news.length≤cs.size:=by
     rw [hs,hnl,← Nat.add_mul]
     exact Nat.mul_le_mul_right _ (by omega)
    have hsrc':=hsrc
    rw [hci] at hsrc'
    have hrun:=run_append_room_src (P:=P) w t tx ty e i ht hi g 0 en.es.length cap vy ys.length news hsrc' hroom (fun j hj=>blk_cell hw (by rw [← hci]; omega)) (fun j hj=>blk_froz hw hfz (by rw [← hci]; omega))
    simp only[Nat.zero_add,← hci] at hrun
    obtain ⟨ds,hd1,hd2,hd3⟩:=setCells_blk news (en.es.length * P.cellsOf e) w cs hw hfit
    have hlay:=hro.lay hrow hnl (Nat.le_refl _) (ds:=ds.toList) (fun k=>by
     rw [Array.getElem?_toList,hd3,Array.getElem?_toList]; simp)
    rw [List.take_length,List.drop_eq_nil_of_le (by omega),List.append_nil] at hlay
    have key:=hrel_renew (w':=w.setCells g (en.es.length * P.cellsOf e) news) hh he hm hst hn (ge':=ge) hst (old_set hm hst hg _ _) (fun b _ hb=>(setCells_same g news _ w).2.2.2.2 b (fun e=>by subst e; rcases hb with hb | hb <;> exact hb hg)) (fun g' h=>.inr h) (fun ad=>by
     have:=RowC.ok (hlay.adv ad) hd1 (by rw [hd2,hs]) (by rw [hd2]; exact hfz) (by rw [List.length_append]; omega)
     rw [← hty] at this
     obtain ⟨blk,sz,C,st⟩:=ge
     simp only at hg hst hzs
     subst hg hst hzs
     exact this)
    refine EffV.of hrun ?_ key
    rw [List.length_append]
    exact .vec id' _ 0 _ _ cap ge (Gh.add_same _ _ _) hzs (by omega) (by omega) hN (fun g' h _=>by rw [hg] at h; cases h; simp)
  ·-- anew
   have hlen:en.es.length+ys.length≤appLim P e:=by omega
   rw [hci] at hsrc
   have cells:∃ olds:List Value,(Builtin.firstCells i.size en.es.length (.slice A en.es.length cap)).run P w.drew=.ok olds.toArray w.drew∧RowC w γ (P.cellsOf e) en.es olds∧olds.length=en.es.length * P.cellsOf e:=by
    by_cases h0:en.es=[]
    ·refine⟨[],?_,by rw [h0]; intro i x hx; simp at hx,by rw [h0]; simp⟩
     rw [h0]
     cases A with
     | none=>exact run_firstCells_none w.drew _ 0 0 cap
     | some ad=>exact run_firstCells_some w.drew _ 0 ad 0 cap [] (by simp) (by simp)
    ·cases hg:ge.blk with
     | none =>
      have:=hN hg
      exact absurd (List.eq_nil_of_length_eq_zero (by omega)) h0
     | some g =>
      have hAg:=hA g hg (.inr rfl)
      subst hAg
      obtain ⟨cs,fz,hw,hs,hfz,hle,hro⟩:=placed hok hwr hg
      have hlies:LiesL w γ (P.cellsOf e) en.es g 0:=fun i y hy=>by
       have:=hok.lies hg hy
       rw [hzs] at this
       refine⟨?_,by simpa using this⟩
       rw [← hzs]; exact(hro i y hy).1
      obtain ⟨h1,h2⟩:=lies_cells hlies
      refine⟨_,run_firstCells_some w.drew i.size _ _ _ _ (cellsAt w g 0 (en.es.length * P.cellsOf e)) (by rw [cellsAt_len,hci]) ?_,h1,cellsAt_len _ _ _⟩
      intro j u hj
      rw [Addr.add_lit]
      have:=(h2 j u hj).1
      simpa using this
   obtain ⟨olds,hold,hro,hol⟩:=cells
   have hrun:=run_append_grow_src (P:=P) w t tx ty e i z ht hi hzz A en.es.length cap olds hold vy ys.length news hsrc (by omega) (by omega) (fits hlen (by omega))
   have hg:=grown_row (γ:=γ) w (need:=en.es.length+ys.length) (old:=cap) (e:=e) (z:=z) (sz:=P.cellsOf e) hz2 (hro.app hrow (by rw [hol])) (by rw [List.length_append,hol,hnl,← Nat.add_mul])
   have key:=hrel_renew (w':=w.drew.alloc _) hh he hm hst hn (ge':=⟨some w.heap.size,P.cellsOf e,grownCap w (en.es.length+ys.length) cap e,2⟩) rfl (old_grow _ _ (.cells _ e)) (fun b hb _=>heap_alloc_old w.drew _ hb) (fun g' h=>.inl (by cases h; exact Nat.le_refl _)) (fun ad =>
    RowC.ok (fz:=(0,0)) (hg.1.adv ad) (heap_alloc_new w.drew _) hg.2 (.inl rfl) (by rw [List.length_append]; exact grownCap_ge _ _ _ _))
   refine EffV.of hrun ?_ key
   rw [List.length_append]
   exact .vec id' _ 0 _ _ _ _ (Gh.add_same _ _ _) rfl (by simpa using grownCap_ge w (en.es.length+ys.length) cap e) rfl (fun h=>by cases h) (fun g' h _=>by cases h; simp)
 | _=>rw [hXX] at h; cases h
theorem copy_eff(hh:HRel γ H w){base:Nat}{r:Option Nat}{t tx e ty:TypeId}{X Y:AX}{vx vy:Value}{x:AV}(hx:Sim w γ (X.ev fr) vx)(hy:Sim w γ (Y.ev fr) vy)
  (ht:P.underlying t=some (.slice e)) (hk:∃ e',P.underlying tx=some (.slice e')) (hsz:P.cellsOf e=1)
  (h:evE base r fr H (.copy (P.cellsOf e) X Y)=some (x,H')):EffV P γ w (Builtin.copy_ #[t,tx] ty #[vx,vy]) x H':=by
 have hie:∃ i,P.info? e=some i∧i.size=1:=by
  cases hi:P.info? e with
  | none=>simp [Program.cellsOf,hi] at hsz
  | some i=>exact⟨i,rfl,by simpa [Program.cellsOf,hi] using hsz⟩
 obtain ⟨i,hi,hi1⟩:=hie
 have hmap:(P.info? e).map (·.size)=some 1:=by simp [hi,hi1]
 simp only[evE] at h
 split at h
 case isFalse=>cases h
 rename_i hso
 obtain ⟨ys,hys,hq⟩:=Option.bind_eq_some_iff.1 h
 clear h
 rcases elems_lies hh hy hys with ⟨s,hYs,_⟩ | ⟨A,scap,rfl,hscap,hA⟩
 ·rw [hYs] at hso; exact absurd hso.2 (by simp [notStr])
 cases hXX:X.ev fr with
 | sl sz' es full =>
  rw [hXX] at hq hx
  cases es with
  | cons _ _=>cases hq
  | nil =>
   cases hq
   cases hx with
   | sl _ _ _ _ _ _ _ hp=>simp at hp
   | sl0 _ _ B cap hcap =>
   refine EffV.same hh (run_copy_none (P:=P) w t tx ty e B A 0 cap ys.length scap ht hmap (Nat.min_zero _)) (.int _ _)
 | vec id sz' off len =>
  rw [hXX] at hq hx
  dsimp only at hq
  obtain ⟨en,he,hq⟩:=Option.bind_eq_some_iff.1 hq
  split at hq
  case isFalse=>cases hq
  rename_i hc
  obtain ⟨hwr,hs1,hle⟩:=hc
  simp only[Option.some.injEq,Prod.mk.injEq] at hq
  obtain ⟨rfl,rfl⟩:=hq
  cases hx with
  | vec _ _ _ _ B cap ge hm hzs hlC hcC hN hB =>
  obtain ⟨ge',hm',hok⟩:=hh.ok id en he
  rw [hm] at hm'; cases hm'
  have hst:=wr_live hok hwr
  by_cases h0:min ys.length len=0
  ·refine EffV.of (run_copy_none (P:=P) w t tx ty e B A len cap ys.length scap ht hmap h0) (by rw [show min (ys.length:Int) (len:Int) =((0:Nat):Int) by omega]; exact .int _ _) (γ':=γ) ?_
   have htk:ys.take len=[]:=List.eq_nil_of_length_eq_zero (by rw [List.length_take]; omega)
   have hes:en.es.take off ++(ys.take len ++ en.es.drop (off+min ys.length len))=en.es:=by rw [htk,h0]; simp
   rw [hes]
   have:H.set id (some en)=H:=by
    apply List.ext_getElem?
    intro j
    by_cases hj:j=id
    ·subst hj
     have hlt:=ent_lt he
     rw [List.getElem?_set_self hlt]
     unfold ent at he
     rw [List.getElem?_eq_getElem hlt] at he ⊢
     simpa using he.symm
    ·rw [List.getElem?_set_ne (fun e=>hj e.symm)]
   rw [show({ ty:=en.ty,es:=en.es,wr:=en.wr }:Ent)=en from rfl,this]
   exact⟨hh,Step.refl _ _,Ids.refl _⟩
  ·have hyne:ys≠[]:=by rintro rfl; simp at h0
   obtain ⟨szY,b,o,hAe,hl,hY⟩:=hA.resolve_left hyne
   have hszY:szY=1:=by
    have:=hso.1
    rcases hY with ⟨id,off,len,hY⟩ | ⟨full,hY⟩ <;> rw [hY] at this
    ·rw [hsz] at this; simpa [szOk] using this
    ·simp only[szOk,Bool.or_eq_true,beq_iff_eq,List.isEmpty_iff] at this
     rw [hsz] at this
     exact this.resolve_right hyne
   subst hszY hAe
   have hls:LiesL w γ 1 (ys.take len) b o:=fun k y hy=>hl k y (by rw [List.getElem?_take] at hy; split at hy; exact hy; cases hy)
   obtain ⟨h1,h2⟩:=lies_cells hls
   have htl:(ys.take len).length=min ys.length len:=by rw [List.length_take]; exact Nat.min_comm _ _
   cases hg:ge.blk with
   | none=>have:=hN hg; omega
   | some g =>
    have hBg:=hB g hg (.inl (by omega))
    subst hBg
    obtain ⟨cs,fz,hw,hs,hfz,hle',hro⟩:=placed hok hwr hg
    rw [hzs,← hs1,hsz] at hs hro
    rw [← hs1,hsz,Nat.mul_one]
    rw [Nat.mul_one] at hs h1 h2
    have hlen:=cellsAt_len (w:=w) b (ys.take len).length o
    have hfit:off +(cellsAt w b o (ys.take len).length).length≤cs.size:=by rw [hlen,htl]; omega
    have hrun:=run_copy_cells (P:=P) w t tx ty e g off len cap ⟨b,o,none⟩ ys.length scap (cellsAt w b o (ys.take len).length) ht hmap (by rw [hlen,htl]) (fun j u hj=>by rw [Addr.add_lit]; exact(h2 j u hj).1)
     (fun j hj=>blk_cell hw (by omega)) (fun j hj=>blk_froz hw hfz (by omega)) (fun u hu=>by
       obtain ⟨k,hk⟩:=List.mem_iff_getElem?.1 hu
       exact(h2 k u hk).2)
    obtain ⟨ds,hd1,hd2,hd3⟩:=setCells_blk (cellsAt w b o (ys.take len).length) off w cs hw hfit
    have hlay:=RowC.lay (k:=off) (ds:=ds.toList) hro h1 (by rw [hlen,Nat.mul_one]) (by omega) (fun k=>by
     rw [Array.getElem?_toList,hd3,Array.getElem?_toList,Nat.mul_one]; simp)
    rw [htl] at hlay
    have key:=hrel_upd (w':=w.setCells g off (cellsAt w b o (ys.take len).length)) (e':={ en with es:=en.es.take off ++(ys.take len ++ en.es.drop (off+min ys.length len)) }) hh he hm hst hg (old_set hm hst hg _ _) (setCells_same g _ off w).2.2.2.2 (fun ad=>by
     have:=RowC.ok (hlay.adv ad) hd1 (C:=ge.C) (by rw [hd2,hs,Nat.mul_one]) (by rw [hd2]; exact hfz) (by simp; omega)
     obtain ⟨blk,sz,C,st⟩:=ge
     simp only at hg hst hzs
     rw [← hs1,hsz] at hzs
     subst hg hst hzs
     obtain ⟨ety,ees,ewr⟩:=en
     simp only at hwr
     subst hwr
     exact this)
    have e1:goInt (cellsAt w b o (ys.take len).length).length=.int .i64 (min (ys.length:Int) (len:Int)):=by
     rw [hlen,htl,show min (ys.length:Int) (len:Int) =((min ys.length len:Nat):Int) by omega]; rfl
    rw [e1] at hrun
    exact EffV.of hrun (.int _ _) ⟨key.1,key.2,Ids.refl _⟩
 | _=>rw [hXX] at hq; cases hq
end
end Go.Pv
