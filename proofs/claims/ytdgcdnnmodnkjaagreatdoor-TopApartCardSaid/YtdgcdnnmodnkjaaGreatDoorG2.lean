/- Part 2 of a proof that a step of one domain changes nothing of another: the machine of plain values, and what the program's functions do. -/
import Derived.Test.YtdgcdnnmodnkjaaGreatDoorG1
set_option linter.all false
set_option linter.unusedVariables false
set_option linter.unusedSectionVars false
set_option linter.unusedSimpArgs false
set_option linter.defProp false
namespace Go.Pv
section
variable {P:Program} {w:World} {γ:Gh} {fr:Fr} {a:Act}
theorem slicev_run{t el:TypeId}(ht:P.underlying t=some (.slice el))(hok:tyOk P el=true){X:AX}{lo hi mx:Option Operand}{z:AV}{x:Value}(hf:FrR w γ fr a.tmps)(hx:Sim w γ (X.ev fr) x)
  (he:evP fr (.slicev (P.cellsOf el) X (lo.map cx) (hi.map cx) (mx.map cx))=some z):∃ v,(Instr.sliceAt t x (lo.map a.eval) (hi.map a.eval) (mx.map a.eval)).run P w=.ok v w∧Sim w γ z v:=by
 simp only[evP] at he
 generalize X.ev fr=XX at *
 cases XX <;> try (cases he; done)
 ·rename_i sz es full
  dsimp only at he
  split at he
  case isFalse=>cases he
  rename_i hsz
  have hxx:∃ A len cap,x=.slice A len cap∧len=es.length∧es.length≤cap ∧(full=true→cap=es.length):=by
   cases hx with
   | sl0 sz full A cap h=>exact⟨A,0,cap,rfl,rfl,Nat.zero_le _,h⟩
   | sl _ _ _ b off cap U hp hc hf=>exact⟨_,_,cap,rfl,rfl,hc,hf⟩
  obtain ⟨A,len,cap,rfl,rfl,hcap,hfull⟩:=hxx
  have fin:∀ l h m full',l≤h→h≤es.length→h≤m →(full'=true→m=h) →
    (Instr.sliceBounds true es.length cap (lo.map a.eval) (hi.map a.eval) (mx.map a.eval)).run P w=.ok (l,h,m) w →
    ∃ v,(Instr.sliceAt t (.slice A es.length cap) (lo.map a.eval) (hi.map a.eval) (mx.map a.eval)).run P w=.ok v w∧Sim w γ (.sl sz ((es.take h).drop l) full') v:=by
   intro l h m full' h1 h2 h3 h4 e
   refine⟨.slice (if m=l then A else A.map (·.add (l * P.cellsOf el))) (h - l) (m - l),?_,?_⟩
   ·simp [Instr.sliceAt,Instr.slice,run_underlying ht,e,run_sizeOf hok]
   ·rcases hsz with hsz | hsz
    ·rw [hsz]; exact sl_cut hx h1 h2 h3 h4
    ·subst hsz
     have e1:h=0:=by simpa using h2
     subst e1
     have e2:l=0:=by omega
     subst e2
     simp only[List.take_nil,List.drop_nil,Nat.sub_zero]
     exact .sl0 _ _ _ _ (fun hh=>h4 hh)
  cases mx with
  | none =>
   simp only[Option.map_none] at he ⊢
   obtain ⟨hn,h1,he⟩:=Option.bind_eq_some_iff.1 he
   obtain ⟨ln,h2,he⟩:=Option.map_eq_some_iff.1 he
   subst he
   have hfin:∀ h',ln≤hn→hn≤es.length→_:=fun(_:True) h1 h2=>fin ln hn cap (full && decide (hn=es.length)) h1 h2 (by omega) (fun hh=>by simp at hh; rw [hfull hh.1,hh.2])
   have e:(Instr.sliceBounds true es.length cap (lo.map a.eval) (hi.map a.eval) none).run P w=.ok (ln,hn,cap) w∧ln≤hn∧hn≤es.length:=by
    unfold Instr.sliceBounds
    cases hi with
    | none =>
     simp [boundO] at h1
     subst h1
     cases lo with
     | none=>simp [boundO] at h2; subst h2; simp
     | some y =>
      have:=bound_le (cx_sim hf y) h2 (Nat.le_refl _) .sliceB (P:=P)
      simp [this.1,this.2]
    | some y' =>
     have h1':=bound_le (cx_sim hf y') h1 hcap .sliceAcap (P:=P)
     cases lo with
     | none=>simp [boundO] at h2; subst h2; simp [h1'.1,h1'.2]
     | some y =>
      have:=bound_le (cx_sim hf y) h2 (Nat.le_refl _) .sliceB (P:=P)
      simp [this.1,this.2,h1'.1,h1'.2]
   exact hfin trivial e.2.1 e.2.2 e.1
  | some y0 =>
   simp only[Option.map_some] at he ⊢
   obtain ⟨m,h0,he⟩:=Option.bind_eq_some_iff.1 he
   obtain ⟨hn,h1,he⟩:=Option.bind_eq_some_iff.1 he
   obtain ⟨ln,h2,he⟩:=Option.map_eq_some_iff.1 he
   subst he
   have h0':=bound_le (cx_sim hf y0) h0 hcap .slice3Acap (P:=P)
   cases hi with
   | none=>simp at h1
   | some y' =>
    simp only[Option.map_some,Option.bind_some] at h1
    have h1':=bound_le (cx_sim hf y') h1 (Nat.le_refl _) .slice3B (P:=P)
    have e:(Instr.sliceBounds true es.length cap (lo.map a.eval) (some (a.eval y')) (some (a.eval y0))).run P w=.ok (ln,hn,m) w∧ln≤hn:=by
     unfold Instr.sliceBounds
     cases lo with
     | none=>simp [boundO] at h2; subst h2; simp [h0'.1,h1'.1]
     | some y =>
      have:=bound_le (cx_sim hf y) h2 (Nat.le_refl _) .slice3C (P:=P)
      simp [this.1,this.2,h1'.1,h0'.1]
    exact fin ln hn m (decide (m=hn)) e.2 (by omega) h1'.2 (fun hh=>by simpa using hh) e.1
 ·rename_i id sz off len
  dsimp only at he
  split at he
  case isFalse=>cases he
  rename_i hsz
  have hxx:∃ A cap,x=.slice A len cap∧len≤cap:=by
   cases hx with
   | vec _ _ _ _ A cap ge hm hz hl hc hN hA=>exact⟨A,cap,rfl,by omega⟩
  obtain ⟨A,cap,rfl,hcap⟩:=hxx
  cases mx with
  | some y0 =>
   simp only[Option.map_some] at he ⊢
   obtain ⟨m,h0,he⟩:=Option.bind_eq_some_iff.1 he
   obtain ⟨hn,h1,he⟩:=Option.bind_eq_some_iff.1 he
   obtain ⟨ln,h2,he⟩:=Option.map_eq_some_iff.1 he
   subst he
   have h0':=bound_le (cx_sim hf y0) h0 hcap .slice3Acap (P:=P)
   cases hi with
   | none=>simp at h1
   | some y' =>
    simp only[Option.map_some,Option.bind_some] at h1
    have h1':=bound_le (cx_sim hf y') h1 (Nat.le_refl _) .slice3B (P:=P)
    have e:(Instr.sliceBounds true len cap (lo.map a.eval) (some (a.eval y')) (some (a.eval y0))).run P w=.ok (ln,hn,m) w∧ln≤hn:=by
     unfold Instr.sliceBounds
     cases lo with
     | none=>simp [boundO] at h2; subst h2; simp [h0'.1,h1'.1]
     | some y =>
      have:=bound_le (cx_sim hf y) h2 (Nat.le_refl _) .slice3C (P:=P)
      simp [this.1,this.2,h1'.1,h0'.1]
    refine⟨.slice (if m=ln then A else A.map (·.add (ln * P.cellsOf el))) (hn - ln) (m - ln),?_,.undef _⟩
    simp [Instr.sliceAt,Instr.slice,run_underlying ht,e.1,run_sizeOf hok]
  | none =>
  simp only[Option.map_none] at he ⊢
  obtain ⟨hn,h1,he⟩:=Option.bind_eq_some_iff.1 he
  obtain ⟨ln,h2,he⟩:=Option.map_eq_some_iff.1 he
  subst he
  have e:(Instr.sliceBounds true len cap (lo.map a.eval) (hi.map a.eval) none).run P w=.ok (ln,hn,cap) w∧ln≤hn∧hn≤len:=by
   unfold Instr.sliceBounds
   cases hi with
   | none =>
    simp [boundO] at h1
    subst h1
    cases lo with
    | none=>simp [boundO] at h2; subst h2; simp
    | some y =>
     have:=bound_le (cx_sim hf y) h2 (Nat.le_refl _) .sliceB (P:=P)
     simp [this.1,this.2]
   | some y' =>
    have h1':=bound_le (cx_sim hf y') h1 hcap .sliceAcap (P:=P)
    cases lo with
    | none=>simp [boundO] at h2; subst h2; simp [h1'.1,h1'.2]
    | some y =>
     have:=bound_le (cx_sim hf y) h2 (Nat.le_refl _) .sliceB (P:=P)
     simp [this.1,this.2,h1'.1,h1'.2]
  refine⟨.slice (if cap=ln then A else A.map (·.add (ln * P.cellsOf el))) (hn - ln) (cap - ln),?_,?_⟩
  ·simp [Instr.sliceAt,Instr.slice,run_underlying ht,e.1,run_sizeOf hok]
  ·rw [hsz]; exact vec_cut hx e.2.1 e.2.2
theorem minmax_run{X Y:AX}{mx:Bool}{z:AV}{x y:Value}(hx:Sim w γ (X.ev fr) x)(hy:Sim w γ (Y.ev fr) y)(ts:Array TypeId)(ty:TypeId)(h:evP fr (.minmax mx X Y)=some z) :
  ∃ v,(if mx then Builtin.max_ ts ty #[x,y] else Builtin.min_ ts ty #[x,y]).run P w=.ok v w∧Sim w γ z v:=by
 simp only[evP] at h
 generalize X.ev fr=XX at *
 generalize Y.ev fr=YY at *
 cases XX <;> try (cases h; done)
 cases YY <;> try (cases h; done)
 rename_i k n k' n'
 dsimp only at h
 split at h
 case isFalse=>cases h
 rename_i hk
 subst hk
 cases h
 cases int_inv hx
 cases int_inv hy
 cases mx
 ·refine⟨.int k (if n' < n then n' else n),by simp [Builtin.min_,Builtin.min2],?_⟩
  have e:(if n' < n then n' else n)=min n n':=by split <;> omega
  rw [e]; exact .int _ _
 ·refine⟨.int k (if n < n' then n' else n),by simp [Builtin.max_,Builtin.max2],?_⟩
  have e:(if n < n' then n' else n)=max n n':=by split <;> omega
  rw [e]; exact .int _ _
theorem nilck_run{X:AX}{z:AV}{x:Value}(hx:Sim w γ (X.ev fr) x)(h:evP fr (.nilck X)=some z) :
  z=X.ev fr ∧((∃ b,x=.pointer (some b))∨∃ f fs cs,x=.func (.func f) fs cs):=by
 simp only[evP] at h
 generalize X.ev fr=XX at *
 cases XX <;> try (cases h; done)
 ·cases h; cases hx with | eptr=>exact⟨rfl,.inl ⟨_,rfl⟩⟩
 ·cases h; cases hx with | rptr=>exact⟨rfl,.inl ⟨_,rfl⟩⟩
 ·dsimp only at h
  split at h
  ·rename_i hl
   cases h
   cases hx with
   | fn=>exact⟨rfl,.inr ⟨_,_,_,rfl⟩⟩
   | ifc t=>exact absurd hl (Nat.not_lt.2 (Nat.le_add_right _ _))
  ·cases h
theorem eq_nilp_run{t e:TypeId}(ht:P.underlying t=some (.pointer e))(A:Option Addr)(neg:Bool) :
  (binOp (if neg then .neq else .eql) t (.pointer A) (.pointer none)).run P w=.ok (.bool (if neg then A.isSome else A.isNone)) w:=by
 have h:∀ d,(Op.equalIn (d+1) t (.pointer A) (.pointer none)).run P w=.ok A.isNone w:=by
  intro d
  cases A <;> simp [Op.equalIn,run_underlying ht]
 cases neg
 ·simp only[Bool.false_eq_true,if_false,binOp]
  simp [Op.equal,Op.maxDepth,h 9999]
 ·simp only[if_true,binOp]
  simp [Op.equal,Op.maxDepth,h 9999]
  try (cases A <;> rfl)
theorem isnilp_run{t e:TypeId}(ht:P.underlying t=some (.pointer e)){X:AX}{neg:Bool}{z:AV}{x:Value}(hx:Sim w γ (X.ev fr) x)(h:evP fr (.isnilp neg X)=some z) :
  (∃ v,(binOp (if neg then .neq else .eql) t x (.pointer none)).run P w=.ok v w∧Sim w γ z v)∧∃ A,x=.pointer A:=by
 simp only[evP] at h
 generalize X.ev fr=XX at *
 cases XX <;> try (cases h; done)
 ·cases h
  cases hx with
  | eptr id i off g ge hm hg =>
   refine⟨⟨_,eq_nilp_run ht _ neg,?_⟩,_,rfl⟩
   cases neg <;> exact .bool _
 ·cases h
  cases hx with
  | rptr =>
   refine⟨⟨_,eq_nilp_run ht _ neg,?_⟩,_,rfl⟩
   cases neg <;> exact .bool _
 ·cases hx
  cases x <;> try (cases h; done)
  rename_i A
  cases A <;> cases h
  refine⟨⟨_,eq_nilp_run ht _ neg,?_⟩,_,rfl⟩
  cases neg <;> exact .bool _
theorem eq_nil_run{t e:TypeId}(ht:P.underlying t=some (.slice e))(A:Option Addr)(n c:Nat)(neg:Bool) :
  (binOp (if neg then .neq else .eql) t (.slice A n c) (.slice none 0 0)).run P w=.ok (.bool (if neg then A.isSome else A.isNone)) w:=by
 have h:∀ d,(Op.equalIn (d+1) t (.slice A n c) (.slice none 0 0)).run P w=.ok A.isNone w:=by
  intro d
  cases A <;> simp [Op.equalIn,run_underlying ht]
 cases neg
 ·simp only[Bool.false_eq_true,if_false,binOp]
  simp [Op.equal,Op.maxDepth,h 9999]
 ·simp only[if_true,binOp]
  simp [Op.equal,Op.maxDepth,h 9999]
  try (cases A <;> rfl)
theorem isnil_run{t e:TypeId}(ht:P.underlying t=some (.slice e)){X:AX}{neg:Bool}{z:AV}{x:Value}(hx:Sim w γ (X.ev fr) x)(h:evP fr (.isnil neg X)=some z) :
  (∃ v,(binOp (if neg then .neq else .eql) t x (.slice none 0 0)).run P w=.ok v w∧Sim w γ z v)∧∃ A n c,x=.slice A n c:=by
 simp only[evP] at h
 generalize X.ev fr=XX at *
 cases XX <;> try (cases h; done)
 ·rename_i sz es full
  cases hx with
  | sl0 sz full A cap hc =>
   cases h
   exact⟨⟨_,eq_nil_run ht A 0 cap neg,.anyb _⟩,_,_,_,rfl⟩
  | sl _ _ _ b off cap U hp hc hf hb him hz hcell hs =>
   cases es with
   | nil=>simp at hp
   | cons y ys =>
    cases h
    refine⟨⟨_,eq_nil_run ht _ _ cap neg,?_⟩,_,_,_,rfl⟩
    cases neg <;> exact .bool _
 ·rename_i id sz off len
  cases hx with
  | vec _ _ _ _ A cap ge hm hz hl hc hN hA =>
   refine⟨⟨_,eq_nil_run ht A len cap neg,?_⟩,_,_,_,rfl⟩
   dsimp only at h
   split at h
   ·rename_i hlen
    cases h
    cases hg:ge.blk with
    | none=>have:=hN hg; omega
    | some g =>
     rw [hA g hg (.inl hlen)]
     cases neg <;> exact .bool _
   ·cases h; exact .anyb _
theorem basic_inv{t:TypeId}{k:Nat}(h:basicT P t=some k):(k=0∧∃ kd,P.underlying t=some (.int kd)) ∨(k=1∧P.underlying t=some .string) ∨(k=2∧P.underlying t=some .bool):=by
 unfold basicT at h
 split at h
 ·cases h; exact .inl ⟨rfl,_,by assumption⟩
 ·cases h; exact .inr (.inl ⟨rfl,by assumption⟩)
 ·cases h; exact .inr (.inr ⟨rfl,by assumption⟩)
 ·cases h
theorem part_basic{t:TypeId}{k:Nat}(h:basicT P t=some k){cs:Array Value}{i:Nat}{v:Value}(hv:cs[i]?=some v):(part t cs i).run P w=.ok v w:=by
 have hnot:(Go.isAgg t).run P w=.ok false w:=by
  rcases basic_inv h with ⟨_,kd,hk⟩ | ⟨_,hk⟩ | ⟨_,hk⟩ <;> simp [Go.isAgg,run_underlying hk]
 simp [part,hnot,hv]
theorem eqFields_run(d:Nat){xs ys:Array Value}:∀(fs:List Field) (i:Nat) (XS YS:List AV) (b:Bool),plainL P i fs=true →
  (∀(j:Nat) (X:AV),XS[j]?=some X→∃ v,xs[i+j]?=some v∧Sim w γ X v) →(∀(j:Nat) (X:AV),YS[j]?=some X→∃ v,ys[i+j]?=some v∧Sim w γ X v) →
  eqCells (fs.map fun f=>(basicT P f.type).getD 3) XS YS=some b →(Op.eqFields (d+1) xs ys fs).run P w=.ok b w
 | [],i,XS,YS,b,_,_,_,h=>by
  cases XS <;> cases YS <;> simp [eqCells] at h
  subst h
  rfl
 | f :: fs,i,XS,YS,b,hp,sX,sY,h=>by
  simp only[plainL,Bool.and_eq_true,bne_iff_ne,ne_eq,beq_iff_eq] at hp
  obtain ⟨h1,h2,h3,h4⟩:=hp
  obtain ⟨kd,h3⟩:=Option.isSome_iff_exists.1 h3
  simp only[List.map_cons,h3,Option.getD_some] at h
  match XS,YS with
  | [],_=>rcases basic_inv h3 with ⟨rfl,_⟩ | ⟨rfl,_⟩ | ⟨rfl,_⟩ <;> simp [eqCells] at h
  | X :: XS,[]=>rcases basic_inv h3 with ⟨rfl,_⟩ | ⟨rfl,_⟩ | ⟨rfl,_⟩ <;> cases X <;> simp [eqCells] at h
  | X :: XS,Y :: YS =>
  obtain ⟨vx,hvx,hsx⟩:=sX 0 X rfl
  obtain ⟨vy,hvy,hsy⟩:=sY 0 Y rfl
  have ih:=fun b h=>eqFields_run d fs (i+1) XS YS b h4
   (fun j Z hj=>by have:=sX (j+1) Z (by simpa using hj); rwa [show i+1+j=i +(j+1) by omega])
   (fun j Z hj=>by have:=sY (j+1) Z (by simpa using hj); rwa [show i+1+j=i +(j+1) by omega]) h
  have px:=part_basic (P:=P) (w:=w) h3 (cs:=xs) (i:=i) hvx
  have py:=part_basic (P:=P) (w:=w) h3 (cs:=ys) (i:=i) hvy
  simp only[Op.eqFields,h1,ne_eq,not_false_eq_true,if_true,Sem.run_bind,h2,px,py,Result.andThen_ok]
  have key:∀(e:Bool),(Op.equalIn (d+1) f.type vx vy).run P w=.ok e w→∀ c,eqCells (fs.map fun f=>(basicT P f.type).getD 3) XS YS=some c→b =(e && c)→
    ((Op.equalIn (d+1) f.type vx vy).run P w).andThen (fun r w'=>((if (!r)=true then pure false else Op.eqFields (d+1) xs ys fs:Sem Bool)).run P w')=.ok b w:=by
   intro e he c hc hb
   rw [he,Result.andThen_ok]
   cases e
   ·simp [hb]
   ·simp only[Bool.not_true,Bool.false_eq_true,if_false]
    rw [ih c hc,hb,Bool.true_and]
  rcases basic_inv h3 with ⟨rfl,k,hk⟩ | ⟨rfl,hk⟩ | ⟨rfl,hk⟩
  ·cases X <;> try (simp [eqCells] at h; done)
   cases Y <;> try (simp [eqCells] at h; done)
   simp only[eqCells] at h
   split at h
   case isFalse=>cases h
   rename_i hkk
   subst hkk
   obtain ⟨c,hc,hb⟩:=Option.map_eq_some_iff.1 h
   cases int_inv hsx; cases int_inv hsy
   exact key _ (run_equalIn_int w d f.type _ _ _ _ hk) c hc hb.symm
  ·cases X <;> try (simp [eqCells] at h; done)
   cases Y <;> try (simp [eqCells] at h; done)
   simp only[eqCells] at h
   obtain ⟨c,hc,hb⟩:=Option.map_eq_some_iff.1 h
   cases str_inv hsx; cases str_inv hsy
   refine key _ ((run_equalIn_string w d f.type _ _ hk).trans ?_) c hc hb.symm
   simp
  ·cases X <;> try (simp [eqCells] at h; done)
   cases Y <;> try (simp [eqCells] at h; done)
   simp only[eqCells] at h
   obtain ⟨c,hc,hb⟩:=Option.map_eq_some_iff.1 h
   cases bool_inv hsx; cases bool_inv hsy
   exact key _ (run_equalIn_bool' w d f.type _ _ hk) c hc hb.symm
theorem eqS_run{t:TypeId}{fs:Array Field}(ht:P.underlying t=some (.struct fs))(hp:plainS P t fs=true){X Y:AX}{neg:Bool}{z:AV}{x y:Value}(o1 o2:Operand)(hx:Sim w γ (X.ev fr) x)(hy:Sim w γ (Y.ev fr) y)
  (h:evP fr (.eqS neg (fs.toList.map fun f=>(basicT P f.type).getD 3) X Y)=some z) :
  ∃ v,(do eqGuard (if neg then .neq else .eql) t o1 o2 x y; binOp (if neg then .neq else .eql) t x y:Sem Value).run P w=.ok v w∧Sim w γ z v:=by
 simp only[plainS,Bool.and_eq_true,Bool.not_eq_true'] at hp
 obtain ⟨p1,p2,p3⟩:=hp
 simp only[evP] at h
 generalize X.ev fr=XX at *
 generalize Y.ev fr=YY at *
 cases XX <;> try (cases h; done)
 cases YY <;> try (cases h; done)
 rename_i XS YS
 obtain ⟨b,hb,h⟩:=Option.map_eq_some_iff.1 h
 subst h
 obtain ⟨xs,rfl,lx,sx⟩:=agg_inv hx
 obtain ⟨ys,rfl,ly,sy⟩:=agg_inv hy
 have hfs:P.fieldsOf t=fs:=by simp [Program.fieldsOf,ht]
 have conv:∀ {Z:List AV} {zs:Array Value},Z.length=zs.size →(∀(i:Nat) (x:AV) (u:Value),Z[i]?=some x→zs[i]?=some u→Sim w γ x u) →
   ∀(j:Nat) (X:AV),Z[j]?=some X→∃ v,zs[0+j]?=some v∧Sim w γ X v:=by
  intro Z zs hl hs j X hj
  have hlt:=(List.getElem?_eq_some_iff.1 hj).1
  have hc:zs[j]?=some (zs[j]'(by omega)):=Array.getElem?_eq_getElem (by omega)
  exact⟨_,by rw [Nat.zero_add]; exact hc,hs j X _ hj hc⟩
 have he:=eqFields_run (P:=P) 9998 fs.toList 0 XS YS b p3 (conv lx sx) (conv ly sy) hb
 have hq:(Op.equalIn 10000 t (.agg xs) (.agg ys)).run P w=.ok b w:=(run_equalIn_struct w 9999 t xs ys (by rw [hfs]; exact ht) p1).trans (by rw [hfs]; exact he)
 cases neg
 ·refine⟨.bool b,?_,.bool _⟩
  simp only[Bool.false_eq_true,if_false,Sem.run_bind,run_eqGuard_agg w _ t o1 o2 xs ys p2,Result.andThen_ok,run_eql_struct,hq]
 ·refine⟨.bool (!b),?_,.bool _⟩
  simp only[if_true,Sem.run_bind,run_eqGuard_agg w _ t o1 o2 xs ys p2,Result.andThen_ok,run_neq_struct,hq]
end
end Go.Pv
namespace Go.Pv
section
variable {P:Program} {w:World} {γ:Gh} {fr:Fr} {a:Act}
theorem one_val{x:AV}{v:Value}(h:Sim w γ x v)(ho:x.one=true):v.oneCell'=true∧v.cells=#[v]:=by
 cases h <;> simp_all [AV.one,Value.oneCell',Value.cells]
 split at ho <;> simp_all
theorem ones_cells{x:AV}{v:Value}(h:Sim w γ x v)(ho:x.ones=true):v.cells.size=x.flat.length ∧
  ∀(j:Nat) (y:AV),x.flat[j]?=some y→∃ u,v.cells[j]?=some u∧Sim w γ y u∧u.oneCell'=true:=by
 unfold AV.ones at ho
 by_cases hx:∃ xs,x=.agg xs
 ·obtain ⟨xs,rfl⟩:=hx
  obtain ⟨cs,rfl,hz,hs⟩:=agg_inv h
  simp only[AV.flat] at ho ⊢
  refine⟨by simp [Value.cells,hz],fun j y hj=>?_⟩
  have hlt:=(List.getElem?_eq_some_iff.1 hj).1
  have hc:cs[j]?=some (cs[j]'(by omega)):=Array.getElem?_eq_getElem (by omega)
  have hsj:=hs j y _ hj hc
  exact⟨_,hc,hsj,(one_val hsj (List.all_eq_true.1 ho y (List.mem_of_getElem? hj))).1⟩
 ·have hf:x.flat=[x]:=by
   cases x <;> first | rfl | exact absurd ⟨_,rfl⟩ hx
  rw [hf] at ho ⊢
  simp only[List.all_cons,List.all_nil,Bool.and_true] at ho
  obtain ⟨h1,h2⟩:=one_val h ho
  refine⟨by rw [h2]; rfl,fun j y hj=>?_⟩
  match j with
  | 0=>simp at hj; subst hj; exact⟨v,by rw [h2]; rfl,h,h1⟩
  | j+1=>simp at hj
def CellsR(w:World)(γ:Gh)(xs:List AV)(cs:Array Value):Prop:=cs.size=xs.length∧∀(i:Nat) (x:AV),xs[i]?=some x→∃ u,cs[i]?=some u∧Sim w γ x u∧u.oneCell'=true
theorem foldl_set_get(off:Nat):∀(l:List Value) (s:Nat) (cs:Array Value),off+s+l.length≤cs.size →
  ((l.zipIdx s).foldl (fun cs p=>cs.setIfInBounds (off+p.2) p.1) cs).size=cs.size ∧
  ∀ i,((l.zipIdx s).foldl (fun cs p=>cs.setIfInBounds (off+p.2) p.1) cs)[i]?=if off+s≤i∧i < off+s+l.length then l[i - (off+s)]? else cs[i]?
 | [],s,cs,_=>⟨rfl,fun i=>by simp; omega⟩
 | x :: l,s,cs,h=>by
  simp only[List.zipIdx_cons,List.foldl_cons,List.length_cons] at h ⊢
  obtain ⟨h1,h2⟩:=foldl_set_get off l (s+1) (cs.setIfInBounds (off+s) x) (by simp; omega)
  refine⟨by rw [h1]; simp,fun i=>?_⟩
  rw [h2 i]
  by_cases hi:i=off+s
  ·subst hi
   rw [if_neg (by omega),if_pos (by omega)]
   simp [Array.getElem?_setIfInBounds]
   omega
  ·by_cases hr:off +(s+1)≤i∧i < off +(s+1)+l.length
   ·rw [if_pos hr,if_pos (by omega)]
    rw [show i - (off+s) =(i - (off +(s+1)))+1 by omega,List.getElem?_cons_succ]
   ·rw [if_neg hr,if_neg (by omega),Array.getElem?_setIfInBounds_ne (by omega)]
theorem foldl_set_arr(off:Nat)(v cs:Array Value)(h:off+v.size≤cs.size) :
  (v.zipIdx.foldl (fun cs p=>cs.setIfInBounds (off+p.2) p.1) cs).size=cs.size ∧
  ∀ i,(v.zipIdx.foldl (fun cs p=>cs.setIfInBounds (off+p.2) p.1) cs)[i]?=if off≤i∧i < off+v.size then v[i - off]? else cs[i]?:=by
 have:=foldl_set_get off v.toList 0 cs (by simpa using h)
 rw [← Array.foldl_toList,Array.toList_zipIdx]
 simpa using this
theorem fill_run(place:Nat→Option (Nat × Nat)):∀(ps:List (Nat × Value)) (qs:List (Nat × Nat × AV)) (xs:List AV) (cs:Array Value) (zs:List AV),
  ps.length=qs.length →(∀(i:Nat) (p:Nat × Value) (q:Nat × Nat × AV),ps[i]?=some p→qs[i]?=some q→place p.1=some (q.1,q.2.1)∧Sim w γ q.2.2 p.2) →
  CellsR w γ xs cs→buildC xs qs=some zs→∃ ds,Instr.fill place cs ps=some ds∧CellsR w γ zs ds
 | [],[],xs,cs,zs,_,_,hr,h=>by cases h; exact⟨cs,rfl,hr⟩
 | (i,v) :: ps,(off,n,V) :: qs,xs,cs,zs,hl,hp,hr,h=>by
  obtain ⟨hp0,hs⟩:=hp 0 _ _ rfl rfl
  dsimp only at hp0 hs
  simp only[buildC] at h
  split at h
  case isFalse=>cases h
  rename_i hc
  obtain ⟨ho,hn,hle⟩:=hc
  obtain ⟨hsz,hcell⟩:=ones_cells hs ho
  simp only[Instr.fill,hp0]
  have hcs0:=hr.1
  rw [if_neg (by simp only[Bool.or_eq_true,decide_eq_true_eq,not_or]; omega)]
  have hcs:=hr.1
  obtain ⟨f1,f2⟩:=foldl_set_arr off v.cells cs (by omega)
  refine fill_run place ps qs _ _ zs (by simpa using hl) (fun j p q h1 h2=>hp (j+1) p q (by simpa using h1) (by simpa using h2)) ⟨?_,?_⟩ h
  ·rw [f1,hr.1]; simp; omega
  ·intro j x hx
   rw [f2 j]
   have htk:(xs.take off).length=off:=by simp; omega
   by_cases h1:j < off
   ·rw [List.getElem?_append_left (by omega),List.getElem?_take,if_pos h1] at hx
    rw [if_neg (by omega)]
    exact hr.2 j x hx
   ·rw [List.getElem?_append_right (by omega),htk] at hx
    by_cases h2:j - off < V.flat.length
    ·rw [List.getElem?_append_left h2] at hx
     rw [if_pos (by omega)]
     exact hcell _ _ hx
    ·rw [List.getElem?_append_right (by omega),List.getElem?_drop] at hx
     rw [if_neg (by omega)]
     have:=hr.2 _ _ hx
     rwa [show off+n +(j - off - V.flat.length)=j by omega] at this
 | [],_ :: _,_,_,_,hl,_,_,_=>by simp at hl
 | _ :: _,[],_,_,_,hl,_,_,_=>by simp at hl
theorem places_run:∀(fs:List Field),(fs.all fun f=>tyOk P f.type)=true →(fs.mapM fun f=>Prod.mk f.offset <$> sizeOf f.type).run P w=.ok (fs.map fun f=>(f.offset,P.cellsOf f.type)) w
 | [],_=>rfl
 | f :: fs,h=>by
  simp only[List.all_cons,Bool.and_eq_true] at h
  simp [List.mapM_cons,run_sizeOf h.1,places_run fs h.2]
theorem ofVals(zs:List Value)(h:zs.all Value.oneCell'=true):CellsR w γ (zs.map ofVal) zs.toArray :=
 ⟨by simp,fun i x hx=>by
  rw [List.getElem?_map] at hx
  obtain ⟨v,hv,rfl⟩:=Option.map_eq_some_iff.1 hx
  exact⟨v,by simpa using hv,ofVal_sim w γ v,List.all_eq_true.1 h v (List.mem_of_getElem? hv)⟩⟩
theorem CellsR.agg{xs:List AV}{cs:Array Value}(h:CellsR w γ xs cs):Sim w γ (.agg xs) (.agg cs) :=
 .agg xs cs h.1.symm fun i x v hx hv=>by
  obtain ⟨u,hu,hs,_⟩:=h.2 i x hx
  rw [hv] at hu; cases hu; exact hs
theorem zero_run{t:TypeId}{z:Value}(h:zeroOf P t=some z):(zeroValue t).run P w=.ok z w:=by
 unfold zeroOf at h
 obtain ⟨i,hi,hz⟩:=Option.bind_eq_some_iff.1 h
 simp [zeroValue,typeInfo,hi,hz]
theorem oneV_eq(v:Value):oneV v=v.oneCell':=by cases v <;> rfl
theorem buildS_run{t:TypeId}{fs:Array Field}{z:Array Value}(ht:P.underlying t=some (.struct fs))(hz:zeroOf P t=some (.agg z))(hone:z.all oneV=true)(hok:(fs.all fun f=>tyOk P f.type)=true)
  (hf:FrR w γ fr a.tmps) {parts:Array (Nat × Operand)} (hin:(parts.all fun p=>decide (p.1 < fs.size))=true) {y:AV}
  (h:evP fr (.build (z.toList.map ofVal) (parts.toList.map fun p=>((fs.getD p.1 default).offset,P.cellsOf (fs.getD p.1 default).type,cx p.2)))=some y) :
  ∃ v,(Instr.build t (parts.map fun p=>(p.1,a.eval p.2))).run P w=.ok v w∧Sim w γ y v:=by
 simp only[evP] at h
 obtain ⟨zs,hzs,h⟩:=Option.map_eq_some_iff.1 h
 subst h
 rw [List.map_map] at hzs
 have hpl:=places_run (P:=P) (w:=w) fs.toList (by simpa using hok)
 have hone':z.toList.all Value.oneCell'=true:=by
  rw [List.all_eq_true]
  intro x hx
  rw [← oneV_eq]
  exact(Array.all_eq_true_iff_forall_mem.1 hone) x (by simpa using hx)
 obtain ⟨ds,hds,hr⟩:=fill_run (w:=w) (γ:=γ) (fun i=>(fs.map fun f=>(f.offset,P.cellsOf f.type))[i]?) (parts.toList.map fun p=>(p.1,a.eval p.2)) _ (z.toList.map ofVal) z zs (by simp) (by
  intro i p q h1 h2
  rw [List.getElem?_map] at h1 h2
  obtain ⟨p0,hp0,rfl⟩:=Option.map_eq_some_iff.1 h1
  rw [hp0] at h2
  simp only[Option.map_some,Option.some.injEq] at h2
  subst h2
  have hlt:p0.1 < fs.size:=by
   have:=(Array.all_eq_true_iff_forall_mem.1 hin) p0 (by simpa using List.mem_of_getElem? hp0)
   simpa using this
  refine⟨?_,cx_sim hf _⟩
  simp [Function.comp,hlt]) (by simpa using ofVals (w:=w) (γ:=γ) z.toList hone') hzs
 refine⟨.agg ds,?_,hr.agg⟩
 simp only[Instr.build,Sem.run_bind,zero_run hz,Result.andThen_ok,run_underlying ht,Value.cells]
 simp only[Array.mapM_eq_mapM_toList,bind_pure_comp,Sem.run_map,hpl,Result.andThen_ok]
 have e:(fun(x:Nat)=>(List.map (fun f=>(f.offset,P.cellsOf f.type)) fs.toList).toArray[x]?) =(fun(i:Nat)=>(fs.map fun f=>(f.offset,P.cellsOf f.type))[i]?):=by
  funext i; simp
 rw [e,Array.toList_map,hds]
 rfl
theorem buildA_run{t e:TypeId}{n:Nat}{z:Array Value}(ht:P.underlying t=some (.array n e))(hz:zeroOf P t=some (.agg z))(hone:z.all oneV=true)(hok:tyOk P e=true)
  (hf:FrR w γ fr a.tmps) {parts:Array (Nat × Operand)} {y:AV}
  (h:evP fr (.build (z.toList.map ofVal) (parts.toList.map fun p=>(p.1 * P.cellsOf e,P.cellsOf e,cx p.2)))=some y) :
  ∃ v,(Instr.build t (parts.map fun p=>(p.1,a.eval p.2))).run P w=.ok v w∧Sim w γ y v:=by
 simp only[evP] at h
 obtain ⟨zs,hzs,h⟩:=Option.map_eq_some_iff.1 h
 subst h
 rw [List.map_map] at hzs
 have hone':z.toList.all Value.oneCell'=true:=by
  rw [List.all_eq_true]
  intro x hx
  rw [← oneV_eq]
  exact(Array.all_eq_true_iff_forall_mem.1 hone) x (by simpa using hx)
 obtain ⟨ds,hds,hr⟩:=fill_run (w:=w) (γ:=γ) (fun i=>some (i * P.cellsOf e,P.cellsOf e)) (parts.toList.map fun p=>(p.1,a.eval p.2)) _ (z.toList.map ofVal) z zs (by simp) (by
  intro i p q h1 h2
  rw [List.getElem?_map] at h1 h2
  obtain ⟨p0,hp0,rfl⟩:=Option.map_eq_some_iff.1 h1
  rw [hp0] at h2
  simp only[Option.map_some,Option.some.injEq] at h2
  subst h2
  exact⟨rfl,cx_sim hf _⟩) (by simpa using ofVals (w:=w) (γ:=γ) z.toList hone') hzs
 refine⟨.agg ds,?_,hr.agg⟩
 simp only[Instr.build,Sem.run_bind,zero_run hz,Result.andThen_ok,run_underlying ht,Value.cells,run_sizeOf hok]
 rw [Array.toList_map,hds]
 rfl
theorem mkfn_sim{f:FuncId}{caps:Array Operand}(hl:f < 1000000)(hf:FrR w γ fr a.tmps):Sim w γ (.fn f ((caps.toList.map cx).map (·.ev fr))) (.func (.func f) #[] (caps.map a.eval)):=by
 refine .fn _ _ _ _ _ (.inl ⟨rfl,rfl,hl⟩) (by simp) fun i x v hx hv=>?_
 rw [Array.empty_append] at hv
 rw [List.map_map,List.getElem?_map] at hx
 obtain ⟨o,ho,rfl⟩:=Option.map_eq_some_iff.1 hx
 rw [Array.getElem?_map] at hv
 have:caps[i]?=some o:=by simpa using ho
 rw [this] at hv
 cases hv
 exact cx_sim hf o
theorem bound_sim{f:FuncId}{caps:Array Operand}(hl:f < 1000000)(hf:FrR w γ fr a.tmps):Sim w γ (.fn (f+1000000) ((caps.toList.map cx).map (·.ev fr))) (.func (.func f) (caps.map a.eval) #[]):=by
 refine .fn _ _ _ _ _ (.inr ⟨rfl,rfl,hl⟩) (by simp) fun i x v hx hv=>?_
 rw [Array.append_empty] at hv
 rw [List.map_map,List.getElem?_map] at hx
 obtain ⟨o,ho,rfl⟩:=Option.map_eq_some_iff.1 hx
 rw [Array.getElem?_map] at hv
 have:caps[i]?=some o:=by simpa using ho
 rw [this] at hv
 cases hv
 exact cx_sim hf o
end
end Go.Pv
namespace Go.Pv
section
variable {P:Program} {w:World} {γ:Gh} {fr:Fr} {a:Act}
theorem bin2_shape{op:BinOp}{X Y z:AV}{x:Value}(hx:Sim w γ X x)(h:bin2 op X Y=some z):(∀ cs,x≠.agg cs)∧x≠.nilIface:=by
 unfold bin2 at h
 split at h
 ·cases int_inv hx; simp
 ·cases str_inv hx; simp
 ·cases h
theorem binB2_shape{op:BinOp}{X Y z:AV}{x:Value}(hx:Sim w γ X x)(h:binB2 op X Y=some z):(∀ cs,x≠.agg cs)∧x≠.nilIface:=by
 unfold binB2 at h
 split at h
 ·cases bool_inv hx; simp
 ·cases h
theorem guard_then{op:BinOp}{t:TypeId}{o1 o2:Operand}{x y:Value}{z:AV}(hs:(∀ cs,x≠.agg cs)∧x≠.nilIface)(h:∃ v,(binOp op t x y).run P w=.ok v w∧Sim w γ z v) :
  ∃ v,(do eqGuard op t o1 o2 x y; binOp op t x y:Sem Value).run P w=.ok v w∧Sim w γ z v:=by
 obtain ⟨v,hv,h2⟩:=h
 exact⟨v,by simp [eqGuard_run op t o1 o2 x y hs.1 hs.2,hv],h2⟩
theorem idxb_run{f:FuncId}(hi:isIdx P f=true){X Y:AX}{z:AV}{x y:Value}(hx:Sim w γ (X.ev fr) x)(hy:Sim w γ (Y.ev fr) y)(h:evP fr (.idxb X Y)=some z) :
  ∃ v,(callFunc f #[x,y]).run P w=.ok (.value v) w∧Sim w γ z v:=by
 unfold isIdx at hi
 split at hi
 case h_2=>cases hi
 rename_i fn hfn
 simp only[Bool.and_eq_true,beq_iff_eq] at hi
 obtain ⟨hb,ho,hn⟩:=hi
 have h1:Extern.find fn=some Extern.BytealgIndexByte.indexByte:=by
  unfold Extern.find
  simp only[hn]
  rfl
 have h2:Extern.findNext fn=none:=by
  unfold Extern.findNext
  simp only[hn,ho]
  rfl
 have hrun:=run_callFunc_extern (P:=P) hfn (by rw [hn]; decide) hb h2 h1
 simp only[evP] at h
 generalize X.ev fr=XX at *
 generalize Y.ev fr=YY at *
 cases XX <;> try (cases h; done)
 cases YY <;> try (cases h; done)
 rename_i s k n
 cases k <;> try (cases h; done)
 cases h
 cases str_inv hx
 cases int_inv hy
 refine⟨_,?_,.int _ _⟩
 rw [hrun,Lib.run_indexByteString]
 rfl
theorem zero_sim{z:Value}(h:z.cells.all oneV=true):Sim w γ (ofZero z) z:=by
 cases z with
 | agg cs =>
  have h':cs.toList.all Value.oneCell'=true:=by
   rw [List.all_eq_true]
   intro x hx
   rw [← oneV_eq]
   exact(Array.all_eq_true_iff_forall_mem.1 h) x (by simpa [Value.cells] using hx)
  have:=ofVals (w:=w) (γ:=γ) cs.toList h'
  simpa [ofZero] using this.agg
 | _=>simp only[ofZero]; exact ofVal_sim _ _ _
theorem evP_sound(hf:FrR w γ fr a.tmps){o:Oper}{d:Bool}{r:Option Nat}{p:OpP}(hc:compOp P d r o=.p p){x:AV}(hx:evP fr p=some x) :
  ∃ v,(execOp a.eval o).run P w=.ok (.value v) w∧Sim w γ x v:=by
 obtain ⟨dst,op,ty,pos,after,guard⟩:=o
 have S:=fun y=>cx_sim hf y (γ:=γ)
 have lift:∀ {s:Sem Value} {z:AV},(∃ v,s.run P w=.ok v w∧Sim w γ z v)→∃ v,(do pure (.value (← s)):Sem Next).run P w=.ok (.value v) w∧Sim w γ z v:=by
  rintro s z ⟨v,hv,hs⟩
  exact⟨v,by simp [hv],hs⟩
 cases op with
 | move y=>cases hc; simp only[evP] at hx; cases hx; exact⟨_,rfl,S y⟩
 | assign y=>cases hc; simp only[evP] at hx; cases hx; exact⟨_,rfl,S y⟩
 | pick c y z=>cases hc; exact pick_run (S c) (S y) (S z) hx
 | alloc t=>simp only[compOp] at hc; repeat' (first | (cases hc; done) | split at hc)
 | box t y=>cases hc
 | build t parts =>
  simp only[compOp] at hc
  split at hc
  ·rename_i fs z ht hz
   split at hc
   ·cases hc
   ·rename_i hcond
    cases hc
    simp at hcond
    exact lift (buildS_run ht hz (by simpa using hcond.2) (by simpa using hcond.1.1) hf (by simpa using hcond.1.2) hx)
  ·rename_i n e z ht hz
   split at hc
   ·cases hc
   ·rename_i hcond
    cases hc
    simp at hcond
    exact lift (buildA_run ht hz (by simpa using hcond.2) hcond.1 hf hx)
  ·cases hc
 | buildSlice t n parts=>simp only[compOp] at hc; repeat (split at hc <;> try cases hc)
 | load t y=>simp only[compOp] at hc; split at hc <;> cases hc
 | store t y z=>simp only[compOp] at hc; split at hc <;> cases hc
 | nilCheck y =>
  cases hc
  obtain ⟨rfl,h⟩:=nilck_run (S y) hx
  refine⟨a.eval y,?_,S y⟩
  rcases h with ⟨b,hb⟩ | ⟨f,fs,cs,hb⟩ <;> rw [show(execOp a.eval ⟨dst,.nilCheck y,ty,pos,after,guard⟩)=_ from rfl] <;> simp only[execOp,hb] <;> rfl
 | binOp op t y z yt =>
  simp only[compOp] at hc
  split at hc
  ·cases hc
   exact lift (guard_then (bin2_shape (S y) hx) (bin_run (S y) (S z) hx t))
  ·cases hc
   exact lift (guard_then (bin2_shape (S y) hx) (bin_run (S y) (S z) hx t))
  ·rename_i ht
   cases hc
   exact lift (guard_then (binB2_shape (S y) hx) (binB_run (S y) (S z) hx t ht))
  ·rename_i e ht
   split at hc
   ·cases hc
    obtain ⟨h1,A,h2⟩:=isnilp_run (P:=P) ht (S y) hx
    exact lift (guard_then (by rw [h2]; simp) h1)
   ·cases hc
    obtain ⟨h1,A,h2⟩:=isnilp_run (P:=P) ht (S y) hx
    exact lift (guard_then (by rw [h2]; simp) h1)
   ·cases hc
  ·rename_i e ht
   split at hc
   ·cases hc
    obtain ⟨h1,A,n,c,h2⟩:=isnil_run (P:=P) ht (S y) hx
    exact lift (guard_then (by rw [h2]; simp) h1)
   ·cases hc
    obtain ⟨h1,A,n,c,h2⟩:=isnil_run (P:=P) ht (S y) hx
    exact lift (guard_then (by rw [h2]; simp) h1)
   ·cases hc
  ·rename_i fs ht
   split at hc
   ·rename_i hp
    split at hc
    ·cases hc
     exact lift (eqS_run ht hp (neg:=false) y z (S y) (S z) hx)
    ·cases hc
     exact lift (eqS_run ht hp (neg:=true) y z (S y) (S z) hx)
    ·cases hc
   ·cases hc
  ·cases hc
 | unOp op t y=>cases hc; exact lift (un_run (S y) hx)
 | convert s d y =>
  simp only[compOp] at hc
  split at hc
  ·rename_i k1 k hs hd
   cases hc
   simp only[evP] at hx
   have hy:=S y
   generalize (cx y).ev fr=Y at *
   cases Y <;> try (cases hx; done)
   cases hx
   have hv:=int_inv hy
   refine⟨.int k _,?_,.int _ _⟩
   simp [execOp,convert,run_underlying hs,run_underlying hd,hv,Conv.intToInt]
  ·rename_i hs hd
   cases hc
   simp only[evP] at hx
   have hy:=S y
   generalize (cx y).ev fr=Y at *
   cases Y <;> try (cases hx; done)
   cases hx
   have hv:=str_inv hy
   refine⟨_,?_,.str _⟩
   simp [execOp,convert,run_underlying hs,run_underlying hd,hv]
  ·split at hc <;> cases hc
  ·split at hc <;> cases hc
  ·split at hc <;> cases hc
  ·cases hc
 | sliceToArrayPointer t y=>cases hc
 | makeInterface t y =>
  simp only[compOp] at hc
  split at hc
  ·cases hc
  ·cases hc
  ·rename_i h1 h2
   cases hc
   simp only[evP] at hx
   cases hx
   refine⟨.iface t (a.eval y),?_,.ifc _ _ _ (S y)⟩
   obtain ⟨d,hd⟩:∃ d,P.underlying t=some d:=by
    cases hu:P.underlying t with
    | none=>exact absurd hu h2
    | some d=>exact⟨d,rfl⟩
   have hne:∀ ms,d≠.interface ms:=fun ms e=>h1 ms (by rw [hd,e])
   simp only[execOp,Instr.makeInterface,Sem.run_bind,run_underlying hd,Result.andThen_ok]
   cases d <;> first | rfl | exact absurd rfl (hne _)
 | makeFunc fn first caps =>
  cases fn <;> simp only[compOp] at hc <;> try (cases hc; done)
  split at hc
  ·rename_i f hfirst
   split at hc
   ·rename_i hl
    cases hc
    simp only[evP] at hx
    cases hx
    have e:first=#[]:=by simpa using hfirst
    subst e
    exact⟨.func (.func f) #[] (caps.map a.eval),by simp [execOp,Instr.makeFunc],mkfn_sim hl hf⟩
   ·cases hc
  ·split at hc
   ·rename_i f hfirst hcaps
    cases hc
    simp only[evP] at hx
    cases hx
    have e:caps=#[]:=by simpa using (Bool.and_eq_true_iff.1 hcaps).1
    subst e
    exact⟨.func (.func f) (first.map a.eval) #[],by simp [execOp,Instr.makeFunc],bound_sim (of_decide_eq_true (Bool.and_eq_true_iff.1 hcaps).2) hf⟩
   ·cases hc
 | makeMap t y=>cases hc
 | makeChan t y=>cases hc
 | makeSlice t l c=>simp only[compOp] at hc; repeat (split at hc <;> try cases hc)
 | slice t y lo hi mx =>
  simp only[compOp] at hc
  split at hc
  ·rename_i ht
   split at hc
   ·rename_i hm
    cases hc
    have e:mx=none:=by simpa using hm
    subst e
    exact lift (slices_run ht hf (S y) hx)
   ·cases hc
  ·rename_i e ht
   split at hc
   ·rename_i hok
    split at hc
    ·cases hc
    ·cases hc
     exact lift (slicev_run ht hok hf (S y) hx)
   ·cases hc
  ·cases hc
 | fieldAddr s y f =>
  simp only[compOp] at hc
  split at hc
  ·rename_i fs ht
   split at hc
   ·rename_i fd hfd
    split at hc
    ·cases hc
    ·rename_i hz
     cases hc
     obtain ⟨b,hb,hs⟩:=ptr_add (S y) hx
     refine⟨_,?_,hs⟩
     have hsz:(sizeOf fd.type).run P w=.ok (P.cellsOf fd.type) w:=by
      unfold Program.cellsOf at hz ⊢
      cases hi:P.info? fd.type with
      | none=>rw [hi] at hz; simp at hz
      | some i=>simp [sizeOf,typeInfo,hi]
     simp [execOp,Instr.fieldAt,run_underlying ht,hfd,Instr.sureAddr,hb,fieldPlace,hsz,hz]
   ·cases hc
  ·cases hc
 | field s y f =>
  simp only[compOp] at hc
  split at hc
  ·rename_i fs ht
   split at hc
   ·rename_i fd hfd
    split at hc
    ·rename_i hok
     cases hc
     simp only[evP] at hx
     have hy:=S y
     generalize (cx y).ev fr=Y at *
     cases Y <;> try (cases hx; done)
     obtain ⟨cs,hv,hl,hs⟩:=agg_inv hy
     obtain ⟨v,h1,h2⟩:=part_run (P:=P) hl hs hok hx
     refine⟨v,?_,h2⟩
     simp [execOp,Instr.field,run_underlying ht,hfd,hv,asAgg,h1]
    ·cases hc
   ·cases hc
  ·cases hc
 | indexAddr t y i =>
  simp only[compOp] at hc
  split at hc
  ·rename_i e ht
   split at hc
   ·rename_i hok
    cases hc
    exact lift (iaddr_run ht hok (S y) (S i) hx)
   ·cases hc
  ·rename_i n e ht
   split at hc
   ·rename_i hok
    cases hc
    exact lift (aaddr_run ht hok (S y) (S i) hx)
   ·cases hc
  ·cases hc
 | index t y i =>
  simp only[compOp] at hc
  split at hc
  ·rename_i ht
   cases hc
   exact lift (idxs_run ht (S y) (S i) hx)
  ·rename_i n e ht
   split at hc
   ·rename_i hok
    cases hc
    exact lift (idxa_run ht hok (S y) (S i) hx)
   ·cases hc
  ·cases hc
 | lookup=>cases hc
 | mapUpdate=>cases hc
 | mapEntry=>cases hc
 | entryStore=>cases hc
 | insert=>cases hc
 | range=>cases hc
 | next=>cases hc
 | entry=>cases hc
 | typeAssert y xt t ok =>
  cases ok with
  | false=>cases hc
  | true =>
  simp only[compOp] at hc
  split at hc
  ·cases hc
  ·cases hc
  ·rename_i h1 h2
   split at hc
   case h_2=>cases hc
   rename_i z hz
   split at hc
   case isFalse=>cases hc
   rename_i ho
   cases hc
   obtain ⟨d,hd⟩:∃ d,P.underlying t=some d:=by
    cases hu:P.underlying t with
    | none=>exact absurd hu h2
    | some d=>exact⟨d,rfl⟩
   have hne:∀ ms,d≠.interface ms:=fun ms e=>h1 ms (by rw [hd,e])
   simp only[evP] at hx
   have hy:=S y
   generalize (cx y).ev fr=Y at *
   have two:∀(u v:Value) (X V:AV),Sim w γ X u→Sim w γ V v→Sim w γ (.tup [X,V]) (.tuple #[u,v]):=fun u v X V hu hv=>.tup _ _ rfl fun i x y hx hy=>by
    match i with
    | 0=>cases hx; cases hy; exact hu
    | 1=>cases hx; cases hy; exact hv
    | i+2=>cases hx
   generalize hv:a.eval y=v at *
   cases Y <;> try (cases hx; done)
   ·rename_i F CS
    cases hy with
    | fn _ g _ fs cs hfv hz hs =>
     exfalso
     have hf:F < ifB:=by
      rcases hfv with ⟨h1,_,h⟩ | ⟨h1,_,h⟩
      ·rw [h1]; exact Nat.lt_of_lt_of_le h (Nat.le_trans (by decide) ifB_ge)
      ·rw [h1]; exact Nat.lt_of_lt_of_le (Nat.add_lt_add_right h 1000000) ifB_ge
     cases CS with
     | nil=>cases hx
     | cons y r =>
      cases r with
      | nil=>dsimp only at hx; rw [if_neg (Nat.not_le.2 hf)] at hx; cases hx
      | cons _ _=>cases hx
    | ifc t' x' v' hs =>
     dsimp only at hx
     rw [if_pos (Nat.le_add_right _ _),Nat.add_sub_cancel_left] at hx
     cases hx
     by_cases e:t'=t
     ·rw [if_pos e]
      refine⟨_,?_,two _ _ _ _ hs (.bool true)⟩
      simp only[execOp,Instr.typeAssert,Sem.run_bind,run_underlying hd,Result.andThen_ok,hv]
      cases d <;> first | (simp [e]; done) | exact absurd rfl (hne _)
     ·rw [if_neg e]
      refine⟨_,?_,two _ _ _ _ (zero_sim ho) (.bool false)⟩
      simp only[execOp,Instr.typeAssert,Sem.run_bind,run_underlying hd,Result.andThen_ok,hv]
      cases d <;> first | (simp [e,zero_run hz]; done) | exact absurd rfl (hne _)
   ·cases hy
    cases v <;> try (cases hx; done)
    cases hx
    refine⟨_,?_,two _ _ _ _ (zero_sim ho) (.bool false)⟩
    simp only[execOp,Instr.typeAssert,Sem.run_bind,run_underlying hd,Result.andThen_ok,hv]
    cases d <;> first | (simp [zero_run hz]; done) | exact absurd rfl (hne _)
 | extract y i=>cases hc; exact lift (ext_run (S y) hx)
 | call c =>
  obtain ⟨callee,args,ts⟩:=c
  cases callee with
  | value f =>
   cases f <;> try (cases hc; done)
   rename_i g
   simp only[compOp] at hc
   split at hc
   case isFalse=>cases hc
   rename_i hi
   split at hc
   case h_2=>cases hc
   rename_i y z hargs
   cases hc
   have ha:args=#[y,z]:=by rw [← Array.toArray_toList (xs:=args),hargs]
   subst ha
   obtain ⟨v,hv,hs⟩:=idxb_run hi (S y) (S z) hx
   exact⟨v,by simpa [execOp,resolve,Deferred.ofValue,Act.eval,invoke] using hv,hs⟩
  | invoke=>cases hc
  | builtin b =>
   obtain ⟨args⟩:=args
   obtain ⟨ts⟩:=ts
   simp only[compOp] at hc
   have run:∀ {bb:Builtin} {s:Sem Value},(∀ C,builtin bb ⟨ts⟩ ty C (Array.map a.eval ⟨args⟩) =(do pure (.value (← s)):Sem Next)) →
     (∃ v,s.run P w=.ok v w∧Sim w γ x v)→∃ v,(execOp a.eval ⟨dst,.call ⟨.builtin bb,⟨args⟩,⟨ts⟩⟩,ty,pos,after,guard⟩).run P w=.ok (.value v) w∧Sim w γ x v:=by
    rintro bb s hb ⟨v,hv,hs⟩
    refine⟨v,?_,hs⟩
    simp only[execOp,resolve,invoke,Sem.run_bind,Sem.run_pure,Result.andThen_ok]
    rw [hb]
    simp [hv]
   split at hc
   ·rename_i y t
    split at hc
    ·rename_i ht
     cases hc
     exact run (fun _=>rfl) (by simpa using lenS_run ht (S y) ty hx)
    ·rename_i e ht
     cases hc
     exact run (fun _=>rfl) (by simpa using len_run ht (S y) ty hx)
    ·rename_i n e ht
     cases hc
     simp only[evP] at hx
     cases hx
     exact run (fun _=>rfl) ⟨.int .i64 n,by simp [Builtin.len_,run_underlying ht,goInt],.int _ _⟩
    ·cases hc
   ·repeat (split at hc <;> try cases hc)
   ·repeat (split at hc <;> try cases hc)
   ·repeat (split at hc <;> try cases hc)
   ·rename_i y z
    cases hc
    exact run (fun _=>rfl) (by simpa using minmax_run (P:=P) (mx:=false) (S y) (S z) ⟨ts⟩ ty hx)
   ·rename_i y z
    cases hc
    exact run (fun _=>rfl) (by simpa using minmax_run (P:=P) (mx:=true) (S y) (S z) ⟨ts⟩ ty hx)
   ·cases hc
 | go=>cases hc
 | defer=>cases hc
 | panic=>cases hc
 | send=>cases hc
 | recv=>cases hc
 | select=>cases hc
 | ready=>cases hc
 | waits=>cases hc
end
end Go.Pv
