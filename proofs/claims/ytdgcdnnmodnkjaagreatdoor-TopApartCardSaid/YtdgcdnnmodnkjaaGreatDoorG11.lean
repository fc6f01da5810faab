/- Part 11 of a proof that a step of one domain changes nothing of another: the machine of plain values, and what the program's functions do. -/
import Derived.Test.YtdgcdnnmodnkjaaGreatDoorG10
import Derived.Defers
set_option linter.all false
set_option linter.unusedVariables false
set_option linter.unusedSectionVars false
set_option linter.unusedSimpArgs false
set_option linter.defProp false
namespace Go.Pv
theorem nd{p:Prop}{_:Decidable p}:(!decide p)=decide (¬ p):=by by_cases h:p <;> simp [h]
def pv7 :=
 And.intro @nd <| And.intro @Bool.false_and <| And.intro @Bool.and_false <| And.intro @Bool.true_or <| @Bool.or_true
def pv0 :=
 And.intro @aw_seq <| And.intro @aw_skip <| And.intro @aw_ret <| And.intro @aw_cond <| And.intro @aw_region0 <| And.intro @trimK_some <| And.intro @andThen_n <| And.intro @andThen_r <| And.intro @awR_nil <| And.intro @awR_p <| And.intro @awR_e <| And.intro @stepP_some <| And.intro @stepE_some <| @condP_false
def pv1 :=
 And.intro @isnilV_nil <| And.intro @isnilV_sl <| And.intro @ev_t <| And.intro @ev_c <| @toBytes_bys
def pv2 :=
 And.intro @ids_bool <| And.intro @ids_int <| And.intro @ids_str <| And.intro @ids_sl <| And.intro @ids_rptr <| And.intro @ids_agg <| And.intro @ids_fn <| And.intro @ids_vec <| And.intro @ids_eptr <| And.intro @ren_bool <| And.intro @ren_int <| And.intro @ren_str <| And.intro @ren_sl <| And.intro @ren_rptr <| And.intro @ren_agg <| And.intro @ren_fn <| And.intro @ren_vec <| And.intro @ren_eptr <| And.intro @vecO_some <| And.intro @eptrO_some <| And.intro @snp_agg <| @snp_vec
def pv3 :=
 And.intro @rws_agg <| And.intro @rws_vec <| And.intro @mapO_nil <| And.intro @mapO_cons <| And.intro @elems_sl <| And.intro @elems_vec <| And.intro @pass_nil <| And.intro @pass_cons0 <| And.intro @pass_cons <| And.intro @passOne_snap <| And.intro @passOne_ownv <| And.intro @passOne_ownn <| And.intro @handT_nil <| And.intro @handT_cons0 <| And.intro @handA_0 <| And.intro @hand_vec <| And.intro @hand_agg <| @renE_some
def pv4 :=
 And.intro @wrap_i64_u8 <| And.intro @wrap_i64 <| And.intro @wrap_u8 <| And.intro @wrap_u32 <| And.intro @wrap_u64 <| And.intro @fdiv_pos <| @and_i64_1
def pv5 :=
 @and_u64_48
def pv6 :=
 @or_u32_24
def pvd :=
 @evP_isnil
def pvc0 :=
 And.intro @List.take_of_length_le.{0} <| And.intro @Int.toNat_zero <| And.intro @List.length_set.{0} <| And.intro @List.drop_zero.{0} <| And.intro @List.drop_succ_cons.{0} <| And.intro @List.drop_nil.{0} <| And.intro @List.take_zero.{0} <| And.intro @List.take_succ_cons.{0} <| And.intro @List.take_nil.{0} <| And.intro @List.reverse_cons.{0} <| And.intro @List.isEmpty_nil.{0} <| And.intro @List.isEmpty_cons.{0} <| And.intro @List.replicate_zero.{0} <| And.intro @List.replicate_succ.{0} <| And.intro @if_pos.{1} <| And.intro @if_neg.{1} <| And.intro @Nat.zero_add <| And.intro @Nat.add_zero <| And.intro @true_and <| And.intro @and_true <| And.intro @eq_self.{1} <| And.intro @List.length_append.{0} <| And.intro @decide_t <| And.intro @decide_f <| And.intro @Bool.not_true <| And.intro @Bool.not_false <| And.intro @decide_eq_true_eq <| @Bool.not_eq_true
def pvc1 :=
 And.intro @Bool.decide_eq_true <| And.intro @Bool.true_eq_false <| And.intro @List.contains_cons.{0} <| And.intro @Bool.or_false <| And.intro @Bool.false_or <| And.intro @Bool.or_true <| And.intro @Bool.true_or <| And.intro @List.flatMap_cons.{0,0} <| And.intro @List.flatMap_nil.{0,0} <| And.intro @List.append_nil.{0} <| And.intro @List.nil_append.{0} <| And.intro @List.cons_append.{0} <| And.intro @List.contains_nil.{0} <| And.intro @List.reverse_nil.{0} <| And.intro @List.length_nil.{0} <| And.intro @List.length_cons.{0} <| And.intro @List.zipIdx_cons.{0} <| And.intro @List.zipIdx_nil.{0} <| And.intro @List.getElem?_cons_zero.{0} <| And.intro @List.getElem?_cons_succ.{0} <| And.intro @List.set_cons_zero.{0} <| And.intro @List.set_cons_succ.{0} <| And.intro @List.all_cons.{0} <| And.intro @List.all_nil.{0} <| And.intro @Option.map_some.{0,0} <| And.intro @Option.map_none.{0,0} <| And.intro @Option.bind_some.{0,0} <| And.intro @Option.bind_none.{0,0} <| And.intro @Option.getD_some.{0} <| @Option.join_some.{0}
def pvc2 :=
 And.intro @Option.isNone_none.{0} <| And.intro @Option.isNone_some.{0} <| And.intro @if_true.{1} <| And.intro @if_false.{1} <| And.intro @Bool.false_eq_true <| And.intro @Bool.and_true <| And.intro @Bool.true_and <| And.intro @beq_self_eq_true.{0} <| And.intro @Nat.min_def <| And.intro @List.length_map.{0,0} <| And.intro @Int.toNat_natCast <| And.intro @Int.cast_ofNat_Int <| And.intro @Nat.not_lt_zero <| And.intro @ne_eq.{1} <| And.intro @not_true_eq_false <| And.intro @not_false_eq_true <| And.intro @and_self <| And.intro @decide_true <| And.intro @decide_false <| And.intro @true_or <| And.intro @or_true <| And.intro @false_or <| And.intro @or_false <| And.intro @false_and <| @and_false
end Go.Pv
namespace Go.Pv
variable [Lq]
def growL(no:List TypeId):Hp→Hp→Prop
 | [],_=>True
 | none :: r,none :: r'=>growL no r r'
 | some e :: r,some e' :: r'=>(no.contains e.ty=true ∨(e.ty=e'.ty∧e.es=e'.es))∧growL no r r'
 | _,_=>False
theorem ent_z{x:Option Ent}{r:Hp}:ent (x :: r) 0=x:=by cases x <;> rfl
theorem ent_s{x:Option Ent}{r:Hp}{n:Nat}:ent (x :: r) (n+1)=ent r n:=rfl
theorem grow_cons{no:List TypeId}{x y:Option Ent}{r r':Hp}(h:Grow no r r')(h1:∀ e,x=some e→∃ e',y=some e')(h2:∀ e,x=some e→no.contains e.ty=false→∃ wr,y=some { e with wr:=wr })(h3:x=none→y=none):Grow no (x :: r) (y :: r'):=by
 refine⟨by simpa using h.len,fun id e he=>?_,fun id e he hn=>?_,fun id hl he=>?_⟩
 ·cases id with
  | zero=>rw [ent_z] at he ⊢; exact h1 e he
  | succ n=>rw [ent_s] at he ⊢; exact h.still n e he
 ·cases id with
  | zero=>rw [ent_z] at he ⊢; exact h2 e he hn
  | succ n=>rw [ent_s] at he ⊢; exact h.some n e he hn
 ·cases id with
  | zero=>rw [ent_z] at he ⊢; exact h3 he
  | succ n=>rw [ent_s] at he ⊢; exact h.none n (by simpa using hl) he
theorem grow_of{no:List TypeId}:∀ {H H':Hp},growL no H H'→Grow no H H'
 | [],H',_=>⟨by simp,fun id e h=>(by cases h),fun id e h=>(by cases h),fun id h=>(by simp at h)⟩
 | none :: r,none :: r',h=>grow_cons (grow_of h) (fun e h=>by cases h) (fun e h=>by cases h) fun _=>rfl
 | some e :: r,some e' :: r',h=>grow_cons (grow_of h.2) (fun _ _=>⟨e',rfl⟩) (fun e2 h2 hn=>by
   cases h2
   rcases h.1 with h3 | ⟨h3,h4⟩
   ·rw [h3] at hn; cases hn
   ·exact⟨e'.wr,by rw [h3,h4]⟩) fun h=>by cases h
 | none :: r,some _ :: r',h=>h.elim
 | some _ :: r,none :: r',h=>h.elim
 | none :: r,[],h=>h.elim
 | some _ :: r,[],h=>h.elim
section
variable {fr:Fr} {hp:Hp} {id:Nat}
theorem still_nil{hp:Hp}:still hp []=hp:=(rfl)
def stillE(o:Option Ent)(hp:Hp)(id:Nat)(r:List Nat):Hp:=match o with
 | some e=>still (hp.set id (some { e with wr:=false })) r
 | none=>still hp r
theorem still_cons{hp:Hp}{r:List Nat}:still hp (id :: r)=stillE (ent hp id) hp id r:=(rfl)
theorem stillE_some{ty:TypeId}{es:List AV}{wr:Bool}{r:List Nat}:stillE (some ⟨ty,es,wr⟩) hp id r=still (hp.set id (some ⟨ty,es,false⟩)) r:=(rfl)
end
def pvf :=
 And.intro @still_nil <| And.intro @still_cons <| @stillE_some
end Go.Pv
namespace Go.Pv
variable [Lq]
def offL(L:List (Nat × Ent))(id:Nat):Prop:=∀ p∈L,p.1≠id
def noneAt(L:List (Nat × Ent))(hp:Hp):Prop:=∀ p∈L,ent hp p.1=none∧p.1 < hp.length
theorem setAll_len:∀(L:List (Nat × Ent)) (hp:Hp),(setAll hp L).length=hp.length
 | [],_=>rfl
 | p :: L,hp=>by
  show(setAll (hp.set p.1 (some p.2)) L).length=_
  rw [setAll_len L]; simp
theorem setAll_set{id:Nat}{x:Option Ent}:∀(L:List (Nat × Ent)) (hp:Hp),offL L id→setAll (hp.set id x) L =(setAll hp L).set id x
 | [],_,_=>rfl
 | p :: L,hp,h=>by
  show setAll ((hp.set id x).set p.1 (some p.2)) L =(setAll (hp.set p.1 (some p.2)) L).set id x
  rw [List.set_comm _ _ (fun e=>h p (by simp) e.symm),setAll_set L _ fun q hq=>h q (by simp [hq])]
theorem setAll_app{l:Hp}:∀(L:List (Nat × Ent)) (hp:Hp),(∀ p∈L,p.1 < hp.length)→setAll (hp ++ l) L=setAll hp L ++ l
 | [],_,_=>rfl
 | p :: L,hp,h=>by
  show setAll ((hp ++ l).set p.1 (some p.2)) L=setAll (hp.set p.1 (some p.2)) L ++ l
  rw [List.set_append_left _ _ (h p (by simp)),setAll_app L _ fun q hq=>by simpa using h q (by simp [hq])]
theorem setAll_ent{id:Nat}:∀(L:List (Nat × Ent)) (hp:Hp),offL L id→ent (setAll hp L) id=ent hp id
 | [],_,_=>rfl
 | p :: L,hp,h=>by
  show ent (setAll (hp.set p.1 (some p.2)) L) id=_
  rw [setAll_ent L _ fun q hq=>h q (by simp [hq])]
  unfold ent
  rw [List.getElem?_set_ne (h p (by simp))]
section
variable {L:List (Nat × Ent)} {hp:Hp}
theorem noneAt.off(h:noneAt L hp){id:Nat}{e:Ent}(he:ent hp id=some e):offL L id:=fun p hpL hid=>by
 have:=(h p hpL).1; rw [hid,he] at this; cases this
theorem noneAt.ent(h:noneAt L hp){id:Nat}{e:Ent}(he:Go.Pv.ent hp id=some e):Go.Pv.ent (setAll hp L) id=some e:=by
 rw [setAll_ent L hp (h.off he),he]
theorem noneAt.set(h:noneAt L hp){id:Nat}{e:Ent}{x:Option Ent}(he:Go.Pv.ent hp id=some e):noneAt L (hp.set id x):=fun p hpL=>by
 refine⟨?_,by simpa using (h p hpL).2⟩
 have:=h.off he p hpL
 unfold Go.Pv.ent
 rw [List.getElem?_set_ne (fun e=>this e.symm)]
 exact(h p hpL).1
theorem elems_frame(h:noneAt L hp){x:AV}{es:List AV}(hx:elems hp x=some es):elems (setAll hp L) x=some es:=by
 cases x <;> first | exact hx | skip
 simp only[elems] at hx ⊢
 obtain ⟨e,he,hx⟩:=Option.bind_eq_some_iff.1 hx
 rw [h.ent he]; exact hx
theorem mapO_frame{f g:AV→Option AV}{r s:AV→List Nat}(h:∀ x y,f x=some y→g x=some y∧r x=s x):∀ {xs ys:List AV},mapO f xs=some ys→mapO g xs=some ys∧xs.flatMap r=xs.flatMap s
 | [],_,hx=>⟨hx,rfl⟩
 | x :: xs,ys,hx=>by
  simp only[mapO] at hx ⊢
  obtain ⟨y,hy,hx⟩:=Option.bind_eq_some_iff.1 hx
  obtain ⟨zs,hz,rfl⟩:=Option.map_eq_some_iff.1 hx
  obtain ⟨h1,h2⟩:=mapO_frame h hz
  obtain ⟨h3,h4⟩:=h x y hy
  simp [h1,h2,h3,h4]
theorem snap_frame(h:noneAt L hp):∀(n:Nat) (x y:AV),snap hp n x=some y→snap (setAll hp L) n x=some y∧rows (setAll hp L) n x=rows hp n x
 | 0,_,_,hx=>by cases hx
 | n+1,x,y,hx=>by
  have ih:=snap_frame h n
  have ihm:∀ xs ys:List AV,mapO (snap hp n) xs=some ys→mapO (snap (setAll hp L) n) xs=some ys∧xs.flatMap (rows (setAll hp L) n)=xs.flatMap (rows hp n):=fun xs ys h'=>mapO_frame (f:=snap hp n) (r:=rows (setAll hp L) n) (s:=rows hp n) (fun x y hxy=>ih x y hxy) h'
  cases x <;> simp only[snap,rows] at hx ⊢ <;> try (first | exact⟨hx,rfl⟩ | exact⟨hx,trivial⟩)
  case vec id sz off len =>
   obtain ⟨es,hes,hx⟩:=Option.bind_eq_some_iff.1 hx
   obtain ⟨zs,hz,rfl⟩:=Option.map_eq_some_iff.1 hx
   obtain ⟨h1,h2⟩:=ihm _ _ hz
   rw [elems_frame h hes,hes]
   simp [h1,h2]
  case eptr id i off =>
   obtain ⟨e,he,hx⟩:=Option.bind_eq_some_iff.1 hx
   obtain ⟨z,hz,hx⟩:=Option.bind_eq_some_iff.1 hx
   obtain ⟨z',hz',rfl⟩:=Option.map_eq_some_iff.1 hx
   obtain ⟨h1,h2⟩:=ih _ _ hz'
   rw [h.ent he,he]
   simp [hz,h1,h2]
  case agg cs =>
   obtain ⟨zs,hz,rfl⟩:=Option.map_eq_some_iff.1 hx
   obtain ⟨h1,h2⟩:=ihm _ _ hz
   simp [h1,h2]
  case tup cs =>
   obtain ⟨zs,hz,rfl⟩:=Option.map_eq_some_iff.1 hx
   obtain ⟨h1,h2⟩:=ihm _ _ hz
   simp [h1,h2]
  case fn f cs =>
   obtain ⟨zs,hz,rfl⟩:=Option.map_eq_some_iff.1 hx
   obtain ⟨h1,h2⟩:=ihm _ _ hz
   simp [h1,h2]
  all_goals cases hx
theorem passOne_frame(h:noneAt L hp){m:Mode}{x y:AV}{H1:Hp}{l:List Nat}(hx:passOne hp m x=some (y,H1,l)):passOne (setAll hp L) m x=some (y,setAll H1 L,l)∧noneAt L H1:=by
 cases m with
 | snap =>
  simp only[passOne] at hx ⊢
  obtain ⟨z,hz,hx⟩:=Option.map_eq_some_iff.1 hx
  simp only[Prod.mk.injEq] at hx
  obtain ⟨rfl,rfl,rfl⟩:=hx
  obtain ⟨h1,h2⟩:=snap_frame h _ _ _ hz
  rw [h1,h2]; exact⟨rfl,h⟩
 | own sz ty =>
  cases x <;> simp only[passOne] at hx ⊢ <;> try (cases hx; done)
  case sl sz' es full =>
   cases es <;> cases full <;> simp only[reduceCtorEq,Option.some.injEq,Prod.mk.injEq] at hx ⊢
   obtain ⟨rfl,rfl,rfl⟩:=hx; exact⟨⟨rfl,rfl,rfl⟩,h⟩
  case vec id sz' off len =>
   obtain ⟨e,he,hx⟩:=Option.bind_eq_some_iff.1 hx
   split at hx
   case isFalse=>cases hx
   rename_i hc
   obtain ⟨zs,hz,hx⟩:=Option.map_eq_some_iff.1 hx
   simp only[Prod.mk.injEq] at hx
   obtain ⟨rfl,rfl,rfl⟩:=hx
   obtain ⟨h1,h2⟩:=mapO_frame (f:=snap hp deep) (g:=snap (setAll hp L) deep) (r:=rows (setAll hp L) deep) (s:=rows hp deep) (fun x y hxy=>snap_frame h _ x y hxy) hz
   rw [h.ent he,setAll_set L hp (h.off he)]
   refine⟨?_,h.set he⟩
   simp only[Option.bind_some,if_pos hc,h1,h2,Option.map_some]
 | nil sz full =>
  cases x <;> simp only[passOne] at hx ⊢ <;> try (cases hx; done)
  case sl sz' es full' =>
   cases es <;> simp only[reduceCtorEq] at hx ⊢
   split at hx
   case isFalse=>cases hx
   rename_i hc
   simp only[Option.some.injEq,Prod.mk.injEq] at hx
   obtain ⟨rfl,rfl,rfl⟩:=hx
   rw [if_pos hc]; exact⟨rfl,h⟩
  case vec id sz' off len =>
   split at hx
   case isFalse=>cases hx
   rename_i hc
   simp only[Option.some.injEq,Prod.mk.injEq] at hx
   obtain ⟨rfl,rfl,rfl⟩:=hx
   rw [if_pos hc]; exact⟨rfl,h⟩
theorem pass_frame:∀ {xs:List AV} {ms:List Mode} {hp:Hp} {ys:List AV} {H1:Hp} {l:List Nat},noneAt L hp→pass hp ms xs=some (ys,H1,l)→pass (setAll hp L) ms xs=some (ys,setAll H1 L,l)∧noneAt L H1
 | [],ms,hp,ys,H1,l,h,hx=>by
  simp only[pass,passG,Option.some.injEq,Prod.mk.injEq] at hx ⊢
  obtain ⟨rfl,rfl,rfl⟩:=hx; exact⟨⟨rfl,rfl,rfl⟩,h⟩
 | x :: xs,ms,hp,ys,H1,l,h,hx=>by
  simp only[pass,passG] at hx ⊢
  obtain ⟨⟨y,H2,l2⟩,h2,hx⟩:=Option.bind_eq_some_iff.1 hx
  obtain ⟨⟨zs,H3,l3⟩,h3,hx⟩:=Option.map_eq_some_iff.1 hx
  simp only[Prod.mk.injEq] at hx
  obtain ⟨rfl,rfl,rfl⟩:=hx
  obtain ⟨q1,q2⟩:=passOne_frame h h2
  obtain ⟨q3,q4⟩:=pass_frame (xs:=xs) q2 (show pass H2 ms.tail xs=_ from h3)
  unfold pass at q3
  rw [q1]
  simp only[Option.bind_some,q3,Option.map_some]
  exact⟨trivial,q4⟩
theorem liveB_frame(h:noneAt L hp){l:List Nat}(hl:liveB hp l=true):liveB (setAll hp L) l=true:=by
 unfold liveB at *
 rw [List.all_eq_true] at hl ⊢
 intro id hid
 have:=hl id hid
 split at this
 ·rename_i e he
  rw [h.ent he]; exact this
 ·cases this
theorem still_frame:∀(l:List Nat) {hp:Hp},noneAt L hp →(∀ id∈l,∃ e,ent hp id=some e)→still (setAll hp L) l=setAll (still hp l) L ∧(still hp l).length=hp.length
 | [],_,_,_=>⟨rfl,rfl⟩
 | id :: l,hp,h,hl=>by
  obtain ⟨e,he⟩:=hl id (by simp)
  simp only[still,h.ent he,he]
  rw [← setAll_set L hp (h.off he)]
  have:=still_frame l (h.set (x:=some { e with wr:=false }) he) fun j hj=>by
   obtain ⟨e',he'⟩:=hl j (by simp [hj])
   unfold ent at he' ⊢
   by_cases hij:id=j
   ·subst hij
    have hlt:id < hp.length:=by
     rcases Nat.lt_or_ge id hp.length with h | h
     ·exact h
     ·rw [List.getElem?_eq_none h] at he'; cases he'
    exact⟨_,by rw [List.getElem?_set_self hlt]; rfl⟩
   ·exact⟨e',by rw [List.getElem?_set_ne hij]; exact he'⟩
  refine⟨this.1,by rw [this.2]; simp⟩
theorem layC_frame{x:AV}(h:∀ p∈L,p.1 < hp.length):layC (setAll hp L) x =((layC hp x).1,setAll (layC hp x).2 L):=by
 unfold layC
 split
 ·rw [setAll_app L hp h,setAll_len]
 ·rfl
theorem layL_frame{f:Hp→AV→AV × Hp}(ha:∀ hp x,∃ l,(f hp x).2=hp ++ l)(hf:∀ hp x,(∀ p∈L,p.1 < hp.length)→f (setAll hp L) x =((f hp x).1,setAll (f hp x).2 L)):∀(xs:List AV) (hp:Hp),(∀ p∈L,p.1 < hp.length)→layL f (setAll hp L) xs =((layL f hp xs).1,setAll (layL f hp xs).2 L)
 | [],hp,_=>rfl
 | x :: xs,hp,h=>by
  obtain ⟨l,hl⟩:=ha hp x
  simp only[layL,hf hp x h]
  rw [layL_frame ha hf xs (f hp x).2 fun p hpL=>by rw [hl]; simp; have:=h p hpL; omega]
theorem layA_frame{x:AV}{hp:Hp}(h:∀ p∈L,p.1 < hp.length):layA (setAll hp L) x =((layA hp x).1,setAll (layA hp x).2 L):=by
 unfold layA
 split
 ·rw [layL_frame layC_app (fun hp x h=>layC_frame h) _ _ h]
 ·exact layC_frame h
theorem lay_frame{x:AV}{hp:Hp}(h:∀ p∈L,p.1 < hp.length):lay (setAll hp L) x =((lay hp x).1,setAll (lay hp x).2 L):=by
 unfold lay
 split
 ·rw [layL_frame layA_app (fun hp x h=>layA_frame h) _ _ h]
 ·exact layA_frame h
end
theorem framed_pass{P:Program}{f:FuncId}{xs ys:List AV}{r:AV}{hp H1:Hp}{l:List Nat}{ms:List Mode}(hr:Run P f ys r)(hp':pass hp ms xs=some (ys,H1,l))(hv:liveB H1 l=true) :
  Framed P f xs hp (lay (still H1 l) r).1 (lay (still H1 l) r).2:=by
 intro L hL
 have h0:noneAt L hp:=fun p h=>⟨(hL p h).1,(hL p h).2.1⟩
 obtain ⟨h1,h2⟩:=pass_frame h0 hp'
 have h3:∀ id∈l,∃ e,ent H1 id=some e:=fun id hid=>by
  unfold liveB at hv
  have:=List.all_eq_true.1 hv id hid
  split at this
  ·rename_i e he; exact⟨e,he⟩
  ·cases this
 obtain ⟨h4,h5⟩:=still_frame l h2 h3
 have:=gen_still hr h1 (liveB_frame h2 hv)
 rw [h4,lay_frame fun p h=>by rw [h5]; exact(h2 p h).2] at this
 exact this
end Go.Pv
namespace Go.Pv
theorem take_snoc{α:Type}[Inhabited α]{l:List α}{k:Nat}(h:k < l.length):l.take (k+1)=l.take k ++ [l[k]!]:=by
 rw [List.take_succ_eq_append_getElem h]
 simp [h]
end Go.Pv
namespace Go.Pv
variable [Lq]
def EndsD(P:Program)(c:AC)(g m t:Nat)(X:St→Option AV)(r:AV):AE→St→Prop
 | .exit _,_=>False
 | _,σ=>∃ caps H2,get σ.fr t=.fn g caps∧caps.length≤m∧aw P c (EndsG [] (.tup []) H2) ⟨caps.zipIdx.map fun p=>(p.2,p.1),σ.hp⟩ ∧
   ∃ x,X ⟨σ.fr,H2⟩=some x∧∃ ms H1 l,hand H2 ms x=some (r,H1,l)∧liveB H1 l=true
def Begins(P:Program)(c:AC)(g m t:Nat)(c2:AC)(X:St→Option AV)(r:AV):AE→St→Prop
 | .normal,σ=>(∃ caps,get σ.fr t=.fn g caps)∧aw P c2 (EndsD P c g m t X r) σ
 | _,_=>False
section
variable {P:Program} {w:World} {γ:Gh} {H:Hp}
theorem run_ofD{X:St→Option AV}{f g:FuncId}{fn gn:Func}{ops0:Array Oper}{o1 o2:Oper}{i0 i1 t:Nat}{c2 cg:Code}{ats:Array TypeId}(hD:∀ D γ0 w0,DrawOk P D fn.ntmps false γ0 w0)(hDg:∀ γ0 w0,DrawOk P Dq.no gn.ntmps true γ0 w0)
  {ca cb c2' cg':AC} {xs:List AV} {r:AV} (hf:P.funcs[f]?=some fn) (hb:fn.body=some (.seq (.region i0 ops0 false) (.seq (.region i1 #[o1,o2] false) c2))) (hn:(fn.name == "runtime.NumGoroutine")=false)
  (ho2:o2.op=.defer { callee:=.value (.tmp t),args:=#[],argTypes:=ats }) (hg1:o1.guard=none) (hg2:o2.guard=none) (hd2:o2.dst=none)
  (hgf:P.funcs[g]?=some gn) (hgb:gn.body=some cg) (hgn:(gn.name == "runtime.NumGoroutine")=false) (hgr:gn.results=#[]) (hgl:g < 1000000)
  (hX:∀(D:Dq) (γ:Gh) (σ:St) (a:Act) (W:World) (x:AV) (γ0:Gh) (w:World),SR D fn.ntmps false γ0 w γ σ a W→X σ=some x→∃ v,(results fn a.tmps).run P W=.ok v W∧Sim W γ x v)
  (hca:bareC ca=comp P (.region i0 ops0 false)) (hoa:okC fn.ntmps false ca=true) (hcb:cb=.region 0 [comp2 P #[o1] false 0 o1] none) (hob:okC fn.ntmps false cb=true)
  (hc2:bareC c2'=comp P c2) (hoc:okCp [t] fn.ntmps false c2'=true) (hcg:bareC cg'=comp P cg) (hog:okC gn.ntmps true cg'=true)
  (hlen:xs.length≤fn.ntmps) (hx:aw P ca (andThen (aw P cb (Begins P cg' g gn.ntmps t c2' X r)) (fun _ _=>False)) (entry xs)):Run P f xs r:=by
 refine⟨can_of hf (by rw [hb]; rfl) hn,fun w I os args hq hos hown=>?_⟩
 have h0:HRel (bareG I) [] w:=⟨fun id _=>rfl,fun id e he=>by simp [ent] at he,fun i j x y b hi=>(by cases hi),fun b hb=>⟨(hos.imm b hb).1,fun⟨i,x,hi,_⟩=>by cases hi⟩,fun i x b hi=>by cases hi⟩
 obtain ⟨γ0,m0,r0,l0,s0⟩:=layL_sim (I:=I) layC_p hown (bareG I) [] rfl h0 ⟨fun b hb hI=>(hos.imm b hI).2 hb,fun b _ i x hi=>(by cases hi),hos.ap⟩
 have hlx:(layL layC [] xs).1.length=args.size:=by simpa using l0
 have hxa:xs.length=args.size:=by have:=ownL_len hown; simpa using this
 have hq0:Lq.q w γ0.imm:=by first | exact hq | (rw [m0.imm]; exact hq)
 have hown0:∀ b,γ0.owns b↔blks os b:=fun b=>by
  rw [m0.own]
  exact⟨fun h=>h.elim (fun⟨i,x,hi,_⟩=>by cases hi) (fun h=>h),.inr⟩
 have fin:∀(D:Dq) (γ:Gh) (σ:St) (a:Act) (W:World),SR D fn.ntmps false γ0 w γ σ a W →(∃ x,X σ=some x∧∃ ms H1 l,hand σ.hp ms x=some (r,H1,l)∧liveB H1 l=true) →
   ∃ v,(results fn a.tmps).run P W=.ok v W∧∃ v' I' os',Ending.returned v=.returned v'∧OwnT W I' os' r v'∧OsOk W I' os'∧StepB I os I' os' w W:=by
  rintro D γ σ a W h ⟨x,hx,ms,H1,l,hh,hlive⟩
  obtain ⟨vv,hres,hsim⟩:=hX D γ σ a W x _ _ h hx
  refine⟨_,hres,?_⟩
  obtain ⟨γ1,os',g1,r1,n1,k1⟩:=hand_p γ σ.hp H1 ms _ r _ l h.hp hsim hh
  have hliv:∀ id∈l,∀ ge,γ.m id=some ge→ge.st≠0→γ1.m id=some ge:=by
   intro id hid ge hm hst
   rcases g1.ids id ge hm with h | h
   ·exact h
   ·exfalso
    have:=List.all_eq_true.1 hlive id hid
    split at this
    ·rename_i e he
     obtain ⟨ge',hm',hok⟩:=r1.ok id e he
     rw [h] at hm'; cases hm'
     have hl:=hok.live (by
      simp only[Bool.or_eq_true,Bool.not_eq_true',List.isEmpty_eq_false_iff] at this
      exact this)
     have:=hl.1
     simp only at this
     split at this <;> cases this
    ·cases this
  have hosb:∀ b,blks os' b→γ.owns b∧∀ id ge,γ1.m id=some ge→ge.st≠0→ge.blk≠some b:=by
   rintro b ⟨ge,hge,hb⟩
   obtain ⟨id,h1,h2,h3⟩:=g1.src ge hge b hb
   refine⟨⟨id,ge,h1,h2,hb⟩,fun id' ge' hm hst hb'=>?_⟩
   have e:=h.hp.inj id id' ge ge' b h1 (g1.rev id' ge' hm hst) (by rw [h2]; decide) hst hb hb'
   subst e
   rw [h3] at hm; cases hm
   exact hst rfl
  refine⟨_,fun b=>γ.imm b∨∃ id∈l,∃ ge,γ.m id=some ge∧ge.st≠0∧ge.blk=some b,os',rfl,k1 _ (fun b hb=>.inl hb) (fun id hid ge b hm hst hb=>.inr ⟨id,hid,ge,hm,hst,hb⟩),⟨?_,?_,g1.ap⟩,?_⟩
  ·rintro b (hb | ⟨id,hid,ge,hm,hst,hb⟩)
   ·exact⟨(h.hp.imm b hb).1,fun h'=>(h.hp.imm b hb).2 (hosb b h').1⟩
   ·exact⟨h.hp.blkLt hm hst hb,fun h'=>(hosb b h').2 id ge (hliv id hid ge hm hst) hst hb⟩
  ·intro b hb
   obtain ⟨id,ge,h1,h2,h3⟩:=(hosb b hb).1
   exact h.hp.blkLt h1 (by rw [h2]; decide) h3
  ·have own':∀ b,γ.owns b→blks os b∨w.heap.size≤b:=fun b hb=>(h.st.own b hb).imp (fun h=>(hown0 b).1 h) id
   have imm':∀ b,γ.imm b→I b∨blks os b∨w.heap.size≤b:=fun b hb=>by
    rcases h.st.immn b hb with h1 | h1 | h1
    ·rw [m0.imm] at h1; exact .inl h1
    ·exact .inr (.inl ((hown0 b).1 h1))
    ·exact .inr (.inr h1)
   refine⟨h.st.os,h.st.tape,h.st.output,h.st.size,fun b hb hn=>h.st.keep b hb fun h'=>hn ((hown0 b).1 h'),fun b hb=>own' b (hosb b hb).1,fun b hb=>.inl (h.st.immk b (by rw [m0.imm]; exact hb)),?_⟩
   rintro b (hb | ⟨id,hid,ge,hm,hst,hb⟩)
   ·exact imm' b hb
   ·rcases st_cases h.hp hm with h1 | h1 | h1
    ·exact absurd h1 hst
    ·exact imm' b (h.hp.stl id ge b hm h1 hb)
    ·exact .inr (own' b ⟨id,ge,hm,h1,hb⟩)
 refine calls_of_wp_defers hf hb ?_
 refine wp_seq (wp_mono (aw_sound (hD Dq.no γ0 w) _ ca _ γ0 (entry xs) _ w hca hoa hx ⟨zip_frame hlx (fun i x v hx hv=>s0 i x v hx (by simpa using hv)) _,r0,Step.refl _ _,rfl,⟨by simp; omega,fun _ h=>(by cases h)⟩,fun h=>(by cases h),hq0⟩) ?_)
 intro e a W he
 cases e with
 | ret=>obtain ⟨_,_,_,h2⟩:=he; exact h2.elim
 | exit id=>obtain ⟨_,_,_,h2⟩:=he; exact h2.elim
 | goto _=>exact he.elim
 | panic _=>exact he.elim
 | outgrown=>exact he.elim
 | normal =>
 obtain ⟨γ,σ,h1,h2⟩:=he
 refine wp_seq ?_
 refine wp_region ?_
 rw [show List.range (#[o1,o2]:Array Oper).size=[0,1] from rfl,wpOps_cons]
 subst hcb
 have hd1:∀ d,o1.dst=some d→d < fn.ntmps∧Dq.no.pin d=false:=by
  intro d hd
  simp only[okC,okCp,List.all_cons,List.all_nil,dstOk,comp2_dst,hd,Bool.and_true,Bool.and_eq_true,decide_eq_true_eq] at hob
  exact⟨hob.1.1,rfl⟩
 have hx2:aw2 P σ.hp.length (comp2 P #[o1,o2] false 0 o1) ⟨σ.fr,σ.hp⟩ (fun σ=>Begins P cg' g gn.ntmps t c2' X r .normal σ):=by
  have:=h2
  simp only[andThen,aw,List.replicate_zero,List.append_nil,awOps,trim] at this
  have e:comp2 P #[o1,o2] false 0 o1=comp2 P #[o1] false 0 o1:=by simp [comp2,hg1,fixCall_false]
  rw [e]
  exact this
 refine wpOp_mono ?_ (aw2_sound (ops:=#[o1,o2]) (i:=0) (Q:=_) h1 rfl hd1 hx2)
 rintro a1 W1 ⟨γ1,σ1,h3,⟨caps,hcap⟩,h4⟩
 have hsim:=h3.fr t
 rw [hcap] at hsim
 generalize hv:a1.tmps.getD t Go.undef=v at hsim
 cases hsim with
 | ifc t'=>exact absurd hgl (Nat.not_lt.2 (Nat.le_trans (Nat.le_trans (by decide) ifB_ge) (Nat.le_add_right _ _)))
 | fn _ g' _ fs cs hfv hz hsc =>
 obtain ⟨rfl,rfl,_⟩:g=g'∧fs=#[]∧g' < 1000000:=by
  rcases hfv with h | ⟨h,_⟩
  ·exact h
  ·exfalso; have:g'+1000000 < 1000000:=h ▸ hgl; exact absurd this (Nat.not_lt.2 (Nat.le_add_left _ _))
 rw [wpOps_cons]
 unfold wpOp
 simp only[show(#[o1,o2]:Array Oper)[1]?=some o2 from rfl]
 rw [if_pos (by simp [Region.wanted,hg2])]
 left
 have hdef:(execOp a1.eval o2).run P W1=.ok (.defer { target:=.fn (.func g) cs,args:=#[] }) W1:=by
  have hv':a1.eval (.tmp t)=.func (.func g) #[] cs:=hv
  simp [execOp,ho2,resolve,Deferred.ofValue,hv']
 unfold Oper.wp
 rw [hdef,Oper.upon_defer,hd2]
 simp only[wpOps]
 let D:Dq:=⟨[{ target:=.fn (.func g) cs,args:=#[] }],[(t,.func (.func g) #[] cs)]⟩
 have h5:SR D fn.ntmps false γ0 w γ1 σ1 (Act.put { a1 with defers:={ target:=.fn (.func g) cs,args:=#[] } :: a1.defers } none Go.undef) W1 :=
  ⟨h3.fr,h3.hp,h3.st,(by show _ :: a1.defers=_; rw [h3.df]; rfl),⟨h3.sz.1,fun p hp=>(by
   have:p =(t,.func (.func g) #[] cs):=by simpa [D] using hp
   subst this; exact hv)⟩,h3.ids,h3.lq⟩
 refine wp_mono (aw_sound (D:=D) (hD D γ0 w) _ c2' _ γ1 σ1 _ W1 hc2 hoc h4 h5) ?_
 have ends:∀(γ:Gh) (σ:St) (a:Act) (W:World),SR D fn.ntmps false γ0 w γ σ a W →(∃ caps H2,get σ.fr t=.fn g caps∧caps.length≤gn.ntmps∧aw P cg' (EndsG [] (.tup []) H2) ⟨caps.zipIdx.map fun p=>(p.2,p.1),σ.hp⟩ ∧
   ∃ x,X ⟨σ.fr,H2⟩=some x∧∃ ms H1 l,hand H2 ms x=some (r,H1,l)∧liveB H1 l=true)→Leaves P fn a.tmps (fun e W=>∃ v I' os',e=.returned v∧OwnT W I' os' r v∧OsOk W I' os'∧StepB I os I' os' w W) a.defers .returning W:=by
  rintro γ σ a W h ⟨caps,H2,k1,k2,k3,k4⟩
  have hs:=h.fr t
  rw [k1,show a.tmps.getD t Go.undef=.func (.func g) #[] cs from h.sz.2 (t,.func (.func g) #[] cs) (List.mem_singleton.2 rfl)] at hs
  cases hs with
  | fn _ _ _ _ _ _ hz hsc =>
  rw [Array.empty_append] at hz hsc
  rw [h.df]
  refine leaves_cons (fun h=>by cases h) (f:=g) (args:=cs) ?_ ?_
  ·have:=can_of (P:=P) hgf (by rw [hgb]; rfl) hgn cs W
   simpa [invoke] using this
  ·refine(callsD_of_wp hgf hgb (R:=fun e W'=>∃ v γ',e=.returned v∧HRel γ' H2 W'∧Step γ γ' W W'∧Ids γ γ') ?_).mono ?_
   ·refine wp_mono (aw_sound (hDg γ W) cg cg' (EndsG [] (.tup []) H2) γ ⟨caps.zipIdx.map fun p=>(p.2,p.1),σ.hp⟩ _ W hcg hog k3 ⟨zip_frame hz hsc _,h.hp,Step.refl _ _,rfl,⟨by simp; omega,fun _ h=>(by cases h)⟩,fun _=>Ids.refl _,h.lq⟩) ?_
    have fing:∀(γ':Gh) (σ':St) (a':Act) (W':World),SR Dq.no gn.ntmps true γ W γ' σ' a' W'→resX σ'.fr []=.tup []∧σ'.hp=H2 →
      a'.defers=[]∧∃ v,(results gn a'.tmps).run P W'=.ok v W'∧∃ v' γ',Ending.returned v=.returned v'∧HRel γ' H2 W'∧Step γ γ' W W'∧Ids γ γ':=by
     rintro γ' σ' a' W' h' ⟨_,h2⟩
     refine⟨h'.df,_,res_run (ts:=[]) (by rw [hgr]; rfl) a'.tmps,_,γ',rfl,h2 ▸ h'.hp,h'.st,h'.ids rfl⟩
    intro e a' W' he
    cases e with
    | normal=>obtain ⟨γ',σ',h1,h2⟩:=he; exact fing γ' σ' a' W' h1 h2
    | ret=>obtain ⟨γ',σ',h1,h2⟩:=he; exact fing γ' σ' a' W' h1 h2
    | exit id=>obtain ⟨_,_,_,h2⟩:=he; exact h2.elim
    | goto _=>exact he.elim
    | panic _=>exact he.elim
    | outgrown=>exact he.elim
   ·rintro e u W' ⟨rfl,v,γ',rfl,hh',st',ids'⟩
    have h':SR D fn.ntmps false γ0 w γ' ⟨σ.fr,H2⟩ a W':=⟨h.fr.adv (st'.adv ids' h.hp.imm),hh',h.st.trans st',h.df,h.sz,fun hk=>(by cases hk),st'.q h.hp.imm h.lq⟩
    obtain ⟨v',r1,r2⟩:=fin D γ' ⟨σ.fr,H2⟩ a W' h' k4
    exact⟨v',r1,r2⟩
 intro e a W he
 cases e with
 | normal=>obtain ⟨γ,σ,h1,h2⟩:=he; exact ends γ σ a W h1 h2
 | ret=>obtain ⟨γ,σ,h1,h2⟩:=he; exact ends γ σ a W h1 h2
 | exit id=>obtain ⟨_,_,_,h2⟩:=he; exact h2.elim
 | goto _=>exact he.elim
 | panic _=>exact he.elim
 | outgrown=>exact he.elim
theorem run_ofCD{rs:List RV}{f g:FuncId}{fn gn:Func}{ops0:Array Oper}{o1 o2:Oper}{i0 i1 t:Nat}{c2 cg:Code}{ats:Array TypeId}(hD:∀ D γ0 w0,DrawOk P D fn.ntmps false γ0 w0)(hDg:∀ γ0 w0,DrawOk P Dq.no gn.ntmps true γ0 w0)
  {ca cb c2' cg':AC} {xs:List AV} {r:AV} (hf:P.funcs[f]?=some fn) (hb:fn.body=some (.seq (.region i0 ops0 false) (.seq (.region i1 #[o1,o2] false) c2))) (hn:(fn.name == "runtime.NumGoroutine")=false)
  (ho2:o2.op=.defer { callee:=.value (.tmp t),args:=#[],argTypes:=ats }) (hg1:o1.guard=none) (hg2:o2.guard=none) (hd2:o2.dst=none)
  (hgf:P.funcs[g]?=some gn) (hgb:gn.body=some cg) (hgn:(gn.name == "runtime.NumGoroutine")=false) (hgr:gn.results=#[]) (hgl:g < 1000000)
  (hr:rvsOk P rs fn.results.toList=true)
  (hca:bareC ca=comp P (.region i0 ops0 false)) (hoa:okC fn.ntmps false ca=true) (hcb:cb=.region 0 [comp2 P #[o1] false 0 o1] none) (hob:okC fn.ntmps false cb=true)
  (hc2:bareC c2'=comp P c2) (hoc:okCp [t] fn.ntmps false c2'=true) (hcg:bareC cg'=comp P cg) (hog:okC gn.ntmps true cg'=true)
  (hlen:xs.length≤fn.ntmps) (hx:aw P ca (andThen (aw P cb (Begins P cg' g gn.ntmps t c2' (rvs rs) r)) (fun _ _=>False)) (entry xs)):Run P f xs r :=
 run_ofD hD hDg hf hb hn ho2 hg1 hg2 hd2 hgf hgb hgn hgr hgl (fun D γ σ a W x γ0 w h hx=>rvs_run hr γ σ a W x γ0 w h hx) hca hoa hcb hob hc2 hoc hcg hog hlen hx
end
end Go.Pv
