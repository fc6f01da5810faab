/- Part 10 of a proof that a step of one domain changes nothing of another: the machine of plain values, and what the program's functions do. -/
import Derived.Test.YtdgcdnnmodnkjaaGreatDoorG9
set_option linter.all false
set_option linter.unusedVariables false
set_option linter.unusedSectionVars false
set_option linter.unusedSimpArgs false
set_option linter.defProp false
namespace Go.Pv
variable [Lq]
def AV.nr0:AV→Bool
 | .vec .. | .eptr .. | .agg _ | .tup _ | .fn .. | .own .. | .undef=>false
 | _=>true
def AV.nr1:AV→Bool
 | .agg cs=>cs.all AV.nr0
 | x=>x.nr0
theorem snap_nr0{hp:Hp}{n:Nat}{x:AV}(h:x.nr0=true):snap hp (n+1) x=some x:=by
 cases x <;> first | rfl | cases h
theorem rows_nr0{hp:Hp}{n:Nat}{x:AV}(h:x.nr0=true):rows hp (n+1) x=[]:=by
 cases x <;> first | rfl | cases h
theorem mapO_id{f:AV→Option AV}:∀ {l:List AV},(∀ x∈l,f x=some x)→mapO f l=some l
 | [],_=>rfl
 | x :: l,h=>by simp [mapO,h x (by simp),mapO_id (l:=l) fun y hy=>h y (by simp [hy])]
theorem snap_nr1{hp:Hp}{n:Nat}{x:AV}(h:x.nr1=true):snap hp (n+2) x=some x:=by
 cases x with
 | agg cs =>
  have:∀ y∈cs,snap hp (n+1) y=some y:=fun y hy=>snap_nr0 (List.all_eq_true.1 h y hy)
  show(mapO (snap hp (n+1)) cs).map AV.agg=_
  rw [mapO_id this]; rfl
 | _=>first | rfl | cases h
theorem rows_nr1{hp:Hp}{n:Nat}{x:AV}(h:x.nr1=true):rows hp (n+2) x=[]:=by
 cases x with
 | agg cs =>
  have:∀ y∈cs,rows hp (n+1) y=[]:=fun y hy=>rows_nr0 (List.all_eq_true.1 h y hy)
  show cs.flatMap (rows hp (n+1))=[]
  rw [List.flatMap_eq_nil_iff]; exact this
 | _=>first | rfl | cases h
theorem pass_nr{hp:Hp}:∀ {xs:List AV},xs.all AV.nr1=true→pass hp [] xs=some (xs,hp,[])
 | [],_=>rfl
 | x :: xs,h=>by
  simp only[List.all_cons,Bool.and_eq_true] at h
  have:=pass_nr (hp:=hp) h.2
  unfold pass at this ⊢
  simp only[passG,List.headD_nil,List.tail_nil,passOne,deep,snap_nr1 h.1,rows_nr1 h.1,Option.map_some,Option.bind_some,this]
  rfl
def awR(P:Program)(base:Nat)(ops:List Op2)(N:St→Prop)(σ:St):Prop:=awOps P base ops σ N
def trimK(tr:Option Trim)(K:AE→St→Prop)(σ:St):Prop:=K .normal (trim tr σ)
def stepP(o:Option AV)(d:Option Nat)(k:St→Prop)(fr:Fr)(hp:Hp):Prop:=match o with
 | some x=>k ⟨putO fr d x,hp⟩
 | none=>False
theorem stepP_some{x:AV}{d:Option Nat}{k:St→Prop}{fr:Fr}{hp:Hp}:stepP (some x) d k fr hp=k ⟨putO fr d x,hp⟩:=(rfl)
def stepE(o:Option (AV × Hp))(d:Option Nat)(k:St→Prop)(fr:Fr):Prop:=match o with
 | some p=>k ⟨putO fr d p.1,p.2⟩
 | none=>False
theorem stepE_some{x:AV}{hp:Hp}{d:Option Nat}{k:St→Prop}{fr:Fr}:stepE (some (x,hp)) d k fr=k ⟨putO fr d x,hp⟩:=(rfl)
def condP(c:AV)(A B:St→Prop)(σ:St):Prop:=match c with
 | .bool b=>(b=true→A σ) ∧(b=false→B σ)
 | .anyb=>A σ∧B σ
 | _=>False
section
variable {A B:St→Prop} {σ:St}
theorem condP_false:condP (.bool false) A B σ=B σ:=by simp [condP]
end
def skp:AV:=.lit Go.undef
section
variable {A B:St→Prop} {d:Option Nat} {fr:Fr} {hp:Hp}
end
section
variable {P:Program} {K:AE→St→Prop} {N:St→Prop} {fr:Fr} {hp:Hp} {σ:St} {base:Nat}
theorem aw_skip:aw P .skip K σ=K .normal σ:=(rfl)
theorem aw_seq{a b:AC}:aw P (.seq a b) K σ=aw P a (andThen (aw P b K) K) σ:=(rfl)
theorem aw_ret:aw P .ret K σ=K .ret σ:=(rfl)
theorem aw_cond{c:AX}{x y:AC}:aw P (.cond c x y) K ⟨fr,hp⟩=condP (c.ev fr) (aw P x K) (aw P y K) ⟨fr,hp⟩:=by
 show(match c.ev fr with | .bool b=>_ | .anyb=>_ | _=>_)=_
 generalize c.ev fr=v
 cases v <;> rfl
theorem aw_region0{ops:List Op2}{tr:Option Trim}:aw P (.region 0 ops tr) K ⟨fr,hp⟩=awR P hp.length ops (trimK tr K) ⟨fr,hp⟩:=by
 simp [aw,awR]; rfl
theorem trimK_some{ks:List Nat}{nils:List (Nat × Nat × TypeId)}:trimK (some ⟨ks,nils,false⟩) K ⟨fr,hp⟩=K .normal (nils.foldl rowOne ⟨ks.map fun k=>(k,get fr k),hp⟩):=(rfl)
theorem andThen_n{N:St→Prop}:andThen N K .normal σ=N σ:=(rfl)
theorem andThen_r{N:St→Prop}:andThen N K .ret σ=K .ret σ:=(rfl)
theorem awR_nil:awR P base [] N σ=N σ:=(rfl)
theorem awR_p{d:Option Nat}{q:OpP}{fm:Bool}{no:List TypeId}{r:List Op2}:awR P base (⟨d,none,.p q,fm,no⟩ :: r) N ⟨fr,hp⟩=stepP (evP fr q) d (awR P base r N) fr hp:=by
 simp only[awR,awOps,aw2,aw1,stepP,St.put]; generalize evP fr q=v; cases v <;> rfl
theorem awR_e{d:Option Nat}{q:OpE}{rr:Option Nat}{fm:Bool}{no:List TypeId}{r:List Op2}:awR P base (⟨d,none,.e q rr,fm,no⟩ :: r) N ⟨fr,hp⟩=stepE (evE base rr fr hp q) d (awR P base r N) fr:=by
 simp only[awR,awOps,aw2,aw1,stepE]; generalize evE base rr fr hp q=v; cases v <;> rfl
theorem Grow.refl{no:List TypeId}(H:Hp):Grow no H H:=⟨Nat.le_refl _,fun id e h=>⟨e,h⟩,fun id e h _=>⟨e.wr,by rw [h]⟩,fun id _ h=>h⟩
theorem aw_mono:∀(c:AC) (K K':AE→St→Prop) (σ:St),(∀ e σ,K e σ→K' e σ)→aw P c K σ→aw P c K' σ:=by
 intro c
 induction c with
 | skip=>intro K K' σ h hx; exact h _ _ hx
 | region n ops tr =>
  intro K K' σ h hx
  have m1:∀(base:Nat) (o:Op2) (σ:St) (N N':St→Prop),(∀ σ,N σ→N' σ)→aw1 P base o σ N→aw1 P base o σ N':=by
   intro base o σ N N' h hx
   unfold aw1 at hx ⊢
   split at hx
   ·split at hx <;> first | exact h _ hx | exact hx
   ·split at hx <;> first | exact⟨hx.1,h _ hx.2⟩ | exact hx
   ·split at hx <;> first | exact h _ hx | exact hx
   ·obtain ⟨r,H',h1,h2,h3⟩:=hx; exact⟨r,H',h1,h2,h _ h3⟩
   ·split at hx
    ·obtain ⟨h0,r,H',h1,h2,h3⟩:=hx; exact⟨h0,r,H',h1,h2,h _ h3⟩
    ·exact hx
   ·split at hx
    ·obtain ⟨r,H',h1,h2,h3⟩:=hx; exact⟨r,H',h1,h2,h _ h3⟩
    ·exact hx
   ·exact hx
  have m2:∀(base:Nat) (ops:List Op2) (σ:St) (N N':St→Prop),(∀ σ,N σ→N' σ)→awOps P base ops σ N→awOps P base ops σ N':=by
   intro base ops
   induction ops with
   | nil=>intro σ N N' h hx; exact h _ hx
   | cons o r ih =>
    intro σ N N' h hx
    simp only[awOps,aw2] at hx ⊢
    split at hx
    ·exact m1 _ _ _ _ _ (fun σ=>ih σ N N' h) hx
    ·split at hx
     ·split at hx
      ·rename_i hc; rw [if_pos hc]; exact m1 _ _ _ _ _ (fun σ=>ih σ N N' h) hx
      ·rename_i hc; rw [if_neg hc]; exact ih _ _ _ h hx
     ·exact⟨hx.1,ih _ _ _ h hx.2⟩
     ·exact hx
  exact m2 _ _ _ _ _ (fun σ hx=>h _ _ hx) hx
 | regionA n ops ps tr=>intro K K' σ h hx; exact awOps_mono _ (fun σ hx=>⟨hx.1,h _ _ hx.2⟩) hx
 | seq a b iha ihb =>
  intro K K' σ h hx
  refine iha _ _ σ ?_ hx
  intro e σ hx
  cases e with
  | normal=>exact ihb _ _ _ h hx
  | exit i=>exact h _ _ hx
  | ret=>exact h _ _ hx
 | cond c x y ihx ihy =>
  intro K K' σ h hx
  simp only[aw] at hx ⊢
  split at hx
  ·exact⟨fun hb=>ihx _ _ _ h (hx.1 hb),fun hb=>ihy _ _ _ h (hx.2 hb)⟩
  ·exact⟨ihx _ _ _ h hx.1,ihy _ _ _ h hx.2⟩
  ·exact hx
 | block i b ih =>
  intro K K' σ h hx
  refine ih _ _ σ ?_ hx
  intro e σ hx
  cases e with
  | normal=>exact h _ _ hx
  | exit j =>
   simp only[inBlk] at hx ⊢
   split at hx
   ·rename_i hc; rw [if_pos hc]; exact h _ _ hx
   ·rename_i hc; rw [if_neg hc]; exact h _ _ hx
  | ret=>exact h _ _ hx
 | loop tr b ih =>
  intro K K' σ h ⟨I,h0,hI⟩
  refine⟨I,h0,fun n σ hn=>ih _ _ σ ?_ (hI n σ hn)⟩
  intro e σ hx
  cases e with
  | normal=>exact hx
  | exit i=>exact h _ _ hx
  | ret=>exact h _ _ hx
 | exit i=>intro K K' σ h hx; exact h _ _ hx
 | ret=>intro K K' σ h hx; exact h _ _ hx
 | scope b ih=>intro K K' σ h hx; exact ih _ _ σ h hx
 | bad=>intro K K' σ h hx; exact hx
theorem hand_nr{hp:Hp}{r:AV}(h:r.nr1=true):hand hp [] r=some (r,hp,[]):=by
 cases r with
 | tup xs=>cases h
 | _=>simp only[hand,List.headD_nil,handA,passOne,deep,snap_nr1 h,rows_nr1 h,Option.map_some]
theorem handT_nr{hp:Hp}:∀ {xs:List AV},xs.all AV.nr1=true→handT hp [] xs=some (xs,hp,[])
 | [],_=>rfl
 | x :: xs,h=>by
  simp only[List.all_cons,Bool.and_eq_true] at h
  have:=handT_nr (hp:=hp) h.2
  unfold handT at this ⊢
  simp only[passG,List.headD_nil,List.tail_nil,handA,passOne,deep,snap_nr1 h.1,rows_nr1 h.1,Option.map_some,Option.bind_some,this]
  rfl
def nrR:AV→Bool
 | .tup xs=>xs.all AV.nr1
 | x=>x.nr1
end
section
variable {hp:Hp} {n:Nat}
theorem ids_bool{b:Bool}:idsOf hp (n+1) (.bool b)=[]:=(rfl)
theorem ids_int{k:IntKind}{m:Int}:idsOf hp (n+1) (.int k m)=[]:=(rfl)
theorem ids_str{s:List UInt8}:idsOf hp (n+1) (.str s)=[]:=(rfl)
theorem ids_sl{sz:Nat}{es:List AV}{f:Bool}:idsOf hp (n+1) (.sl sz es f)=[]:=(rfl)
theorem ids_rptr{x:AV}{o:Nat}:idsOf hp (n+1) (.rptr x o)=[]:=(rfl)
theorem ids_agg{cs:List AV}:idsOf hp (n+1) (.agg cs)=cs.flatMap (idsOf hp n):=(rfl)
theorem ids_fn{f:FuncId}{cs:List AV}:idsOf hp (n+1) (.fn f cs)=cs.flatMap (idsOf hp n):=(rfl)
theorem ids_vec{id sz off len:Nat}:idsOf hp (n+1) (.vec id sz off len)=id :: (((ent hp id).map fun e=>e.es).getD []).flatMap (idsOf hp n):=(rfl)
theorem ids_eptr{id i off:Nat}:idsOf hp (n+1) (.eptr id i off)=id :: (((ent hp id).map fun e=>e.es).getD []).flatMap (idsOf hp n):=(rfl)
variable {l:List Nat}
theorem ren_bool{b:Bool}:renX l (n+1) (.bool b)=.bool b:=(rfl)
theorem ren_int{k:IntKind}{m:Int}:renX l (n+1) (.int k m)=.int k m:=(rfl)
theorem ren_str{s:List UInt8}:renX l (n+1) (.str s)=.str s:=(rfl)
theorem ren_sl{sz:Nat}{es:List AV}{f:Bool}:renX l (n+1) (.sl sz es f)=.sl sz es f:=(rfl)
theorem ren_rptr{x:AV}{o:Nat}:renX l (n+1) (.rptr x o)=.rptr x o:=(rfl)
theorem ren_agg{cs:List AV}:renX l (n+1) (.agg cs)=.agg (cs.map (renX l n)):=(rfl)
theorem ren_fn{f:FuncId}{cs:List AV}:renX l (n+1) (.fn f cs)=.fn f (cs.map (renX l n)):=(rfl)
def vecO(o:Option Nat)(sz off len:Nat):AV:=match o with | some i=>.vec i sz off len | none=>.undef
def eptrO(o:Option Nat)(i off:Nat):AV:=match o with | some j=>.eptr j i off | none=>.undef
theorem vecO_some{i sz off len:Nat}:vecO (some i) sz off len=.vec i sz off len:=(rfl)
theorem eptrO_some{j i off:Nat}:eptrO (some j) i off=.eptr j i off:=(rfl)
theorem ren_vec{id sz off len:Nat}:renX l (n+1) (.vec id sz off len)=vecO (place l id) sz off len:=(rfl)
theorem ren_eptr{id i off:Nat}:renX l (n+1) (.eptr id i off)=eptrO (place l id) i off:=(rfl)
theorem renE_some{ty:TypeId}{es:List AV}{wr:Bool}:renE l (some ⟨ty,es,wr⟩)=some ⟨ty,es.map (renX l 6),wr⟩:=(rfl)
def AV.pl0:AV→Bool
 | .vec .. | .eptr .. | .agg _ | .tup _ | .fn .. | .own ..=>false
 | _=>true
def AV.pl:AV→Bool
 | .agg cs=>cs.all AV.pl0
 | x=>x.pl0
theorem ids_pl0{x:AV}(h:x.pl0=true):idsOf hp (n+1) x=[]:=by cases x <;> first | rfl | cases h
theorem ids_pl{x:AV}(h:x.pl=true):idsOf hp (n+2) x=[]:=by
 cases x with
 | agg cs =>
  show cs.flatMap (idsOf hp (n+1))=[]
  rw [List.flatMap_eq_nil_iff]
  exact fun y hy=>ids_pl0 (List.all_eq_true.1 h y hy)
 | _=>first | rfl | cases h
theorem ids_all{es:List AV}(h:es.all AV.pl=true):es.flatMap (idsOf hp (n+2))=[]:=by
 rw [List.flatMap_eq_nil_iff]; exact fun y hy=>ids_pl (List.all_eq_true.1 h y hy)
theorem ren_pl0{x:AV}(h:x.pl0=true):renX l (n+1) x=x:=by cases x <;> first | rfl | cases h
theorem ren_pl{x:AV}(h:x.pl=true):renX l (n+2) x=x:=by
 cases x with
 | agg cs =>
  show AV.agg (cs.map (renX l (n+1)))=_
  congr 1
  conv=>rhs; rw [← List.map_id cs]
  exact List.map_congr_left fun y hy=>ren_pl0 (List.all_eq_true.1 h y hy)
 | _=>first | rfl | cases h
theorem ren_all{es:List AV}(h:es.all AV.pl=true):es.map (renX l (n+2))=es:=by
 conv=>rhs; rw [← List.map_id es]
 exact List.map_congr_left fun y hy=>ren_pl (List.all_eq_true.1 h y hy)
theorem pl_map{α:Type}{f:α→AV}{l:List α}(h:∀ x,(f x).pl=true):(l.map f).all AV.pl=true:=by simp [h]
theorem ids_map{α:Type}{f:α→AV}{l:List α}(h:∀ x,(f x).pl=true):(l.map f).flatMap (idsOf hp (n+2))=[]:=ids_all (pl_map h)
theorem ren_map{α:Type}{f:α→AV}{l':List α}(h:∀ x,(f x).pl=true):(l'.map f).map (renX l (n+2))=l'.map f:=ren_all (pl_map h)
end
section
variable {hp:Hp} {n:Nat}
theorem snp_agg{cs:List AV}:snap hp (n+1) (.agg cs) =(mapO (snap hp n) cs).map .agg:=(rfl)
theorem snp_vec{id sz off len:Nat}:snap hp (n+1) (.vec id sz off len) =(elems hp (.vec id sz off len)).bind fun es=>(mapO (snap hp n) es).map fun es=>.sl sz es false:=(rfl)
theorem rws_agg{cs:List AV}:rows hp (n+1) (.agg cs)=cs.flatMap (rows hp n):=(rfl)
theorem rws_vec{id sz off len:Nat}:rows hp (n+1) (.vec id sz off len)=id :: ((elems hp (.vec id sz off len)).getD []).flatMap (rows hp n):=(rfl)
theorem mapO_nil{f:AV→Option AV}:mapO f []=some []:=(rfl)
theorem mapO_cons{f:AV→Option AV}{x:AV}{xs:List AV}:mapO f (x :: xs) =(f x).bind fun y=>(mapO f xs).map fun ys=>y :: ys:=(rfl)
theorem elems_sl{sz:Nat}{es:List AV}{f:Bool}:elems hp (.sl sz es f)=some es:=(rfl)
theorem elems_vec{id sz off len:Nat}:elems hp (.vec id sz off len) =(ent hp id).bind fun e=>if off+len≤e.es.length then some ((e.es.drop off).take len) else none:=(rfl)
theorem mapO_map{α:Type}{f:α→AV}{l:List α}(h:∀ x,(f x).nr1=true):mapO (snap hp (n+2)) (l.map f)=some (l.map f) :=
 mapO_id fun x hx=>by obtain ⟨y,_,rfl⟩:=List.mem_map.1 hx; exact snap_nr1 (h y)
theorem rows_map{α:Type}{f:α→AV}{l:List α}(h:∀ x,(f x).nr1=true):(l.map f).flatMap (rows hp (n+2))=[]:=by
 rw [List.flatMap_eq_nil_iff]
 intro x hx; obtain ⟨y,_,rfl⟩:=List.mem_map.1 hx; exact rows_nr1 (h y)
theorem take_map_all{α:Type}{f:α→AV}{l:List α}{k:Nat}(h:l.length≤k):(l.map f).take k=l.map f:=List.take_of_length_le (by simpa using h)
theorem pass_nil{ms:List Mode}:pass hp ms []=some ([],hp,[]):=(rfl)
theorem pass_cons0{x:AV}{xs:List AV}:pass hp [] (x :: xs) =(passOne hp .snap x).bind fun p=>(pass p.2.1 [] xs).map fun q=>(p.1 :: q.1,q.2.1,p.2.2 ++ q.2.2):=(rfl)
theorem pass_cons{m:Mode}{ms:List Mode}{x:AV}{xs:List AV}:pass hp (m :: ms) (x :: xs) =(passOne hp m x).bind fun p=>(pass p.2.1 ms xs).map fun q=>(p.1 :: q.1,q.2.1,p.2.2 ++ q.2.2):=(rfl)
theorem passOne_snap{x:AV}:passOne hp .snap x =(snap hp 6 x).map fun y=>(y,hp,rows hp 6 x):=(rfl)
end
theorem wrap_i64{n:Int}(h:-9223372036854775808≤n)(h':n < 9223372036854775808):IntKind.i64.wrap n=n:=by
 simp only[IntKind.wrap,IntKind.signed,IntKind.bits,Bool.true_and]; split <;> simp at * <;> omega
theorem wrap_u8{n:Int}:IntKind.u8.wrap n=n % 256:=by simp [IntKind.wrap,IntKind.signed,IntKind.bits]
theorem wrap_u32{n:Int}:IntKind.u32.wrap n=n % 4294967296:=by simp [IntKind.wrap,IntKind.signed,IntKind.bits]
theorem wrap_u64{n:Int}:IntKind.u64.wrap n=n % 18446744073709551616:=by simp [IntKind.wrap,IntKind.signed,IntKind.bits]
theorem wrap_i64_u8{x:UInt8}:IntKind.i64.wrap (x.toNat:Int)=x.toNat:=by
 have:=x.toNat_lt; exact wrap_i64 (by omega) (by omega)
theorem fdiv_pos{a b:Int}(h:0≤b):a.fdiv b=a / b:=Int.fdiv_eq_ediv_of_nonneg _ h
theorem ofInt_toNat{k:Nat}{a:Int}(h:0≤a)(h':a < 2 ^ k):(BitVec.ofInt k a).toNat=a.toNat:=by
 rw [BitVec.toNat_ofInt,Int.emod_eq_of_lt h (by exact_mod_cast h')]
theorem and_two{k j:Nat}{a:Int}(hj:j≤k):(((BitVec.ofInt k a &&& BitVec.ofInt k (2 ^ j - 1)).toNat:Nat):Int)=a % 2 ^ j:=by
 have hp:(0:Int) < 2 ^ j:=Int.pow_pos (by decide)
 have hle:(2:Int) ^ j≤2 ^ k:=by exact_mod_cast Nat.pow_le_pow_right (by decide) hj
 have e2:(BitVec.ofInt k (2 ^ j - 1)).toNat=2 ^ j - 1:=by
  rw [ofInt_toNat (by omega) (by omega)]
  have h:(2:Int) ^ j =((2 ^ j:Nat):Int):=by simp
  rw [h]
  have:=Nat.two_pow_pos j
  generalize 2 ^ j=x at *
  omega
 rw [BitVec.toNat_and,e2,Nat.and_two_pow_sub_one_eq_mod,BitVec.toNat_ofInt]
 have h0:0≤a % ((2 ^ k:Nat):Int):=Int.emod_nonneg _ (by
                                  have:(0:Int) <((2 ^ k:Nat):Int):=by exact_mod_cast Nat.two_pow_pos k
                                  omega)
 rw [Int.natCast_emod,Int.toNat_of_nonneg h0]
 have hd:((2 ^ j:Nat):Int) ∣ ((2 ^ k:Nat):Int):=by exact_mod_cast Nat.pow_dvd_pow 2 hj
 rw [Int.emod_emod_of_dvd _ hd]; simp
theorem or_two{k j:Nat}{a b:Int}(ha:0≤a)(ha':a < 2 ^ k)(hb:0≤b)(hb':b < 2 ^ j)(hj:j≤k)(hd:a % 2 ^ j=0):(((BitVec.ofInt k a ||| BitVec.ofInt k b).toNat:Nat):Int)=a+b:=by
 have hle:(2:Int) ^ j≤2 ^ k:=by exact_mod_cast Nat.pow_le_pow_right (by decide) hj
 rw [BitVec.toNat_or,ofInt_toNat ha ha',ofInt_toNat hb (by omega)]
 obtain ⟨A,rfl⟩:=Int.eq_ofNat_of_zero_le ha
 obtain ⟨B,rfl⟩:=Int.eq_ofNat_of_zero_le hb
 simp only[Int.toNat_natCast]
 have hB:B < 2 ^ j:=by exact_mod_cast hb'
 have hA:A % 2 ^ j=0:=by exact_mod_cast hd
 obtain ⟨c,rfl⟩:2 ^ j ∣ A:=Nat.dvd_of_mod_eq_zero hA
 rw [← Nat.two_pow_add_eq_or_of_lt hB c]
 simp
theorem wrap_nn{k:IntKind}{n:Int}(h:0≤n)(h':n < 2 ^ (k.bits - 1)):k.wrap n=n:=by
 have hp:(0:Int) < 2 ^ (k.bits - 1):=Int.pow_pos (by decide)
 have hb:(2:Int) ^ k.bits=2 ^ (k.bits - 1) * 2:=by rw [← Int.pow_succ]; congr 1; cases k <;> rfl
 simp only[IntKind.wrap]
 rw [Int.emod_eq_of_lt h (by omega)]
 rw [if_neg]
 simp only[Bool.and_eq_true,decide_eq_true_eq,not_and]
 intro _; omega
theorem wrap_un{k:IntKind}{n:Int}(hs:k.signed=false)(h:0≤n)(h':n < 2 ^ k.bits):k.wrap n=n:=by
 simp only[IntKind.wrap]
 rw [Int.emod_eq_of_lt h h',hs]; simp
theorem and2_two{k:IntKind}{j:Nat}{a:Int}(hj:j < k.bits):and2 k a (2 ^ j - 1)=a % 2 ^ j:=by
 unfold and2
 rw [and_two (by omega)]
 have hp:(0:Int) < 2 ^ j:=Int.pow_pos (by decide)
 have h1:=Int.emod_nonneg a (Int.ne_of_gt hp)
 have h2:=Int.emod_lt_of_pos a hp
 have hle:(2:Int) ^ j≤2 ^ (k.bits - 1):=by exact_mod_cast Nat.pow_le_pow_right (by decide) (by omega)
 exact wrap_nn h1 (by omega)
theorem or2_two{k:IntKind}{j:Nat}{a b:Int}(ha:0≤a)(ha':a < 2 ^ (k.bits - 1))(hb:0≤b)(hb':b < 2 ^ j)(hj:j < k.bits)(hd:a % 2 ^ j=0):or2 k a b=a+b:=by
 have hp:(0:Int) < 2 ^ j:=Int.pow_pos (by decide)
 have hk:(2:Int) ^ k.bits=2 ^ (k.bits - 1) * 2:=by rw [← Int.pow_succ]; congr 1; cases k <;> rfl
 unfold or2
 rw [or_two (j:=j) ha (by omega) hb hb' (by omega) hd]
 have hm:(2:Int) ^ (k.bits - 1) % 2 ^ j=0:=by
  apply Int.emod_eq_zero_of_dvd
  exact_mod_cast Nat.pow_dvd_pow 2 (by omega:j≤k.bits - 1)
 refine wrap_nn (by omega) ?_
 obtain ⟨x,hx⟩:=Int.dvd_of_emod_eq_zero hd
 obtain ⟨y,hy⟩:=Int.dvd_of_emod_eq_zero hm
 rw [hx,hy] at ha'
 rw [hx,hy]
 have:x < y:=Int.lt_of_mul_lt_mul_left ha' (Int.le_of_lt hp)
 calc 2 ^ j * x+b < 2 ^ j * x+2 ^ j:=by omega
  _=2 ^ j *(x+1):=by rw [Int.mul_add,Int.mul_one]
  _≤2 ^ j * y:=Int.mul_le_mul_of_nonneg_left (by omega) (Int.le_of_lt hp)
theorem or2_un{k:IntKind}{j:Nat}{a b:Int}(hs:k.signed=false)(ha:0≤a)(ha':a < 2 ^ k.bits)(hb:0≤b)(hb':b < 2 ^ j)(hj:j≤k.bits)(hd:a % 2 ^ j=0):or2 k a b=a+b:=by
 have hp:(0:Int) < 2 ^ j:=Int.pow_pos (by decide)
 unfold or2
 rw [or_two (j:=j) ha ha' hb hb' hj hd]
 have hm:(2:Int) ^ k.bits % 2 ^ j=0:=by
  apply Int.emod_eq_zero_of_dvd
  exact_mod_cast Nat.pow_dvd_pow 2 hj
 refine wrap_un hs (by omega) ?_
 obtain ⟨x,hx⟩:=Int.dvd_of_emod_eq_zero hd
 obtain ⟨y,hy⟩:=Int.dvd_of_emod_eq_zero hm
 rw [hx,hy] at ha'
 rw [hx,hy]
 have:x < y:=Int.lt_of_mul_lt_mul_left ha' (Int.le_of_lt hp)
 calc 2 ^ j * x+b < 2 ^ j * x+2 ^ j:=by omega
  _=2 ^ j *(x+1):=by rw [Int.mul_add,Int.mul_one]
  _≤2 ^ j * y:=Int.mul_le_mul_of_nonneg_left (by omega) (Int.le_of_lt hp)
theorem and_i64_1{a:Int}:and2 .i64 a 1=a % 2:=by simpa using and2_two (k:=.i64) (j:=1) (a:=a) (by decide)
theorem and_u64_48{a:Int}:and2 .u64 a 281474976710655=a % 281474976710656:=by simpa using and2_two (k:=.u64) (j:=48) (a:=a) (by decide)
theorem or_u32_24{a b:Int}(ha:0≤a)(ha':a < 4294967296)(hb:0≤b)(hb':b < 16777216)(hd:a % 16777216=0):or2 .u32 a b=a+b :=
 or2_un (k:=.u32) (j:=24) rfl ha (by simpa [IntKind.bits] using ha') hb (by simpa using hb') (by decide) (by simpa using hd)
theorem decide_t{p:Prop}{_:Decidable p}(h:p):decide p=true:=decide_eq_true h
theorem decide_f{p:Prop}{_:Decidable p}(h:¬ p):decide p=false:=decide_eq_false h
abbrev bys(b:List UInt8):List AV:=b.map bv
theorem toBytes_bys{b:List UInt8}:toBytes (b.map bv)=some b:=by
 induction b with
 | nil=>rfl
 | cons x b ih =>
  have:=x.toNat_lt
  simp only[List.map_cons,bv,toBytes] at ih ⊢
  rw [if_pos ⟨by omega,by omega⟩]
  rw [show toBytes (List.map bv b)=some b from ih]
  simp
end Go.Pv
namespace Go.Pv
section
variable {P:Program} {t e:TypeId} {d:Nat} {y:AV}
theorem ag_none(h:isAg P t=false)(hv:DatV P d t y):y.flat=[y]:=flat_one (hv.1.2 h)
def agD:TypeDesc→Bool
 | .struct _ | .array _ _=>true
 | _=>false
theorem isAg_of{u:TypeDesc}(h:P.underlying t=some u):isAg P t=agD u:=by
 unfold isAg; rw [h]; cases u <;> rfl
theorem dat_int{k:IntKind}(h:P.underlying t=some (.int k))(hv:DatV P (d+1) t y):∃ m,y=.int k m ∧(Lit.int k m).wf=true:=by
 have:=hv.2
 rw [ag_none (isAg_of h) hv] at this
 unfold Dat at this
 rw [h] at this
 obtain ⟨m,h1,h2⟩:=this
 exact⟨m,by simpa using h1,h2⟩
theorem dat_bool(h:P.underlying t=some .bool)(hv:DatV P (d+1) t y):∃ b,y=.bool b:=by
 have:=hv.2
 rw [ag_none (isAg_of h) hv] at this
 unfold Dat at this
 rw [h] at this
 obtain ⟨m,h1⟩:=this
 exact⟨m,by simpa using h1⟩
theorem dat_slice(h:P.underlying t=some (.slice e))(hv:DatV P (d+1) t y):∃ es,y=.sl (P.cellsOf e) es false∧es.length≤maxLen∧∀ x∈es,DatV P d e x:=by
 have:=hv.2
 rw [ag_none (isAg_of h) hv] at this
 unfold Dat at this
 rw [h] at this
 obtain ⟨m,h1,h2,h3⟩:=this
 exact⟨m,by simpa using h1,h2,fun x hx=>⟨(h3 x hx).1,(h3 x hx).2⟩⟩
theorem dat_struct{fs:Array Field}(h:P.underlying t=some (.struct fs))(hv:DatV P (d+1) t y):∃ cs,y=.agg cs∧cs.length=P.cellsOf t∧∀ f∈fs.toList,Dat P d f.type ((cs.drop f.offset).take (P.cellsOf f.type)):=by
 obtain ⟨cs,rfl⟩:=hv.1.1 (isAg_of h)
 have:=hv.2
 unfold Dat at this
 rw [h] at this
 exact⟨cs,rfl,this⟩
theorem map_of{α:Type}{f:α→AV}:∀ {es:List AV},(∀ x∈es,∃ a,x=f a)→∃ l:List α,es=l.map f
 | [],_=>⟨[],rfl⟩
 | x :: es,h=>by
  obtain ⟨a,rfl⟩:=h x (by simp)
  obtain ⟨l,rfl⟩:=map_of (es:=es) fun y hy=>h y (by simp [hy])
  exact⟨a :: l,rfl⟩
theorem wf_u8{m:Int}(h:(Lit.int .u8 m).wf=true):0≤m∧m≤255:=by
 simp [Lit.wf,IntKind.min,IntKind.max,IntKind.signed,IntKind.bits] at h; omega
theorem u8_wf{m:Int}(h:(Lit.int .u8 m).wf=true):∃ x:UInt8,AV.int .u8 m=bv x:=by
 have:=wf_u8 h
 refine⟨UInt8.ofNat m.toNat,?_⟩
 simp only[bv,UInt8.toNat_ofNat']
 congr 1
 omega
theorem dat1_int{k:IntKind}{xs:List AV}(h:P.underlying t=some (.int k))(hv:Dat P (d+1) t xs):∃ m,xs=[.int k m] ∧(Lit.int k m).wf=true:=by
 unfold Dat at hv; rw [h] at hv; exact hv
theorem dat1_str{xs:List AV}(h:P.underlying t=some .string)(hv:Dat P (d+1) t xs):∃ s,xs=[.str s]∧s.length≤maxLen:=by
 unfold Dat at hv; rw [h] at hv; exact hv
theorem dat1_slice{xs:List AV}(h:P.underlying t=some (.slice e))(hv:Dat P (d+1) t xs):∃ es,xs=[.sl (P.cellsOf e) es false]∧es.length≤maxLen∧∀ x∈es,DatV P d e x:=by
 unfold Dat at hv; rw [h] at hv
 obtain ⟨es,h1,h2,h3⟩:=hv
 exact⟨es,h1,h2,fun x hx=>⟨(h3 x hx).1,(h3 x hx).2⟩⟩
theorem dat1_bys{xs:List AV}(h:P.underlying t=some (.slice e))(he:P.underlying e=some (.int .u8))(hc:P.cellsOf e=1)(hv:Dat P (d+2) t xs):∃ b:List UInt8,xs=[.sl 1 (bys b) false]∧b.length≤maxLen:=by
 obtain ⟨es,rfl,h2,h3⟩:=dat1_slice h hv
 obtain ⟨b,rfl⟩:=map_of (f:=bv) (es:=es) fun x hx=>by
  obtain ⟨m,rfl,hm⟩:=dat_int he (h3 x hx)
  exact u8_wf hm
 exact⟨b,by rw [hc],by simpa using h2⟩
theorem datL3{t1 t2 t3:TypeId}{xs:List AV}(h:DatL P d [t1,t2,t3] xs):∃ y1 y2 y3,xs=[y1,y2,y3]∧DatV P d t1 y1∧DatV P d t2 y2∧DatV P d t3 y3:=by
 match xs,h with
 | [y1,y2,y3],h=>exact⟨y1,y2,y3,rfl,h.1,h.2.1,h.2.2.1⟩
end
end Go.Pv
namespace Go.Pv
variable [Lq]
def frzC:AV→AV
 | .own sz _ es=>.sl sz es false
 | x=>x
def frzA:AV→AV
 | .agg cs=>.agg (cs.map frzC)
 | x=>frzC x
def frz:AV→AV
 | .tup xs=>.tup (xs.map frzA)
 | x=>frzA x
section
variable {P:Program} {w:World} {I J:Nat→Prop}
theorem frz_own{ge:GE}{sz:Nat}{ty:TypeId}{es:List AV}{v:Value}(h:OwnRow w I ge sz ty es v)(hI:∀ b,I b→J b)(hb:∀ b,ge.blk=some b→J b∧b < w.heap.size):Sim w (bareG J) (.sl sz es false) v:=by
 obtain ⟨A,rfl,hA⟩:=h.val
 have hsz:=h.sz
 rcases h.ok with ⟨h1,h2,_⟩ | ⟨_,h2⟩
 ·cases h2
 ·rcases Nat.eq_zero_or_pos es.length with h0 | h0
  ·have:es=[]:=List.eq_nil_of_length_eq_zero h0
   subst this
   exact .sl0 sz false A _ fun h=>by cases h
  ·rcases h2 with ⟨_,h3,_⟩ | ⟨g,cs,fr,h2,h3,h4,h5,h6,h7⟩
   ·dsimp only at h3; rw [h3] at h0; cases h0
   ·dsimp only at h3 h6 h7
    obtain rfl:=hA g h2
    have ad:Adv (bareG I) (bareG J) w w:=⟨Nat.le_refl _,fun b hb=>⟨hI b hb,fun _=>rfl⟩,fun id ge hm=>by cases hm⟩
    have key:∀(i:Nat) (x:AV) (j:Nat) (y:AV),es[i]?=some x→x.flat[j]?=some y→∃ u,cs[i * ge.sz+j]?=some u∧u.oneCell'=true∧Sim w (bareG J) y u:=by
     intro i x j y hx hy
     obtain ⟨u,u1,u2,u3⟩:=(h7 i x hx).2 j y hy
     exact⟨u,u1,u2,u3.adv ad⟩
    have hle:=h.le
    refine .sl sz es false g 0 ge.C (fun i j=>(cs[i * sz+j]?).getD .nilIface) h0 hle (fun h=>by cases h) (hb g h2).2 (hb g h2).1 ?_ ?_ ?_
    ·intro x hx
     obtain ⟨i,hi⟩:=List.mem_iff_getElem?.1 hx
     rw [(h7 i x hi).1,hsz]
    ·intro i x j y hx hy
     obtain ⟨u,u1,u2,u3⟩:=key i x j y hx hy
     rw [hsz] at u1
     simp only[u1,Option.getD_some]
     refine⟨?_,u2⟩
     simp [World.cell?,h3,u1]
    ·intro i x j y hx hy
     obtain ⟨u,u1,u2,u3⟩:=key i x j y hx hy
     rw [hsz] at u1
     simp only[u1,Option.getD_some]
     exact u3
theorem frz_C{os:List GE}{x:AV}{v:Value}(h:OwnC w I os x v)(hI:∀ b,I b→J b)(hb:∀ b,blks os b→J b∧b < w.heap.size):OwnC w J [] (frzC x) v:=by
 have ad:Adv (bareG I) (bareG J) w w:=⟨Nat.le_refl _,fun b hb=>⟨hI b hb,fun _=>rfl⟩,fun id ge hm=>by cases hm⟩
 unfold OwnC at h
 split at h
 ·obtain ⟨ge,rfl,h⟩:=h
  exact⟨rfl,frz_own h hI fun b hbb=>hb b ⟨ge,by simp,hbb⟩⟩
 ·rename_i hne
  have e:frzC x=x:=by cases x <;> first | rfl | exact absurd rfl (hne _ _ _)
  rw [e]
  unfold OwnC
  split
  ·exact absurd rfl (hne _ _ _)
  ·exact⟨rfl,h.2.adv ad⟩
theorem frz_L{R R':List GE→AV→Value→Prop}{f:AV→AV}{os:List GE}{xs:List AV}{vs:List Value}(h:OwnL R os xs vs) :
  (∀ os' x v,(∀ b,blks os' b→blks os b)→R os' x v→R' [] (f x) v)→OwnL R' [] (xs.map f) vs:=by
 induction h with
 | nil=>intro _; exact .nil
 | @cons o1 o2 x xs v vs h1 h2 ih =>
  intro hR
  exact OwnL.cons (os:=[]) (os':=[]) (hR _ _ _ (fun b hb=>blks_app.2 (.inl hb)) h1) (ih fun os' x v hs hr=>hR os' x v (fun b hb=>blks_app.2 (.inr (hs b hb))) hr)
theorem frz_A{os:List GE}{x:AV}{v:Value}(h:OwnA w I os x v)(hI:∀ b,I b→J b)(hb:∀ b,blks os b→J b∧b < w.heap.size):OwnA w J [] (frzA x) v:=by
 unfold OwnA at h
 split at h
 ·obtain ⟨cs,rfl,h⟩:=h
  exact⟨cs,rfl,frz_L h fun os' x v hs hr=>frz_C hr hI fun b hb'=>hb b (hs b hb')⟩
 ·rename_i hne
  have e:frzA x=frzC x:=by cases x <;> first | rfl | exact absurd rfl (hne _)
  have hC:=frz_C h hI hb
  rw [e]
  unfold OwnA
  split
  ·rename_i xs heq
   cases x <;> first | (cases heq; done) | exact absurd rfl (hne _)
  ·exact hC
theorem frz_T{os:List GE}{x:AV}{v:Value}(h:OwnT w I os x v)(hI:∀ b,I b→J b)(hb:∀ b,blks os b→J b∧b < w.heap.size):OwnT w J [] (frz x) v:=by
 unfold OwnT at h
 split at h
 ·obtain ⟨cs,rfl,h⟩:=h
  exact⟨cs,rfl,frz_L h fun os' x v hs hr=>frz_A hr hI fun b hb'=>hb b (hs b hb')⟩
 ·rename_i hne
  have e:frz x=frzA x:=by cases x <;> first | rfl | exact absurd rfl (hne _)
  have hC:=frz_A h hI hb
  rw [e]
  unfold OwnT
  split
  ·rename_i xs heq
   cases x <;> first | (cases heq; done) | exact absurd rfl (hne _)
  ·exact hC
theorem run_frz{f:FuncId}{xs:List AV}{r:AV}(h:Run P f xs r):Run P f xs (frz r):=by
 refine⟨h.1,fun w I os args hq hos hown=>(h.2 w I os args hq hos hown).mono ?_⟩
 rintro e W ⟨v,I',os',rfl,hv,hok,hst⟩
 refine⟨v,fun b=>I' b∨blks os' b,[],rfl,frz_T hv (fun b hb=>.inl hb) (fun b hb=>⟨.inr hb,hok.lt b hb⟩),⟨?_,fun b hb=>absurd hb (blks_nil b),.nil⟩,⟨hst.osk,hst.tape,hst.output,hst.size,hst.keep,fun b hb=>absurd hb (blks_nil b),fun b hb=>.inl (hst.immk b hb),?_⟩⟩
 ·rintro b (hb | hb)
  ·exact⟨(hok.imm b hb).1,blks_nil b⟩
  ·exact⟨hok.lt b hb,blks_nil b⟩
 ·rintro b (hb | hb)
  ·exact hst.immn b hb
  ·exact .inr (hst.own b hb)
end
section
variable {P:Program} {N:St→Prop} {fr:Fr} {hp:Hp} {base:Nat}
end
theorem ev_t{fr:Fr}{n:Nat}:AX.ev fr (.t n)=get fr n:=(rfl)
theorem ev_c{fr:Fr}{v:AV}:AX.ev fr (.c v)=v:=(rfl)
section
variable {fr:Fr} {sz:Nat} {x lo hi mx:AX}
end
section
variable {sz id off len:Nat} {es:List AV} {full:Bool} {k k' k'':IntKind} {l h m:Int}
end
section
variable {hp:Hp} {sz id off len:Nat} {es:List AV} {full:Bool} {k k':IntKind} {l h:Int}
end
section
variable {fr:Fr} {x lo hi:AX}
variable {s:List UInt8} {k k':IntKind} {l h:Int}
end
def isnilV(neg:Bool)(x:AV):Option AV:=match x with
 | .sl _ [] _=>some .anyb
 | .sl _ (_ :: _) _=>some (.bool neg)
 | .vec _ _ _ len=>if 0 < len then some (.bool neg) else some .anyb
 | _=>none
theorem evP_isnil{fr:Fr}{neg:Bool}{x:AX}:evP fr (.isnil neg x)=isnilV neg (x.ev fr):=(rfl)
theorem isnilV_nil{neg:Bool}{sz:Nat}{f:Bool}:isnilV neg (.sl sz [] f)=some .anyb:=(rfl)
theorem isnilV_sl{neg:Bool}{sz:Nat}{es:List AV}{f:Bool}(h:0 < es.length):isnilV neg (.sl sz es f)=some (.bool neg):=by
 cases es with
 | nil=>cases h
 | cons x es=>rfl
section
variable {hp:Hp} {n:Nat}
theorem handT_nil{ms:List (List Mode)}:handT hp ms []=some ([],hp,[]):=(rfl)
theorem handT_cons0{x:AV}{xs:List AV}:handT hp [] (x :: xs) =(handA hp [] x).bind fun p=>(handT p.2.1 [] xs).map fun q=>(p.1 :: q.1,q.2.1,p.2.2 ++ q.2.2):=(rfl)
theorem handA_0{x:AV}:handA hp [] x=passOne hp .snap x:=by cases x <;> rfl
theorem handA_2{m m':Mode}{ms:List Mode}{xs:List AV}:handA hp (m :: m' :: ms) (.agg xs) =(pass hp (m :: m' :: ms) xs).map fun p=>(.agg p.1,p.2):=(rfl)
theorem hand_vec{m:Mode}{id sz off len:Nat}:hand hp [[m]] (.vec id sz off len)=passOne hp m (.vec id sz off len):=(rfl)
theorem hand_agg{m m':Mode}{ms:List Mode}{xs:List AV}:hand hp [m :: m' :: ms] (.agg xs) =(pass hp (m :: m' :: ms) xs).map fun p=>(.agg p.1,p.2):=(rfl)
theorem passOne_ownv{sz sz' id off len:Nat}{ty:TypeId}:passOne hp (.own sz ty) (.vec id sz' off len) =(ent hp id).bind fun e=>if e.wr∧off=0∧len≤e.es.length∧sz'=sz∧e.ty=ty then(mapO (snap hp 6) (e.es.take len)).map fun es=>(.own sz ty es,hp.set id (some { e with es:=[],wr:=false }),(e.es.take len).flatMap (rows hp 6)) else none:=(rfl)
theorem passOne_ownn{sz z:Nat}{ty:TypeId}:passOne hp (.own sz ty) (.sl z [] true)=some (.own sz ty [],hp,[]):=(rfl)
end
end Go.Pv
namespace Go.Pv
variable [Lq]
def EndsX(X:St→Option AV)(r:AV):AE→St→Prop
 | .exit _,_=>False
 | _,σ=>∃ x,X σ=some x∧∃ ms H1 l,hand σ.hp ms x=some (r,H1,l)∧liveB H1 l=true
section
variable {P:Program} {w:World} {γ:Gh} {H:Hp}
theorem run_ofX{X:St→Option AV}{f:FuncId}{fn:Func}{c:Code}(hD:∀ γ0 w0,DrawOk P Dq.no fn.ntmps false γ0 w0){c':AC}{xs:List AV}{r:AV}(hf:P.funcs[f]?=some fn)(hb:fn.body=some c)(hn:(fn.name == "runtime.NumGoroutine")=false)
  (hX:∀(γ:Gh) (σ:St) (a:Act) (W:World) (x:AV) (γ0:Gh) (w:World),SR Dq.no fn.ntmps false γ0 w γ σ a W→X σ=some x→∃ v,(results fn a.tmps).run P W=.ok v W∧Sim W γ x v) (hc:bareC c'=comp P c) (ho:okC fn.ntmps false c'=true) (hlen:xs.length≤fn.ntmps) (hx:aw P c' (EndsX X r) (entry xs)):Run P f xs r:=by
 refine⟨can_of hf (by rw [hb]; rfl) hn,fun w I os args hq hos hown=>?_⟩
 have h0:HRel (bareG I) [] w:=⟨fun id _=>rfl,fun id e he=>by simp [ent] at he,fun i j x y b hi=>(by cases hi),fun b hb=>⟨(hos.imm b hb).1,fun⟨i,x,hi,_⟩=>by cases hi⟩,fun i x b hi=>by cases hi⟩
 obtain ⟨γ0,m0,r0,l0,s0⟩:=layL_sim (I:=I) layC_p hown (bareG I) [] rfl h0 ⟨fun b hb hI=>(hos.imm b hI).2 hb,fun b _ i x hi=>(by cases hi),hos.ap⟩
 have hlx:(layL layC [] xs).1.length=args.size:=by simpa using l0
 have hxa:xs.length=args.size:=by have:=ownL_len hown; simpa using this
 have hq0:Lq.q w γ0.imm:=by first | exact hq | (rw [m0.imm]; exact hq)
 refine calls_of_wp hf hb ?_
 refine wp_mono (aw_sound (hD γ0 w) c c' (EndsX X r) γ0 (entry xs) _ w hc ho hx ⟨zip_frame hlx (fun i x v hx hv=>s0 i x v hx (by simpa using hv)) _,r0,Step.refl _ _,rfl,⟨by simp; omega,fun _ h=>(by cases h)⟩,fun h=>(by cases h),hq0⟩) ?_
 have hown0:∀ b,γ0.owns b↔blks os b:=fun b=>by
  rw [m0.own]
  exact⟨fun h=>h.elim (fun⟨i,x,hi,_⟩=>by cases hi) (fun h=>h),.inr⟩
 have fin:∀(γ:Gh) (σ:St) (a:Act) (W:World),SR Dq.no fn.ntmps false γ0 w γ σ a W →(∃ x,X σ=some x∧∃ ms H1 l,hand σ.hp ms x=some (r,H1,l)∧liveB H1 l=true) →
   a.defers=[]∧∃ v,(results fn a.tmps).run P W=.ok v W∧∃ v' I' os',Ending.returned v=.returned v'∧OwnT W I' os' r v'∧OsOk W I' os'∧StepB I os I' os' w W:=by
  rintro γ σ a W h ⟨x,hx,ms,H1,l,hh,hlive⟩
  obtain ⟨vv,hres,hsim⟩:=hX γ σ a W x _ _ h hx
  refine⟨h.df,_,hres,?_⟩
  obtain ⟨γ1,os',g1,r1,n1,k1⟩:=hand_p γ σ.hp H1 ms _ r _ l h.hp hsim hh
  have hliv:∀ id∈l,∀ ge,γ.m id=some ge→ge.st≠0→γ1.m id=some ge:=by
   intro id hid ge hm hst
   rcases g1.ids id ge hm with h | h
   ·exact h
   ·exfalso
    have:=List.all_eq_true.1 hlive id hid
    split at this
    ·rename_i e he
     obtain ⟨ge',hm',hok⟩:=r1.ok id e he
     rw [h] at hm'; cases hm'
     have hl:=hok.live (by
      simp only[Bool.or_eq_true,Bool.not_eq_true',List.isEmpty_eq_false_iff] at this
      exact this)
     have:=hl.1
     simp only at this
     split at this <;> cases this
    ·cases this
  have hosb:∀ b,blks os' b→γ.owns b∧∀ id ge,γ1.m id=some ge→ge.st≠0→ge.blk≠some b:=by
   rintro b ⟨ge,hge,hb⟩
   obtain ⟨id,h1,h2,h3⟩:=g1.src ge hge b hb
   refine⟨⟨id,ge,h1,h2,hb⟩,fun id' ge' hm hst hb'=>?_⟩
   have e:=h.hp.inj id id' ge ge' b h1 (g1.rev id' ge' hm hst) (by rw [h2]; decide) hst hb hb'
   subst e
   rw [h3] at hm; cases hm
   exact hst rfl
  refine⟨_,fun b=>γ.imm b∨∃ id∈l,∃ ge,γ.m id=some ge∧ge.st≠0∧ge.blk=some b,os',rfl,k1 _ (fun b hb=>.inl hb) (fun id hid ge b hm hst hb=>.inr ⟨id,hid,ge,hm,hst,hb⟩),⟨?_,?_,g1.ap⟩,?_⟩
  ·rintro b (hb | ⟨id,hid,ge,hm,hst,hb⟩)
   ·exact⟨(h.hp.imm b hb).1,fun h'=>(h.hp.imm b hb).2 (hosb b h').1⟩
   ·exact⟨h.hp.blkLt hm hst hb,fun h'=>(hosb b h').2 id ge (hliv id hid ge hm hst) hst hb⟩
  ·intro b hb
   obtain ⟨id,ge,h1,h2,h3⟩:=(hosb b hb).1
   exact h.hp.blkLt h1 (by rw [h2]; decide) h3
  ·have own':∀ b,γ.owns b→blks os b∨w.heap.size≤b:=fun b hb=>(h.st.own b hb).imp (fun h=>(hown0 b).1 h) id
   have imm':∀ b,γ.imm b→I b∨blks os b∨w.heap.size≤b:=fun b hb=>by
    rcases h.st.immn b hb with h1 | h1 | h1
    ·rw [m0.imm] at h1; exact .inl h1
    ·exact .inr (.inl ((hown0 b).1 h1))
    ·exact .inr (.inr h1)
   refine⟨h.st.os,h.st.tape,h.st.output,h.st.size,fun b hb hn=>h.st.keep b hb fun h'=>hn ((hown0 b).1 h'),fun b hb=>own' b (hosb b hb).1,fun b hb=>.inl (h.st.immk b (by rw [m0.imm]; exact hb)),?_⟩
   rintro b (hb | ⟨id,hid,ge,hm,hst,hb⟩)
   ·exact imm' b hb
   ·rcases st_cases h.hp hm with h1 | h1 | h1
    ·exact absurd h1 hst
    ·exact imm' b (h.hp.stl id ge b hm h1 hb)
    ·exact .inr (own' b ⟨id,ge,hm,h1,hb⟩)
 intro e a W he
 cases e with
 | normal=>obtain ⟨γ,σ,h1,h2⟩:=he; exact fin γ σ a W h1 h2
 | ret=>obtain ⟨γ,σ,h1,h2⟩:=he; exact fin γ σ a W h1 h2
 | exit id=>obtain ⟨_,_,_,h2⟩:=he; exact h2.elim
 | goto _=>exact he.elim
 | panic _=>exact he.elim
 | outgrown=>exact he.elim
inductive RV where
 | t (n:Nat)
 | c (n sz:Nat) (ag:Bool)
def rvX(fr:Fr)(hp:Hp):RV→Option AV
 | .t n=>some (get fr n)
 | .c n sz ag=>evR fr hp (.load sz ag (.t n))
def rvL(fr:Fr)(hp:Hp):List RV→Option (List AV)
 | []=>some []
 | r :: rs=>(rvX fr hp r).bind fun x=>(rvL fr hp rs).map fun xs=>x :: xs
def rvs(rs:List RV)(σ:St):Option AV:=match rs with
 | [r]=>rvX σ.fr σ.hp r
 | rs=>(rvL σ.fr σ.hp rs).map .tup
def rvOk(P:Program):RV→ResultVar→Bool
 | .t n,.tmp m=>n == m
 | .c n sz ag,.cell m t=>n == m && (tyOk P t && (P.cellsOf t == sz && isAg P t == ag))
 | _,_=>false
def rvsOk(P:Program):List RV→List ResultVar→Bool
 | [],[]=>true
 | r :: rs,q :: qs=>rvOk P r q && rvsOk P rs qs
 | _,_=>false
theorem rv_run{σ:St}{tmps:Array Value}{r:RV}{q:ResultVar}{x:AV}(hh:HRel γ σ.hp w)(hf:FrR w γ σ.fr tmps)(hq:rvOk P r q=true)(hx:rvX σ.fr σ.hp r=some x)
  (g:ResultVar→Sem Value) (g1:∀ t,g (.tmp t)=pure (tmps.getD t Go.undef)) (g2:∀ a t,g (.cell a t)=do loadVar t (← asAddr (tmps.getD a Go.undef))) :
  ∃ v,(g q).run P w=.ok v w∧Sim w γ x v:=by
 cases r with
 | t n =>
  cases q with
  | tmp m =>
   simp only[rvOk,beq_iff_eq] at hq
   subst hq
   simp only[rvX,Option.some.injEq] at hx
   subst hx
   rw [g1]
   exact⟨_,rfl,hf n⟩
  | cell m t=>cases hq
 | c n sz ag =>
  cases q with
  | tmp m=>cases hq
  | cell m t =>
   simp only[rvOk,Bool.and_eq_true,beq_iff_eq] at hq
   obtain ⟨rfl,ht,rfl,rfl⟩:=hq
   have hs:Sim w γ (AX.ev σ.fr (.t n)) (tmps.getD n Go.undef):=hf n
   obtain ⟨v,hv,hsim⟩:=load_run hh ht hs hx
   obtain ⟨a,ha⟩:∃ a,tmps.getD n Go.undef=.pointer (some a):=by
    simp only[rvX,evR] at hx
    generalize AX.ev σ.fr (.t n)=X at hs hx
    generalize tmps.getD n Go.undef=u at hs
    cases hs <;> first | exact⟨_,rfl⟩ | cases hx
   refine⟨v,?_,hsim⟩
   rw [g2]
   rw [ha] at hv ⊢
   exact hv
theorem rvL_run{σ:St}{tmps:Array Value}(hh:HRel γ σ.hp w)(hf:FrR w γ σ.fr tmps)(g:ResultVar→Sem Value)(g1:∀ t,g (.tmp t)=pure (tmps.getD t Go.undef))(g2:∀ a t,g (.cell a t)=do loadVar t (← asAddr (tmps.getD a Go.undef))) :
  ∀(rs:List RV) (qs:List ResultVar) (xs:List AV),rvsOk P rs qs=true→rvL σ.fr σ.hp rs=some xs →
  ∃ vs,(qs.mapM (m:=Sem) g).run P w=.ok vs w∧xs.length=vs.length∧∀(i:Nat) (x:AV) (v:Value),xs[i]?=some x→vs[i]?=some v→Sim w γ x v
 | [],[],xs,_,h=>by
  simp only[rvL,Option.some.injEq] at h
  subst h
  exact⟨[],rfl,rfl,fun i x v hx=>by simp at hx⟩
 | [],_ :: _,_,h,_=>by cases h
 | _ :: _,[],_,h,_=>by cases h
 | r :: rs,q :: qs,xs,hq,h=>by
  simp only[rvsOk,Bool.and_eq_true] at hq
  simp only[rvL] at h
  obtain ⟨x,hx,h⟩:=Option.bind_eq_some_iff.1 h
  obtain ⟨ys,hys,rfl⟩:=Option.map_eq_some_iff.1 h
  obtain ⟨v,hv,hs⟩:=rv_run hh hf hq.1 hx g g1 g2
  obtain ⟨vs,hvs,hl,hss⟩:=rvL_run hh hf g g1 g2 rs qs ys hq.2 hys
  refine⟨v :: vs,?_,by simp [hl],fun i y u hy hu=>?_⟩
  ·rw [List.mapM_cons]
   simp only[Sem.run_bind]
   rw [hv]
   simp only[Result.andThen_ok,hvs,Sem.run_pure]
  ·cases i with
   | zero=>simp at hy hu; subst hy hu; exact hs
   | succ i=>exact hss i y u (by simpa using hy) (by simpa using hu)
theorem rvs_run{fn:Func}{rs:List RV}{D:Dq}{n:Nat}{k:Bool}(hr:rvsOk P rs fn.results.toList=true)(γ:Gh)(σ:St)(a:Act)(W:World)(x:AV)(γ0:Gh)(w:World)(h:SR D n k γ0 w γ σ a W)(hx:rvs rs σ=some x):∃ v,(results fn a.tmps).run P W=.ok v W∧Sim W γ x v:=by
 have key:∀ xs,rvL σ.fr σ.hp rs=some xs→∃ vs:Array Value,(results fn a.tmps).run P W=.ok (if h:vs.size=1 then vs[0] else .tuple vs) W∧xs.length=vs.size∧∀(i:Nat) (x:AV) (v:Value),xs[i]?=some x→vs[i]?=some v→Sim W γ x v:=by
  intro xs hxs
  unfold results
  have e:fn.results=fn.results.toList.toArray:=by simp
  rw [e]
  simp only[List.mapM_toArray,Sem.run_bind,Sem.run_map]
  have gen:∀ g:ResultVar→Sem Value,(∀ t,g (.tmp t)=pure (a.tmps.getD t Go.undef)) →(∀ c t,g (.cell c t)=do loadVar t (← asAddr (a.tmps.getD c Go.undef))) →
    ∃ vs:Array Value,((((fn.results.toList.mapM (m:=Sem) g).run P W).andThen fun a w'=>Result.ok a.toArray w').andThen fun a w'=>Sem.run P (pure (if h:a.size=1 then a[0] else Value.tuple a)) w')=.ok (if h:vs.size=1 then vs[0] else .tuple vs) W∧xs.length=vs.size∧∀(i:Nat) (x:AV) (v:Value),xs[i]?=some x→vs[i]?=some v→Sim W γ x v:=by
   intro g g1 g2
   obtain ⟨vs,hvs,hl,hs⟩:=rvL_run h.hp h.fr (P:=P) g g1 g2 rs _ xs hr hxs
   refine⟨vs.toArray,?_,by simpa using hl,fun i x v hx hv=>hs i x v hx (by simpa using hv)⟩
   rw [hvs]
   simp only[Result.andThen_ok,Sem.run_pure]
  exact gen _ (fun t=>rfl) (fun c t=>rfl)
 have two:∀ xs,rs.length≠1→rvL σ.fr σ.hp rs=some xs→∃ v,(results fn a.tmps).run P W=.ok v W∧Sim W γ (.tup xs) v:=by
  intro xs hl hxs
  have hlen:∀(rs:List RV) (xs:List AV),rvL σ.fr σ.hp rs=some xs→xs.length=rs.length:=by
   intro rs
   induction rs with
   | nil=>intro xs h; simp only[rvL,Option.some.injEq] at h; subst h; rfl
   | cons r rs ih =>
    intro xs h
    simp only[rvL] at h
    obtain ⟨x,hx,h⟩:=Option.bind_eq_some_iff.1 h
    obtain ⟨ys,hys,rfl⟩:=Option.map_eq_some_iff.1 h
    simp [ih _ hys]
  obtain ⟨vs,h1,h2,h3⟩:=key xs hxs
  have:=hlen _ _ hxs
  rw [dif_neg (by omega)] at h1
  exact⟨_,h1,.tup _ _ h2 h3⟩
 match rs,hx,two,key with
 | [],hx,two,_ =>
  simp only[rvs,rvL,Option.map_some,Option.some.injEq] at hx
  subst hx
  exact two [] (by simp) rfl
 | [r],hx,_,key =>
  simp only[rvs] at hx
  obtain ⟨vs,h1,h2,h3⟩:=key [x] (by simp [rvL,hx])
  have h0:vs.size=1:=by simpa using h2.symm
  rw [dif_pos h0] at h1
  exact⟨_,h1,h3 0 x _ rfl (Array.getElem?_eq_getElem (by omega))⟩
 | r :: r' :: rs,hx,two,_ =>
  simp only[rvs] at hx
  obtain ⟨xs,hxs,rfl⟩:=Option.map_eq_some_iff.1 hx
  exact two xs (by simp) hxs
theorem run_ofC{f:FuncId}{fn:Func}{c:Code}(hD:∀ γ0 w0,DrawOk P Dq.no fn.ntmps false γ0 w0){c':AC}{rs:List RV}{xs:List AV}{r:AV}(hf:P.funcs[f]?=some fn)(hb:fn.body=some c)(hn:(fn.name == "runtime.NumGoroutine")=false)
  (hr:rvsOk P rs fn.results.toList=true) (hc:bareC c'=comp P c) (ho:okC fn.ntmps false c'=true) (hlen:xs.length≤fn.ntmps) (hx:aw P c' (EndsX (rvs rs) r) (entry xs)):Run P f xs r :=
 run_ofX hD hf hb hn (fun γ σ a W x γ0 w h hx=>rvs_run hr γ σ a W x γ0 w h hx) hc ho hlen hx
end
theorem layC_app(hp:Hp)(x:AV):∃ l,(layC hp x).2=hp ++ l:=by
 unfold layC; split
 ·exact⟨_,rfl⟩
 ·exact⟨[],by simp⟩
theorem layL_app{f:Hp→AV→AV × Hp}(hf:∀ hp x,∃ l,(f hp x).2=hp ++ l):∀(xs:List AV) (hp:Hp),∃ l,(layL f hp xs).2=hp ++ l
 | [],hp=>⟨[],by simp [layL]⟩
 | x :: xs,hp=>by
  obtain ⟨l,h⟩:=hf hp x
  obtain ⟨l',h'⟩:=layL_app hf xs (f hp x).2
  exact⟨l ++ l',by simp only[layL]; rw [h',h,List.append_assoc]⟩
theorem layA_app(hp:Hp)(x:AV):∃ l,(layA hp x).2=hp ++ l:=by
 unfold layA; split
 ·exact layL_app layC_app _ _
 ·exact layC_app _ _
theorem lay_app(hp:Hp)(x:AV):∃ l,(lay hp x).2=hp ++ l:=by
 unfold lay; split
 ·exact layL_app layA_app _ _
 ·exact layA_app _ _
theorem rvs_1{r:RV}{fr:Fr}{hp:Hp}:rvs [r] ⟨fr,hp⟩=rvX fr hp r:=(rfl)
theorem rvs_2{r r':RV}{rs:List RV}{fr:Fr}{hp:Hp}:rvs (r :: r' :: rs) ⟨fr,hp⟩ =(rvL fr hp (r :: r' :: rs)).map .tup:=(rfl)
end Go.Pv
