/- Part 18 of a proof that a step of one domain changes nothing of another: the machine of plain values, and what the program's functions do. -/
import Derived.Test.YtdgcdnnmodnkjaaGreatDoorG17
set_option linter.all false
set_option linter.unusedVariables false
set_option linter.unusedSectionVars false
set_option linter.unusedSimpArgs false
set_option linter.defProp false
namespace Go.Pv
variable [Lq]
theorem cl_int{k:IntKind}{a:Int}:cells (.int k a) 0 1 false=some (.int k a):=rfl
theorem cl_bool{a:Bool}:cells (.bool a) 0 1 false=some (.bool a):=rfl
theorem cl_str{a:List UInt8}:cells (.str a) 0 1 false=some (.str a):=rfl
theorem cl_sl{z:Nat}{es:List AV}{f:Bool}:cells (.sl z es f) 0 1 false=some (.sl z es f):=rfl
theorem cl_SL{α:Type}{enc:α→AV}{k:Nat}{s:SL α enc k}:cells s.v 0 1 false=some s.v:=by rw [SL.e]; rfl
theorem cl_vec{id z off n:Nat}:cells (.vec id z off n) 0 1 false=some (.vec id z off n):=rfl
theorem cl_eptr{id i off:Nat}:cells (.eptr id i off) 0 1 false=some (.eptr id i off):=rfl
theorem cl_rptr{x:AV}{off:Nat}:cells (.rptr x off) 0 1 false=some (.rptr x off):=rfl
theorem cl_fn{f:FuncId}{cs:List AV}:cells (.fn f cs) 0 1 false=some (.fn f cs):=rfl
theorem cl_agf{cs:List AV}{off n:Nat}:cells (.agg cs) off n false=cs[off]?:=rfl
theorem cl_agt{cs:List AV}{off n:Nat}:cells (.agg cs) off n true=if ((cs.drop off).take n).length=n then some (.agg ((cs.drop off).take n)) else none:=rfl
def stc(x:AV):Bool:=match x with
 | .agg _=>false
 | _=>true
theorem stc_int{k:IntKind}{a:Int}:stc (.int k a)=true:=rfl
theorem stc_bool{a:Bool}:stc (.bool a)=true:=rfl
theorem stc_str{a:List UInt8}:stc (.str a)=true:=rfl
theorem stc_sl{z:Nat}{es:List AV}{f:Bool}:stc (.sl z es f)=true:=rfl
theorem stc_SL{α:Type}{enc:α→AV}{k:Nat}{s:SL α enc k}:stc s.v=true:=by rw [SL.e]; rfl
theorem stc_vec{id z off n:Nat}:stc (.vec id z off n)=true:=rfl
theorem stc_eptr{id i off:Nat}:stc (.eptr id i off)=true:=rfl
theorem stc_rptr{x:AV}{off:Nat}:stc (.rptr x off)=true:=rfl
theorem stc_fn{f:FuncId}{cs:List AV}:stc (.fn f cs)=true:=rfl
theorem stc_lit{v:Value}:stc (.lit v)=true:=rfl
theorem one_int{k:IntKind}{a:Int}:(AV.int k a).one=true:=rfl
theorem one_bool{a:Bool}:(AV.bool a).one=true:=rfl
theorem one_str{a:List UInt8}:(AV.str a).one=true:=rfl
theorem one_sl{z:Nat}{es:List AV}{f:Bool}:(AV.sl z es f).one=true:=rfl
theorem one_vec{id z off n:Nat}:(AV.vec id z off n).one=true:=rfl
theorem one_eptr{id i off:Nat}:(AV.eptr id i off).one=true:=rfl
theorem one_rptr{x:AV}{off:Nat}:(AV.rptr x off).one=true:=rfl
theorem one_fn{f:FuncId}{cs:List AV}:(AV.fn f cs).one=true:=rfl
theorem flat_on1{v:AV}(h2:stc v=true):v.flat=[v]:=by cases v <;> first | rfl | cases h2
theorem ones_on1{v:AV}(h2:stc v=true):v.ones=v.one:=by
 unfold AV.ones; rw [flat_on1 h2]; simp
theorem ones_agg{cs:List AV}:(AV.agg cs).ones=cs.all AV.one:=rfl
theorem flat_agg{cs:List AV}:(AV.agg cs).flat=cs:=rfl
theorem set_one{x v:AV}(h1:stc x=true)(h2:stc v=true)(h3:v.one=true):setCells x v 0 1=some v:=by
 have e1:=ones_on1 h2
 have e2:=flat_on1 h2
 cases x <;> try (cases h1; done)
 all_goals (simp only[setCells,e1,e2,h3,List.length_cons,List.length_nil]; cases v <;> first | rfl | cases h2)
theorem set_agg{cs:List AV}{v:AV}{off:Nat}(h2:stc v=true)(h3:v.one=true):setCells (.agg cs) v off 1=if off < cs.length then some (.agg (cs.set off v)) else none:=by
 have e1:=ones_on1 h2
 have e2:=flat_on1 h2
 simp only[setCells,e1,e2,h3,List.length_cons,List.length_nil,Bool.true_and]
 by_cases h:off < cs.length
 ·rw [if_pos h]
  simp only[beq_self_eq_true,if_true]
  rw [if_pos (by omega)]
  congr 2
  rw [List.set_eq_take_append_cons_drop,if_pos h]
  rfl
 ·rw [if_neg h]
  simp only[beq_self_eq_true,if_true]
  rw [if_neg (by omega)]
theorem fnArgs_lo{f:Nat}{xs cs:List AV}(h:f < 1000000):fnArgs f xs cs=xs ++ cs:=by simp [fnArgs,h]
theorem fnArgs_hi{f:Nat}{xs cs:List AV}(h:¬ f < 1000000):fnArgs f xs cs=cs ++ xs:=by simp [fnArgs,h]
section
variable {α:Type} {enc:α→AV} {l:List α} {hp:Hp} {n:Nat}
theorem ids_i{k:IntKind}{l:List Int}:(l.map (AV.int k)).flatMap (idsOf hp (n+1))=[]:=by
 rw [List.flatMap_eq_nil_iff]; intro x hx; obtain ⟨y,_,rfl⟩:=List.mem_map.1 hx; rfl
theorem ren_i{k:IntKind}{r:List Nat}{l:List Int}:(l.map (AV.int k)).map (renX r (n+1))=l.map (AV.int k):=by
 rw [List.map_map]; apply List.map_congr_left; intro x _; rfl
theorem snap_i{k:IntKind}{l:List Int}:mapO (snap hp (n+1)) (l.map (AV.int k))=some (l.map (AV.int k)):=mapO_id fun x hx=>by obtain ⟨y,_,rfl⟩:=List.mem_map.1 hx; rfl
theorem rows_i{k:IntKind}{l:List Int}:(l.map (AV.int k)).flatMap (rows hp (n+1))=[]:=by
 rw [List.flatMap_eq_nil_iff]; intro x hx; obtain ⟨y,_,rfl⟩:=List.mem_map.1 hx; rfl
end
def frs:Nat→List AV→Fr
 | _,[]=>[]
 | k,x :: xs=>(k,x) :: frs (k+1) xs
theorem frs_0{k:Nat}:frs k []=[]:=rfl
theorem frs_c{k:Nat}{x:AV}{xs:List AV}:frs k (x :: xs) =(k,x) :: frs (k+1) xs:=rfl
theorem frs_e:∀(xs:List AV) (k:Nat),(xs.zipIdx k).map (fun p=>(p.2,p.1))=frs k xs
 | [],_=>rfl
 | x :: xs,k=>by simp only[List.zipIdx_cons,List.map_cons,frs_e xs (k+1),frs_c]
theorem lay_no:∀ {xs:List AV} {hp:Hp},xs.all noOwnC=true→layL layC hp xs =(xs,hp)
 | [],_,_=>rfl
 | x :: xs,hp,h=>by
  simp only[List.all_cons,Bool.and_eq_true] at h
  have e:layC hp x =(x,hp):=by cases x <;> first | rfl | cases h.1
  simp only[layL,e,lay_no h.2]
theorem no_nr1{x:AV}(h:x.nr1=true):noOwnC x=true:=by cases x <;> first | rfl | cases h
theorem no_fn{f:FuncId}{cs:List AV}:noOwnC (.fn f cs)=true:=rfl
theorem entry_no{xs:List AV}(h:xs.all noOwnC=true):entry xs =⟨frs 0 xs,[]⟩:=by
 unfold entry; rw [lay_no h,frs_e]
open W
def w0 :=
 And.intro @d_R <| And.intro @d_D <| And.intro @d_A <| And.intro @d_q <| And.intro @d_i <| And.intro @d_bl <| And.intro @d_s <| And.intro @d_x <| And.intro @d_r <| And.intro @d_scope <| And.intro @thenC_n <| And.intro @thenC_r <| And.intro @thenC_e <| And.intro @blkC_n <| And.intro @blkC_r <| And.intro @blkC_e <| And.intro @condC_t <| And.intro @condC_f <| And.intro @tK_0 <| And.intro @tK_1 <| And.intro @gcC_e <| And.intro @gcN_0 <| And.intro @gcN_c <| And.intro @apsC_0 <| And.intro @apsC_c <| And.intro @ap1_ee <| And.intro @ap1_re <| And.intro @ap1_rr <| And.intro @getF_c <| And.intro @evF_t <| And.intro @evF_c <| And.intro @ksF_0 <| And.intro @ksF_c <| And.intro @gets_0 <| And.intro @gets_c <| And.intro @fix1_t <| @fix1_c
def w1 :=
 And.intro @o_0 <| And.intro @pX_e <| And.intro @eX_s <| And.intro @eX_n <| And.intro @W.o_p <| And.intro @o_m <| And.intro @o_k <| And.intro @o_n <| And.intro @o_pt <| And.intro @o_pf <| And.intro @o_b <| And.intro @o_c <| And.intro @o_nt <| And.intro @o_cv <| And.intro @o_fa <| And.intro @o_ia <| And.intro @o_l <| And.intro @W.o_e <| And.intro @o_ck <| And.intro @o_fn <| And.intro @o_rd <| And.intro @o_ld <| And.intro @o_la <| And.intro @o_lg <| And.intro @o_ef <| And.intro @o_al <| And.intro @o_bx <| And.intro @o_st <| And.intro @o_sr <| And.intro @o_ca <| And.intro @o_cd <| And.intro @o_cw <| And.intro @o_oc <| And.intro @o_ov <| And.intro @wK_e <| And.intro @gC_tt <| And.intro @gC_ff <| And.intro @gC_tf <| And.intro @gC_ft <| @gC_s
def w2 :=
 And.intro @o_gt <| And.intro @o_gf <| And.intro @t_m <| And.intro @t_pt <| And.intro @t_pf <| And.intro @t_b <| And.intro @t_c <| And.intro @t_nt <| And.intro @t_fa <| And.intro @t_ia <| And.intro @t_l <| And.intro @t_ck <| And.intro @t_fn <| And.intro @t_p <| And.intro @t_ld <| And.intro @t_la <| And.intro @t_rd <| And.intro @t_ef <| And.intro @t_ca <| And.intro @t_cd <| And.intro @t_cw <| And.intro @t_o <| @consO_s
def w3 :=
 And.intro @vO_s <| And.intro @v_pick_t <| And.intro @v_pick_f <| And.intro @v_add <| And.intro @v_sub <| And.intro @v_mul <| And.intro @v_quo <| And.intro @v_rem <| And.intro @v_and <| And.intro @v_or <| And.intro @v_xor <| And.intro @v_andNot <| And.intro @v_eql <| And.intro @v_neq <| And.intro @v_lss <| And.intro @v_leq <| And.intro @v_gtr <| And.intro @v_geq <| And.intro @v_shl <| And.intro @v_shr <| And.intro @v_conv <| And.intro @v_min <| And.intro @v_max <| And.intro @v_seql <| And.intro @v_sneq <| And.intro @v_not <| And.intro @v_faddr_e <| And.intro @v_faddr_r <| And.intro @vGet_z <| @v_ia_sl
def w4 :=
 And.intro @v_ia_vec <| And.intro @v_aa_e <| And.intro @v_idxs <| And.intro @v_idxa <| And.intro @v_sl0 <| And.intro @v_sl1 <| And.intro @v_sl2 <| And.intro @v_ve0 <| And.intro @v_ve1 <| And.intro @v_ext_z <| And.intro @v_ext_s <| And.intro @v_len_sl <| And.intro @v_len_v <| And.intro @v_lenS <| And.intro @v_nilck_e <| And.intro @v_nilck_r <| And.intro @vB_s <| And.intro @evs_0 <| And.intro @evs_c <| And.intro @v_build <| And.intro @v_isnp_e <| And.intro @clC_e <| And.intro @ldE_s <| And.intro @v_ld_r <| And.intro @v_ld_e <| And.intro @v_b2s_SL <| @v_b2s_vec
def w5 :=
 And.intro @vNew_n <| And.intro @vNew_s <| And.intro @ptC_e <| And.intro @rwC_e <| And.intro @e_alloc <| And.intro @e_box <| And.intro @evQ_0 <| And.intro @evQ_c <| And.intro @mkE_s <| And.intro @e_mks <| And.intro @e_make <| And.intro @stK_s <| And.intro @stC_e <| And.intro @stE_s <| And.intro @e_store <| And.intro @vEls_sl <| And.intro @vEls_vec <| And.intro @vElsE_s <| And.intro @apN_e <| And.intro @e_app_nil <| And.intro @nlo_nil <| And.intro @nlo_b2s <| And.intro @nlo_rptr <| And.intro @nlo_eptr <| And.intro @nloE_some <| And.intro @ent_z <| And.intro @ent_s <| And.intro @still_nil <| And.intro @still_cons <| And.intro @stillE_some <| And.intro @nilsC_0 <| And.intro @nilsC_g <| And.intro @nilsC_c <| And.intro @nil1_n <| And.intro @nil1_v <| And.intro @lX_e <| And.intro @endC_r <| And.intro @endG_r <| And.intro @endG_n <| @finG_e
def w6 :=
 And.intro @cl_int <| And.intro @cl_bool <| And.intro @cl_str <| And.intro @cl_sl <| And.intro @cl_vec <| And.intro @cl_eptr <| And.intro @cl_rptr <| And.intro @cl_fn <| And.intro @cl_agf <| And.intro @cl_agt <| And.intro @stc_int <| And.intro @stc_bool <| And.intro @stc_str <| And.intro @stc_sl <| And.intro @stc_vec <| And.intro @stc_eptr <| And.intro @stc_rptr <| And.intro @stc_fn <| And.intro @stc_lit <| And.intro @one_int <| And.intro @one_bool <| And.intro @one_str <| And.intro @one_sl <| And.intro @one_vec <| And.intro @one_eptr <| And.intro @one_rptr <| And.intro @one_fn <| And.intro @ones_on1 <| And.intro @flat_on1 <| And.intro @ones_agg <| And.intro @flat_agg <| And.intro @set_one <| And.intro @set_agg <| And.intro @fnArgs_lo <| @fnArgs_hi
def w7 :=
 And.intro @frs_0 <| And.intro @frs_c <| And.intro @no_nr1 <| And.intro @no_fn <| And.intro @nd <| And.intro @if_true.{1} <| And.intro @if_false.{1} <| And.intro @List.map_cons.{0,0} <| And.intro @List.map_nil.{0,0} <| And.intro @List.cons_append.{0} <| And.intro @List.nil_append.{0} <| And.intro @List.append_nil.{0} <| And.intro @List.length_cons.{0} <| And.intro @List.length_nil.{0} <| And.intro @List.length_append.{0} <| And.intro @List.length_map.{0,0} <| And.intro @List.length_set.{0} <| And.intro @List.all_cons.{0} <| And.intro @List.all_nil.{0} <| And.intro @List.replicate_succ.{0} <| And.intro @List.replicate_zero.{0} <| And.intro @List.set_cons_zero.{0} <| And.intro @List.set_cons_succ.{0} <| And.intro @List.getElem?_cons_zero.{0} <| And.intro @List.getElem?_cons_succ.{0} <| And.intro @List.drop_zero.{0} <| And.intro @List.drop_succ_cons.{0} <| And.intro @List.take_succ_cons.{0} <| And.intro @List.take_zero.{0} <| And.intro @Int.toNat_natCast <| And.intro @Int.toNat_zero <| And.intro @Nat.zero_add <| And.intro @Nat.add_zero <| And.intro @Bool.not_true <| And.intro @Bool.not_false <| And.intro @Bool.and_true <| @Bool.true_and
def w8 :=
 And.intro @true_and <| And.intro @and_true <| And.intro @eq_self.{1} <| And.intro @Option.isNone_none.{0} <| And.intro @List.flatMap_cons.{0,0} <| And.intro @List.flatMap_nil.{0,0} <| And.intro @List.contains_cons.{0} <| And.intro @List.contains_nil.{0} <| And.intro @Bool.or_false <| And.intro @Bool.false_or <| And.intro @List.reverse_cons.{0} <| And.intro @List.reverse_nil.{0} <| And.intro @dedup.eq_1 <| And.intro @dedup.eq_2 <| And.intro @place.eq_1 <| And.intro @place.eq_2 <| And.intro @renE_some <| And.intro @ids_bool <| And.intro @ids_int <| And.intro @ids_str <| And.intro @ids_sl <| And.intro @ids_rptr <| And.intro @ids_agg <| And.intro @ids_fn <| And.intro @ids_vec <| And.intro @ids_eptr <| And.intro @ren_bool <| And.intro @ren_int <| And.intro @ren_str <| And.intro @ren_sl <| And.intro @ren_rptr <| And.intro @ren_agg <| And.intro @ren_fn <| And.intro @ren_vec <| And.intro @ren_eptr <| And.intro @vecO_some <| @eptrO_some
def w9 :=
 And.intro @ids_pl <| And.intro @ren_pl <| And.intro @ids_i <| And.intro @ren_i <| And.intro @Option.map_some.{0,0} <| And.intro @Option.bind_some.{0,0} <| And.intro @Option.getD_some.{0} <| And.intro @wrap_i64 <| And.intro @wrap_u8 <| And.intro @wrap_u32 <| And.intro @wrap_u64 <| And.intro @rvs_1 <| And.intro @rvs_2 <| And.intro @rvL.eq_1 <| And.intro @rvL.eq_2 <| And.intro @rvX.eq_1 <| And.intro @get.eq_2 <| And.intro @decide_eq_true_eq <| And.intro @Bool.not_eq_true <| And.intro @Bool.decide_eq_true <| And.intro @decide_true <| And.intro @decide_false <| And.intro @not_true_eq_false <| And.intro @not_false_eq_true <| And.intro @buildC.eq_1 <| And.intro @setParts.eq_1 <| @setParts.eq_2
def w10 :=
 And.intro @g_m <| And.intro @g_pt <| And.intro @g_pf <| And.intro @g_b <| And.intro @g_c <| And.intro @g_nt <| And.intro @g_fa <| And.intro @g_ia <| And.intro @g_l <| And.intro @g_ck <| And.intro @g_fn <| And.intro @g_p <| And.intro @g_ld <| And.intro @g_la <| And.intro @g_rd <| And.intro @g_ef <| And.intro @g_ca <| And.intro @g_cd <| And.intro @g_cw <| @g_o
def wa:=And.intro @decide_t <| And.intro @decide_f <| And.intro @v_ia_SL <| And.intro @v_len_SL <| And.intro @vGet_map <| And.intro @v_SL0 <| And.intro @v_SL1 <| And.intro @v_SL2 <| And.intro @vEls_SL <| And.intro @map_snoc_i <| And.intro @map_set_i <| And.intro @map_take_len <| And.intro @SL.one <| And.intro @SL.ids <| And.intro @SL.ren <| And.intro @cl_SL <| @stc_SL
def wb:=And.intro @SL.nr1 <| And.intro @SL.pl <| And.intro @SL.szOk <| @SL.notStr
def ts:=And.intro @ts0 <| And.intro @ts1 <| And.intro @ts2 <| And.intro @ts3 <| And.intro @ts4 <| And.intro @ts5 <| And.intro @ts6 <| And.intro @ts7 <| And.intro @ts8 <| @ts9
theorem szOk_vec{sz id z off n:Nat}:szOk sz (.vec id z off n) =(z == sz):=rfl
def wf:=And.intro @fixP.eq_1 <| And.intro @fixP.eq_2 <| And.intro @fixP.eq_3 <| And.intro @fixP.eq_4 <| And.intro @fixP.eq_5 <| And.intro @fixP.eq_6 <| And.intro @fixP.eq_7 <| And.intro @fixP.eq_8 <| And.intro @fixP.eq_9 <| And.intro @fixP.eq_10 <| And.intro @fixP.eq_11 <| And.intro @fixP.eq_12 <| And.intro @fixP.eq_13 <| And.intro @fixP.eq_14 <| And.intro @fixP.eq_15 <| And.intro @fixP.eq_16 <| And.intro @fixP.eq_17 <| And.intro @fixP.eq_18 <| And.intro @fixP.eq_19 <| And.intro @fixP.eq_20 <| And.intro @fixP.eq_21 <| And.intro @fixP.eq_22 <| And.intro @fixP.eq_23 <| And.intro @fixP.eq_24 <| And.intro @fixP.eq_25 <| And.intro @fixP.eq_26 <| And.intro @fixP.eq_27 <| And.intro @fixP.eq_28 <| And.intro @fixR.eq_1 <| And.intro @fixR.eq_2 <| And.intro @fixR.eq_3 <| And.intro @fixE.eq_1 <| And.intro @fixE.eq_2 <| And.intro @fixE.eq_3 <| And.intro @fixE.eq_4 <| And.intro @fixE.eq_5 <| And.intro @fixE.eq_6 <| And.intro @fixE.eq_7 <| And.intro @fixE.eq_8 <| And.intro @fixE.eq_9 <| And.intro @fixE.eq_10 <| And.intro @Option.map_none.{0,0} <| @Option.map_some.{0,0}
def wk:=And.intro @put.eq_1 <| And.intro @put.eq_2 <| And.intro @apV_s <| And.intro @szOk_vec <| And.intro @beq_self_eq_true.{0} <| And.intro @wf <| And.intro @w0 <| And.intro @w1 <| And.intro @w2 <| And.intro @w3 <| And.intro @w4 <| And.intro @w5 <| And.intro @w6 <| And.intro @w7 <| And.intro @w8 <| And.intro @w9 <| And.intro @wa <| @ts
section
variable {hp:Hp} {E:AV→Hp→Prop} {n:Nat}
theorem vLay_nr{r:AV}(h:r.nr1=true):vLay r hp E=E r hp:=by
 unfold vLay; rw [lay_nr h]
theorem vLay_own{sz:Nat}{ty:TypeId}{es:List AV}:vLay (.own sz ty es) hp E=E (.vec hp.length sz 0 es.length) (hp ++ [some ⟨ty,es,true⟩]):=(rfl)
theorem vLay_tup{vs:List AV}:vLay (.tup vs) hp E=E (.tup (layL layA hp vs).1) (layL layA hp vs).2:=(rfl)
theorem vLay_agg{vs:List AV}:vLay (.agg vs) hp E=E (.agg (layL layC hp vs).1) (layL layC hp vs).2:=(rfl)
theorem layA_own{sz:Nat}{ty:TypeId}{es:List AV}:layA hp (.own sz ty es) =(.vec hp.length sz 0 es.length,hp ++ [some ⟨ty,es,true⟩]):=(rfl)
theorem layC_own{sz:Nat}{ty:TypeId}{es:List AV}:layC hp (.own sz ty es) =(.vec hp.length sz 0 es.length,hp ++ [some ⟨ty,es,true⟩]):=(rfl)
theorem nr1_int{k:IntKind}{a:Int}:(AV.int k a).nr1=true:=rfl
theorem nr1_bool{a:Bool}:(AV.bool a).nr1=true:=rfl
theorem nr1_str{a:List UInt8}:(AV.str a).nr1=true:=rfl
theorem nr1_sl{z:Nat}{es:List AV}{f:Bool}:(AV.sl z es f).nr1=true:=rfl
theorem nr1_rptr{x:AV}{off:Nat}:(AV.rptr x off).nr1=true:=rfl
theorem nr1_lit{v:Value}:(AV.lit v).nr1=true:=rfl
theorem nr1_agg{cs:List AV}:(AV.agg cs).nr1=cs.all AV.nr0:=rfl
theorem nr0_int{k:IntKind}{a:Int}:(AV.int k a).nr0=true:=rfl
theorem nr0_sl{z:Nat}{es:List AV}{f:Bool}:(AV.sl z es f).nr0=true:=rfl
theorem snap_1{x:AV}(h:x.nr1=true):snap hp (n+2) x=some x:=snap_nr1 h
theorem rows_1{x:AV}(h:x.nr1=true):rows hp (n+2) x=[]:=rows_nr1 h
theorem snap_eptr{id i off:Nat}:snap hp (n+1) (.eptr id i off) =(ent hp id).bind fun e=>(e.es[i]?).bind fun x=>(snap hp n x).map fun x=>.rptr x off:=(rfl)
theorem rows_eptr{id i off:Nat}:rows hp (n+1) (.eptr id i off)=id :: (((ent hp id).bind fun e=>e.es[i]?).toList).flatMap (rows hp n):=(rfl)
theorem snap_fn{f:FuncId}{cs:List AV}:snap hp (n+1) (.fn f cs) =(mapO (snap hp n) cs).map (.fn f):=(rfl)
theorem rows_fn{f:FuncId}{cs:List AV}:rows hp (n+1) (.fn f cs)=cs.flatMap (rows hp n):=(rfl)
theorem nrR_tup{xs:List AV}:nrR (.tup xs)=xs.all AV.nr1:=rfl
theorem nrR_1{x:AV}(h:x.nr1=true):nrR x=true:=by cases x <;> first | exact h | cases h
end
def vl:=And.intro @vLay_nr <| And.intro @vLay_own <| And.intro @vLay_tup <| And.intro @vLay_agg <| And.intro @layA_own <| And.intro @layC_own <| And.intro @layA_nr <| And.intro @layC_nr <| And.intro @layL.eq_1 <| And.intro @layL.eq_2 <| And.intro @nr1_int <| And.intro @nr1_bool <| And.intro @nr1_str <| And.intro @nr1_sl <| And.intro @nr1_rptr <| And.intro @nr1_lit <| And.intro @nr1_agg <| And.intro @nr0_int <| And.intro @nr0_sl <| And.intro @nrR_tup <| @nrR_1
def wp:=And.intro @Nat.le_refl <| And.intro @if_pos.{1} <| And.intro @List.isEmpty_cons.{0} <| And.intro @Bool.true_or <| And.intro @Bool.or_true <| And.intro @pass_nil <| And.intro @pass_cons0 <| And.intro @passOne_snap <| And.intro @snp_agg <| And.intro @snp_vec <| And.intro @rws_agg <| And.intro @rws_vec <| And.intro @mapO_nil <| And.intro @mapO_cons <| And.intro @elems_sl <| And.intro @elems_vec <| And.intro @snap_1 <| And.intro @rows_1 <| And.intro @snap_eptr <| And.intro @rows_eptr <| And.intro @snap_fn <| And.intro @rows_fn <| And.intro @snap_i <| And.intro @rows_i <| And.intro @still_nil <| And.intro @still_cons <| And.intro @stillE_some <| And.intro @liveB.eq_1 <| And.intro @Option.toList_some.{0} <| @vl
def wd:=And.intro @w6 <| And.intro @w7 <| And.intro @w8 <| And.intro @w10 <| And.intro @wa <| And.intro @wb <| And.intro @vl <| @ts
theorem nr0_pl0{x:AV}(h:x.nr0=true):x.pl0=true:=by cases x <;> first | rfl | cases h
theorem nr1_pl{x:AV}(h:x.nr1=true):x.pl=true:=by
 by_cases hx:∃ cs,x=.agg cs
 ·obtain ⟨cs,rfl⟩:=hx
  show cs.all AV.pl0=true
  rw [List.all_eq_true]
  exact fun y hy=>nr0_pl0 (List.all_eq_true.1 h y hy)
 ·have e:x.nr1=x.nr0:=by cases x <;> first | rfl | exact absurd ⟨_,rfl⟩ hx
  have e2:x.pl=x.pl0:=by cases x <;> first | rfl | exact absurd ⟨_,rfl⟩ hx
  rw [e2]; rw [e] at h; exact nr0_pl0 h
theorem capI{cs:List AV}{hp:Hp}{n:Nat}(h:cs.all AV.nr1=true):cs.flatMap (idsOf hp (n+2))=[]:=ids_all (by rw [List.all_eq_true]; exact fun y hy=>nr1_pl (List.all_eq_true.1 h y hy))
theorem capR{cs:List AV}{l:List Nat}{n:Nat}(h:cs.all AV.nr1=true):cs.map (renX l (n+2))=cs:=ren_all (by rw [List.all_eq_true]; exact fun y hy=>nr1_pl (List.all_eq_true.1 h y hy))
theorem bd_i{p q:Prop}{i:Decidable p}{j:Decidable q}(h:p↔q):AV.bool (@decide p i)=AV.bool (@decide q j):=by
 by_cases hp:p
 ·rw [decide_eq_true hp,decide_eq_true (h.1 hp)]
 ·rw [decide_eq_false hp,decide_eq_false fun hq=>hp (h.2 hq)]
theorem bd_t{q:Prop}{j:Decidable q}(h:q):AV.bool true=AV.bool (@decide q j):=by rw [decide_eq_true h]
theorem bd_f{q:Prop}{j:Decidable q}(h:¬ q):AV.bool false=AV.bool (@decide q j):=by rw [decide_eq_false h]
theorem buildC_all{z ds:List AV}{n:Nat}{C:AV→Prop}(h:z.length=n)(h2:(AV.agg ds).ones=true)(h3:ds.length=n):vB (buildC z [(0,n,.agg ds)]) C=C (.agg ds):=by
 have e:(AV.agg ds).flat=ds:=rfl
 simp only[buildC,h2,e,h3,h,true_and,Nat.zero_add]
 rw [if_pos (Nat.le_refl _)]
 simp [vB,List.drop_of_length_le (Nat.le_of_eq h)]
theorem vB_nt{z:List AV}{C:AV→Prop}{N:Nt}(h:z.length=8):vB (buildC z [(0,8,N.v)]) C=C N.v:=by
 have:=N.on
 rw [Nt.e] at *; exact buildC_all h this rfl
theorem hand_v0{hp:Hp}{id z off n:Nat}:hand hp [] (.vec id z off n)=passOne hp .snap (.vec id z off n):=(rfl)
theorem hand_a0{hp:Hp}{cs:List AV}:hand hp [] (.agg cs)=passOne hp .snap (.agg cs):=(rfl)
theorem hand_t0{hp:Hp}{cs:List AV}:hand hp [] (.tup cs) =(handT hp [] cs).map fun p=>(.tup p.1,p.2):=(rfl)
def wh:=And.intro @hand_v0 <| And.intro @hand_a0 <| And.intro @hand_t0 <| And.intro @handT_nil <| And.intro @handT_cons0 <| And.intro @handA_0 <| And.intro @List.isEmpty_cons.{0} <| @wp
end Go.Pv
set_option maxHeartbeats 4000000
set_option maxRecDepth 100000
namespace Go.Proofs
open Go Go.Pv Go.Proofs.Tx
variable [Lq]
theorem run_w{f:FuncId}{c:AC}{xs:List AV}{Q:AV→Prop}(rs:List RV)(m:Nat)(h:okRun Tryz.prog true [] f m rs=true)(hc:cod Tryz.prog true [] f=c)(hl:xs.length≤m)(hn:xs.all noOwnC=true)(hx:aD Tryz.prog c (endC rs Q) (frs 0 xs) []):∃ r,Run Tryz.prog f xs r∧Q r :=
 rv rs m h rfl hl (by rw [shal_eq,hc,entry_no hn]; exact hx)
theorem gen_w{f:FuncId}{c:AC}{xs:List AV}{H:Hp}{Q:AV→Hp→Prop}(rs:List RV)(m:Nat)(h:okRun Tryz.prog false [] f m rs=true)(hc:cod Tryz.prog false [] f=c)(hl:xs.length≤m)(hx:aD Tryz.prog c (endG rs Q) (frs 0 xs) H):∃ r H',Gen Tryz.prog f xs H r H'∧Q r H':=by
 refine gen_q progOk h hl ?_
 rw [shal_eq,hc,frs_e]
 refine awD_mono _ _ _ _ ?_ (aD_sound _ _ _ _ hx)
 intro e σ hx
 cases e with
 | normal=>obtain ⟨x,h1,h2⟩:=hx; exact⟨x,σ.hp,h2,h1,rfl⟩
 | ret=>obtain ⟨x,h1,h2⟩:=hx; exact⟨x,σ.hp,h2,h1,rfl⟩
 | exit i=>exact hx.elim
end Go.Proofs
namespace Go.Proofs
open Go Go.Pv Go.Proofs.Tx
variable [Lq]
open W
def Ka:=@wk
theorem Da{p:Prop}(h:p:=by first | assumption | omega | (simp only[wd,zl]; done) | fail):p:=h
theorem Aa{P:Program}{f:FuncId}{args:List AV}{hp:Hp}{E:AV→Hp→Prop}{Q:AV→Prop}{dr fm:Bool}{no:List TypeId}(h:∃ r,Run P f args r∧Q r)(hk:∀ r,Q r→vLay r hp E)(hn:args.all AV.nr1=true:=by first | (simp only[wd]; done) | fail):wCall P f args hp dr fm no E:=call_nr h hn hk
theorem Fa{hp:Hp}{x:AV}{Q:AV→Prop}(h:Q x)(hn:nrR x=true:=by first | (simp only[wd]; done) | fail):fin (some x) Q hp:=fin_nr hn h
theorem e9{p:Prop}(h:p:=by first | rfl | exact bd_i Iff.rfl | exact⟨_,rfl⟩ | (refine⟨_,rfl,?_⟩; first | omega | grind) | (refine bd_i ?_; first | omega | grind) | (refine bd_t ?_; first | omega | grind) | (refine bd_f ?_; first | omega | grind) | fail):p:=h
theorem e8{p q:Prop}(k:q)(h:p:=by first | omega | grind | fail):p∧q:=⟨h,k⟩
end Go.Proofs
set_option maxHeartbeats 4000000
set_option maxRecDepth 100000
namespace Go.Proofs
open Go Go.Pv Go.Proofs.Tx
variable [Lq]
open W
def IsIdx{α:Type}[Inhabited α](φ:α→Prop)(l:List α)(i:Int):Prop :=
 (i=-1∧∀ j,j < l.length→¬ φ (nth l j))∨∃ k:Nat,i=k∧k < l.length∧φ (nth l k)∧∀ j,j < k→¬ φ (nth l j)
def idxB(sz:Nat)(ag g:Bool):AC:=q (R [0,1,7,8,9] [b .lss 9 8 7]) (q (i 9 (s) (x 0)) (q (bl 1 (q (R [0,1,5,7,8] [m 10 8,m 5 10]) (q (R [0,1,5,7,8,16] [m 11 1,m 12 0,m 13 5,ia 14 sz 12 13,lg ag 15 sz 14,cw 16 11 [15]]) (i 16 (q (R [4] [m 17 5,m 4 17]) (r)) (s))))) (R [0,1,7,8] [c .add 18 8 1,m 8 18])))
def idxC(sz:Nat)(ag g:Bool):AC:=q (R [0,1] [n 4 0]) (q (q (R [0,1,7,8] [m 6 0,l 7 6,n 8 0]) (bl 0 (lo g [0,1,7,8] [] (idxB sz ag g)))) (q (R [4] [n 4 (-1)]) (r)))
structure Clo(α:Type)(enc:α→AV)(φ:α→Prop)(l:List α)(g:FuncId)(caps:List AV):Prop where
 lt:g < ifB
 nr:caps.all AV.nr1=true
 run:∀ x,x∈l→∃ r,Run Tryz.prog (fnId g) (fnArgs g [enc x] caps) r∧∃ b,r=.bool b ∧(b=true↔φ x)
theorem fnA_nr{g:FuncId}{xs caps:List AV}(h:xs.all AV.nr1=true)(h':caps.all AV.nr1=true):(fnArgs g xs caps).all AV.nr1=true:=by
 unfold fnArgs; split <;> rw [List.all_append,h,h'] <;> rfl
theorem idx_run{α:Type}[Inhabited α]{enc:α→AV}{sz:Nat}{ag:Bool}{f:FuncId}(ho:okRun Tryz.prog true [] f 2 [.t 4]=true)(hc:cod Tryz.prog true [] f=idxC sz ag true)
  (hl:∀ x,cells (enc x) 0 sz ag=some (enc x)) (hn:∀ x,(enc x).nr1=true) (u:SL α enc sz) {g:FuncId} {caps:List AV} {φ:α→Prop} (h:Clo α enc φ u.l g caps) :
  ∃ r,Run Tryz.prog f [u.v,.fn g caps] r∧∃ i,r=.int .i64 i∧IsIdx φ u.l i:=by
 refine run_w (c:=idxC sz ag true) [.t 4] 2 ho hc (Nat.le_refl 2) (by simp only[wd]) ?_
 have hu:=u.n
 have hg:=h.lt
 have ci:∀ hp n,caps.flatMap (idsOf hp (n+2))=[]:=fun hp n=>capI h.nr
 have cr:∀ l n,caps.map (renX l (n+2))=caps:=fun l n=>capR h.nr
 unfold idxC
 simp (disch:=try exact Da) only[Ka,seval,reduceCtorEq]
 refine d_lo (fun k:Nat=>⟨[(0,u.v),(1,.fn g caps),(7,.int .i64 u.l.length),(8,.int .i64 k)],[]⟩) (fun k=>k≤u.l.length∧∀ j,j < k→¬ φ (nth u.l j)) (fun k=>u.l.length - k) ?_ ?_
 ·simp (disch:=try exact Da) only[Ka,ci,cr,seval,reduceCtorEq]
  exact⟨0,rfl,by omega,fun j hj=>by omega⟩
 rintro k ⟨hk,hall⟩
 unfold idxB
 simp (disch:=try exact Da) only[Ka,seval,reduceCtorEq]
 refine condC_d (fun hlt=>?_) (fun hlt=>?_)
 ·simp (disch:=try exact Da) only[Ka,hl,seval,reduceCtorEq]
  refine⟨by omega,?_⟩
  have hr:=h.run _ (nth_mem (l:=u.l) (k:=k) (by omega))
  refine callv_nr hr (fnA_nr (by simp only[wd,hn]) h.nr) ?_ hg
  rintro _ ⟨b,rfl,hb⟩
  simp only[vl]
  simp (disch:=try exact Da) only[Ka,seval,reduceCtorEq]
  refine condC_b (fun hbt=>?_) (fun hbf=>?_)
  ·simp (disch:=try exact Da) only[Ka,seval,reduceCtorEq]
   refine fin_nr (by simp only[nrR,wd]) ?_
   exact⟨_,rfl,.inr ⟨k,rfl,by omega,hb.1 hbt,hall⟩⟩
  ·simp (disch:=try exact Da) only[Ka,ci,cr,seval,reduceCtorEq]
   refine⟨k+1,rfl,⟨by omega,fun j hj=>?_⟩,by omega⟩
   by_cases e:j=k
   ·rw [e,← hb,hbf]; exact Bool.false_ne_true
   ·exact hall j (by omega)
 ·simp (disch:=try exact Da) only[Ka,seval,reduceCtorEq]
  refine fin_nr (by simp only[nrR,wd]) ?_
  exact⟨_,rfl,.inl ⟨rfl,fun j hj=>hall j (by omega)⟩⟩
end Go.Proofs
set_option maxHeartbeats 4000000
set_option maxRecDepth 100000
namespace Go.Proofs
open Go Go.Pv Go.Proofs.Tx
variable [Lq]
open W
theorem idx_uniq{α:Type}[Inhabited α]{φ:α→Prop}{l:List α}{i j:Int}(h:IsIdx φ l i)(h':IsIdx φ l j):i=j:=by
 rcases h with ⟨rfl,h⟩ | ⟨a,rfl,h1,h2,h3⟩ <;> rcases h' with ⟨rfl,h'⟩ | ⟨b,rfl,h4,h5,h6⟩
 ·rfl
 ·exact absurd h5 (h b h4)
 ·exact absurd h2 (h' a h1)
 ·rcases Nat.lt_trichotomy a b with e | e | e
  ·exact absurd h2 (h6 a e)
  ·rw [e]
  ·exact absurd h5 (h3 b e)
theorem IsIdx.nn{α:Type}[Inhabited α]{φ:α→Prop}{l:List α}{i:Int}(h:IsIdx φ l i):0≤i↔∃ k,k < l.length∧φ (nth l k):=by
 rcases h with ⟨rfl,h⟩ | ⟨a,rfl,h1,h2,h3⟩
 ·exact⟨fun e=>by omega,fun⟨k,h1,h2⟩=>absurd h2 (h k h1)⟩
 ·exact⟨fun _=>⟨a,h1,h2⟩,fun _=>by omega⟩
theorem IsIdx.at{α:Type}[Inhabited α]{φ:α→Prop}{l:List α}{i:Int}(h:IsIdx φ l i)(h0:0≤i):i < l.length∧φ (nth l i.toNat):=by
 rcases h with ⟨rfl,h⟩ | ⟨a,rfl,h1,h2,h3⟩
 ·omega
 ·exact⟨by omega,by simpa using h2⟩
theorem IsIdx.lt{α:Type}[Inhabited α]{φ:α→Prop}{l:List α}{i:Int}(h:IsIdx φ l i):-1≤i∧i < l.length:=by
 rcases h with ⟨rfl,h⟩ | ⟨a,rfl,h1,h2,h3⟩ <;> omega
theorem ex_mem{α:Type}[Inhabited α]{φ:α→Prop}{l:List α}:(∃ k,k < l.length∧φ (nth l k))↔∃ x,x∈l∧φ x :=
 ⟨fun⟨k,h1,h2⟩=>⟨_,nth_mem h1,h2⟩,fun⟨x,h1,h2⟩=>by obtain ⟨k,h3,h4⟩:=nth_of h1; exact⟨k,h3,by rw [h4]; exact h2⟩⟩
def cfC(f':FuncId):AC:=q (R [0,1] [k 4 (.bool false)]) (q (R [4] [m 5 0,m 6 1,ca 7 f' [5,6],c .geq 8 7 0,m 4 8]) (r))
theorem cf_run{α:Type}[Inhabited α]{enc:α→AV}{sz:Nat}{f f':FuncId}(ho:okRun Tryz.prog true [] f 2 [.t 4]=true)(hc:cod Tryz.prog true [] f=cfC f')(u:SL α enc sz){g:FuncId}{caps:List AV}{φ:α→Prop}(hg:g < ifB)(hn:caps.all AV.nr1=true)
  (h:∃ r,Run Tryz.prog f' [u.v,.fn g caps] r∧∃ i,r=.int .i64 i∧IsIdx φ u.l i) :
  ∃ r,Run Tryz.prog f [u.v,.fn g caps] r∧∃ b,r=.bool b ∧(b=true↔∃ x,x∈u.l∧φ x):=by
 refine run_w (c:=cfC f') [.t 4] 2 ho hc (Nat.le_refl 2) (by simp only[wd]) ?_
 have cs:∀ hp n,mapO (snap hp (n+2)) caps=some caps:=fun hp n=>mapO_id fun x hx=>snap_nr1 (List.all_eq_true.1 hn x hx)
 have cr:∀ hp n,caps.flatMap (rows hp (n+2))=[]:=fun hp n=>by rw [List.flatMap_eq_nil_iff]; exact fun x hx=>rows_nr1 (List.all_eq_true.1 hn x hx)
 unfold cfC
 simp (disch:=try exact Da) only[Ka,seval,reduceCtorEq]
 refine call_rn (l:=[]) (ys:=[u.v,.fn g caps]) (by simp (disch:=try exact Da) only[Ka,wp,cs,cr,seval,reduceCtorEq]) rfl h ?_
 rintro _ ⟨i,rfl,hi⟩
 simp only[vl,wp]
 simp (disch:=try exact Da) only[Ka,seval,reduceCtorEq]
 refine fin_nr (by simp only[nrR,wd]) ?_
 exact⟨_,rfl,by rw [decide_eq_true_eq,hi.nn,ex_mem]⟩
def ixB(g:Bool):AC:=q (R [0,1,7,8,9] [b .lss 9 8 7]) (q (i 9 (s) (x 0)) (q (bl 1 (q (R [0,1,5,7,8] [m 10 8,m 5 10]) (q (R [0,1,5,7,8,16] [m 11 1,m 12 0,m 13 5,ia 14 1 12 13,ld 15 1 14,b .eql 16 11 15]) (i 16 (q (R [4] [m 17 5,m 4 17]) (r)) (s))))) (R [0,1,7,8] [c .add 18 8 1,m 8 18])))
def ixC(g:Bool):AC:=q (R [0,1] [n 4 0]) (q (q (R [0,1,7,8] [m 6 0,l 7 6,n 8 0]) (bl 0 (lo g [0,1,7,8] [] (ixB g)))) (q (R [4] [n 4 (-1)]) (r)))
theorem ix_run{kd:IntKind}{f:FuncId}(ho:okRun Tryz.prog true [] f 2 [.t 4]=true)(hc:cod Tryz.prog true [] f=ixC true)(u:SL Int (AV.int kd) 1)(v:Int) :
  ∃ r,Run Tryz.prog f [u.v,.int kd v] r∧∃ i,r=.int .i64 i∧IsIdx (fun x=>x=v) u.l i:=by
 refine run_w (c:=ixC true) [.t 4] 2 ho hc (Nat.le_refl 2) (by simp only[wd]) ?_
 have hu:=u.n
 unfold ixC
 simp (disch:=try exact Da) only[Ka,seval,reduceCtorEq]
 refine d_lo (fun k:Nat=>⟨[(0,u.v),(1,.int kd v),(7,.int .i64 u.l.length),(8,.int .i64 k)],[]⟩) (fun k=>k≤u.l.length∧∀ j,j < k→¬ nth u.l j=v) (fun k=>u.l.length - k) ?_ ?_
 ·simp (disch:=try exact Da) only[Ka,seval,reduceCtorEq]
  exact⟨0,rfl,by omega,fun j hj=>by omega⟩
 rintro k ⟨hk,hall⟩
 unfold ixB
 simp (disch:=try exact Da) only[Ka,seval,reduceCtorEq]
 refine condC_d (fun hlt=>?_) (fun hlt=>?_)
 ·simp (disch:=try exact Da) only[Ka,seval,reduceCtorEq]
  refine⟨by omega,?_⟩
  refine condC_d (fun h=>?_) (fun h=>?_)
  ·simp (disch:=try exact Da) only[Ka,seval,reduceCtorEq]
   refine fin_nr (by simp only[nrR,wd]) ?_
   exact⟨_,rfl,.inr ⟨k,rfl,by omega,h.symm,hall⟩⟩
  ·simp (disch:=try exact Da) only[Ka,seval,reduceCtorEq]
   refine⟨k+1,rfl,⟨by omega,fun j hj=>?_⟩,by omega⟩
   by_cases e:j=k
   ·rw [e]; exact fun e=>h e.symm
   ·exact hall j (by omega)
 ·simp (disch:=try exact Da) only[Ka,seval,reduceCtorEq]
  refine fin_nr (by simp only[nrR,wd]) ?_
  exact⟨_,rfl,.inl ⟨rfl,fun j hj=>hall j (by omega)⟩⟩
def coC(f':FuncId):AC:=q (R [0,1] [k 4 (.bool false)]) (q (R [4] [m 5 0,m 6 1,ca 7 f' [5,6],c .geq 8 7 0,m 4 8]) (r))
theorem co_run{kd:IntKind}{f f':FuncId}(ho:okRun Tryz.prog true [] f 2 [.t 4]=true)(hc:cod Tryz.prog true [] f=coC f')(u:SL Int (AV.int kd) 1)(v:Int)
  (h:∃ r,Run Tryz.prog f' [u.v,.int kd v] r∧∃ i,r=.int .i64 i∧IsIdx (fun x=>x=v) u.l i) :
  ∃ r,Run Tryz.prog f [u.v,.int kd v] r∧r=.bool (decide (v∈u.l)):=by
 refine run_w (c:=coC f') [.t 4] 2 ho hc (Nat.le_refl 2) (by simp only[wd]) ?_
 unfold coC
 simp (disch:=try exact Da) only[Ka,seval,reduceCtorEq]
 refine call_nr h (by simp only[wd]) ?_
 rintro _ ⟨i,rfl,hi⟩
 simp only[vl]
 simp (disch:=try exact Da) only[Ka,seval,reduceCtorEq]
 refine fin_nr (by simp only[nrR,wd]) ?_
 have:0≤i↔v∈u.l:=by rw [hi.nn,ex_mem (φ:=fun x=>x=v)]; exact⟨fun⟨x,h1,h2⟩=>h2 ▸ h1,fun h=>⟨v,h,rfl⟩⟩
 simp only[this]
theorem s79(u:IL)(v:Int):∃ r,Run Tryz.prog 79 [u.v,.int .i64 v] r∧∃ i,r=.int .i64 i∧IsIdx (fun x=>x=v) u.l i:=ix_run (by kernel_rfl) (by kernel_rfl) u v
theorem s40(u:IL)(v:Int):∃ r,Run Tryz.prog 40 [u.v,.int .i64 v] r∧r=.bool (decide (v∈u.l)):=co_run (by kernel_rfl) (by kernel_rfl) u v (s79 u v)
theorem s316(u:UL)(v:Int):∃ r,Run Tryz.prog 316 [u.v,.int .u32 v] r∧∃ i,r=.int .i64 i∧IsIdx (fun x=>x=v) u.l i:=ix_run (by kernel_rfl) (by kernel_rfl) u v
theorem s226(u:UL)(v:Int):∃ r,Run Tryz.prog 226 [u.v,.int .u32 v] r∧r=.bool (decide (v∈u.l)):=co_run (by kernel_rfl) (by kernel_rfl) u v (s316 u v)
end Go.Proofs
set_option maxHeartbeats 4000000
set_option maxRecDepth 100000
namespace Go.Proofs
open Go Go.Pv Go.Proofs.Tx
variable [Lq]
open W
open Classical
def plC:AC:=q (R [0,1] [k 4 (.bool false)]) (q (R [4] [m 5 1,c .geq 6 5 0,m 7 6,gt 7 (m 8 1),gt 7 (m 9 0),gt 7 (l 10 9),gt 7 (b .lss 11 8 10),pf 12 7 11,m 4 12]) (r))
theorem pl_run{α:Type}{enc:α→AV}{sz:Nat}{f:FuncId}(ho:okRun Tryz.prog true [] f 2 [.t 4]=true)(hc:cod Tryz.prog true [] f=plC)(u:SL α enc sz)(i:Int) :
  ∃ r,Run Tryz.prog f [u.v,.int .i64 i] r∧r=.bool (decide (0≤i∧i < u.l.length)):=by
 refine run_w (c:=plC) [.t 4] 2 ho hc (Nat.le_refl 2) (by simp only[wd]) ?_
 unfold plC
 repeat' (first
 |simp (disch:=try exact Da) only[Ka,seval,reduceCtorEq]
 |(with_reducible apply gC_d1)<;>intro _
 |with_reducible refine e8 ?_
 |(refine Fa ?_;first|exact e9|fail)
 |fail)
theorem s155(u:SL Dv Dv.v 5)(i:Int):∃ r,Run Tryz.prog 155 [u.v,.int .i64 i] r∧r=.bool (decide (0≤i∧i < u.l.length)):=pl_run (by kernel_rfl) (by kernel_rfl) u i
theorem s240(u:SL Ib Ib.v 5)(i:Int):∃ r,Run Tryz.prog 240 [u.v,.int .i64 i] r∧r=.bool (decide (0≤i∧i < u.l.length)):=pl_run (by kernel_rfl) (by kernel_rfl) u i
theorem s245(u:SL Lk Lk.v 3)(i:Int):∃ r,Run Tryz.prog 245 [u.v,.int .i64 i] r∧r=.bool (decide (0≤i∧i < u.l.length)):=pl_run (by kernel_rfl) (by kernel_rfl) u i
theorem s246(u:SL Pt Pt.v 7)(i:Int):∃ r,Run Tryz.prog 246 [u.v,.int .i64 i] r∧r=.bool (decide (0≤i∧i < u.l.length)):=pl_run (by kernel_rfl) (by kernel_rfl) u i
theorem s247(u:SL Dm Dm.v 6)(i:Int):∃ r,Run Tryz.prog 247 [u.v,.int .i64 i] r∧r=.bool (decide (0≤i∧i < u.l.length)):=pl_run (by kernel_rfl) (by kernel_rfl) u i
theorem s249(u:SL Vf Vf.v 5)(i:Int):∃ r,Run Tryz.prog 249 [u.v,.int .i64 i] r∧r=.bool (decide (0≤i∧i < u.l.length)):=pl_run (by kernel_rfl) (by kernel_rfl) u i
theorem s188(i n:Int):∃ r,Run Tryz.prog 188 [.int .i64 i,.int .i64 n] r∧r=.bool (decide (0≤i∧i < n)):=by
 refine run_w (c:=c188 true) [.t 4] 2 (by kernel_rfl) (by kernel_rfl) (Nat.le_refl 2) (by simp only[wd]) ?_
 unfold c188
 repeat' (first
 |simp (disch:=try exact Da) only[Ka,seval,reduceCtorEq]
 |(with_reducible apply gC_d1)<;>intro _
 |with_reducible refine e8 ?_
 |(refine Fa ?_;first|exact e9|fail)
 |fail)
def Mem(p:Pt)(v:Int):Prop:=v≠0 ∧(v=p.native∨v∈p.tagged.l)
theorem s190(p:Pt)(v:Int):∃ r,Run Tryz.prog 190 [p.v,.int .i64 v] r∧r=.bool (decide (Mem p v)):=by
 refine run_w (c:=c190 true) [.t 4] 2 (by kernel_rfl) (by kernel_rfl) (Nat.le_refl 2) (by simp only[wd]) ?_
 unfold c190
 unfold Mem
 repeat' (first
 |simp (disch:=try exact Da) only[Ka,seval,reduceCtorEq]
 |(with_reducible first|apply gC_d0|apply gC_d1)<;>intro _
 |with_reducible refine e8 ?_
 |(refine Aa (s40 _ _) ?_;rintro _ rfl;all_goals simp only[vl,ts,wb])
 |(refine Fa ?_;first|exact e9|fail)
 |fail)
def Ris(l:List Int)(a b:Int):Prop:=(∀ i,i < l.length→a≤nth l i∧nth l i≤b ∧(0 < i→nth l (i - 1) < nth l i))∧0 < l.length∧l.length≤16
theorem s248(u:IL)(a b:Int):∃ r,Run Tryz.prog 248 [u.v,.int .i64 a,.int .i64 b] r∧r=.bool (decide (Ris u.l a b)):=by
 refine run_w (c:=c248 true) [.t 6] 3 (by kernel_rfl) (by kernel_rfl) (Nat.le_refl 3) (by simp only[wd]) ?_
 unfold c248
 have hu:=u.n
 simp (disch:=try exact Da) only[Ka,seval,reduceCtorEq]
 refine d_lo (fun k:Nat=>⟨[(0,u.v),(1,.int .i64 a),(2,.int .i64 b),(9,u.v),(10,.int .i64 u.l.length),(11,.int .i64 k)],[]⟩) (fun k=>k≤u.l.length∧∀ i,i < k→a≤nth u.l i∧nth u.l i≤b ∧(0 < i→nth u.l (i - 1) < nth u.l i)) (fun k=>u.l.length - k) ?_ ?_
 ·simp (disch:=try exact Da) only[Ka,seval,reduceCtorEq]
  exact⟨0,rfl,by omega,fun j hj=>by omega⟩
 rintro k ⟨hk,hall⟩
 unfold c248b0
 unfold Ris
 have hm:((k:Int) - 1).toNat=k - 1:=by omega
 repeat' (first
 |simp (disch:=try exact Da) only[Ka,hm,seval,reduceCtorEq]
 |(with_reducible first|apply condC_d|apply gC_d0|apply gC_d1)<;>intro _
 |with_reducible refine e8 ?_
 |(refine⟨k+1,rfl,⟨?_,fun j hj=>?_⟩,?_⟩; omega;(by_cases e:j=k <;> grind); omega)
 |(refine Fa ?_;first|exact e9|fail)
 |fail)
def Rsg(l:List Int)(b:Int):Prop:=l.length=0∨Ris l 1 b
theorem s158(u:IL)(b:Int):∃ r,Run Tryz.prog 158 [u.v,.int .i64 b] r∧r=.bool (decide (Rsg u.l b)):=by
 refine run_w (c:=c158 true) [.t 4] 2 (by kernel_rfl) (by kernel_rfl) (Nat.le_refl 2) (by simp only[wd]) ?_
 unfold c158
 unfold Rsg
 repeat' (first
 |simp (disch:=try exact Da) only[Ka,seval,reduceCtorEq]
 |(with_reducible apply gC_d0)<;>intro _
 |with_reducible refine e8 ?_
 |(refine Aa (s248 _ _ _) ?_;rintro _ rfl;all_goals simp only[vl,ts,wb])
 |(refine Fa ?_;first|exact e9|fail)
 |fail)
end Go.Proofs
set_option maxHeartbeats 4000000
set_option maxRecDepth 100000
namespace Go.Proofs
open Go Go.Pv Go.Proofs.Tx
variable [Lq]
open W
open Classical
def allB(sz ty:Nat)(z:List AV)(g:Bool):AC:=q (R [1,7,8,9,10] [b .lss 10 9 8]) (q (i 10 (s) (x 0)) (q (bl 1 (q (R [1,5,6,7,8,9] [m 11 9,ia 12 sz 7 9,la 13 sz 12,al 6 ty (.agg z),m 5 11,st sz 6 13]) (q (R [1,7,8,9,18] [m 14 1,m 15 5,la 16 sz 6,cw 17 14 [15,16],nt 18 17]) (i 18 (q (R [4] [k 4 (.bool false)]) (r)) (s))))) (R [1,7,8,9] [c .add 19 9 1,m 9 19])))
def allC(sz ty:Nat)(z:List AV)(g:Bool):AC:=q (R [0,1] [k 4 (.bool false)]) (q (q (R [1,7,8,9] [m 7 0,l 8 7,n 9 0]) (bl 0 (lo g [1,7,8,9] [] (allB sz ty z g)))) (q (R [4] [k 4 (.bool true)]) (r)))
structure CloI(α:Type)[Inhabited α](enc:α→AV)(φ:Nat→α→Prop)(l:List α)(g:FuncId)(caps:List AV):Prop where
 lt:g < ifB
 nr:caps.all AV.nr1=true
 run:∀ k,k < l.length→∃ r,Run Tryz.prog (fnId g) (fnArgs g [.int .i64 k,enc (nth l k)] caps) r∧r=.bool (decide (φ k (nth l k)))
theorem all_run{α:Type}[Inhabited α]{enc:α→AV}{sz ty:Nat}{z:List AV}{f:FuncId}(ho:okRun Tryz.prog true [] f 2 [.t 4]=true)(hc:cod Tryz.prog true [] f=allC sz ty z true)
  (hl:∀ x,cells (enc x) 0 sz true=some (enc x)) (hn:∀ x,(enc x).nr1=true) (hs:∀ x,setCells (.agg z) (enc x) 0 sz=some (enc x)) (u:SL α enc sz) {g:FuncId} {caps:List AV} {φ:Nat→α→Prop} (h:CloI α enc φ u.l g caps) :
  ∃ r,Run Tryz.prog f [u.v,.fn g caps] r∧r=.bool (decide (∀ k,k < u.l.length→φ k (nth u.l k))):=by
 refine run_w (c:=allC sz ty z true) [.t 4] 2 ho hc (Nat.le_refl 2) (by simp only[wd]) ?_
 have hu:=u.n
 have hg:=h.lt
 have ci:∀ hp n,caps.flatMap (idsOf hp (n+2))=[]:=fun hp n=>capI h.nr
 have cr:∀ l n,caps.map (renX l (n+2))=caps:=fun l n=>capR h.nr
 unfold allC
 simp (disch:=try exact Da) only[Ka,seval,reduceCtorEq]
 refine d_lo (fun k:Nat=>⟨[(1,.fn g caps),(7,u.v),(8,.int .i64 u.l.length),(9,.int .i64 k)],[]⟩) (fun k=>k≤u.l.length∧∀ j,j < k→φ j (nth u.l j)) (fun k=>u.l.length - k) ?_ ?_
 ·simp (disch:=try exact Da) only[Ka,ci,cr,seval,reduceCtorEq]
  exact⟨0,rfl,by omega,fun j hj=>by omega⟩
 rintro k ⟨hk,hall⟩
 unfold allB
 simp (disch:=try exact Da) only[Ka,seval,reduceCtorEq]
 refine condC_d (fun hlt=>?_) (fun hlt=>?_)
 ·simp (disch:=try exact Da) only[Ka,hl,hs,seval,reduceCtorEq]
  refine⟨by omega,?_⟩
  have hr:=h.run k (by omega)
  refine callv_nr hr (fnA_nr (by simp only[wd,hn]) h.nr) ?_ hg
  rintro _ rfl
  simp only[vl]
  simp (disch:=try exact Da) only[Ka,seval,reduceCtorEq]
  refine condC_d (fun hbt=>?_) (fun hbf=>?_)
  ·simp (disch:=try exact Da) only[Ka,seval,reduceCtorEq]
   refine fin_nr (by simp only[nrR,wd]) (bd_f fun hf=>hbt (hf k (by omega)))
  ·simp (disch:=try exact Da) only[Ka,ci,cr,seval,reduceCtorEq]
   refine⟨k+1,rfl,⟨by omega,fun j hj=>?_⟩,by omega⟩
   by_cases e:j=k
   ·rw [e]; exact Decidable.of_not_not hbf
   ·exact hall j (by omega)
 ·simp (disch:=try exact Da) only[Ka,seval,reduceCtorEq]
  refine fin_nr (by simp only[nrR,wd]) (bd_t fun j hj=>hall j (by omega))
theorem s242(u:IL){g:FuncId}{caps:List AV}{φ:Nat→Int→Prop}(h:CloI Int (AV.int .i64) φ u.l g caps) :
  ∃ r,Run Tryz.prog 242 [u.v,.fn g caps] r∧r=.bool (decide (∀ k,k < u.l.length→φ k (nth u.l k))):=by
 refine run_w (c:=c242 true) [.t 4] 2 (by kernel_rfl) (by kernel_rfl) (Nat.le_refl 2) (by simp only[wd]) ?_
 unfold c242
 have hu:=u.n
 have hg:=h.lt
 have ci:∀ hp n,caps.flatMap (idsOf hp (n+2))=[]:=fun hp n=>capI h.nr
 have cr:∀ l n,caps.map (renX l (n+2))=caps:=fun l n=>capR h.nr
 simp (disch:=try exact Da) only[Ka,seval,reduceCtorEq]
 refine d_lo (fun k:Nat=>⟨[(1,.fn g caps),(7,u.v),(8,.int .i64 u.l.length),(9,.int .i64 k)],[]⟩) (fun k=>k≤u.l.length∧∀ j,j < k→φ j (nth u.l j)) (fun k=>u.l.length - k) ?_ ?_
 ·simp (disch:=try exact Da) only[Ka,ci,cr,seval,reduceCtorEq]
  exact⟨0,rfl,by omega,fun j hj=>by omega⟩
 rintro k ⟨hk,hall⟩
 unfold c242b0
 simp (disch:=try exact Da) only[Ka,seval,reduceCtorEq]
 refine condC_d (fun hlt=>?_) (fun hlt=>?_)
 ·simp (disch:=try exact Da) only[Ka,seval,reduceCtorEq]
  refine⟨by omega,?_⟩
  have hr:=h.run k (by omega)
  refine callv_nr hr (fnA_nr (by simp only[wd]) h.nr) ?_ hg
  rintro _ rfl
  simp only[vl]
  simp (disch:=try exact Da) only[Ka,seval,reduceCtorEq]
  refine condC_d (fun hbt=>?_) (fun hbf=>?_)
  ·simp (disch:=try exact Da) only[Ka,seval,reduceCtorEq]
   refine fin_nr (by simp only[nrR,wd]) (bd_f fun hf=>hbt (hf k (by omega)))
  ·simp (disch:=try exact Da) only[Ka,ci,cr,seval,reduceCtorEq]
   refine⟨k+1,rfl,⟨by omega,fun j hj=>?_⟩,by omega⟩
   by_cases e:j=k
   ·rw [e]; exact Decidable.of_not_not hbf
   ·exact hall j (by omega)
 ·simp (disch:=try exact Da) only[Ka,seval,reduceCtorEq]
  refine fin_nr (by simp only[nrR,wd]) (bd_t fun j hj=>hall j (by omega))
end Go.Proofs
