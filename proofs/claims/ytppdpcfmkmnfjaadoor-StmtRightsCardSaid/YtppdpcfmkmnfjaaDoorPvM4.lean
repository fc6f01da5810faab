/- The machine of plain values: its rules, and that they are sound. -/
import Derived.Test.YtppdpcfmkmnfjaaDoorPvM3
/-
  The machine of plain values, 29: the walk's rules, bundled.
-/
namespace Go.Pv
set_option linter.unusedVariables false
set_option linter.defProp false
theorem nd {p : Prop} {_ : Decidable p} : (!decide p) = decide (¬ p) := by by_cases h : p <;> simp [h]
theorem and_dd {p q : Prop} {_ : Decidable p} {_ : Decidable q} : (decide p && decide q) = decide (p ∧ q) := by by_cases h : p <;> by_cases h' : q <;> simp [h, h']
theorem or_dd {p q : Prop} {_ : Decidable p} {_ : Decidable q} : (decide p || decide q) = decide (p ∨ q) := by by_cases h : p <;> by_cases h' : q <;> simp [h, h']
def pv7 :=
  And.intro @aw_regionA <| And.intro @apK_nil <| And.intro @apK_cons <| And.intro @apK1_ee <| And.intro @apK1_re <| And.intro @nd <| And.intro @Bool.false_and <| And.intro @Bool.and_false <| And.intro @Bool.true_or <| @Bool.or_true
def pv0 :=
  And.intro @aw_seq <| And.intro @aw_skip <| And.intro @aw_block <| And.intro @aw_exit <| And.intro @aw_ret <| And.intro @aw_scope <| And.intro @aw_cond <| And.intro @aw_region0 <| And.intro @aw_regionN <| And.intro @trimK_none <| And.intro @trimK_some <| And.intro @trimK_gc <| And.intro @trim_some <| And.intro @trim_gc <| And.intro @andThen_n <| And.intro @andThen_r <| And.intro @andThen_e <| And.intro @inBlk_n <| And.intro @inBlk_r <| And.intro @inBlk_e <| And.intro @awR_nil <| And.intro @awR_p <| And.intro @awR_r0 <| And.intro @awR_e <| And.intro @awR_rl <| And.intro @stepL_true <| And.intro @noLoad_load <| And.intro @noLoad_b2s <| And.intro @noLoadV_rptr <| And.intro @noLoadV_eptr <| And.intro @awR_g <| And.intro @stepP_some <| And.intro @stepE_some <| And.intro @condP_true <| And.intro @condP_false <| And.intro @guardP_tt <| And.intro @guardP_ff <| And.intro @guardP_tf <| And.intro @guardP_ft <| @guardP_s
def pv1 :=
  And.intro @ids_skp <| And.intro @ren_skp <| And.intro @slV00 <| And.intro @slV10 <| And.intro @slV01 <| And.intro @slV11 <| And.intro @slV011 <| And.intro @slV111 <| And.intro @slV00v <| And.intro @slV10v <| And.intro @slV01v <| And.intro @cutV_sl <| And.intro @cutV_vec <| And.intro @cutV_far <| And.intro @slV11v <| And.intro @slV011v <| And.intro @slV111v <| And.intro @ssV00 <| And.intro @ssV10 <| And.intro @ssV01 <| And.intro @ssV11 <| And.intro @take_map <| And.intro @drop_map <| And.intro @emod64 <| And.intro @emod32 <| And.intro @isnilV_nil <| And.intro @isnilV_map <| And.intro @isnilV_sl <| And.intro @isnilV_vec <| And.intro @isnilV_vec0 <| And.intro @ev_t <| And.intro @ev_c <| And.intro @bound_in <| And.intro @index_in <| And.intro @map_get <| And.intro @bys_setm <| And.intro @u8i_nat <| And.intro @bys_setx <| And.intro @bys_appm <| And.intro @bys_appx <| And.intro @bys_app2 <| And.intro @bys_app <| And.intro @toBytes_bys <| And.intro @gc_eq <| @gcL_nil
def pv2 :=
  And.intro @gcL_cons <| And.intro @ids_undef <| And.intro @ids_bool <| And.intro @ids_anyb <| And.intro @ids_int <| And.intro @ids_str <| And.intro @ids_sl <| And.intro @ids_rptr <| And.intro @ids_lit <| And.intro @ids_agg <| And.intro @ids_tup <| And.intro @ids_fn <| And.intro @ids_vec <| And.intro @ids_eptr <| And.intro @ren_undef <| And.intro @ren_bool <| And.intro @ren_anyb <| And.intro @ren_int <| And.intro @ren_str <| And.intro @ren_sl <| And.intro @ren_rptr <| And.intro @ren_lit <| And.intro @ren_agg <| And.intro @ren_tup <| And.intro @ren_fn <| And.intro @ren_vec <| And.intro @ren_eptr <| And.intro @ids_bys <| And.intro @ren_bys <| And.intro @vecO_some <| And.intro @eptrO_some <| And.intro @snp_bool <| And.intro @snp_int <| And.intro @snp_str <| And.intro @snp_sl <| And.intro @snp_lit <| And.intro @snp_agg <| And.intro @snp_tup <| And.intro @snp_vec <| @rws_bool
def pv3 :=
  And.intro @rws_int <| And.intro @rws_str <| And.intro @rws_sl <| And.intro @rws_lit <| And.intro @rws_agg <| And.intro @rws_tup <| And.intro @rws_vec <| And.intro @mapO_nil <| And.intro @mapO_cons <| And.intro @elems_sl <| And.intro @elems_str <| And.intro @elems_vec <| And.intro @mapO_bys <| And.intro @rows_bys <| And.intro @pass_nil <| And.intro @pass_cons0 <| And.intro @pass_cons <| And.intro @passOne_snap <| And.intro @passOne_ownv <| And.intro @passOne_ownn <| And.intro @hand_tup <| And.intro @handT_nil <| And.intro @handT_cons <| And.intro @handT_cons0 <| And.intro @handA_0 <| And.intro @handA_1 <| And.intro @handA_2 <| And.intro @hand_vec <| And.intro @hand_sl <| And.intro @hand_agg <| And.intro @passOne_nilf <| And.intro @passOne_nilv <| And.intro @passOne_nilt <| And.intro @bne_int <| And.intro @renE_some <| And.intro @renE_none <| And.intro @bits_i8 <| And.intro @bits_i16 <| And.intro @bits_i32 <| And.intro @bits_i64 <| @bits_u8
def pv4 :=
  And.intro @bits_u16 <| And.intro @bits_u32 <| And.intro @bits_u64 <| And.intro @wrap_i64_u8 <| And.intro @wrap_i64 <| And.intro @wrap_i32 <| And.intro @wrap_u8 <| And.intro @wrap_u16 <| And.intro @wrap_u32 <| And.intro @wrap_u64 <| And.intro @fdiv_pos <| And.intro @tdiv_pos <| And.intro @tmod_pos <| And.intro @and_i64_1 <| And.intro @and_i64_2 <| And.intro @and_i64_3 <| And.intro @and_i64_4 <| And.intro @and_i64_5 <| And.intro @and_i64_6 <| And.intro @and_i64_7 <| And.intro @and_i64_8 <| And.intro @and_i64_12 <| And.intro @and_i64_13 <| And.intro @and_i64_16 <| And.intro @and_i64_24 <| And.intro @and_i64_32 <| And.intro @and_i64_48 <| And.intro @and_u64_1 <| And.intro @and_u64_2 <| And.intro @and_u64_3 <| And.intro @and_u64_4 <| And.intro @and_u64_5 <| And.intro @and_u64_6 <| And.intro @and_u64_7 <| And.intro @and_u64_8 <| And.intro @and_u64_12 <| And.intro @and_u64_13 <| And.intro @and_u64_16 <| And.intro @and_u64_24 <| @and_u64_32
def pv5 :=
  And.intro @and_u64_48 <| And.intro @and_u32_1 <| And.intro @and_u32_2 <| And.intro @and_u32_3 <| And.intro @and_u32_4 <| And.intro @and_u32_5 <| And.intro @and_u32_6 <| And.intro @and_u32_7 <| And.intro @and_u32_8 <| And.intro @and_u32_12 <| And.intro @and_u32_13 <| And.intro @and_u32_16 <| And.intro @and_u32_24 <| And.intro @and_u16_1 <| And.intro @and_u16_2 <| And.intro @and_u16_3 <| And.intro @and_u16_4 <| And.intro @and_u16_5 <| And.intro @and_u16_6 <| And.intro @and_u16_7 <| And.intro @and_u16_8 <| And.intro @and_u16_12 <| And.intro @and_u16_13 <| And.intro @and_u8_1 <| And.intro @and_u8_2 <| And.intro @and_u8_3 <| And.intro @and_u8_4 <| And.intro @and_u8_5 <| And.intro @and_u8_6 <| And.intro @and_u8_7 <| And.intro @or_i64_8 <| And.intro @or_i64_16 <| And.intro @or_i64_24 <| And.intro @or_i64_32 <| And.intro @or_u64_8 <| And.intro @or_u64_16 <| And.intro @or_u64_24 <| And.intro @or_u64_32 <| And.intro @or_u32_8 <| @or_u32_16
def pv6 :=
  And.intro @or_u32_24 <| And.intro @or_u16_8 <| And.intro @tn1 <| And.intro @tn2 <| And.intro @tn3 <| And.intro @tn4 <| And.intro @tn5 <| And.intro @tn6 <| And.intro @tn7 <| And.intro @tn8 <| And.intro @tn9 <| And.intro @tn10 <| And.intro @tn11 <| And.intro @tn12 <| And.intro @tn13 <| And.intro @tn14 <| And.intro @tn15 <| @tn16
def pvd :=
  And.intro @evR_cut <| And.intro @evP_slv00 <| And.intro @evP_slv10 <| And.intro @evP_slv01 <| And.intro @evP_slv11 <| And.intro @evP_slv011 <| And.intro @evP_slv111 <| And.intro @evP_ss00 <| And.intro @evP_ss10 <| And.intro @evP_ss01 <| And.intro @evP_ss11 <| @evP_isnil
def pvc0 :=
  And.intro @List.take_of_length_le.{0} <| And.intro @Int.toNat_zero <| And.intro @List.length_set.{0} <| And.intro @List.drop_zero.{0} <| And.intro @List.drop_succ_cons.{0} <| And.intro @List.drop_nil.{0} <| And.intro @List.take_zero.{0} <| And.intro @List.take_succ_cons.{0} <| And.intro @List.take_nil.{0} <| And.intro @List.reverse_cons.{0} <| And.intro @List.isEmpty_nil.{0} <| And.intro @List.isEmpty_cons.{0} <| And.intro @List.replicate_zero.{0} <| And.intro @List.replicate_succ.{0} <| And.intro @if_pos.{1} <| And.intro @if_neg.{1} <| And.intro @Nat.zero_add <| And.intro @Nat.add_zero <| And.intro @true_and <| And.intro @and_true <| And.intro @eq_self.{1} <| And.intro @List.length_append.{0} <| And.intro @beq_int <| And.intro @beq_u8s <| And.intro @decide_t <| And.intro @decide_f <| And.intro @Bool.not_true <| And.intro @Bool.not_false <| And.intro @decide_eq_true_eq <| @Bool.not_eq_true
def pvc1 :=
  And.intro @Bool.decide_eq_true <| And.intro @Bool.true_eq_false <| And.intro @List.contains_cons.{0} <| And.intro @Bool.or_false <| And.intro @Bool.false_or <| And.intro @Bool.or_true <| And.intro @Bool.true_or <| And.intro @List.flatMap_cons.{0,0} <| And.intro @List.flatMap_nil.{0,0} <| And.intro @List.append_nil.{0} <| And.intro @List.nil_append.{0} <| And.intro @List.cons_append.{0} <| And.intro @List.contains_nil.{0} <| And.intro @List.reverse_nil.{0} <| And.intro @List.length_nil.{0} <| And.intro @List.length_cons.{0} <| And.intro @List.zipIdx_cons.{0} <| And.intro @List.zipIdx_nil.{0} <| And.intro @List.getElem?_cons_zero.{0} <| And.intro @List.getElem?_cons_succ.{0} <| And.intro @List.set_cons_zero.{0} <| And.intro @List.set_cons_succ.{0} <| And.intro @List.all_cons.{0} <| And.intro @List.all_nil.{0} <| And.intro @Option.map_some.{0,0} <| And.intro @Option.map_none.{0,0} <| And.intro @Option.bind_some.{0,0} <| And.intro @Option.bind_none.{0,0} <| And.intro @Option.getD_some.{0} <| @Option.join_some.{0}
def pvc2 :=
  And.intro @Option.isNone_none.{0} <| And.intro @Option.isNone_some.{0} <| And.intro @if_true.{1} <| And.intro @if_false.{1} <| And.intro @Bool.false_eq_true <| And.intro @Bool.and_true <| And.intro @Bool.true_and <| And.intro @beq_self_eq_true.{0} <| And.intro @Nat.min_def <| And.intro @List.length_map.{0,0} <| And.intro @Int.toNat_natCast <| And.intro @Int.cast_ofNat_Int <| And.intro @Nat.not_lt_zero <| And.intro @ne_eq.{1} <| And.intro @not_true_eq_false <| And.intro @not_false_eq_true <| And.intro @and_self <| And.intro @decide_true <| And.intro @decide_false <| And.intro @true_or <| And.intro @or_true <| And.intro @false_or <| And.intro @or_false <| And.intro @false_and <| @and_false
end Go.Pv

/-
  The machine of plain values, 30: calls whose order is open and that take over rows.
-/
set_option linter.unusedVariables false
namespace Go.Pv
set_option linter.unusedSectionVars false
variable [Lq]
set_option linter.defProp false
/-- What stands keeps its cells, but for rows of the types no. -/
def growL (no : List TypeId) : Hp → Hp → Prop
  | [], _ => True
  | none :: r, none :: r' => growL no r r'
  | some e :: r, some e' :: r' => (no.contains e.ty = true ∨ (e.ty = e'.ty ∧ e.es = e'.es)) ∧ growL no r r'
  | _, _ => False
theorem ent_z {x : Option Ent} {r : Hp} : ent (x :: r) 0 = x := by cases x <;> rfl
theorem ent_s {x : Option Ent} {r : Hp} {n : Nat} : ent (x :: r) (n + 1) = ent r n := rfl
theorem grow_cons {no : List TypeId} {x y : Option Ent} {r r' : Hp} (h : Grow no r r') (h1 : ∀ e, x = some e → ∃ e', y = some e') (h2 : ∀ e, x = some e → no.contains e.ty = false → ∃ wr, y = some { e with wr := wr }) (h3 : x = none → y = none) : Grow no (x :: r) (y :: r') := by
  refine ⟨by simpa using h.len, fun id e he => ?_, fun id e he hn => ?_, fun id hl he => ?_⟩
  · cases id with
    | zero => rw [ent_z] at he ⊢; exact h1 e he
    | succ n => rw [ent_s] at he ⊢; exact h.still n e he
  · cases id with
    | zero => rw [ent_z] at he ⊢; exact h2 e he hn
    | succ n => rw [ent_s] at he ⊢; exact h.some n e he hn
  · cases id with
    | zero => rw [ent_z] at he ⊢; exact h3 he
    | succ n => rw [ent_s] at he ⊢; exact h.none n (by simpa using hl) he
theorem grow_of {no : List TypeId} : ∀ {H H' : Hp}, growL no H H' → Grow no H H'
  | [], H', _ => ⟨by simp, fun id e h => (by cases h), fun id e h => (by cases h), fun id h => (by simp at h)⟩
  | none :: r, none :: r', h => grow_cons (grow_of h) (fun e h => by cases h) (fun e h => by cases h) fun _ => rfl
  | some e :: r, some e' :: r', h => grow_cons (grow_of h.2) (fun _ _ => ⟨e', rfl⟩) (fun e2 h2 hn => by
      cases h2
      rcases h.1 with h3 | ⟨h3, h4⟩
      · rw [h3] at hn; cases hn
      · exact ⟨e'.wr, by rw [h3, h4]⟩) fun h => by cases h
  | none :: r, some _ :: r', h => h.elim
  | some _ :: r, none :: r', h => h.elim
  | none :: r, [], h => h.elim
  | some _ :: r, [], h => h.elim
theorem awR_callDS {P : Program} {N : St → Prop} {fr : Fr} {hp : Hp} {base : Nat} {d : Option Nat} {f : FuncId} {xs : List AX} {no : List TypeId} {rest : List Op2} {ys : List AV} {r : AV} {l : List Nat} {ms : List Mode} {H1 : Hp} (hr : Run P f ys r)
    (hp' : pass hp ms (xs.map (·.ev fr)) = some (ys, H1, l)) (hv : liveB H1 l = true) (hg : growL no hp (lay (still H1 l) r).2)
    (hk : awR P base rest N ⟨putO fr d (lay (still H1 l) r).1, (lay (still H1 l) r).2⟩) : awR P base (⟨d, none, .call f xs true, false, no⟩ :: rest) N ⟨fr, hp⟩ :=
  ⟨_, _, gen_still hr hp' hv, fun _ => ⟨grow_of hg, fun h => by cases h⟩, hk⟩
/-! ### What a row holds, read off -/
def frzE (o : Option Ent) (fr : Fr) (hp : Hp) (id : Nat) : St := match o with
  | some e => match mapO (snap hp deep) e.es with
    | some es => if (e.es.flatMap (rows hp deep)).contains id then ⟨fr, hp⟩ else ⟨fr, still (hp.set id (some { e with es := es })) (e.es.flatMap (rows hp deep))⟩
    | none => ⟨fr, hp⟩
  | none => ⟨fr, hp⟩
def frzM (o : Option (List AV)) (l : List Nat) (ty : TypeId) (wr : Bool) (fr : Fr) (hp : Hp) (id : Nat) : St := match o with
  | some es => if l.contains id = true then ⟨fr, hp⟩ else ⟨fr, still (hp.set id (some ⟨ty, es, wr⟩)) l⟩
  | none => ⟨fr, hp⟩
section
variable {fr : Fr} {hp : Hp} {id : Nat}
theorem frzRow_e : frzRow ⟨fr, hp⟩ id = frzE (ent hp id) fr hp id := (rfl)
theorem frzE_some {ty : TypeId} {es : List AV} {wr : Bool} : frzE (some ⟨ty, es, wr⟩) fr hp id = frzM (mapO (snap hp 6) es) (es.flatMap (rows hp 6)) ty wr fr hp id := (rfl)
theorem frzE_none : frzE none fr hp id = ⟨fr, hp⟩ := (rfl)
theorem frzM_some {es : List AV} {l : List Nat} {ty : TypeId} {wr : Bool} : frzM (some es) l ty wr fr hp id = if l.contains id = true then ⟨fr, hp⟩ else ⟨fr, still (hp.set id (some ⟨ty, es, wr⟩)) l⟩ := (rfl)
theorem frzSlot_vec {σ : St} {sz off len : Nat} : frzSlot σ (.vec id sz off len) = frzRow σ id := (rfl)
theorem frzSlot_eptr {σ : St} {i off : Nat} : frzSlot σ (.eptr id i off) = frzRow σ id := (rfl)
theorem frzSlot_undef {σ : St} : frzSlot σ .undef = σ := (rfl)
theorem frzSlot_sl {σ : St} {sz : Nat} {es : List AV} {f : Bool} : frzSlot σ (.sl sz es f) = σ := (rfl)
theorem frzSlot_skp {σ : St} : frzSlot σ skp = σ := (rfl)
def frzG (o : Option AV) (σ : St) (f : Nat) : St := match o with
  | some (.agg cs) => frzSlot σ (cs.getD f .undef)
  | _ => σ
theorem frzFld_eptr {i off f : Nat} : frzFld ⟨fr, hp⟩ f (.eptr id i off) = frzG ((ent hp id).bind fun e => e.es[i]?) ⟨fr, hp⟩ f := (rfl)
theorem frzFld_skp {σ : St} {f : Nat} : frzFld σ f skp = σ := (rfl)
theorem frzG_agg {σ : St} {f : Nat} {cs : List AV} : frzG (some (.agg cs)) σ f = frzSlot σ (cs.getD f .undef) := (rfl)
theorem still_nil {hp : Hp} : still hp [] = hp := (rfl)
def stillE (o : Option Ent) (hp : Hp) (id : Nat) (r : List Nat) : Hp := match o with
  | some e => still (hp.set id (some { e with wr := false })) r
  | none => still hp r
theorem still_cons {hp : Hp} {r : List Nat} : still hp (id :: r) = stillE (ent hp id) hp id r := (rfl)
theorem stillE_some {ty : TypeId} {es : List AV} {wr : Bool} {r : List Nat} : stillE (some ⟨ty, es, wr⟩) hp id r = still (hp.set id (some ⟨ty, es, false⟩)) r := (rfl)
theorem stillE_none {r : List Nat} : stillE none hp id r = still hp r := (rfl)
end
def pvf :=
  And.intro @frzRow_e <| And.intro @frzE_some <| And.intro @frzE_none <| And.intro @frzM_some <| And.intro @frzSlot_vec <| And.intro @frzSlot_eptr <| And.intro @frzSlot_undef <| And.intro @frzSlot_sl <| And.intro @frzSlot_skp <| And.intro @frzFld_eptr <| And.intro @frzFld_skp <| And.intro @frzG_agg <| And.intro @still_nil <| And.intro @still_cons <| And.intro @stillE_some <| @stillE_none
end Go.Pv

/-
  The machine of plain values, 31: calls beside rows that are made in the same region.
-/
set_option linter.unusedVariables false
namespace Go.Pv
set_option linter.unusedSectionVars false
variable [Lq]
def offL (L : List (Nat × Ent)) (id : Nat) : Prop := ∀ p ∈ L, p.1 ≠ id
def noneAt (L : List (Nat × Ent)) (hp : Hp) : Prop := ∀ p ∈ L, ent hp p.1 = none ∧ p.1 < hp.length
theorem setAll_len : ∀ (L : List (Nat × Ent)) (hp : Hp), (setAll hp L).length = hp.length
  | [], _ => rfl
  | p :: L, hp => by
    show (setAll (hp.set p.1 (some p.2)) L).length = _
    rw [setAll_len L]; simp
theorem setAll_set {id : Nat} {x : Option Ent} : ∀ (L : List (Nat × Ent)) (hp : Hp), offL L id → setAll (hp.set id x) L = (setAll hp L).set id x
  | [], _, _ => rfl
  | p :: L, hp, h => by
    show setAll ((hp.set id x).set p.1 (some p.2)) L = (setAll (hp.set p.1 (some p.2)) L).set id x
    rw [List.set_comm _ _ (fun e => h p (by simp) e.symm), setAll_set L _ fun q hq => h q (by simp [hq])]
theorem setAll_app {l : Hp} : ∀ (L : List (Nat × Ent)) (hp : Hp), (∀ p ∈ L, p.1 < hp.length) → setAll (hp ++ l) L = setAll hp L ++ l
  | [], _, _ => rfl
  | p :: L, hp, h => by
    show setAll ((hp ++ l).set p.1 (some p.2)) L = setAll (hp.set p.1 (some p.2)) L ++ l
    rw [List.set_append_left _ _ (h p (by simp)), setAll_app L _ fun q hq => by simpa using h q (by simp [hq])]
theorem setAll_ent {id : Nat} : ∀ (L : List (Nat × Ent)) (hp : Hp), offL L id → ent (setAll hp L) id = ent hp id
  | [], _, _ => rfl
  | p :: L, hp, h => by
    show ent (setAll (hp.set p.1 (some p.2)) L) id = _
    rw [setAll_ent L _ fun q hq => h q (by simp [hq])]
    unfold ent
    rw [List.getElem?_set_ne (h p (by simp))]
section
variable {L : List (Nat × Ent)} {hp : Hp}
theorem noneAt.off (h : noneAt L hp) {id : Nat} {e : Ent} (he : ent hp id = some e) : offL L id := fun p hpL hid => by
  have := (h p hpL).1; rw [hid, he] at this; cases this
theorem noneAt.ent (h : noneAt L hp) {id : Nat} {e : Ent} (he : Go.Pv.ent hp id = some e) : Go.Pv.ent (setAll hp L) id = some e := by
  rw [setAll_ent L hp (h.off he), he]
theorem noneAt.set (h : noneAt L hp) {id : Nat} {e : Ent} {x : Option Ent} (he : Go.Pv.ent hp id = some e) : noneAt L (hp.set id x) := fun p hpL => by
  refine ⟨?_, by simpa using (h p hpL).2⟩
  have := h.off he p hpL
  unfold Go.Pv.ent
  rw [List.getElem?_set_ne (fun e => this e.symm)]
  exact (h p hpL).1
theorem elems_frame (h : noneAt L hp) {x : AV} {es : List AV} (hx : elems hp x = some es) : elems (setAll hp L) x = some es := by
  cases x <;> first | exact hx | skip
  simp only [elems] at hx ⊢
  obtain ⟨e, he, hx⟩ := Option.bind_eq_some_iff.1 hx
  rw [h.ent he]; exact hx
theorem mapO_frame {f g : AV → Option AV} {r s : AV → List Nat} (h : ∀ x y, f x = some y → g x = some y ∧ r x = s x) : ∀ {xs ys : List AV}, mapO f xs = some ys → mapO g xs = some ys ∧ xs.flatMap r = xs.flatMap s
  | [], _, hx => ⟨hx, rfl⟩
  | x :: xs, ys, hx => by
    simp only [mapO] at hx ⊢
    obtain ⟨y, hy, hx⟩ := Option.bind_eq_some_iff.1 hx
    obtain ⟨zs, hz, rfl⟩ := Option.map_eq_some_iff.1 hx
    obtain ⟨h1, h2⟩ := mapO_frame h hz
    obtain ⟨h3, h4⟩ := h x y hy
    simp [h1, h2, h3, h4]
theorem snap_frame (h : noneAt L hp) : ∀ (n : Nat) (x y : AV), snap hp n x = some y → snap (setAll hp L) n x = some y ∧ rows (setAll hp L) n x = rows hp n x
  | 0, _, _, hx => by cases hx
  | n + 1, x, y, hx => by
    have ih := snap_frame h n
    have ihm : ∀ xs ys : List AV, mapO (snap hp n) xs = some ys → mapO (snap (setAll hp L) n) xs = some ys ∧ xs.flatMap (rows (setAll hp L) n) = xs.flatMap (rows hp n) := fun xs ys h' => mapO_frame (f := snap hp n) (r := rows (setAll hp L) n) (s := rows hp n) (fun x y hxy => ih x y hxy) h'
    cases x <;> simp only [snap, rows] at hx ⊢ <;> try (first | exact ⟨hx, rfl⟩ | exact ⟨hx, trivial⟩)
    case vec id sz off len =>
      obtain ⟨es, hes, hx⟩ := Option.bind_eq_some_iff.1 hx
      obtain ⟨zs, hz, rfl⟩ := Option.map_eq_some_iff.1 hx
      obtain ⟨h1, h2⟩ := ihm _ _ hz
      rw [elems_frame h hes, hes]
      simp [h1, h2]
    case eptr id i off =>
      obtain ⟨e, he, hx⟩ := Option.bind_eq_some_iff.1 hx
      obtain ⟨z, hz, hx⟩ := Option.bind_eq_some_iff.1 hx
      obtain ⟨z', hz', rfl⟩ := Option.map_eq_some_iff.1 hx
      obtain ⟨h1, h2⟩ := ih _ _ hz'
      rw [h.ent he, he]
      simp [hz, h1, h2]
    case agg cs =>
      obtain ⟨zs, hz, rfl⟩ := Option.map_eq_some_iff.1 hx
      obtain ⟨h1, h2⟩ := ihm _ _ hz
      simp [h1, h2]
    case tup cs =>
      obtain ⟨zs, hz, rfl⟩ := Option.map_eq_some_iff.1 hx
      obtain ⟨h1, h2⟩ := ihm _ _ hz
      simp [h1, h2]
    case fn f cs =>
      obtain ⟨zs, hz, rfl⟩ := Option.map_eq_some_iff.1 hx
      obtain ⟨h1, h2⟩ := ihm _ _ hz
      simp [h1, h2]
    all_goals cases hx
theorem passOne_frame (h : noneAt L hp) {m : Mode} {x y : AV} {H1 : Hp} {l : List Nat} (hx : passOne hp m x = some (y, H1, l)) : passOne (setAll hp L) m x = some (y, setAll H1 L, l) ∧ noneAt L H1 := by
  cases m with
  | snap =>
    simp only [passOne] at hx ⊢
    obtain ⟨z, hz, hx⟩ := Option.map_eq_some_iff.1 hx
    simp only [Prod.mk.injEq] at hx
    obtain ⟨rfl, rfl, rfl⟩ := hx
    obtain ⟨h1, h2⟩ := snap_frame h _ _ _ hz
    rw [h1, h2]; exact ⟨rfl, h⟩
  | own sz ty =>
    cases x <;> simp only [passOne] at hx ⊢ <;> try (cases hx; done)
    case sl sz' es full =>
      cases es <;> cases full <;> simp only [reduceCtorEq, Option.some.injEq, Prod.mk.injEq] at hx ⊢
      obtain ⟨rfl, rfl, rfl⟩ := hx; exact ⟨⟨rfl, rfl, rfl⟩, h⟩
    case vec id sz' off len =>
      obtain ⟨e, he, hx⟩ := Option.bind_eq_some_iff.1 hx
      split at hx
      case isFalse => cases hx
      rename_i hc
      obtain ⟨zs, hz, hx⟩ := Option.map_eq_some_iff.1 hx
      simp only [Prod.mk.injEq] at hx
      obtain ⟨rfl, rfl, rfl⟩ := hx
      obtain ⟨h1, h2⟩ := mapO_frame (f := snap hp deep) (g := snap (setAll hp L) deep) (r := rows (setAll hp L) deep) (s := rows hp deep) (fun x y hxy => snap_frame h _ x y hxy) hz
      rw [h.ent he, setAll_set L hp (h.off he)]
      refine ⟨?_, h.set he⟩
      simp only [Option.bind_some, if_pos hc, h1, h2, Option.map_some]
  | nil sz full =>
    cases x <;> simp only [passOne] at hx ⊢ <;> try (cases hx; done)
    case sl sz' es full' =>
      cases es <;> simp only [reduceCtorEq] at hx ⊢
      split at hx
      case isFalse => cases hx
      rename_i hc
      simp only [Option.some.injEq, Prod.mk.injEq] at hx
      obtain ⟨rfl, rfl, rfl⟩ := hx
      rw [if_pos hc]; exact ⟨rfl, h⟩
    case vec id sz' off len =>
      split at hx
      case isFalse => cases hx
      rename_i hc
      simp only [Option.some.injEq, Prod.mk.injEq] at hx
      obtain ⟨rfl, rfl, rfl⟩ := hx
      rw [if_pos hc]; exact ⟨rfl, h⟩
theorem pass_frame : ∀ {xs : List AV} {ms : List Mode} {hp : Hp} {ys : List AV} {H1 : Hp} {l : List Nat}, noneAt L hp → pass hp ms xs = some (ys, H1, l) → pass (setAll hp L) ms xs = some (ys, setAll H1 L, l) ∧ noneAt L H1
  | [], ms, hp, ys, H1, l, h, hx => by
    simp only [pass, passG, Option.some.injEq, Prod.mk.injEq] at hx ⊢
    obtain ⟨rfl, rfl, rfl⟩ := hx; exact ⟨⟨rfl, rfl, rfl⟩, h⟩
  | x :: xs, ms, hp, ys, H1, l, h, hx => by
    simp only [pass, passG] at hx ⊢
    obtain ⟨⟨y, H2, l2⟩, h2, hx⟩ := Option.bind_eq_some_iff.1 hx
    obtain ⟨⟨zs, H3, l3⟩, h3, hx⟩ := Option.map_eq_some_iff.1 hx
    simp only [Prod.mk.injEq] at hx
    obtain ⟨rfl, rfl, rfl⟩ := hx
    obtain ⟨q1, q2⟩ := passOne_frame h h2
    obtain ⟨q3, q4⟩ := pass_frame (xs := xs) q2 (show pass H2 ms.tail xs = _ from h3)
    unfold pass at q3
    rw [q1]
    simp only [Option.bind_some, q3, Option.map_some]
    exact ⟨trivial, q4⟩
theorem liveB_frame (h : noneAt L hp) {l : List Nat} (hl : liveB hp l = true) : liveB (setAll hp L) l = true := by
  unfold liveB at *
  rw [List.all_eq_true] at hl ⊢
  intro id hid
  have := hl id hid
  split at this
  · rename_i e he
    rw [h.ent he]; exact this
  · cases this
theorem still_frame : ∀ (l : List Nat) {hp : Hp}, noneAt L hp → (∀ id ∈ l, ∃ e, ent hp id = some e) → still (setAll hp L) l = setAll (still hp l) L ∧ (still hp l).length = hp.length
  | [], _, _, _ => ⟨rfl, rfl⟩
  | id :: l, hp, h, hl => by
    obtain ⟨e, he⟩ := hl id (by simp)
    simp only [still, h.ent he, he]
    rw [← setAll_set L hp (h.off he)]
    have := still_frame l (h.set (x := some { e with wr := false }) he) fun j hj => by
      obtain ⟨e', he'⟩ := hl j (by simp [hj])
      unfold ent at he' ⊢
      by_cases hij : id = j
      · subst hij
        have hlt : id < hp.length := by
          rcases Nat.lt_or_ge id hp.length with h | h
          · exact h
          · rw [List.getElem?_eq_none h] at he'; cases he'
        exact ⟨_, by rw [List.getElem?_set_self hlt]; rfl⟩
      · exact ⟨e', by rw [List.getElem?_set_ne hij]; exact he'⟩
    refine ⟨this.1, by rw [this.2]; simp⟩
theorem layC_frame {x : AV} (h : ∀ p ∈ L, p.1 < hp.length) : layC (setAll hp L) x = ((layC hp x).1, setAll (layC hp x).2 L) := by
  unfold layC
  split
  · rw [setAll_app L hp h, setAll_len]
  · rfl
theorem layL_frame {f : Hp → AV → AV × Hp} (ha : ∀ hp x, ∃ l, (f hp x).2 = hp ++ l) (hf : ∀ hp x, (∀ p ∈ L, p.1 < hp.length) → f (setAll hp L) x = ((f hp x).1, setAll (f hp x).2 L)) : ∀ (xs : List AV) (hp : Hp), (∀ p ∈ L, p.1 < hp.length) → layL f (setAll hp L) xs = ((layL f hp xs).1, setAll (layL f hp xs).2 L)
  | [], hp, _ => rfl
  | x :: xs, hp, h => by
    obtain ⟨l, hl⟩ := ha hp x
    simp only [layL, hf hp x h]
    rw [layL_frame ha hf xs (f hp x).2 fun p hpL => by rw [hl]; simp; have := h p hpL; omega]
theorem layA_frame {x : AV} {hp : Hp} (h : ∀ p ∈ L, p.1 < hp.length) : layA (setAll hp L) x = ((layA hp x).1, setAll (layA hp x).2 L) := by
  unfold layA
  split
  · rw [layL_frame layC_app (fun hp x h => layC_frame h) _ _ h]
  · exact layC_frame h
theorem lay_frame {x : AV} {hp : Hp} (h : ∀ p ∈ L, p.1 < hp.length) : lay (setAll hp L) x = ((lay hp x).1, setAll (lay hp x).2 L) := by
  unfold lay
  split
  · rw [layL_frame layA_app (fun hp x h => layA_frame h) _ _ h]
  · exact layA_frame h
end
theorem framed_pass {P : Program} {f : FuncId} {xs ys : List AV} {r : AV} {hp H1 : Hp} {l : List Nat} {ms : List Mode} (hr : Run P f ys r) (hp' : pass hp ms xs = some (ys, H1, l)) (hv : liveB H1 l = true) :
    Framed P f xs hp (lay (still H1 l) r).1 (lay (still H1 l) r).2 := by
  intro L hL
  have h0 : noneAt L hp := fun p h => ⟨(hL p h).1, (hL p h).2.1⟩
  obtain ⟨h1, h2⟩ := pass_frame h0 hp'
  have h3 : ∀ id ∈ l, ∃ e, ent H1 id = some e := fun id hid => by
    unfold liveB at hv
    have := List.all_eq_true.1 hv id hid
    split at this
    · rename_i e he; exact ⟨e, he⟩
    · cases this
  obtain ⟨h4, h5⟩ := still_frame l h2 h3
  have := gen_still hr h1 (liveB_frame h2 hv)
  rw [h4, lay_frame fun p h => by rw [h5]; exact (h2 p h).2] at this
  exact this
/-- A call where the order is open: it may be handed rows, and make some. -/
theorem awR_callDF {P : Program} {N : St → Prop} {fr : Fr} {hp : Hp} {base : Nat} {d : Option Nat} {f : FuncId} {xs : List AX} {fm : Bool} {no : List TypeId} {rest : List Op2} {ys : List AV} {r : AV} {l : List Nat} {ms : List Mode} {H1 : Hp} (hr : Run P f ys r)
    (hp' : pass hp ms (xs.map (·.ev fr)) = some (ys, H1, l)) (hv : liveB H1 l = true) (hg : growL no hp (lay (still H1 l) r).2)
    (hk : awR P base rest N ⟨putO fr d (lay (still H1 l) r).1, (lay (still H1 l) r).2⟩) : awR P base (⟨d, none, .call f xs true, fm, no⟩ :: rest) N ⟨fr, hp⟩ :=
  ⟨_, _, gen_still hr hp' hv, fun _ => ⟨grow_of hg, fun _ => framed_pass hr hp' hv⟩, hk⟩
/-- A proposition, shut. -/
structure Hold (p : Prop) : Prop where
  h : p
theorem run_ofH {P : Program} {f : FuncId} {fn : Func} {c : Code} (hD : ∀ γ0 w0, DrawOk P Dq.no fn.ntmps false γ0 w0) {c' : AC} {ts : List Nat} {xs : List AV} {r : AV} (hf : P.funcs[f]? = some fn) (hb : fn.body = some c) (hn : (fn.name == "runtime.NumGoroutine") = false)
    (hr : fn.results = (ts.map ResultVar.tmp).toArray) (hc : bareC c' = comp P c) (ho : okC fn.ntmps false c' = true) (hlen : xs.length ≤ fn.ntmps) (h : Hold (aw P c' (Ends ts r) (entry xs))) : Run P f xs r :=
  run_of hD hf hb hn hr hc ho hlen h.h
end Go.Pv

/-
  The machine of plain values, 36: what its operations do, bundled for the walk.
-/
namespace Go.Pv
set_option linter.unusedVariables false
set_option linter.defProp false
def pvq0 :=
  And.intro @buildC.eq_1 <| And.intro @buildC.eq_2 <| And.intro @evP.eq_1 <| And.intro @evP.eq_2 <| And.intro @evP.eq_3 <| And.intro @evP.eq_4 <| And.intro @evP.eq_5 <| And.intro @evP.eq_6 <| And.intro @evP.eq_7 <| And.intro @evP.eq_8 <| And.intro @evP.eq_9 <| And.intro @evP.eq_10 <| And.intro @evP.eq_11 <| And.intro @evP.eq_12 <| And.intro @evP.eq_13 <| And.intro @evP.eq_14 <| And.intro @evP.eq_15 <| And.intro @evP.eq_16 <| And.intro @evP.eq_17 <| And.intro @evP.eq_18 <| And.intro @evP.eq_19 <| And.intro @evP.eq_20 <| And.intro @evP.eq_21 <| And.intro @evP.eq_22 <| And.intro @evP.eq_23 <| And.intro @evP.eq_24 <| And.intro @evP.eq_25 <| And.intro @evP.eq_26 <| And.intro @evR.eq_1 <| And.intro @evR.eq_2 <| And.intro @evR.eq_3 <| And.intro @evE.eq_1 <| And.intro @evE.eq_2 <| And.intro @evE.eq_3 <| And.intro @evE.eq_4 <| And.intro @evE.eq_5 <| And.intro @evE.eq_6 <| And.intro @evE.eq_7 <| And.intro @evE.eq_8 <| @evE.eq_9
def pvq1 :=
  And.intro @evE.eq_10 <| And.intro @get.eq_1 <| And.intro @get.eq_2 <| And.intro @put.eq_1 <| And.intro @put.eq_2 <| And.intro @putO.eq_1 <| And.intro @putO.eq_2 <| And.intro @cells.eq_1 <| And.intro @boundO.eq_1 <| And.intro @boundO.eq_2 <| And.intro @bv.eq_1 <| And.intro @rowOne.eq_1 <| And.intro @rvL.eq_1 <| And.intro @rvL.eq_2 <| And.intro @rvX.eq_1 <| And.intro @rvX.eq_2 <| And.intro @liveB.eq_1 <| And.intro @setParts.eq_1 <| And.intro @setParts.eq_2 <| And.intro @lim.eq_1 <| And.intro @dedup.eq_1 <| And.intro @dedup.eq_2 <| And.intro @place.eq_1 <| And.intro @place.eq_2 <| And.intro @ent.eq_1 <| And.intro @new.eq_1 <| And.intro @new.eq_2 <| And.intro @newVar.eq_1 <| And.intro @newVec.eq_1 <| And.intro @AV.ones.eq_1 <| And.intro @entry.eq_1 <| And.intro @layL.eq_1 <| And.intro @layL.eq_2 <| And.intro @List.foldl.eq_1.{0,0} <| @List.foldl.eq_2.{0,0}
def pvl := And.intro @List.length_set.{0} <| And.intro @List.length_append.{0} <| And.intro @List.length_cons.{0} <| And.intro @List.length_nil.{0} <| And.intro @List.length_take.{0} <| And.intro @List.length_drop.{0} <| And.intro @List.length_map.{0,0} <| @List.length_replicate.{0}
end Go.Pv
