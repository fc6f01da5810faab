/- The machine of plain values: its rules, and that they are sound. -/
import Derived.Test.YtppdpcfmkmnfjaaDoorPvM3
import Derived.Defers
/-
  The machine of plain values, 29: the walk's rules, bundled.
-/
namespace Go.Pv
set_option linter.unusedVariables false
set_option linter.defProp false
theorem nd {p : Prop} {_ : Decidable p} : (!decide p) = decide (¬ p) := by by_cases h : p <;> simp [h]
theorem and_dd {p q : Prop} {_ : Decidable p} {_ : Decidable q} : (decide p && decide q) = decide (p ∧ q) := by by_cases h : p <;> by_cases h' : q <;> simp [h, h']
theorem or_dd {p q : Prop} {_ : Decidable p} {_ : Decidable q} : (decide p || decide q) = decide (p ∨ q) := by by_cases h : p <;> by_cases h' : q <;> simp [h, h']
def pv7 :=
  And.intro @aw_regionA <| And.intro @apK_nil <| And.intro @apK_cons <| And.intro @apK1_ee <| And.intro @apK1_re <| And.intro @nd <| And.intro @Bool.false_and <| And.intro @Bool.and_false <| And.intro @Bool.true_or <| @Bool.or_true
def pv0 :=
  And.intro @aw_seq <| And.intro @aw_skip <| And.intro @aw_block <| And.intro @aw_exit <| And.intro @aw_ret <| And.intro @aw_scope <| And.intro @aw_cond <| And.intro @aw_region0 <| And.intro @aw_regionN <| And.intro @trimK_none <| And.intro @trimK_some <| And.intro @trimK_gc <| And.intro @trim_some <| And.intro @trim_gc <| And.intro @andThen_n <| And.intro @andThen_r <| And.intro @andThen_e <| And.intro @inBlk_n <| And.intro @inBlk_r <| And.intro @inBlk_e <| And.intro @awR_nil <| And.intro @awR_p <| And.intro @awR_r0 <| And.intro @awR_e <| And.intro @awR_rl <| And.intro @stepL_true <| And.intro @noLoad_load <| And.intro @noLoad_b2s <| And.intro @noLoadV_rptr <| And.intro @noLoadV_eptr <| And.intro @awR_g <| And.intro @stepP_some <| And.intro @stepE_some <| And.intro @condP_true <| And.intro @condP_false <| And.intro @guardP_tt <| And.intro @guardP_ff <| And.intro @guardP_tf <| And.intro @guardP_ft <| @guardP_s
def pv1 :=
  And.intro @ids_skp <| And.intro @ren_skp <| And.intro @slV00 <| And.intro @slV10 <| And.intro @slV01 <| And.intro @slV11 <| And.intro @slV011 <| And.intro @slV111 <| And.intro @slV00v <| And.intro @slV10v <| And.intro @slV01v <| And.intro @cutV_sl <| And.intro @cutV_vec <| And.intro @cutV_far <| And.intro @slV11v <| And.intro @slV011v <| And.intro @slV111v <| And.intro @ssV00 <| And.intro @ssV10 <| And.intro @ssV01 <| And.intro @ssV11 <| And.intro @take_map <| And.intro @drop_map <| And.intro @emod64 <| And.intro @emod32 <| And.intro @isnilV_nil <| And.intro @isnilV_map <| And.intro @isnilV_sl <| And.intro @isnilV_vec <| And.intro @isnilV_vec0 <| And.intro @ev_t <| And.intro @ev_c <| And.intro @bound_in <| And.intro @index_in <| And.intro @map_get <| And.intro @bys_setm <| And.intro @u8i_nat <| And.intro @bys_setx <| And.intro @bys_appm <| And.intro @bys_appx <| And.intro @bys_app2 <| And.intro @bys_app <| And.intro @toBytes_bys <| And.intro @gc_eq <| @gcL_nil
def pv2 :=
  And.intro @gcL_cons <| And.intro @ids_undef <| And.intro @ids_bool <| And.intro @ids_anyb <| And.intro @ids_int <| And.intro @ids_str <| And.intro @ids_sl <| And.intro @ids_rptr <| And.intro @ids_lit <| And.intro @ids_agg <| And.intro @ids_tup <| And.intro @ids_fn <| And.intro @ids_vec <| And.intro @ids_eptr <| And.intro @ren_undef <| And.intro @ren_bool <| And.intro @ren_anyb <| And.intro @ren_int <| And.intro @ren_str <| And.intro @ren_sl <| And.intro @ren_rptr <| And.intro @ren_lit <| And.intro @ren_agg <| And.intro @ren_tup <| And.intro @ren_fn <| And.intro @ren_vec <| And.intro @ren_eptr <| And.intro @ids_bys <| And.intro @ren_bys <| And.intro @vecO_some <| And.intro @eptrO_some <| And.intro @snp_bool <| And.intro @snp_int <| And.intro @snp_str <| And.intro @snp_sl <| And.intro @snp_lit <| And.intro @snp_agg <| And.intro @snp_tup <| And.intro @snp_vec <| @rws_bool
def pv3 :=
  And.intro @rws_int <| And.intro @rws_str <| And.intro @rws_sl <| And.intro @rws_lit <| And.intro @rws_agg <| And.intro @rws_tup <| And.intro @rws_vec <| And.intro @mapO_nil <| And.intro @mapO_cons <| And.intro @elems_sl <| And.intro @elems_str <| And.intro @elems_vec <| And.intro @mapO_bys <| And.intro @rows_bys <| And.intro @pass_nil <| And.intro @pass_cons0 <| And.intro @pass_cons <| And.intro @passOne_snap <| And.intro @passOne_ownv <| And.intro @passOne_ownn <| And.intro @hand_tup <| And.intro @handT_nil <| And.intro @handT_cons <| And.intro @handT_cons0 <| And.intro @handA_0 <| And.intro @handA_1 <| And.intro @handA_2 <| And.intro @hand_vec <| And.intro @hand_sl <| And.intro @hand_agg <| And.intro @passOne_nilf <| And.intro @passOne_nilv <| And.intro @passOne_nilt <| And.intro @bne_int <| And.intro @renE_some <| And.intro @renE_none <| And.intro @bits_i8 <| And.intro @bits_i16 <| And.intro @bits_i32 <| And.intro @bits_i64 <| @bits_u8
def pv4 :=
  And.intro @bits_u16 <| And.intro @bits_u32 <| And.intro @bits_u64 <| And.intro @wrap_i64_u8 <| And.intro @wrap_i64 <| And.intro @wrap_i32 <| And.intro @wrap_u8 <| And.intro @wrap_u16 <| And.intro @wrap_u32 <| And.intro @wrap_u64 <| And.intro @fdiv_pos <| And.intro @tdiv_pos <| And.intro @tmod_pos <| And.intro @and_i64_1 <| And.intro @and_i64_2 <| And.intro @and_i64_3 <| And.intro @and_i64_4 <| And.intro @and_i64_5 <| And.intro @and_i64_6 <| And.intro @and_i64_7 <| And.intro @and_i64_8 <| And.intro @and_i64_12 <| And.intro @and_i64_13 <| And.intro @and_i64_16 <| And.intro @and_i64_24 <| And.intro @and_i64_32 <| And.intro @and_i64_48 <| And.intro @and_u64_1 <| And.intro @and_u64_2 <| And.intro @and_u64_3 <| And.intro @and_u64_4 <| And.intro @and_u64_5 <| And.intro @and_u64_6 <| And.intro @and_u64_7 <| And.intro @and_u64_8 <| And.intro @and_u64_12 <| And.intro @and_u64_13 <| And.intro @and_u64_16 <| And.intro @and_u64_24 <| @and_u64_32
def pv5 :=
  And.intro @and_u64_48 <| And.intro @and_u32_1 <| And.intro @and_u32_2 <| And.intro @and_u32_3 <| And.intro @and_u32_4 <| And.intro @and_u32_5 <| And.intro @and_u32_6 <| And.intro @and_u32_7 <| And.intro @and_u32_8 <| And.intro @and_u32_12 <| And.intro @and_u32_13 <| And.intro @and_u32_16 <| And.intro @and_u32_24 <| And.intro @and_u16_1 <| And.intro @and_u16_2 <| And.intro @and_u16_3 <| And.intro @and_u16_4 <| And.intro @and_u16_5 <| And.intro @and_u16_6 <| And.intro @and_u16_7 <| And.intro @and_u16_8 <| And.intro @and_u16_12 <| And.intro @and_u16_13 <| And.intro @and_u8_1 <| And.intro @and_u8_2 <| And.intro @and_u8_3 <| And.intro @and_u8_4 <| And.intro @and_u8_5 <| And.intro @and_u8_6 <| And.intro @and_u8_7 <| And.intro @or_i64_8 <| And.intro @or_i64_16 <| And.intro @or_i64_24 <| And.intro @or_i64_32 <| And.intro @or_u64_8 <| And.intro @or_u64_16 <| And.intro @or_u64_24 <| And.intro @or_u64_32 <| And.intro @or_u32_8 <| @or_u32_16
def pv6 :=
  And.intro @or_u32_24 <| And.intro @or_u16_8 <| And.intro @tn1 <| And.intro @tn2 <| And.intro @tn3 <| And.intro @tn4 <| And.intro @tn5 <| And.intro @tn6 <| And.intro @tn7 <| And.intro @tn8 <| And.intro @tn9 <| And.intro @tn10 <| And.intro @tn11 <| And.intro @tn12 <| And.intro @tn13 <| And.intro @tn14 <| And.intro @tn15 <| @tn16
def pvd :=
  And.intro @evR_cut <| And.intro @evP_slv00 <| And.intro @evP_slv10 <| And.intro @evP_slv01 <| And.intro @evP_slv11 <| And.intro @evP_slv011 <| And.intro @evP_slv111 <| And.intro @evP_ss00 <| And.intro @evP_ss10 <| And.intro @evP_ss01 <| And.intro @evP_ss11 <| @evP_isnil
def pvc0 :=
  And.intro @List.take_of_length_le.{0} <| And.intro @Int.toNat_zero <| And.intro @List.length_set.{0} <| And.intro @List.drop_zero.{0} <| And.intro @List.drop_succ_cons.{0} <| And.intro @List.drop_nil.{0} <| And.intro @List.take_zero.{0} <| And.intro @List.take_succ_cons.{0} <| And.intro @List.take_nil.{0} <| And.intro @List.reverse_cons.{0} <| And.intro @List.isEmpty_nil.{0} <| And.intro @List.isEmpty_cons.{0} <| And.intro @List.replicate_zero.{0} <| And.intro @List.replicate_succ.{0} <| And.intro @if_pos.{1} <| And.intro @if_neg.{1} <| And.intro @Nat.zero_add <| And.intro @Nat.add_zero <| And.intro @true_and <| And.intro @and_true <| And.intro @eq_self.{1} <| And.intro @List.length_append.{0} <| And.intro @beq_int <| And.intro @beq_u8s <| And.intro @decide_t <| And.intro @decide_f <| And.intro @Bool.not_true <| And.intro @Bool.not_false <| And.intro @decide_eq_true_eq <| @Bool.not_eq_true
def pvc1 :=
  And.intro @Bool.decide_eq_true <| And.intro @Bool.true_eq_false <| And.intro @List.contains_cons.{0} <| And.intro @Bool.or_false <| And.intro @Bool.false_or <| And.intro @Bool.or_true <| And.intro @Bool.true_or <| And.intro @List.flatMap_cons.{0,0} <| And.intro @List.flatMap_nil.{0,0} <| And.intro @List.append_nil.{0} <| And.intro @List.nil_append.{0} <| And.intro @List.cons_append.{0} <| And.intro @List.contains_nil.{0} <| And.intro @List.reverse_nil.{0} <| And.intro @List.length_nil.{0} <| And.intro @List.length_cons.{0} <| And.intro @List.zipIdx_cons.{0} <| And.intro @List.zipIdx_nil.{0} <| And.intro @List.getElem?_cons_zero.{0} <| And.intro @List.getElem?_cons_succ.{0} <| And.intro @List.set_cons_zero.{0} <| And.intro @List.set_cons_succ.{0} <| And.intro @List.all_cons.{0} <| And.intro @List.all_nil.{0} <| And.intro @Option.map_some.{0,0} <| And.intro @Option.map_none.{0,0} <| And.intro @Option.bind_some.{0,0} <| And.intro @Option.bind_none.{0,0} <| And.intro @Option.getD_some.{0} <| @Option.join_some.{0}
def pvc2 :=
  And.intro @Option.isNone_none.{0} <| And.intro @Option.isNone_some.{0} <| And.intro @if_true.{1} <| And.intro @if_false.{1} <| And.intro @Bool.false_eq_true <| And.intro @Bool.and_true <| And.intro @Bool.true_and <| And.intro @beq_self_eq_true.{0} <| And.intro @Nat.min_def <| And.intro @List.length_map.{0,0} <| And.intro @Int.toNat_natCast <| And.intro @Int.cast_ofNat_Int <| And.intro @Nat.not_lt_zero <| And.intro @ne_eq.{1} <| And.intro @not_true_eq_false <| And.intro @not_false_eq_true <| And.intro @and_self <| And.intro @decide_true <| And.intro @decide_false <| And.intro @true_or <| And.intro @or_true <| And.intro @false_or <| And.intro @or_false <| And.intro @false_and <| @and_false
end Go.Pv

/-
  The machine of plain values, 30: calls whose order is open and that take over rows.
-/
set_option linter.unusedVariables false
namespace Go.Pv
set_option linter.unusedSectionVars false
variable [Lq]
set_option linter.defProp false
/-- What stands keeps its cells, but for rows of the types no. -/
def growL (no : List TypeId) : Hp → Hp → Prop
  | [], _ => True
  | none :: r, none :: r' => growL no r r'
  | some e :: r, some e' :: r' => (no.contains e.ty = true ∨ (e.ty = e'.ty ∧ e.es = e'.es)) ∧ growL no r r'
  | _, _ => False
theorem ent_z {x : Option Ent} {r : Hp} : ent (x :: r) 0 = x := by cases x <;> rfl
theorem ent_s {x : Option Ent} {r : Hp} {n : Nat} : ent (x :: r) (n + 1) = ent r n := rfl
theorem grow_cons {no : List TypeId} {x y : Option Ent} {r r' : Hp} (h : Grow no r r') (h1 : ∀ e, x = some e → ∃ e', y = some e') (h2 : ∀ e, x = some e → no.contains e.ty = false → ∃ wr, y = some { e with wr := wr }) (h3 : x = none → y = none) : Grow no (x :: r) (y :: r') := by
  refine ⟨by simpa using h.len, fun id e he => ?_, fun id e he hn => ?_, fun id hl he => ?_⟩
  · cases id with
    | zero => rw [ent_z] at he ⊢; exact h1 e he
    | succ n => rw [ent_s] at he ⊢; exact h.still n e he
  · cases id with
    | zero => rw [ent_z] at he ⊢; exact h2 e he hn
    | succ n => rw [ent_s] at he ⊢; exact h.some n e he hn
  · cases id with
    | zero => rw [ent_z] at he ⊢; exact h3 he
    | succ n => rw [ent_s] at he ⊢; exact h.none n (by simpa using hl) he
theorem grow_of {no : List TypeId} : ∀ {H H' : Hp}, growL no H H' → Grow no H H'
  | [], H', _ => ⟨by simp, fun id e h => (by cases h), fun id e h => (by cases h), fun id h => (by simp at h)⟩
  | none :: r, none :: r', h => grow_cons (grow_of h) (fun e h => by cases h) (fun e h => by cases h) fun _ => rfl
  | some e :: r, some e' :: r', h => grow_cons (grow_of h.2) (fun _ _ => ⟨e', rfl⟩) (fun e2 h2 hn => by
      cases h2
      rcases h.1 with h3 | ⟨h3, h4⟩
      · rw [h3] at hn; cases hn
      · exact ⟨e'.wr, by rw [h3, h4]⟩) fun h => by cases h
  | none :: r, some _ :: r', h => h.elim
  | some _ :: r, none :: r', h => h.elim
  | none :: r, [], h => h.elim
  | some _ :: r, [], h => h.elim
theorem awR_callDS {P : Program} {N : St → Prop} {fr : Fr} {hp : Hp} {base : Nat} {d : Option Nat} {f : FuncId} {xs : List AX} {no : List TypeId} {rest : List Op2} {ys : List AV} {r : AV} {l : List Nat} {ms : List Mode} {H1 : Hp} (hr : Run P f ys r)
    (hp' : pass hp ms (xs.map (·.ev fr)) = some (ys, H1, l)) (hv : liveB H1 l = true) (hg : growL no hp (lay (still H1 l) r).2)
    (hk : awR P base rest N ⟨putO fr d (lay (still H1 l) r).1, (lay (still H1 l) r).2⟩) : awR P base (⟨d, none, .call f xs true, false, no⟩ :: rest) N ⟨fr, hp⟩ :=
  ⟨_, _, gen_still hr hp' hv, fun _ => ⟨grow_of hg, fun h => by cases h⟩, hk⟩
/-! ### What a row holds, read off -/
def frzE (o : Option Ent) (fr : Fr) (hp : Hp) (id : Nat) : St := match o with
  | some e => match mapO (snap hp deep) e.es with
    | some es => if (e.es.flatMap (rows hp deep)).contains id then ⟨fr, hp⟩ else ⟨fr, still (hp.set id (some { e with es := es })) (e.es.flatMap (rows hp deep))⟩
    | none => ⟨fr, hp⟩
  | none => ⟨fr, hp⟩
def frzM (o : Option (List AV)) (l : List Nat) (ty : TypeId) (wr : Bool) (fr : Fr) (hp : Hp) (id : Nat) : St := match o with
  | some es => if l.contains id = true then ⟨fr, hp⟩ else ⟨fr, still (hp.set id (some ⟨ty, es, wr⟩)) l⟩
  | none => ⟨fr, hp⟩
section
variable {fr : Fr} {hp : Hp} {id : Nat}
theorem frzRow_e : frzRow ⟨fr, hp⟩ id = frzE (ent hp id) fr hp id := (rfl)
theorem frzE_some {ty : TypeId} {es : List AV} {wr : Bool} : frzE (some ⟨ty, es, wr⟩) fr hp id = frzM (mapO (snap hp 6) es) (es.flatMap (rows hp 6)) ty wr fr hp id := (rfl)
theorem frzE_none : frzE none fr hp id = ⟨fr, hp⟩ := (rfl)
theorem frzM_some {es : List AV} {l : List Nat} {ty : TypeId} {wr : Bool} : frzM (some es) l ty wr fr hp id = if l.contains id = true then ⟨fr, hp⟩ else ⟨fr, still (hp.set id (some ⟨ty, es, wr⟩)) l⟩ := (rfl)
theorem frzSlot_vec {σ : St} {sz off len : Nat} : frzSlot σ (.vec id sz off len) = frzRow σ id := (rfl)
theorem frzSlot_eptr {σ : St} {i off : Nat} : frzSlot σ (.eptr id i off) = frzRow σ id := (rfl)
theorem frzSlot_undef {σ : St} : frzSlot σ .undef = σ := (rfl)
theorem frzSlot_sl {σ : St} {sz : Nat} {es : List AV} {f : Bool} : frzSlot σ (.sl sz es f) = σ := (rfl)
theorem frzSlot_skp {σ : St} : frzSlot σ skp = σ := (rfl)
def frzG (o : Option AV) (σ : St) (f : Nat) : St := match o with
  | some (.agg cs) => frzSlot σ (cs.getD f .undef)
  | _ => σ
theorem frzFld_eptr {i off f : Nat} : frzFld ⟨fr, hp⟩ f (.eptr id i off) = frzG ((ent hp id).bind fun e => e.es[i]?) ⟨fr, hp⟩ f := (rfl)
theorem frzFld_skp {σ : St} {f : Nat} : frzFld σ f skp = σ := (rfl)
theorem frzG_agg {σ : St} {f : Nat} {cs : List AV} : frzG (some (.agg cs)) σ f = frzSlot σ (cs.getD f .undef) := (rfl)
theorem still_nil {hp : Hp} : still hp [] = hp := (rfl)
def stillE (o : Option Ent) (hp : Hp) (id : Nat) (r : List Nat) : Hp := match o with
  | some e => still (hp.set id (some { e with wr := false })) r
  | none => still hp r
theorem still_cons {hp : Hp} {r : List Nat} : still hp (id :: r) = stillE (ent hp id) hp id r := (rfl)
theorem stillE_some {ty : TypeId} {es : List AV} {wr : Bool} {r : List Nat} : stillE (some ⟨ty, es, wr⟩) hp id r = still (hp.set id (some ⟨ty, es, false⟩)) r := (rfl)
theorem stillE_none {r : List Nat} : stillE none hp id r = still hp r := (rfl)
end
def pvf :=
  And.intro @frzRow_e <| And.intro @frzE_some <| And.intro @frzE_none <| And.intro @frzM_some <| And.intro @frzSlot_vec <| And.intro @frzSlot_eptr <| And.intro @frzSlot_undef <| And.intro @frzSlot_sl <| And.intro @frzSlot_skp <| And.intro @frzFld_eptr <| And.intro @frzFld_skp <| And.intro @frzG_agg <| And.intro @still_nil <| And.intro @still_cons <| And.intro @stillE_some <| @stillE_none
end Go.Pv

/-
  The machine of plain values, 31: calls beside rows that are made in the same region.
-/
set_option linter.unusedVariables false
namespace Go.Pv
set_option linter.unusedSectionVars false
variable [Lq]
def offL (L : List (Nat × Ent)) (id : Nat) : Prop := ∀ p ∈ L, p.1 ≠ id
def noneAt (L : List (Nat × Ent)) (hp : Hp) : Prop := ∀ p ∈ L, ent hp p.1 = none ∧ p.1 < hp.length
theorem setAll_len : ∀ (L : List (Nat × Ent)) (hp : Hp), (setAll hp L).length = hp.length
  | [], _ => rfl
  | p :: L, hp => by
    show (setAll (hp.set p.1 (some p.2)) L).length = _
    rw [setAll_len L]; simp
theorem setAll_set {id : Nat} {x : Option Ent} : ∀ (L : List (Nat × Ent)) (hp : Hp), offL L id → setAll (hp.set id x) L = (setAll hp L).set id x
  | [], _, _ => rfl
  | p :: L, hp, h => by
    show setAll ((hp.set id x).set p.1 (some p.2)) L = (setAll (hp.set p.1 (some p.2)) L).set id x
    rw [List.set_comm _ _ (fun e => h p (by simp) e.symm), setAll_set L _ fun q hq => h q (by simp [hq])]
theorem setAll_app {l : Hp} : ∀ (L : List (Nat × Ent)) (hp : Hp), (∀ p ∈ L, p.1 < hp.length) → setAll (hp ++ l) L = setAll hp L ++ l
  | [], _, _ => rfl
  | p :: L, hp, h => by
    show setAll ((hp ++ l).set p.1 (some p.2)) L = setAll (hp.set p.1 (some p.2)) L ++ l
    rw [List.set_append_left _ _ (h p (by simp)), setAll_app L _ fun q hq => by simpa using h q (by simp [hq])]
theorem setAll_ent {id : Nat} : ∀ (L : List (Nat × Ent)) (hp : Hp), offL L id → ent (setAll hp L) id = ent hp id
  | [], _, _ => rfl
  | p :: L, hp, h => by
    show ent (setAll (hp.set p.1 (some p.2)) L) id = _
    rw [setAll_ent L _ fun q hq => h q (by simp [hq])]
    unfold ent
    rw [List.getElem?_set_ne (h p (by simp))]
section
variable {L : List (Nat × Ent)} {hp : Hp}
theorem noneAt.off (h : noneAt L hp) {id : Nat} {e : Ent} (he : ent hp id = some e) : offL L id := fun p hpL hid => by
  have := (h p hpL).1; rw [hid, he] at this; cases this
theorem noneAt.ent (h : noneAt L hp) {id : Nat} {e : Ent} (he : Go.Pv.ent hp id = some e) : Go.Pv.ent (setAll hp L) id = some e := by
  rw [setAll_ent L hp (h.off he), he]
theorem noneAt.set (h : noneAt L hp) {id : Nat} {e : Ent} {x : Option Ent} (he : Go.Pv.ent hp id = some e) : noneAt L (hp.set id x) := fun p hpL => by
  refine ⟨?_, by simpa using (h p hpL).2⟩
  have := h.off he p hpL
  unfold Go.Pv.ent
  rw [List.getElem?_set_ne (fun e => this e.symm)]
  exact (h p hpL).1
theorem elems_frame (h : noneAt L hp) {x : AV} {es : List AV} (hx : elems hp x = some es) : elems (setAll hp L) x = some es := by
  cases x <;> first | exact hx | skip
  simp only [elems] at hx ⊢
  obtain ⟨e, he, hx⟩ := Option.bind_eq_some_iff.1 hx
  rw [h.ent he]; exact hx
theorem mapO_frame {f g : AV → Option AV} {r s : AV → List Nat} (h : ∀ x y, f x = some y → g x = some y ∧ r x = s x) : ∀ {xs ys : List AV}, mapO f xs = some ys → mapO g xs = some ys ∧ xs.flatMap r = xs.flatMap s
  | [], _, hx => ⟨hx, rfl⟩
  | x :: xs, ys, hx => by
    simp only [mapO] at hx ⊢
    obtain ⟨y, hy, hx⟩ := Option.bind_eq_some_iff.1 hx
    obtain ⟨zs, hz, rfl⟩ := Option.map_eq_some_iff.1 hx
    obtain ⟨h1, h2⟩ := mapO_frame h hz
    obtain ⟨h3, h4⟩ := h x y hy
    simp [h1, h2, h3, h4]
theorem snap_frame (h : noneAt L hp) : ∀ (n : Nat) (x y : AV), snap hp n x = some y → snap (setAll hp L) n x = some y ∧ rows (setAll hp L) n x = rows hp n x
  | 0, _, _, hx => by cases hx
  | n + 1, x, y, hx => by
    have ih := snap_frame h n
    have ihm : ∀ xs ys : List AV, mapO (snap hp n) xs = some ys → mapO (snap (setAll hp L) n) xs = some ys ∧ xs.flatMap (rows (setAll hp L) n) = xs.flatMap (rows hp n) := fun xs ys h' => mapO_frame (f := snap hp n) (r := rows (setAll hp L) n) (s := rows hp n) (fun x y hxy => ih x y hxy) h'
    cases x <;> simp only [snap, rows] at hx ⊢ <;> try (first | exact ⟨hx, rfl⟩ | exact ⟨hx, trivial⟩)
    case vec id sz off len =>
      obtain ⟨es, hes, hx⟩ := Option.bind_eq_some_iff.1 hx
      obtain ⟨zs, hz, rfl⟩ := Option.map_eq_some_iff.1 hx
      obtain ⟨h1, h2⟩ := ihm _ _ hz
      rw [elems_frame h hes, hes]
      simp [h1, h2]
    case eptr id i off =>
      obtain ⟨e, he, hx⟩ := Option.bind_eq_some_iff.1 hx
      obtain ⟨z, hz, hx⟩ := Option.bind_eq_some_iff.1 hx
      obtain ⟨z', hz', rfl⟩ := Option.map_eq_some_iff.1 hx
      obtain ⟨h1, h2⟩ := ih _ _ hz'
      rw [h.ent he, he]
      simp [hz, h1, h2]
    case agg cs =>
      obtain ⟨zs, hz, rfl⟩ := Option.map_eq_some_iff.1 hx
      obtain ⟨h1, h2⟩ := ihm _ _ hz
      simp [h1, h2]
    case tup cs =>
      obtain ⟨zs, hz, rfl⟩ := Option.map_eq_some_iff.1 hx
      obtain ⟨h1, h2⟩ := ihm _ _ hz
      simp [h1, h2]
    case fn f cs =>
      obtain ⟨zs, hz, rfl⟩ := Option.map_eq_some_iff.1 hx
      obtain ⟨h1, h2⟩ := ihm _ _ hz
      simp [h1, h2]
    all_goals cases hx
theorem passOne_frame (h : noneAt L hp) {m : Mode} {x y : AV} {H1 : Hp} {l : List Nat} (hx : passOne hp m x = some (y, H1, l)) : passOne (setAll hp L) m x = some (y, setAll H1 L, l) ∧ noneAt L H1 := by
  cases m with
  | snap =>
    simp only [passOne] at hx ⊢
    obtain ⟨z, hz, hx⟩ := Option.map_eq_some_iff.1 hx
    simp only [Prod.mk.injEq] at hx
    obtain ⟨rfl, rfl, rfl⟩ := hx
    obtain ⟨h1, h2⟩ := snap_frame h _ _ _ hz
    rw [h1, h2]; exact ⟨rfl, h⟩
  | own sz ty =>
    cases x <;> simp only [passOne] at hx ⊢ <;> try (cases hx; done)
    case sl sz' es full =>
      cases es <;> cases full <;> simp only [reduceCtorEq, Option.some.injEq, Prod.mk.injEq] at hx ⊢
      obtain ⟨rfl, rfl, rfl⟩ := hx; exact ⟨⟨rfl, rfl, rfl⟩, h⟩
    case vec id sz' off len =>
      obtain ⟨e, he, hx⟩ := Option.bind_eq_some_iff.1 hx
      split at hx
      case isFalse => cases hx
      rename_i hc
      obtain ⟨zs, hz, hx⟩ := Option.map_eq_some_iff.1 hx
      simp only [Prod.mk.injEq] at hx
      obtain ⟨rfl, rfl, rfl⟩ := hx
      obtain ⟨h1, h2⟩ := mapO_frame (f := snap hp deep) (g := snap (setAll hp L) deep) (r := rows (setAll hp L) deep) (s := rows hp deep) (fun x y hxy => snap_frame h _ x y hxy) hz
      rw [h.ent he, setAll_set L hp (h.off he)]
      refine ⟨?_, h.set he⟩
      simp only [Option.bind_some, if_pos hc, h1, h2, Option.map_some]
  | nil sz full =>
    cases x <;> simp only [passOne] at hx ⊢ <;> try (cases hx; done)
    case sl sz' es full' =>
      cases es <;> simp only [reduceCtorEq] at hx ⊢
      split at hx
      case isFalse => cases hx
      rename_i hc
      simp only [Option.some.injEq, Prod.mk.injEq] at hx
      obtain ⟨rfl, rfl, rfl⟩ := hx
      rw [if_pos hc]; exact ⟨rfl, h⟩
    case vec id sz' off len =>
      split at hx
      case isFalse => cases hx
      rename_i hc
      simp only [Option.some.injEq, Prod.mk.injEq] at hx
      obtain ⟨rfl, rfl, rfl⟩ := hx
      rw [if_pos hc]; exact ⟨rfl, h⟩
theorem pass_frame : ∀ {xs : List AV} {ms : List Mode} {hp : Hp} {ys : List AV} {H1 : Hp} {l : List Nat}, noneAt L hp → pass hp ms xs = some (ys, H1, l) → pass (setAll hp L) ms xs = some (ys, setAll H1 L, l) ∧ noneAt L H1
  | [], ms, hp, ys, H1, l, h, hx => by
    simp only [pass, passG, Option.some.injEq, Prod.mk.injEq] at hx ⊢
    obtain ⟨rfl, rfl, rfl⟩ := hx; exact ⟨⟨rfl, rfl, rfl⟩, h⟩
  | x :: xs, ms, hp, ys, H1, l, h, hx => by
    simp only [pass, passG] at hx ⊢
    obtain ⟨⟨y, H2, l2⟩, h2, hx⟩ := Option.bind_eq_some_iff.1 hx
    obtain ⟨⟨zs, H3, l3⟩, h3, hx⟩ := Option.map_eq_some_iff.1 hx
    simp only [Prod.mk.injEq] at hx
    obtain ⟨rfl, rfl, rfl⟩ := hx
    obtain ⟨q1, q2⟩ := passOne_frame h h2
    obtain ⟨q3, q4⟩ := pass_frame (xs := xs) q2 (show pass H2 ms.tail xs = _ from h3)
    unfold pass at q3
    rw [q1]
    simp only [Option.bind_some, q3, Option.map_some]
    exact ⟨trivial, q4⟩
theorem liveB_frame (h : noneAt L hp) {l : List Nat} (hl : liveB hp l = true) : liveB (setAll hp L) l = true := by
  unfold liveB at *
  rw [List.all_eq_true] at hl ⊢
  intro id hid
  have := hl id hid
  split at this
  · rename_i e he
    rw [h.ent he]; exact this
  · cases this
theorem still_frame : ∀ (l : List Nat) {hp : Hp}, noneAt L hp → (∀ id ∈ l, ∃ e, ent hp id = some e) → still (setAll hp L) l = setAll (still hp l) L ∧ (still hp l).length = hp.length
  | [], _, _, _ => ⟨rfl, rfl⟩
  | id :: l, hp, h, hl => by
    obtain ⟨e, he⟩ := hl id (by simp)
    simp only [still, h.ent he, he]
    rw [← setAll_set L hp (h.off he)]
    have := still_frame l (h.set (x := some { e with wr := false }) he) fun j hj => by
      obtain ⟨e', he'⟩ := hl j (by simp [hj])
      unfold ent at he' ⊢
      by_cases hij : id = j
      · subst hij
        have hlt : id < hp.length := by
          rcases Nat.lt_or_ge id hp.length with h | h
          · exact h
          · rw [List.getElem?_eq_none h] at he'; cases he'
        exact ⟨_, by rw [List.getElem?_set_self hlt]; rfl⟩
      · exact ⟨e', by rw [List.getElem?_set_ne hij]; exact he'⟩
    refine ⟨this.1, by rw [this.2]; simp⟩
theorem layC_frame {x : AV} (h : ∀ p ∈ L, p.1 < hp.length) : layC (setAll hp L) x = ((layC hp x).1, setAll (layC hp x).2 L) := by
  unfold layC
  split
  · rw [setAll_app L hp h, setAll_len]
  · rfl
theorem layL_frame {f : Hp → AV → AV × Hp} (ha : ∀ hp x, ∃ l, (f hp x).2 = hp ++ l) (hf : ∀ hp x, (∀ p ∈ L, p.1 < hp.length) → f (setAll hp L) x = ((f hp x).1, setAll (f hp x).2 L)) : ∀ (xs : List AV) (hp : Hp), (∀ p ∈ L, p.1 < hp.length) → layL f (setAll hp L) xs = ((layL f hp xs).1, setAll (layL f hp xs).2 L)
  | [], hp, _ => rfl
  | x :: xs, hp, h => by
    obtain ⟨l, hl⟩ := ha hp x
    simp only [layL, hf hp x h]
    rw [layL_frame ha hf xs (f hp x).2 fun p hpL => by rw [hl]; simp; have := h p hpL; omega]
theorem layA_frame {x : AV} {hp : Hp} (h : ∀ p ∈ L, p.1 < hp.length) : layA (setAll hp L) x = ((layA hp x).1, setAll (layA hp x).2 L) := by
  unfold layA
  split
  · rw [layL_frame layC_app (fun hp x h => layC_frame h) _ _ h]
  · exact layC_frame h
theorem lay_frame {x : AV} {hp : Hp} (h : ∀ p ∈ L, p.1 < hp.length) : lay (setAll hp L) x = ((lay hp x).1, setAll (lay hp x).2 L) := by
  unfold lay
  split
  · rw [layL_frame layA_app (fun hp x h => layA_frame h) _ _ h]
  · exact layA_frame h
end
theorem framed_pass {P : Program} {f : FuncId} {xs ys : List AV} {r : AV} {hp H1 : Hp} {l : List Nat} {ms : List Mode} (hr : Run P f ys r) (hp' : pass hp ms xs = some (ys, H1, l)) (hv : liveB H1 l = true) :
    Framed P f xs hp (lay (still H1 l) r).1 (lay (still H1 l) r).2 := by
  intro L hL
  have h0 : noneAt L hp := fun p h => ⟨(hL p h).1, (hL p h).2.1⟩
  obtain ⟨h1, h2⟩ := pass_frame h0 hp'
  have h3 : ∀ id ∈ l, ∃ e, ent H1 id = some e := fun id hid => by
    unfold liveB at hv
    have := List.all_eq_true.1 hv id hid
    split at this
    · rename_i e he; exact ⟨e, he⟩
    · cases this
  obtain ⟨h4, h5⟩ := still_frame l h2 h3
  have := gen_still hr h1 (liveB_frame h2 hv)
  rw [h4, lay_frame fun p h => by rw [h5]; exact (h2 p h).2] at this
  exact this
/-- A call where the order is open: it may be handed rows, and make some. -/
theorem awR_callDF {P : Program} {N : St → Prop} {fr : Fr} {hp : Hp} {base : Nat} {d : Option Nat} {f : FuncId} {xs : List AX} {fm : Bool} {no : List TypeId} {rest : List Op2} {ys : List AV} {r : AV} {l : List Nat} {ms : List Mode} {H1 : Hp} (hr : Run P f ys r)
    (hp' : pass hp ms (xs.map (·.ev fr)) = some (ys, H1, l)) (hv : liveB H1 l = true) (hg : growL no hp (lay (still H1 l) r).2)
    (hk : awR P base rest N ⟨putO fr d (lay (still H1 l) r).1, (lay (still H1 l) r).2⟩) : awR P base (⟨d, none, .call f xs true, fm, no⟩ :: rest) N ⟨fr, hp⟩ :=
  ⟨_, _, gen_still hr hp' hv, fun _ => ⟨grow_of hg, fun _ => framed_pass hr hp' hv⟩, hk⟩
/-- A proposition, shut. -/
structure Hold (p : Prop) : Prop where
  h : p
theorem run_ofH {P : Program} {f : FuncId} {fn : Func} {c : Code} (hD : ∀ γ0 w0, DrawOk P Dq.no fn.ntmps false γ0 w0) {c' : AC} {ts : List Nat} {xs : List AV} {r : AV} (hf : P.funcs[f]? = some fn) (hb : fn.body = some c) (hn : (fn.name == "runtime.NumGoroutine") = false)
    (hr : fn.results = (ts.map ResultVar.tmp).toArray) (hc : bareC c' = comp P c) (ho : okC fn.ntmps false c' = true) (hlen : xs.length ≤ fn.ntmps) (h : Hold (aw P c' (Ends ts r) (entry xs))) : Run P f xs r :=
  run_of hD hf hb hn hr hc ho hlen h.h
end Go.Pv

/-
  The machine of plain values, 36: what its operations do, bundled for the walk.
-/
namespace Go.Pv
set_option linter.unusedVariables false
set_option linter.defProp false
def pvq0 :=
  And.intro @buildC.eq_1 <| And.intro @buildC.eq_2 <| And.intro @evP.eq_1 <| And.intro @evP.eq_2 <| And.intro @evP.eq_3 <| And.intro @evP.eq_4 <| And.intro @evP.eq_5 <| And.intro @evP.eq_6 <| And.intro @evP.eq_7 <| And.intro @evP.eq_8 <| And.intro @evP.eq_9 <| And.intro @evP.eq_10 <| And.intro @evP.eq_11 <| And.intro @evP.eq_12 <| And.intro @evP.eq_13 <| And.intro @evP.eq_14 <| And.intro @evP.eq_15 <| And.intro @evP.eq_16 <| And.intro @evP.eq_17 <| And.intro @evP.eq_18 <| And.intro @evP.eq_19 <| And.intro @evP.eq_20 <| And.intro @evP.eq_21 <| And.intro @evP.eq_22 <| And.intro @evP.eq_23 <| And.intro @evP.eq_24 <| And.intro @evP.eq_25 <| And.intro @evP.eq_26 <| And.intro @evR.eq_1 <| And.intro @evR.eq_2 <| And.intro @evR.eq_3 <| And.intro @evE.eq_1 <| And.intro @evE.eq_2 <| And.intro @evE.eq_3 <| And.intro @evE.eq_4 <| And.intro @evE.eq_5 <| And.intro @evE.eq_6 <| And.intro @evE.eq_7 <| And.intro @evE.eq_8 <| @evE.eq_9
def pvq1 :=
  And.intro @evE.eq_10 <| And.intro @get.eq_1 <| And.intro @get.eq_2 <| And.intro @put.eq_1 <| And.intro @put.eq_2 <| And.intro @putO.eq_1 <| And.intro @putO.eq_2 <| And.intro @cells.eq_1 <| And.intro @boundO.eq_1 <| And.intro @boundO.eq_2 <| And.intro @bv.eq_1 <| And.intro @rowOne.eq_1 <| And.intro @rvL.eq_1 <| And.intro @rvL.eq_2 <| And.intro @rvX.eq_1 <| And.intro @rvX.eq_2 <| And.intro @liveB.eq_1 <| And.intro @setParts.eq_1 <| And.intro @setParts.eq_2 <| And.intro @lim.eq_1 <| And.intro @dedup.eq_1 <| And.intro @dedup.eq_2 <| And.intro @place.eq_1 <| And.intro @place.eq_2 <| And.intro @ent.eq_1 <| And.intro @new.eq_1 <| And.intro @new.eq_2 <| And.intro @newVar.eq_1 <| And.intro @newVec.eq_1 <| And.intro @AV.ones.eq_1 <| And.intro @entry.eq_1 <| And.intro @layL.eq_1 <| And.intro @layL.eq_2 <| And.intro @List.foldl.eq_1.{0,0} <| @List.foldl.eq_2.{0,0}
def pvl := And.intro @List.length_set.{0} <| And.intro @List.length_append.{0} <| And.intro @List.length_cons.{0} <| And.intro @List.length_nil.{0} <| And.intro @List.length_take.{0} <| And.intro @List.length_drop.{0} <| And.intro @List.length_map.{0,0} <| @List.length_replicate.{0}
end Go.Pv

/-
  The machine of plain values, 32: rows of plain elements; plain lists.
-/
set_option linter.unusedVariables false
namespace Go.Pv
theorem take_snoc {α : Type} [Inhabited α] {l : List α} {k : Nat} (h : k < l.length) : l.take (k + 1) = l.take k ++ [l[k]!] := by
  rw [List.take_succ_eq_append_getElem h]
  simp [h]
theorem map_snoc {α β : Type} {f : α → β} {l : List α} {x : α} : l.map f ++ [f x] = (l ++ [x]).map f := by simp
theorem map_app {α β : Type} {f : α → β} {l m : List α} : l.map f ++ m.map f = (l ++ m).map f := by simp
theorem take_next {α : Type} [Inhabited α] {l m : List α} {k : Nat} (h : l.take k = m.take k) (hl : k < l.length) (hm : k < m.length) (e : l[k]! = m[k]!) : l.take (k + 1) = m.take (k + 1) := by
  rw [take_snoc hl, take_snoc hm, h, e]
theorem take_ne {α : Type} [Inhabited α] {l m : List α} {k : Nat} (hl : k < l.length) (hm : k < m.length) (e : l[k]! ≠ m[k]!) : l ≠ m := by
  rintro rfl; exact e rfl
theorem take_full {α : Type} {l m : List α} {k : Nat} (h : l.take k = m.take k) (hl : l.length ≤ k) (hm : m.length ≤ k) : l = m := by
  rwa [List.take_of_length_le hl, List.take_of_length_le hm] at h
theorem cons_of {n : Nat} {b : List UInt8} (h : n + 1 ≤ b.length) : ∃ x r, b = x :: r ∧ n ≤ r.length := by
  cases b with
  | nil => simp at h
  | cons x r => exact ⟨x, r, rfl, by simpa using h⟩
theorem u8i_of {n : Int} {x : UInt8} (h : n % 256 = x.toNat) : u8i n = x := by
  apply UInt8.toNat_inj.1
  have := u8i_nat (n := n)
  omega
theorem replicate_one {α : Type} {x : α} : List.replicate 1 x = [x] := rfl
theorem b_beq (s : Bool) : (s == s) = true := by simp
theorem snp_fn0 {hp : Hp} {n : Nat} {f : FuncId} : snap hp (n + 1) (.fn f []) = some (.fn f []) := (rfl)
theorem rws_fn0 {hp : Hp} {n : Nat} {f : FuncId} : rows hp (n + 1) (.fn f []) = [] := (rfl)
theorem snp_fn {hp : Hp} {n : Nat} {f : FuncId} {cs : List AV} : snap hp (n + 1) (.fn f cs) = (mapO (snap hp n) cs).map (.fn f) := (rfl)
theorem rws_fn {hp : Hp} {n : Nat} {f : FuncId} {cs : List AV} : rows hp (n + 1) (.fn f cs) = cs.flatMap (rows hp n) := (rfl)
theorem snp_eptr {hp : Hp} {n id i off : Nat} : snap hp (n + 1) (.eptr id i off) = (ent hp id).bind fun e => (e.es[i]?).bind fun x => (snap hp n x).map fun x => .rptr x off := (rfl)
theorem rws_eptr {hp : Hp} {n id i off : Nat} : rows hp (n + 1) (.eptr id i off) = id :: (((ent hp id).bind fun e => e.es[i]?).toList).flatMap (rows hp n) := (rfl)
theorem fi_stop {α : Type} [Inhabited α] {p : α → Bool} {l : List α} {k : Nat} (hk : k ≤ l.findIdx p) (hl : k < l.length) (h : p l[k]! = true) : l.findIdx p = k := by
  rcases Nat.lt_or_ge k (l.findIdx p) with hlt | hge
  · have := List.not_of_lt_findIdx hlt
    rw [getElem!_pos l k hl] at h
    rw [h] at this; cases this
  · omega
theorem fi_go {α : Type} [Inhabited α] {p : α → Bool} {l : List α} {k : Nat} (hk : k ≤ l.findIdx p) (hl : k < l.length) (h : p l[k]! = false) : k + 1 ≤ l.findIdx p := by
  rcases Nat.lt_or_ge k (l.findIdx p) with hlt | hge
  · exact hlt
  · have e : l.findIdx p = k := by omega
    have hw : l.findIdx p < l.length := by omega
    have := List.findIdx_getElem (xs := l) (p := p) (w := hw)
    rw [getElem!_pos l k hl] at h
    simp only [e] at this
    rw [h] at this; cases this
theorem fi_le {α : Type} {p : α → Bool} {l : List α} : l.findIdx p ≤ l.length := List.findIdx_le_length
theorem fi_at {α : Type} [Inhabited α] {p : α → Bool} {l : List α} (h : l.findIdx p < l.length) : p l[l.findIdx p]! = true := by
  rw [getElem!_pos l _ h]; exact List.findIdx_getElem
theorem fi_lt {α : Type} [Inhabited α] {p : α → Bool} {l : List α} {k : Nat} (h : k < l.findIdx p) : p l[k]! = false := by
  have hl : k < l.length := Nat.lt_of_lt_of_le h fi_le
  rw [getElem!_pos l k hl]
  have := List.not_of_lt_findIdx h
  exact Bool.eq_false_iff.2 (by simpa using this)
theorem all_range {p : Nat → Bool} {n : Nat} : (List.range n).all p = true ↔ ∀ i, i < n → p i = true := by simp
/-- Without the one at a place. -/
def rmA {α : Type} (l : List α) (a : Int) : List α := if a < 0 then l else l.take a.toNat ++ l.drop (a.toNat + 1)
theorem rmA_snoc {α : Type} (t : List α) (x : α) (a : Int) : rmA (t ++ [x]) a = if (t.length : Int) = a then rmA t a else rmA t a ++ [x] := by
  unfold rmA
  by_cases h0 : a < 0
  · rw [if_pos h0, if_pos h0, if_neg (by omega)]
  rw [if_neg h0, if_neg h0]
  obtain ⟨n, rfl⟩ := Int.eq_ofNat_of_zero_le (show 0 ≤ a by omega)
  rw [Int.toNat_natCast]
  rcases Nat.lt_trichotomy n t.length with h | h | h
  · rw [if_neg (by omega), List.take_append_of_le_length (by omega), List.drop_append_of_le_length (by omega), List.append_assoc]
  · subst h
    simp
  · rw [if_neg (by omega), List.take_of_length_le (by simp; omega), List.drop_eq_nil_of_le (by simp; omega), List.take_of_length_le (by omega), List.drop_eq_nil_of_le (by omega)]
    simp
theorem rmA_len {α : Type} (l : List α) (a : Int) : (rmA l a).length ≤ l.length := by
  unfold rmA; split
  · exact Nat.le_refl _
  · simp only [List.length_append, List.length_take, List.length_drop]; omega
theorem get_of_drop {α : Type} [Inhabited α] {l m : List α} {k : Nat} (h : l.drop k = m.drop k) (hk : k < l.length) (hm : k < m.length) : l[k]! = m[k]! ∧ l.drop (k + 1) = m.drop (k + 1) := by
  rw [List.drop_eq_getElem_cons hk, List.drop_eq_getElem_cons hm] at h
  simp only [List.cons.injEq] at h
  rw [getElem!_pos l k hk, getElem!_pos m k hm]
  exact h
theorem snp_rptr {hp : Hp} {n : Nat} {x : AV} {o : Nat} : snap hp (n + 1) (.rptr x o) = some (.rptr x o) := (rfl)
theorem rws_rptr {hp : Hp} {n : Nat} {x : AV} {o : Nat} : rows hp (n + 1) (.rptr x o) = [] := (rfl)
theorem filter_snoc {α : Type} {q : α → Bool} {l : List α} {x : α} : (l ++ [x]).filter q = if q x = true then l.filter q ++ [x] else l.filter q := by
  rw [List.filter_append]; by_cases h : q x = true <;> simp [h]
theorem get_mem {α : Type} [Inhabited α] {l : List α} {k : Nat} (h : k < l.length) : l[k]! ∈ l := by
  rw [List.getElem!_eq_getElem?_getD, List.getElem?_eq_getElem h]; exact List.getElem_mem h
end Go.Pv

/-
  The machine of plain values, 35: a function that puts off one call of a closure.
-/
set_option linter.unusedVariables false
namespace Go.Pv
set_option linter.unusedSectionVars false
variable [Lq]
/-- The end of a function that put off a call of the closure in slot t (function g, its code c, so many temporaries). -/
def EndsD (P : Program) (c : AC) (g m t : Nat) (X : St → Option AV) (r : AV) : AE → St → Prop
  | .exit _, _ => False
  | _, σ => ∃ caps H2, get σ.fr t = .fn g caps ∧ caps.length ≤ m ∧ aw P c (EndsG [] (.tup []) H2) ⟨caps.zipIdx.map fun p => (p.2, p.1), σ.hp⟩ ∧
      ∃ x, X ⟨σ.fr, H2⟩ = some x ∧ ∃ ms H1 l, hand H2 ms x = some (r, H1, l) ∧ liveB H1 l = true
/-- .. what comes ahead of it. -/
def Begins (P : Program) (c : AC) (g m t : Nat) (c2 : AC) (X : St → Option AV) (r : AV) : AE → St → Prop
  | .normal, σ => (∃ caps, get σ.fr t = .fn g caps) ∧ aw P c2 (EndsD P c g m t X r) σ
  | _, _ => False
section
variable {P : Program} {w : World} {γ : Gh} {H : Hp}
theorem run_ofD {X : St → Option AV} {f g : FuncId} {fn gn : Func} {ops0 : Array Oper} {o1 o2 : Oper} {i0 i1 t : Nat} {c2 cg : Code} {ats : Array TypeId} (hD : ∀ D γ0 w0, DrawOk P D fn.ntmps false γ0 w0) (hDg : ∀ γ0 w0, DrawOk P Dq.no gn.ntmps true γ0 w0)
    {ca cb c2' cg' : AC} {xs : List AV} {r : AV} (hf : P.funcs[f]? = some fn) (hb : fn.body = some (.seq (.region i0 ops0 false) (.seq (.region i1 #[o1, o2] false) c2))) (hn : (fn.name == "runtime.NumGoroutine") = false)
    (ho2 : o2.op = .defer { callee := .value (.tmp t), args := #[], argTypes := ats }) (hg1 : o1.guard = none) (hg2 : o2.guard = none) (hd2 : o2.dst = none)
    (hgf : P.funcs[g]? = some gn) (hgb : gn.body = some cg) (hgn : (gn.name == "runtime.NumGoroutine") = false) (hgr : gn.results = #[]) (hgl : g < 1000000)
    (hX : ∀ (D : Dq) (γ : Gh) (σ : St) (a : Act) (W : World) (x : AV) (γ0 : Gh) (w : World), SR D fn.ntmps false γ0 w γ σ a W → X σ = some x → ∃ v, (results fn a.tmps).run P W = .ok v W ∧ Sim W γ x v)
    (hca : bareC ca = comp P (.region i0 ops0 false)) (hoa : okC fn.ntmps false ca = true) (hcb : cb = .region 0 [comp2 P #[o1] false 0 o1] none) (hob : okC fn.ntmps false cb = true)
    (hc2 : bareC c2' = comp P c2) (hoc : okCp [t] fn.ntmps false c2' = true) (hcg : bareC cg' = comp P cg) (hog : okC gn.ntmps true cg' = true)
    (hlen : xs.length ≤ fn.ntmps) (hx : aw P ca (andThen (aw P cb (Begins P cg' g gn.ntmps t c2' X r)) (fun _ _ => False)) (entry xs)) : Run P f xs r := by
  refine ⟨can_of hf (by rw [hb]; rfl) hn, fun w I os args hq hos hown => ?_⟩
  have h0 : HRel (bareG I) [] w := ⟨fun id _ => rfl, fun id e he => by simp [ent] at he, fun i j x y b hi => (by cases hi), fun b hb => ⟨(hos.imm b hb).1, fun ⟨i, x, hi, _⟩ => by cases hi⟩, fun i x b hi => by cases hi⟩
  obtain ⟨γ0, m0, r0, l0, s0⟩ := layL_sim (I := I) layC_p hown (bareG I) [] rfl h0 ⟨fun b hb hI => (hos.imm b hI).2 hb, fun b _ i x hi => (by cases hi), hos.ap⟩
  have hlx : (layL layC [] xs).1.length = args.size := by simpa using l0
  have hxa : xs.length = args.size := by have := ownL_len hown; simpa using this
  have hq0 : Lq.q w γ0.imm := by first | exact hq | (rw [m0.imm]; exact hq)
  have hown0 : ∀ b, γ0.owns b ↔ blks os b := fun b => by
    rw [m0.own]
    exact ⟨fun h => h.elim (fun ⟨i, x, hi, _⟩ => by cases hi) (fun h => h), .inr⟩
  -- the end
  have fin : ∀ (D : Dq) (γ : Gh) (σ : St) (a : Act) (W : World), SR D fn.ntmps false γ0 w γ σ a W → (∃ x, X σ = some x ∧ ∃ ms H1 l, hand σ.hp ms x = some (r, H1, l) ∧ liveB H1 l = true) →
      ∃ v, (results fn a.tmps).run P W = .ok v W ∧ ∃ v' I' os', Ending.returned v = .returned v' ∧ OwnT W I' os' r v' ∧ OsOk W I' os' ∧ StepB I os I' os' w W := by
    rintro D γ σ a W h ⟨x, hx, ms, H1, l, hh, hlive⟩
    obtain ⟨vv, hres, hsim⟩ := hX D γ σ a W x _ _ h hx
    refine ⟨_, hres, ?_⟩
    obtain ⟨γ1, os', g1, r1, n1, k1⟩ := hand_p γ σ.hp H1 ms _ r _ l h.hp hsim hh
    have hliv : ∀ id ∈ l, ∀ ge, γ.m id = some ge → ge.st ≠ 0 → γ1.m id = some ge := by
      intro id hid ge hm hst
      rcases g1.ids id ge hm with h | h
      · exact h
      · exfalso
        have := List.all_eq_true.1 hlive id hid
        split at this
        · rename_i e he
          obtain ⟨ge', hm', hok⟩ := r1.ok id e he
          rw [h] at hm'; cases hm'
          have hl := hok.live (by
            simp only [Bool.or_eq_true, Bool.not_eq_true', List.isEmpty_eq_false_iff] at this
            exact this)
          have := hl.1
          simp only at this
          split at this <;> cases this
        · cases this
    have hosb : ∀ b, blks os' b → γ.owns b ∧ ∀ id ge, γ1.m id = some ge → ge.st ≠ 0 → ge.blk ≠ some b := by
      rintro b ⟨ge, hge, hb⟩
      obtain ⟨id, h1, h2, h3⟩ := g1.src ge hge b hb
      refine ⟨⟨id, ge, h1, h2, hb⟩, fun id' ge' hm hst hb' => ?_⟩
      have e := h.hp.inj id id' ge ge' b h1 (g1.rev id' ge' hm hst) (by rw [h2]; decide) hst hb hb'
      subst e
      rw [h3] at hm; cases hm
      exact hst rfl
    refine ⟨_, fun b => γ.imm b ∨ ∃ id ∈ l, ∃ ge, γ.m id = some ge ∧ ge.st ≠ 0 ∧ ge.blk = some b, os', rfl, k1 _ (fun b hb => .inl hb) (fun id hid ge b hm hst hb => .inr ⟨id, hid, ge, hm, hst, hb⟩), ⟨?_, ?_, g1.ap⟩, ?_⟩
    · rintro b (hb | ⟨id, hid, ge, hm, hst, hb⟩)
      · exact ⟨(h.hp.imm b hb).1, fun h' => (h.hp.imm b hb).2 (hosb b h').1⟩
      · exact ⟨h.hp.blkLt hm hst hb, fun h' => (hosb b h').2 id ge (hliv id hid ge hm hst) hst hb⟩
    · intro b hb
      obtain ⟨id, ge, h1, h2, h3⟩ := (hosb b hb).1
      exact h.hp.blkLt h1 (by rw [h2]; decide) h3
    · have own' : ∀ b, γ.owns b → blks os b ∨ w.heap.size ≤ b := fun b hb => (h.st.own b hb).imp (fun h => (hown0 b).1 h) id
      have imm' : ∀ b, γ.imm b → I b ∨ blks os b ∨ w.heap.size ≤ b := fun b hb => by
        rcases h.st.immn b hb with h1 | h1 | h1
        · rw [m0.imm] at h1; exact .inl h1
        · exact .inr (.inl ((hown0 b).1 h1))
        · exact .inr (.inr h1)
      refine ⟨h.st.os, h.st.tape, h.st.output, h.st.size, fun b hb hn => h.st.keep b hb fun h' => hn ((hown0 b).1 h'), fun b hb => own' b (hosb b hb).1, fun b hb => .inl (h.st.immk b (by rw [m0.imm]; exact hb)), ?_⟩
      rintro b (hb | ⟨id, hid, ge, hm, hst, hb⟩)
      · exact imm' b hb
      · rcases st_cases h.hp hm with h1 | h1 | h1
        · exact absurd h1 hst
        · exact imm' b (h.hp.stl id ge b hm h1 hb)
        · exact .inr (own' b ⟨id, ge, hm, h1, hb⟩)
  refine calls_of_wp_defers hf hb ?_
  refine wp_seq (wp_mono (aw_sound (hD Dq.no γ0 w) _ ca _ γ0 (entry xs) _ w hca hoa hx ⟨zip_frame hlx (fun i x v hx hv => s0 i x v hx (by simpa using hv)) _, r0, Step.refl _ _, rfl, ⟨by simp; omega, fun _ h => (by cases h)⟩, fun h => (by cases h), hq0⟩) ?_)
  intro e a W he
  cases e with
  | ret => obtain ⟨_, _, _, h2⟩ := he; exact h2.elim
  | exit id => obtain ⟨_, _, _, h2⟩ := he; exact h2.elim
  | goto _ => exact he.elim
  | panic _ => exact he.elim
  | outgrown => exact he.elim
  | normal =>
  obtain ⟨γ, σ, h1, h2⟩ := he
  refine wp_seq ?_
  refine wp_region ?_
  rw [show List.range (#[o1, o2] : Array Oper).size = [0, 1] from rfl, wpOps_cons]
  subst hcb
  have hd1 : ∀ d, o1.dst = some d → d < fn.ntmps ∧ Dq.no.pin d = false := by
    intro d hd
    simp only [okC, okCp, List.all_cons, List.all_nil, dstOk, comp2_dst, hd, Bool.and_true, Bool.and_eq_true, decide_eq_true_eq] at hob
    exact ⟨hob.1.1, rfl⟩
  have hx2 : aw2 P σ.hp.length (comp2 P #[o1, o2] false 0 o1) ⟨σ.fr, σ.hp⟩ (fun σ => Begins P cg' g gn.ntmps t c2' X r .normal σ) := by
    have := h2
    simp only [andThen, aw, List.replicate_zero, List.append_nil, awOps, trim] at this
    have e : comp2 P #[o1, o2] false 0 o1 = comp2 P #[o1] false 0 o1 := by simp [comp2, hg1]
    rw [e]
    exact this
  refine wpOp_mono ?_ (aw2_sound (ops := #[o1, o2]) (i := 0) (Q := _) h1 rfl hd1 hx2)
  rintro a1 W1 ⟨γ1, σ1, h3, ⟨caps, hcap⟩, h4⟩
  have hsim := h3.fr t
  rw [hcap] at hsim
  generalize hv : a1.tmps.getD t Go.undef = v at hsim
  cases hsim with
  | fn _ g' _ fs cs hfv hz hsc =>
  obtain ⟨rfl, rfl, _⟩ : g = g' ∧ fs = #[] ∧ g' < 1000000 := by
    rcases hfv with h | ⟨h, _⟩
    · exact h
    · exfalso; have : g' + 1000000 < 1000000 := h ▸ hgl; exact absurd this (Nat.not_lt.2 (Nat.le_add_left _ _))
  rw [wpOps_cons]
  unfold wpOp
  simp only [show (#[o1, o2] : Array Oper)[1]? = some o2 from rfl]
  rw [if_pos (by simp [Region.wanted, hg2])]
  left
  have hdef : (execOp a1.eval o2).run P W1 = .ok (.defer { target := .fn (.func g) cs, args := #[] }) W1 := by
    have hv' : a1.eval (.tmp t) = .func (.func g) #[] cs := hv
    simp [execOp, ho2, resolve, Deferred.ofValue, hv']
  unfold Oper.wp
  rw [hdef, Oper.upon_defer, hd2]
  simp only [wpOps]
  let D : Dq := ⟨[{ target := .fn (.func g) cs, args := #[] }], [(t, .func (.func g) #[] cs)]⟩
  have h5 : SR D fn.ntmps false γ0 w γ1 σ1 (Act.put { a1 with defers := { target := .fn (.func g) cs, args := #[] } :: a1.defers } none Go.undef) W1 :=
    ⟨h3.fr, h3.hp, h3.st, (by show _ :: a1.defers = _; rw [h3.df]; rfl), ⟨h3.sz.1, fun p hp => (by
      have : p = (t, .func (.func g) #[] cs) := by simpa [D] using hp
      subst this; exact hv)⟩, h3.ids, h3.lq⟩
  refine wp_mono (aw_sound (D := D) (hD D γ0 w) _ c2' _ γ1 σ1 _ W1 hc2 hoc h4 h5) ?_
  have ends : ∀ (γ : Gh) (σ : St) (a : Act) (W : World), SR D fn.ntmps false γ0 w γ σ a W → (∃ caps H2, get σ.fr t = .fn g caps ∧ caps.length ≤ gn.ntmps ∧ aw P cg' (EndsG [] (.tup []) H2) ⟨caps.zipIdx.map fun p => (p.2, p.1), σ.hp⟩ ∧
      ∃ x, X ⟨σ.fr, H2⟩ = some x ∧ ∃ ms H1 l, hand H2 ms x = some (r, H1, l) ∧ liveB H1 l = true) → Leaves P fn a.tmps (fun e W => ∃ v I' os', e = .returned v ∧ OwnT W I' os' r v ∧ OsOk W I' os' ∧ StepB I os I' os' w W) a.defers .returning W := by
    rintro γ σ a W h ⟨caps, H2, k1, k2, k3, k4⟩
    have hs := h.fr t
    rw [k1, show a.tmps.getD t Go.undef = .func (.func g) #[] cs from h.sz.2 (t, .func (.func g) #[] cs) (List.mem_singleton.2 rfl)] at hs
    cases hs with
    | fn _ _ _ _ _ _ hz hsc =>
    rw [Array.empty_append] at hz hsc
    rw [h.df]
    refine leaves_cons (fun h => by cases h) (f := g) (args := cs) ?_ ?_
    · have := can_of (P := P) hgf (by rw [hgb]; rfl) hgn cs W
      simpa [invoke] using this
    · refine (callsD_of_wp hgf hgb (R := fun e W' => ∃ v γ', e = .returned v ∧ HRel γ' H2 W' ∧ Step γ γ' W W' ∧ Ids γ γ') ?_).mono ?_
      · refine wp_mono (aw_sound (hDg γ W) cg cg' (EndsG [] (.tup []) H2) γ ⟨caps.zipIdx.map fun p => (p.2, p.1), σ.hp⟩ _ W hcg hog k3 ⟨zip_frame hz hsc _, h.hp, Step.refl _ _, rfl, ⟨by simp; omega, fun _ h => (by cases h)⟩, fun _ => Ids.refl _, h.lq⟩) ?_
        have fing : ∀ (γ' : Gh) (σ' : St) (a' : Act) (W' : World), SR Dq.no gn.ntmps true γ W γ' σ' a' W' → resX σ'.fr [] = .tup [] ∧ σ'.hp = H2 →
            a'.defers = [] ∧ ∃ v, (results gn a'.tmps).run P W' = .ok v W' ∧ ∃ v' γ', Ending.returned v = .returned v' ∧ HRel γ' H2 W' ∧ Step γ γ' W W' ∧ Ids γ γ' := by
          rintro γ' σ' a' W' h' ⟨_, h2⟩
          refine ⟨h'.df, _, res_run (ts := []) (by rw [hgr]; rfl) a'.tmps, _, γ', rfl, h2 ▸ h'.hp, h'.st, h'.ids rfl⟩
        intro e a' W' he
        cases e with
        | normal => obtain ⟨γ', σ', h1, h2⟩ := he; exact fing γ' σ' a' W' h1 h2
        | ret => obtain ⟨γ', σ', h1, h2⟩ := he; exact fing γ' σ' a' W' h1 h2
        | exit id => obtain ⟨_, _, _, h2⟩ := he; exact h2.elim
        | goto _ => exact he.elim
        | panic _ => exact he.elim
        | outgrown => exact he.elim
      · rintro e u W' ⟨rfl, v, γ', rfl, hh', st', ids'⟩
        have h' : SR D fn.ntmps false γ0 w γ' ⟨σ.fr, H2⟩ a W' := ⟨h.fr.adv (st'.adv ids' h.hp.imm), hh', h.st.trans st', h.df, h.sz, fun hk => (by cases hk), st'.q h.hp.imm h.lq⟩
        obtain ⟨v', r1, r2⟩ := fin D γ' ⟨σ.fr, H2⟩ a W' h' k4
        exact ⟨v', r1, r2⟩
  intro e a W he
  cases e with
  | normal => obtain ⟨γ, σ, h1, h2⟩ := he; exact ends γ σ a W h1 h2
  | ret => obtain ⟨γ, σ, h1, h2⟩ := he; exact ends γ σ a W h1 h2
  | exit id => obtain ⟨_, _, _, h2⟩ := he; exact h2.elim
  | goto _ => exact he.elim
  | panic _ => exact he.elim
  | outgrown => exact he.elim
theorem run_ofCD {rs : List RV} {f g : FuncId} {fn gn : Func} {ops0 : Array Oper} {o1 o2 : Oper} {i0 i1 t : Nat} {c2 cg : Code} {ats : Array TypeId} (hD : ∀ D γ0 w0, DrawOk P D fn.ntmps false γ0 w0) (hDg : ∀ γ0 w0, DrawOk P Dq.no gn.ntmps true γ0 w0)
    {ca cb c2' cg' : AC} {xs : List AV} {r : AV} (hf : P.funcs[f]? = some fn) (hb : fn.body = some (.seq (.region i0 ops0 false) (.seq (.region i1 #[o1, o2] false) c2))) (hn : (fn.name == "runtime.NumGoroutine") = false)
    (ho2 : o2.op = .defer { callee := .value (.tmp t), args := #[], argTypes := ats }) (hg1 : o1.guard = none) (hg2 : o2.guard = none) (hd2 : o2.dst = none)
    (hgf : P.funcs[g]? = some gn) (hgb : gn.body = some cg) (hgn : (gn.name == "runtime.NumGoroutine") = false) (hgr : gn.results = #[]) (hgl : g < 1000000)
    (hr : rvsOk P rs fn.results.toList = true)
    (hca : bareC ca = comp P (.region i0 ops0 false)) (hoa : okC fn.ntmps false ca = true) (hcb : cb = .region 0 [comp2 P #[o1] false 0 o1] none) (hob : okC fn.ntmps false cb = true)
    (hc2 : bareC c2' = comp P c2) (hoc : okCp [t] fn.ntmps false c2' = true) (hcg : bareC cg' = comp P cg) (hog : okC gn.ntmps true cg' = true)
    (hlen : xs.length ≤ fn.ntmps) (hx : aw P ca (andThen (aw P cb (Begins P cg' g gn.ntmps t c2' (rvs rs) r)) (fun _ _ => False)) (entry xs)) : Run P f xs r :=
  run_ofD hD hDg hf hb hn ho2 hg1 hg2 hd2 hgf hgb hgn hgr hgl (fun D γ σ a W x γ0 w h hx => rvs_run hr γ σ a W x γ0 w h hx) hca hoa hcb hob hc2 hoc hcg hog hlen hx
end
end Go.Pv
