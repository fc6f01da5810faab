/-
  The machine of plain values, 14: what is handed over, is had of what there is.
-/
import Derived.Test.YtabenkmiojjiiaaPvM
namespace Go.Pv
section
variable {P : Program} {w w' : World} {γ γ' : Gh} {H H' : Hp} {I : Nat → Prop}
theorem elem_snap (hh : HRel γ H w) (hI0 : ∀ b, γ.imm b → I b) {n : Nat} {e : Ent} {ge : GE} {g i : Nat} {x y : AV} (hok : EntOk w γ e ge) (hg : ge.blk = some g) (hx : e.es[i]? = some x) (hs : snap H n x = some y) (hl : Holds γ (rows H n x) I) :
    y.flat.length = ge.sz ∧ ∀ (j : Nat) (z : AV), y.flat[j]? = some z → ∃ u, w.cell? ⟨g, i * ge.sz + j, none⟩ = some u ∧ u.oneCell' = true ∧ Sim w (bareG I) z u := by
  cases n with
  | zero => cases hs
  | succ m =>
    obtain ⟨f1, f2⟩ := snap_flat hs
    have hlie := hok.lies hg hx
    have hlen : x.flat.length = ge.sz := by
      rcases (hok.live (.inr (by intro hn; rw [hn] at hx; simp at hx))).2 with ⟨h1, _⟩ | ⟨g', cs, fr, _, _, _, _, _, h6⟩
      · rw [h1] at hg; cases hg
      · exact (h6 i x hx).1
    refine ⟨by rw [← f1]; exact hlen, fun j z hz => ?_⟩
    obtain ⟨u, k, hu, hk, hsu, _, hsub⟩ := f2 j z hz
    obtain ⟨u', c1, c2, c3⟩ := hlie j u hu
    exact ⟨u', c1, c2, snap_sim hh hI0 k u z u' (fun id hid => hl id (hsub id hid)) hsu c3⟩
/-- γ1 is γ without the rows os. -/
structure Gone (γ γ1 : Gh) (os : List GE) : Prop where
  imm : γ1.imm = γ.imm
  ids : ∀ id ge, γ.m id = some ge → γ1.m id = some ge ∨ γ1.m id = some { ge with st := 0 }
  rev : ∀ id ge, γ1.m id = some ge → ge.st ≠ 0 → γ.m id = some ge
  non : ∀ id, γ.m id = none → γ1.m id = none
  own : ∀ b, γ1.owns b → γ.owns b
  src : ∀ ge ∈ os, ∀ b, ge.blk = some b → ∃ id, γ.m id = some ge ∧ ge.st = 2 ∧ γ1.m id = some { ge with st := 0 }
  ap : os.Pairwise fun x y => ∀ b, x.blk = some b → y.blk ≠ some b
theorem Gone.nil (γ : Gh) : Gone γ γ [] := ⟨rfl, fun _ _ h => .inl h, fun _ _ h _ => h, fun _ h => h, fun _ h => h, fun _ h => (by cases h), .nil⟩
theorem Gone.one_none (γ : Gh) {ge : GE} (h : ge.blk = none) : Gone γ γ [ge] :=
  ⟨rfl, fun _ _ h => .inl h, fun _ _ h _ => h, fun _ h => h, fun _ h => h, fun x hx b hb => (by simp at hx; subst hx; rw [h] at hb; cases hb), List.pairwise_singleton _ _⟩
theorem Gone.toIds {os : List GE} (h : Gone γ γ' os) : Ids γ γ' := fun id ge hi => (h.ids id ge hi).elim (fun h => ⟨ge.st, h⟩) fun h => ⟨0, h⟩
theorem Gone.adv {os : List GE} (h : Gone γ γ' os) (w : World) : Adv γ γ' w w := ⟨Nat.le_refl _, fun b hb => ⟨by rw [h.imm]; exact hb, fun _ => rfl⟩, h.toIds⟩
theorem Gone.trans {a b c : Gh} {os os' : List GE} (hh : HRel a H w) (h : Gone a b os) (k : Gone b c os') : Gone a c (os ++ os') where
  imm := k.imm.trans h.imm
  ids := fun id ge hi => by
    rcases h.ids id ge hi with h1 | h1
    · exact k.ids id ge h1
    · rcases k.ids id _ h1 with h2 | h2
      · exact .inr h2
      · exact .inr h2
  rev := fun id ge hi hs => h.rev id ge (k.rev id ge hi hs) hs
  non := fun id hi => k.non id (h.non id hi)
  own := fun x hx => h.own x (k.own x hx)
  src := fun ge hge x hx => by
    rcases List.mem_append.1 hge with hge | hge
    · obtain ⟨id, h1, h2, h3⟩ := h.src ge hge x hx
      refine ⟨id, h1, h2, ?_⟩
      rcases k.ids id _ h3 with h4 | h4 <;> exact h4
    · obtain ⟨id, h1, h2, h3⟩ := k.src ge hge x hx
      exact ⟨id, h.rev id ge h1 (by rw [h2]; decide), h2, h3⟩
  ap := by
    refine List.pairwise_append.2 ⟨h.ap, k.ap, fun x hx y hy b hxb hyb => ?_⟩
    obtain ⟨i, h1, h2, h3⟩ := h.src x hx b hxb
    obtain ⟨j, k1, k2, k3⟩ := k.src y hy b hyb
    have k1' := h.rev j y k1 (by rw [k2]; decide)
    have e := hh.inj i j x y b h1 k1' (by rw [h2]; decide) (by rw [k2]; decide) hxb hyb
    subst e
    rw [h3] at k1
    cases k1
    cases k2
theorem not_own {sz : Nat} {ty : TypeId} {es : List AV} {v : Value} : ¬ Sim w γ (.own sz ty es) v := fun h => by cases h
theorem OwnC.val {x : AV} {v : Value} (h : Sim w (bareG I) x v) : OwnC w I [] x v := by
  unfold OwnC
  split
  · exact absurd h not_own
  · exact ⟨rfl, h⟩
/-- What is taken of a value. -/
def TakeP {μ : Type} (w : World) (R : (Nat → Prop) → List GE → AV → Value → Prop) (g : Hp → μ → AV → Option (AV × Hp × List Nat)) : Prop :=
  ∀ (γ : Gh) (H H1 : Hp) (m : μ) (x y : AV) (v : Value) (l : List Nat), HRel γ H w → Sim w γ x v → g H m x = some (y, H1, l) →
    ∃ γ1 os, Gone γ γ1 os ∧ HRel γ1 H1 w ∧ H1.length = H.length ∧ ∀ I : Nat → Prop, (∀ b, γ.imm b → I b) → Holds γ l I → R I os y v
theorem take_dead (hh : HRel γ H w) {id : Nat} {e : Ent} {ge : GE} (he : ent H id = some e) (hm : γ.m id = some ge) (hst : ge.st = 2) :
    Gone γ (γ.add id { ge with st := 0 }) [ge] ∧ HRel (γ.add id { ge with st := 0 }) (H.set id (some { e with es := [], wr := false })) w := by
  have look : ∀ i x, (γ.add id { ge with st := 0 }).m i = some x → x.st ≠ 0 → i ≠ id ∧ γ.m i = some x := by
    intro i x hx hs
    by_cases e1 : i = id
    · subst e1; rw [Gh.add_same] at hx; cases hx; exact absurd rfl hs
    · rw [Gh.add_other _ _ _ e1] at hx; exact ⟨e1, hx⟩
  have hown : ∀ b, (γ.add id { ge with st := 0 }).owns b → γ.owns b := fun b ⟨i, x, h1, h2, h3⟩ => ⟨i, x, (look i x h1 (by rw [h2]; decide)).2, h2, h3⟩
  refine ⟨⟨rfl, fun i x hi => ?_, fun i x hi hs => (look i x hi hs).2, fun i hi => ?_, hown, fun x hx b hb => ?_, List.pairwise_singleton _ _⟩, ?_⟩
  · by_cases e1 : i = id
    · subst e1; rw [hm] at hi; cases hi; exact .inr (Gh.add_same _ _ _)
    · exact .inl (by rw [Gh.add_other _ _ _ e1]; exact hi)
  · by_cases e1 : i = id
    · subst e1; rw [hm] at hi; cases hi
    · rw [Gh.add_other _ _ _ e1]; exact hi
  · simp at hx; subst hx
    exact ⟨id, hm, hst, Gh.add_same _ _ _⟩
  · refine (hrel_change (γ' := γ.add id { ge with st := 0 }) hh ⟨rfl, rfl, rfl, Nat.le_refl _, fun _ _ _ => rfl⟩ rfl (Gh.add_ids (.inr ⟨ge.st, hm⟩)) (fun b h => .inl (hown b h)) ?_ ?_ ?_).1
    · intro i j x y b hi hj hx hy hbx hby
      exact hh.inj i j x y b (look i x hi hx).2 (look j y hj hy).2 hx hy hbx hby
    · intro i x hi hs
      exact (look i x hi (by rw [hs]; decide)).2
    · intro i
      by_cases e1 : i = id
      · subst e1
        exact .inr ⟨_, { ge with st := 0 }, by rw [ent_set he, if_pos rfl], Gh.add_same _ _ _, fun _ => .inl ⟨rfl, rfl, rfl⟩⟩
      · exact .inl ⟨by rw [ent_set he, if_neg e1], Gh.add_other _ _ _ e1, fun _ _ _ _ _ => rfl⟩
theorem passOne_p : TakeP w (OwnC w) passOne := by
  intro γ H H1 m x y v l hh hs h
  cases m with
  | snap =>
    simp only [passOne] at h
    obtain ⟨z, hz, h⟩ := Option.map_eq_some_iff.1 h
    simp only [Prod.mk.injEq] at h
    obtain ⟨rfl, rfl, rfl⟩ := h
    exact ⟨γ, [], Gone.nil γ, hh, rfl, fun I hI hl => OwnC.val (snap_sim hh hI deep x z v hl hz hs)⟩
  | nil sz full =>
    simp only [passOne] at h
    split at h
    · rename_i sz' full'
      split at h
      · rename_i hf
        cases h
        refine ⟨γ, [], Gone.nil γ, hh, rfl, fun I hI hl => OwnC.val ?_⟩
        cases hs with
        | sl _ _ _ _ _ _ _ hp => simp at hp
        | sl0 _ _ A cap hc => exact .sl0 sz full A cap fun h => hc (hf h)
      · cases h
    · split at h
      · rename_i hf
        obtain ⟨rfl, rfl⟩ := hf
        cases h
        refine ⟨γ, [], Gone.nil γ, hh, rfl, fun I hI hl => OwnC.val ?_⟩
        cases hs with
        | vec _ _ _ _ A cap ge hm hz hlC hcC hN hA => exact .sl0 sz false A cap fun h => (by cases h)
      · cases h
    · cases h
  | own sz ty =>
    simp only [passOne] at h
    split at h
    · rename_i id sz' off len
      obtain ⟨e, he, hq⟩ := Option.bind_eq_some_iff.1 h
      clear h
      split at hq
      case isFalse => cases hq
      rename_i hc
      obtain ⟨hwr, rfl, hlen, rfl, rfl⟩ := hc
      obtain ⟨es, hes, hq⟩ := Option.map_eq_some_iff.1 hq
      simp only [Prod.mk.injEq] at hq
      obtain ⟨rfl, rfl, rfl⟩ := hq
      obtain ⟨m1, m2⟩ := mapO_get hes
      rw [List.length_take, Nat.min_eq_left hlen] at m1
      cases hs with
      | vec _ _ _ _ A cap ge hm hz hlC hcC hN hA =>
      obtain ⟨ge', hm', hok⟩ := hh.ok id e he
      rw [hm] at hm'; cases hm'
      have hst := wr_live hok hwr
      obtain ⟨g1, g2⟩ := take_dead hh he hm hst
      refine ⟨_, [ge], g1, g2, by simp, fun I hI hl => ⟨ge, rfl, ?_⟩⟩
      simp only [Nat.add_zero] at hcC
      subst hcC
      refine ⟨?_, hz, hst, by rw [← m1]; omega, ⟨A, by rw [← m1], fun g hg => by rw [hA g hg (.inr rfl)]; simp⟩, hN⟩
      refine .inr ⟨hst, ?_⟩
      cases hg : ge.blk with
      | none =>
        have hC := hN hg
        refine .inl ⟨rfl, List.eq_nil_of_length_eq_zero (by show es.length = 0; omega), hC⟩
      | some g =>
        obtain ⟨cs, fz, hw, hsz, hfz, hle, hro⟩ := placed hok hwr hg
        refine .inr ⟨g, cs, fz, rfl, hw, hsz, hfz, by show es.length ≤ _; omega, fun i x hx => ?_⟩
        obtain ⟨x0, hx0, hsx⟩ := m2 i x hx
        have hx1 : e.es[i]? = some x0 := by
          rw [List.getElem?_take] at hx0
          split at hx0
          · exact hx0
          · cases hx0
        obtain ⟨k1, k2⟩ := elem_snap hh hI hok hg hx1 hsx (fun id' hid => hl id' (List.mem_flatMap.2 ⟨x0, List.mem_of_getElem? hx0, hid⟩))
        refine ⟨k1, fun j z hz => ?_⟩
        obtain ⟨u, u1, u2, u3⟩ := k2 j z hz
        refine ⟨u, ?_, u2, u3⟩
        simpa [World.cell?, hw] using u1
    · rename_i sz'
      simp only [Option.some.injEq, Prod.mk.injEq] at h
      obtain ⟨rfl, rfl, rfl⟩ := h
      refine ⟨γ, [⟨none, sz, 0, 2⟩], Gone.one_none γ rfl, hh, rfl, fun I hI hl => ⟨_, rfl, ?_⟩⟩
      cases hs with
      | sl _ _ _ _ _ _ _ hp => simp at hp
      | sl0 _ _ A cap hc =>
        rw [hc rfl]
        exact ⟨.inr ⟨rfl, .inl ⟨rfl, rfl, rfl⟩⟩, rfl, rfl, Nat.le_refl _, ⟨A, rfl, fun g hg => by cases hg⟩, fun _ => rfl⟩
    · cases h
theorem Holds.left {l l' : List Nat} (h : Holds γ (l ++ l') I) : Holds γ l I := fun id hid => h id (List.mem_append_left _ hid)
theorem Holds.right {l l' : List Nat} (h : Holds γ (l ++ l') I) {os : List GE} (hg : Gone γ γ' os) : Holds γ' l' I := fun id hid ge b hm hs hb => h id (List.mem_append_right _ hid) ge b (hg.rev id ge hm hs) hs hb
theorem passG_sim {μ : Type} {R : (Nat → Prop) → List GE → AV → Value → Prop} {g : Hp → μ → AV → Option (AV × Hp × List Nat)} (hg : TakeP w R g) (d : μ) : ∀ (xs : List AV) (γ : Gh) (H H1 : Hp) (ms : List μ) (ys : List AV) (vs : List Value) (l : List Nat),
    HRel γ H w → xs.length = vs.length → (∀ (i : Nat) (x : AV) (v : Value), xs[i]? = some x → vs[i]? = some v → Sim w γ x v) → passG g d H ms xs = some (ys, H1, l) →
    ∃ γ1 os, Gone γ γ1 os ∧ HRel γ1 H1 w ∧ H1.length = H.length ∧ ∀ I : Nat → Prop, (∀ b, γ.imm b → I b) → Holds γ l I → OwnL (R I) os ys vs
  | [], γ, H, H1, ms, ys, vs, l, hh, hl, hs, h => by
    simp only [passG, Option.some.injEq, Prod.mk.injEq] at h
    obtain ⟨rfl, rfl, rfl⟩ := h
    cases vs with
    | nil => exact ⟨γ, [], Gone.nil γ, hh, rfl, fun _ _ _ => .nil⟩
    | cons _ _ => simp at hl
  | x :: xs, γ, H, H1, ms, ys, vs, l, hh, hl, hs, h => by
    simp only [passG] at h
    obtain ⟨⟨y, H2, l1⟩, h1, h⟩ := Option.bind_eq_some_iff.1 h
    obtain ⟨⟨ys', H3, l2⟩, h2, h⟩ := Option.map_eq_some_iff.1 h
    simp only [Prod.mk.injEq] at h
    obtain ⟨rfl, rfl, rfl⟩ := h
    cases vs with
    | nil => simp at hl
    | cons v vs =>
      obtain ⟨γ1, os1, g1, r1, n1, k1⟩ := hg γ H H2 _ x y v l1 hh (hs 0 x v rfl rfl) h1
      obtain ⟨γ2, os2, g2, r2, n2, k2⟩ := passG_sim hg d xs γ1 H2 H3 ms.tail ys' vs l2 r1 (by simpa using hl) (fun i x v hx hv => (hs (i + 1) x v (by simpa using hx) (by simpa using hv)).adv (g1.adv w)) h2
      exact ⟨γ2, os1 ++ os2, g1.trans hh g2, r2, n2.trans n1, fun I hI hl => .cons (k1 I hI hl.left) (k2 I (fun b hb => hI b (by rw [← g1.imm]; exact hb)) (hl.right g1))⟩
theorem OwnA.ofC {os : List GE} {x : AV} {v : Value} (h : OwnC w I os x v) : OwnA w I os x v := by
  unfold OwnA
  split
  · rename_i xs
    obtain ⟨rfl, h⟩ := h
    cases h with
    | agg _ cs hz hs =>
    refine ⟨cs, rfl, ?_⟩
    have : ∀ (xs : List AV) (vs : List Value), xs.length = vs.length → (∀ (i : Nat) (x : AV) (v : Value), xs[i]? = some x → vs[i]? = some v → Sim w (bareG I) x v) → OwnL (OwnC w I) [] xs vs := by
      intro xs
      induction xs with
      | nil => intro vs hl _; cases vs with | nil => exact .nil | cons _ _ => simp at hl
      | cons x xs ih =>
        intro vs hl hs
        cases vs with
        | nil => simp at hl
        | cons v vs => exact OwnL.cons (os := []) (os' := []) (OwnC.val (hs 0 x v rfl rfl)) (ih vs (by simpa using hl) fun i x v hx hv => hs (i + 1) x v (by simpa using hx) (by simpa using hv))
    exact this xs cs.toList (by simpa using hz) fun i x v hx hv => hs i x v hx (by simpa using hv)
  · exact h
theorem handA_p : TakeP w (OwnA w) handA := by
  intro γ H H1 m x y v l hh hs h
  unfold handA at h
  split at h
  · obtain ⟨γ1, os, h1, h2, h3, h4⟩ := passOne_p γ H H1 _ x y v l hh hs h
    exact ⟨γ1, os, h1, h2, h3, fun I hI hl => OwnA.ofC (h4 I hI hl)⟩
  · obtain ⟨γ1, os, h1, h2, h3, h4⟩ := passOne_p γ H H1 _ x y v l hh hs h
    exact ⟨γ1, os, h1, h2, h3, fun I hI hl => OwnA.ofC (h4 I hI hl)⟩
  · obtain ⟨⟨ys, H2, l'⟩, h1, h⟩ := Option.map_eq_some_iff.1 h
    simp only [Prod.mk.injEq] at h
    obtain ⟨rfl, rfl, rfl⟩ := h
    obtain ⟨cs, rfl, hz, hcs⟩ := agg_inv hs
    obtain ⟨γ1, os, g1, g2, g3, g4⟩ := passG_sim passOne_p _ _ γ H _ _ _ cs.toList _ hh (by simpa using hz) (fun i x v hx hv => hcs i x v hx (by simpa using hv)) h1
    exact ⟨γ1, os, g1, g2, g3, fun I hI hl => ⟨cs, rfl, g4 I hI hl⟩⟩
  · cases h
theorem OwnT.ofA {os : List GE} {x : AV} {v : Value} (h : OwnA w I os x v) (hx : ∀ xs, x ≠ .tup xs) : OwnT w I os x v := by
  unfold OwnT
  split
  · exact absurd rfl (hx _)
  · exact h
theorem passOne_tup {m : Mode} {x : AV} {ys : List AV} {H1 : Hp} {l : List Nat} (h : passOne H m x = some (.tup ys, H1, l)) : ∃ xs, x = .tup xs := by
  cases m with
  | snap =>
    simp only [passOne] at h
    obtain ⟨z, hz, h⟩ := Option.map_eq_some_iff.1 h
    simp only [Prod.mk.injEq] at h
    obtain ⟨rfl, _, _⟩ := h
    simp only [deep] at hz
    cases x <;> simp only [snap] at hz <;> first
      | (cases hz; done)
      | exact ⟨_, rfl⟩
      | (obtain ⟨_, _, hz⟩ := Option.bind_eq_some_iff.1 hz; obtain ⟨_, _, hz⟩ := Option.map_eq_some_iff.1 hz; cases hz; done)
      | (obtain ⟨_, _, hz⟩ := Option.bind_eq_some_iff.1 hz; obtain ⟨_, _, hz⟩ := Option.bind_eq_some_iff.1 hz; obtain ⟨_, _, hz⟩ := Option.map_eq_some_iff.1 hz; cases hz; done)
      | (obtain ⟨_, _, hz⟩ := Option.map_eq_some_iff.1 hz; cases hz; done)
  | nil sz full =>
    simp only [passOne] at h
    split at h
    · split at h <;> cases h
    · split at h <;> cases h
    · cases h
  | own sz ty =>
    simp only [passOne] at h
    split at h
    · obtain ⟨e, he, h⟩ := Option.bind_eq_some_iff.1 h
      split at h
      · obtain ⟨es, hes, h⟩ := Option.map_eq_some_iff.1 h
        cases h
      · cases h
    · cases h
    · cases h
theorem hand_p : TakeP w (OwnT w) hand := by
  intro γ H H1 m x y v l hh hs h
  unfold hand at h
  split at h
  · obtain ⟨⟨ys, H2, l'⟩, h1, h⟩ := Option.map_eq_some_iff.1 h
    simp only [Prod.mk.injEq] at h
    obtain ⟨rfl, rfl, rfl⟩ := h
    obtain ⟨cs, rfl, hz, hcs⟩ := tup_inv hs
    obtain ⟨γ1, os, g1, g2, g3, g4⟩ := passG_sim handA_p _ _ γ H _ _ _ cs.toList _ hh (by simpa using hz) (fun i x v hx hv => hcs i x v hx (by simpa using hv)) h1
    exact ⟨γ1, os, g1, g2, g3, fun I hI hl => ⟨cs, rfl, g4 I hI hl⟩⟩
  · rename_i hnt
    obtain ⟨γ1, os, h1, h2, h3, h4⟩ := handA_p γ H H1 _ x y v l hh hs h
    refine ⟨γ1, os, h1, h2, h3, fun I hI hl => OwnT.ofA (h4 I hI hl) fun ys e => ?_⟩
    subst e
    unfold handA at h
    split at h
    · obtain ⟨xs, hx⟩ := passOne_tup h; exact hnt xs hx
    · obtain ⟨xs, hx⟩ := passOne_tup h; exact hnt xs hx
    · obtain ⟨_, _, h⟩ := Option.map_eq_some_iff.1 h; cases h
    · cases h
end
end Go.Pv
