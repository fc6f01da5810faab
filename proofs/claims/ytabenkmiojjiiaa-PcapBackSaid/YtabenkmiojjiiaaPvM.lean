/-
  The machine of plain values, 13: what stands between a call and its caller: values of memory that nobody writes, and rows that are handed over.
-/
import Derived.Test.YtabenkmiojjiiaaPvL
set_option linter.unusedVariables false
set_option linter.unusedSimpArgs false
namespace Go.Pv
/-- No rows; I: the blocks that nobody writes. -/
def bareG (I : Nat → Prop) : Gh := ⟨fun _ => none, I⟩
/-- A row that is handed over, as a slice value. -/
structure OwnRow (w : World) (I : Nat → Prop) (ge : GE) (sz : Nat) (ty : TypeId) (es : List AV) (v : Value) : Prop where
  ok : EntOk w (bareG I) ⟨ty, es, true⟩ ge
  sz : ge.sz = sz
  st : ge.st = 2
  le : es.length ≤ ge.C
  val : ∃ A, v = .slice A es.length ge.C ∧ ∀ g, ge.blk = some g → A = some ⟨g, 0, none⟩
  no : ge.blk = none → ge.C = 0
def OwnC (w : World) (I : Nat → Prop) (os : List GE) (x : AV) (v : Value) : Prop :=
  match x with
  | .own sz ty es => ∃ ge, os = [ge] ∧ OwnRow w I ge sz ty es v
  | x => os = [] ∧ Sim w (bareG I) x v
inductive OwnL (R : List GE → AV → Value → Prop) : List GE → List AV → List Value → Prop
  | nil : OwnL R [] [] []
  | cons {os os' : List GE} {x : AV} {xs : List AV} {v : Value} {vs : List Value} : R os x v → OwnL R os' xs vs → OwnL R (os ++ os') (x :: xs) (v :: vs)
def OwnA (w : World) (I : Nat → Prop) (os : List GE) (x : AV) (v : Value) : Prop :=
  match x with
  | .agg xs => ∃ cs : Array Value, v = .agg cs ∧ OwnL (OwnC w I) os xs cs.toList
  | x => OwnC w I os x v
def OwnT (w : World) (I : Nat → Prop) (os : List GE) (x : AV) (v : Value) : Prop :=
  match x with
  | .tup xs => ∃ cs : Array Value, v = .tuple cs ∧ OwnL (OwnA w I) os xs cs.toList
  | x => OwnA w I os x v
def blks (os : List GE) (b : Nat) : Prop := ∃ ge ∈ os, ge.blk = some b
/-- The rows lie apart, and apart from what nobody writes. -/
structure OsOk (w : World) (I : Nat → Prop) (os : List GE) : Prop where
  imm : ∀ b, I b → b < w.heap.size ∧ ¬ blks os b
  lt : ∀ b, blks os b → b < w.heap.size
  ap : os.Pairwise fun x y => ∀ b, x.blk = some b → y.blk ≠ some b

section
variable {P : Program} {w w' : World} {γ γ' : Gh} {H H' : Hp} {I : Nat → Prop}
theorem blks_nil (b : Nat) : ¬ blks [] b := fun ⟨_, h, _⟩ => by cases h
theorem blks_app {os os' : List GE} {b : Nat} : blks (os ++ os') b ↔ blks os b ∨ blks os' b := by
  constructor
  · rintro ⟨ge, h, hb⟩
    rcases List.mem_append.1 h with h | h
    · exact .inl ⟨ge, h, hb⟩
    · exact .inr ⟨ge, h, hb⟩
  · rintro (⟨ge, h, hb⟩ | ⟨ge, h, hb⟩)
    · exact ⟨ge, List.mem_append_left _ h, hb⟩
    · exact ⟨ge, List.mem_append_right _ h, hb⟩
theorem blks_one {ge : GE} {b : Nat} : blks [ge] b ↔ ge.blk = some b :=
  ⟨fun ⟨x, h, hb⟩ => by simp at h; subst h; exact hb, fun h => ⟨ge, by simp, h⟩⟩
theorem Sim.unbare {x : AV} {v : Value} (h : Sim w (bareG γ.imm) x v) : Sim w γ x v :=
  h.adv ⟨Nat.le_refl _, fun _ hb => ⟨hb, fun _ => rfl⟩, fun _ _ hi => by cases hi⟩
theorem EntOk.unbare {e : Ent} {ge : GE} (h : EntOk w (bareG γ.imm) e ge) : EntOk w γ e ge :=
  h.adv ⟨Nat.le_refl _, fun _ hb => ⟨hb, fun _ => rfl⟩, fun _ _ hi => by cases hi⟩ (fun _ _ _ => rfl)

/-! ### Laying -/
/-- γ' is γ and the rows os more. -/
structure More (γ γ' : Gh) (os : List GE) : Prop where
  imm : γ'.imm = γ.imm
  ids : ∀ id ge, γ.m id = some ge → γ'.m id = some ge
  own : ∀ b, γ'.owns b ↔ γ.owns b ∨ blks os b
  liv : ∀ id ge b, γ'.m id = some ge → ge.st ≠ 0 → ge.blk = some b → (∃ id' ge', γ.m id' = some ge' ∧ ge'.st ≠ 0 ∧ ge'.blk = some b) ∨ blks os b
theorem More.nil (γ : Gh) : More γ γ [] := ⟨rfl, fun _ _ h => h, fun b => ⟨.inl, fun h => h.elim id (fun h => absurd h (blks_nil b))⟩, fun id ge b h1 h2 h3 => .inl ⟨id, ge, h1, h2, h3⟩⟩
theorem More.trans {a b c : Gh} {os os' : List GE} (h : More a b os) (k : More b c os') : More a c (os ++ os') where
  imm := k.imm.trans h.imm
  ids := fun i g hi => k.ids i g (h.ids i g hi)
  own := fun x => by rw [k.own, h.own, blks_app, or_assoc]
  liv := fun i g x h1 h2 h3 => by
    rcases k.liv i g x h1 h2 h3 with ⟨i', g', h4, h5, h6⟩ | h4
    · rcases h.liv i' g' x h4 h5 h6 with h | h
      · exact .inl h
      · exact .inr (blks_app.2 (.inl h))
    · exact .inr (blks_app.2 (.inr h4))
theorem More.adv {os : List GE} (h : More γ γ' os) (w : World) : Adv γ γ' w w := ⟨Nat.le_refl _, fun b hb => ⟨by rw [h.imm]; exact hb, fun _ => rfl⟩, fun i ge hi => ⟨ge.st, h.ids i ge hi⟩⟩
/-- The rows os lie apart from all that γ has. -/
structure Fresh (w : World) (γ : Gh) (os : List GE) : Prop where
  imm : ∀ b, blks os b → ¬ γ.imm b
  liv : ∀ b, blks os b → ∀ id ge, γ.m id = some ge → ge.st ≠ 0 → ge.blk ≠ some b
  ap : os.Pairwise fun x y => ∀ b, x.blk = some b → y.blk ≠ some b
theorem layC_sim (hh : HRel γ H w) {os : List GE} {x : AV} {v : Value} (ho : OwnC w γ.imm os x v) (hf : Fresh w γ os) :
    ∃ γ', More γ γ' os ∧ HRel γ' (layC H x).2 w ∧ Sim w γ' (layC H x).1 v := by
  unfold OwnC at ho
  split at ho
  · rename_i sz ty es
    obtain ⟨ge, rfl, h⟩ := ho
    have hn : new 0 none H ⟨ty, es, true⟩ = some (H.length, H ++ [some ⟨ty, es, true⟩]) := rfl
    obtain ⟨h0, h1⟩ := new_ent hn
    have hm := hh.none _ h0
    have hids := Gh.add_ids (ge := ge) (.inl hm)
    have hst : ge.st ≠ 0 := by rw [h.st]; decide
    have hfr : ∀ id x b, γ.m id = some x → x.st ≠ 0 → x.blk = some b → ge.blk ≠ some b := fun id x b h1 h2 h3 h4 => hf.liv b (blks_one.2 h4) id x h1 h2 h3
    have look : ∀ i x, (γ.add H.length ge).m i = some x → (i = H.length ∧ x = ge) ∨ (i ≠ H.length ∧ γ.m i = some x) := by
      intro i x hx
      by_cases e : i = H.length
      · subst e; rw [Gh.add_same] at hx; cases hx; exact .inl ⟨rfl, rfl⟩
      · rw [Gh.add_other _ _ _ e] at hx; exact .inr ⟨e, hx⟩
    have hmore : More γ (γ.add H.length ge) [ge] := by
      refine ⟨rfl, fun i x hi => ?_, fun b => ⟨?_, ?_⟩, fun i x b h1 h2 h3 => ?_⟩
      · by_cases e : i = H.length
        · subst e; rw [hm] at hi; cases hi
        · rw [Gh.add_other _ _ _ e]; exact hi
      · rintro ⟨i, x, hi, hs, hb⟩
        rcases look i x hi with ⟨_, rfl⟩ | ⟨_, hi⟩
        · exact .inr (blks_one.2 hb)
        · exact .inl ⟨i, x, hi, hs, hb⟩
      · rintro (⟨i, x, hi, hs, hb⟩ | hb)
        · refine ⟨i, x, ?_, hs, hb⟩
          by_cases e : i = H.length
          · subst e; rw [hm] at hi; cases hi
          · rw [Gh.add_other _ _ _ e]; exact hi
        · exact ⟨H.length, ge, Gh.add_same _ _ _, h.st, blks_one.1 hb⟩
      · rcases look i x h1 with ⟨_, rfl⟩ | ⟨_, hi⟩
        · exact .inr (blks_one.2 h3)
        · exact .inl ⟨i, x, hi, h2, h3⟩
    refine ⟨γ.add H.length ge, hmore, ⟨?_, ?_, ?_, ?_, ?_⟩, ?_⟩
    · intro id hid
      by_cases e : id = H.length
      · subst e; change ent (H ++ _) _ = none at hid; rw [h1, if_pos rfl] at hid; cases hid
      · change ent (H ++ _) _ = none at hid
        rw [h1, if_neg e] at hid; rw [Gh.add_other _ _ _ e]; exact hh.none id hid
    · intro id e' hid
      change ent (H ++ _) _ = some e' at hid
      by_cases e : id = H.length
      · subst e
        rw [h1, if_pos rfl] at hid; cases hid
        exact ⟨ge, Gh.add_same _ _ _, (EntOk.unbare (γ := γ) h.ok).adv (hmore.adv (os := [ge]) w) fun _ _ _ => rfl⟩
      · rw [h1, if_neg e] at hid
        obtain ⟨x, hx, hok⟩ := hh.ok id e' hid
        exact ⟨x, by rw [Gh.add_other _ _ _ e]; exact hx, hok.adv (hmore.adv (os := [ge]) w) fun _ _ _ => rfl⟩
    · intro i j x y b hi hj hx hy hbx hby
      rcases look i x hi with ⟨rfl, rfl⟩ | ⟨i1, hi'⟩ <;> rcases look j y hj with ⟨rfl, rfl⟩ | ⟨j1, hj'⟩
      · rfl
      · exact absurd hbx (hfr j y b hj' hy hby)
      · exact absurd hby (hfr i x b hi' hx hbx)
      · exact hh.inj i j x y b hi' hj' hx hy hbx hby
    · intro b hb
      refine ⟨(hh.imm b hb).1, fun h2 => ?_⟩
      rcases (hmore.own b).1 h2 with h2 | h2
      · exact (hh.imm b hb).2 h2
      · exact hf.imm b h2 hb
    · intro i x b hi hs hb
      rcases look i x hi with ⟨_, rfl⟩ | ⟨_, hi'⟩
      · rw [h.st] at hs; cases hs
      · exact hh.stl i x b hi' hs hb
    · obtain ⟨A, rfl, hA⟩ := h.val
      exact .vec _ sz 0 es.length A ge.C ge (Gh.add_same _ _ _) h.sz (by simpa using h.le) rfl h.no (fun g hg _ => by rw [hA g hg]; simp)
  · rename_i hne
    obtain ⟨rfl, hs⟩ := ho
    have e : layC H x = (x, H) := by
      cases x <;> first | rfl | exact absurd rfl (hne _ _ _)
    rw [e]
    exact ⟨γ, More.nil γ, hh, hs.unbare⟩
theorem Fresh.left {os os' : List GE} (h : Fresh w γ (os ++ os')) : Fresh w γ os :=
  ⟨fun b hb => h.imm b (blks_app.2 (.inl hb)), fun b hb => h.liv b (blks_app.2 (.inl hb)), (List.pairwise_append.1 h.ap).1⟩
theorem Fresh.right {os os' : List GE} (h : Fresh w γ (os ++ os')) (hm : More γ γ' os) : Fresh w γ' os' := by
  obtain ⟨_, h2, h3⟩ := List.pairwise_append.1 h.ap
  refine ⟨fun b hb => by rw [hm.imm]; exact h.imm b (blks_app.2 (.inr hb)), fun b hb i ge hi hs hg => ?_, h2⟩
  rcases hm.liv i ge b hi hs hg with ⟨i', ge', h4, h5, h6⟩ | ⟨x, hx, hxb⟩
  · exact h.liv b (blks_app.2 (.inr hb)) i' ge' h4 h5 h6
  · obtain ⟨y, hy, hyb⟩ := hb
    exact h3 x hx y hy b hxb hyb
theorem OwnRow.mono {ge : GE} {sz : Nat} {ty : TypeId} {es : List AV} {v : Value} (h : OwnRow w I ge sz ty es v) {I' : Nat → Prop} (hI : ∀ b, I b → I' b) : OwnRow w I' ge sz ty es v :=
  { h with ok := h.ok.adv (γ' := bareG I') ⟨Nat.le_refl _, fun b hb => ⟨hI b hb, fun _ => rfl⟩, fun _ _ hi => by cases hi⟩ fun _ _ _ => rfl }
theorem Sim.immMono {x : AV} {v : Value} (h : Sim w (bareG I) x v) {I' : Nat → Prop} (hI : ∀ b, I b → I' b) : Sim w (bareG I') x v :=
  h.adv ⟨Nat.le_refl _, fun b hb => ⟨hI b hb, fun _ => rfl⟩, fun _ _ hi => by cases hi⟩
/-- What is laid one after the other. -/
def LayP (w : World) (I : Nat → Prop) (f : Hp → AV → AV × Hp) (R : List GE → AV → Value → Prop) : Prop :=
  ∀ (γ : Gh) (H : Hp) (os : List GE) (x : AV) (v : Value), γ.imm = I → HRel γ H w → R os x v → Fresh w γ os → ∃ γ', More γ γ' os ∧ HRel γ' (f H x).2 w ∧ Sim w γ' (f H x).1 v
theorem layC_p : LayP w I layC (OwnC w I) := fun γ H os x v hI hh ho hf => by subst hI; exact layC_sim hh ho hf
theorem layL_sim {f : Hp → AV → AV × Hp} {R : List GE → AV → Value → Prop} (hf : LayP w I f R) {os : List GE} {xs : List AV} {vs : List Value} (ho : OwnL R os xs vs) :
    ∀ (γ : Gh) (H : Hp), γ.imm = I → HRel γ H w → Fresh w γ os → ∃ γ', More γ γ' os ∧ HRel γ' (layL f H xs).2 w ∧ (layL f H xs).1.length = vs.length ∧
      ∀ (i : Nat) (x : AV) (v : Value), (layL f H xs).1[i]? = some x → vs[i]? = some v → Sim w γ' x v := by
  induction ho with
  | nil => intro γ H hI hh _; exact ⟨γ, More.nil γ, hh, rfl, fun i x v h => by simp [layL] at h⟩
  | cons h1 h2 ih =>
    rename_i os os' x xs v vs
    intro γ H hI hh hfr
    obtain ⟨γ1, m1, r1, s1⟩ := hf γ H os x v hI hh h1 hfr.left
    obtain ⟨γ2, m2, r2, l2, s2⟩ := ih γ1 (f H x).2 (by rw [m1.imm]; exact hI) r1 (hfr.right m1)
    refine ⟨γ2, m1.trans m2, r2, by simp only [layL, List.length_cons, l2], fun i y u hy hu => ?_⟩
    cases i with
    | zero =>
      simp only [layL, List.getElem?_cons_zero, Option.some.injEq] at hy hu
      subst hy hu
      exact s1.adv (m2.adv w)
    | succ i => exact s2 i y u (by simpa [layL] using hy) (by simpa using hu)
theorem layA_p : LayP w I layA (OwnA w I) := by
  intro γ H os x v hI hh ho hf
  unfold OwnA at ho
  split at ho
  · rename_i xs
    obtain ⟨cs, rfl, ho⟩ := ho
    obtain ⟨γ', h1, h2, h3, h4⟩ := layL_sim layC_p ho γ H hI hh hf
    exact ⟨γ', h1, h2, .agg _ cs (by simpa using h3) fun i x v hx hv => h4 i x v hx (by simpa using hv)⟩
  · rename_i hne
    have e : layA H x = layC H x := by
      cases x <;> first | rfl | exact absurd rfl (hne _)
    rw [e]
    exact layC_p γ H os x v hI hh ho hf
theorem lay_p : LayP w I lay (OwnT w I) := by
  intro γ H os x v hI hh ho hf
  unfold OwnT at ho
  split at ho
  · rename_i xs
    obtain ⟨cs, rfl, ho⟩ := ho
    obtain ⟨γ', h1, h2, h3, h4⟩ := layL_sim layA_p ho γ H hI hh hf
    exact ⟨γ', h1, h2, .tup _ cs (by simpa using h3) fun i x v hx hv => h4 i x v hx (by simpa using hv)⟩
  · rename_i hne
    have e : lay H x = layA H x := by
      cases x <;> first | rfl | exact absurd rfl (hne _)
    rw [e]
    exact layA_p γ H os x v hI hh ho hf

/-! ### Taking -/
/-- I holds the blocks of the rows l. -/
def Holds (γ : Gh) (l : List Nat) (I : Nat → Prop) : Prop := ∀ id ∈ l, ∀ ge b, γ.m id = some ge → ge.st ≠ 0 → ge.blk = some b → I b
theorem mapO_get {f : AV → Option AV} : ∀ {xs ys : List AV}, mapO f xs = some ys → xs.length = ys.length ∧ ∀ (i : Nat) (y : AV), ys[i]? = some y → ∃ x, xs[i]? = some x ∧ f x = some y
  | [], ys, h => by cases h; exact ⟨rfl, fun i y h => by simp at h⟩
  | x :: xs, ys, h => by
    simp only [mapO] at h
    obtain ⟨y, hy, h⟩ := Option.bind_eq_some_iff.1 h
    obtain ⟨ys', hys, rfl⟩ := Option.map_eq_some_iff.1 h
    obtain ⟨h1, h2⟩ := mapO_get hys
    refine ⟨by simp [h1], fun i z hz => ?_⟩
    cases i with
    | zero => simp at hz; subst hz; exact ⟨x, rfl, hy⟩
    | succ i => exact h2 i z (by simpa using hz)
theorem snap_agg {n : Nat} {cs : List AV} {y : AV} (h : snap H (n + 1) (.agg cs) = some y) : ∃ ys, y = .agg ys ∧ mapO (snap H n) cs = some ys := by
  simp only [snap] at h
  obtain ⟨ys, hys, rfl⟩ := Option.map_eq_some_iff.1 h
  exact ⟨ys, rfl, hys⟩
theorem snap_one {n : Nat} {x y : AV} (h : snap H (n + 1) x = some y) (hx : ∀ cs, x ≠ .agg cs) : ∀ cs, y ≠ .agg cs := by
  intro cs e
  subst e
  cases x <;> simp only [snap] at h <;> first
    | (cases h; done)
    | (obtain ⟨_, _, h⟩ := Option.bind_eq_some_iff.1 h; obtain ⟨_, _, h⟩ := Option.map_eq_some_iff.1 h; cases h; done)
    | (obtain ⟨_, _, h⟩ := Option.bind_eq_some_iff.1 h; obtain ⟨_, _, h⟩ := Option.bind_eq_some_iff.1 h; obtain ⟨_, _, h⟩ := Option.map_eq_some_iff.1 h; cases h; done)
    | (obtain ⟨_, _, h⟩ := Option.map_eq_some_iff.1 h; cases h; done)
    | exact absurd rfl (hx _)
/-- The cells of what is read off, one by one. -/
theorem snap_flat {n : Nat} {x y : AV} (h : snap H (n + 1) x = some y) : x.flat.length = y.flat.length ∧ ∀ (j : Nat) (z : AV), y.flat[j]? = some z → ∃ u k, x.flat[j]? = some u ∧ (k = n ∨ k = n + 1) ∧ snap H k u = some z ∧ ((∀ cs, x ≠ .agg cs) → rows H k u = rows H (n + 1) x) ∧ (∀ id ∈ rows H k u, id ∈ rows H (n + 1) x) := by
  by_cases hx : ∃ cs, x = .agg cs
  · obtain ⟨cs, rfl⟩ := hx
    obtain ⟨ys, rfl, hys⟩ := snap_agg h
    obtain ⟨h1, h2⟩ := mapO_get hys
    refine ⟨h1, fun j z hz => ?_⟩
    obtain ⟨u, hu, hs⟩ := h2 j z hz
    refine ⟨u, n, hu, .inl rfl, hs, fun h => absurd rfl (h cs), fun id hid => ?_⟩
    simp only [rows]
    exact List.mem_flatMap.2 ⟨u, List.mem_of_getElem? hu, hid⟩
  · have hx' : ∀ cs, x ≠ .agg cs := fun cs e => hx ⟨cs, e⟩
    rw [flat_one hx', flat_one (snap_one h hx')]
    refine ⟨rfl, fun j z hz => ?_⟩
    cases j with
    | succ j => simp at hz
    | zero =>
      simp at hz; subst hz
      exact ⟨x, n + 1, rfl, .inr rfl, h, fun _ => rfl, fun _ h => h⟩
theorem snap_sim (hh : HRel γ H w) (hI0 : ∀ b, γ.imm b → I b) : ∀ (n : Nat) (x y : AV) (v : Value), Holds γ (rows H n x) I → snap H n x = some y → Sim w γ x v → Sim w (bareG I) y v := by
  intro n
  induction n using Nat.strongRecOn with
  | _ n0 ih0 =>
  cases n0 with
  | zero => intro x y v _ h; cases h
  | succ n =>
    have ih := ih0 n (Nat.lt_succ_self n)
    -- an element of a row, read off
    have elem : ∀ (e : Ent) (ge : GE) (g i : Nat) (x y : AV), EntOk w γ e ge → ge.blk = some g → e.es[i]? = some x → snap H n x = some y → Holds γ (rows H n x) I →
        y.flat.length = ge.sz ∧ ∀ (j : Nat) (z : AV), y.flat[j]? = some z → ∃ u, w.cell? ⟨g, i * ge.sz + j, none⟩ = some u ∧ u.oneCell' = true ∧ Sim w (bareG I) z u := by
      intro e ge g i x y hok hg hx hs hl
      cases n with
      | zero => cases hs
      | succ m =>
        obtain ⟨f1, f2⟩ := snap_flat hs
        have hlie := hok.lies hg hx
        have hlen : x.flat.length = ge.sz := by
          rcases (hok.live (.inr (by intro hn; rw [hn] at hx; simp at hx))).2 with ⟨h1, _⟩ | ⟨g', cs, fr, _, _, _, _, _, h6⟩
          · rw [h1] at hg; cases hg
          · exact (h6 i x hx).1
        refine ⟨by rw [← f1]; exact hlen, fun j z hz => ?_⟩
        obtain ⟨u, k, hu, hk, hsu, _, hsub⟩ := f2 j z hz
        obtain ⟨u', c1, c2, c3⟩ := hlie j u hu
        exact ⟨u', c1, c2, ih0 k (by omega) u z u' (fun id hid => hl id (hsub id hid)) hsu c3⟩
    intro x y v hl h hs
    have adv0 : Adv γ.bare (bareG I) w w := ⟨Nat.le_refl _, fun b hb => ⟨hI0 b hb, fun _ => rfl⟩, fun _ _ hi => by cases hi⟩
    cases hs with
    | undef => cases h
    | bool b => cases h; exact .bool b
    | anyb b => cases h; exact .anyb b
    | int k i => cases h; exact .int k i
    | str s => cases h; exact .str s
    | lit v => cases h; exact .lit v
    | sl0 sz full A cap hc => cases h; exact .sl0 sz full A cap hc
    | sl sz es full b off cap U hp hc hf hb hi hz hcell hs =>
      cases h
      exact .sl sz es full b off cap U hp hc hf hb (hI0 b hi) hz hcell fun i x j y h1 h2 => (hs i x j y h1 h2).adv adv0
    | rptr z off b o U hb hi hcell hs =>
      cases h
      exact .rptr z off b o U hb (hI0 b hi) hcell fun j y h1 => (hs j y h1).adv adv0
    | fn f xs cs hz hs =>
      simp only [snap] at h
      obtain ⟨ys, hys, rfl⟩ := Option.map_eq_some_iff.1 h
      obtain ⟨h1, h2⟩ := mapO_get hys
      refine .fn f ys cs (by omega) fun i y v hy hv => ?_
      obtain ⟨x, hx, hsx⟩ := h2 i y hy
      exact ih x y v (fun id hid => hl id (by simp only [rows]; exact List.mem_flatMap.2 ⟨x, List.mem_of_getElem? hx, hid⟩)) hsx (hs i x v hx hv)
    | agg xs cs hz hs =>
      obtain ⟨ys, rfl, hys⟩ := snap_agg h
      obtain ⟨h1, h2⟩ := mapO_get hys
      refine .agg ys cs (by omega) fun i y v hy hv => ?_
      obtain ⟨x, hx, hsx⟩ := h2 i y hy
      exact ih x y v (fun id hid => hl id (by simp only [rows]; exact List.mem_flatMap.2 ⟨x, List.mem_of_getElem? hx, hid⟩)) hsx (hs i x v hx hv)
    | tup xs cs hz hs =>
      simp only [snap] at h
      obtain ⟨ys, hys, rfl⟩ := Option.map_eq_some_iff.1 h
      obtain ⟨h1, h2⟩ := mapO_get hys
      refine .tup ys cs (by omega) fun i y v hy hv => ?_
      obtain ⟨x, hx, hsx⟩ := h2 i y hy
      exact ih x y v (fun id hid => hl id (by simp only [rows]; exact List.mem_flatMap.2 ⟨x, List.mem_of_getElem? hx, hid⟩)) hsx (hs i x v hx hv)
    | vec id sz off len A cap ge hm hz hlC hcC hN hA =>
      simp only [snap] at h
      obtain ⟨el, hel, h⟩ := Option.bind_eq_some_iff.1 h
      obtain ⟨ys, hys, rfl⟩ := Option.map_eq_some_iff.1 h
      obtain ⟨m1, m2⟩ := mapO_get hys
      have hel' := hel
      simp only [elems] at hel
      obtain ⟨e, he, hel⟩ := Option.bind_eq_some_iff.1 hel
      split at hel
      case isFalse => cases hel
      rename_i hle
      cases hel
      obtain ⟨ge', hm', hok⟩ := hh.ok id e he
      rw [hm] at hm'; cases hm'
      have hyl : ys.length = len := by rw [← m1]; simp; omega
      by_cases h0 : len = 0
      · have : ys = [] := List.eq_nil_of_length_eq_zero (by omega)
        subst this
        subst h0
        exact .sl0 sz false A cap (fun h => by cases h)
      · have hne : e.es ≠ [] := by intro hn; rw [hn] at hle; simp at hle; omega
        have hlive := hok.live (.inr hne)
        have hst : ge.st ≠ 0 := by rw [hlive.1]; split <;> decide
        cases hg : ge.blk with
        | none => have := hN hg; omega
        | some g =>
          have hAg := hA g hg (.inl (by omega))
          subst hAg
          rw [← hyl]
          have key : ∀ (i : Nat) (y : AV), ys[i]? = some y → y.flat.length = sz ∧ ∀ (j : Nat) (z : AV), y.flat[j]? = some z → ∃ u, w.cell? ⟨g, off * sz + i * sz + j, none⟩ = some u ∧ u.oneCell' = true ∧ Sim w (bareG I) z u := by
            intro i y hy
            obtain ⟨x, hx, hsx⟩ := m2 i y hy
            have hmem := List.mem_of_getElem? hx
            rw [List.getElem?_take] at hx
            split at hx
            case isFalse => cases hx
            rw [List.getElem?_drop] at hx
            have := elem e ge g (off + i) x y hok hg hx hsx (fun id' hid => hl id' (by
              simp only [rows]
              refine List.mem_cons_of_mem _ (List.mem_flatMap.2 ⟨x, ?_, hid⟩)
              rw [hel']; exact hmem))
            rw [hz, Nat.add_mul] at this
            exact this
          refine .sl sz ys false g (off * sz) cap (fun i j => (w.cell? ⟨g, off * sz + i * sz + j, none⟩).getD Go.undef) (by omega) (by omega) (fun h => by cases h) (hok.blkLt hst hg) (hl id (by simp [rows]) ge g hm hst hg) ?_ ?_ ?_
          · intro y hy
            obtain ⟨i, hi⟩ := List.mem_iff_getElem?.1 hy
            exact (key i y hi).1
          · intro i y j z hy hz
            obtain ⟨u, h1, h2, h3⟩ := (key i y hy).2 j z hz
            rw [h1]; exact ⟨rfl, h2⟩
          · intro i y j z hy hz
            obtain ⟨u, h1, h2, h3⟩ := (key i y hy).2 j z hz
            simp only [h1, Option.getD_some]; exact h3
    | eptr id i off g ge hm hg =>
      simp only [snap] at h
      obtain ⟨e, he, h⟩ := Option.bind_eq_some_iff.1 h
      obtain ⟨x, hx, h⟩ := Option.bind_eq_some_iff.1 h
      obtain ⟨y', hy', rfl⟩ := Option.map_eq_some_iff.1 h
      obtain ⟨ge', hm', hok⟩ := hh.ok id e he
      rw [hm] at hm'; cases hm'
      have hne : e.es ≠ [] := by intro hn; rw [hn] at hx; simp at hx
      have hlive := hok.live (.inr hne)
      have hst : ge.st ≠ 0 := by rw [hlive.1]; split <;> decide
      have key := elem e ge g i x y' hok hg hx hy' (fun id' hid => hl id' (by
        simp only [rows]
        refine List.mem_cons_of_mem _ (List.mem_flatMap.2 ⟨x, ?_, hid⟩)
        simp [he, hx]))
      refine .rptr y' off g (i * ge.sz) (fun j => (w.cell? ⟨g, i * ge.sz + j, none⟩).getD Go.undef) (hok.blkLt hst hg) (hl id (by simp [rows]) ge g hm hst hg) ?_ ?_
      · intro j z hz
        obtain ⟨u, h1, h2, h3⟩ := key.2 j z hz
        rw [h1]; exact ⟨rfl, h2⟩
      · intro j z hz
        obtain ⟨u, h1, h2, h3⟩ := key.2 j z hz
        simp only [h1, Option.getD_some]; exact h3
end
end Go.Pv
